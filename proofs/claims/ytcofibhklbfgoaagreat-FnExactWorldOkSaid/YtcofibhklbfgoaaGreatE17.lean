/- The engine, part 17: pure contracts, lifted into any heap. -/
import Derived.Test.YtcofibhklbfgoaaGreatE16
namespace Go.Proofs.YtcofibhklbfgoaaGreat.Eng
open Go Go.RowKit
set_option linter.unusedSimpArgs false
set_option linter.unusedVariables false

def F6:AV→Bool
 | .t fr ty _=>fr||ty.flat
 | .raw _=>true
 | .all _ _=>true
 | .arr _ _ _ _=>true
 | _=>false
def A0J:AV→Bool
 | .agg cs=>cs.all F6
 | a=>F6 a
def A1a:AV→Bool
 | .tup cs=>cs.all A0J
 | a=>A0J a
def AObj.fresh:AObj→Bool
 | .rows _ fr e _=>fr||e.flat
 | _=>false

def AV.shift1 (k:Nat):AV→AV
 | .all id sz=>.all (k+id) sz
 | .arr id sz lo n=>.arr (k+id) sz lo n
 | a=>a
def AV.shift2 (k:Nat):AV→AV
 | .agg cs=>.agg (cs.map (AV.shift1 k))
 | a=>a.shift1 k
def AV.shift (k:Nat):AV→AV
 | .tup cs=>.tup (cs.map (AV.shift2 k))
 | a=>a.shift2 k

abbrev PSumm:=List AV→Option (AV×List AObj×Bool)

def lift (s:PSumm):Summ:=fun args H =>
 match s (args.map (view H)) with
 | some (r,Hn,b)=>if A1a r&&Hn.all AObj.fresh then some (r.shift H.length,H++Hn,[],b) else none
 | none=>none

def A5L (w:World):Bool→Nat→Prop:=fun f b=>f=false∧b<w.heap.size
def F3 (w:World):Env:={ ι:=fun _=>0,hv:=fun _=>A4M,ln:=fun _=>0,Z:=A5L w }

def PContract (P:Program) (f:FuncId) (s:PSumm):Prop :=
 ∀ args r Hn,s args=some (r,Hn,true)→A1a r=true→Hn.all AObj.fresh=true→∀ w (vs:Array Value),vs.size=args.length→(∀ i c,args[i]? = some c→AVR (F3 w) 0 w c (vs.getD i undef)) →
  Calls P f vs w fun e w'=>∃ v η', e=.returned v∧Inv (·<w.heap.size) w η' Hn w'∧AVR η' Hn.length w' r v

section
variable {P:Program} {N:Nat→Prop} {w0:World} {η:Env} {w:World}

theorem Inv.empty (w:World):Inv (·<w.heap.size) w (F3 w) [] w:=by
 refine ⟨fun _ h=>h,⟨rfl,rfl,rfl,Nat.le_refl _,fun _ _=>rfl⟩,fun f b h=>h.2,fun b h=>⟨rfl,h.2⟩,fun b h=>absurd h.1 (by simp),fun id=>⟨none,0,0,rfl⟩,fun id o h=>by simp at h,fun id o h=>by simp at h,fun id id' o o' h=>by simp at h⟩

theorem A2H {H:List AObj} (I:Inv N w0 η H w) {fr:Bool} {ty:Ty} {x:ty.den} {c:Nat→Option Value} (h:Lay (η.Z fr) w ty x c):Lay ((F3 w).Z false) w ty x c :=
 Lay.mono (fun b hb=>⟨rfl,I.zlt _ _ hb⟩) (fun _ _=>rfl) ty x c h

theorem E5 {H:List AObj} (I:Inv N w0 η H w) {x:AV} {v:Value} (r:AVR η H.length w x v):AVR (F3 w) 0 w (A44 H x) v:=by
 simp only [A44]
 split
 ·rename_i fr ty y hv
  have one:ty.cells=1→Lay (η.Z fr) w ty y (fun j=>if j=0 then some v else none)→AVR (F3 w) 0 w (.t ty.flat ty y) v:=fun h1 hl=>.t h1 (by
   cases hf:ty.flat with
   | true=>exact Lay.of_flat _ _ _ hf hl
   | false=>exact A2H I hl)
  cases r with
  | t h1 hl =>
   simp only [B2,AV.t.injEq] at hv
   obtain ⟨rfl,rfl,hv⟩:=hv
   obtain rfl:=eq_of_heq hv
   exact one h1 hl
  | all hid =>
   have hty:∃ e,ty=.sl e:=by
    simp only [B2] at hv
    split at hv
    ·split at hv
     ·simp only [AV.t.injEq] at hv;exact ⟨_,hv.2.1.symm⟩
     ·cases hv
    ·cases hv
   obtain ⟨e,rfl⟩:=hty
   obtain ⟨A,c,news,e1,e2,hr⟩:=A0x I (.all hid) hv
   refine .t rfl ⟨A,c,by simp [e1],e2,?_⟩
   by_cases hl:y=[]
   ·exact .inl hl
   ·right
    cases A with
    | none=>exact absurd (hr.some_ rfl) hl
    | some ad =>
     have hlay:∀ i x,y[i]? = some x→Lay ((F3 w).Z false) w e x (fun j=>w.cell? (ad.add (i*e.cells+j))):=by
      intro i x hx
      have l1:=A2H I (hr.lay i x hx)
      refine Lay.congr e x _ _ (fun j hj=>?_) l1
      have hi:=(List.getElem?_eq_some_iff.1 hx).1
      have:(i+1)*e.cells≤y.length*e.cells:=Nat.mul_le_mul_right _ hi
      rw [Nat.add_mul,Nat.one_mul] at this
      have hlt:i*e.cells+j<news.length:=by rw [hr.len];omega
      rw [hr.at_ ad rfl _ _ (List.getElem?_eq_getElem hlt),List.getElem?_eq_getElem hlt]
     refine ⟨ad,rfl,⟨rfl,?_⟩,hlay⟩
     obtain ⟨x0,hx0⟩:∃ x0,y[0]? = some x0:=by cases y with
      | nil=>exact absurd rfl hl
      | cons a _=>exact ⟨a,rfl⟩
     obtain ⟨u,hu,_⟩:=(hlay 0 x0 hx0).got e x0 _ 0 e.cells_pos
     have:=World.block_lt_of_cell? w _ hu
     rwa [A1o] at this
  | arr hid hn hlo hA =>
   have hty:∃ e,ty=.sl e:=by
    simp only [B2] at hv
    split at hv
    ·split at hv
     ·simp only [AV.t.injEq] at hv;exact ⟨_,hv.2.1.symm⟩
     ·cases hv
    ·cases hv
   obtain ⟨e,rfl⟩:=hty
   obtain ⟨A,c,news,e1,e2,hr⟩:=A0x I (.arr hid hn hlo hA) hv
   refine .t rfl ⟨A,c,by simp [e1],e2,?_⟩
   by_cases hl:y=[]
   ·exact .inl hl
   ·right
    cases A with
    | none=>exact absurd (hr.some_ rfl) hl
    | some ad =>
     have hlay:∀ i x,y[i]? = some x→Lay ((F3 w).Z false) w e x (fun j=>w.cell? (ad.add (i*e.cells+j))):=by
      intro i x hx
      have l1:=A2H I (hr.lay i x hx)
      refine Lay.congr e x _ _ (fun j hj=>?_) l1
      have hi:=(List.getElem?_eq_some_iff.1 hx).1
      have:(i+1)*e.cells≤y.length*e.cells:=Nat.mul_le_mul_right _ hi
      rw [Nat.add_mul,Nat.one_mul] at this
      have hlt:i*e.cells+j<news.length:=by rw [hr.len];omega
      rw [hr.at_ ad rfl _ _ (List.getElem?_eq_getElem hlt),List.getElem?_eq_getElem hlt]
     refine ⟨ad,rfl,⟨rfl,?_⟩,hlay⟩
     obtain ⟨x0,hx0⟩:∃ x0,y[0]? = some x0:=by cases y with
      | nil=>exact absurd rfl hl
      | cons a _=>exact ⟨a,rfl⟩
     obtain ⟨u,hu,_⟩:=(hlay 0 x0 hx0).got e x0 _ 0 e.cells_pos
     have:=World.block_lt_of_cell? w _ hu
     rwa [A1o] at this
  | pre hid hvv hn hc =>
   have hty:∃ e,ty=.sl e:=by
    simp only [B2] at hv
    split at hv
    ·split at hv
     ·simp only [AV.t.injEq] at hv;exact ⟨_,hv.2.1.symm⟩
     ·cases hv
    ·cases hv
   obtain ⟨e,rfl⟩:=hty
   obtain ⟨A,c,news,e1,e2,hr⟩:=A0x I (.pre hid hvv hn hc) hv
   refine .t rfl ⟨A,c,by simp [e1],e2,?_⟩
   by_cases hl:y=[]
   ·exact .inl hl
   ·right
    cases A with
    | none=>exact absurd (hr.some_ rfl) hl
    | some ad =>
     have hlay:∀ i x,y[i]? = some x→Lay ((F3 w).Z false) w e x (fun j=>w.cell? (ad.add (i*e.cells+j))):=by
      intro i x hx
      have l1:=A2H I (hr.lay i x hx)
      refine Lay.congr e x _ _ (fun j hj=>?_) l1
      have hi:=(List.getElem?_eq_some_iff.1 hx).1
      have:(i+1)*e.cells≤y.length*e.cells:=Nat.mul_le_mul_right _ hi
      rw [Nat.add_mul,Nat.one_mul] at this
      have hlt:i*e.cells+j<news.length:=by rw [hr.len];omega
      rw [hr.at_ ad rfl _ _ (List.getElem?_eq_getElem hlt),List.getElem?_eq_getElem hlt]
     refine ⟨ad,rfl,⟨rfl,?_⟩,hlay⟩
     obtain ⟨x0,hx0⟩:∃ x0,y[0]? = some x0:=by cases y with
      | nil=>exact absurd rfl hl
      | cons a _=>exact ⟨a,rfl⟩
     obtain ⟨u,hu,_⟩:=(hlay 0 x0 hx0).got e x0 _ 0 e.cells_pos
     have:=World.block_lt_of_cell? w _ hu
     rwa [A1o] at this
  | _=>simp [B2] at hv
 ·rename_i u hv
  cases r with
  | raw v=>simp only [B2,AV.raw.injEq] at hv;subst hv;exact .raw _
  | all hid=>simp only [B2] at hv;split at hv<;>(try split at hv)<;>cases hv
  | arr=>simp only [B2] at hv;split at hv<;>(try split at hv)<;>cases hv
  | pre=>simp only [B2] at hv;split at hv<;>(try split at hv)<;>cases hv
  | _=>simp [B2] at hv
 ·rename_i f hv
  cases r with
  | fn hsz hcs =>
   simp only [B2,AV.fn.injEq] at hv
   obtain ⟨rfl,rfl⟩:=hv
   exact .fn hsz (fun i c hc=>by simp at hc)
  | all hid=>simp only [B2] at hv;split at hv<;>(try split at hv)<;>cases hv
  | arr=>simp only [B2] at hv;split at hv<;>(try split at hv)<;>cases hv
  | pre=>simp only [B2] at hv;split at hv<;>(try split at hv)<;>cases hv
  | _=>simp [B2] at hv
 ·exact .junk _

theorem A5Y {H:List AObj} (I:Inv N w0 η H w) {x:AV} {v:Value} (r:AVR η H.length w x v):AVR (F3 w) 0 w (view H x) v:=by
 cases r with
 | agg hsz hc =>
  refine .agg (by simpa using hsz) (fun i c hi=>?_)
  obtain ⟨y,hy,rfl⟩:=A1 hi
  exact E5 I (hc i y hy)
 | t h1 hl=>exact E5 I (.t h1 hl)
 | raw=>exact E5 I (.raw _)
 | all hid=>exact E5 I (.all hid)
 | arr hid hn hlo hA=>exact E5 I (.arr hid hn hlo hA)
 | pre hid hv hn hc=>exact E5 I (.pre hid hv hn hc)
 | ptr hid hr=>exact E5 I (.ptr hid hr)
 | rop hr hz hl=>exact E5 I (.rop hr hz hl)
 | tup hsz hc=>exact E5 I (.tup hsz hc)
 | fn hsz hc=>exact E5 I (.fn hsz hc)
 | junk=>exact E5 I (.junk _)

def Env.join (η:Env) (k:Nat) (η':Env):Env :=
 { ι:=fun i=>if i<k then η.ι i else η'.ι (i - k),hv:=fun i=>if i<k then η.hv i else η'.hv (i - k),ln:=fun i=>if i<k then η.ln i else η'.ln (i - k),Z:=fun f b=>η.Z f b∨η'.Z true b }

theorem F4 {H G:List AObj} {id:Nat} {x:AObj} (h:(H++G)[id]? = some x):(id<H.length∧H[id]? = some x)∨(H.length≤id∧G[id - H.length]? = some x):=by
 by_cases hlt:id<H.length
 ·rw [List.getElem?_append_left hlt] at h;exact .inl ⟨hlt,h⟩
 ·rw [List.getElem?_append_right (by omega)] at h;exact .inr ⟨by omega,h⟩

theorem Inv.join {H Hn:List AObj} {η':Env} {w':World} (I:Inv N w0 η H w) (J:Inv (·<w.heap.size) w η' Hn w') (hf:Hn.all AObj.fresh=true) :
  Inv N w0 (η.join H.length η') (H++Hn) w'∧Ext NoK η H.length w (η.join H.length η') (H++Hn).length w':=by
 have hb:Below w.heap.size w w':=⟨J.fr.os,J.fr.tape,J.fr.output,J.fr.size,fun k hk=>J.fr.block k hk⟩
 obtain ⟨I1,x1⟩:=I.grow hb
 have x:Ext NoK η H.length w (η.join H.length η') (H++Hn).length w':=by
  refine ⟨fun id hid _=>⟨by simp;omega,?_,?_,?_⟩,fun f b h=>.inl h,fun f b h=>hb.block b (I.zlt f b h),fun _ h=>h.imp (fun h=>h) .inr⟩<;>simp [Env.join,hid]
 have xw:Ext NoK η H.length w' (η.join H.length η') (H++Hn).length w':=by
  refine ⟨fun id hid _=>⟨by simp;omega,?_,?_,?_⟩,fun f b h=>.inl h,fun f b h=>rfl,fun _ h=>h.imp (fun h=>h) .inr⟩<;>simp [Env.join,hid]
 have znew':∀ b,η'.Z true b→w.heap.size≤b:=fun b h=>Nat.le_of_not_lt (J.znew b h)
 have eo:∀ i,i<H.length→(η.join H.length η').ι i=η.ι i∧(η.join H.length η').hv i=η.hv i∧(η.join H.length η').ln i=η.ln i:=fun i hi=>by simp [Env.join,hi]
 have en:∀ i,H.length≤i→(η.join H.length η').ι i=η'.ι (i - H.length)∧(η.join H.length η').hv i=η'.hv (i - H.length)∧(η.join H.length η').ln i=η'.ln (i - H.length):=fun i hi=>by simp [Env.join,Nat.not_lt.2 hi]
 have fresh:∀ (k:Nat) (o:AObj),Hn[k]? = some o→∃ (E:TypeId) (fr:Bool) (e:Ty) (l:List e.den),o=AObj.rows E fr e l∧(fr=true∨e.flat=true):=by
  intro k o ho
  have:=List.all_eq_true.1 hf o (List.mem_of_getElem? ho)
  cases o with
  | rows E fr e l=>simp only [AObj.fresh,Bool.or_eq_true] at this;exact ⟨E,fr,e,l,rfl,this⟩
  | _=>simp [AObj.fresh] at this
 have matn:∀ (k:Nat) (o:AObj),H.length≤k→Hn[k - H.length]? = some o→(o.mat (η.join H.length η') k↔o.mat η' (k - H.length)):=by
  intro k o hk ho
  obtain ⟨E,fr,e,l,rfl,_⟩:=fresh _ o ho
  simp only [AObj.mat,(en k hk).2.1]
 refine ⟨⟨I.nlt,I1.fr,?_,?_,?_,fun id=>?_,fun id o ho=>?_,fun id o ho hm=>?_,fun i j o p ho hp mo mp he=>?_⟩,x⟩
 ·rintro f b (h | h)
  ·exact I1.zlt f b h
  ·exact J.zlt true b h
 ·rintro b (h | h)
  ·exact .inl (I.zsub b h)
  ·exact .inr h
 ·rintro b (h | h)
  ·exact I.znew b h
  ·exact fun hn=>by have:=znew' b h;have:=I.lt hn;omega
 ·by_cases hid:id<H.length
  ·rw [(eo id hid).2.1];exact I.hvs id
  ·rw [(en id (by omega)).2.1];exact J.hvs _
 ·rcases F4 ho with ⟨hlt,ho⟩ | ⟨hge,ho⟩
  ·exact (I1.obj id o ho).mono xw hlt (fun _=>rfl)
  ·obtain ⟨E,fr,e,l,rfl,hfe⟩:=fresh _ o ho
   obtain ⟨q1,q2⟩:=J.obj _ _ ho
   obtain ⟨n1,n2,n3⟩:=en id hge
   refine ⟨by rw [n3];exact q1,?_⟩
   rcases q2 with ⟨q2,q3⟩ | ⟨c,cap,q2,q3,q4,q5,q6,q7⟩
   ·exact .inl ⟨by rw [n2];exact q2,q3⟩
   ·refine .inr ⟨c,cap,by rw [n1,n2];exact q2,by rw [n1];exact q3,q4,q5,q6,fun i y hy=>?_⟩
    rcases hfe with rfl | hflat
    ·exact Lay.mono (fun b hb=>.inr hb) (fun _ _=>rfl) e y _ (q7 i y hy)
    ·exact Lay.of_flat e y _ hflat (q7 i y hy)
 ·rcases F4 ho with ⟨hlt,ho⟩ | ⟨hge,ho⟩
  ·obtain ⟨a1,a2,a3⟩:=I1.own id o ho ((D1 xw hlt).1 hm)
   have:=(I.own id o ho ((D1 xw hlt).1 hm)).2.2
   rw [(eo id hlt).1]
   exact ⟨a1,fun h=>h.elim a2 (fun h=>by have:=znew' _ h;omega),a3⟩
  ·obtain ⟨a1,a2,a3⟩:=J.own _ o ho ((matn id o hge ho).1 hm)
   have hge':w.heap.size≤η'.ι (id - H.length):=Nat.le_of_not_lt a1
   rw [(en id hge).1]
   exact ⟨fun hn=>by have:=I.lt hn;omega,fun h=>h.elim (fun h=>by have:=I.zlt _ _ h;omega) (fun h=>a2 (J.zsub _ h)),a3⟩
 ·rcases F4 ho with ⟨hlt,ho⟩ | ⟨hge,ho⟩<;>rcases F4 hp with ⟨hlt', hp⟩ | ⟨hge', hp⟩
  ·rw [(eo i hlt).1,(eo j hlt').1] at he
   exact I.inj i j o p ho hp ((D1 xw hlt).1 mo) ((D1 xw hlt').1 mp) he
  ·rw [(eo i hlt).1,(en j hge').1] at he
   have:=(I.own i o ho ((D1 xw hlt).1 mo)).2.2
   have:=Nat.le_of_not_lt (J.own _ p hp ((matn j p hge' hp).1 mp)).1
   omega
  ·rw [(en i hge).1,(eo j hlt').1] at he
   have:=(I.own j p hp ((D1 xw hlt').1 mp)).2.2
   have:=Nat.le_of_not_lt (J.own _ o ho ((matn i o hge ho).1 mo)).1
   omega
  ·rw [(en i hge).1,(en j hge').1] at he
   have:=J.inj _ _ o p ho hp ((matn i o hge ho).1 mo) ((matn j p hge' hp).1 mp) he
   omega

theorem A1t {k n:Nat} {η':Env} {w':World} {x:AV} {v:Value} (hf:F6 x=true) (r:AVR η' n w' x v):AVR (η.join k η') (k+n) w' (x.shift1 k) v:=by
 cases r with
 | t h1 hl =>
  simp only [F6,Bool.or_eq_true] at hf
  refine .t h1 ?_
  rcases hf with rfl | hf
  ·exact Lay.mono (fun b hb=>.inr hb) (fun _ _=>rfl) _ _ _ hl
  ·exact Lay.of_flat _ _ _ hf hl
 | raw=>exact .raw _
 | @all id sz hid =>
  have e:(η.join k η').hv (k+id)=η'.hv id:=by simp [Env.join,show ¬ (k+id<k) by omega,show k+id - k=id by omega]
  rw [← e]
  exact .all (by omega)
 | @arr id sz lo n cap A hid hn hlo hA =>
  have e1:(η.join k η').ln (k+id)=η'.ln id:=by simp [Env.join,show ¬ (k+id<k) by omega,show k+id - k=id by omega]
  have e2:(η.join k η').ι (k+id)=η'.ι id:=by simp [Env.join,show ¬ (k+id<k) by omega,show k+id - k=id by omega]
  exact .arr (by omega) hn (by rw [e1];exact hlo) (by rw [e2];exact hA)
 | _=>simp [F6] at hf

theorem A06 {k n:Nat} {η':Env} {w':World} {x:AV} {v:Value} (hf:A0J x=true) (r:AVR η' n w' x v):AVR (η.join k η') (k+n) w' (x.shift2 k) v:=by
 cases r with
 | agg hsz hc =>
  refine .agg (by simpa using hsz) (fun i c hi=>?_)
  obtain ⟨y,hy,rfl⟩:=A1 hi
  exact A1t (List.all_eq_true.1 hf y (List.mem_of_getElem? hy)) (hc i y hy)
 | @t fr ty y _ h1 hl=>exact A1t (x:=.t fr ty y) hf (.t h1 hl)
 | raw=>exact .raw _
 | @all id sz hid=>exact A1t (x:=.all id sz) hf (.all hid)
 | @arr id sz lo n cap A hid hn hlo hA=>exact A1t (x:=.arr id sz lo n) hf (.arr hid hn hlo hA)
 | _=>simp [A0J,F6] at hf

theorem A5t {k n:Nat} {η':Env} {w':World} {x:AV} {v:Value} (hf:A1a x=true) (r:AVR η' n w' x v):AVR (η.join k η') (k+n) w' (x.shift k) v:=by
 cases r with
 | tup hsz hc =>
  refine .tup (by simpa using hsz) (fun i c hi=>?_)
  obtain ⟨y,hy,rfl⟩:=A1 hi
  exact A06 (List.all_eq_true.1 hf y (List.mem_of_getElem? hy)) (hc i y hy)
 | @agg cs _ hsz hc=>exact A06 (x:=.agg cs) hf (.agg hsz hc)
 | @t fr ty y _ h1 hl=>exact A06 (x:=.t fr ty y) hf (.t h1 hl)
 | raw=>exact .raw _
 | @all id sz hid=>exact A06 (x:=.all id sz) hf (.all hid)
 | @arr id sz lo n cap A hid hn hlo hA=>exact A06 (x:=.arr id sz lo n) hf (.arr hid hn hlo hA)
 | _=>simp [A1a,A0J,F6] at hf

theorem PContract.lift {f:FuncId} {s:PSumm} (h:PContract P f s):MContract P f (Eng.lift s):=by
 intro args H r H' Kf hsm N w0 η w vs I hl hr
 simp only [Eng.lift] at hsm
 split at hsm
 ·rename_i r0 Hn b hs
  split at hsm
  ·rename_i hf
   simp only [Bool.and_eq_true] at hf
   simp only [Option.some.injEq,Prod.mk.injEq] at hsm
   obtain ⟨rfl,rfl,rfl,rfl⟩:=hsm
   refine (h _ r0 Hn hs hf.1 hf.2 w vs (by simpa using hl) (fun i c hc=>?_)).mono ?_
   ·obtain ⟨y,hy,rfl⟩:=A1 hc
    exact A5Y I (hr i y hy)
   ·rintro e w' ⟨v,η', rfl,J,ra⟩
    obtain ⟨I', x⟩:=I.join J hf.2
    exact ⟨v,_,rfl,I', x,by rw [List.length_append];exact A5t hf.1 ra⟩
  ·cases hsm
 ·cases hsm
theorem A20 (s:PSumm):A1g (Eng.lift s):=by
 intro args H r H' ks b h
 simp only [Eng.lift] at h
 split at h
 ·split at h
  ·simp only [Option.some.injEq,Prod.mk.injEq] at h
   obtain ⟨_,rfl,rfl,_⟩:=h
   exact ⟨fun k hk=>by simp at hk,by simp,fun id o ho _ _ _=>by rw [List.getElem?_append_left (List.getElem?_eq_some_iff.1 ho).1];exact ho⟩
  ·cases h
 ·cases h
end
end Go.Proofs.YtcofibhklbfgoaaGreat.Eng
