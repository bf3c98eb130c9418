/- The engine, part 17: pure contracts, lifted into any heap. -/
import Derived.Test.YtccelbeahdcooaaE16
namespace Go.Proofs.Ytccelbeahdcooaa.Eng
open Go Go.RowKit
set_option linter.unusedSimpArgs false
set_option linter.unusedVariables false

def freshAV1:AV→Bool
 | .t fr ty _=>fr||ty.flat
 | .raw _=>true
 | .all _ _=>true
 | .arr _ _ _ _=>true
 | .ptr _ _ _ _=>true
 | _=>false
def freshAV2:AV→Bool
 | .agg cs=>cs.all freshAV1
 | a=>freshAV1 a
def freshAV:AV→Bool
 | .tup cs=>cs.all freshAV2
 | a=>freshAV2 a
def AObj.fresh:AObj→Bool
 | .rows _ fr e _=>fr||e.flat
 | .deep ..=>true
 | _=>false

def AV.shift1 (k:Nat):AV→AV
 | .all id sz=>.all (k+id) sz
 | .arr id sz lo n=>.arr (k+id) sz lo n
 | .ptr id row sz sub=>.ptr (k+id) row sz sub
 | a=>a
def AV.shift2 (k:Nat):AV→AV
 | .agg cs=>.agg (cs.map (AV.shift1 k))
 | a=>a.shift1 k
def AV.shift (k:Nat):AV→AV
 | .tup cs=>.tup (cs.map (AV.shift2 k))
 | a=>a.shift2 k

abbrev PSumm:=List AV→Option (AV×List AObj×Bool)

def lift (s:PSumm):Summ:=fun args H =>
 match s (args.map (view H)) with
 | some (r,Hn,b)=>if freshAV r&&Hn.all AObj.fresh then some (r.shift H.length,H++Hn,[],b) else none
 | none=>none

def oldZ (w:World):Bool→Nat→Prop:=fun f b=>f=false∧b<w.heap.size
def envOf (w:World):Env:={ ι:=fun _=>0,hv:=fun _=>nilV,ln:=fun _=>0,Z:=oldZ w,nv:=fun _ _ _=>nilV,O:=fun _=>none }

def PContract (P:Program) (f:FuncId) (s:PSumm):Prop :=
 ∀ args r Hn,s args=some (r,Hn,true)→freshAV r=true→Hn.all AObj.fresh=true→∀ w (vs:Array Value),vs.size=args.length→(∀ i c,args[i]? = some c→AVR (envOf w) 0 w c (vs.getD i undef)) →
  Calls P f vs w fun e w'=>∃ v η', e=.returned v∧Inv (·<w.heap.size) w η' Hn w'∧AVR η' Hn.length w' r v

section
variable {P:Program} {N:Nat→Prop} {w0:World} {η:Env} {w:World}

theorem Inv.empty (w:World):Inv (·<w.heap.size) w (envOf w) [] w:=by
 refine ⟨fun _ h=>h,⟨rfl,rfl,rfl,Nat.le_refl _,fun _ _=>rfl⟩,fun f b h=>h.2,fun b h=>⟨rfl,h.2⟩,fun b h=>absurd h.1 (by simp),fun id=>⟨none,0,0,rfl⟩,fun id o h=>by simp at h,fun id o h=>by simp at h,fun id id' o o' h=>by simp at h,fun b k h=>(by cases h),fun _ _ _=>⟨none,0,0,rfl⟩⟩

theorem lay_old {H:List AObj} (I:Inv N w0 η H w) {fr:Bool} {ty:Ty} {x:ty.den} {c:Nat→Option Value} (h:Lay (η.Z fr) w ty x c):Lay ((envOf w).Z false) w ty x c :=
 Lay.mono (fun b hb=>⟨rfl,I.zlt _ _ hb⟩) (fun _ _=>rfl) ty x c h

theorem pureO_rel {H:List AObj} (I:Inv N w0 η H w) {x:AV} {v:Value} (r:AVR η H.length w x v):AVR (envOf w) 0 w (pureO H x) v:=by
 simp only [pureO]
 split
 ·rename_i fr ty y hv
  have one:ty.cells=1→Lay (η.Z fr) w ty y (fun j=>if j=0 then some v else none)→AVR (envOf w) 0 w (.t ty.flat ty y) v:=fun h1 hl=>.t h1 (by
   cases hf:ty.flat with
   | true=>exact Lay.of_flat _ _ _ hf hl
   | false=>exact lay_old I hl)
  cases r with
  | t h1 hl =>
   simp only [view1,AV.t.injEq] at hv
   obtain ⟨rfl,rfl,hv⟩:=hv
   obtain rfl:=eq_of_heq hv
   exact one h1 hl
  | all hid =>
   have hty:∃ e,ty=.sl e:=by
    simp only [view1] at hv
    split at hv
    ·split at hv
     ·simp only [AV.t.injEq] at hv;exact ⟨_,hv.2.1.symm⟩
     ·cases hv
    ·cases hv
   obtain ⟨e,rfl⟩:=hty
   obtain ⟨A,c,news,e1,e2,hr⟩:=view1_reads I (.all hid) hv
   refine .t rfl ⟨A,c,by simp [e1],e2,?_⟩
   by_cases hl:y=[]
   ·exact .inl hl
   ·right
    cases A with
    | none=>exact absurd (hr.some_ rfl) hl
    | some ad =>
     have hlay:∀ i x,y[i]? = some x→Lay ((envOf w).Z false) w e x (fun j=>w.cell? (ad.add (i*e.cells+j))):=by
      intro i x hx
      have l1:=lay_old I (hr.lay i x hx)
      refine Lay.congr e x _ _ (fun j hj=>?_) l1
      have hi:=(List.getElem?_eq_some_iff.1 hx).1
      have:(i+1)*e.cells≤y.length*e.cells:=Nat.mul_le_mul_right _ hi
      rw [Nat.add_mul,Nat.one_mul] at this
      have hlt:i*e.cells+j<news.length:=by rw [hr.len];omega
      rw [hr.at_ ad rfl _ _ (List.getElem?_eq_getElem hlt),List.getElem?_eq_getElem hlt]
     refine ⟨ad,rfl,⟨rfl,?_⟩,hlay⟩
     obtain ⟨x0,hx0⟩:∃ x0,y[0]? = some x0:=by cases y with
      | nil=>exact absurd rfl hl
      | cons a _=>exact ⟨a,rfl⟩
     obtain ⟨u,hu,_⟩:=(hlay 0 x0 hx0).got e x0 _ 0 e.cells_pos
     have:=World.block_lt_of_cell? w _ hu
     rwa [addr_block] at this
  | arr hid hn hlo hA =>
   have hty:∃ e,ty=.sl e:=by
    simp only [view1] at hv
    split at hv
    ·split at hv
     ·simp only [AV.t.injEq] at hv;exact ⟨_,hv.2.1.symm⟩
     ·cases hv
    ·cases hv
   obtain ⟨e,rfl⟩:=hty
   obtain ⟨A,c,news,e1,e2,hr⟩:=view1_reads I (.arr hid hn hlo hA) hv
   refine .t rfl ⟨A,c,by simp [e1],e2,?_⟩
   by_cases hl:y=[]
   ·exact .inl hl
   ·right
    cases A with
    | none=>exact absurd (hr.some_ rfl) hl
    | some ad =>
     have hlay:∀ i x,y[i]? = some x→Lay ((envOf w).Z false) w e x (fun j=>w.cell? (ad.add (i*e.cells+j))):=by
      intro i x hx
      have l1:=lay_old I (hr.lay i x hx)
      refine Lay.congr e x _ _ (fun j hj=>?_) l1
      have hi:=(List.getElem?_eq_some_iff.1 hx).1
      have:(i+1)*e.cells≤y.length*e.cells:=Nat.mul_le_mul_right _ hi
      rw [Nat.add_mul,Nat.one_mul] at this
      have hlt:i*e.cells+j<news.length:=by rw [hr.len];omega
      rw [hr.at_ ad rfl _ _ (List.getElem?_eq_getElem hlt),List.getElem?_eq_getElem hlt]
     refine ⟨ad,rfl,⟨rfl,?_⟩,hlay⟩
     obtain ⟨x0,hx0⟩:∃ x0,y[0]? = some x0:=by cases y with
      | nil=>exact absurd rfl hl
      | cons a _=>exact ⟨a,rfl⟩
     obtain ⟨u,hu,_⟩:=(hlay 0 x0 hx0).got e x0 _ 0 e.cells_pos
     have:=World.block_lt_of_cell? w _ hu
     rwa [addr_block] at this
  | pre hid hvv hn hc =>
   have hty:∃ e,ty=.sl e:=by
    simp only [view1] at hv
    split at hv
    ·split at hv
     ·simp only [AV.t.injEq] at hv;exact ⟨_,hv.2.1.symm⟩
     ·cases hv
    ·cases hv
   obtain ⟨e,rfl⟩:=hty
   obtain ⟨A,c,news,e1,e2,hr⟩:=view1_reads I (.pre hid hvv hn hc) hv
   refine .t rfl ⟨A,c,by simp [e1],e2,?_⟩
   by_cases hl:y=[]
   ·exact .inl hl
   ·right
    cases A with
    | none=>exact absurd (hr.some_ rfl) hl
    | some ad =>
     have hlay:∀ i x,y[i]? = some x→Lay ((envOf w).Z false) w e x (fun j=>w.cell? (ad.add (i*e.cells+j))):=by
      intro i x hx
      have l1:=lay_old I (hr.lay i x hx)
      refine Lay.congr e x _ _ (fun j hj=>?_) l1
      have hi:=(List.getElem?_eq_some_iff.1 hx).1
      have:(i+1)*e.cells≤y.length*e.cells:=Nat.mul_le_mul_right _ hi
      rw [Nat.add_mul,Nat.one_mul] at this
      have hlt:i*e.cells+j<news.length:=by rw [hr.len];omega
      rw [hr.at_ ad rfl _ _ (List.getElem?_eq_getElem hlt),List.getElem?_eq_getElem hlt]
     refine ⟨ad,rfl,⟨rfl,?_⟩,hlay⟩
     obtain ⟨x0,hx0⟩:∃ x0,y[0]? = some x0:=by cases y with
      | nil=>exact absurd rfl hl
      | cons a _=>exact ⟨a,rfl⟩
     obtain ⟨u,hu,_⟩:=(hlay 0 x0 hx0).got e x0 _ 0 e.cells_pos
     have:=World.block_lt_of_cell? w _ hu
     rwa [addr_block] at this
  | _=>simp [view1] at hv
 ·rename_i u hv
  cases r with
  | raw v=>simp only [view1,AV.raw.injEq] at hv;subst hv;exact .raw _
  | all hid=>simp only [view1] at hv;split at hv<;>(try split at hv)<;>cases hv
  | arr=>simp only [view1] at hv;split at hv<;>(try split at hv)<;>cases hv
  | pre=>simp only [view1] at hv;split at hv<;>(try split at hv)<;>cases hv
  | _=>simp [view1] at hv
 ·rename_i f hv
  cases r with
  | fn hsz hcs =>
   simp only [view1,AV.fn.injEq] at hv
   obtain ⟨rfl,rfl⟩:=hv
   exact .fn hsz (fun i c hc=>by simp at hc)
  | all hid=>simp only [view1] at hv;split at hv<;>(try split at hv)<;>cases hv
  | arr=>simp only [view1] at hv;split at hv<;>(try split at hv)<;>cases hv
  | pre=>simp only [view1] at hv;split at hv<;>(try split at hv)<;>cases hv
  | _=>simp [view1] at hv
 ·exact .junk _

theorem Own.lay {id row:Nat} (hO:∀ b q,η.O b=some q→b<w.heap.size):∀ (t:Ty) (Es:List TypeId) (off:Nat) (x:t.den) (c:Nat→Option Value),Own η w id row t Es off x c→Lay ((envOf w).Z false) w t x c:=by
 intro t
 induction t with
 | int k=>intro Es off x c h;exact h
 | bool=>intro Es off x c h;exact h
 | str=>intro Es off x c h;exact h
 | sl e _ =>
  intro Es off l c h
  obtain ⟨h0,h2⟩:=h
  rcases h2 with ⟨⟨A,h3⟩,rfl⟩ | ⟨h1,b,d,cap,q1,q2,q3,q4,q5,q6,q7⟩
  ·exact ⟨A,0,by rw [h0,h3];rfl,Nat.le_refl _,.inl rfl⟩
  ·refine ⟨_,cap,by rw [h0,q1],q4,.inr ⟨_,rfl,⟨rfl,hO b _ q2⟩,fun i y hy=>?_⟩⟩
   refine Lay.congr e y _ _ (fun j _=>?_) (Lay.of_flat e y _ h1 (q7 i y hy))
   rw [addr_at,cell_block q3,Nat.zero_add]
 | pair a b iha ihb=>intro Es off x c h;exact ⟨iha _ _ _ _ h.1,ihb _ _ _ _ h.2⟩

theorem Own.nest {id row:Nat}:∀ (t:Ty) (Es:List TypeId) (off:Nat) (x:t.den) (c:Nat→Option Value),Own η w id row t Es off x c →
  ∀ j fr e' l', (t.toAVs false x)[j]? = some (.t fr (.sl e') l')→c j=some (η.nv id row (off+j)):=by
 intro t
 induction t with
 | int k=>intro Es off x c h j fr e' l' hj;cases j<;>simp [Ty.toAVs] at hj
 | bool=>intro Es off x c h j fr e' l' hj;cases j<;>simp [Ty.toAVs] at hj
 | str=>intro Es off x c h j fr e' l' hj;cases j<;>simp [Ty.toAVs] at hj
 | sl e _ =>
  intro Es off x c h j fr e' l' hj
  cases j with
  | zero=>exact h.1
  | succ j=>simp [Ty.toAVs] at hj
 | pair a b iha ihb =>
  intro Es off x c h j fr e' l' hj
  simp only [Ty.toAVs] at hj
  by_cases hlt:j<(a.toAVs false x.1).length
  ·rw [List.getElem?_append_left hlt] at hj
   exact iha _ _ _ _ h.1 j fr e' l' hj
  ·rw [List.getElem?_append_right (by omega)] at hj
   have:=ihb _ _ _ _ h.2 _ fr e' l' hj
   rw [toAVs_length] at hlt this
   rw [show a.cells+(j - a.cells)=j by omega,show off+a.cells+(j - a.cells)=off+j by omega] at this
   exact this

theorem pure1_rel {H:List AObj} (I:Inv N w0 η H w) {x:AV} {v:Value} (r:AVR η H.length w x v):AVR (envOf w) 0 w (pure1 H x) v:=by
 have hO:∀ b q,η.O b=some q→b<w.heap.size:=fun b q h=>(I.dep b q h).2.2.1
 have hz:∀ fr b,(envOf w).Z fr b→(envOf w).Z false b:=fun fr b h=>⟨rfl,h.2⟩
 cases x with
 | all id sz =>
  simp only [pure1]
  split
  ·rename_i E Es e l ho
   split
   ·rename_i hsz
    cases r with
    | all hid =>
     obtain ⟨_,R⟩:=I.obj id _ ho
     refine .t rfl ?_
     rcases R with ⟨⟨A,h1⟩,rfl⟩ | ⟨c,cap,q1,q2,q3,q4,q5,q6⟩
     ·exact ⟨A,0,by simp [h1],Nat.le_refl _,.inl rfl⟩
     ·refine ⟨_,cap,by simp [q1];rfl,q3,.inr ⟨_,rfl,⟨rfl,(I.own id _ ho (not_nul q1 q4.1)).2.2⟩,fun i y hy=>?_⟩⟩
      refine Lay.congr e y _ _ (fun j _=>?_) (Own.lay hO _ _ _ _ _ (q6 i y hy))
      rw [addr_at,cell_block q2,Nat.zero_add]
   ·exact .junk _
  ·exact pureO_rel I r
 | nest id row sz off =>
  simp only [pure1]
  split
  ·rename_i E Es e l ho
   split
   ·rename_i hsz
    cases r with
    | nest hid hr =>
     obtain ⟨hln,R⟩:=I.obj id _ ho
     have hrow:row<l.length:=by rw [← hln];exact hr
     rcases R with ⟨_,rfl⟩ | ⟨c,cap,q1,q2,q3,q4,q5,q6⟩
     ·simp at hrow
     ·have ow:=q6 row _ (getD_get e.dflt hrow)
      cases hk:(e.toAVs false (l.getD row e.dflt))[off]? with
      | none=>exact .junk _
      | some y =>
       cases y with
       | t fr ty l' =>
        cases ty with
        | sl e' =>
         obtain ⟨u,g1,_,g3⟩:=toAVs_rel (η:=envOf w) (h:=0) (w:=w) false e _ _ (Own.lay hO _ _ _ _ _ ow) off _ hk
         have g2:=Own.nest _ _ _ _ _ ow off _ _ _ hk
         rw [Nat.zero_add] at g2
         rw [g2] at g1
         obtain rfl:=Option.some.inj g1
         cases g3 with
         | t h1 hl=>exact .t rfl (Lay.mono (hz fr) (fun _ _=>rfl) _ _ _ hl)
        | _=>exact .junk _
       | _=>exact .junk _
   ·exact .junk _
  ·exact .junk _
 | pre id sz n =>
  simp only [pure1]
  split
  ·rename_i E Es e l ho
   split
   ·rename_i hsz
    cases r with
    | @pre _ _ _ m cap A hid hvv hn hc =>
     obtain ⟨_,R⟩:=I.obj id _ ho
     refine .t rfl ?_
     rcases R with ⟨⟨B,h1⟩,rfl⟩ | ⟨c,cap', q1,q2,q3,q4,q5,q6⟩
     ·rw [h1,Value.slice.injEq] at hvv
      obtain ⟨rfl,rfl,rfl⟩:=hvv
      obtain rfl:n=0:=by omega
      exact ⟨B,0,by simp,Nat.le_refl _,.inl (by simp)⟩
     ·rw [q1,Value.slice.injEq] at hvv
      obtain ⟨rfl,rfl,rfl⟩:=hvv
      have hlen:(l.take n).length=n:=by simp;omega
      refine ⟨_,cap', by simp [hlen];rfl,by omega,.inr ⟨_,rfl,⟨rfl,(I.own id _ ho (not_nul q1 q4.1)).2.2⟩,fun i y hy=>?_⟩⟩
      have hy':l[i]? = some y:=by
       rw [List.getElem?_take] at hy
       split at hy
       ·exact hy
       ·cases hy
      refine Lay.congr e y _ _ (fun j _=>?_) (Own.lay hO _ _ _ _ _ (q6 i y hy'))
      rw [addr_at,cell_block q2,Nat.zero_add]
   ·exact .junk _
  ·exact pureO_rel I r
 | t fr ty y=>exact pureO_rel I r
 | raw u=>exact pureO_rel I r
 | arr id sz lo n=>exact pureO_rel I r
 | ptr id row sz sub=>exact pureO_rel I r
 | rop fr e l row off=>exact pureO_rel I r
 | agg cs=>exact pureO_rel I r
 | tup cs=>exact pureO_rel I r
 | fn f cs=>exact pureO_rel I r
 | junk=>exact pureO_rel I r

theorem view_rel {H:List AObj} (I:Inv N w0 η H w) {x:AV} {v:Value} (r:AVR η H.length w x v):AVR (envOf w) 0 w (view H x) v:=by
 cases r with
 | agg hsz hc =>
  refine .agg (by simpa using hsz) (fun i c hi=>?_)
  obtain ⟨y,hy,rfl⟩:=getElem?_map_some hi
  exact pure1_rel I (hc i y hy)
 | t h1 hl=>exact pure1_rel I (.t h1 hl)
 | raw=>exact pure1_rel I (.raw _)
 | all hid=>exact pure1_rel I (.all hid)
 | arr hid hn hlo hA=>exact pure1_rel I (.arr hid hn hlo hA)
 | pre hid hv hn hc=>exact pure1_rel I (.pre hid hv hn hc)
 | ptr hid hr=>exact pure1_rel I (.ptr hid hr)
 | @nest id row sz off hid hr=>exact pure1_rel I (AVR.nest (sz:=sz) hid hr)
 | rop hr hz hl=>exact pure1_rel I (.rop hr hz hl)
 | tup hsz hc=>exact pure1_rel I (.tup hsz hc)
 | fn hsz hc=>exact pure1_rel I (.fn hsz hc)
 | junk=>exact pure1_rel I (.junk _)

def Env.join (η:Env) (k:Nat) (η':Env):Env :=
 { ι:=fun i=>if i<k then η.ι i else η'.ι (i - k),hv:=fun i=>if i<k then η.hv i else η'.hv (i - k),ln:=fun i=>if i<k then η.ln i else η'.ln (i - k),Z:=fun f b=>η.Z f b∨η'.Z true b,nv:=fun i=>if i<k then η.nv i else η'.nv (i - k),O:=fun b=>(η.O b).or ((η'.O b).map fun q=>(k+q.1,q.2)) }

theorem heap_append_some' {H G:List AObj} {id:Nat} {x:AObj} (h:(H++G)[id]? = some x):(id<H.length∧H[id]? = some x)∨(H.length≤id∧G[id - H.length]? = some x):=by
 by_cases hlt:id<H.length
 ·rw [List.getElem?_append_left hlt] at h;exact .inl ⟨hlt,h⟩
 ·rw [List.getElem?_append_right (by omega)] at h;exact .inr ⟨by omega,h⟩

theorem Inv.join {H Hn:List AObj} {η':Env} {w':World} (I:Inv N w0 η H w) (J:Inv (·<w.heap.size) w η' Hn w') (hf:Hn.all AObj.fresh=true) :
  Inv N w0 (η.join H.length η') (H++Hn) w'∧Ext NoK η H.length w (η.join H.length η') (H++Hn).length w':=by
 have hb:Below w.heap.size w w':=⟨J.fr.os,J.fr.tape,J.fr.output,J.fr.size,fun k hk=>J.fr.block k hk⟩
 obtain ⟨I1,x1⟩:=I.grow hb
 have x:Ext NoK η H.length w (η.join H.length η') (H++Hn).length w':=by
  refine ⟨fun id hid _=>⟨by simp;omega,?_,?_,?_⟩,fun f b h=>.inl h,fun f b h=>hb.block b (I.zlt f b h),fun _ h=>h.imp (fun h=>h) .inr,fun id hid _=>by simp [Env.join,hid]⟩<;>simp [Env.join,hid]
 have xw:Ext NoK η H.length w' (η.join H.length η') (H++Hn).length w':=by
  refine ⟨fun id hid _=>⟨by simp;omega,?_,?_,?_⟩,fun f b h=>.inl h,fun f b h=>rfl,fun _ h=>h.imp (fun h=>h) .inr,fun id hid _=>by simp [Env.join,hid]⟩<;>simp [Env.join,hid]
 have znew':∀ b,η'.Z true b→w.heap.size≤b:=fun b h=>Nat.le_of_not_lt (J.znew b h)
 have eo:∀ i,i<H.length→(η.join H.length η').ι i=η.ι i∧(η.join H.length η').hv i=η.hv i∧(η.join H.length η').ln i=η.ln i:=fun i hi=>by simp [Env.join,hi]
 have en:∀ i,H.length≤i→(η.join H.length η').ι i=η'.ι (i - H.length)∧(η.join H.length η').hv i=η'.hv (i - H.length)∧(η.join H.length η').ln i=η'.ln (i - H.length):=fun i hi=>by simp [Env.join,Nat.not_lt.2 hi]
 have fresh:∀ (k:Nat) (o:AObj),Hn[k]? = some o→(∃ (E:TypeId) (fr:Bool) (e:Ty) (l:List e.den),o=AObj.rows E fr e l∧(fr=true∨e.flat=true))∨∃ (E:TypeId) (Es:List TypeId) (e:Ty) (l:List e.den),o=AObj.deep E Es e l:=by
  intro k o ho
  have:=List.all_eq_true.1 hf o (List.mem_of_getElem? ho)
  cases o with
  | rows E fr e l=>simp only [AObj.fresh,Bool.or_eq_true] at this;exact .inl ⟨E,fr,e,l,rfl,this⟩
  | deep E Es e l=>exact .inr ⟨E,Es,e,l,rfl⟩
  | _=>simp [AObj.fresh] at this
 have matn:∀ (k:Nat) (o:AObj),H.length≤k→Hn[k - H.length]? = some o→(o.mat (η.join H.length η') k↔o.mat η' (k - H.length)):=by
  intro k o hk ho
  rcases fresh _ o ho with ⟨E,fr,e,l,rfl,_⟩ | ⟨E,Es,e,l,rfl⟩<;>simp only [AObj.mat,(en k hk).2.1]
 have oOld:∀ b q,η.O b=some q→(η.join H.length η').O b=some q:=fun b q h=>by simp [Env.join,h]
 have oNew:∀ b q,η'.O b=some q→(η.join H.length η').O b=some (H.length+q.1,q.2):=fun b q h=>by
  have hge:w.heap.size≤b:=Nat.le_of_not_lt (J.dep b q h).1
  simp [Env.join,I.O_ge hge,h]
 refine ⟨⟨I.nlt,I1.fr,?_,?_,?_,fun id=>?_,fun id o ho=>?_,fun id o ho hm=>?_,fun i j o p ho hp mo mp he=>?_,fun b k hk=>?_,fun id r o=>?_⟩,x⟩
 ·rintro f b (h | h)
  ·exact I1.zlt f b h
  ·exact J.zlt true b h
 ·rintro b (h | h)
  ·exact .inl (I.zsub b h)
  ·exact .inr h
 ·rintro b (h | h)
  ·exact I.znew b h
  ·exact fun hn=>by have:=znew' b h;have:=I.lt hn;omega
 ·by_cases hid:id<H.length
  ·rw [(eo id hid).2.1];exact I.hvs id
  ·rw [(en id (by omega)).2.1];exact J.hvs _
 ·rcases heap_append_some' ho with ⟨hlt,ho⟩ | ⟨hge,ho⟩
  ·exact (I1.obj id o ho).mono xw hlt (fun _=>rfl) ⟨trivial,fun b r q hb=>⟨oOld b _ hb,rfl⟩⟩
  ·rcases fresh _ o ho with ⟨E,fr,e,l,rfl,hfe⟩ | ⟨E,Es,e,l,rfl⟩
   rotate_left
   ·obtain ⟨q1,q2⟩:=J.obj _ _ ho
    obtain ⟨n1,n2,n3⟩:=en id hge
    have hnv:(η.join H.length η').nv id=η'.nv (id - H.length):=by simp [Env.join,Nat.not_lt.2 hge]
    refine ⟨by rw [n3];exact q1,?_⟩
    rcases q2 with ⟨q2,q3⟩ | ⟨c,cap,q2,q3,q4,q5,q6,q7⟩
    ·exact .inl ⟨by rw [n2];exact q2,q3⟩
    ·refine .inr ⟨c,cap,by rw [n1,n2];exact q2,by rw [n1];exact q3,q4,q5,q6,fun i y hy=>Own.ren (by rw [hnv]) (fun b r q hb=>⟨?_,rfl⟩) _ _ _ _ _ (q7 i y hy)⟩
     rw [oNew b _ hb,show H.length+(id - H.length)=id by omega]
   obtain ⟨q1,q2⟩:=J.obj _ _ ho
   obtain ⟨n1,n2,n3⟩:=en id hge
   refine ⟨by rw [n3];exact q1,?_⟩
   rcases q2 with ⟨q2,q3⟩ | ⟨c,cap,q2,q3,q4,q5,q6,q7⟩
   ·exact .inl ⟨by rw [n2];exact q2,q3⟩
   ·refine .inr ⟨c,cap,by rw [n1,n2];exact q2,by rw [n1];exact q3,q4,q5,q6,fun i y hy=>?_⟩
    rcases hfe with rfl | hflat
    ·exact Lay.mono (fun b hb=>.inr hb) (fun _ _=>rfl) e y _ (q7 i y hy)
    ·exact Lay.of_flat e y _ hflat (q7 i y hy)
 ·rcases heap_append_some' ho with ⟨hlt,ho⟩ | ⟨hge,ho⟩
  ·obtain ⟨a1,a2,a3⟩:=I1.own id o ho ((mat_iff xw hlt).1 hm)
   have:=(I.own id o ho ((mat_iff xw hlt).1 hm)).2.2
   rw [(eo id hlt).1]
   exact ⟨a1,fun h=>h.elim a2 (fun h=>by have:=znew' _ h;omega),a3⟩
  ·obtain ⟨a1,a2,a3⟩:=J.own _ o ho ((matn id o hge ho).1 hm)
   have hge':w.heap.size≤η'.ι (id - H.length):=Nat.le_of_not_lt a1
   rw [(en id hge).1]
   exact ⟨fun hn=>by have:=I.lt hn;omega,fun h=>h.elim (fun h=>by have:=I.zlt _ _ h;omega) (fun h=>a2 (J.zsub _ h)),a3⟩
 ·rcases heap_append_some' ho with ⟨hlt,ho⟩ | ⟨hge,ho⟩<;>rcases heap_append_some' hp with ⟨hlt', hp⟩ | ⟨hge', hp⟩
  ·rw [(eo i hlt).1,(eo j hlt').1] at he
   exact I.inj i j o p ho hp ((mat_iff xw hlt).1 mo) ((mat_iff xw hlt').1 mp) he
  ·rw [(eo i hlt).1,(en j hge').1] at he
   have:=(I.own i o ho ((mat_iff xw hlt).1 mo)).2.2
   have:=Nat.le_of_not_lt (J.own _ p hp ((matn j p hge' hp).1 mp)).1
   omega
  ·rw [(en i hge).1,(eo j hlt').1] at he
   have:=(I.own j p hp ((mat_iff xw hlt').1 mp)).2.2
   have:=Nat.le_of_not_lt (J.own _ o ho ((matn i o hge ho).1 mo)).1
   omega
  ·rw [(en i hge).1,(en j hge').1] at he
   have:=J.inj _ _ o p ho hp ((matn i o hge ho).1 mo) ((matn j p hge' hp).1 mp) he
   omega
 ·simp only [Env.join] at hk
  rcases Option.or_eq_some_iff.1 hk with h1 | ⟨h1,h2⟩
  ·obtain ⟨d1,d2,d3,d4⟩:=I.dep b k h1
   refine ⟨d1,fun h=>h.elim d2 (fun h=>by have:=znew' _ h;omega),Nat.lt_of_lt_of_le d3 hb.size,fun i o ho hm=>?_⟩
   rcases heap_append_some' ho with ⟨hlt,ho⟩ | ⟨hge,ho⟩
   ·rw [(eo i hlt).1];exact d4 i o ho ((mat_iff xw hlt).1 hm)
   ·have:=Nat.le_of_not_lt (J.own _ o ho ((matn i o hge ho).1 hm)).1
    rw [(en i hge).1];omega
  ·obtain ⟨q,hq,_⟩:=Option.map_eq_some_iff.1 h2
   obtain ⟨d1,d2,d3,d4⟩:=J.dep b q hq
   have hge':w.heap.size≤b:=Nat.le_of_not_lt d1
   refine ⟨fun hn=>by have:=I.lt hn;omega,fun h=>h.elim (fun h=>by have:=I.zlt _ _ h;omega) (fun h=>d2 (J.zsub _ h)),d3,fun i o ho hm=>?_⟩
   rcases heap_append_some' ho with ⟨hlt,ho⟩ | ⟨hge,ho⟩
   ·have:=(I.own i o ho ((mat_iff xw hlt).1 hm)).2.2
    rw [(eo i hlt).1];omega
   ·rw [(en i hge).1];exact d4 _ o ho ((matn i o hge ho).1 hm)
 ·by_cases hid:id<H.length
  ·simp only [Env.join,if_pos hid];exact I.nvs _ _ _
  ·simp only [Env.join,if_neg hid];exact J.nvs _ _ _

theorem shift1_rel {k n:Nat} {η':Env} {w':World} {x:AV} {v:Value} (hf:freshAV1 x=true) (r:AVR η' n w' x v):AVR (η.join k η') (k+n) w' (x.shift1 k) v:=by
 cases r with
 | t h1 hl =>
  simp only [freshAV1,Bool.or_eq_true] at hf
  refine .t h1 ?_
  rcases hf with rfl | hf
  ·exact Lay.mono (fun b hb=>.inr hb) (fun _ _=>rfl) _ _ _ hl
  ·exact Lay.of_flat _ _ _ hf hl
 | raw=>exact .raw _
 | @all id sz hid =>
  have e:(η.join k η').hv (k+id)=η'.hv id:=by simp [Env.join,show ¬ (k+id<k) by omega,show k+id - k=id by omega]
  rw [← e]
  exact .all (by omega)
 | @arr id sz lo n cap A hid hn hlo hA =>
  have e1:(η.join k η').ln (k+id)=η'.ln id:=by simp [Env.join,show ¬ (k+id<k) by omega,show k+id - k=id by omega]
  have e2:(η.join k η').ι (k+id)=η'.ι id:=by simp [Env.join,show ¬ (k+id<k) by omega,show k+id - k=id by omega]
  exact .arr (by omega) hn (by rw [e1];exact hlo) (by rw [e2];exact hA)
 | @ptr id row sz sub hid hr =>
  have e1:(η.join k η').ln (k+id)=η'.ln id:=by simp [Env.join,show ¬ (k+id<k) by omega,show k+id - k=id by omega]
  have e2:(η.join k η').ι (k+id)=η'.ι id:=by simp [Env.join,show ¬ (k+id<k) by omega,show k+id - k=id by omega]
  rw [← e2]
  exact .ptr (by omega) (by rw [e1];exact hr)
 | _=>simp [freshAV1] at hf

theorem shift2_rel {k n:Nat} {η':Env} {w':World} {x:AV} {v:Value} (hf:freshAV2 x=true) (r:AVR η' n w' x v):AVR (η.join k η') (k+n) w' (x.shift2 k) v:=by
 cases r with
 | agg hsz hc =>
  refine .agg (by simpa using hsz) (fun i c hi=>?_)
  obtain ⟨y,hy,rfl⟩:=getElem?_map_some hi
  exact shift1_rel (List.all_eq_true.1 hf y (List.mem_of_getElem? hy)) (hc i y hy)
 | @t fr ty y _ h1 hl=>exact shift1_rel (x:=.t fr ty y) hf (.t h1 hl)
 | raw=>exact .raw _
 | @all id sz hid=>exact shift1_rel (x:=.all id sz) hf (.all hid)
 | @arr id sz lo n cap A hid hn hlo hA=>exact shift1_rel (x:=.arr id sz lo n) hf (.arr hid hn hlo hA)
 | @ptr id row sz sub hid hr=>exact shift1_rel (x:=.ptr id row sz sub) hf (.ptr hid hr)
 | _=>simp [freshAV2,freshAV1] at hf

theorem shift_rel {k n:Nat} {η':Env} {w':World} {x:AV} {v:Value} (hf:freshAV x=true) (r:AVR η' n w' x v):AVR (η.join k η') (k+n) w' (x.shift k) v:=by
 cases r with
 | tup hsz hc =>
  refine .tup (by simpa using hsz) (fun i c hi=>?_)
  obtain ⟨y,hy,rfl⟩:=getElem?_map_some hi
  exact shift2_rel (List.all_eq_true.1 hf y (List.mem_of_getElem? hy)) (hc i y hy)
 | @agg cs _ hsz hc=>exact shift2_rel (x:=.agg cs) hf (.agg hsz hc)
 | @t fr ty y _ h1 hl=>exact shift2_rel (x:=.t fr ty y) hf (.t h1 hl)
 | raw=>exact .raw _
 | @all id sz hid=>exact shift2_rel (x:=.all id sz) hf (.all hid)
 | @arr id sz lo n cap A hid hn hlo hA=>exact shift2_rel (x:=.arr id sz lo n) hf (.arr hid hn hlo hA)
 | @ptr id row sz sub hid hr=>exact shift2_rel (x:=.ptr id row sz sub) hf (.ptr hid hr)
 | _=>simp [freshAV,freshAV2,freshAV1] at hf

theorem PContract.lift {f:FuncId} {s:PSumm} (h:PContract P f s):MContract P f (Eng.lift s):=by
 intro args H r H' Kf hsm N w0 η w vs I hl hr
 simp only [Eng.lift] at hsm
 split at hsm
 ·rename_i r0 Hn b hs
  split at hsm
  ·rename_i hf
   simp only [Bool.and_eq_true] at hf
   simp only [Option.some.injEq,Prod.mk.injEq] at hsm
   obtain ⟨rfl,rfl,rfl,rfl⟩:=hsm
   refine (h _ r0 Hn hs hf.1 hf.2 w vs (by simpa using hl) (fun i c hc=>?_)).mono ?_
   ·obtain ⟨y,hy,rfl⟩:=getElem?_map_some hc
    exact view_rel I (hr i y hy)
   ·rintro e w' ⟨v,η', rfl,J,ra⟩
    obtain ⟨I', x⟩:=I.join J hf.2
    exact ⟨v,_,rfl,I', x,by rw [List.length_append];exact shift_rel hf.1 ra⟩
  ·cases hsm
 ·cases hsm
theorem lift_local (s:PSumm):LocalS (Eng.lift s):=by
 intro args H r H' ks b h
 simp only [Eng.lift] at h
 split at h
 ·split at h
  ·simp only [Option.some.injEq,Prod.mk.injEq] at h
   obtain ⟨_,rfl,rfl,_⟩:=h
   exact ⟨fun k hk=>by simp at hk,by simp,fun id o ho _ _ _=>by rw [List.getElem?_append_left (List.getElem?_eq_some_iff.1 ho).1];exact ho⟩
  ·cases h
 ·cases h
end
end Go.Proofs.Ytccelbeahdcooaa.Eng
