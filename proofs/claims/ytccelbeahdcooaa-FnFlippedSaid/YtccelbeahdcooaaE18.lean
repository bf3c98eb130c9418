/- The engine, part 18: pure contracts out of a body's run. -/
import Derived.Test.YtccelbeahdcooaaE17
namespace Go.Proofs.Ytccelbeahdcooaa.Eng
open Go Go.RowKit
set_option linter.unusedSimpArgs false
set_option linter.unusedVariables false

def St.freezeA (st:St) (a:AV):AV×St :=
 match a with
 | .agg cs=>(.agg (St.freezeL cs st).1,(St.freezeL cs st).2)
 | a=>st.freeze1 a
def St.freezeT:List AV→St→List AV×St
 | [],st=>([],st)
 | a::r,st=>let p:=st.freezeA a;let q:=St.freezeT r p.2;(p.1::q.1,q.2)
def roRes (ro:Bool) (st:St) (r:AV):AV×St :=
 match ro with
 | false=>(r,st)
 | true =>
  match r with
  | .tup cs=>(.tup (St.freezeT cs st).1,(St.freezeT cs st).2)
  | a=>st.freezeA a

def coer1 (ty:Ty) (a:AV):AV :=
 match ty,a with
 | .sl e,.raw (.slice none 0 0)=>.t true (.sl e) []
 | _,a=>a
def coerL:List Ty→List AV→List AV
 | ty::r,a::as=>coer1 ty a::coerL r as
 | _,as=>as
def Ty.tys:Ty→List Ty
 | .pair a b=>a.tys++b.tys
 | t=>[t]
def coer2 (ty:Option Ty) (a:AV):AV :=
 match ty with
 | none=>a
 | some ty=>match a with
  | .agg cs=>.agg (coerL ty.tys cs)
  | a=>coer1 ty a
def coerT (tt:TT):List TypeId→List AV→List AV
 | t::r,a::as=>coer2 (tyOf tt 9 t) a::coerT tt r as
 | _,as=>as
def coer (ro:Bool) (tt:TT) (ts:List TypeId) (r:AV):AV :=
 match ro with
 | false=>r
 | true =>
  match r with
  | .tup cs=>.tup (coerT tt ts cs)
  | a=>match ts with
   | [t]=>coer2 (tyOf tt 9 t) a
   | _=>a

def finP (ro:Bool) (tt:TT) (fn:Func) (e:Ex) (st:St):Option (AV×List AObj) :=
 match e with
 | .exit _=>none
 | _=>(resAV tt fn st).bind fun r0 =>
  let m:=matR ro tt fn.resultTypes.toList r0 st
  toRes (roRes ro m.2 (coer ro tt fn.resultTypes.toList m.1)).2.heap (roRes ro m.2 (coer ro tt fn.resultTypes.toList m.1)).1

def runP (ro:Bool) (P:Program) (tt:TT) (S:Tab) (QF:FuncId→Bool) (L:Nat→St→Option Tree) (fn:Func) (args:List AV):Option (AV×List AObj) :=
 match fn.body with
 | some c=>execC P tt S QF L 0 c { slots:=startSlots fn args,heap:=[],base:=0,killed:=[] } (finP ro tt fn)
 | none=>none

section
variable {P:Program} {N:Nat→Prop} {w0:World} {η:Env} {w:World} {st:St} {a:Act} {tt:TT} {S:Tab} {QF:FuncId→Bool}

theorem Inv.move {H Hn:List AObj} (I:Inv N w0 η (H++Hn) w) {id:Nat} {E:TypeId} {fr:Bool} {e:Ty} {l:List e.den} (ho:H[id]? = some (.rows E fr e l)) :
  Inv N w0 (η.upd (H.length+Hn.length) (η.ι id) (η.hv id) (η.ln id)) (H.set id .dead++(Hn++[.rows E fr e l])) w ∧
  Ext NoK η (H.length+Hn.length) w (η.upd (H.length+Hn.length) (η.ι id) (η.hv id) (η.ln id)) (H.length+(Hn.length+1)) w:=by
 have hid:id<H.length:=(List.getElem?_eq_some_iff.1 ho).1
 have ho':(H++Hn)[id]? = some (.rows E fr e l):=by rw [List.getElem?_append_left hid];exact ho
 have I2:Inv N w0 η ((H++Hn).set id .dead) w:=by
  refine ⟨I.nlt,I.fr,I.zlt,I.zsub,I.znew,I.hvs,fun i y hy=>?_,fun i y hy hm=>?_,fun i j y z hy hz my mz he=>?_,fun b k hb=>?_,I.nvs⟩
  rotate_left 3
  ·obtain ⟨d1,d2,d3,d4⟩:=I.dep b k hb
   refine ⟨d1,d2,d3,fun i y hy hm=>?_⟩
   rcases set_some hy with ⟨rfl,_,rfl⟩ | ⟨hne,hy⟩
   ·exact hm.elim
   ·exact d4 i y hy hm
  ·rw [List.length_set]
   rcases set_some hy with ⟨rfl,_,rfl⟩ | ⟨hne,hy⟩
   ·trivial
   ·exact I.obj i y hy
  ·rcases set_some hy with ⟨rfl,_,rfl⟩ | ⟨hne,hy⟩
   ·exact hm.elim
   ·exact I.own i y hy hm
  ·rcases set_some hy with ⟨rfl,_,rfl⟩ | ⟨hne,hy⟩
   ·exact my.elim
   ·rcases set_some hz with ⟨rfl,_,rfl⟩ | ⟨hne', hz⟩
    ·exact mz.elim
    ·exact I.inj i j y z hy hz my mz he
 have el:((H++Hn).set id .dead).length=H.length+Hn.length:=by simp
 have A:=I2.adopt (.rows E fr e l) (η.ι id) (η.hv id) (η.ln id) (I.hvs id) (fun x=>by
  obtain ⟨q1,q2⟩:=I.obj id _ ho'
  rw [el] at x ⊢
  refine ⟨by simp [Env.upd,q1],?_⟩
  rcases q2 with ⟨q2,q3⟩ | ⟨c,cap,q2,q3,q4,q5,q6,q7⟩
  ·exact .inl ⟨by simpa [Env.upd] using q2,q3⟩
  ·exact .inr ⟨c,cap,by simp [Env.upd,q2],by simp [Env.upd,q3],q4,q5,q6,q7⟩) (fun hm=>by
  rw [el] at hm
  have hm':(AObj.rows E fr e l).mat η id:=by simpa [AObj.mat,Env.upd] using hm
  obtain ⟨a1,a2,a3⟩:=I.own id _ ho' hm'
  refine ⟨a1,a2,a3,fun i y hy my he=>?_⟩
  rcases set_some hy with ⟨rfl,_,rfl⟩ | ⟨hne,hy⟩
  ·exact my.elim
  ·exact hne (I.inj i id y _ hy ho' my hm' he)) (fun hm=>by
  rw [el] at hm
  exact I.O_own ho' (by simpa [AObj.mat,Env.upd] using hm))
 rw [el] at A
 have es:(H++Hn).set id .dead++[AObj.rows E fr e l]=H.set id .dead++(Hn++[.rows E fr e l]):=by
  rw [List.set_append_left _ _ hid,List.append_assoc]
 rw [es] at A
 refine ⟨A,?_⟩
 have:=Ext.upd η (H.length+Hn.length) w (η.ι id) (η.hv id) (η.ln id)
 exact this

theorem Inv.moveD {H Hn:List AObj} (I:Inv N w0 η (H++Hn) w) {id:Nat} {E:TypeId} {Es:List TypeId} {e:Ty} {l:List e.den} (ho:H[id]? = some (.deep E Es e l)) :
  Inv N w0 ((η.rekey id (H.length+Hn.length)).upd (H.length+Hn.length) (η.ι id) (η.hv id) (η.ln id)) (H.set id .dead++(Hn++[.deep E Es e l])) w ∧
  Ext NoK η (H.length+Hn.length) w ((η.rekey id (H.length+Hn.length)).upd (H.length+Hn.length) (η.ι id) (η.hv id) (η.ln id)) (H.length+(Hn.length+1)) w:=by
 have hid:id<H.length:=(List.getElem?_eq_some_iff.1 ho).1
 have ho':(H++Hn)[id]? = some (.deep E Es e l):=by rw [List.getElem?_append_left hid];exact ho
 have I2:Inv N w0 η ((H++Hn).set id .dead) w:=by
  refine ⟨I.nlt,I.fr,I.zlt,I.zsub,I.znew,I.hvs,fun i y hy=>?_,fun i y hy hm=>?_,fun i j y z hy hz my mz he=>?_,fun b k hb=>?_,I.nvs⟩
  rotate_left 3
  ·obtain ⟨d1,d2,d3,d4⟩:=I.dep b k hb
   refine ⟨d1,d2,d3,fun i y hy hm=>?_⟩
   rcases set_some hy with ⟨rfl,_,rfl⟩ | ⟨hne,hy⟩
   ·exact hm.elim
   ·exact d4 i y hy hm
  ·rw [List.length_set]
   rcases set_some hy with ⟨rfl,_,rfl⟩ | ⟨hne,hy⟩
   ·trivial
   ·exact I.obj i y hy
  ·rcases set_some hy with ⟨rfl,_,rfl⟩ | ⟨hne,hy⟩
   ·exact hm.elim
   ·exact I.own i y hy hm
  ·rcases set_some hy with ⟨rfl,_,rfl⟩ | ⟨hne,hy⟩
   ·exact my.elim
   ·rcases set_some hz with ⟨rfl,_,rfl⟩ | ⟨hne', hz⟩
    ·exact mz.elim
    ·exact I.inj i j y z hy hz my mz he
 have el:((H++Hn).set id .dead).length=H.length+Hn.length:=by simp
 obtain ⟨I3,x3⟩:=I2.rekey (id:=id) (k:=H.length+Hn.length) (fun o h=>by
  rcases set_some h with ⟨_,_,h⟩ | ⟨h,_⟩
  ·exact h
  ·exact absurd rfl h) (by rw [el];exact Nat.le_refl _)
 have A:=I3.adopt (.deep E Es e l) (η.ι id) (η.hv id) (η.ln id) (I.hvs id) (fun x=>by
  obtain ⟨q1,q2⟩:=I.obj id _ ho'
  rw [el] at x ⊢
  refine ⟨by simp [Env.upd,q1],?_⟩
  rcases q2 with ⟨q2,q3⟩ | ⟨c,cap,q2,q3,q4,q5,q6,q7⟩
  ·exact .inl ⟨by simpa [Env.upd] using q2,q3⟩
  ·refine .inr ⟨c,cap,by simp [Env.upd,q2],by simp [Env.upd,q3],q4,q5,q6,fun i y hy=>?_⟩
   exact Own.renRow (η:=η) (id:=id) (row:=i) (fun o=>by simp [Env.upd,Env.rekey]) (fun b o hb=>⟨by simp [Env.upd,Env.rekey,hb],rfl⟩) _ _ _ _ _ (q7 i y hy)) (fun hm=>by
  rw [el] at hm
  have hm':(AObj.deep E Es e l).mat η id:=by simpa [AObj.mat,Env.upd] using hm
  obtain ⟨a1,a2,a3⟩:=I.own id _ ho' hm'
  refine ⟨a1,a2,a3,fun i y hy my he=>?_⟩
  have my':y.mat η i:=by cases y<;>exact my
  rcases set_some hy with ⟨rfl,_,rfl⟩ | ⟨hne,hy⟩
  ·exact my'.elim
  ·exact hne (I.inj i id y _ hy ho' my' hm' he)) (fun hm=>by
  rw [el] at hm
  have:=I.O_own ho' (show (AObj.deep E Es e l).mat η id by simpa [AObj.mat,Env.upd] using hm)
  simp [Env.rekey,this])
 rw [el] at A
 have es:(H++Hn).set id .dead++[AObj.deep E Es e l]=H.set id .dead++(Hn++[.deep E Es e l]):=by
  rw [List.set_append_left _ _ hid,List.append_assoc]
 rw [es] at A
 refine ⟨A,?_⟩
 have y:=Ext.upd (η.rekey id (H.length+Hn.length)) (H.length+Hn.length) w (η.ι id) (η.hv id) (η.ln id)
 exact (x3 _ (Nat.le_refl _)).trans y (fun _ _ _=>⟨rfl,rfl⟩)

def cutV (v:Value) (n:Nat):Value:=match v with
 | .slice A m cap=>.slice A (min n m) cap
 | v=>v
theorem Inv.moveCut {H Hn:List AObj} (I:Inv N w0 η (H++Hn) w) {id:Nat} {E:TypeId} {fr:Bool} {e:Ty} {l:List e.den} (ho:H[id]? = some (.rows E fr e l)) (n:Nat) :
  Inv N w0 (η.upd (H.length+Hn.length) (η.ι id) (cutV (η.hv id) n) (l.take n).length) (H.set id .dead++(Hn++[.rows E fr e (l.take n)])) w ∧
  Ext NoK η (H.length+Hn.length) w (η.upd (H.length+Hn.length) (η.ι id) (cutV (η.hv id) n) (l.take n).length) (H.length+(Hn.length+1)) w:=by
 have hid:id<H.length:=(List.getElem?_eq_some_iff.1 ho).1
 have ho':(H++Hn)[id]? = some (.rows E fr e l):=by rw [List.getElem?_append_left hid];exact ho
 have I2:Inv N w0 η ((H++Hn).set id .dead) w:=by
  refine ⟨I.nlt,I.fr,I.zlt,I.zsub,I.znew,I.hvs,fun i y hy=>?_,fun i y hy hm=>?_,fun i j y z hy hz my mz he=>?_,fun b k hb=>?_,I.nvs⟩
  rotate_left 3
  ·obtain ⟨d1,d2,d3,d4⟩:=I.dep b k hb
   refine ⟨d1,d2,d3,fun i y hy hm=>?_⟩
   rcases set_some hy with ⟨rfl,_,rfl⟩ | ⟨hne,hy⟩
   ·exact hm.elim
   ·exact d4 i y hy hm
  ·rw [List.length_set]
   rcases set_some hy with ⟨rfl,_,rfl⟩ | ⟨hne,hy⟩
   ·trivial
   ·exact I.obj i y hy
  ·rcases set_some hy with ⟨rfl,_,rfl⟩ | ⟨hne,hy⟩
   ·exact hm.elim
   ·exact I.own i y hy hm
  ·rcases set_some hy with ⟨rfl,_,rfl⟩ | ⟨hne,hy⟩
   ·exact my.elim
   ·rcases set_some hz with ⟨rfl,_,rfl⟩ | ⟨hne', hz⟩
    ·exact mz.elim
    ·exact I.inj i j y z hy hz my mz he
 have el:((H++Hn).set id .dead).length=H.length+Hn.length:=by simp
 have hmat:¬ nulV (cutV (η.hv id) n)→(AObj.rows E fr e l).mat η id:=fun h hn=>h (by
  obtain ⟨A,hA⟩:=hn
  exact ⟨A,by rw [hA];simp [cutV]⟩)
 have A:=I2.adopt (.rows E fr e (l.take n)) (η.ι id) (cutV (η.hv id) n) (l.take n).length (by obtain ⟨A,m,c,hA⟩:=I.hvs id;exact ⟨A,min n m,c,by rw [hA];rfl⟩) (fun x=>by
  obtain ⟨q1,q2⟩:=I.obj id _ ho'
  rw [el] at x ⊢
  refine ⟨by simp [Env.upd],?_⟩
  rcases q2 with ⟨⟨B,q2⟩,rfl⟩ | ⟨c,cap,q2,q3,q4,q5,q6,q7⟩
  ·exact .inl ⟨⟨B,by simp [Env.upd,q2,cutV]⟩,by simp⟩
  ·refine .inr ⟨c,cap,by simp [Env.upd,q2,cutV],by simp [Env.upd,q3],by simp;omega,q5,q6,fun i x hx=>q7 i x ?_⟩
   rw [List.getElem?_take] at hx
   split at hx
   ·exact hx
   ·cases hx) (fun hm=>by
  rw [el] at hm
  have hm':(AObj.rows E fr e l).mat η id:=hmat (by simpa [AObj.mat,Env.upd] using hm)
  obtain ⟨a1,a2,a3⟩:=I.own id _ ho' hm'
  refine ⟨a1,a2,a3,fun i y hy my he=>?_⟩
  rcases set_some hy with ⟨rfl,_,rfl⟩ | ⟨hne,hy⟩
  ·exact my.elim
  ·exact hne (I.inj i id y _ hy ho' my hm' he)) (fun hm=>by
  rw [el] at hm
  exact I.O_own ho' (hmat (by simpa [AObj.mat,Env.upd] using hm)))
 rw [el] at A
 have es:(H++Hn).set id .dead++[AObj.rows E fr e (l.take n)]=H.set id .dead++(Hn++[.rows E fr e (l.take n)]):=by
  rw [List.set_append_left _ _ hid,List.append_assoc]
 rw [es] at A
 exact ⟨A,Ext.upd η (H.length+Hn.length) w (η.ι id) (cutV (η.hv id) n) (l.take n).length⟩

theorem toRes1_rel {H Hn H' Hn':List AObj} {a b:AV} (h:toRes1 H a Hn=some (b,H', Hn')) (I:Inv N w0 η (H++Hn) w) :
  H'.length=H.length∧Hn.length≤Hn'.length∧∃ η', Inv N w0 η' (H'++Hn') w∧Ext NoK η (H.length+Hn.length) w η' (H.length+Hn'.length) w∧(∀ v,AVR η H.length w a v→AVR η' (H.length+Hn'.length) w (b.shift1 H.length) v)∧Ext NoK η H.length w η' H.length w:=by
 have eid:∀ (k:Nat),Ext NoK η k w η k w:=fun k=>Ext.refl
 cases a with
 | all id sz =>
  simp only [toRes1] at h
  split at h
  ·rename_i E fr e l ho
   split at h
   ·rename_i hsz
    simp only [Option.some.injEq,Prod.mk.injEq] at h
    obtain ⟨rfl,rfl,rfl⟩:=h
    obtain ⟨J,x⟩:=I.move ho
    have hid:id<H.length:=(List.getElem?_eq_some_iff.1 ho).1
    refine ⟨by simp,by simp,_,J,by simpa using x,fun v hv=>?_,?_⟩
    ·cases hv with
     | all _ =>
      have:=@AVR.all (η.upd (H.length+Hn.length) (η.ι id) (η.hv id) (η.ln id)) (H.length+(Hn++[AObj.rows E fr e l]).length) w (H.length+Hn.length) sz (by simp)
      have e1:(η.upd (H.length+Hn.length) (η.ι id) (η.hv id) (η.ln id)).hv (H.length+Hn.length)=η.hv id:=by simp [Env.upd]
      rw [e1] at this
      exact this
    ·refine ⟨fun i hi _=>⟨hi,?_,?_,?_⟩,fun _ _ h=>h,fun _ _ _=>rfl,fun _ h=>.inl h,fun _ _ _=>rfl⟩<;>simp [Env.upd,show i ≠ H.length+Hn.length by omega]
   ·cases h
  ·rename_i E Es e l ho
   split at h
   ·rename_i hsz
    simp only [Option.some.injEq,Prod.mk.injEq] at h
    obtain ⟨rfl,rfl,rfl⟩:=h
    obtain ⟨J,x⟩:=I.moveD ho
    have hid:id<H.length:=(List.getElem?_eq_some_iff.1 ho).1
    refine ⟨by simp,by simp,_,J,by simpa using x,fun v hv=>?_,?_⟩
    ·cases hv with
     | all _ =>
      have:=@AVR.all ((η.rekey id (H.length+Hn.length)).upd (H.length+Hn.length) (η.ι id) (η.hv id) (η.ln id)) (H.length+(Hn++[AObj.deep E Es e l]).length) w (H.length+Hn.length) sz (by simp)
      have e1:((η.rekey id (H.length+Hn.length)).upd (H.length+Hn.length) (η.ι id) (η.hv id) (η.ln id)).hv (H.length+Hn.length)=η.hv id:=by simp [Env.upd]
      rw [e1] at this
      exact this
    ·refine ⟨fun i hi _=>⟨hi,?_,?_,?_⟩,fun _ _ h=>h,fun _ _ _=>rfl,fun _ h=>.inl h,fun i hi _=>by simp [Env.upd,Env.rekey,show i ≠ H.length+Hn.length by omega]⟩<;>simp [Env.upd,Env.rekey,show i ≠ H.length+Hn.length by omega]
   ·cases h
  ·cases h
 | arr id sz lo n =>
  simp only [toRes1] at h
  split at h
  ·rename_i E fr e l ho
   split at h
   ·rename_i hsz
    simp only [Option.some.injEq,Prod.mk.injEq] at h
    obtain ⟨rfl,rfl,rfl⟩:=h
    obtain ⟨J,x⟩:=I.move ho
    have hid:id<H.length:=(List.getElem?_eq_some_iff.1 ho).1
    refine ⟨by simp,by simp,_,J,by simpa using x,fun v hv=>?_,?_⟩
    ·cases hv with
     | arr _ hn hlo hA=>exact .arr (by simp) hn (by simpa [Env.upd] using hlo) (by simpa [Env.upd] using hA)
    ·refine ⟨fun i hi _=>⟨hi,?_,?_,?_⟩,fun _ _ h=>h,fun _ _ _=>rfl,fun _ h=>.inl h,fun _ _ _=>rfl⟩<;>simp [Env.upd,show i ≠ H.length+Hn.length by omega]
   ·cases h
  ·cases h
 | ptr id row sz sub =>
  simp only [toRes1] at h
  split at h
  ·rename_i E fr e l ho
   split at h
   ·rename_i hsz
    simp only [Option.some.injEq,Prod.mk.injEq] at h
    obtain ⟨rfl,rfl,rfl⟩:=h
    obtain ⟨J,x⟩:=I.move ho
    have hid:id<H.length:=(List.getElem?_eq_some_iff.1 ho).1
    refine ⟨by simp,by simp,_,J,by simpa using x,fun v hv=>?_,?_⟩
    ·cases hv with
     | ptr _ hr =>
      have:=@AVR.ptr (η.upd (H.length+Hn.length) (η.ι id) (η.hv id) (η.ln id)) (H.length+(Hn++[AObj.rows E fr e l]).length) w (H.length+Hn.length) row sz sub (by simp) (by simpa [Env.upd] using hr)
      have e1:(η.upd (H.length+Hn.length) (η.ι id) (η.hv id) (η.ln id)).ι (H.length+Hn.length)=η.ι id:=by simp [Env.upd]
      rw [e1] at this
      exact this
    ·refine ⟨fun i hi _=>⟨hi,?_,?_,?_⟩,fun _ _ h=>h,fun _ _ _=>rfl,fun _ h=>.inl h,fun _ _ _=>rfl⟩<;>simp [Env.upd,show i ≠ H.length+Hn.length by omega]
   ·cases h
  ·cases h
 | pre id sz n =>
  simp only [toRes1] at h
  split at h
  ·rename_i E fr e l ho
   split at h
   ·rename_i hsz
    simp only [Option.some.injEq,Prod.mk.injEq] at h
    obtain ⟨rfl,rfl,rfl⟩:=h
    obtain ⟨J,x⟩:=I.moveCut ho n
    have hid:id<H.length:=(List.getElem?_eq_some_iff.1 ho).1
    refine ⟨by simp,by simp,_,J,by simpa using x,fun v hv=>?_,?_⟩
    ·cases hv with
     | @pre _ _ _ m cap A _ hvv hn hc =>
      have:=@AVR.all (η.upd (H.length+Hn.length) (η.ι id) (cutV (η.hv id) n) (l.take n).length) (H.length+(Hn++[AObj.rows E fr e (l.take n)]).length) w (H.length+Hn.length) sz (by simp)
      have e1:(η.upd (H.length+Hn.length) (η.ι id) (cutV (η.hv id) n) (l.take n).length).hv (H.length+Hn.length)=.slice A n cap:=by simp [Env.upd,hvv,cutV,Nat.min_eq_left hn]
      rw [e1] at this
      exact this
    ·refine ⟨fun i hi _=>⟨hi,?_,?_,?_⟩,fun _ _ h=>h,fun _ _ _=>rfl,fun _ h=>.inl h,fun _ _ _=>rfl⟩<;>simp [Env.upd,show i ≠ H.length+Hn.length by omega]
   ·cases h
  ·cases h
 | t fr ty x =>
  simp only [toRes1,Option.some.injEq,Prod.mk.injEq] at h
  obtain ⟨rfl,rfl,rfl⟩:=h
  refine ⟨rfl,Nat.le_refl _,η,I,eid _,fun v hv=>?_,eid _⟩
  cases hv with
  | t h1 hl=>exact .t h1 hl
 | raw u =>
  simp only [toRes1,Option.some.injEq,Prod.mk.injEq] at h
  obtain ⟨rfl,rfl,rfl⟩:=h
  refine ⟨rfl,Nat.le_refl _,η,I,eid _,fun v hv=>?_,eid _⟩
  cases hv with
  | raw=>exact .raw _
 | _=>simp [toRes1] at h

theorem ext_trans' {η η' η'':Env} {k m n:Nat} (a:Ext NoK η k w η' m w) (b:Ext NoK η' m w η'' n w):Ext NoK η k w η'' n w:=a.trans b (fun _ _ _=>⟨rfl,rfl⟩)

theorem toResL_rel:∀ (cs:List AV) (H Hn H' Hn':List AObj) (bs:List AV) (η:Env),toResL H cs Hn=some (bs,H', Hn')→Inv N w0 η (H++Hn) w →
  H'.length=H.length∧Hn.length≤Hn'.length∧∃ η', Inv N w0 η' (H'++Hn') w∧Ext NoK η (H.length+Hn.length) w η' (H.length+Hn'.length) w∧bs.length=cs.length ∧
   (∀ (f:Nat→Value),(∀ i c,cs[i]? = some c→AVR η H.length w c (f i))→∀ i b,bs[i]? = some b→AVR η' (H.length+Hn'.length) w (b.shift1 H.length) (f i))∧Ext NoK η H.length w η' H.length w:=by
 intro cs
 induction cs with
 | nil =>
  intro H Hn H' Hn' bs η h I
  simp only [toResL,Option.some.injEq,Prod.mk.injEq] at h
  obtain ⟨rfl,rfl,rfl⟩:=h
  exact ⟨rfl,Nat.le_refl _,η,I,Ext.refl,rfl,fun f _ i b hi=>by simp at hi,Ext.refl⟩
 | cons c cs ih =>
  intro H Hn H' Hn' bs η h I
  simp only [toResL] at h
  obtain ⟨⟨b1,H1,Hn1⟩,h1,h2⟩:=Option.bind_eq_some_iff.1 h
  obtain ⟨⟨bs2,H2,Hn2⟩,h3,h4⟩:=Option.map_eq_some_iff.1 h2
  simp only [Prod.mk.injEq] at h4
  obtain ⟨rfl,rfl,rfl⟩:=h4
  obtain ⟨l1,n1,η1,I1,x1,r1,y1⟩:=toRes1_rel h1 I
  obtain ⟨l2,n2,η2,I2,x2,e2,r2,y2⟩:=ih H1 Hn1 _ _ bs2 η1 h3 I1
  rw [l1] at l2 x2 r2 y2
  refine ⟨l2,by omega,η2,I2,ext_trans' x1 x2,by simp [e2],fun f hf i b hi=>?_,ext_trans' y1 y2⟩
  cases i with
  | zero =>
   obtain rfl:b1=b:=by simpa using hi
   exact (r1 _ (hf 0 c rfl)).ext x2
  | succ i=>exact r2 (fun i=>f (i+1)) (fun i d hd=>(hf (i+1) d (by simpa using hd)).ext y1) i b (by simpa using hi)

theorem toRes2_rel {H Hn H' Hn':List AObj} {a b:AV} (h:toRes2 H a Hn=some (b,H', Hn')) (I:Inv N w0 η (H++Hn) w) :
  H'.length=H.length∧Hn.length≤Hn'.length∧∃ η', Inv N w0 η' (H'++Hn') w∧Ext NoK η (H.length+Hn.length) w η' (H.length+Hn'.length) w∧(∀ v,AVR η H.length w a v→AVR η' (H.length+Hn'.length) w (b.shift2 H.length) v)∧Ext NoK η H.length w η' H.length w:=by
 have simple:toRes1 H a Hn=some (b,H', Hn')→(∀ k,b.shift2 k=b.shift1 k)→(H'.length=H.length∧Hn.length≤Hn'.length∧∃ η', Inv N w0 η' (H'++Hn') w∧Ext NoK η (H.length+Hn.length) w η' (H.length+Hn'.length) w∧(∀ v,AVR η H.length w a v→AVR η' (H.length+Hn'.length) w (b.shift2 H.length) v)∧Ext NoK η H.length w η' H.length w):=fun h1 hb=>by
  rw [hb]
  exact toRes1_rel h1 I
 cases a with
 | agg cs =>
  simp only [toRes2] at h
  obtain ⟨⟨bs,H1,Hn1⟩,h1,h2⟩:=Option.map_eq_some_iff.1 h
  simp only [Prod.mk.injEq] at h2
  obtain ⟨rfl,rfl,rfl⟩:=h2
  obtain ⟨l1,n1,η1,I1,x1,e1,r1,y1⟩:=toResL_rel cs H Hn _ _ bs η h1 I
  refine ⟨l1,n1,η1,I1,x1,fun v hv=>?_,y1⟩
  cases hv with
  | @agg _ vs hsz hc =>
   refine .agg (by simp [hsz,e1]) (fun i c hi=>?_)
   obtain ⟨y,hy,rfl⟩:=getElem?_map_some hi
   exact r1 (fun i=>vs.getD i undef) hc i y hy
 | all id sz=>exact simple h (by simp only [toRes2,toRes1] at h;split at h<;>(try split at h)<;>simp at h<;>(obtain ⟨rfl,_⟩:=h;intro k;rfl))
 | arr id sz lo n=>exact simple h (by simp only [toRes2,toRes1] at h;split at h<;>(try split at h)<;>simp at h<;>(obtain ⟨rfl,_⟩:=h;intro k;rfl))
 | ptr id row sz sub=>exact simple h (by simp only [toRes2,toRes1] at h;split at h<;>(try split at h)<;>simp at h<;>(obtain ⟨rfl,_⟩:=h;intro k;rfl))
 | pre id sz n=>exact simple h (by simp only [toRes2,toRes1] at h;split at h<;>(try split at h)<;>simp at h<;>(obtain ⟨rfl,_⟩:=h;intro k;rfl))
 | t fr ty x=>exact simple h (by simp only [toRes2,toRes1] at h;simp at h;obtain ⟨rfl,_⟩:=h;intro k;rfl)
 | raw u=>exact simple h (by simp only [toRes2,toRes1] at h;simp at h;obtain ⟨rfl,_⟩:=h;intro k;rfl)
 | _=>simp [toRes2,toRes1] at h

theorem toResT_rel:∀ (cs:List AV) (H Hn H' Hn':List AObj) (bs:List AV) (η:Env),toResT H cs Hn=some (bs,H', Hn')→Inv N w0 η (H++Hn) w →
  H'.length=H.length∧Hn.length≤Hn'.length∧∃ η', Inv N w0 η' (H'++Hn') w∧Ext NoK η (H.length+Hn.length) w η' (H.length+Hn'.length) w∧bs.length=cs.length ∧
   (∀ (f:Nat→Value),(∀ i c,cs[i]? = some c→AVR η H.length w c (f i))→∀ i b,bs[i]? = some b→AVR η' (H.length+Hn'.length) w (b.shift2 H.length) (f i))∧Ext NoK η H.length w η' H.length w:=by
 intro cs
 induction cs with
 | nil =>
  intro H Hn H' Hn' bs η h I
  simp only [toResT,Option.some.injEq,Prod.mk.injEq] at h
  obtain ⟨rfl,rfl,rfl⟩:=h
  exact ⟨rfl,Nat.le_refl _,η,I,Ext.refl,rfl,fun f _ i b hi=>by simp at hi,Ext.refl⟩
 | cons c cs ih =>
  intro H Hn H' Hn' bs η h I
  simp only [toResT] at h
  obtain ⟨⟨b1,H1,Hn1⟩,h1,h2⟩:=Option.bind_eq_some_iff.1 h
  obtain ⟨⟨bs2,H2,Hn2⟩,h3,h4⟩:=Option.map_eq_some_iff.1 h2
  simp only [Prod.mk.injEq] at h4
  obtain ⟨rfl,rfl,rfl⟩:=h4
  obtain ⟨l1,n1,η1,I1,x1,r1,y1⟩:=toRes2_rel h1 I
  obtain ⟨l2,n2,η2,I2,x2,e2,r2,y2⟩:=ih H1 Hn1 _ _ bs2 η1 h3 I1
  rw [l1] at l2 x2 r2 y2
  refine ⟨l2,by omega,η2,I2,ext_trans' x1 x2,by simp [e2],fun f hf i b hi=>?_,ext_trans' y1 y2⟩
  cases i with
  | zero =>
   obtain rfl:b1=b:=by simpa using hi
   exact (r1 _ (hf 0 c rfl)).ext x2
  | succ i=>exact r2 (fun i=>f (i+1)) (fun i d hd=>(hf (i+1) d (by simpa using hd)).ext y1) i b (by simpa using hi)

def Env.off (η:Env) (k:Nat):Env:={ ι:=fun i=>η.ι (k+i),hv:=fun i=>η.hv (k+i),ln:=fun i=>η.ln (k+i),Z:=η.Z,nv:=fun i=>η.nv (k+i),O:=fun b=>(η.O b).bind fun q=>if k≤q.1 then some (q.1 - k,q.2) else none }

theorem Inv.drop {H Hn:List AObj} (I:Inv N w0 η (H++Hn) w) (hf:Hn.all AObj.fresh=true):Inv N w0 (η.off H.length) Hn w:=by
 have get:∀ (i:Nat) (o:AObj),Hn[i]? = some o→(H++Hn)[H.length+i]? = some o:=fun i o h=>by rw [List.getElem?_append_right (by omega)];simpa using h
 have hm:∀ (i:Nat) (o:AObj),o.mat (η.off H.length) i↔o.mat η (H.length+i):=fun i o=>by cases o<;>exact Iff.rfl
 refine ⟨I.nlt,I.fr,I.zlt,I.zsub,I.znew,fun i=>I.hvs _,fun i o ho=>?_,fun i o ho m=>I.own _ o (get i o ho) ((hm i o).1 m),fun i j o p ho hp mo mp he=>?_,fun b q hb=>?_,fun _ _ _=>I.nvs _ _ _⟩
 ·have R:=I.obj _ o (get i o ho)
  have hfr:=List.all_eq_true.1 hf o (List.mem_of_getElem? ho)
  cases o with
  | rows E fr e l=>exact R
  | deep E Es e l =>
   obtain ⟨r1,r2⟩:=R
   refine ⟨r1,r2.imp (fun h=>h) ?_⟩
   rintro ⟨c,cap,q2,q3,q4,q5,q6,q7⟩
   exact ⟨c,cap,q2,q3,q4,q5,q6,fun x y hy=>Own.ren (η:=η) (η':=η.off H.length) (w:=w) (w':=w) (id:=H.length+i) (j:=i) rfl (fun b r q hb=>⟨by simp [Env.off,hb],rfl⟩) _ _ _ _ _ (q7 x y hy)⟩
  | _=>simp [AObj.fresh] at hfr
 ·have:=I.inj _ _ o p (get i o ho) (get j p hp) ((hm i o).1 mo) ((hm j p).1 mp) he
  omega
 ·simp only [Env.off] at hb
  obtain ⟨q0,h1,_⟩:=Option.bind_eq_some_iff.1 hb
  obtain ⟨d1,d2,d3,d4⟩:=I.dep b q0 h1
  exact ⟨d1,d2,d3,fun i o ho m=>d4 _ o (get i o ho) ((hm i o).1 m)⟩

theorem off1_rel {k n:Nat} {x:AV} {v:Value} (hf:freshAV1 x=true) (r:AVR η (k+n) w (x.shift1 k) v):AVR (η.off k) n w x v:=by
 cases x with
 | t fr ty y=>cases r with
  | t h1 hl=>exact .t h1 hl
 | raw u=>cases r with
  | raw=>exact .raw _
 | all id sz=>cases r with
  | all hid=>exact @AVR.all (η.off k) n w id sz (by omega)
 | arr id sz lo n'=>cases r with
  | arr hid hn hlo hA=>exact .arr (by omega) hn hlo hA
 | ptr id row sz sub=>cases r with
  | ptr hid hr=>exact .ptr (η:=η.off k) (by omega) hr
 | _=>simp [freshAV1] at hf

theorem off2_rel {k n:Nat} {x:AV} {v:Value} (hf:freshAV2 x=true) (r:AVR η (k+n) w (x.shift2 k) v):AVR (η.off k) n w x v:=by
 cases x with
 | agg cs=>cases r with
  | @agg _ vs hsz hc =>
   refine .agg (by simpa using hsz) (fun i c hi=>?_)
   exact off1_rel (List.all_eq_true.1 hf c (List.mem_of_getElem? hi)) (hc i _ (by rw [List.getElem?_map,hi];rfl))
 | t fr ty y=>exact off1_rel (x:=.t fr ty y) hf r
 | raw u=>exact off1_rel (x:=.raw u) rfl r
 | all id sz=>exact off1_rel (x:=.all id sz) rfl r
 | arr id sz lo n'=>exact off1_rel (x:=.arr id sz lo n') rfl r
 | ptr id row sz sub=>exact off1_rel (x:=.ptr id row sz sub) rfl r
 | _=>simp [freshAV2,freshAV1] at hf

theorem off_rel {k n:Nat} {x:AV} {v:Value} (hf:freshAV x=true) (r:AVR η (k+n) w (x.shift k) v):AVR (η.off k) n w x v:=by
 cases x with
 | tup cs=>cases r with
  | @tup _ vs hsz hc =>
   refine .tup (by simpa using hsz) (fun i c hi=>?_)
   exact off2_rel (List.all_eq_true.1 hf c (List.mem_of_getElem? hi)) (hc i _ (by rw [List.getElem?_map,hi];rfl))
 | agg cs=>exact off2_rel (x:=.agg cs) hf r
 | t fr ty y=>exact off2_rel (x:=.t fr ty y) hf r
 | raw u=>exact off2_rel (x:=.raw u) rfl r
 | all id sz=>exact off2_rel (x:=.all id sz) rfl r
 | arr id sz lo n'=>exact off2_rel (x:=.arr id sz lo n') rfl r
 | ptr id row sz sub=>exact off2_rel (x:=.ptr id row sz sub) rfl r
 | _=>simp [freshAV,freshAV2,freshAV1] at hf

theorem toRes_rel {H Hn:List AObj} {a b:AV} (h:toRes H a=some (b,Hn)) (I:Inv N w0 η H w) (h1:freshAV b=true) (h2:Hn.all AObj.fresh=true) {v:Value} (r:AVR η H.length w a v) :
  ∃ η', Inv N w0 η' Hn w∧AVR η' Hn.length w b v:=by
 have I0:Inv N w0 η (H++[]) w:=by simpa using I
 have simple:(toRes2 H a []).map (fun q=>(q.1,q.2.2))=some (b,Hn)→(∀ k,b.shift k=b.shift2 k)→∃ η', Inv N w0 η' Hn w∧AVR η' Hn.length w b v:=by
  intro h hb
  obtain ⟨⟨b1,H1,Hn1⟩,g1,g2⟩:=Option.map_eq_some_iff.1 h
  simp only [Prod.mk.injEq] at g2
  obtain ⟨rfl,rfl⟩:=g2
  obtain ⟨l1,n1,η1,I1,x1,r1,y1⟩:=toRes2_rel g1 I0
  rw [← l1] at r1
  exact ⟨_,I1.drop h2,off_rel h1 (by rw [hb];exact r1 v (by rw [l1];exact r))⟩
 cases a with
 | tup cs =>
  simp only [toRes] at h
  obtain ⟨⟨bs,H1,Hn1⟩,g1,g2⟩:=Option.map_eq_some_iff.1 h
  simp only [Prod.mk.injEq] at g2
  obtain ⟨rfl,rfl⟩:=g2
  obtain ⟨l1,n1,η1,I1,x1,e1,r1,y1⟩:=toResT_rel cs H [] _ _ bs η g1 I0
  rw [← l1] at r1
  refine ⟨_,I1.drop h2,off_rel h1 ?_⟩
  cases r with
  | @tup _ vs hsz hc =>
   refine .tup (by simp [hsz,e1]) (fun i c hi=>?_)
   obtain ⟨y,hy,rfl⟩:=getElem?_map_some hi
   exact r1 (fun i=>vs.getD i undef) (by rw [l1];exact hc) i y hy
 | agg cs =>
  refine simple h (fun k=>?_)
  simp only [toRes,toRes2] at h
  obtain ⟨q,g1,g2⟩:=Option.map_eq_some_iff.1 h
  obtain ⟨q', g3,g4⟩:=Option.map_eq_some_iff.1 g1
  rw [← g4] at g2
  simp only [Prod.mk.injEq] at g2
  rw [← g2.1];rfl
 | all id sz=>exact simple h (by simp only [toRes,toRes2,toRes1] at h;split at h<;>(try split at h)<;>simp at h<;>(obtain ⟨rfl,_⟩:=h;intro k;rfl))
 | arr id sz lo n=>exact simple h (by simp only [toRes,toRes2,toRes1] at h;split at h<;>(try split at h)<;>simp at h<;>(obtain ⟨rfl,_⟩:=h;intro k;rfl))
 | ptr id row sz sub=>exact simple h (by simp only [toRes,toRes2,toRes1] at h;split at h<;>(try split at h)<;>simp at h<;>(obtain ⟨rfl,_⟩:=h;intro k;rfl))
 | pre id sz n=>exact simple h (by simp only [toRes,toRes2,toRes1] at h;split at h<;>(try split at h)<;>simp at h<;>(obtain ⟨rfl,_⟩:=h;intro k;rfl))
 | t fr ty x=>exact simple h (by simp only [toRes,toRes2,toRes1] at h;simp at h;obtain ⟨rfl,_⟩:=h;intro k;rfl)
 | raw u=>exact simple h (by simp only [toRes,toRes2,toRes1] at h;simp at h;obtain ⟨rfl,_⟩:=h;intro k;rfl)
 | _=>simp [toRes,toRes2,toRes1] at h

theorem SR.freezeA [DF] {η0:Env} {h0:Nat} {we:World} (s:SR N w0 η0 h0 we η st a w) (x:AV):∃ η', SR N w0 η0 h0 we η' (st.freezeA x).2 a w∧Ext NoK η st.heap.length w η' (st.freezeA x).2.heap.length w∧(st.freezeA x).2.heap.length=st.heap.length ∧
    ∀ v,AVR η st.heap.length w x v→AVR η' (st.freezeA x).2.heap.length w (st.freezeA x).1 v:=by
  cases x with
  | agg cs =>
    obtain ⟨η', s', x', l1,l2,r⟩:=SR.freezeL cs st η s
    refine ⟨η', s', x', l2,fun v hv=>?_⟩
    cases hv with
    | @agg _ vs hsz hc=>exact .agg (by rw [hsz];exact l1.symm) (r (fun i=>vs.getD i undef) hc)
  | _ => obtain ⟨η', s', x', r, l⟩ := s.freeze1 _
         exact ⟨η', s', x', l,r⟩

theorem SR.freezeT [DF] {η0:Env} {h0:Nat} {we:World}:∀ (cs:List AV) (st:St) (η:Env),SR N w0 η0 h0 we η st a w →
  ∃ η', SR N w0 η0 h0 we η' (St.freezeT cs st).2 a w∧Ext NoK η st.heap.length w η' (St.freezeT cs st).2.heap.length w∧(St.freezeT cs st).1.length=cs.length∧(St.freezeT cs st).2.heap.length=st.heap.length ∧
   ∀ (f:Nat→Value),(∀ j c,cs[j]? = some c→AVR η st.heap.length w c (f j))→∀ j c,(St.freezeT cs st).1[j]? = some c→AVR η' (St.freezeT cs st).2.heap.length w c (f j):=by
 intro cs
 induction cs with
 | nil=>intro st η s;exact ⟨η,s,Ext.refl,rfl,rfl,fun f _ j c hj=>by simp [St.freezeT] at hj⟩
 | cons c r ih =>
  intro st η s
  obtain ⟨η1,s1,x1,l1,r1⟩:=s.freezeA c
  obtain ⟨η2,s2,x2,l2,l3,r2⟩:=ih _ η1 s1
  refine ⟨η2,s2,x1.trans x2 (fun _ _ _=>⟨rfl,rfl⟩),by simp [St.freezeT,l2],by simp only [St.freezeT];rw [l3,l1],fun f hf j y hj=>?_⟩
  simp only [St.freezeT] at hj ⊢
  cases j with
  | zero =>
   obtain rfl:(st.freezeA c).1=y:=by simpa using hj
   exact (r1 _ (hf 0 c rfl)).ext x2
  | succ j=>exact r2 (fun j=>f (j+1)) (fun j d hd=>(hf (j+1) d (by simpa using hd)).ext x1) j y (by simpa using hj)

theorem SR.roRes [DF] {η0:Env} {h0:Nat} {we:World} (ro:Bool) (s:SR N w0 η0 h0 we η st a w) (x:AV):∃ η', SR N w0 η0 h0 we η' (Eng.roRes ro st x).2 a w ∧
    ∀ v,AVR η st.heap.length w x v→AVR η' (Eng.roRes ro st x).2.heap.length w (Eng.roRes ro st x).1 v:=by
  cases ro with
  | false=>exact ⟨η,s,fun v hv=>hv⟩
  | true =>
    cases x with
    | tup cs =>
      obtain ⟨η', s', x', l1,l2,r⟩:=SR.freezeT cs st η s
      refine ⟨η', s', fun v hv=>?_⟩
      cases hv with
      | @tup _ vs hsz hc=>exact .tup (by rw [hsz];exact l1.symm) (r (fun i=>vs.getD i undef) hc)
    | _ => obtain ⟨η', s', x', l, r⟩ := s.freezeA _
           exact ⟨η', s', r⟩

theorem coer1_rel {h:Nat} {ty:Ty} {a:AV} {v:Value} (r:AVR η h w a v):AVR η h w (coer1 ty a) v:=by
 simp only [coer1]
 split
 ·cases r with
  | raw=>exact .t rfl ⟨none,0,rfl,Nat.le_refl _,.inl rfl⟩
 ·exact r
theorem coerL_rel {h:Nat}:∀ (l:List Ty) (as:List AV),(coerL l as).length=as.length∧∀ (f:Nat→Value),(∀ i c,as[i]? = some c→AVR η h w c (f i))→∀ i c,(coerL l as)[i]? = some c→AVR η h w c (f i):=by
 intro l
 induction l with
 | nil=>intro as;exact ⟨rfl,fun f hf=>hf⟩
 | cons t r ih=>intro as;cases as with
  | nil=>exact ⟨rfl,fun f hf=>hf⟩
  | cons a as =>
   obtain ⟨q1,q2⟩:=ih as
   refine ⟨by simp [coerL,q1],fun f hf i c hc=>?_⟩
   cases i with
   | zero =>
    obtain rfl:coer1 t a=c:=by simpa [coerL] using hc
    exact coer1_rel (hf 0 a rfl)
   | succ i=>exact q2 (fun i=>f (i+1)) (fun i d hd=>hf (i+1) d (by simpa using hd)) i c (by simpa [coerL] using hc)
theorem coer2_rel {h:Nat} {ty:Option Ty} {a:AV} {v:Value} (r:AVR η h w a v):AVR η h w (coer2 ty a) v:=by
 cases ty with
 | none=>exact r
 | some ty =>
  cases a with
  | agg cs =>
   cases r with
   | @agg _ vs hsz hc =>
    obtain ⟨q1,q2⟩:=coerL_rel (η:=η) (w:=w) (h:=h) ty.tys cs
    exact .agg (by rw [hsz];exact q1.symm) (q2 (fun i=>vs.getD i undef) hc)
  | _=>exact coer1_rel r
theorem coerT_rel {h:Nat}:∀ (l:List TypeId) (as:List AV),(coerT tt l as).length=as.length∧∀ (f:Nat→Value),(∀ i c,as[i]? = some c→AVR η h w c (f i))→∀ i c,(coerT tt l as)[i]? = some c→AVR η h w c (f i):=by
 intro l
 induction l with
 | nil=>intro as;exact ⟨rfl,fun f hf=>hf⟩
 | cons t r ih=>intro as;cases as with
  | nil=>exact ⟨rfl,fun f hf=>hf⟩
  | cons a as =>
   obtain ⟨q1,q2⟩:=ih as
   refine ⟨by simp [coerT,q1],fun f hf i c hc=>?_⟩
   cases i with
   | zero =>
    obtain rfl:coer2 (tyOf tt 9 t) a=c:=by simpa [coerT] using hc
    exact coer2_rel (hf 0 a rfl)
   | succ i=>exact q2 (fun i=>f (i+1)) (fun i d hd=>hf (i+1) d (by simpa using hd)) i c (by simpa [coerT] using hc)
theorem coer_rel {h:Nat} {ro:Bool} {ts:List TypeId} {a:AV} {v:Value} (r:AVR η h w a v):AVR η h w (coer ro tt ts a) v:=by
 cases ro with
 | false=>exact r
 | true =>
  have one:AVR η h w (match ts with | [t]=>coer2 (tyOf tt 9 t) a | _=>a) v:=by
   split
   ·exact coer2_rel r
   ·exact r
  cases a with
  | tup cs =>
   cases r with
   | @tup _ vs hsz hc =>
    obtain ⟨q1,q2⟩:=coerT_rel (tt:=tt) (η:=η) (w:=w) (h:=h) ts cs
    exact .tup (by rw [hsz];exact q1.symm) (q2 (fun i=>vs.getD i undef) hc)
  | _=>exact one

theorem PContract.of_run (ro:Bool) (G:Good P tt S QF) {f:FuncId} {fn:Func} (hf:P.funcs[f]? = some fn) {L:Nat→St→Option Tree} (hL:∀ p∈loopsIn 0 (bodyOf fn),LoopWp P (L p.1) p.2) {s:PSumm} (h:∀ args r Hn,s args=some (r,Hn,true)→runP ro P tt S QF L fn args=some (r,Hn)):PContract P f s:=by
 intro args r Hn hs h1 h2 w vs hl hr
 have hrun:=h args _ _ hs
 simp only [runP] at hrun
 split at hrun
 ·rename_i c hc
  refine calls_of_wp hf hc ?_
  have I:=Inv.empty w
  have fin:∀ (st':St) (η':Env) (a':Act) (w':World),((resAV tt fn st').bind fun r0=>toRes (roRes ro (matR ro tt fn.resultTypes.toList r0 st').2 (coer ro tt fn.resultTypes.toList (matR ro tt fn.resultTypes.toList r0 st').1)).2.heap (roRes ro (matR ro tt fn.resultTypes.toList r0 st').2 (coer ro tt fn.resultTypes.toList (matR ro tt fn.resultTypes.toList r0 st').1)).1)=some (r,Hn)→SR (·<w.heap.size) w (envOf w) 0 w η' st' a' w'→a'.defers=[]∧∃ v,(results fn a'.tmps).run P w'=.ok v w'∧∃ v1 η', Ending.returned v=.returned v1∧Inv (·<w.heap.size) w η' Hn w'∧AVR η' Hn.length w' r v1:=by
   intro st' η' a' w' hk s'
   obtain ⟨r1,g1,g2⟩:=Option.bind_eq_some_iff.1 hk
   obtain ⟨v,v1,v2⟩:=resAV_rel G.types s' g1
   obtain ⟨η0,s0,v3⟩:=s'.matR (tt:=tt) (ro:=ro) (ts:=fn.resultTypes.toList) v2
   obtain ⟨η1,s1,r2⟩:=s0.roRes ro (coer ro tt fn.resultTypes.toList (matR ro tt fn.resultTypes.toList r1 st').1)
   obtain ⟨η2,I2,ra⟩:=toRes_rel g2 s1.inv h1 h2 (r2 _ (coer_rel v3))
   exact ⟨s'.sl.defers,v,v1,v,η2,rfl,I2,ra⟩
  refine execC_sound G L c 0 _ _ _ (envOf w) _ w (by simpa [bodyOf,hc] using hL) hrun ?_ (SR.start I hl hr fn)
  intro e st' η' a' w' hk s'
  cases e with
  | normal=>exact fin st' η' a' w' hk s'
  | ret=>exact fin st' η' a' w' hk s'
  | exit id=>simp [finP] at hk
 ·cases hrun
end
end Go.Proofs.Ytccelbeahdcooaa.Eng
