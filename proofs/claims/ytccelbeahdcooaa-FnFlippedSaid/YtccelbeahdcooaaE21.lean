/- The engine, part 21: regions whose order is open, every order. -/
import Derived.Test.YtccelbeahdcooaaE20
namespace Go.Proofs.Ytccelbeahdcooaa.Eng
open Go Go.RowKit
set_option linter.unusedSimpArgs false
set_option linter.unusedVariables false

section
variable {P:Program} {tt:TT} {S:Tab} {QF:FuncId→Bool}

def wantedA (ops:Array Oper) (o:Oper) (ss:List AV):Option Bool :=
 match o.guard with
 | none=>some true
 | some (j,want) =>
  match dstAt ops j with
  | none=>none
  | some d =>
   match ss.getD d .junk with
   | .t true .bool b=>some (b==want)
   | .raw (.tuple _)=>some false
   | _=>none

def step1 (P:Program) (tt:TT) (S:Tab) (ops:Array Oper) (o:Oper) (st st':St):Prop :=
 (wantedA ops o st.slots=some true∧∃ v s1,evalOp P tt S st o (fun v s=>some (v,s))=some (v,s1)∧st'=s1.put o.dst v) ∨
 (wantedA ops o st.slots=some false∧st'=st.put o.dst (.raw undef))

inductive Trace (P:Program) (tt:TT) (S:Tab) (ops:Array Oper):List Oper→St→List St→St→Prop
 | nil {st:St}:Trace P tt S ops [] st [] st
 | cons {o:Oper} {l:List Oper} {st st1 st2:St} {tr:List St} (h:step1 P tt S ops o st st1) (t:Trace P tt S ops l st1 tr st2):Trace P tt S ops (o::l) st (st::tr) st2

theorem evalOp_nat {R:Type} {st:St} {o:Oper} {K:AV→St→Option R} {r:R} (h:evalOp P tt S st o K=some r):∃ v s,K v s=some r∧evalOp P tt S st o (fun v s=>some (v,s))=some (v,s):=by
 cases ho:o.op with
 | pick c x y =>
  simp only [evalOp,ho] at h ⊢
  split at h
  ·rename_i v hc
   rcases cond_some h with ⟨rfl,h⟩ | ⟨rfl,h⟩
   ·exact ⟨_,_,h,by first | rfl | simp [hc]⟩
   ·exact ⟨_,_,h,by first | rfl | simp [hc]⟩
  ·cases h
 | move x=>simp only [evalOp,ho] at h ⊢;exact ⟨_,_,h,rfl⟩
 | assign x=>simp only [evalOp,ho] at h ⊢;exact ⟨_,_,h,rfl⟩
 | makeFunc f a b =>
  cases f with
  | func f =>
   simp only [evalOp,ho] at h ⊢
   split at h
   ·rename_i hc;exact ⟨_,_,h,by rw [if_pos hc]⟩
   ·cases h
  | _=>simp [evalOp,ho] at h
 | _ =>
  simp only [evalOp,ho] at h ⊢
  (repeat' split at h)<;>first
   | (cases h;done)
   | (rename_i hc;obtain ⟨rfl,rfl,rfl,h4,h5⟩:=hc;obtain ⟨hb,h⟩:=cond_none h;refine ⟨_,_,h,?_⟩;simp only [*,and_self,dite_true,if_true,cond_true,true_and,Bool.false_eq_true,if_false];done)
   | (obtain ⟨hb,h⟩:=cond_none h;exact ⟨_,_,h,by simp only [*,cond_true,if_true,if_false,and_self,Bool.false_eq_true];done⟩)
   | exact ⟨_,_,h,by simp only [*,if_true,if_false,and_self,Bool.false_eq_true];done⟩
   | (obtain ⟨hb,h⟩:=cond_none h;exact ⟨_,_,h,by simp_all⟩)
   | exact ⟨_,_,h,by simp_all⟩

theorem put_same {st:St} {d:Nat} {v:AV} (h:st.slots.getD d .junk=v) (hv:v ≠ .junk):st.put (some d) v=st:=by
 have hlt:d<st.slots.length:=by
  rcases Nat.lt_or_ge d st.slots.length with h' | h'
  ·exact h'
  ·rw [List.getD_eq_getElem?_getD,List.getElem?_eq_none h'] at h
   exact absurd h.symm hv
 have:st.slots.set d v=st.slots:=by
  rw [← h,List.getD_eq_getElem?_getD,List.getElem?_eq_getElem hlt]
  exact List.set_getElem_self hlt
 simp only [St.put,this]

theorem execOps_trace {R:Type} (ops:Array Oper):∀ (l:List Oper) (st:St) (K:St→Option R) (r:R),execOps P tt S ops l st K=some r→∃ tr st', Trace P tt S ops l st tr st'∧K st'=some r:=by
 intro l
 induction l with
 | nil=>intro st K r h;exact ⟨[],st,.nil,h⟩
 | cons o rest ih =>
  intro st K r h
  simp only [execOps] at h
  have run:wantedA ops o st.slots=some true→evalOp P tt S st o (fun v st'=>execOps P tt S ops rest (st'.put o.dst v) K)=some r→∃ tr st', Trace P tt S ops (o::rest) st tr st'∧K st'=some r:=by
   intro hw h1
   obtain ⟨v,s,h2,h3⟩:=evalOp_nat h1
   obtain ⟨tr,st', t,hk⟩:=ih _ K r h2
   exact ⟨_,st', .cons (.inl ⟨hw,v,s,h3,rfl⟩) t,hk⟩
  have skip:wantedA ops o st.slots=some false→execOps P tt S ops rest (st.put o.dst (.raw undef)) K=some r→∃ tr st', Trace P tt S ops (o::rest) st tr st'∧K st'=some r:=by
   intro hw h1
   obtain ⟨tr,st', t,hk⟩:=ih _ K r h1
   exact ⟨_,st', .cons (.inr ⟨hw,rfl⟩) t,hk⟩
  split at h
  ·rename_i hg
   exact run (by simp [wantedA,hg]) h
  ·rename_i j want hg
   split at h
   ·cases h
   ·rename_i d hd
    have hd':dstAt ops j=some d:=hd
    split at h
    ·rename_i b hb
     have hw:wantedA ops o st.slots=some (b==want):=by simp only [wantedA,hg,hd', hb]
     rcases cond_some h with ⟨rfl,h⟩ | ⟨rfl,h⟩
     ·rw [put_same hb (by simp)] at h
      cases want with
      | true=>exact run hw h
      | false=>exact skip hw h
     ·rw [put_same hb (by simp)] at h
      cases want with
      | true=>exact skip hw h
      | false=>exact run hw h
    ·rename_i vs hb
     exact skip (by simp only [wantedA,hg,hd', hb]) h
    ·cases h
end
end Go.Proofs.Ytccelbeahdcooaa.Eng
