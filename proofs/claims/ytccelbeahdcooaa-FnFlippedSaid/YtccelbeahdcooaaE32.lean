/- The engine, part 32: regions whose order is open, with operations that float past the barriers. -/
import Derived.Test.YtccelbeahdcooaaE31
namespace Go.Proofs.Ytccelbeahdcooaa.Eng
open Go Go.RowKit
set_option linter.unusedSimpArgs false
set_option linter.unusedVariables false

section
variable {R:Type} {P:Program} {tt:TT} {S:Tab} {QF:FuncId→Bool} {N:Nat→Prop} {w0:World} {η0:Env} {h0:Nat} {we:World} {ops:Array Oper}

structure FloatOk (QF:FuncId→Bool) (ops:Array Oper):Prop where
 edge:∀ i o,ops[i]? = some o→∀ e∈o.after,Region.binds .any e=true→e.on<i
 dst:∀ i j t,i<ops.size→j<ops.size→dstAt ops i=some t→dstAt ops j=some t→i=j
 reads:∀ i o,ops[i]? = some o→∀ t∈readsOf ops o,∀ j,j<ops.size→dstAt ops j=some t→j ≠ i∧(flAt QF ops j=true→j<i)∧(j<i→directAt ops i j=true)∧(i<j→directAt ops j i=true)
 bar:∀ i o,ops[i]? = some o→barAt QF ops i=true→zedAt QF ops i=true
 fl:∀ i o,ops[i]? = some o→flAt QF ops i=true→flOp o=true∧∀ t∈readsOf ops o,∀ j,j<ops.size→dstAt ops j=some t→(j<i∧((flAt QF ops j=true∧bsAt QF ops j≤bsAt QF ops i)∨(flAt QF ops j=false∧j<bsAt QF ops i)))∨(i≤j∧flAt QF ops j=false)
 late:∀ i o,ops[i]? = some o→flAt QF ops i=true→bsAt QF ops i=0∨∃ b,bsAt QF ops i=b+1∧barAt QF ops b=true∧parkAt ops b=false∧reachAt ops 9 i b=true
 park:∀ i p j,i<ops.size→p<i→j<p→parkAt ops p=true→flAt QF ops i=false→flAt QF ops j=false→barAt QF ops j=false→reachAt ops 9 p j=true∨reachAt ops 9 i j=true

theorem floatOk_spec (h:floatOk QF ops=true):FloatOk QF ops:=by
 simp only [floatOk,Bool.and_eq_true] at h
 obtain ⟨h,hpk⟩:=h
 simp only [floatOk0,List.all_eq_true,List.mem_range] at h
 have get:∀ i o,ops[i]? = some o→_:=fun i o ho=>by
  have:=h i (Array.getElem?_eq_some_iff.1 ho).1
  rw [ho] at this
  simp only [Bool.and_eq_true] at this
  exact this
 refine ⟨fun i o ho e he hb=>?_,fun i j t hi hj di dj=>?_,fun i o ho t ht j hj dj=>?_,fun i o ho hb=>?_,fun i o ho hf=>?_,fun i o ho hf=>?_,fun i p j hi hp hj h1 h2 h3 h4=>?_⟩
 case refine_6 =>
  have h2:=(get i o ho).2
  rw [hf] at h2
  simp only [Bool.not_true,Bool.false_or,Bool.and_eq_true,Bool.or_eq_true,beq_iff_eq,Bool.not_eq_true'] at h2
  rcases h2.1.2 with h3 | h3
  ·exact .inl h3
  ·by_cases h0:bsAt QF ops i=0
   ·exact .inl h0
   ·exact .inr ⟨bsAt QF ops i - 1,by omega,h3.1.1,h3.1.2,h3.2⟩
 case refine_7 =>
  have e1:=List.all_eq_true.1 hpk i (by simpa using hi)
  rw [h2,Bool.false_or] at e1
  have e2:=List.all_eq_true.1 e1 p (by simpa using hp)
  rw [h1] at e2
  simp only [Bool.not_true,Bool.false_or] at e2
  have e3:=List.all_eq_true.1 e2 j (by simpa using hj)
  simpa [h3,h4] using e3
 ·have:=(get i o ho).1.1.1.1
  rw [Array.all_eq_true_iff_forall_mem] at this
  have:=this e he
  simpa [hb] using this
 ·obtain ⟨o,ho⟩:∃ o,ops[i]? = some o:=⟨_,Array.getElem?_eq_getElem hi⟩
  have h2:=(get i o ho).1.1.1.2
  rw [List.all_eq_true] at h2
  have h3:=h2 j (by simpa using hj)
  have di':o.dst=some t:=by simpa [dstAt,ho] using di
  simp [di', dj] at h3
  exact h3.symm
 ·have h2:=(get i o ho).1.1.2
  rw [List.all_eq_true] at h2
  have h3:=h2 t ht
  rw [List.all_eq_true] at h3
  have h4:=h3 j (by simpa using hj)
  simp only [dj,beq_self_eq_true,Bool.not_true,Bool.false_or,Bool.and_eq_true,decide_eq_true_eq,Bool.or_eq_true,Bool.not_eq_true'] at h4
  refine ⟨h4.1.1,fun hf=>?_,fun hlt=>?_,fun hlt=>?_⟩
  ·rcases h4.1.2 with h | h
   ·rw [hf] at h;cases h
   ·exact h
  ·have:=h4.2;rw [if_pos hlt] at this;exact this
  ·have:=h4.2;rw [if_neg (by omega)] at this;exact this
 ·have h2:=(get i o ho).1.2
  rw [hb] at h2
  simpa using h2
 ·have h2:=(get i o ho).2
  rw [hf] at h2
  simp only [Bool.not_true,Bool.false_or,Bool.and_eq_true] at h2
  refine ⟨h2.1.1,fun t ht j hj dj=>?_⟩
  have h3:=List.all_eq_true.1 h2.2 t ht
  have h4:=List.all_eq_true.1 h3 j (by simpa using hj)
  simp only [dj,beq_self_eq_true,Bool.not_true,Bool.false_or,decide_eq_true_eq] at h4
  by_cases hji:j<i
  ·rw [if_pos hji] at h4
   refine .inl ⟨hji,?_⟩
   cases hfj:flAt QF ops j with
   | true=>rw [hfj] at h4;exact .inl ⟨rfl,by simpa using h4⟩
   | false=>rw [hfj] at h4;exact .inr ⟨rfl,by simpa using h4⟩
  ·rw [if_neg hji] at h4
   exact .inr ⟨by omega,by simpa using h4⟩

theorem bar_lt {i:Nat} (h:barAt QF ops i=true):i<ops.size:=by
 rcases Nat.lt_or_ge i ops.size with h' | h'
 ·exact h'
 ·simp [barAt,Array.getElem?_eq_none h'] at h
theorem bar_iff {i:Nat} {o:Oper} (ho:ops[i]? = some o):barAt QF ops i=!quietOp QF o:=by simp [barAt,ho]
theorem reach_of {L:Nat→Bool} (hcl:∀ i j,L i=true→directAt ops i j=true→L j=true):∀ n i,(∀ j,directAt ops i j=true→L j=true)→∀ j,reachAt ops n i j=true→L j=true:=by
 intro n
 induction n with
 | zero=>intro i hd j h;exact hd j h
 | succ n ih =>
  intro i hd j h
  simp only [reachAt] at h
  cases ho:ops[i]? with
  | none=>rw [ho] at h;cases h
  | some o =>
   rw [ho] at h
   simp only [Option.map_some,Option.getD_some,Array.any_eq_true', Bool.and_eq_true,Bool.or_eq_true,beq_iff_eq] at h
   obtain ⟨e,he,hb,h⟩:=h
   have h1:directAt ops i e.on=true:=by
    simp only [directAt,ho,Option.map_some,Option.getD_some,Array.any_eq_true', Bool.and_eq_true,beq_iff_eq]
    exact ⟨e,he,rfl,hb⟩
   rcases h with h | h
   ·exact h ▸ hd _ h1
   ·exact ih _ (fun q hq=>hcl _ q (hd _ h1) hq) j h.2
theorem reach_closed {L:Nat→Bool} (hcl:∀ i j,L i=true→directAt ops i j=true→L j=true) {n i j:Nat} (hi:L i=true) (h:reachAt ops n i j=true):L j=true :=
 reach_of hcl n i (fun q hq=>hcl i q hi hq) j h
theorem zed_spec {i:Nat} (h:zedAt QF ops i=true) {b:Nat} (hb:barAt QF ops b=true) (hne:b ≠ i) :
    (b<i→(parkAt ops i=true∧parkAt ops b=false)∨∃ k,barAt QF ops k=true∧b≤k∧k<i∧(k=b∨parkAt ops k=false)∧reachAt ops 9 i k=true) ∧
      (i<b→(parkAt ops b=true∧parkAt ops i=false)∨∃ k,barAt QF ops k=true∧i<k∧k≤b∧(k=b∨parkAt ops b=false)∧reachAt ops 9 k i=true):=by
  have h1:=List.all_eq_true.1 h b (by simpa using bar_lt hb)
  simp only [hb,Bool.not_true,Bool.false_or,Bool.or_eq_true,decide_eq_true_eq] at h1
  refine ⟨fun hlt=>?_,fun hlt=>?_⟩
  · rcases h1 with h1 | h1
    · exact absurd h1 hne
    · rw [if_pos hlt] at h1
      simp only [Bool.or_eq_true,Bool.and_eq_true,Bool.not_eq_true'] at h1
      rcases h1 with h1 | h1
      · obtain ⟨k,hk,h2⟩:=List.any_eq_true.1 h1
        simp only [Bool.and_eq_true,Bool.or_eq_true,beq_iff_eq,Bool.not_eq_true', decide_eq_true_eq] at h2
        exact .inr ⟨k,h2.1.1.1,h2.1.1.2,by simpa using hk,h2.1.2,h2.2⟩
      · exact .inl h1
  · rcases h1 with h1 | h1
    · exact absurd h1 hne
    · rw [if_neg (by omega)] at h1
      simp only [Bool.or_eq_true,Bool.and_eq_true,Bool.not_eq_true'] at h1
      rcases h1 with h1 | h1
      · obtain ⟨k,hk,h2⟩:=List.any_eq_true.1 h1
        simp only [Bool.and_eq_true,Bool.or_eq_true,beq_iff_eq,Bool.not_eq_true', decide_eq_true_eq] at h2
        exact .inr ⟨k, h2.1.1.1, h2.1.1.2, by have : k < b + 1 := by simpa using hk
                                              omega,h2.1.2,h2.2⟩
      · exact .inl h1
theorem park_lt {i:Nat} (h:parkAt ops i=true):i<ops.size:=by
 rcases Nat.lt_or_ge i ops.size with h' | h'
 ·exact h'
 ·simp [parkAt,Array.getElem?_eq_none h'] at h
theorem park_op {i:Nat} {o:Oper} (ho:ops[i]? = some o) (h:parkAt ops i=true):parkOp o=true:=by simpa [parkAt,ho] using h
theorem parkOp_bar {o:Oper} (h:parkOp o=true):quietOp QF o=false:=by
 simp only [parkOp,Bool.and_eq_true] at h
 have h2:=h.2
 simp only [quietOp]
 cases ho:o.op<;>rw [ho] at h2<;>first | rfl | (cases h2;done) | (simp at h2;done)
theorem park_bar {i:Nat} (h:parkAt ops i=true):barAt QF ops i=true:=by
 obtain ⟨o,ho⟩:∃ o,ops[i]? = some o:=⟨_,Array.getElem?_eq_getElem (park_lt h)⟩
 rw [bar_iff ho,parkOp_bar (park_op ho h)];rfl

theorem bars_listed (DK:FloatOk QF ops) {L:Nat→Bool} (hcl:∀ i j,L i=true→directAt ops i j=true→L j=true):∀ b', barAt QF ops b'=true→L b'=true→∀ b,barAt QF ops b=true→b<b'→(parkAt ops b'=false∨parkAt ops b=true)→L b=true:=by
 intro b'
 induction b' using Nat.strongRecOn with
 | _ b' ih =>
  intro hb' hl b hb hlt hpk
  obtain ⟨o,ho⟩:∃ o,ops[b']? = some o:=⟨_,Array.getElem?_eq_getElem (bar_lt hb')⟩
  rcases (zed_spec (DK.bar b' o ho hb') hb (by omega)).1 hlt with ⟨e1,e2⟩ | ⟨k,k1,k2,k3,k5,k4⟩
  ·rcases hpk with h | h
   ·rw [e1] at h;cases h
   ·rw [e2] at h;cases h
  have hk:L k=true:=reach_closed hcl hl k4
  rcases Nat.lt_or_ge b k with h | h
  ·rcases k5 with rfl | k5
   ·exact absurd h (Nat.lt_irrefl _)
   ·exact ih k k3 k1 hk b hb h (.inl k5)
  ·obtain rfl:b=k:=by omega
   exact hk

theorem wr_of' (D:FloatOk QF ops) {t i:Nat} (hi:i<ops.size) (h:dstAt ops i=some t):wr ops t=some i:=by
 cases hw:wr ops t with
 | none =>
  have:=List.find?_eq_none.1 hw i (by simpa using hi)
  simp [h] at this
 | some j =>
  obtain ⟨h1,h2⟩:=wr_some hw
  rw [D.dst i j t hi h1 h h2]

def mixV (QF:FuncId→Bool) (ops:Array Oper) (c:Nat→Nat) (F:Nat→St) (res:Nat→AV) (s:Nat) (D:Nat→Bool) (t:Nat):AV :=
 match wr ops t with
 | some j=>if flAt QF ops j then (if D j then (if s≤c j then res j else (F s).slots.getD t .junk) else .junk) else if s≤j∧D j=true then res j else (F s).slots.getD t .junk
 | none=>(F s).slots.getD t .junk
def mixL (QF:FuncId→Bool) (ops:Array Oper) (c:Nat→Nat) (F:Nat→St) (res:Nat→AV) (s:Nat) (D:Nat→Bool):List AV:=(List.range (F s).slots.length).map (mixV QF ops c F res s D)

theorem getD_range {n:Nat} {f:Nat→AV} (t:Nat):((List.range n).map f).getD t .junk=if t<n then f t else .junk:=by
 simp only [List.getD_eq_getElem?_getD,List.getElem?_map]
 split
 ·rename_i h;simp [List.getElem?_range h]
 ·rename_i h;simp [List.getElem?_eq_none (show (List.range n).length≤t by simpa using h)]

theorem mixL_put (DK:FloatOk QF ops) {c:Nat→Nat} {F:Nat→St} {res:Nat→AV} {s i:Nat} {D D':Nat→Bool} (hi:i<ops.size) (hs:(flAt QF ops i=true∧s≤c i)∨(flAt QF ops i=false∧s≤i)) (hD':∀ j,D' j=(D j||j==i)) :
  (match dstAt ops i with | some t=>(mixL QF ops c F res s D).set t (res i) | none=>mixL QF ops c F res s D)=mixL QF ops c F res s D':=by
 cases hd:dstAt ops i with
 | none =>
  refine List.map_congr_left fun u _=>?_
  simp only [mixV]
  split
  ·rename_i j hj
   have hne:j ≠ i:=fun e=>by
    subst e
    have:=(wr_some hj).2
    rw [hd] at this
    cases this
   simp [hD', hne]
  ·rfl
 | some t =>
  have hw:=wr_of' DK hi hd
  refine List.ext_getElem (by simp [mixL]) fun u h1 h2=>?_
  simp only [mixL,List.length_map,List.length_range] at h2
  by_cases hu:u=t
  ·subst hu
   rw [List.getElem_set_self]
   rcases hs with hs | hs
   ·simp [mixL,mixV,hw,hs.1,hs.2,hD']
   ·simp [mixL,mixV,hw,hs.1,hs.2,hD']
  ·rw [List.getElem_set_ne (fun e=>hu e.symm)]
   simp only [mixL,List.getElem_map,List.getElem_range,mixV]
   split
   ·rename_i j hj
    have hne:j ≠ i:=fun e=>by
     subst e
     have:=(wr_some hj).2
     rw [hd] at this
     exact hu (Option.some.inj this).symm
    simp [hD', hne]
   ·rfl

structure Late (QF:FuncId→Bool) (ops:Array Oper) (b:Nat) (m st':St):Prop where
 heap:st'.heap=m.heap
 base:st'.base=m.base
 killed:st'.killed=m.killed
 len:st'.slots.length=m.slots.length
 slot:∀ t,(∀ j,flAt QF ops j=true→bsAt QF ops j=b→dstAt ops j ≠ some t)→st'.slots.getD t .junk=m.slots.getD t .junk
def FlFact (P:Program) (tt:TT) (S:Tab) (used:List (Nat×List Nat)) (A:St) (i:Nat) (o:Oper):Prop :=
 ∃ v,(∀ d,o.dst=some d→d<A.slots.length→A.slots.getD d .junk=v)∧(∀ K':AV→Option (AV×St),evalOpG P tt S A.ev A.heap o K'=K' v) ∧
  still v=true∧∃ U,(i,U)∈used∧(∀ id∈U,id<A.heap.length)∧(readsH o=true→∀ id∈U,usable A.heap U id=true)∧(∀ id∈namesOf v,id∈U)∧∀ x∈o.op.operands,still (A.ev x)=true∧∀ id∈namesOf (A.ev x),id∈U
def stepC (P:Program) (tt:TT) (S:Tab) (QF:FuncId→Bool) (ops:Array Oper) (used:List (Nat×List Nat)) (i:Nat) (o:Oper) (st st':St):Prop :=
 if flAt QF ops i then st'=st
 else if quietOp QF o then step1 P tt S ops o st st'
 else ((∃ T,touched st o=some T∧∀ p∈used,hangs ops o p.1=true∨(∀ id∈p.2,id ∉ T)∨(lightAt ops p.1=true∧∀ id∈p.2,id ∉ killsOf S st o))∨(isStore o=true∧∀ p∈used,hangs ops o p.1=true∨p.2=[]))∧∃ m,step1 P tt S ops o st m∧Late QF ops (i+1) m st'

theorem usable_some {H:List AObj} {U:List Nat} {id:Nat} (h:usable H U id=true):∃ ob,H[id]? = some ob∧objStill ob=true∧∀ j∈objNames ob,j∈U:=by
 simp only [usable] at h
 split at h
 ·simp only [Bool.and_eq_true,List.all_eq_true] at h
  exact ⟨_,‹_›,h.1,fun j hj=>by simpa using h.2 j hj⟩
 ·cases h
theorem usable_mono {H:List AObj} {U U':List Nat} (hU:∀ j∈U,j∈U') {id:Nat} (h:usable H U id=true):usable H U' id=true:=by
 obtain ⟨ob,h1,h2,h3⟩:=usable_some h
 simp only [usable,h1,h2,Bool.true_and,List.all_eq_true]
 exact fun j hj=>by simpa using hU j (h3 j hj)
theorem mem_behind {H:List AObj} {l:List Nat} {i:Nat} (h:i∈l):i∈behind H l:=by simp [behind,h]

theorem put_getD {st:St} {d:Option Nat} {v:AV} {t:Nat} (h:d ≠ some t):(st.put d v).slots.getD t .junk=st.slots.getD t .junk:=by
 cases d with
 | none=>rfl
 | some d =>
  have:d ≠ t:=fun e=>h (by rw [e])
  simp [St.put,List.getD_eq_getElem?_getD,List.getElem?_set_ne this]
theorem put_getD_self {st:St} {d:Nat} {v:AV} (h:d<st.slots.length):(st.put (some d) v).slots.getD d .junk=v:=by
 simp [St.put,List.getD_eq_getElem?_getD,List.getElem?_set_self h]

theorem flOp_quiet {o:Oper} (h:flOp o=true):quietOp QF o=true:=by
 simp only [flOp,Bool.and_eq_true] at h
 have h2:=h.2
 simp only [quietOp]
 cases ho:o.op with
 | call c =>
  rw [ho] at h2
  simp only at h2 ⊢
  cases hc:c.callee with
  | builtin b=>cases b<;>simp [hc] at h2 ⊢
  | _=>simp [hc] at h2
 | slice t x lo hi mx =>
  cases mx with
  | none=>rfl
  | some m=>rw [ho] at h2;simp at h2
 | _=>first | rfl | (rw [ho] at h2;done) | (rw [ho] at h2;cases h2;done) | (rw [ho] at h2;simp at h2;done)

theorem execFl_spec (hQ:QuietTab S QF) (DK:FloatOk QF ops) {K:List (Nat×List Nat)→St→Option R} {r:R} {b:Nat}:∀ (l:List (Oper×Bool)) (k:Nat) (used:List (Nat×List Nat)) (st:St),(∀ j,l[j]? = (ops[k+j]?).map fun o=>(o,flAt QF ops (k+j)&&bsAt QF ops (k+j)==b))→execFl P tt S l k used st K=some r →
  ∃ used' A0,K used' A0=some r∧(∀ p∈used,p∈used')∧A0.heap=st.heap∧A0.base=st.base∧A0.killed=st.killed∧A0.slots.length=st.slots.length ∧
   (∀ t,(∀ j,k≤j→flAt QF ops j=true→bsAt QF ops j=b→dstAt ops j ≠ some t)→A0.slots.getD t .junk=st.slots.getD t .junk) ∧
   ∀ i o,k≤i→ops[i]? = some o→flAt QF ops i=true→bsAt QF ops i=b→FlFact P tt S used' A0 i o:=by
 intro l
 induction l with
 | nil =>
  intro k used st hl h
  refine ⟨used,st,h,fun _ h=>h,rfl,rfl,rfl,rfl,fun _ _=>rfl,fun i o hi ho=>?_⟩
  have:=hl (i - k)
  rw [show k+(i - k)=i by omega,ho] at this
  simp at this
 | cons p l ih =>
  obtain ⟨o,fl⟩:=p
  intro k used st hl h
  have h00:=hl 0
  simp only [List.getElem?_cons_zero,Nat.add_zero] at h00
  obtain ⟨o', ho,he⟩:=Option.map_eq_some_iff.1 h00.symm
  simp only [Prod.mk.injEq] at he
  obtain ⟨rfl,hfl⟩:=he
  have hl':∀ j,l[j]? = (ops[k+1+j]?).map fun o=>(o,flAt QF ops (k+1+j)&&bsAt QF ops (k+1+j)==b):=fun j=>by
   have:=hl (j+1)
   simp only [List.getElem?_cons_succ] at this
   rw [this,show k+(j+1)=k+1+j by omega]
  have hdlt:∀ {j t:Nat},dstAt ops j=some t→j<ops.size:=fun {j t} h=>by
   rcases Nat.lt_or_ge j ops.size with h' | h'
   ·exact h'
   ·simp [dstAt,Array.getElem?_eq_none h'] at h
  simp only [execFl] at h
  split at h
  ·rename_i hf
   rw [hf,Bool.and_eq_true,beq_iff_eq] at hfl
   obtain ⟨hfk,hbk⟩:=hfl
   have hk:k<ops.size:=(Array.getElem?_eq_some_iff.1 ho).1
   obtain ⟨f1,f2⟩:=DK.fl k o' ho hfk
   have hq:=flOp_quiet (QF:=QF) f1
   rw [evalOp_G hQ hq] at h
   obtain ⟨v,h1,h2⟩:=evalOpG_nat h
   split at h1
   ·rename_i hc
    simp only [Bool.and_eq_true,List.all_eq_true] at hc
    obtain ⟨c1,c2⟩:=hc
    -- the names that it leans on
    obtain ⟨U,u1,u0,u2,u3⟩:∃ U,execFl P tt S l (k+1) ((k,U)::used) (st.put o'.dst v) K=some r∧(∀ id∈U,id<st.heap.length)∧(readsH o'=true→∀ id∈U,usable st.heap U id=true)∧∀ id∈o'.op.operands.toList.flatMap (fun x=>namesOf (st.ev x))++namesOf v,id∈U:=by
     split at h1
     ·split at h1
      ·rename_i hr c3
       exact ⟨_,h1,fun id hid=>(by obtain ⟨ob,q,_⟩:=usable_some (List.all_eq_true.1 c3 id hid);exact (List.getElem?_eq_some_iff.1 q).1),fun _ id hid=>List.all_eq_true.1 c3 id hid,fun id hid=>mem_behind hid⟩
      ·cases h1
     ·rename_i hr
      split at h1
      ·rename_i c3
       exact ⟨_,h1,fun id hid=>by have:=List.all_eq_true.1 c3 id hid;simpa using this,fun h=>absurd h hr,fun id hid=>hid⟩
      ·cases h1
    obtain ⟨used', A0,a1,a2,a3,a4,a5,a6,a7,a9⟩:=ih (k+1) _ _ hl' u1
    have hput:(st.put o'.dst v).heap=st.heap∧(st.put o'.dst v).base=st.base∧(st.put o'.dst v).killed=st.killed∧(st.put o'.dst v).slots.length=st.slots.length:=by cases o'.dst<;>simp [St.put]
    have hdk:dstAt ops k=o'.dst:=by simp [dstAt,ho]
    -- what it reads stays
    have hread:∀ x∈o'.op.operands,A0.ev x=st.ev x:=by
     intro x hx
     cases x with
     | tmp t =>
      have ht:t∈readsOf ops o':=by simp only [readsOf,List.mem_append,List.mem_filterMap];exact .inl ⟨.tmp t,by simpa using hx,rfl⟩
      simp only [St.ev]
      rw [a7 t (fun j hj hfj _ hd=>by
       rcases f2 t ht j (hdlt hd) hd with ⟨h,_⟩ | ⟨_,h⟩
       ·omega
       ·rw [hfj] at h;cases h)]
      refine put_getD (fun e=>?_)
      rcases f2 t ht k hk (by rw [hdk];exact e) with ⟨h,_⟩ | ⟨_,h⟩
      ·omega
      ·rw [hfk] at h;cases h
     | _=>rfl
    refine ⟨used', A0,a1,fun p h=>a2 p (by simp [h]),a3.trans hput.1,a4.trans hput.2.1,a5.trans hput.2.2.1,a6.trans hput.2.2.2,fun t ht=>?_,fun i oi hi hoi hfi hbi=>?_⟩
    ·rw [a7 t (fun j hj=>ht j (by omega))]
     exact put_getD (fun e=>ht k (Nat.le_refl _) hfk hbk (by rw [hdk];exact e))
    ·by_cases hik:i=k
     ·subst hik
      rw [ho] at hoi
      obtain rfl:=Option.some.inj hoi
      refine ⟨v,fun d hd hlt=>?_,fun K'=>?_,c1,U,a2 _ List.mem_cons_self,fun id hid=>by rw [a3,hput.1];exact u0 id hid,fun hr id hid=>by rw [a3,hput.1];exact u2 hr id hid,fun id hid=>u3 id (by simp [hid]),fun x hx=>?_⟩
      ·rw [a7 d (fun j hj _ _ hdj => by
        have:=DK.dst j i d (hdlt hdj) hk hdj (by rw [hdk];exact hd)
        omega),hd]
       exact put_getD_self (by rw [← hput.2.2.2,← a6];exact hlt)
      ·rw [evalOpG_congr (ev':=st.ev) hread,a3,hput.1];exact h2 K'
      ·rw [hread x hx]
       exact ⟨c2 x (by simpa using hx),fun id hid=>u3 id (by
        simp only [List.mem_append,List.mem_flatMap]
        exact .inl ⟨x,by simpa using hx,hid⟩)⟩
     ·exact a9 i oi (by omega) hoi hfi hbi
   ·cases h1
  ·rename_i hf
   have hfk:¬ (flAt QF ops k=true∧bsAt QF ops k=b):=by
    intro h0
    apply hf
    rw [← hfl];simp [h0.1,h0.2]
   obtain ⟨used', A0,a1,a2,a3,a4,a5,a6,a7,a9⟩:=ih (k+1) _ _ hl' h
   refine ⟨used', A0,a1,a2,a3,a4,a5,a6,fun t ht=>a7 t (fun j hj=>ht j (by omega)),fun i oi hi hoi hfi hbi=>?_⟩
   by_cases hik:i=k
   ·subst hik;exact absurd ⟨hfi,hbi⟩ hfk
   ·exact a9 i oi (by omega) hoi hfi hbi

def osOf (QF:FuncId→Bool) (ops:Array Oper):List (Oper×Option Nat):=ops.toList.zipIdx.map fun p=>(p.1,if flAt QF ops p.2 then some (bsAt QF ops p.2) else none)
theorem lateL_get (b j:Nat):(lateL (osOf QF ops) b)[j]? = (ops[0+j]?).map fun o=>(o,flAt QF ops (0+j)&&bsAt QF ops (0+j)==b):=by
 simp only [lateL,osOf,List.getElem?_map,List.getElem?_zipIdx,Nat.zero_add,Array.getElem?_toList]
 cases ops[j]? with
 | none=>rfl
 | some o =>
  simp only [Option.map_some,Option.some.injEq,Prod.mk.injEq,true_and]
  cases hf:flAt QF ops j with
  | true=>simp
  | false=>simp
theorem osOf_get (j:Nat):(osOf QF ops)[j]? = (ops[0+j]?).map fun o=>(o,if flAt QF ops (0+j) then some (bsAt QF ops (0+j)) else none):=by
 simp only [osOf,List.getElem?_map,List.getElem?_zipIdx,Nat.zero_add,Array.getElem?_toList]
 cases ops[j]?<;>rfl

theorem execCore_spec (hQ:QuietTab S QF) (DK:FloatOk QF ops) {K:St→Option R} {r:R}:∀ (l:List (Oper×Option Nat)) (k:Nat) (used:List (Nat×List Nat)) (st:St),(∀ j,l[j]? = (ops[k+j]?).map fun o=>(o,if flAt QF ops (k+j) then some (bsAt QF ops (k+j)) else none))→execCore P tt S QF ops (osOf QF ops) k used l st K=some r →
    ∃ (F:Nat→St) (V:Nat→List (Nat×List Nat)),F k=st∧V k=used∧K (F (k+l.length))=some r∧(∀ i,k≤i→i<k+l.length→∀ p∈V i,p∈V (i+1))∧(∀ i o,k≤i→i<k+l.length→ops[i]? = some o→stepC P tt S QF ops (V i) i o (F i) (F (i+1))) ∧
      ∀ b,k≤b→b<k+l.length→barAt QF ops b=true→∀ i o,ops[i]? = some o→flAt QF ops i=true→bsAt QF ops i=b+1→FlFact P tt S (V (b+1)) (F (b+1)) i o:=by
  intro l
  induction l with
  | nil=>intro k used st _ h;exact ⟨fun _=>st,fun _=>used,rfl,rfl,h,fun i h1 h2=>by simp at h2;omega,fun i o h1 h2=>by simp at h2;omega,fun b h1 h2=>by simp at h2;omega⟩
  | cons p l ih =>
    obtain ⟨o,fl⟩:=p
    intro k used st hl h
    have h00:=hl 0
    simp only [List.getElem?_cons_zero,Nat.add_zero] at h00
    obtain ⟨o', ho,he⟩:=Option.map_eq_some_iff.1 h00.symm
    simp only [Prod.mk.injEq] at he
    obtain ⟨rfl,hfl⟩:=he
    have hl':∀ j,l[j]? = (ops[k+1+j]?).map fun o=>(o,if flAt QF ops (k+1+j) then some (bsAt QF ops (k+1+j)) else none):=fun j=>by
      have:=hl (j+1)
      simp only [List.getElem?_cons_succ] at this
      rw [this,show k+(j+1)=k+1+j by omega]
    have fin : ∀ used' st', execCore P tt S QF ops (osOf QF ops) (k + 1) used' l st' K = some r → (∀ p ∈ used, p ∈ used') → stepC P tt S QF ops used k o' st st' →
        (barAt QF ops k=true→∀ i o,ops[i]? = some o→flAt QF ops i=true→bsAt QF ops i=k+1→FlFact P tt S used' st' i o) →
        ∃ (F:Nat→St) (V:Nat→List (Nat×List Nat)),F k=st∧V k=used∧K (F (k+(l.length+1)))=some r∧(∀ i,k≤i→i<k+(l.length+1)→∀ p∈V i,p∈V (i+1))∧(∀ i o,k≤i→i<k+(l.length+1)→ops[i]? = some o→stepC P tt S QF ops (V i) i o (F i) (F (i+1))) ∧
          ∀ b,k≤b→b<k+(l.length+1)→barAt QF ops b=true→∀ i o,ops[i]? = some o→flAt QF ops i=true→bsAt QF ops i=b+1→FlFact P tt S (V (b+1)) (F (b+1)) i o:=by
      intro used' st' h1 hu h2 hff
      obtain ⟨F,V,f1,v1,f2,f4,f3,f5⟩:=ih (k+1) used' st' hl' h1
      refine ⟨fun i=>if i=k then st else F i,fun i=>if i=k then used else V i,by simp,by simp,?_,fun i hi1 hi2=>?_,fun i o hi1 hi2 ho2=>?_,fun b hb1 hb2 hbb i o ho2 hfi hbi=>?_⟩
      · have:k+(l.length+1) ≠ k:=by omega
        simp only [this,if_false]
        rw [show k+(l.length+1)=k+1+l.length by omega];exact f2
      · by_cases hik:i=k
        · subst hik
          simp only [if_true,show i+1 ≠ i by omega,if_false,v1]
          exact hu
        · simp only [hik,if_false,show i+1 ≠ k by omega]
          exact f4 i (by omega) (by omega)
      · by_cases hik:i=k
        · subst hik
          simp only [if_true,show i+1 ≠ i by omega,if_false,f1]
          rw [ho] at ho2
          obtain rfl:=Option.some.inj ho2
          exact h2
        · simp only [hik,if_false,show i+1 ≠ k by omega]
          exact f3 i o (by omega) (by omega) ho2
      · simp only [show b+1 ≠ k by omega,if_false]
        by_cases hbk:b=k
        · subst hbk
          rw [f1,v1]
          exact hff hbb i o ho2 hfi hbi
        · exact f5 b (by omega) (by omega) hbb i o ho2 hfi hbi
    simp only [execCore] at h
    simp only [List.length_cons]
    cases hf:flAt QF ops k with
    | true =>
      rw [hf] at hfl
      simp only [if_true] at hfl
      subst hfl
      simp only [Option.isSome_some,if_true] at h
      refine fin used st h (fun _ h=>h) (by simp [stepC,hf]) (fun hb=>?_)
      simp only [flAt,Bool.and_eq_true,Bool.not_eq_true'] at hf
      rw [hf.1] at hb;cases hb
    | false =>
      rw [hf] at hfl
      simp only [Bool.false_eq_true,if_false] at hfl
      subst hfl
      simp only [Option.isSome_none,Bool.false_eq_true,if_false] at h
      split at h
      · rename_i hq
        obtain ⟨tr,st', t,hk⟩:=execOps_trace ops _ st _ r h
        cases t with
        | cons h1 t1=>cases t1 with
          | nil=>exact fin used _ hk (fun _ h=>h) (by simp only [stepC,hf,hq];simpa using h1) (fun hb=>by rw [bar_iff ho,hq] at hb;cases hb)
      · rename_i hq
        have late : ∀ st', execFl P tt S (lateL (osOf QF ops) (k + 1)) 0 used st' (fun used' st'' => execCore P tt S QF ops (osOf QF ops) (k + 1) used' l st'' K) = some r →
            ∃ used' st'', execCore P tt S QF ops (osOf QF ops) (k+1) used' l st'' K=some r∧(∀ p∈used,p∈used')∧Late QF ops (k+1) st' st''∧(barAt QF ops k=true→∀ i o,ops[i]? = some o→flAt QF ops i=true→bsAt QF ops i=k+1→FlFact P tt S used' st'' i o):=by
          intro st' h
          obtain ⟨used', A0,a1,a2,a3,a4,a5,a6,a7,a9⟩:=execFl_spec hQ DK _ 0 used st' (lateL_get (k+1)) h
          exact ⟨used', A0,a1,a2,⟨a3,a4,a5,a6,fun t ht=>a7 t (fun j _=>ht j)⟩,fun _ i o ho hfi hbi=>a9 i o (Nat.zero_le _) ho hfi hbi⟩
        split at h
        · rename_i T hT
          split at h
          · rename_i hd
            obtain ⟨tr,st', t,hk⟩:=execOps_trace ops _ st _ r h
            obtain ⟨used', st'', k1,k2,k3,k4⟩:=late _ hk
            cases t with
            | cons h1 t1=>cases t1 with
              | nil =>
                refine fin used' st'' k1 k2 ?_ k4
                simp only [stepC,hf]
                simp only [Bool.false_eq_true,if_false,hq]
                refine ⟨.inl ⟨T,hT,fun p hp=>?_⟩,_,h1,k3⟩
                have:=List.all_eq_true.1 hd p hp
                simp only [Bool.or_eq_true,Bool.and_eq_true,List.all_eq_true] at this
                rcases this with (h | h) | ⟨h1,h2⟩
                · exact .inl h
                · exact .inr (.inl fun id hid=>by have:=h id hid;simpa using this)
                · exact .inr (.inr ⟨h1,fun id hid=>by have:=h2 id hid;simpa using this⟩)
          · cases h
        · split at h
          · rename_i hd
            simp only [Bool.and_eq_true] at hd
            obtain ⟨tr,st', t,hk⟩:=execOps_trace ops _ st _ r h
            obtain ⟨used', st'', k1,k2,k3,k4⟩:=late _ hk
            cases t with
            | cons h1 t1=>cases t1 with
              | nil =>
                refine fin used' st'' k1 k2 ?_ k4
                simp only [stepC,hf]
                simp only [Bool.false_eq_true,if_false,hq]
                exact ⟨.inr ⟨hd.1,fun p hp=>by
                  have:=List.all_eq_true.1 hd.2 p hp
                  simpa only [Bool.or_eq_true,List.isEmpty_iff] using this⟩,_,h1,k3⟩
          · cases h
end
end Go.Proofs.Ytccelbeahdcooaa.Eng
