/- The engine, part 22: regions whose order is open: every order comes to the text's order's end. -/
import Derived.Test.YtccelbeahdcooaaE21
namespace Go.Proofs.Ytccelbeahdcooaa.Eng
open Go Go.RowKit
set_option linter.unusedSimpArgs false
set_option linter.unusedVariables false

section
variable {P:Program} {tt:TT} {S:Tab} {QF:FuncId→Bool} {N:Nat→Prop} {w0:World} {η0:Env} {h0:Nat} {we:World} {ops:Array Oper}

theorem Trace.states:∀ {l:List Oper} {st st':St} {tr:List St},Trace P tt S ops l st tr st'→∃ F:Nat→St,F 0=st∧F l.length=st'∧∀ i o,l[i]? = some o→step1 P tt S ops o (F i) (F (i+1)):=by
 intro l
 induction l with
 | nil=>intro st st' tr t;cases t;exact ⟨fun _=>st,rfl,rfl,fun i o h=>by simp at h⟩
 | cons o l ih =>
  intro st st' tr t
  cases t with
  | cons h t =>
   obtain ⟨F,f0,fl,fs⟩:=ih t
   refine ⟨fun i=>match i with | 0=>st | i+1=>F i,rfl,by simpa using fl,fun i x hx=>?_⟩
   cases i with
   | zero =>
    obtain rfl:o=x:=by simpa using hx
    show step1 P tt S ops o st (F 0)
    rw [f0];exact h
   | succ i=>exact fs i x (by simpa using hx)

def wr (ops:Array Oper) (t:Nat):Option Nat:=(List.range ops.size).find? fun j=>dstAt ops j==some t

theorem wr_some {t j:Nat} (h:wr ops t=some j):j<ops.size∧dstAt ops j=some t:=by
 have h1:=List.find?_some h
 have h2:=List.mem_of_find?_eq_some h
 exact ⟨by simpa using h2,by simpa using h1⟩

structure DrawOk (QF:FuncId→Bool) (ops:Array Oper):Prop where
 edge:∀ i o,ops[i]? = some o→∀ e∈o.after,Region.binds .any e=true→e.on<i
 dst:∀ i j t,i<ops.size→j<ops.size→dstAt ops i=some t→dstAt ops j=some t→i=j
 reads:∀ i o,ops[i]? = some o→quietOp QF o=true→∀ t∈readsOf ops o,∀ j,j<ops.size→dstAt ops j=some t→j ≠ i∧(j<i→directAt ops i j=true)∧(i<j→directAt ops j i=true)
 bar:∀ i o,ops[i]? = some o→quietOp QF o=false→o.guard=none∧∀ j,j<ops.size→j ≠ i→(j<i→directAt ops i j=true)∧(i<j→directAt ops j i=true)

theorem drawOk_spec (h:drawOk QF ops=true):DrawOk QF ops:=by
 simp only [drawOk,List.all_eq_true,List.mem_range] at h
 have get:∀ i o,ops[i]? = some o→_:=fun i o ho=>by
  have:=h i (Array.getElem?_eq_some_iff.1 ho).1
  rw [ho] at this
  simp only [Bool.and_eq_true] at this
  exact this
 refine ⟨fun i o ho e he hb=>?_,fun i j t hi hj di dj=>?_,fun i o ho hq t ht j hj dj=>?_,fun i o ho hq=>?_⟩
 ·have:=(get i o ho).1.1
  rw [Array.all_eq_true_iff_forall_mem] at this
  have:=this e he
  simpa [hb] using this
 ·obtain ⟨o,ho⟩:∃ o,ops[i]? = some o:=⟨_,Array.getElem?_eq_getElem hi⟩
  have h2:=(get i o ho).1.2
  rw [List.all_eq_true] at h2
  have h3:=h2 j (by simpa using hj)
  have di':o.dst=some t:=by simpa [dstAt,ho] using di
  simp [di', dj] at h3
  exact h3.symm
 ·have h2:=(get i o ho).2
  rw [if_pos hq,List.all_eq_true] at h2
  have h3:=h2 t ht
  rw [List.all_eq_true] at h3
  have h4:=h3 j (by simpa using hj)
  simp only [dj,beq_self_eq_true,Bool.not_true,Bool.false_or,Bool.and_eq_true,decide_eq_true_eq] at h4
  refine ⟨h4.1,fun hlt=>?_,fun hlt=>?_⟩
  ·have:=h4.2;rw [if_pos hlt] at this;exact this
  ·have:=h4.2;rw [if_neg (by omega)] at this;exact this
 ·have h2:=(get i o ho).2
  rw [hq] at h2
  simp only [Bool.false_eq_true,if_false,Bool.and_eq_true,List.all_eq_true,List.mem_range] at h2
  refine ⟨by simpa using h2.1,fun j hj hne=>?_⟩
  have h3:=h2.2 j hj
  simp only [hne,decide_false,Bool.false_or] at h3
  refine ⟨fun hlt=>?_,fun hlt=>?_⟩
  ·rw [if_pos hlt] at h3;exact h3
  ·rw [if_neg (by omega)] at h3;exact h3

theorem wr_of (D:DrawOk QF ops) {t i:Nat} (hi:i<ops.size) (h:dstAt ops i=some t):wr ops t=some i:=by
 cases hw:wr ops t with
 | none =>
  have:=List.find?_eq_none.1 hw i (by simpa using hi)
  simp [h] at this
 | some j =>
  obtain ⟨h1,h2⟩:=wr_some hw
  rw [D.dst i j t hi h1 h h2]

def slotVal (ops:Array Oper) (F:Nat→St) (res:Nat→AV) (s:Nat) (D:Nat→Bool) (t:Nat):AV :=
 match wr ops t with
 | some j=>if s≤j∧D j=true then res j else (F s).slots.getD t .junk
 | none=>(F s).slots.getD t .junk
def slotsL (ops:Array Oper) (F:Nat→St) (res:Nat→AV) (s:Nat) (D:Nat→Bool):List AV:=(List.range (F s).slots.length).map (slotVal ops F res s D)

theorem slotsL_congr {F:Nat→St} {res:Nat→AV} {s:Nat} {D D':Nat→Bool} (h:∀ j,j<ops.size→s≤j→D j=D' j):slotsL ops F res s D=slotsL ops F res s D':=by
 refine List.map_congr_left fun t _=>?_
 simp only [slotVal]
 split
 ·rename_i j hj
  have hlt:=(wr_some hj).1
  by_cases hs:s≤j
  ·rw [h j hlt hs]
  ·simp [hs]
 ·rfl

theorem slotsL_none {F:Nat→St} {res:Nat→AV} {s:Nat} {D:Nat→Bool} (h:∀ j,j<ops.size→s≤j→D j=false):slotsL ops F res s D=(F s).slots:=by
 refine List.ext_getElem (by simp [slotsL]) fun t h1 h2=>?_
 simp only [slotsL,List.getElem_map,List.getElem_range,slotVal]
 have e:(F s).slots.getD t .junk=(F s).slots[t]:=by simp [List.getD_eq_getElem?_getD,List.getElem?_eq_getElem h2]
 split
 ·rename_i j hj
  have hlt:=(wr_some hj).1
  rw [if_neg (fun hc=>by rw [h j hlt hc.1] at hc;exact absurd hc.2 (by simp))]
  exact e
 ·exact e

theorem slotsL_put (DK:DrawOk QF ops) {F:Nat→St} {res:Nat→AV} {s i:Nat} {D D':Nat→Bool} (hi:i<ops.size) (hs:s≤i) (hD:D i=false) (hD':∀ j,D' j=(D j||j==i)) :
  (match dstAt ops i with | some t=>(slotsL ops F res s D).set t (res i) | none=>slotsL ops F res s D)=slotsL ops F res s D':=by
 cases hd:dstAt ops i with
 | none =>
  refine List.map_congr_left fun u _=>?_
  simp only [slotVal]
  split
  ·rename_i j hj
   have hne:j ≠ i:=fun e=>by
    subst e
    have:=(wr_some hj).2
    rw [hd] at this
    cases this
   simp [hD', hne]
  ·rfl
 | some t =>
  have hw:=wr_of DK hi hd
  refine List.ext_getElem (by simp [slotsL]) fun u h1 h2=>?_
  simp only [slotsL,List.length_map,List.length_range] at h2
  by_cases hu:u=t
  ·subst hu
   rw [List.getElem_set_self]
   simp [slotsL,slotVal,hw,hs,hD']
  ·rw [List.getElem_set_ne (fun e=>hu e.symm)]
   simp only [slotsL,List.getElem_map,List.getElem_range,slotVal]
   split
   ·rename_i j hj
    have hne:j ≠ i:=fun e=>by
     subst e
     have:=(wr_some hj).2
     rw [hd] at this
     exact hu (Option.some.inj this).symm
    simp [hD', hne]
   ·rfl

theorem getD_slotsL {F:Nat→St} {res:Nat→AV} {s:Nat} {D:Nat→Bool} (t:Nat):(slotsL ops F res s D).getD t .junk=if t<(F s).slots.length then slotVal ops F res s D t else .junk:=by
 simp only [slotsL,List.getD_eq_getElem?_getD,List.getElem?_map]
 split
 ·rename_i h;simp [List.getElem?_range h]
 ·rename_i h;simp [List.getElem?_eq_none (show (List.range (F s).slots.length).length≤t by simpa using h)]

theorem wanted_rel [DF] {η:Env} {st:St} {a:Act} {w:World} (s:SR N w0 η0 h0 we η st a w) {o:Oper} {b:Bool} (h:wantedA ops o st.slots=some b):Region.wanted o (yielded ops a.tmps)=b:=by
 simp only [wantedA] at h
 split at h
 ·rename_i hg;simp only [Option.some.injEq] at h;simp [Region.wanted,hg,h]
 ·rename_i j want hg
  split at h
  ·cases h
  ·rename_i d hd
   split at h
   ·rename_i c hc
    have hv:a.tmps.getD d undef=.bool c:=asBool_rel (a:=.t true .bool c) (by have:=ev_slot s d;rwa [hc] at this) rfl
    have hy:=yielded_of (ops:=ops) (j:=j) hd hv
    simp only [Option.some.injEq] at h
    simp [Region.wanted,hg,hy,h]
   ·rename_i vs hc
    have hr:=ev_slot s d
    rw [hc] at hr
    generalize hgv:a.tmps.getD d undef=u at hr
    cases hr with
    | raw =>
     have hy:=yielded_none (ops:=ops) (j:=j) hd hgv
     simp only [Option.some.injEq] at h
     simp [Region.wanted,hg,hy,← h]
   ·cases h

theorem filter_lt {l:List Nat} {p q:Nat→Bool} (h:∀ x,q x=true→p x=true) {i:Nat} (hi:i∈l) (hp:p i=true) (hq:q i=false):(l.filter q).length<(l.filter p).length:=by
 induction l with
 | nil=>simp at hi
 | cons x l ih =>
  have hle:∀ l:List Nat,(l.filter q).length≤(l.filter p).length:=by
   intro l
   induction l with
   | nil=>simp
   | cons y l ih =>
    simp only [List.filter_cons]
    cases hqy:q y with
    | true=>simp [h y hqy];exact ih
    | false=>cases p y<;>simp<;>omega
  rcases List.mem_cons.1 hi with rfl | hm
  ·simp only [List.filter_cons,hp,hq,if_true,Bool.false_eq_true,if_false,List.length_cons]
   have:=hle l;omega
  ·have:=ih hm
   simp only [List.filter_cons]
   cases hqx:q x with
   | true=>simp [h x hqx];exact this
   | false=>cases p x<;>simp<;>omega

theorem draw_sound [DF] (hT:TTok P tt) (hS:TabOk P S) (hQ:QuietTab S QF) (DK:DrawOk QF ops) {F:Nat→St} (hF:∀ i o,ops[i]? = some o→step1 P tt S ops o (F i) (F (i+1))) {Q:Exit→Act→World→Prop}
    (hq:∀ η' a' w', SR N w0 η0 h0 we η' (F ops.size) a' w'→Q .normal a' w') {η:Env} {a:Act} {w:World} (s0:SR N w0 η0 h0 we η (F 0) a w):wpAny P .any ops Q ops.size (Array.replicate ops.size false) a w:=by
  -- what each quiet operation answers
  have hres : ∀ i, ∃ v, ∀ o, ops[i]? = some o → quietOp QF o = true → F (i + 1) = (F i).put o.dst v ∧
      ((wantedA ops o (F i).slots=some true∧∀ K':AV→Option (AV×St),evalOpG P tt S (F i).ev (F i).heap o K'=K' v)∨(wantedA ops o (F i).slots=some false∧v=.raw undef)):=by
    intro i
    cases ho:ops[i]? with
    | none=>exact ⟨.junk,fun o h=>by cases h⟩
    | some o =>
      by_cases hqo:quietOp QF o=true
      · rcases hF i o ho with ⟨hw,v,s1,he,e1⟩ | ⟨hw,e1⟩
        · rw [evalOp_G hQ hqo] at he
          obtain ⟨v', h1,h2⟩:=evalOpG_nat he
          simp only [Option.some.injEq,Prod.mk.injEq] at h1
          obtain ⟨rfl,rfl⟩:=h1
          refine ⟨v', fun o' ho' _=>?_⟩
          obtain rfl:=Option.some.inj ho'
          exact ⟨e1,.inl ⟨hw,h2⟩⟩
        · refine ⟨.raw undef,fun o' ho' _=>?_⟩
          obtain rfl:=Option.some.inj ho'
          exact ⟨e1,.inr ⟨hw,rfl⟩⟩
      · exact ⟨.junk,fun o' ho' hq'=>by obtain rfl:=Option.some.inj ho';exact absurd hq' hqo⟩
  let res:Nat→AV:=fun i=>Classical.choose (hres i)
  have hres' : ∀ i o, ops[i]? = some o → quietOp QF o = true → F (i + 1) = (F i).put o.dst (res i) ∧
      ((wantedA ops o (F i).slots=some true∧∀ K':AV→Option (AV×St),evalOpG P tt S (F i).ev (F i).heap o K'=K' (res i))∨(wantedA ops o (F i).slots=some false∧res i=.raw undef)):=fun i=>Classical.choose_spec (hres i)
  have hdst:∀ i o,ops[i]? = some o→dstAt ops i=o.dst:=fun i o ho=>by simp [dstAt,ho]
  have hget:∀ i,i<ops.size→∃ o,ops[i]? = some o:=fun i hi=>⟨_,Array.getElem?_eq_getElem hi⟩
  have hsz:∀ i o,ops[i]? = some o→i<ops.size:=fun i o ho=>(Array.getElem?_eq_some_iff.1 ho).1
  -- the text's states within a segment
  have seg:∀ s k,s+k≤ops.size→(∀ i,s≤i→i<s+k→∀ o,ops[i]? = some o→quietOp QF o=true)→F (s+k)={ F s with slots:=slotsL ops F res s (fun j=>decide (j<s+k)) }:=by
    intro s k
    induction k with
    | zero =>
      intro _ _
      rw [Nat.add_zero,slotsL_none (fun j _ hj=>by simp;omega)]
    | succ k ih =>
      intro hle hqs
      obtain ⟨o,ho⟩:=hget (s+k) (by omega)
      have e:=(hres' _ o ho (hqs (s+k) (by omega) (by omega) o ho)).1
      rw [← Nat.add_assoc,e,ih (by omega) (fun i h1 h2=>hqs i h1 (by omega))]
      have hp:=slotsL_put DK (F:=F) (res:=res) (s:=s) (i:=s+k) (D:=fun j=>decide (j<s+k)) (D':=fun j=>decide (j<s+k+1)) (by omega) (by omega) (by simp) (fun j=>by
        rw [Bool.eq_iff_iff];simp;omega)
      rw [hdst _ o ho] at hp
      cases hd:o.dst with
      | none=>rw [hd] at hp;simp only [St.put];exact congrArg (fun ss=>({ F s with slots:=ss }:St)) hp
      | some t=>rw [hd] at hp;simp only [St.put];exact congrArg (fun ss=>({ F s with slots:=ss }:St)) hp
  -- every order
  have main : ∀ fuel (listed : Array Bool) (a : Act) (w : World) (s : Nat) (η : Env), listed.size = ops.size → ((List.range ops.size).filter fun i => !listed.getD i true).length ≤ fuel → s ≤ ops.size →
      (∀ j,j<s→listed.getD j false=true)→(∀ j,s≤j→listed.getD j false=true→∀ b,s≤b→b≤j→∀ o,ops[b]? = some o→quietOp QF o=true) →
      (∀ i j,listed.getD i false=true→directAt ops i j=true→listed.getD j false=true)→SR N w0 η0 h0 we η { F s with slots:=slotsL ops F res s (fun j=>listed.getD j false) } a w→wpAny P .any ops Q fuel listed a w:=by
    intro fuel
    induction fuel with
    | zero =>
      intro listed a w s η hls hcnt hs hbelow hseg hcl sr
      have hall:∀ i,i<ops.size→listed.getD i true=true:=by
        intro i hi
        have hnil:((List.range ops.size).filter fun i=>!listed.getD i true)=[]:=List.eq_nil_of_length_eq_zero (by omega)
        have:=List.filter_eq_nil_iff.1 hnil i (by simpa using hi)
        simpa using this
      have hall':∀ i,i<ops.size→listed.getD i false=true:=fun i hi=>by
        have:=hall i hi
        simpa [Array.getD_eq_getD_getElem?,Array.getElem?_eq_getElem (show i<listed.size by omega)] using this
      refine ⟨?_,?_⟩
      · refine List.eq_nil_iff_forall_not_mem.2 fun i hi=>?_
        obtain ⟨h1,o,ho,_⟩:=mem_ready.1 hi
        rw [hall i (hsz i o ho)] at h1
        cases h1
      · have e:=seg s (ops.size - s) (by omega) (fun i h1 h2 o ho=>hseg i h1 (hall' i (hsz i o ho)) i h1 (Nat.le_refl _) o ho)
        rw [show s+(ops.size - s)=ops.size by omega] at e
        refine hq η a w ?_
        rw [e]
        rw [slotsL_congr (D':=fun j=>decide (j<ops.size)) (fun j hj _=>by rw [hall' j hj];simp [hj])] at sr
        exact sr
    | succ fuel ih =>
      intro listed a w s η hls hcnt hs hbelow hseg hcl sr
      refine ⟨fun hr=>?_,fun i hi=>?_⟩
      · -- nothing is left: all are listed
        have hall':∀ i,i<ops.size→listed.getD i false=true:=by
          intro i
          induction i using Nat.strongRecOn with
          | _ i ihi =>
            intro hi
            obtain ⟨o,ho⟩:=hget i hi
            cases hli:listed.getD i false with
            | true=>rfl
            | false =>
              have hm:i∈Region.ready .any ops listed:=mem_ready.2 ⟨by simpa [Array.getD_eq_getD_getElem?,Array.getElem?_eq_getElem (show i<listed.size by omega)] using hli,o,ho,fun e he hb=>ihi _ (DK.edge i o ho e he hb) (by have:=DK.edge i o ho e he hb;omega)⟩
              rw [hr] at hm
              simp at hm
        have e:=seg s (ops.size - s) (by omega) (fun i h1 h2 o ho=>hseg i h1 (hall' i (hsz i o ho)) i h1 (Nat.le_refl _) o ho)
        rw [show s+(ops.size - s)=ops.size by omega] at e
        refine hq η a w ?_
        rw [e]
        rw [slotsL_congr (D':=fun j=>decide (j<ops.size)) (fun j hj _=>by rw [hall' j hj];simp [hj])] at sr
        exact sr
      · obtain ⟨hun,o,ho,hedges⟩:=mem_ready.1 hi
        have hin:=hsz i o ho
        have hunf:listed.getD i false=false:=by simpa [Array.getD_eq_getD_getElem?,Array.getElem?_eq_getElem (show i<listed.size by omega)] using hun
        have hdirect:∀ j,directAt ops i j=true→listed.getD j false=true:=by
          intro j hj
          simp only [directAt,ho,Option.map_some,Option.getD_some,Array.any_eq_true', Bool.and_eq_true,beq_iff_eq] at hj
          obtain ⟨e,he,rfl,hb⟩:=hj
          exact hedges e he hb
        have hsi:s≤i:=by
          rcases Nat.lt_or_ge i s with h | h
          · rw [hbelow i h] at hunf;cases hunf
          · exact h
        -- listed,one more
        have hl':∀ j,(listed.setIfInBounds i true).getD j false=(listed.getD j false||j==i):=by
          intro j
          by_cases hj:j=i
          · subst hj;simp [Array.getD_eq_getD_getElem?,Array.getElem?_setIfInBounds,show j<listed.size by omega]
          · simp [Array.getD_eq_getD_getElem?,Array.getElem?_setIfInBounds,Ne.symm hj,hj]
        have hcnt':((List.range ops.size).filter fun k=>!(listed.setIfInBounds i true).getD k true).length≤fuel:=by
          have:=filter_lt (l:=List.range ops.size) (p:=fun k=>!listed.getD k true) (q:=fun k=>!(listed.setIfInBounds i true).getD k true) (fun x hx=>by
            by_cases hxi:x=i
            · subst hxi;simp [Array.getD_eq_getD_getElem?,Array.getElem?_setIfInBounds,show x<listed.size by omega] at hx
            · simpa [Array.getD_eq_getD_getElem?,Array.getElem?_setIfInBounds,Ne.symm hxi] using hx) (i:=i) (by simpa using hin) (by simpa using hun) (by simp [Array.getD_eq_getD_getElem?,Array.getElem?_setIfInBounds,show i<listed.size by omega])
          omega
        have hcl':∀ k j,(listed.setIfInBounds i true).getD k false=true→directAt ops k j=true→(listed.setIfInBounds i true).getD j false=true:=by
          intro k j hk hd
          rw [hl'] at hk ⊢
          simp only [Bool.or_eq_true,beq_iff_eq] at hk ⊢
          rcases hk with hk | rfl
          · exact .inl (hcl k j hk hd)
          · exact .inl (hdirect j hd)
        -- no barrier of this segment lies ahead of it
        have hnob:∀ b,s≤b→b<i→∀ ob,ops[b]? = some ob→quietOp QF ob=true:=by
          intro b h1 h2 ob hob
          cases hqb:quietOp QF ob with
          | true=>rfl
          | false =>
            have hd:=((DK.bar b ob hob hqb).2 i hin (by omega)).2 h2
            have hlb:=hdirect b hd
            exact absurd (hseg b h1 hlb b h1 (Nat.le_refl _) ob hob) (by simp [hqb])
        have eF:=seg s (i - s) (by omega) (fun k h1 h2 ok hok=>hnob k h1 (by omega) ok hok)
        rw [show s+(i - s)=i by omega] at eF
        simp only [wpOp,ho]
        cases hqo:quietOp QF o with
        | true =>
          -- what it reads is what the text's order reads
          have hrd:∀ t∈readsOf ops o,(slotsL ops F res s fun j=>listed.getD j false).getD t .junk=(F i).slots.getD t .junk:=by
            intro t ht
            rw [eF]
            simp only []
            rw [getD_slotsL,getD_slotsL]
            split
            · simp only [slotVal]
              split
              · rename_i j hj
                obtain ⟨hjn,hjd⟩:=wr_some hj
                obtain ⟨hne,h1,h2⟩:=DK.reads i o ho hqo t ht j hjn hjd
                have:listed.getD j false=decide (j<i):=by
                  rcases Nat.lt_or_gt_of_ne hne with hlt | hgt
                  · rw [hdirect j (h1 hlt)];simp [hlt]
                  · cases hlj:listed.getD j false with
                    | false=>simp;omega
                    | true=>rw [hcl j i hlj (h2 hgt)] at hunf;cases hunf
                simp only [this]
              · rfl
            · rfl
          obtain ⟨e1,e2⟩:=hres' i o ho hqo
          have hgs:∀ b,wantedA ops o (F i).slots=some b→wantedA ops o (slotsL ops F res s fun j=>listed.getD j false)=some b:=by
            intro b hb
            simp only [wantedA] at hb ⊢
            split
            · rename_i hg;rw [hg] at hb;exact hb
            · rename_i j want hg
              rw [hg] at hb
              simp only at hb
              split at hb
              · cases hb
              · rename_i d hd
                rw [hrd d (by simp [readsOf,hg,hd])]
                exact hb
          have hnext:∀ (η':Env) (x:Value) (w':World),SR N w0 η0 h0 we η' { F s with slots:=slotsL ops F res s fun j=>listed.getD j false } a w'→AVR η' (F s).heap.length w' (res i) x→wpAny P .any ops Q fuel (listed.setIfInBounds i true) (a.put o.dst x) w':=by
            intro η' x w' s' rx
            refine ih _ _ w' s η' (by simpa using hls) hcnt' hs (fun j hj=>by rw [hl', hbelow j hj];rfl) (fun j h1 h2 b h3 h4 ob hob=>?_) hcl' ?_
            · rw [hl'] at h2
              simp only [Bool.or_eq_true,beq_iff_eq] at h2
              rcases h2 with h2 | rfl
              · exact hseg j h1 h2 b h3 h4 ob hob
              · rcases Nat.lt_or_ge b j with hlt | hge
                · exact hnob b h3 hlt ob hob
                · obtain rfl:b=j:=by omega
                  rw [ho] at hob;obtain rfl:=Option.some.inj hob;exact hqo
            · have hp:=slotsL_put DK (F:=F) (res:=res) (s:=s) (i:=i) (D:=fun j=>listed.getD j false) (D':=fun j=>(listed.setIfInBounds i true).getD j false) hin hsi hunf hl'
              rw [hdst i o ho] at hp
              rw [← hp]
              have:=s'.put o.dst rx
              cases hd:o.dst with
              | none=>rw [hd] at this;exact this
              | some t=>rw [hd] at this;exact this
          rcases e2 with ⟨hw,hv⟩ | ⟨hw,hv⟩
          · have hwa:=wanted_rel sr (hgs _ hw)
            rw [hwa]
            simp only [if_true]
            refine .inl (evalOp_sound (R:=AV×St) (K:=fun v s=>some (v,s)) (r:=(res i,{ F s with slots:=slotsL ops F res s fun j=>listed.getD j false })) hT hS sr ?_ ?_)
            · rw [evalOp_G hQ hqo]
              have hH:(F i).heap=(F s).heap:=by rw [eF]
              rw [evalOpG_congr (ev':=(F i).ev) (fun x hx=>?_)]
              · have:=hv (fun v=>some (v,{ F s with slots:=slotsL ops F res s fun j=>listed.getD j false }))
                rw [hH] at this
                exact this
              · cases x with
                | tmp t=>exact hrd t (by simp only [readsOf,List.mem_append,List.mem_filterMap];exact .inl ⟨.tmp t,by simpa using hx,rfl⟩)
                | _=>rfl
            · intro v st' η' w' x hk s' rx
              simp only [Option.some.injEq,Prod.mk.injEq] at hk
              obtain ⟨rfl,rfl⟩:=hk
              exact hnext η' x w' s' rx
          · have hwa:=wanted_rel sr (hgs _ hw)
            rw [hwa]
            simp only [Bool.false_eq_true,if_false]
            exact hnext η undef w sr (by rw [hv];exact .raw _)
        | false =>
          -- a barrier: all ahead of it is done,nothing behind it
          obtain ⟨hg,hall⟩:=DK.bar i o ho hqo
          have hli:∀ j,j<ops.size→listed.getD j false=decide (j<i):=by
            intro j hj
            rcases Nat.lt_trichotomy j i with hlt | rfl | hgt
            · rw [hdirect j ((hall j hj (by omega)).1 hlt)];simp [hlt]
            · rw [hunf];simp
            · cases hlj:listed.getD j false with
              | false=>simp;omega
              | true=>rw [hcl j i hlj ((hall j hj (by omega)).2 hgt)] at hunf;cases hunf
          have sri:SR N w0 η0 h0 we η (F i) a w:=by
            rw [eF]
            rw [slotsL_congr (D':=fun j=>decide (j<i)) (fun j hj _=>hli j hj)] at sr
            exact sr
          have hw:Region.wanted o (yielded ops a.tmps)=true:=by simp [Region.wanted,hg]
          rw [hw]
          simp only [if_true]
          rcases hF i o ho with ⟨_,v,s1,he,e1⟩ | ⟨hw', _⟩
          · refine .inl (evalOp_sound (R:=AV×St) (K:=fun v s=>some (v,s)) hT hS sri he ?_)
            intro v' st' η' w' x hk s' rx
            simp only [Option.some.injEq,Prod.mk.injEq] at hk
            obtain ⟨rfl,rfl⟩:=hk
            refine ih _ _ w' (i+1) η' (by simpa using hls) hcnt' (by omega) (fun j hj=>?_) (fun j h1 h2=>?_) hcl' ?_
            · rw [hl', hli j (by omega)]
              rcases Nat.lt_or_ge j i with h | h
              · simp [h]
              · obtain rfl:j=i:=by omega
                simp
            · rw [hl'] at h2
              have hjn:j<ops.size:=by
                rcases Nat.lt_or_ge j ops.size with h | h
                · exact h
                · simp [Array.getD_eq_getD_getElem?,Array.getElem?_eq_none (show listed.size≤j by omega)] at h2;omega
              rw [hli j hjn] at h2
              simp at h2;omega
            · rw [slotsL_none (fun j hj h1=>by rw [hl', hli j hj];simp;omega),e1]
              exact s'.put o.dst rx
          · simp [wantedA,hg] at hw'
  refine main ops.size _ a w 0 η (by simp) (by
    have:=List.length_filter_le (fun i=>!(Array.replicate ops.size false).getD i true) (List.range ops.size)
    simpa using this) (Nat.zero_le _) (fun j hj=>by omega) (fun j _ h=>by simp [Array.getD_eq_getD_getElem?,Array.getElem?_replicate] at h;split at h<;>simp at h) (fun i j h=>by simp [Array.getD_eq_getD_getElem?,Array.getElem?_replicate] at h;split at h<;>simp at h) ?_
  rw [slotsL_none (fun j _ _=>by simp [Array.getD_eq_getD_getElem?,Array.getElem?_replicate];split<;>rfl)]
  exact s0
end
end Go.Proofs.Ytccelbeahdcooaa.Eng
