/- The engine, part 33: regions whose order is open: every order comes to what the text's order comes to. -/
import Derived.Test.YtccelbeahdcooaaE47
namespace Go.Proofs.Ytccelbeahdcooaa.Eng
open Go Go.RowKit
set_option linter.unusedSimpArgs false
set_option linter.unusedVariables false

section
variable {R:Type} {P:Program} {tt:TT} {S:Tab} {QF:FuncId→Bool} {N:Nat→Prop} {w0:World} {η0:Env} {h0:Nat} {we:World} {ops:Array Oper}

theorem SR.forget [DF] {η:Env} {st:St} {a:Act} {w:World} (s:SR N w0 η0 h0 we η st a w) (ss:List AV) (hl:ss.length=st.slots.length) (h:∀ t,t<ss.length→ss.getD t .junk=.junk∨ss.getD t .junk=st.slots.getD t .junk) :
  SR N w0 η0 h0 we η { st with slots:=ss } a w:=by
 refine ⟨s.inv,s.ext,⟨by rw [s.sl.size];exact hl.symm,fun i c hc=>?_,s.sl.defers⟩,s.base⟩
 have hi:=(List.getElem?_eq_some_iff.1 hc).1
 have e:ss.getD i .junk=c:=by rw [List.getD_eq_getElem?_getD,hc];rfl
 rcases h i hi with h1 | h1
 ·rw [e] at h1;subst h1;exact .junk _
 ·rw [e] at h1
  have hi':i<st.slots.length:=by rw [← hl];exact hi
  exact s.sl.slot i c (by rw [h1,List.getD_eq_getElem?_getD,List.getElem?_eq_getElem hi'];rfl)

theorem least_of {p:Nat→Prop} (n:Nat):∃ c,c≤n∧(∀ b,b<c→¬ p b)∧(c<n→p c):=by
 induction n with
 | zero=>exact ⟨0,Nat.le_refl _,fun b h=>by omega,fun h=>by omega⟩
 | succ n ih =>
  obtain ⟨c,h1,h2,h3⟩:=ih
  by_cases hc:c<n
  ·exact ⟨c,by omega,h2,fun _=>h3 hc⟩
  ·obtain rfl:c=n:=by omega
   by_cases hp:p c
   ·exact ⟨c,by omega,h2,fun _=>hp⟩
   ·exact ⟨c + 1, Nat.le_refl _, fun b hb => by
     rcases Nat.lt_or_ge b c with h | h
     ·exact h2 b h
     ·obtain rfl:b=c:=by omega
      exact hp,fun h=>by omega⟩
def closesAt (QF:FuncId→Bool) (ops:Array Oper) (j b:Nat):Prop:=flAt QF ops b=false∧∃ o,ops[b]? = some o∧quietOp QF o=false∧hangs ops o j=true
theorem hangs_listed {L:Nat→Bool} (hcl:∀ i j,L i=true→directAt ops i j=true→L j=true) {i j:Nat} {o:Oper} (ho:ops[i]? = some o) (hd:∀ j,directAt ops i j=true→L j=true) (hc:hangs ops o j=true):L j=true:=by
 simp only [hangs,Array.any_eq_true', Bool.and_eq_true,Bool.or_eq_true,beq_iff_eq] at hc
 obtain ⟨e,he,hb,h2⟩:=hc
 have h3:L e.on=true:=hd e.on (by
  simp only [directAt,ho,Option.map_some,Option.getD_some,Array.any_eq_true', Bool.and_eq_true,beq_iff_eq]
  exact ⟨e,he,rfl,hb⟩)
 rcases h2 with rfl | h2
 ·exact h3
 ·exact reach_closed (L:=L) hcl h3 h2

structure Stable (QF:FuncId→Bool) (ops:Array Oper) (U:List Nat) (rd:Bool) (F:Nat→St) (b s:Nat):Prop where
 slot:∀ t,(∀ j,j<ops.size→dstAt ops j=some t→(flAt QF ops j=true∧bsAt QF ops j≤b)∨(flAt QF ops j=false∧(j<b∨s≤j)))→still ((F b).slots.getD t .junk)=true→(∀ id∈namesOf ((F b).slots.getD t .junk),id∈U)→(F s).slots.getD t .junk=(F b).slots.getD t .junk
 heap:rd=true→∀ id∈U,(F s).heap[id]? = (F b).heap[id]?
theorem Late.eq {b:Nat} {m st':St} (h:Late QF ops b m st') (hno:∀ j,flAt QF ops j=true→bsAt QF ops j ≠ b):st'=m:=by
 have hs:st'.slots=m.slots:=by
  refine List.ext_getElem h.len fun t h1 h2=>?_
  have:=h.slot t (fun j hj hb=>absurd hb (hno j hj))
  simpa [List.getD_eq_getElem?_getD,h1,h2] using this
 obtain ⟨e1,e2,e3,_,_⟩:=h
 cases st';cases m
 simp only at hs e1 e2 e3
 subst hs;subst e1;subst e2;subst e3;rfl

theorem float_sound [DF] (hT:TTok P tt) (hS:TabOk P S) (hQ:QuietTab S QF) (hL:LocalTab S) (DK:FloatOk QF ops) {V:Nat→List (Nat×List Nat)} {F:Nat→St} {stI:St}
    (hI1:(F 0).heap=stI.heap) (hI2:(F 0).base=stI.base) (hI3:(F 0).killed=stI.killed) (hI4:(F 0).slots.length=stI.slots.length)
    (hI5:∀ t,(∀ j,flAt QF ops j=true→bsAt QF ops j=0→dstAt ops j ≠ some t)→(F 0).slots.getD t .junk=stI.slots.getD t .junk)
    (hfl:∀ i o,ops[i]? = some o→flAt QF ops i=true→FlFact P tt S (V (bsAt QF ops i)) (F (bsAt QF ops i)) i o) (hV:∀ i,i<ops.size→∀ p∈V i,p∈V (i+1))
    (hF:∀ i o,ops[i]? = some o→stepC P tt S QF ops (V i) i o (F i) (F (i+1))) {Q:Exit→Act→World→Prop}
    (hq:∀ η' a' w', SR N w0 η0 h0 we η' (F ops.size) a' w'→Q .normal a' w') {η:Env} {a:Act} {w:World} (s0:SR N w0 η0 h0 we η stI a w):wpAny P .any ops Q ops.size (Array.replicate ops.size false) a w:=by
  have hdst:∀ i o,ops[i]? = some o→dstAt ops i=o.dst:=fun i o ho=>by simp [dstAt,ho]
  have hget:∀ i,i<ops.size→∃ o,ops[i]? = some o:=fun i hi=>⟨_,Array.getElem?_eq_getElem hi⟩
  have hsz:∀ i o,ops[i]? = some o→i<ops.size:=fun i o ho=>(Array.getElem?_eq_some_iff.1 ho).1
  have hdlt:∀ {j t:Nat},dstAt ops j=some t→j<ops.size:=fun {j t} h=>by
    rcases Nat.lt_or_ge j ops.size with h' | h'
    · exact h'
    · simp [dstAt,Array.getElem?_eq_none h'] at h
  -- what each quiet operation answers
  have hres : ∀ i, ∃ v, (∀ o, ops[i]? = some o → flAt QF ops i = true → (∀ d, o.dst = some d → d < (F (bsAt QF ops i)).slots.length → (F (bsAt QF ops i)).slots.getD d .junk = v) ∧ (∀ K' : AV → Option (AV × St), evalOpG P tt S (F (bsAt QF ops i)).ev (F (bsAt QF ops i)).heap o K' = K' v) ∧
        still v=true∧∃ U,(i,U)∈V (bsAt QF ops i)∧(∀ id∈U,id<(F (bsAt QF ops i)).heap.length)∧(readsH o=true→∀ id∈U,usable (F (bsAt QF ops i)).heap U id=true)∧(∀ id∈namesOf v,id∈U)∧∀ x∈o.op.operands,still ((F (bsAt QF ops i)).ev x)=true∧∀ id∈namesOf ((F (bsAt QF ops i)).ev x),id∈U) ∧
      (∀ o,ops[i]? = some o→flAt QF ops i=false→quietOp QF o=true→F (i+1)=(F i).put o.dst v ∧
      ((wantedA ops o (F i).slots=some true∧∀ K':AV→Option (AV×St),evalOpG P tt S (F i).ev (F i).heap o K'=K' v)∨(wantedA ops o (F i).slots=some false∧v=.raw undef))) ∧
      (∀ o,ops[i]? = some o→quietOp QF o=false→v=.junk):=by
    intro i
    cases ho:ops[i]? with
    | none=>exact ⟨.junk,(fun o h=>by cases h),(fun o h=>by cases h),(fun o h=>by cases h)⟩
    | some o =>
      cases hf:flAt QF ops i with
      | true =>
        obtain ⟨v,hv⟩:=hfl i o ho hf
        exact ⟨v,(fun o' ho' _=>by obtain rfl:=Option.some.inj ho';exact hv),(fun o' ho' h=>by cases h),(fun o' ho' h=>by
          obtain rfl:=Option.some.inj ho'
          have hb:barAt QF ops i=false:=by
            simp only [flAt,Bool.and_eq_true,Bool.not_eq_true'] at hf
            exact hf.1
          rw [bar_iff ho,h] at hb;cases hb)⟩
      | false =>
        by_cases hqo:quietOp QF o=true
        · have hs:=hF i o ho
          simp only [stepC,hf,Bool.false_eq_true,if_false,hqo,if_true] at hs
          rcases hs with ⟨hw,v,s1,he,e1⟩ | ⟨hw,e1⟩
          · rw [evalOp_G hQ hqo] at he
            obtain ⟨v', h1,h2⟩:=evalOpG_nat he
            simp only [Option.some.injEq,Prod.mk.injEq] at h1
            obtain ⟨rfl,rfl⟩:=h1
            refine ⟨v', (fun o' _ h=>by cases h),(fun o' ho' _ _=>?_),fun o' ho' h=>by obtain rfl:=Option.some.inj ho';rw [hqo] at h;cases h⟩
            obtain rfl:=Option.some.inj ho'
            exact ⟨e1,.inl ⟨hw,h2⟩⟩
          · refine ⟨.raw undef,(fun o' _ h=>by cases h),(fun o' ho' _ _=>?_),fun o' ho' h=>by obtain rfl:=Option.some.inj ho';rw [hqo] at h;cases h⟩
            obtain rfl:=Option.some.inj ho'
            exact ⟨e1,.inr ⟨hw,rfl⟩⟩
        · exact ⟨.junk,(fun o' _ h=>by cases h),(fun o' ho' _ hq'=>by obtain rfl:=Option.some.inj ho';exact absurd hq' hqo),fun _ _ _=>rfl⟩
  let res:Nat→AV:=fun i=>Classical.choose (hres i)
  have hresF:=fun i=>(Classical.choose_spec (hres i)).1
  have hres':=fun i=>(Classical.choose_spec (hres i)).2.1
  have hresJ:=fun i=>(Classical.choose_spec (hres i)).2.2
  change ∀ i o, ops[i]? = some o → flAt QF ops i = true → (∀ d, o.dst = some d → d < (F (bsAt QF ops i)).slots.length → (F (bsAt QF ops i)).slots.getD d .junk = res i) ∧ (∀ K' : AV → Option (AV × St), evalOpG P tt S (F (bsAt QF ops i)).ev (F (bsAt QF ops i)).heap o K' = K' (res i)) ∧
        still (res i)=true∧∃ U,(i,U)∈V (bsAt QF ops i)∧(∀ id∈U,id<(F (bsAt QF ops i)).heap.length)∧(readsH o=true→∀ id∈U,usable (F (bsAt QF ops i)).heap U id=true)∧(∀ id∈namesOf (res i),id∈U)∧∀ x∈o.op.operands,still ((F (bsAt QF ops i)).ev x)=true∧∀ id∈namesOf ((F (bsAt QF ops i)).ev x),id∈U at hresF
  change ∀ i o, ops[i]? = some o → flAt QF ops i = false → quietOp QF o = true → F (i + 1) = (F i).put o.dst (res i) ∧
      ((wantedA ops o (F i).slots=some true∧∀ K':AV→Option (AV×St),evalOpG P tt S (F i).ev (F i).heap o K'=K' (res i))∨(wantedA ops o (F i).slots=some false∧res i=.raw undef)) at hres'
  change ∀ i o,ops[i]? = some o→quietOp QF o=false→res i=.junk at hresJ
  have hput:∀ (st:St) (d:Option Nat) (v:AV),(st.put d v).heap=st.heap∧(st.put d v).base=st.base∧(st.put d v).killed=st.killed∧(st.put d v).slots.length=st.slots.length:=fun st d v=>by cases d<;>simp [St.put]
  -- the first barrier that hangs on j
  let c:Nat→Nat:=fun j=>Classical.choose (least_of (p:=closesAt QF ops j) ops.size)
  have hcb:∀ j b,b<c j→¬ closesAt QF ops j b:=fun j=>(Classical.choose_spec (least_of (p:=closesAt QF ops j) ops.size)).2.1
  have hcc:∀ j,c j<ops.size→closesAt QF ops j (c j):=fun j=>(Classical.choose_spec (least_of (p:=closesAt QF ops j) ops.size)).2.2
  clear_value c
  -- lengths stay
  have lens0 : ∀ s, s < ops.size → (F (s + 1)).slots.length = (F s).slots.length ∧ (F s).heap.length ≤ (F (s + 1)).heap.length := by
      intro s hs
      have I1:(F s).slots.length=(F s).slots.length:=rfl
      have I2:=Nat.le_refl (F s).heap.length
      obtain ⟨o,ho⟩:=hget s (by omega)
      have hst:=hF s o ho
      cases hf:flAt QF ops s with
      | true =>
        simp only [stepC,hf,if_true] at hst
        rw [hst];exact ⟨I1,I2⟩
      | false =>
        by_cases hqo:quietOp QF o=true
        · have e1:=(hres' s o ho hf hqo).1
          obtain ⟨p1,p2,p3,p4⟩:=hput (F s) o.dst (res s)
          exact ⟨by rw [e1,p4]<;>exact I1,by rw [e1,p1]<;>exact I2⟩
        · have hqo':quietOp QF o=false:=by simpa using hqo
          simp only [stepC,hf,Bool.false_eq_true,if_false,hqo'] at hst
          obtain ⟨hchk,m,hst,hm⟩:=hst
          rw [hm.len,hm.heap]
          rcases hst with ⟨hw,v,s1,he,e1⟩ | ⟨hw,e1⟩
          · rcases hchk with ⟨T,hT1,hT2⟩ | ⟨hs1,hs2⟩
            · obtain ⟨kf,B,_⟩:=bar_eff hL hT1 he
              obtain ⟨p1,p2,p3,p4⟩:=hput s1 o.dst v
              exact ⟨by rw [e1,p4,B.slots,List.length_map]<;>exact I1,by rw [e1,p1]<;>exact Nat.le_trans I2 B.len⟩
            · obtain ⟨kf,_,_,t1,t2,_⟩:=store_eff hs1 he
              obtain ⟨p1,p2,p3,p4⟩:=hput s1 o.dst v
              exact ⟨by rw [e1,p4,t1,List.length_map]<;>exact I1,by rw [e1,p1,t2]<;>exact I2⟩
          · obtain ⟨p1,p2,p3,p4⟩:=hput (F s) o.dst (.raw undef)
            exact ⟨by rw [e1,p4]<;>exact I1,by rw [e1,p1]<;>exact I2⟩
  have lens1:∀ s,s<ops.size→(F s).heap.length≤(F (s+1)).heap.length:=fun s hs=>(lens0 s hs).2
  have lens:∀ s,s≤ops.size→(F s).slots.length=(F 0).slots.length∧(F 0).heap.length≤(F s).heap.length:=by
    intro s
    induction s with
    | zero=>intro _;exact ⟨rfl,Nat.le_refl _⟩
    | succ s ih =>
      intro hs
      obtain ⟨I1,I2⟩:=ih (by omega)
      obtain ⟨J1,J2⟩:=lens0 s (by omega)
      exact ⟨J1.trans I1,Nat.le_trans I2 J2⟩
  have lensB:∀ b s,b≤s→s≤ops.size→(F b).heap.length≤(F s).heap.length:=by
    intro b s hb hs
    induction s with
    | zero => obtain rfl : b = 0 := by omega
              exact Nat.le_refl _
    | succ s ih =>
      by_cases hbs:b=s+1
      · subst hbs;exact Nat.le_refl _
      · exact Nat.le_trans (ih (by omega) (by omega)) (lens1 s (by omega))
  have usedB:∀ b s,b≤s→s≤ops.size→∀ p∈V b,p∈V s:=by
    intro b s hb hs
    induction s with
    | zero => obtain rfl : b = 0 := by omega
              exact fun _ h=>h
    | succ s ih =>
      by_cases hbs:b=s+1
      · subst hbs;exact fun _ h=>h
      · exact fun p hp=>hV s (by omega) p (ih (by omega) (by omega) p hp)
  have bsle:∀ j,j<ops.size→flAt QF ops j=true→bsAt QF ops j≤ops.size:=by
    intro j hj hf
    obtain ⟨o,ho⟩:=hget j hj
    rcases DK.late j o ho hf with h | ⟨b,h1,h2,_⟩
    · omega
    · have:=bar_lt h2;omega
  -- what is leaned on stays
  have stab:∀ j U rd b,(rd=true→lightAt ops j=false)→(j,U)∈V b→(∀ id∈U,id<(F b).heap.length)→(rd=true→∀ id∈U,usable (F b).heap U id=true)→∀ s,s≤ops.size→b≤s→s≤c j→Stable QF ops U rd F b s:=by
    intro j U rd b hrd hju hlt hus s
    induction s with
    | zero =>
      intro _ hb _
      obtain rfl:b=0:=by omega
      exact ⟨fun _ _ _ _=>rfl,fun _ _ _=>rfl⟩
    | succ s ih =>
      intro hs hbs hsc
      by_cases hb0:b=s+1
      · subst hb0;exact ⟨fun _ _ _ _=>rfl,fun _ _ _=>rfl⟩
      have I:=ih (by omega) (by omega) (by omega)
      have hhl:=lensB b s (by omega) (by omega)
      have less:∀ t,(∀ j,j<ops.size→dstAt ops j=some t→(flAt QF ops j=true∧bsAt QF ops j≤b)∨(flAt QF ops j=false∧(j<b∨s+1≤j)))→∀ j,j<ops.size→dstAt ops j=some t→(flAt QF ops j=true∧bsAt QF ops j≤b)∨(flAt QF ops j=false∧(j<b∨s≤j)) :=
        fun t h j h1 h2=>(h j h1 h2).imp (fun h=>h) (fun h=>⟨h.1,h.2.imp (fun h=>h) (fun h=>by omega)⟩)
      obtain ⟨o,ho⟩:=hget s (by omega)
      have hst:=hF s o ho
      cases hf:flAt QF ops s with
      | true =>
        simp only [stepC,hf,if_true] at hst
        exact ⟨fun t h1 h2 h3=>by rw [hst];exact I.slot t (less t h1) h2 h3,fun hr id hid=>by rw [hst];exact I.heap hr id hid⟩
      | false =>
        have hne:∀ t,(∀ j,j<ops.size→dstAt ops j=some t→(flAt QF ops j=true∧bsAt QF ops j≤b)∨(flAt QF ops j=false∧(j<b∨s+1≤j)))→o.dst ≠ some t:=fun t h1 e=>by
          rcases h1 s (by omega) (by rw [hdst s o ho];exact e) with ⟨this,_⟩ | ⟨_,this⟩
          · rw [hf] at this;cases this
          · omega
        by_cases hqo:quietOp QF o=true
        · have e1:=(hres' s o ho hf hqo).1
          obtain ⟨p1,p2,p3,p4⟩:=hput (F s) o.dst (res s)
          exact ⟨fun t h1 h2 h3=>by rw [e1,put_getD (hne t h1)];exact I.slot t (less t h1) h2 h3,fun hr id hid=>by rw [e1,p1];exact I.heap hr id hid⟩
        · have hqo':quietOp QF o=false:=by simpa using hqo
          simp only [stepC,hf,Bool.false_eq_true,if_false,hqo'] at hst
          have nohang:hangs ops o j=false:=by
            cases hh:hangs ops o j with
            | false=>rfl
            | true=>exact absurd ⟨hf,o,ho,hqo', hh⟩ (hcb j s (by omega))
          obtain ⟨hchk,m,hst,hm⟩:=hst
          have hju':=usedB b s (by omega) (by omega) _ hju
          have hmt:∀ t,(∀ j,j<ops.size→dstAt ops j=some t→(flAt QF ops j=true∧bsAt QF ops j≤b)∨(flAt QF ops j=false∧(j<b∨s+1≤j)))→(F (s+1)).slots.getD t .junk=m.slots.getD t .junk:=fun t h1 =>
            hm.slot t (fun k hk hkb hkd=>by
              rcases h1 k (hdlt hkd) hkd with ⟨_,h⟩ | ⟨h,_⟩
              · omega
              · rw [hk] at h;cases h)
          rw [show (Stable QF ops U rd F b (s+1))↔_ from ⟨fun h=>(⟨h.1,h.2⟩:_∧_),fun h=>⟨h.1,h.2⟩⟩]
          rw [hm.heap]
          rcases hst with ⟨hw,v,s1,he,e1⟩ | ⟨hw,e1⟩
          case inr =>
            obtain ⟨p1,p2,p3,p4⟩:=hput (F s) o.dst (.raw undef)
            exact ⟨fun t h1 h2 h3=>by rw [hmt t h1,e1,put_getD (hne t h1)];exact I.slot t (less t h1) h2 h3,fun hr id hid=>by rw [e1,p1];exact I.heap hr id hid⟩
          rcases hchk with ⟨T,hT1,hT2⟩ | ⟨hs1,hs2⟩
          · obtain ⟨kf,B,_⟩:=bar_eff hL hT1 he
            obtain ⟨p1,p2,p3,p4⟩:=hput s1 o.dst v
            have hT:(∀ id∈U,id ∉ T)∨(rd=false∧∀ id∈U,id ∉ killsOf S (F s) o):=by
              rcases hT2 (j,U) hju' with h | h | ⟨h1,h2⟩
              · rw [nohang] at h;cases h
              · exact .inl h
              · refine .inr ⟨?_,h2⟩
                cases hr:rd with
                | false=>rfl
                | true=>rw [hrd hr] at h1;cases h1
            have mem:∀ id,id∈U→id∈U∧id<(F b).heap.length:=fun id h=>⟨h,hlt id h⟩
            refine ⟨fun t h1 h2 h3=>?_,fun hr id hid=>?_⟩
            · rw [hmt t h1,e1,put_getD (hne t h1),B.slots]
              have hI:=I.slot t (less t h1) h2 h3
              rw [List.getD_eq_getElem?_getD,List.getElem?_map,← hI]
              cases hg:(F s).slots[t]? with
              | none=>simp [List.getD_eq_getElem?_getD,hg]
              | some c' =>
                have hc:(F s).slots.getD t .junk=c':=by rw [List.getD_eq_getElem?_getD,hg];rfl
                rw [hc]
                rw [hc] at hI
                rw [← hI] at h2 h3
                rcases hT with hT | ⟨_,hT⟩
                · exact B.keep c' h2 (fun id hid=>⟨Nat.lt_of_lt_of_le (mem id (h3 id hid)).2 hhl,hT id (mem id (h3 id hid)).1⟩)
                · exact B.keepK c' h2 (fun id hid=>⟨Nat.lt_of_lt_of_le (mem id (h3 id hid)).2 hhl,hT id (mem id (h3 id hid)).1⟩)
            · rw [e1,p1]
              rcases hT with hT | ⟨hT,_⟩
              case inr=>rw [hT] at hr;cases hr
              obtain ⟨ob,h1,h2,h3⟩:=usable_some (hus hr id (mem id hid).1)
              rw [h1]
              exact B.heap id ob (by rw [I.heap hr id hid];exact h1) (hT id (mem id hid).1) h2 (fun k hk=>⟨by
                obtain ⟨ob', q1,_⟩:=usable_some (hus hr k (h3 k hk))
                exact Nat.lt_of_lt_of_le (List.getElem?_eq_some_iff.1 q1).1 hhl,hT k (h3 k hk)⟩)
          · obtain ⟨kf,t0,_,t1,t2,_⟩:=store_eff hs1 he
            obtain ⟨p1,p2,p3,p4⟩:=hput s1 o.dst v
            rcases hs2 (j,U) hju' with h | h
            · rw [nohang] at h;cases h
            · simp only at h
              subst h
              refine ⟨fun t h1 h2 h3=>?_,fun hr id hid=>by simp at hid⟩
              rw [hmt t h1,e1,put_getD (hne t h1),t1]
              have hI:=I.slot t (less t h1) h2 h3
              rw [List.getD_eq_getElem?_getD,List.getElem?_map,← hI]
              cases hg:(F s).slots[t]? with
              | none=>simp [List.getD_eq_getElem?_getD,hg]
              | some c' =>
                have hc:(F s).slots.getD t .junk=c':=by rw [List.getD_eq_getElem?_getD,hg];rfl
                rw [hc]
                rw [hc] at hI
                rw [← hI] at h2 h3
                exact t0 c' h2 (List.eq_nil_iff_forall_not_mem.2 fun id hid=>by simpa using h3 id hid)
  -- a floating operation's slot,in the text's states
  have flslot:∀ s j d,s≤ops.size→bsAt QF ops j≤s→s≤c j→flAt QF ops j=true→dstAt ops j=some d→d<(F s).slots.length→(F s).slots.getD d .junk=res j:=by
    intro s j d hs hbs hsc hf hd hlt
    obtain ⟨oj,hoj⟩:=hget j (hdlt hd)
    obtain ⟨r1,r2,r3,U,u1,u2,u3,r4,r5⟩:=hresF j oj hoj hf
    have e0:=r1 d (by rw [← hdst j oj hoj];exact hd) (by rw [(lens _ (bsle j (hdlt hd) hf)).1,← (lens s hs).1];exact hlt)
    rw [(stab j U (readsH oj) _ (fun h=>by simp [lightAt,hoj,h]) u1 u2 u3 s hs hbs hsc).slot d (fun k hk hdk=>by rw [← DK.dst j k d (hdlt hd) hk hd hdk];exact .inl ⟨hf,Nat.le_refl _⟩) (by rw [e0];exact r3) (by rw [e0];exact r4),e0]
  -- the text's states within a segment
  have seg : ∀ s k, s + k ≤ ops.size → (∀ i, s ≤ i → i < s + k → barAt QF ops i = false) → (F (s + k)).heap = (F s).heap ∧ (F (s + k)).base = (F s).base ∧ (F (s + k)).killed = (F s).killed ∧ (F (s + k)).slots.length = (F s).slots.length ∧
      ∀ t,t<(F s).slots.length→(F (s+k)).slots.getD t .junk=match wr ops t with | some j=>if flAt QF ops j=false∧s≤j∧j<s+k then res j else (F s).slots.getD t .junk | none=>(F s).slots.getD t .junk:=by
    intro s k
    induction k with
    | zero =>
      intro _ _
      refine ⟨rfl,rfl,rfl,rfl,fun t _=>?_⟩
      split
      · rw [if_neg (by omega)];rfl
      · rfl
    | succ k ih =>
      intro hle hb
      obtain ⟨i1,i2,i3,i4,i5⟩:=ih (by omega) (fun i h1 h2=>hb i h1 (by omega))
      obtain ⟨o,ho⟩:=hget (s+k) (by omega)
      have hbk:=hb (s+k) (by omega) (by omega)
      have hqo:quietOp QF o=true:=by rw [bar_iff ho] at hbk;simpa using hbk
      cases hf:flAt QF ops (s+k) with
      | true =>
        have hst:=hF (s+k) o ho
        simp only [stepC,hf,if_true] at hst
        rw [← Nat.add_assoc,hst]
        refine ⟨i1,i2,i3,i4,fun t ht=>?_⟩
        rw [i5 t ht]
        split
        · rename_i j hj
          by_cases hjk:j=s+k
          · subst hjk;simp [hf]
          · have:(s≤j∧j<s+k)↔(s≤j∧j<s+k+1):=by omega
            simp only [this]
        · rfl
      | false =>
        have e1:=(hres' (s+k) o ho hf hqo).1
        obtain ⟨p1,p2,p3,p4⟩:=hput (F (s+k)) o.dst (res (s+k))
        rw [← Nat.add_assoc,e1]
        refine ⟨p1.trans i1,p2.trans i2,p3.trans i3,p4.trans i4,fun t ht=>?_⟩
        by_cases hd:o.dst=some t
        · have hwt:wr ops t=some (s+k):=wr_of' DK (by omega) (by rw [hdst _ o ho];exact hd)
          rw [hd,put_getD_self (by rw [i4];exact ht),hwt]
          simp [hf]
        · rw [put_getD hd,i5 t ht]
          split
          · rename_i j hj
            have hjk:j ≠ s+k:=fun e=>by
              subst e
              exact hd (by rw [← hdst _ o ho];exact (wr_some hj).2)
            have:(s≤j∧j<s+k)↔(s≤j∧j<s+k+1):=by omega
            simp only [this]
          · rfl
  -- all slots,once the segment's operations ahead of i are done
  have mixEq : ∀ (s i : Nat) (D : Nat → Bool) (t : Nat), s ≤ i → i ≤ ops.size → (∀ b, s ≤ b → b < i → barAt QF ops b = false) → t < (F s).slots.length →
      (∀ j,wr ops t=some j→if flAt QF ops j then D j=true∧bsAt QF ops j≤s else D j=decide (j<i))→mixV QF ops c F res s D t=(F i).slots.getD t .junk:=by
    intro s i D t hsi hin hb ht hD
    obtain ⟨_,_,_,i4,i5⟩:=seg s (i - s) (by omega) (fun b h1 h2=>hb b h1 (by omega))
    rw [show s+(i - s)=i by omega] at i4 i5
    rw [i5 t ht]
    simp only [mixV]
    cases hj:wr ops t with
    | none=>rfl
    | some j =>
      have hd:=hD j hj
      simp only []
      cases hf:flAt QF ops j with
      | true =>
        rw [hf] at hd
        simp only [if_true] at hd
        obtain ⟨hd,hbd⟩:=hd
        simp only [hd,if_true]
        rw [if_neg (show ¬ (true=false∧s≤j∧j<i) by simp)]
        split
        · rename_i hsc
          exact (flslot s j t (by omega) hbd hsc hf (wr_some hj).2 ht).symm
        · rfl
      | false =>
        rw [hf] at hd
        simp only [Bool.false_eq_true,if_false] at hd ⊢
        rw [hd]
        simp
  have hN0:∀ k,N k→k<w0.heap.size:=s0.inv.nlt
  -- what is done was to be done here
  have based : ∀ (listed : Array Bool) (s : Nat), (∀ j, s ≤ j → flAt QF ops j = false → listed.getD j false = true → parkAt ops j = true ∨ ∀ b, s ≤ b → b ≤ j → barAt QF ops b = false) →
      (∀ i j,listed.getD i false=true→directAt ops i j=true→listed.getD j false=true)→∀ j,j<ops.size→flAt QF ops j=true→(∀ k,directAt ops j k=true→listed.getD k false=true)→bsAt QF ops j≤s:=by
    intro listed s hseg hcl j hj hf hl
    obtain ⟨oj,hoj⟩:=hget j hj
    rcases DK.late j oj hoj hf with h | ⟨b,h1,h2,h3,h4⟩
    · omega
    · have hlb:listed.getD b false=true:=reach_of (L:=fun j=>listed.getD j false) hcl 9 j hl b h4
      rcases Nat.lt_or_ge b s with h | h
      · omega
      · rcases hseg b h (by simp [flAt,h2]) hlb with h5 | h5
        · rw [h3] at h5;cases h5
        · rw [h5 b h (Nat.le_refl _)] at h2;cases h2
  have fin : ∀ (listed : Array Bool) (a : Act) (w : World) (s : Nat) (η : Env), s ≤ ops.size → (∀ j, j < ops.size → flAt QF ops j = true → bsAt QF ops j ≤ s) → (∀ i, i < ops.size → listed.getD i false = true) → (∀ j, s ≤ j → flAt QF ops j = false → listed.getD j false = true → ∀ b, s ≤ b → b ≤ j → barAt QF ops b = false) →
      SR N w0 η0 h0 we η { F s with slots:=mixL QF ops c F res s (fun j=>listed.getD j false) } a w→Q .normal a w:=by
    intro listed a w s η hs hbs hall hseg sr
    have hnb:∀ b,s≤b→b<ops.size→barAt QF ops b=false:=by
      intro b h1 h2
      cases hbb:barAt QF ops b with
      | false=>rfl
      | true =>
        have hf:flAt QF ops b=false:=by simp [flAt,hbb]
        rw [hseg b h1 hf (hall b h2) b h1 (Nat.le_refl _)] at hbb;cases hbb
    obtain ⟨e1,e2,e3,e4,_⟩:=seg s (ops.size - s) (by omega) (fun b h1 h2=>hnb b h1 (by omega))
    rw [show s+(ops.size - s)=ops.size by omega] at e1 e2 e3 e4
    refine hq η a w ?_
    have:({ F s with slots:=mixL QF ops c F res s (fun j=>listed.getD j false) }:St)=F ops.size:=by
      have hsl:mixL QF ops c F res s (fun j=>listed.getD j false)=(F ops.size).slots:=by
        refine List.ext_getElem (by simp [mixL,e4]) fun t h1 h2=>?_
        have ht:t<(F s).slots.length:=by rw [← e4];exact h2
        simp only [mixL,List.getElem_map,List.getElem_range]
        rw [mixEq s ops.size _ t hs (Nat.le_refl _) hnb ht (fun j hj=>by
          have hjn:=(wr_some hj).1
          cases hfj:flAt QF ops j with
          | true=>simp only [if_true];exact ⟨hall j hjn,hbs j hjn hfj⟩
          | false=>simp [hall j hjn,hjn])]
        rw [List.getD_eq_getElem?_getD,List.getElem?_eq_getElem h2];rfl
      rw [hsl]
      generalize hFn:F ops.size=X at e1 e2 e3
      cases X
      simp only at e1 e2 e3
      subst e1;subst e2;subst e3;rfl
    rw [this] at sr
    exact sr
  -- what is kept aside comes to its place
  have norm : ∀ n (listed : Array Bool) (a : Act) (w : World) (s : Nat) (η : Env) (N' : Nat → Prop) (w0' : World) (pb : Nat → Nat), ops.size - s ≤ n → s ≤ ops.size → (∀ j, j < s → flAt QF ops j = false → listed.getD j false = true) → (∀ j, s ≤ j → flAt QF ops j = false → listed.getD j false = true → parkAt ops j = true ∨ ∀ b, s ≤ b → b ≤ j → barAt QF ops b = false) →
      (∀ i j,listed.getD i false=true→directAt ops i j=true→listed.getD j false=true)→Aside tt ops N w0 η0 listed s a N' w0' pb→SR N' w0' η0 h0 we η { F s with slots:=mixL QF ops c F res s (fun j=>listed.getD j false) } a w →
      ∃ s η N', s≤ops.size∧(∀ j,j<s→flAt QF ops j=false→listed.getD j false=true)∧(∀ j,s≤j→flAt QF ops j=false→listed.getD j false=true→parkAt ops j=true∨∀ b,s≤b→b≤j→barAt QF ops b=false)∧Aside tt ops N w0 η0 listed s a N' w0' pb∧SR N' w0' η0 h0 we η { F s with slots:=mixL QF ops c F res s (fun j=>listed.getD j false) } a w∧(∀ j,s≤j→parkAt ops j=true→listed.getD j false=true→∃ b,s≤b∧b<j∧flAt QF ops b=false∧parkAt ops b=false∧listed.getD b false=false):=by
    intro n
    induction n with
    | zero =>
      intro listed a w s η N' w0' pb hn hs hbelow hseg hcl A sr
      exact ⟨s,η,N', hs,hbelow,hseg,A,sr,fun j h1 h2 h3=>by have:=park_lt h2;omega⟩
    | succ n ih =>
      intro listed a w s η N' w0' pb hn hs hbelow hseg hcl A sr
      obtain ⟨p,hp1,hp2,hp3⟩:=least_of (p:=fun p=>s≤p∧parkAt ops p=true∧listed.getD p false=true∧∀ b,s≤b→b<p→flAt QF ops b=false→parkAt ops b=false→listed.getD b false=true) ops.size
      by_cases hpn:p<ops.size
      case neg =>
        refine ⟨s,η,N', hs,hbelow,hseg,A,sr,fun j h1 h2 h3=>?_⟩
        have hj:=hp2 j (by have:=park_lt h2;omega)
        cases Classical.em (∃ b,s≤b∧b<j∧flAt QF ops b=false∧parkAt ops b=false∧listed.getD b false=false) with
        | inl h=>exact h
        | inr h =>
          refine absurd ⟨h1,h2,h3,fun b b1 b2 b3 b4=>?_⟩ hj
          cases hb:listed.getD b false with
          | true=>rfl
          | false=>exact absurd ⟨b,b1,b2,b3,b4,hb⟩ h
      obtain ⟨q1,q2,q3,q4⟩:=hp3 hpn
      have hbar:∀ {b},parkAt ops b=true→barAt QF ops b=true:=fun h=>park_bar h
      have hfb:∀ b,barAt QF ops b=true→flAt QF ops b=false:=fun b h=>by simp [flAt,h]
      have bl:=bars_listed DK (L:=fun j=>listed.getD j false) hcl
      have hnon:∀ b,s≤b→b<p→barAt QF ops b=true→parkAt ops b=true:=by
        intro b b1 b2 b3
        cases b4:parkAt ops b with
        | true=>rfl
        | false =>
          rcases hseg b b1 (hfb b b3) (q4 b b1 b2 (hfb b b3) b4) with h | h
          · rw [b4] at h;cases h
          · rw [h b b1 (Nat.le_refl _)] at b3;cases b3
      have hnob:∀ b,s≤b→b<p→barAt QF ops b=false:=by
        intro b b1 b2
        cases b3:barAt QF ops b with
        | false=>rfl
        | true =>
          have b4:=hnon b b1 b2 b3
          exact absurd ⟨b1,b4,bl p (hbar q2) q3 b b3 b2 (.inr b4),fun b' c1 c2 c3 c4=>q4 b' c1 (by omega) c3 c4⟩ (hp2 b b2)
      obtain ⟨o,ho⟩:=hget p hpn
      have hpo:=park_op ho q2
      have hqo:=parkOp_bar (QF:=QF) hpo
      have hfp:=hfb p (hbar q2)
      have hst:=hF p o ho
      simp only [stepC,hfp,Bool.false_eq_true,if_false,hqo] at hst
      obtain ⟨_,m,hst,hm⟩:=hst
      obtain rfl:=hm.eq (fun j hj hb=>by
        rcases DK.late j _ (hget j (by
          rcases Nat.lt_or_ge j ops.size with h | h
          · exact h
          · simp [bsAt,baseAt,Array.getElem?_eq_none h] at hb)).choose_spec hj with h | ⟨b,h1,_,h3,_⟩
        · omega
        · obtain rfl:b=p:=by omega
          rw [q2] at h3;cases h3)
      have hg:o.guard=none:=by simp only [parkOp,Bool.and_eq_true] at hpo;simpa using hpo.1.1
      obtain ⟨v,s1,he,e1⟩:∃ v s1,evalOp P tt S (F p) o (fun v s=>some (v,s))=some (v,s1)∧F (p+1)=s1.put o.dst v:=by
        rcases hst with ⟨_,v,s1,he,e1⟩ | ⟨hw,_⟩
        · exact ⟨v,s1,he,e1⟩
        · simp [wantedA,hg] at hw
      obtain ⟨ob,rfl,hnat⟩:=park_eval hpo he
      obtain ⟨g1,g2,g3,g4,g5⟩:=seg s (p - s) (by omega) (fun b h1 h2=>hnob b h1 (by omega))
      rw [show s+(p - s)=p by omega] at g1 g2 g3 g4 g5
      obtain ⟨v1,v2,d,x,v3,v4,v5⟩:=A.val p o ho q1 q2 q3
      obtain ⟨η', s2⟩:=unpark (P:=P) (S:=S) sr hpo (hnat { F s with slots:=mixL QF ops c F res s (fun j=>listed.getD j false) } g1.symm) v3 ((A.set _).2 (.inr ⟨p,q1,q2,q3,rfl⟩)) v2 v4 v5
      have hgone:∀ j,j<ops.size→flAt QF ops j=false→j<p→listed.getD j false=true:=by
        intro j hj hfj hlt
        rcases Nat.lt_or_ge j s with h | h
        · exact hbelow j h hfj
        · refine q4 j h hlt hfj ?_
          cases hpj:parkAt ops j with
          | false=>rfl
          | true=>have:=hnob j h hlt;rw [hbar hpj] at this;cases this
      have hst2:((St.new { F s with slots:=mixL QF ops c F res s (fun j=>listed.getD j false) } ob).put o.dst v)={ F (p+1) with slots:=mixL QF ops c F res (p+1) (fun j=>listed.getD j false) }:=by
        have hl1:(F (p+1)).slots.length=(F s).slots.length:=by rw [(lens (p+1) (by omega)).1,(lens s hs).1]
        have hF1:∀ t,o.dst ≠ some t→(F (p+1)).slots.getD t .junk=(F p).slots.getD t .junk:=fun t hd=>by rw [e1,put_getD hd];rfl
        have hsl:((St.new { F s with slots:=mixL QF ops c F res s (fun j=>listed.getD j false) } ob).put o.dst v).slots=mixL QF ops c F res (p+1) (fun j=>listed.getD j false):=by
          refine List.ext_getElem (by cases o.dst<;>simp [St.put,St.new,mixL,hl1]) fun t h1 h2=>?_
          have ht:t<(F s).slots.length:=by simpa [mixL,hl1] using h2
          have hr:(mixL QF ops c F res (p+1) (fun j=>listed.getD j false))[t]=mixV QF ops c F res (p+1) (fun j=>listed.getD j false) t:=by simp [mixL]
          rw [hr]
          by_cases hd:o.dst=some t
          · have hwt:=wr_of' DK hpn (show dstAt ops p=some t by rw [hdst _ o ho];exact hd)
            have e3:mixV QF ops c F res (p+1) (fun j=>listed.getD j false) t=v:=by
              simp only [mixV,hwt,hfp,Bool.false_eq_true,if_false]
              rw [if_neg (by omega),e1,hd]
              exact put_getD_self (by show t<(F p).slots.length;rw [g4];exact ht)
            rw [e3]
            simp only [hd,St.put,List.getElem_set_self]
          · have hl : ((St.new { F s with slots := mixL QF ops c F res s (fun j => listed.getD j false) } ob).put o.dst v).slots[t] = mixV QF ops c F res s (fun j => listed.getD j false) t := by
              have:((St.new { F s with slots:=mixL QF ops c F res s (fun j=>listed.getD j false) } ob).put o.dst v).slots[t]? = some (mixV QF ops c F res s (fun j=>listed.getD j false) t):=by
                cases hdd:o.dst with
                | none=>simp [St.put,St.new,mixL,List.getElem?_range ht]
                | some d =>
                  have hne:d ≠ t:=fun e=>hd (by rw [hdd,e])
                  simp [St.put,St.new,mixL,List.getElem?_set_ne hne,List.getElem?_range ht]
              exact (List.getElem?_eq_some_iff.1 this).2
            rw [hl]
            have hFt:=hF1 t hd
            have hg5:=g5 t ht
            cases hwt:wr ops t with
            | none =>
              rw [hwt] at hg5
              simp only [mixV,hwt]
              rw [hFt,hg5]
            | some j =>
              rw [hwt] at hg5
              simp only at hg5
              obtain ⟨hjn,hjd⟩:=wr_some hwt
              have hjp:j ≠ p:=fun e=>by subst e;exact hd (by rw [← hdst _ o ho];exact hjd)
              cases hfj:flAt QF ops j with
              | true =>
                have hFs:(F p).slots.getD t .junk=(F s).slots.getD t .junk:=by rw [hg5];simp [hfj]
                simp only [mixV,hwt,hfj,if_true]
                rcases Bool.eq_false_or_eq_true (listed.getD j false) with hD | hD
                case inr=>simp [hD]
                case inl =>
                  simp only [hD,if_true]
                  by_cases hc1:p+1≤c j
                  · rw [if_pos (by omega),if_pos hc1]
                  · rw [if_neg hc1]
                    by_cases hc2:s≤c j
                    · rw [if_pos hc2,hFt]
                      have hcp:c j=p:=by
                        rcases Nat.lt_or_ge (c j) p with h | h
                        · obtain ⟨c1,oc,c2,c3,c4⟩:=hcc j (by omega)
                          have:=hnob (c j) hc2 h
                          rw [bar_iff c2,c3] at this;cases this
                        · omega
                      exact (flslot p j t (by omega) (by have:=based listed s hseg hcl j hjn hfj (fun k hk=>hcl j k hD hk);omega) (by omega) hfj hjd (by rw [g4];exact ht)).symm
                    · rw [if_neg hc2,hFt,hFs]
              | false =>
                simp only [mixV,hwt,hfj,Bool.false_eq_true,if_false]
                rw [hFt,hg5]
                rcases Nat.lt_or_gt_of_ne hjp with hlt | hgt
                · have hD:=hgone j hjn hfj hlt
                  rw [if_neg (show ¬ (p+1≤j∧listed.getD j false=true) by omega)]
                  by_cases hsj:s≤j
                  · rw [if_pos ⟨hsj,hD⟩,if_pos ⟨hfj,hsj,hlt⟩]
                  · rw [if_neg (by omega),if_neg (by omega)]
                · rw [if_neg (show ¬ (flAt QF ops j=false∧s≤j∧j<p) by omega)]
                  by_cases hD:listed.getD j false=true
                  · rw [if_pos ⟨by omega,hD⟩,if_pos ⟨by omega,hD⟩]
                  · rw [if_neg (fun h=>hD h.2),if_neg (fun h=>hD h.2)]
        rw [← hsl,e1]
        cases hod:o.dst<;>(simp only [St.put,St.new];rw [g1,g2,g3])
      rw [hst2] at s2
      refine ih listed a w (p+1) η' _ w0' pb (by omega) (by omega) (fun j hj hfj=>?_) (fun j h1 hfj h2=>?_) hcl (A.less q1 q2 q3 (fun q h1 h2=>?_)) s2
      · rcases Nat.lt_or_ge j p with h | h
        · exact hgone j (by omega) hfj h
        · obtain rfl:j=p:=by omega
          exact q3
      · rcases hseg j (by omega) hfj h2 with h | h
        · exact .inl h
        · have:=h p q1 (by omega)
          rw [hbar q2] at this;cases this
      · cases hq:parkAt ops q with
        | false=>rfl
        | true=>have:=hnob q h1 h2;rw [hbar hq] at this;cases this
  -- every order
  have main : ∀ fuel (listed : Array Bool) (a : Act) (w : World) (s : Nat) (η : Env) (N' : Nat → Prop) (w0' : World) (pb : Nat → Nat), listed.size = ops.size → ((List.range ops.size).filter fun i => !listed.getD i true).length ≤ fuel → s ≤ ops.size →
      (∀ j,j<s→flAt QF ops j=false→listed.getD j false=true)→(∀ j,s≤j→flAt QF ops j=false→listed.getD j false=true→parkAt ops j=true∨∀ b,s≤b→b≤j→barAt QF ops b=false) →
      (∀ i j,listed.getD i false=true→directAt ops i j=true→listed.getD j false=true)→Aside tt ops N w0 η0 listed s a N' w0' pb→SR N' w0' η0 h0 we η { F s with slots:=mixL QF ops c F res s (fun j=>listed.getD j false) } a w→wpAny P .any ops Q fuel listed a w:=by
    have fin' : ∀ (listed : Array Bool) (a : Act) (w : World) (s : Nat) (η : Env) (N' : Nat → Prop) (w0' : World) (pb : Nat → Nat), (∀ i j, listed.getD i false = true → directAt ops i j = true → listed.getD j false = true) → s ≤ ops.size → (∀ i, i < ops.size → listed.getD i false = true) → (∀ j, s ≤ j → flAt QF ops j = false → listed.getD j false = true → parkAt ops j = true ∨ ∀ b, s ≤ b → b ≤ j → barAt QF ops b = false) → (∀ j, s ≤ j → parkAt ops j = true → listed.getD j false = true → ∃ b, s ≤ b ∧ b < j ∧ flAt QF ops b = false ∧ parkAt ops b = false ∧ listed.getD b false = false) → Aside tt ops N w0 η0 listed s a N' w0' pb →
        SR N' w0' η0 h0 we η { F s with slots:=mixL QF ops c F res s (fun j=>listed.getD j false) } a w→Q .normal a w:=by
      intro listed a w s η N' w0' pb hcl hs hall hseg hnorm A sr
      have nopark:∀ p,s≤p→parkAt ops p=true→False:=fun p h1 h2=>by
        obtain ⟨b,_,b2,b3,_,b5⟩:=hnorm p h1 h2 (hall p (park_lt h2))
        rw [hall b (by have:=park_lt h2;omega)] at b5;cases b5
      refine fin listed a w s η hs (fun j hj hf=>based listed s hseg hcl j hj hf (fun k hk=>hcl j k (hall j hj) hk)) hall (fun j h1 h2 h3=>(hseg j h1 h2 h3).resolve_left (fun h=>nopark j h1 h)) (sr.rebase (fun k hk=>(A.set k).2 (.inl hk)) hN0 A.fr)
    intro fuel
    induction fuel with
    | zero =>
      intro listed a w s η N' w0' pb hls hcnt hs hbelow hseg hcl A sr
      obtain ⟨s,η,N', hs,hbelow,hseg,A,sr,hnorm⟩:=norm _ listed a w s η N' w0' pb (Nat.le_refl _) hs hbelow hseg hcl A sr
      have hall:∀ i,i<ops.size→listed.getD i true=true:=by
        intro i hi
        have hnil:((List.range ops.size).filter fun i=>!listed.getD i true)=[]:=List.eq_nil_of_length_eq_zero (by omega)
        have:=List.filter_eq_nil_iff.1 hnil i (by simpa using hi)
        simpa using this
      have hall':∀ i,i<ops.size→listed.getD i false=true:=fun i hi=>by
        have:=hall i hi
        simpa [Array.getD_eq_getD_getElem?,Array.getElem?_eq_getElem (show i<listed.size by omega)] using this
      refine ⟨?_,fin' listed a w s η N' w0' pb hcl hs hall' hseg hnorm A sr⟩
      refine List.eq_nil_iff_forall_not_mem.2 fun i hi=>?_
      obtain ⟨h1,o,ho,_⟩:=mem_ready.1 hi
      rw [hall i (hsz i o ho)] at h1
      cases h1
    | succ fuel ih =>
      intro listed a w s η N' w0' pb hls hcnt hs hbelow hseg hcl A sr
      obtain ⟨s,η,N', hs,hbelow,hseg,A,sr,hnorm⟩:=norm _ listed a w s η N' w0' pb (Nat.le_refl _) hs hbelow hseg hcl A sr
      refine ⟨fun hr=>?_,fun i hi=>?_⟩
      · have hall' : ∀ i, i < ops.size → listed.getD i false = true := by
          intro i
          induction i using Nat.strongRecOn with
          | _ i ihi =>
            intro hi
            obtain ⟨o,ho⟩:=hget i hi
            cases hli:listed.getD i false with
            | true=>rfl
            | false =>
              have hm:i∈Region.ready .any ops listed:=mem_ready.2 ⟨by simpa [Array.getD_eq_getD_getElem?,Array.getElem?_eq_getElem (show i<listed.size by omega)] using hli,o,ho,fun e he hb=>ihi _ (DK.edge i o ho e he hb) (by have:=DK.edge i o ho e he hb;omega)⟩
              rw [hr] at hm
              simp at hm
        exact fin' listed a w s η N' w0' pb hcl hs hall' hseg hnorm A sr
      · obtain ⟨hun,o,ho,hedges⟩:=mem_ready.1 hi
        have hin:=hsz i o ho
        have hunf:listed.getD i false=false:=by simpa [Array.getD_eq_getD_getElem?,Array.getElem?_eq_getElem (show i<listed.size by omega)] using hun
        have hdirect:∀ j,directAt ops i j=true→listed.getD j false=true:=by
          intro j hj
          simp only [directAt,ho,Option.map_some,Option.getD_some,Array.any_eq_true', Bool.and_eq_true,beq_iff_eq] at hj
          obtain ⟨e,he,rfl,hb⟩:=hj
          exact hedges e he hb
        have hl':∀ j,(listed.setIfInBounds i true).getD j false=(listed.getD j false||j==i):=by
          intro j
          by_cases hj:j=i
          · subst hj;simp [Array.getD_eq_getD_getElem?,Array.getElem?_setIfInBounds,show j<listed.size by omega]
          · simp [Array.getD_eq_getD_getElem?,Array.getElem?_setIfInBounds,Ne.symm hj,hj]
        have hcnt':((List.range ops.size).filter fun k=>!(listed.setIfInBounds i true).getD k true).length≤fuel:=by
          have:=filter_lt (l:=List.range ops.size) (p:=fun k=>!listed.getD k true) (q:=fun k=>!(listed.setIfInBounds i true).getD k true) (fun x hx=>by
            by_cases hxi:x=i
            · subst hxi;simp [Array.getD_eq_getD_getElem?,Array.getElem?_setIfInBounds,show x<listed.size by omega] at hx
            · simpa [Array.getD_eq_getD_getElem?,Array.getElem?_setIfInBounds,Ne.symm hxi] using hx) (i:=i) (by simpa using hin) (by simpa using hun) (by simp [Array.getD_eq_getD_getElem?,Array.getElem?_setIfInBounds,show i<listed.size by omega])
          omega
        have hcl':∀ k j,(listed.setIfInBounds i true).getD k false=true→directAt ops k j=true→(listed.setIfInBounds i true).getD j false=true:=by
          intro k j hk hd
          rw [hl'] at hk ⊢
          simp only [Bool.or_eq_true,beq_iff_eq] at hk ⊢
          rcases hk with hk | rfl
          · exact .inl (hcl k j hk hd)
          · exact .inl (hdirect j hd)
        have bl:=bars_listed DK (L:=fun j=>listed.getD j false) hcl
        have hA:parkAt ops i=false→∀ x,Aside tt ops N w0 η0 (listed.setIfInBounds i true) s (a.put o.dst x) N' w0' pb:=fun hnp x=>A.step (Nat.le_refl _) (fun p hp=>by
          have hne:p ≠ i:=fun e=>by subst e;rw [hnp] at hp;cases hp
          rw [hl'];simp [hne]) (fun p o' d ho' _ hp _ hd hd2=>by
          have:=DK.dst p i d (park_lt hp) hin (by rw [hdst p o' ho'];exact hd) (by rw [hdst i o ho];exact hd2)
          subst this;rw [hnp] at hp;cases hp)
        simp only [wpOp,ho]
        cases hfi:flAt QF ops i with
        | true =>
          -- a floating operation
          obtain ⟨r1,r2,r3,U,u1,u2,u3,r4,r5⟩:=hresF i o ho hfi
          have hsc:s≤c i:=by
            rcases Nat.lt_or_ge (c i) s with h | h
            · obtain ⟨c1,oc,c2,c3,c4⟩:=hcc i (by omega)
              have hlc:=hbelow (c i) h c1
              rw [hangs_listed (L:=fun j=>listed.getD j false) hcl c2 (fun j hj=>hcl (c i) j hlc hj) c4] at hunf;cases hunf
            · exact h
          have hbi0:=based listed s hseg hcl i hin hfi hdirect
          have st0:=stab i U (readsH o) _ (fun h=>by simp [lightAt,ho,h]) u1 u2 u3 s hs hbi0 hsc
          obtain ⟨f1,f2⟩:=DK.fl i o ho hfi
          have hg:o.guard=none:=by simp only [flOp,Bool.and_eq_true] at f1;simpa using f1.1
          have hw:Region.wanted o (yielded ops a.tmps)=true:=by simp [Region.wanted,hg]
          rw [hw]
          simp only [if_true]
          have hev:∀ x∈o.op.operands,St.ev { F s with slots:=mixL QF ops c F res s fun j=>listed.getD j false } x=(F (bsAt QF ops i)).ev x:=by
            intro x hx
            cases x with
            | tmp t =>
              have ht:t∈readsOf ops o:=by simp only [readsOf,List.mem_append,List.mem_filterMap];exact .inl ⟨.tmp t,by simpa using hx,rfl⟩
              simp only [St.ev,mixL]
              rw [getD_range]
              have hln:=(lens s hs).1
              have hln0:=(lens _ (bsle i hin hfi)).1
              have hx':=r5 (.tmp t) hx
              split
              · rename_i hlt
                simp only [mixV]
                split
                · rename_i j hj
                  obtain ⟨hjn,hjd⟩:=wr_some hj
                  rcases f2 t ht j hjn hjd with ⟨g2,g1⟩ | ⟨g2,g1⟩
                  case inr =>
                    have hne:=(DK.reads i o ho t ht j hjn hjd).1
                    have hlj:listed.getD j false=false:=by
                      cases h:listed.getD j false with
                      | false=>rfl
                      | true=>rw [hcl j i h ((DK.reads i o ho t ht j hjn hjd).2.2.2 (by omega))] at hunf;cases hunf
                    have hsj:s≤j:=by
                      rcases Nat.lt_or_ge j s with h | h
                      · rw [hbelow j h g1] at hlj;cases hlj
                      · exact h
                    simp only [g1,Bool.false_eq_true,if_false,hlj,and_false]
                    exact st0.slot t (fun k hk hkd=>by rw [← DK.dst j k t hjn hk hjd hkd];exact .inr ⟨g1,.inr hsj⟩) hx'.1 hx'.2
                  have hlj:=hdirect j ((DK.reads i o ho t ht j hjn hjd).2.2.1 g2)
                  have hst0:=st0.slot t (fun k hk hkd=>by rw [← DK.dst j k t hjn hk hjd hkd];exact g1.imp (fun h=>h) (fun h=>⟨h.1,.inl h.2⟩)) hx'.1 hx'.2
                  rcases g1 with ⟨g1,g3⟩ | ⟨g1,g3⟩
                  · simp only [g1,if_true,hlj]
                    split
                    · rw [← flslot (bsAt QF ops i) j t (bsle i hin hfi) g3 (by omega) g1 hjd (by rw [hln0,← hln];exact hlt)]
                    · exact hst0
                  · simp only [g1,Bool.false_eq_true,if_false,hlj]
                    rw [if_neg (by omega)]
                    exact hst0
                · rename_i hj
                  exact st0.slot t (fun j hjn hjd=>by rw [wr_of' DK hjn hjd] at hj;cases hj) hx'.1 hx'.2
              · rename_i hlt
                rw [List.getD_eq_getElem?_getD,List.getElem?_eq_none (by omega)];rfl
            | _=>rfl
          refine .inl (evalOp_sound (R:=AV×St) (K:=fun v s=>some (v,s)) (r:=(res i,{ F s with slots:=mixL QF ops c F res s fun j=>listed.getD j false })) hT hS sr ?_ ?_)
          · rw [evalOp_G hQ (flOp_quiet f1),evalOpG_congr (ev':=(F (bsAt QF ops i)).ev) hev]
            have e:=evalOpG_heap (P:=P) (tt:=tt) (S:=S) (ev:=(F (bsAt QF ops i)).ev) (H:=(F (bsAt QF ops i)).heap) (H':=(F s).heap) (o:=o) (K:=fun v=>some (v,({ F s with slots:=mixL QF ops c F res s fun j=>listed.getD j false }:St))) f1 (fun hr x hx id hid=>st0.heap hr id ((r5 x hx).2 id hid))
            exact e.trans (r2 _)
          · intro v st' η' w' x hk s' rx
            simp only [Option.some.injEq,Prod.mk.injEq] at hk
            obtain ⟨rfl,rfl⟩:=hk
            have hnp:parkAt ops i=false:=by
              cases hp:parkAt ops i with
              | false=>rfl
              | true=>have:=park_bar (QF:=QF) hp;simp only [flAt,Bool.and_eq_true,Bool.not_eq_true'] at hfi;rw [this] at hfi;exact absurd hfi.1 (by simp)
            refine ih _ _ w' s η' N' w0' pb (by simpa using hls) hcnt' hs (fun j hj hfj=>by rw [hl', hbelow j hj hfj];rfl) (fun j h1 hfj h2=>?_) hcl' (hA hnp x) ?_
            · rw [hl'] at h2
              simp only [Bool.or_eq_true,beq_iff_eq] at h2
              rcases h2 with h2 | rfl
              · exact hseg j h1 hfj h2
              · rw [hfi] at hfj;cases hfj
            · have hp:=mixL_put DK (c:=c) (F:=F) (res:=res) (s:=s) (i:=i) (D:=fun j=>listed.getD j false) (D':=fun j=>(listed.setIfInBounds i true).getD j false) hin (.inl ⟨hfi,hsc⟩) hl'
              rw [hdst i o ho] at hp
              rw [← hp]
              have:=s'.put o.dst rx
              cases hd:o.dst with
              | none=>rw [hd] at this;exact this
              | some t=>rw [hd] at this;exact this
        | false =>
          have hsi:s≤i:=by
            rcases Nat.lt_or_ge i s with h | h
            · rw [hbelow i h hfi] at hunf;cases hunf
            · exact h
          by_cases hearly:parkAt ops i=true∧∃ b,b<i∧flAt QF ops b=false∧listed.getD b false=false
          · -- ahead of its place
            obtain ⟨hp,b0,hb1,hb2,hb3⟩:=hearly
            have hpo:=park_op ho hp
            have hqo:=parkOp_bar (QF:=QF) hpo
            have hst:=hF i o ho
            simp only [stepC,hfi,Bool.false_eq_true,if_false,hqo] at hst
            obtain ⟨_,m,hst,_⟩:=hst
            have hg:o.guard=none:=by simp only [parkOp,Bool.and_eq_true] at hpo;simpa using hpo.1.1
            obtain ⟨d,hod⟩:∃ d,o.dst=some d:=by simp only [parkOp,Bool.and_eq_true] at hpo;exact Option.isSome_iff_exists.1 hpo.1.2
            obtain ⟨v,s1,he⟩:∃ v s1,evalOp P tt S (F i) o (fun v s=>some (v,s))=some (v,s1):=by
              rcases hst with ⟨_,v,s1,he,_⟩ | ⟨hw,_⟩
              · exact ⟨v,s1,he⟩
              · simp [wantedA,hg] at hw
            have hw:Region.wanted o (yielded ops a.tmps)=true:=by simp [Region.wanted,hg]
            rw [hw]
            simp only [if_true]
            refine .inl (park_wp (tt:=tt) (S:=S) hT hpo he (fun blk x hv=>?_))
            have A':=A.more sr hN0 hl' hsi hp hunf ho hod hv (fun p o' d' ho' _ hpp hpl hd' e=>by
              have:=DK.dst p i d (park_lt hpp) hin (by rw [hdst p o' ho', hd', e]) (by rw [hdst i o ho];exact hod)
              subst this;rw [hunf] at hpl;cases hpl)
            refine ih _ _ (w.alloc blk) s η _ _ _ (by simpa using hls) hcnt' hs (fun j hj hfj=>by rw [hl', hbelow j hj hfj];rfl) (fun j h1 hfj h2=>?_) hcl' A' ?_
            · rw [hl'] at h2
              simp only [Bool.or_eq_true,beq_iff_eq] at h2
              rcases h2 with h2 | rfl
              · exact hseg j h1 hfj h2
              · exact .inl hp
            · have hp2:=mixL_put DK (c:=c) (F:=F) (res:=res) (s:=s) (i:=i) (D:=fun j=>listed.getD j false) (D':=fun j=>(listed.setIfInBounds i true).getD j false) hin (.inr ⟨hfi,hsi⟩) hl'
              rw [hdst i o ho,hresJ i o ho hqo] at hp2
              rw [← hp2]
              have:=(sr.park blk).put o.dst (AVR.junk x)
              rw [hod] at this ⊢
              exact this
          have hfb:∀ b,barAt QF ops b=true→flAt QF ops b=false:=fun b h=>by simp [flAt,h]
          have hahead:parkAt ops i=true→∀ b,b<i→flAt QF ops b=false→listed.getD b false=true:=fun hp b hb hbb=>by
            cases h:listed.getD b false with
            | true=>rfl
            | false=>exact absurd ⟨hp,b,hb,hbb,h⟩ hearly
          have hzi:zedAt QF ops i=true:=by
            cases hb:barAt QF ops i with
            | true=>exact DK.bar i o ho hb
            | false=>simpa [flAt,hb] using hfi
          -- barriers ahead are done,those behind are not
          have hbi:∀ b,barAt QF ops b=true→b ≠ i→(b<i∨parkAt ops b=false∨parkAt ops i=true)→listed.getD b false=decide (b<i):=by
            intro b hb hne hx
            obtain ⟨z1,z2⟩:=zed_spec hzi hb hne
            rcases Nat.lt_or_gt_of_ne hne with hlt | hgt
            · have : listed.getD b false = true := by
                rcases z1 hlt with ⟨e1,_⟩ | ⟨k,k1,k2,k3,k5,k4⟩
                · exact hahead e1 b hlt (hfb b hb)
                have hk:listed.getD k false=true:=reach_of (L:=fun j=>listed.getD j false) hcl 9 i hdirect k k4
                rcases Nat.lt_or_ge b k with h | h
                · rcases k5 with rfl | k5
                  · exact absurd h (Nat.lt_irrefl _)
                  · exact bl k k1 hk b hb h (.inl k5)
                · obtain rfl:b=k:=by omega
                  exact hk
              rw [this];simp [hlt]
            · cases hlb:listed.getD b false with
              | false=>simp;omega
              | true =>
                rcases z2 hgt with ⟨e2,e3⟩ | ⟨k,k1,k2,k3,k5,k4⟩
                · rcases hx with h | h | h
                  · omega
                  · rw [e2] at h;cases h
                  · rw [e3] at h;cases h
                have hk:listed.getD k false=true:=by
                  rcases Nat.lt_or_ge k b with h | h
                  · rcases k5 with rfl | k5
                    · exact absurd h (Nat.lt_irrefl _)
                    · exact bl b hb hlb k k1 h (.inl k5)
                  · obtain rfl:k=b:=by omega
                    exact hlb
                rw [show listed.getD i false=true from reach_closed (L:=fun j=>listed.getD j false) hcl hk k4] at hunf;cases hunf
          have hnob:∀ b,s≤b→b<i→barAt QF ops b=false:=by
            intro b h1 h2
            cases hbb:barAt QF ops b with
            | false=>rfl
            | true =>
              have hlb:listed.getD b false=true:=by rw [hbi b hbb (by omega) (.inl h2)];simp [h2]
              have hf:flAt QF ops b=false:=by simp [flAt,hbb]
              rcases hseg b h1 hf hlb with hpk | hno
              · obtain ⟨b0,c1,c2,c3,c4,c5⟩:=hnorm b h1 hpk hlb
                cases hb0:barAt QF ops b0 with
                | true =>
                  rw [hbi b0 hb0 (by omega) (.inl (by omega))] at c5
                  simp at c5;omega
                | false =>
                  have:listed.getD b0 false=true:=by
                    rcases DK.park i b b0 hin h2 c2 hpk hfi c3 hb0 with h | h
                    · exact reach_closed (L:=fun j=>listed.getD j false) hcl hlb h
                    · exact reach_of (L:=fun j=>listed.getD j false) hcl 9 i hdirect b0 h
                  rw [this] at c5;cases c5
              · rw [hno b h1 (Nat.le_refl _)] at hbb;cases hbb
          obtain ⟨g1,g2,g3,g4,g5⟩:=seg s (i - s) (by omega) (fun b h1 h2=>hnob b h1 (by omega))
          rw [show s+(i - s)=i by omega] at g1 g2 g3 g4 g5
          -- what it reads is what the text's order reads
          have hrd:∀ t∈readsOf ops o,(mixL QF ops c F res s fun j=>listed.getD j false).getD t .junk=(F i).slots.getD t .junk:=by
            intro t ht
            simp only [mixL]
            rw [getD_range]
            split
            · rename_i hlt
              refine mixEq s i _ t hsi (by omega) hnob hlt (fun j hj=>?_)
              obtain ⟨hjn,hjd⟩:=wr_some hj
              obtain ⟨q1,q2,q3,q4⟩:=DK.reads i o ho t ht j hjn hjd
              split
              · rename_i hfj
                have hlj:=hdirect j (q3 (q2 hfj))
                exact ⟨hlj,based listed s hseg hcl j hjn hfj (fun k hk=>hcl j k hlj hk)⟩
              · rcases Nat.lt_or_gt_of_ne q1 with hlt | hgt
                · rw [hdirect j (q3 hlt)];simp [hlt]
                · cases hlj:listed.getD j false with
                  | false=>simp;omega
                  | true=>rw [hcl j i hlj (q4 hgt)] at hunf;cases hunf
            · rename_i hlt
              rw [List.getD_eq_getElem?_getD,List.getElem?_eq_none (by omega)];rfl
          have hmixF:({ F s with slots:=mixL QF ops c F res s fun j=>listed.getD j false }:St)={ F i with slots:=mixL QF ops c F res s fun j=>listed.getD j false }:=by
            show (⟨_,(F s).heap,(F s).base,(F s).killed⟩:St)=⟨_,(F i).heap,(F i).base,(F i).killed⟩
            rw [g1,g2,g3]
          have hevi:∀ x∈o.op.operands,St.ev { F i with slots:=mixL QF ops c F res s fun j=>listed.getD j false } x=(F i).ev x:=by
            intro x hx
            cases x with
            | tmp t=>exact hrd t (by simp only [readsOf,List.mem_append,List.mem_filterMap];exact .inl ⟨.tmp t,by simpa using hx,rfl⟩)
            | _=>rfl
          cases hbi':barAt QF ops i with
          | false =>
            have hqo:quietOp QF o=true:=by rw [bar_iff ho] at hbi';simpa using hbi'
            obtain ⟨e1,e2⟩:=hres' i o ho hfi hqo
            have hgs:∀ b,wantedA ops o (F i).slots=some b→wantedA ops o (mixL QF ops c F res s fun j=>listed.getD j false)=some b:=by
              intro b hb
              simp only [wantedA] at hb ⊢
              split
              · rename_i hg;rw [hg] at hb;exact hb
              · rename_i j want hg
                rw [hg] at hb
                simp only at hb
                split at hb
                · cases hb
                · rename_i d hd
                  rw [hrd d (by simp [readsOf,hg,hd])]
                  exact hb
            have hnext:∀ (η':Env) (x:Value) (w':World),SR N' w0' η0 h0 we η' { F s with slots:=mixL QF ops c F res s fun j=>listed.getD j false } a w'→AVR η' (F s).heap.length w' (res i) x→wpAny P .any ops Q fuel (listed.setIfInBounds i true) (a.put o.dst x) w':=by
              intro η' x w' s' rx
              have hnp:parkAt ops i=false:=by
                cases hp:parkAt ops i with
                | false=>rfl
                | true=>rw [park_bar (QF:=QF) hp] at hbi';cases hbi'
              refine ih _ _ w' s η' N' w0' pb (by simpa using hls) hcnt' hs (fun j hj hfj=>by rw [hl', hbelow j hj hfj];rfl) (fun j h1 hfj h2=>?_) hcl' (hA hnp x) ?_
              · rw [hl'] at h2
                simp only [Bool.or_eq_true,beq_iff_eq] at h2
                rcases h2 with h2 | rfl
                · exact hseg j h1 hfj h2
                · right
                  intro b h3 h4
                  rcases Nat.lt_or_ge b j with hlt | hge
                  · exact hnob b h3 hlt
                  · obtain rfl:b=j:=by omega
                    exact hbi'
              · have hp:=mixL_put DK (c:=c) (F:=F) (res:=res) (s:=s) (i:=i) (D:=fun j=>listed.getD j false) (D':=fun j=>(listed.setIfInBounds i true).getD j false) hin (.inr ⟨hfi,hsi⟩) hl'
                rw [hdst i o ho] at hp
                rw [← hp]
                have:=s'.put o.dst rx
                cases hd:o.dst with
                | none=>rw [hd] at this;exact this
                | some t=>rw [hd] at this;exact this
            rcases e2 with ⟨hw,hv⟩ | ⟨hw,hv⟩
            · have hwa:=wanted_rel sr (hgs _ hw)
              rw [hwa]
              simp only [if_true]
              refine .inl (evalOp_sound (R:=AV×St) (K:=fun v s=>some (v,s)) (r:=(res i,{ F s with slots:=mixL QF ops c F res s fun j=>listed.getD j false })) hT hS sr ?_ ?_)
              · rw [evalOp_G hQ hqo]
                rw [evalOpG_congr (ev':=(F i).ev) (fun x hx=>by
                  have:=hevi x hx
                  cases x with
                  | tmp t=>exact this
                  | _=>rfl)]
                have:=hv (fun v=>some (v,{ F s with slots:=mixL QF ops c F res s fun j=>listed.getD j false }))
                rw [g1] at this
                exact this
              · intro v st' η' w' x hk s' rx
                simp only [Option.some.injEq,Prod.mk.injEq] at hk
                obtain ⟨rfl,rfl⟩:=hk
                exact hnext η' x w' s' rx
            · have hwa:=wanted_rel sr (hgs _ hw)
              rw [hwa]
              simp only [Bool.false_eq_true,if_false]
              exact hnext η undef w sr (by rw [hv];exact .raw _)
          | true =>
            -- a barrier
            have hqo:quietOp QF o=false:=by rw [bar_iff ho] at hbi';simpa using hbi'
            have hst:=hF i o ho
            simp only [stepC,hfi,Bool.false_eq_true,if_false,hqo] at hst
            obtain ⟨hchk,m,hst,hm⟩:=hst
            have hgs:∀ b,wantedA ops o (F i).slots=some b→wantedA ops o (mixL QF ops c F res s fun j=>listed.getD j false)=some b:=by
              intro b hb
              simp only [wantedA] at hb ⊢
              split
              · rename_i hg;rw [hg] at hb;exact hb
              · rename_i j want hg
                rw [hg] at hb
                simp only at hb
                split at hb
                · cases hb
                · rename_i d hd
                  rw [hrd d (by simp [readsOf,hg,hd])]
                  exact hb
            obtain ⟨v, s1, kf, e1, Bslots, Bkeep, Bjunk, hdo⟩ : ∃ v s1, ∃ kf : AV → AV, m = s1.put o.dst v ∧ s1.slots = (F i).slots.map kf ∧ (∀ j U, (j, U) ∈ V i → (∀ id ∈ U, id < (F i).heap.length) → i < c j → ∀ a, still a = true → (∀ id ∈ namesOf a, id ∈ U) → kf a = a) ∧ kf .junk = .junk ∧
                ((wantedA ops o (F i).slots=some true∧∀ ss:List AV,(∀ x∈o.op.operands,St.ev { F i with slots:=ss } x=(F i).ev x)→evalOp P tt S { F i with slots:=ss } o (fun v s=>some (v,s))=some (v,{ s1 with slots:=ss.map kf })) ∨
                  (wantedA ops o (F i).slots=some false∧v=.raw undef∧s1=F i∧∀ a,kf a=a)):=by
              rcases hst with ⟨hw,v,s1,he,e1⟩ | ⟨hw,e1⟩
              · rcases hchk with ⟨T,hT1,hT2⟩ | ⟨hs1,hs2⟩
                · obtain ⟨kf,B,nat⟩:=bar_eff hL hT1 he
                  refine ⟨v,s1,kf,e1,B.slots,fun j U hju hlt hic a ha hn=>?_,B.junk,.inl ⟨hw,nat⟩⟩
                  rcases hT2 (j,U) hju with h | h | ⟨_,h⟩
                  · exact absurd ⟨hfi,o,ho,hqo,h⟩ (hcb j i hic)
                  · exact B.keep a ha (fun id hid=>⟨hlt id (hn id hid),h id (hn id hid)⟩)
                  · exact B.keepK a ha (fun id hid=>⟨hlt id (hn id hid),h id (hn id hid)⟩)
                · obtain ⟨kf,t0,tj,t1,_,t3⟩:=store_eff hs1 he
                  refine ⟨v,s1,kf,e1,t1,fun j U hju hlt hic a ha hn=>?_,tj,.inl ⟨hw,t3⟩⟩
                  rcases hs2 (j,U) hju with h | h
                  · exact absurd ⟨hfi,o,ho,hqo,h⟩ (hcb j i hic)
                  · simp only at h
                    subst h
                    exact t0 a ha (List.eq_nil_iff_forall_not_mem.2 fun id hid=>by simpa using hn id hid)
              · exact ⟨.raw undef,F i,fun a=>a,e1,by simp,fun _ _ _ _ _ _ _ _=>rfl,rfl,.inr ⟨hw,rfl,rfl,fun _=>rfl⟩⟩
            -- the others ahead of it are done,nothing of them behind it
            have hoth:∀ j,j<ops.size→flAt QF ops j=false→j ≠ i→(j<i∨parkAt ops j=false∨parkAt ops i=true)→listed.getD j false=decide (j<i):=by
              intro j hj hfj hne hx
              cases hbj:barAt QF ops j with
              | true=>exact hbi j hbj hne hx
              | false =>
                have hzj:zedAt QF ops j=true:=by simpa [flAt,hbj] using hfj
                obtain ⟨z1,z2⟩:=zed_spec hzj hbi' (by omega)
                rcases Nat.lt_or_gt_of_ne hne with hlt | hgt
                · have : listed.getD j false = true := by
                    rcases z2 hlt with ⟨e1,_⟩ | ⟨k,k1,k2,k3,k5,k4⟩
                    · exact hahead e1 j hlt hfj
                    rcases Nat.lt_or_ge k i with h | h
                    · exact reach_closed (L:=fun j=>listed.getD j false) hcl (i:=k) (by rw [hbi k k1 (by omega) (.inl h)];simp [h]) k4
                    · obtain rfl:k=i:=by omega
                      exact reach_of (L:=fun j=>listed.getD j false) hcl 9 k hdirect j k4
                  rw [this];simp [hlt]
                · cases hlj:listed.getD j false with
                  | false=>simp;omega
                  | true =>
                    rcases z1 hgt with ⟨e1,_⟩ | ⟨k,k1,k2,k3,k5,k4⟩
                    · rw [park_bar (QF:=QF) e1] at hbj;cases hbj
                    have hk:listed.getD k false=true:=reach_closed (L:=fun j=>listed.getD j false) hcl hlj k4
                    rcases Nat.lt_or_ge i k with h | h
                    · have hpk : parkAt ops k = false := by
                        rcases k5 with rfl | k5
                        · omega
                        · exact k5
                      rw [hbi k k1 (by omega) (.inr (.inl hpk))] at hk;simp at hk;omega
                    · obtain rfl:k=i:=by omega
                      rw [hk] at hunf;cases hunf
            have hwa:∀ b,wantedA ops o (F i).slots=some b→Region.wanted o (yielded ops a.tmps)=b:=fun b hb=>wanted_rel sr (hgs b hb)
            rw [hmixF] at sr
            have hgo:∀ (η':Env) (x:Value) (w':World),SR N' w0' η0 h0 we η' { s1 with slots:=(mixL QF ops c F res s fun j=>listed.getD j false).map kf } a w'→AVR η' s1.heap.length w' v x→wpAny P .any ops Q fuel (listed.setIfInBounds i true) (a.put o.dst x) w':=by
             intro η' x w' s' rx
             have hl1:(F (i+1)).slots.length=(F s).slots.length:=by rw [(lens (i+1) (by omega)).1,(lens s hs).1]
             obtain ⟨p1,p2,p3,p4⟩:=hput s1 o.dst v
             -- the slots behind it
             have hslots:∀ t,t<(F s).slots.length→o.dst ≠ some t→mixV QF ops c F res (i+1) (fun j=>(listed.setIfInBounds i true).getD j false) t=kf (mixV QF ops c F res s (fun j=>listed.getD j false) t):=by
               intro t ht hd
               have hFi1:(∀ j,flAt QF ops j=true→bsAt QF ops j=i+1→dstAt ops j ≠ some t)→(F (i+1)).slots.getD t .junk=kf ((F i).slots.getD t .junk):=by
                 intro hno
                 rw [hm.slot t hno,e1,put_getD hd,Bslots]
                 have hti:t<(F i).slots.length:=by rw [g4];exact ht
                 simp [List.getD_eq_getElem?_getD,List.getElem?_map,List.getElem?_eq_getElem hti]
               cases hwt:wr ops t with
               | none =>
                 have e2:mixV QF ops c F res s (fun j=>listed.getD j false) t=(F i).slots.getD t .junk:=mixEq s i _ t hsi (by omega) hnob ht (fun j hj=>by rw [hwt] at hj;cases hj)
                 rw [e2,← hFi1 (fun j _ _ hjd=>by rw [wr_of' DK (hdlt hjd) hjd] at hwt;cases hwt)]
                 simp only [mixV,hwt]
               | some j =>
                 obtain ⟨hjn,hjd⟩:=wr_some hwt
                 have hji:j ≠ i:=fun e=>by subst e;exact hd (by rw [← hdst _ o ho];exact hjd)
                 have hFi1:(flAt QF ops j=true→bsAt QF ops j ≠ i+1)→(F (i+1)).slots.getD t .junk=kf ((F i).slots.getD t .junk):=fun h=>hFi1 (fun k hk hkb hkd=>by
                   rw [DK.dst k j t (hdlt hkd) hjn hkd hjd] at hk hkb
                   exact h hk hkb)
                 cases hfj:flAt QF ops j with
                 | true =>
                   obtain ⟨oj,hoj⟩:=hget j hjn
                   obtain ⟨_,_,k3,U,u1,u2,u3,k4,_⟩:=hresF j oj hoj hfj
                   have hjib:(j==i)=false:=by simpa using hji
                   rcases Nat.lt_or_ge i (c j) with hic | hic
                   case inr =>
                     -- it is done
                     have hlj:listed.getD j false=true:=by
                       rcases Nat.lt_or_ge (c j) i with h | h
                       · obtain ⟨c1,oc,c2,c3,c4⟩:=hcc j (by omega)
                         have hlc:listed.getD (c j) false=true:=by rw [hbi (c j) (by rw [bar_iff c2,c3];rfl) (by omega) (.inl h)];simp [h]
                         exact hangs_listed (L:=fun j=>listed.getD j false) hcl c2 (fun k hk=>hcl (c j) k hlc hk) c4
                       · have hcj:c j=i:=by omega
                         obtain ⟨c1,oc,c2,c3,c4⟩:=hcc j (by omega)
                         rw [hcj] at c2
                         exact hangs_listed (L:=fun j=>listed.getD j false) hcl c2 hdirect c4
                     have hbj:=based listed s hseg hcl j hjn hfj (fun k hk=>hcl j k hlj hk)
                     have m1:mixV QF ops c F res (i+1) (fun j=>(listed.setIfInBounds i true).getD j false) t=(F (i+1)).slots.getD t .junk:=by
                       simp only [mixV,hwt,hfj,if_true,hl', hlj,Bool.true_or]
                       rw [if_neg (by omega)]
                     have m2:mixV QF ops c F res s (fun j=>listed.getD j false) t=(F i).slots.getD t .junk:=by
                       simp only [mixV,hwt,hfj,if_true,hlj]
                       split
                       · rename_i hsc
                         have hci:c j=i:=by
                           rcases Nat.lt_or_ge (c j) i with h | h
                           · obtain ⟨c1,oc,c2,c3,c4⟩:=hcc j (by omega)
                             have:=hnob (c j) hsc h
                             rw [bar_iff c2,c3] at this;cases this
                           · omega
                         exact (flslot i j t (by omega) (by omega) (by omega) hfj hjd (by rw [g4];exact ht)).symm
                       · rw [g5 t ht,hwt]
                         simp [hfj]
                     rw [m1,m2,hFi1 (fun _=>by omega)]
                   case inl =>
                   have hsc:s≤c j:=by omega
                   simp only [mixV,hwt,hfj,if_true,hl', if_pos hsc,if_pos (show i+1≤c j by omega)]
                   rcases Bool.eq_false_or_eq_true (listed.getD j false) with hlj | hlj
                   · have hbj:=based listed s hseg hcl j hjn hfj (fun k hk=>hcl j k hlj hk)
                     have Bkeep:=Bkeep j U (usedB _ i (by omega) (by omega) _ u1) (fun id hid=>Nat.lt_of_lt_of_le (u2 id hid) (lensB _ i (by omega) (by omega))) hic
                     simp only [hlj,hjib,Bool.or_false,if_true]
                     exact (Bkeep (res j) k3 k4).symm
                   · simp only [hlj,hjib,Bool.or_false,Bool.false_eq_true,if_false]
                     exact Bjunk.symm
                 | false =>
                   by_cases hxj:j<i∨parkAt ops j=false∨parkAt ops i=true
                   case neg =>
                     have hjgt:i<j:=by
                       rcases Nat.lt_or_gt_of_ne hji with h | h
                       · exact absurd (.inl h) hxj
                       · exact h
                     have hjp:parkAt ops j=true:=by
                       cases h:parkAt ops j with
                       | true=>rfl
                       | false=>exact absurd (.inr (.inl h)) hxj
                     obtain ⟨oj,hoj⟩:=hget j hjn
                     have hrj:=hresJ j oj hoj (parkOp_bar (park_op hoj hjp))
                     have hFs:(F i).slots.getD t .junk=(F s).slots.getD t .junk:=by
                       rw [g5 t ht,hwt]
                       simp only []
                       rw [if_neg (by omega)]
                     have hjib:(j==i)=false:=by simpa using hji
                     simp only [mixV,hwt,hfj,Bool.false_eq_true,if_false,hl', hjib,Bool.or_false]
                     by_cases hlj:listed.getD j false=true
                     · rw [if_pos ⟨by omega,hlj⟩,if_pos ⟨by omega,hlj⟩,hrj];exact Bjunk.symm
                     · rw [if_neg (fun h=>hlj h.2),if_neg (fun h=>hlj h.2),hFi1 (fun h=>by rw [hfj] at h;cases h),hFs]
                   have hD:=hoth j hjn hfj hji hxj
                   have e2:mixV QF ops c F res s (fun j=>listed.getD j false) t=(F i).slots.getD t .junk:=mixEq s i _ t hsi (by omega) hnob ht (fun j' hj'=>by
                     rw [hwt] at hj'
                     obtain rfl:=Option.some.inj hj'
                     rw [if_neg (by simp [hfj])];exact hD)
                   rw [e2,← hFi1 (fun h=>by rw [hfj] at h;cases h)]
                   simp only [mixV,hwt,hfj,Bool.false_eq_true,if_false,hl']
                   rw [if_neg]
                   rw [hD]
                   simp
                   omega
             refine ih _ _ w' (i+1) η' N' w0' pb (by simpa using hls) hcnt' (by omega) (fun j hj hfj=>?_) (fun j h1 hfj h2=>?_) hcl' (A.step (by omega) (fun p hp=>?_) (fun p o' d ho' _ hpp hpl hd hd2=>?_)) ?_
             · rw [hl']
               by_cases hji:j=i
               · subst hji;simp
               · rw [hoth j (by omega) hfj hji (.inl (by omega))];simp;omega
             · have hjn : j < ops.size := by
                 rcases Nat.lt_or_ge j ops.size with h | h
                 · exact h
                 · have e0:listed.getD j false=false:=by simp [Array.getD_eq_getD_getElem?,Array.getElem?_eq_none (show listed.size≤j by omega)]
                   rw [hl', e0] at h2
                   simp at h2
                   omega
               by_cases hxj:j<i∨parkAt ops j=false∨parkAt ops i=true
               · rw [hl', hoth j hjn hfj (by omega) hxj] at h2
                 simp at h2;omega
               · left
                 cases h:parkAt ops j with
                 | true=>rfl
                 | false=>exact absurd (.inr (.inl h)) hxj
             · rw [hl']
               by_cases hpi:p=i
               · subst hpi;rw [hunf];simp
               · have hne:(p==i)=false:=by simpa using hpi
                 rw [hne,Bool.or_false]
                 refine ⟨fun h=>⟨by omega,h.2⟩,fun h=>⟨?_,h.2⟩⟩
                 rcases Nat.lt_or_gt_of_ne hpi with hlt | hgt
                 · have:=hnob p h.1 hlt
                   rw [park_bar (QF:=QF) hp] at this;cases this
                 · omega
             · have:=DK.dst p i d (park_lt hpp) hin (by rw [hdst p o' ho'];exact hd) (by rw [hdst i o ho];exact hd2)
               subst this;rw [hunf] at hpl;cases hpl
             · have hput2:=s'.put o.dst rx
               have hst2:({ s1 with slots:=(mixL QF ops c F res s fun j=>listed.getD j false).map kf }:St).put o.dst v={ F (i+1) with slots:=mixL QF ops c F res (i+1) (fun j=>(listed.setIfInBounds i true).getD j false) }:=by
                 have hsl:(({ s1 with slots:=(mixL QF ops c F res s fun j=>listed.getD j false).map kf }:St).put o.dst v).slots=mixL QF ops c F res (i+1) (fun j=>(listed.setIfInBounds i true).getD j false):=by
                   refine List.ext_getElem (by cases o.dst<;>simp [St.put,mixL,hl1]) fun t h1 h2=>?_
                   have ht:t<(F s).slots.length:=by simpa [mixL,hl1] using h2
                   have hr:(mixL QF ops c F res (i+1) (fun j=>(listed.setIfInBounds i true).getD j false))[t]=mixV QF ops c F res (i+1) (fun j=>(listed.setIfInBounds i true).getD j false) t:=by simp [mixL]
                   rw [hr]
                   by_cases hd:o.dst=some t
                   · have e3 : mixV QF ops c F res (i + 1) (fun j => (listed.setIfInBounds i true).getD j false) t = v := by
                       have hwt:=wr_of' DK hin (show dstAt ops i=some t by rw [hdst _ o ho];exact hd)
                       simp only [mixV,hwt,hfi,Bool.false_eq_true,if_false]
                       rw [if_neg (by omega),hm.slot t (fun k hk hkb hkd=>by
                         rw [DK.dst k i t (hdlt hkd) hin hkd (by rw [hdst _ o ho];exact hd)] at hk
                         rw [hfi] at hk;cases hk),e1,hd]
                       refine put_getD_self ?_
                       have:s1.slots.length=(F i).slots.length:=by rw [Bslots,List.length_map]
                       rw [this,g4];exact ht
                     rw [e3]
                     simp only [hd,St.put,List.getElem_set_self]
                   · rw [hslots t ht hd]
                     have:(({ s1 with slots:=(mixL QF ops c F res s fun j=>listed.getD j false).map kf }:St).put o.dst v).slots[t]? = some (kf (mixV QF ops c F res s (fun j=>listed.getD j false) t)):=by
                       cases hdd:o.dst with
                       | none=>simp [St.put,mixL,List.getElem?_range ht]
                       | some d =>
                         have hne:d ≠ t:=fun e=>hd (by rw [hdd,e])
                         simp [St.put,mixL,List.getElem?_set_ne hne,List.getElem?_range ht]
                     have:=(List.getElem?_eq_some_iff.1 this).2
                     exact this
                 rw [← hsl]
                 have q1:=hm.heap
                 have q2:=hm.base
                 have q3:=hm.killed
                 rw [e1] at q1 q2 q3
                 show (⟨_,_,_,_⟩:St)=⟨_,(F (i+1)).heap,(F (i+1)).base,(F (i+1)).killed⟩
                 rw [q1,q2,q3]
                 cases o.dst<;>rfl
               rw [hst2] at hput2
               exact hput2
            rcases hdo with ⟨hw,nat⟩ | ⟨hw,rfl,rfl,hkf⟩
            · rw [hwa _ hw]
              simp only [if_true]
              refine .inl (evalOp_sound (R:=AV×St) (K:=fun v s=>some (v,s)) hT hS sr (nat _ hevi) ?_)
              intro v' st' η' w' x hk s' rx
              simp only [Option.some.injEq,Prod.mk.injEq] at hk
              obtain ⟨rfl,rfl⟩:=hk
              exact hgo η' x w' s' rx
            · rw [hwa _ hw]
              simp only [Bool.false_eq_true,if_false]
              refine hgo η undef w ?_ (.raw _)
              have:(mixL QF ops c F res s fun j=>listed.getD j false).map kf=mixL QF ops c F res s fun j=>listed.getD j false:=by
                conv=>rhs;rw [← List.map_id (mixL QF ops c F res s fun j=>listed.getD j false)]
                exact List.map_congr_left fun a _=>hkf a
              rw [this]
              exact sr
  refine main ops.size _ a w 0 η N w0 (fun _=>0) (by simp) (by
    have:=List.length_filter_le (fun i=>!(Array.replicate ops.size false).getD i true) (List.range ops.size)
    simpa using this) (Nat.zero_le _) (fun j hj=>by omega) (fun j _ _ h=>by simp [Array.getD_eq_getD_getElem?,Array.getElem?_replicate] at h;split at h<;>simp at h) (fun i j h=>by simp [Array.getD_eq_getD_getElem?,Array.getElem?_replicate] at h;split at h<;>simp at h) (by
    have hno:∀ j,(Array.replicate ops.size false).getD j false=false:=fun j=>by simp [Array.getD_eq_getD_getElem?,Array.getElem?_replicate];split<;>rfl
    exact ⟨fun k=>⟨.inl,fun h=>h.elim (fun h=>h) (fun ⟨p,_,_,h3,_⟩=>by rw [hno] at h3;cases h3)⟩,⟨rfl,rfl,rfl,Nat.le_refl _,fun _ _=>rfl⟩,fun p o _ _ _ h3=>(by rw [hno] at h3;cases h3),fun p q _ _ h3=>by rw [hno] at h3;cases h3⟩) ?_
  have hfg:=s0.forget (mixL QF ops c F res 0 (fun j=>(Array.replicate ops.size false).getD j false)) (by simp [mixL,hI4]) (fun t ht=>by
    simp only [mixL,List.length_map,List.length_range] at ht
    simp only [mixL]
    rw [getD_range,if_pos ht]
    simp only [mixV]
    have hno:∀ j,(Array.replicate ops.size false).getD j false=false:=fun j=>by simp [Array.getD_eq_getD_getElem?,Array.getElem?_replicate];split<;>rfl
    split
    · rename_i j hj
      have hnj:=hno j
      simp only [hnj]
      cases hfj:flAt QF ops j with
      | true=>exact .inl (by simp)
      | false =>
        right
        simp only [Bool.false_eq_true,if_false,and_false]
        exact hI5 t (fun k hk _ hkd=>by
          have:=wr_of' DK (hdlt hkd) hkd
          rw [hj] at this
          obtain rfl:=Option.some.inj this
          rw [hfj] at hk;cases hk)
    · rename_i hj
      right
      exact hI5 t (fun k hk _ hkd=>by
        have:=wr_of' DK (hdlt hkd) hkd
        rw [hj] at this;cases this))
  have e:({ F 0 with slots:=mixL QF ops c F res 0 (fun j=>(Array.replicate ops.size false).getD j false) }:St)={ stI with slots:=mixL QF ops c F res 0 (fun j=>(Array.replicate ops.size false).getD j false) }:=by
    show (⟨_,(F 0).heap,(F 0).base,(F 0).killed⟩:St)=⟨_,stI.heap,stI.base,stI.killed⟩
    rw [hI1,hI2,hI3]
  rw [e]
  exact hfg
end
end Go.Proofs.Ytccelbeahdcooaa.Eng
