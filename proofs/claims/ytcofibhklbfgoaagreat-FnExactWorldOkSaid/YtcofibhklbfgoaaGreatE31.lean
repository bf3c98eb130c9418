/- The engine, part 31: operations that float past the barriers of a region: what barriers leave alone. -/
import Derived.Test.YtcofibhklbfgoaaGreatE22
namespace Go.Proofs.YtcofibhklbfgoaaGreat.Eng
open Go Go.RowKit
set_option linter.unusedSimpArgs false
set_option linter.unusedVariables false

theorem A0u {K:Nat→Bool} {a:AV} (hs:A11 a=true) (h:∀ id∈B1 a,K id=false):a.kill1 K=a:=by
 cases a with
 | all id sz=>simp only [AV.kill1];rw [h id (by simp [B1])];rfl
 | arr id sz lo n=>simp only [AV.kill1];rw [h id (by simp [B1])];rfl
 | pre id sz n=>simp only [AV.kill1];rw [h id (by simp [B1])];rfl
 | ptr id row sz sub=>simp only [AV.kill1];rw [h id (by simp [B1])];rfl
 | agg=>simp [A11] at hs
 | tup=>simp [A11] at hs
 | fn=>simp [A11] at hs
 | _=>rfl
theorem A18 {f:AV→AV}:∀ (l:List AV),(∀ a∈l,f a=a)→l.map f=l:=by
 intro l
 induction l with
 | nil=>intro _;rfl
 | cons a l ih=>intro h;rw [List.map_cons,h a (by simp),ih fun b hb=>h b (by simp [hb])]
theorem A1L {K:Nat→Bool} {a:AV} (hs:still a=true) (h:∀ id∈A5 a,K id=false):a.kill K=a:=by
 cases a with
 | agg cs =>
  simp only [AV.kill]
  rw [A18]
  intro c hc
  exact A0u (List.all_eq_true.1 hs c hc) (fun id hid=>h id (by simp only [A5,List.mem_flatMap];exact ⟨c,hc,hid⟩))
 | fn f cs =>
  simp only [AV.kill]
  rw [A18]
  intro c hc
  exact A0u (List.all_eq_true.1 hs c hc) (fun id hid=>h id (by simp only [A5,List.mem_flatMap];exact ⟨c,hc,hid⟩))
 | tup=>simp [still] at hs
 | all id sz=>exact A0u (a:=.all id sz) rfl h
 | arr id sz lo n=>exact A0u (a:=.arr id sz lo n) rfl h
 | pre id sz n=>exact A0u (a:=.pre id sz n) rfl h
 | ptr id row sz sub=>exact A0u (a:=.ptr id row sz sub) rfl h
 | _=>rfl
theorem A1j {K:Nat→Bool} {o:AObj} (h:A0z o=true) (hn:∀ j∈A04 o,K j=false):o.kill K=o:=by
 cases o with
 | box cs =>
  simp only [AObj.kill]
  rw [A18]
  intro c hc
  exact A0u (List.all_eq_true.1 h c hc) (fun id hid=>hn id (by simp only [A04,List.mem_flatMap];exact ⟨c,hc,hid⟩))
 | _=>rfl

section
variable {R:Type} {P:Program} {tt:TT} {S:Tab} {QF:FuncId→Bool}

theorem A3e {H H':List AObj} {a:AV} (h:∀ id∈A5 a,H'[id]? = H[id]?):B2 H' a=B2 H a:=by
 cases a with
 | all id sz=>simp only [B2];rw [h id (by simp [A5,B1])]
 | arr id sz lo n=>simp only [B2];rw [h id (by simp [A5,B1])]
 | pre id sz n=>simp only [B2];rw [h id (by simp [A5,B1])]
 | _=>rfl
theorem A4m {H H':List AObj} {a:AV} (h:∀ id∈A5 a,H'[id]? = H[id]?):a.len H'=a.len H:=by
 cases a with
 | all id sz=>simp only [AV.len];rw [h id (by simp [A5,B1])]
 | t fr ty x=>cases ty<;>rfl
 | raw v=>cases v with
  | slice A n c=>cases A<;>cases n<;>cases c<;>rfl
  | _=>rfl
 | _=>rfl

theorem A3i {ev:Operand→AV} {H H':List AObj} {o:Oper} {K:AV→Option R} (hf:A4i o=true) (h:∀ x∈o.op.operands,∀ id∈A5 (ev x),H'[id]? = H[id]?):A3 P tt S ev H' o K=A3 P tt S ev H o K:=by
 simp only [A4i,Bool.and_eq_true] at hf
 cases ho:o.op with
 | move x=>simp only [A3,ho]
 | assign x=>simp only [A3,ho]
 | load t a =>
  rw [ho] at h
  simp only [A3,ho]
  have hr:∀ n,St.read ⟨[],H', 0,[]⟩ n (ev a)=St.read ⟨[],H,0,[]⟩ n (ev a):=by
   intro n
   have h1:=h a (by simp [Op.operands])
   cases hv:ev a with
   | ptr id row sz sub=>rw [hv] at h1;simp only [St.read];rw [h1 id (by simp [A5,B1])]
   | _=>rfl
  simp only [hr]
 | nilCheck x=>simp only [A3,ho]
 | fieldAddr s x f=>simp only [A3,ho]
 | field s x f=>simp only [A3,ho]
 | indexAddr t x i =>
  rw [ho] at h
  simp only [A3,ho]
  have h1:=h x (by simp [Op.operands])
  cases hv:ev x with
  | all id sz=>rw [hv] at h1;simp only [h1 id (by simp [A5,B1])]
  | arr id sz lo n=>rw [hv] at h1;simp only [h1 id (by simp [A5,B1])]
  | pre id sz n=>rw [hv] at h1;simp only [h1 id (by simp [A5,B1])]
  | t fr ty x=>cases B7 tt t<;>cases (ev i).asInt<;>cases ty<;>rfl
  | _=>rfl
 | index t x i=>simp only [A3,ho]
 | extract x i=>simp only [A3,ho]
 | binOp op t x y t' =>
  rw [ho] at h
  simp only [A3,ho,A4c]
  rw [A3e (h x (by simp [Op.operands]))]
 | unOp op t x=>simp only [A3,ho]
 | convert src dst x =>
  rw [ho] at h
  simp only [A3,ho]
  rw [A3e (h x (by simp [Op.operands]))]
 | slice t x lo hi mx =>
  cases mx with
  | some m=>rw [ho] at hf;simp at hf
  | none =>
   rw [ho] at h
   have hx:=h x (by simp [Op.operands])
   simp only [A3,ho]
   rw [A4m hx]
   cases hv:ev x with
   | pre id sz n =>
    rw [hv] at hx
    have e:=hx id (by simp [A5,B1])
    cases hd:B9 tt t with
    | none=>rfl
    | some d=>cases d<;>simp only [e]
   | t fr ty y =>
    cases hd:B9 tt t with
    | none=>rfl
    | some d=>cases d<;>cases ty<;>rfl
   | _ =>
    cases hd:B9 tt t with
    | none=>rfl
    | some d=>cases d<;>rfl
 | call c =>
  rw [ho] at h hf
  simp only at hf
  cases hc:c.callee with
  | builtin b =>
   cases b with
   | len =>
    simp only [A3,ho,hc]
    split
    ·rename_i x t hx ht
     have:x∈Op.operands (.call c):=by
      simp only [Op.operands,Call.operands,hc]
      have hm:x∈c.args:=Array.mem_def.2 (by rw [hx];simp)
      simpa using hm
     rw [A4m (h x this)]
    ·rfl
   | _=>simp [hc] at hf
  | _=>simp [hc] at hf
 | _=>rw [ho] at hf;simp at hf

theorem A3T {ev:Operand→AV} {H H':List AObj} {o:Oper} {K:AV→Option R} (hf:A4i o=true) (h:A05 o=true→∀ x∈o.op.operands,∀ id∈A5 (ev x),H'[id]? = H[id]?):A3 P tt S ev H' o K=A3 P tt S ev H o K:=by
 cases hr:A05 o with
 | true=>exact A3i hf (h hr)
 | false =>
  cases ho:o.op<;>simp [A05,ho] at hr<;>simp only [A3,ho]

def A1g (s:Summ):Prop:=∀ args H r H' ks b,s args H=some (r,H', ks,b)→(∀ k∈ks,k∈E7 args H∨H.length≤k)∧H.length≤H'.length∧∀ id o,H[id]? = some o→id ∉ E7 args H→A0z o=true→(∀ j∈A04 o,j<H.length∧j ∉ E7 args H)→H'[id]? = some o
def LocalTab (S:Tab):Prop:=∀ f s,S f=some s→A1g s

structure BarEff (st s1:St) (T KS:List Nat) (kf:AV→AV):Prop where
 keepK:∀ a,still a=true→(∀ id∈A5 a,id<st.heap.length∧id ∉ KS)→kf a=a
 slots:s1.slots=st.slots.map kf
 keep:∀ a,still a=true→(∀ id∈A5 a,id<st.heap.length∧id ∉ T)→kf a=a
 junk:kf .junk=.junk
 len:st.heap.length≤s1.heap.length
 heap:∀ id o,st.heap[id]? = some o→id ∉ T→A0z o=true→(∀ j∈A04 o,j<st.heap.length∧j ∉ T)→s1.heap[id]? = some o

theorem A4Y {st:St} {o:AObj} {T KS:List Nat}:BarEff st (st.new o) T KS (fun a=>a) :=
 ⟨fun _ _ _=>rfl,by simp [St.new],fun _ _ _=>rfl,rfl,by simp [St.new],fun id ob h _ _ _=>by simp only [St.new];rw [List.getElem?_append_left (List.getElem?_eq_some_iff.1 h).1];exact h⟩

theorem A5A {st:St} {id:Nat} {ob:AObj} {T KS:List Nat} (hT:id∈T) (hK:id∈KS):BarEff st { st.kill [id] with heap:=(st.kill [id]).heap.set id ob } T KS (AV.kill (List.contains [id])):=by
 refine ⟨fun a hs hn=>A1L hs (fun k hk=>?_),by simp [St.kill],fun a hs hn=>A1L hs (fun k hk=>?_),rfl,by simp [St.kill],fun k o h hk hs hn=>?_⟩
 ·have:=(hn k hk).2
  simp only [List.contains_cons,List.contains_nil,Bool.or_false,beq_eq_false_iff_ne]
  intro e;subst e;exact this hK
 ·have:=(hn k hk).2
  simp only [List.contains_cons,List.contains_nil,Bool.or_false,beq_eq_false_iff_ne]
  intro e;subst e;exact this hT
 ·have hne:id ≠ k:=fun e=>hk (e ▸ hT)
  simp only [St.kill]
  rw [List.getElem?_set_ne hne,List.getElem?_map,h]
  simp only [Option.map_some]
  rw [A1j hs (fun j hj=>by
   have:=(hn j hj).2
   simp only [List.contains_cons,List.contains_nil,Bool.or_false,beq_eq_false_iff_ne]
   intro e;subst e;exact this hT)]

theorem A4J:∀ (l:List (Nat×AV)) (cs:List AV) (place:Nat→Option (Nat×Nat)) (r:List AV),A0t cs place l=some r→∀ a∈r,a∈cs∨∃ p∈l,a∈p.2.cells:=by
 intro l
 induction l with
 | nil=>intro cs place r h a ha;simp only [A0t,Option.some.injEq] at h;subst h;exact .inl ha
 | cons p l ih =>
  obtain ⟨i,v⟩:=p
  intro cs place r h a ha
  simp only [A0t] at h
  split at h
  ·split at h
   ·rcases ih _ _ _ h a ha with h1 | ⟨p,hp,h1⟩
    ·simp only [E9,List.mem_append] at h1
     rcases h1 with (h1 | h1) | h1
     ·exact .inl (List.mem_of_mem_take h1)
     ·exact .inr ⟨(i,v),by simp,h1⟩
     ·exact .inl (List.mem_of_mem_drop h1)
    ·exact .inr ⟨p,by simp [hp],h1⟩
   ·cases h
  ·cases h

theorem A3l (st:St) (a:AV):(st.freeze1 a).2.slots=st.slots∧(st.freeze1 a).2.heap.length=st.heap.length∧∀ ss,St.freeze1 { st with slots:=ss } a=((st.freeze1 a).1,{ (st.freeze1 a).2 with slots:=ss }):=by
 cases a with
 | all id sz =>
  simp only [St.freeze1]
  split
  ·split<;>exact ⟨rfl,by simp,fun _=>rfl⟩
  ·exact ⟨rfl,rfl,fun _=>rfl⟩
 | arr id sz lo n =>
  simp only [St.freeze1]
  split
  ·split<;>exact ⟨rfl,by simp,fun _=>rfl⟩
  ·exact ⟨rfl,rfl,fun _=>rfl⟩
 | pre id sz n =>
  simp only [St.freeze1]
  split
  ·split<;>exact ⟨rfl,by simp,fun _=>rfl⟩
  ·exact ⟨rfl,rfl,fun _=>rfl⟩
 | _=>exact ⟨rfl,rfl,fun _=>rfl⟩
theorem A1P:∀ (cs:List AV) (st:St),(St.freezeL cs st).2.slots=st.slots∧(St.freezeL cs st).2.heap.length=st.heap.length∧∀ ss,St.freezeL cs { st with slots:=ss }=((St.freezeL cs st).1,{ (St.freezeL cs st).2 with slots:=ss }):=by
 intro cs
 induction cs with
 | nil=>intro st;exact ⟨rfl,rfl,fun _=>rfl⟩
 | cons a cs ih =>
  intro st
  obtain ⟨h1,h2,h3⟩:=A3l st a
  obtain ⟨g1,g2,g3⟩:=ih (st.freeze1 a).2
  refine ⟨by simp only [St.freezeL];rw [g1,h1],by simp only [St.freezeL];rw [g2,h2],fun ss=>?_⟩
  simp only [St.freezeL,h3 ss,g3 ss]
theorem A3W (st:St) (a:AV) (id:Nat) (h:id ∉ B1 a):(st.freeze1 a).2.heap[id]? = st.heap[id]?:=by
 have key:∀ k:Nat,k ≠ id→(st.heap.set k .dead)[id]? = st.heap[id]?:=fun k hk=>List.getElem?_set_ne hk
 cases a with
 | all k sz =>
  have hk:k ≠ id:=fun e=>h (by simp [B1,e])
  simp only [St.freeze1]
  split
  ·split
   ·exact key k hk
   ·rfl
  ·rfl
 | arr k sz lo n =>
  have hk:k ≠ id:=fun e=>h (by simp [B1,e])
  simp only [St.freeze1]
  split
  ·split
   ·exact key k hk
   ·rfl
  ·rfl
 | pre k sz n =>
  have hk:k ≠ id:=fun e=>h (by simp [B1,e])
  simp only [St.freeze1]
  split
  ·split
   ·exact key k hk
   ·rfl
  ·rfl
 | _=>rfl
theorem A3X:∀ (cs:List AV) (st:St) (id:Nat),(∀ a∈cs,id ∉ B1 a)→(St.freezeL cs st).2.heap[id]? = st.heap[id]?:=by
 intro cs
 induction cs with
 | nil=>intro st id _;rfl
 | cons a cs ih =>
  intro st id h
  simp only [St.freezeL]
  rw [ih _ id (fun b hb=>h b (by simp [hb])),A3W st a id (h a (by simp))]

theorem A3Q (hL:LocalTab S) {st s1:St} {o:Oper} {v:AV} {T:List Nat} (ht:touched st o=some T) (he:A2 P tt S st o (fun v s=>some (v,s))=some (v,s1)) :
    ∃ kf,BarEff st s1 T (A0U S st o) kf∧∀ ss:List AV,(∀ x∈o.op.operands,St.ev { st with slots:=ss } x=st.ev x)→A2 P tt S { st with slots:=ss } o (fun v s=>some (v,s))=some (v,{ s1 with slots:=ss.map kf }):=by
  have new : ∀ (ob : AObj) (a : AV), some (a, st.new ob) = some (v, s1) → (∀ ss : List AV, (∀ x ∈ o.op.operands, St.ev { st with slots := ss } x = st.ev x) → A2 P tt S { st with slots := ss } o (fun v s => some (v, s)) = some (a, St.new { st with slots := ss } ob)) →
      ∃ kf,BarEff st s1 T (A0U S st o) kf∧∀ ss:List AV,(∀ x∈o.op.operands,St.ev { st with slots:=ss } x=st.ev x)→A2 P tt S { st with slots:=ss } o (fun v s=>some (v,s))=some (v,{ s1 with slots:=ss.map kf }):=by
    intro ob a h1 h2
    simp only [Option.some.injEq,Prod.mk.injEq] at h1
    obtain ⟨rfl,rfl⟩:=h1
    exact ⟨_,A4Y,fun ss hs=>by rw [h2 ss hs];simp [St.new]⟩
  have key:∀ op,o.op=op→∃ kf,BarEff st s1 T (A0U S st o) kf∧∀ ss:List AV,(∀ x∈o.op.operands,St.ev { st with slots:=ss } x=st.ev x)→A2 P tt S { st with slots:=ss } o (fun v s=>some (v,s))=some (v,{ s1 with slots:=ss.map kf }):=by
   intro op ho
   cases op with
   | alloc E =>
     simp only [A2,ho] at he
     split at he
     · rename_i d hd
       exact new _ _ he (fun ss _=>by simp only [A2,ho,hd])
     · cases he
   | box E x =>
     simp only [A2,ho] at he
     split at he
     · rename_i hc
       refine new _ _ he (fun ss hs=>?_)
       have e1:=hs x (by rw [ho];simp [Op.operands])
       simp only [A2,ho,e1,if_pos hc]
     · cases he
   | makeSlice t l c =>
     simp only [A2,ho] at he
     split at he
     · rename_i E d n m h1 h2 h3
       split at he
       · rename_i e h4
         split at he
         · rename_i z f h5
           split at he
           · rename_i h6
             obtain ⟨h7,he⟩:=A8 he
             refine new _ _ he (fun ss hs=>?_)
             have e1:=hs l (by rw [ho];simp [Op.operands])
             have e2:=hs c (by rw [ho];simp [Op.operands])
             simp only [A2,ho,e1,e2,h1,h2,h3,h4,h5,h6,h7,if_true,cond_true]
           · cases he
         · cases he
       · cases he
     · cases he
   | buildSlice t len parts =>
     simp only [touched,ho,Option.some.injEq] at ht
     simp only [A2,ho] at he
     split at he
     · rename_i E d h1
       split at he
       · rename_i e h2
         split at he
         · rename_i h3
           split at he
           · rename_i cs h4
             split at he
             · rename_i l f h5
               simp only [Option.some.injEq,Prod.mk.injEq] at he
               obtain ⟨rfl,rfl⟩:=he
               have hcs:∀ a∈cs,∀ id∈B1 a,id∈T:=by
                 intro a ha id hid
                 rcases A4J _ _ _ _ h4 a ha with h | ⟨p,hp,h⟩
                 · rw [List.eq_of_mem_replicate h] at hid;simp [B1] at hid
                 · obtain ⟨q,hq,rfl⟩:=List.mem_map.1 hp
                   rw [← ht]
                   exact List.mem_flatMap.2 ⟨q,hq,List.mem_flatMap.2 ⟨a,h,hid⟩⟩
               obtain ⟨f1,f2,f3⟩:=A1P cs st
               refine ⟨fun a=>a,⟨fun _ _ _=>rfl,by simp [St.new,f1],fun _ _ _=>rfl,rfl,by simp [St.new,f2],fun id ob hb hid _ _=>?_⟩,fun ss hs=>?_⟩
               · have hlt:=(List.getElem?_eq_some_iff.1 hb).1
                 simp only [St.new]
                 rw [List.getElem?_append_left (by rw [f2];exact hlt),A3X cs st id (fun a ha hm=>hid (hcs a ha id hm))]
                 exact hb
               · have e1 : (parts.toList.map fun p => (p.1, St.ev { st with slots := ss } p.2)) = parts.toList.map fun p => (p.1, st.ev p.2) := List.map_congr_left fun p hp => by
                   rw [hs p.2 (by rw [ho];simp only [Op.operands];simp only [Array.toList_map,Array.mem_def,List.mem_map] ;exact ⟨p,by simpa using hp,rfl⟩)]
                 simp only [A2,ho,h1,h2,h3,e1,h4,if_true,f3 ss,h5]
                 simp [St.new]
             · cases he
           · cases he
         · cases he
       · cases he
     · cases he
   | call c =>
     simp only [touched,ho] at ht
     cases hc:c.callee with
     | builtin b =>
       cases b with
       | append =>
         simp only [hc] at ht
         split at ht
         · rename_i sx x hargs
           simp only [Option.some.injEq] at ht
           subst ht
           have hops:sx∈o.op.operands∧x∈o.op.operands:=by
             rw [ho]
             simp only [Op.operands,Call.operands,hc]
             have h1:sx∈c.args:=Array.mem_def.2 (by rw [hargs];simp)
             have h2:x∈c.args:=Array.mem_def.2 (by rw [hargs];simp)
             exact ⟨by simpa using h1,by simpa using h2⟩
           have kl : ∀ (id sz : Nat) (ob : AObj) (a : AV), st.ev sx = .all id sz → some (a, ({ st.kill [id] with heap := (st.kill [id]).heap.set id ob } : St)) = some (v, s1) →
               (∀ ss:List AV,(∀ x∈o.op.operands,St.ev { st with slots:=ss } x=st.ev x)→A2 P tt S { st with slots:=ss } o (fun v s=>some (v,s))=some (a,({ St.kill { st with slots:=ss } [id] with heap:=(St.kill { st with slots:=ss } [id]).heap.set id ob }:St))) →
               ∃ kf,BarEff st s1 (A5 (st.ev sx)) (A0U S st o) kf∧∀ ss:List AV,(∀ x∈o.op.operands,St.ev { st with slots:=ss } x=st.ev x)→A2 P tt S { st with slots:=ss } o (fun v s=>some (v,s))=some (v,{ s1 with slots:=ss.map kf }):=by
             intro id sz ob a hev h1 h2
             simp only [Option.some.injEq,Prod.mk.injEq] at h1
             obtain ⟨rfl,rfl⟩:=h1
             exact ⟨_,A5A (by rw [hev];simp [A5,B1]) (by simp only [A0U,ho,hc,hargs];rw [hev];simp [A5,B1]),fun ss hs=>by rw [h2 ss hs];rfl⟩
           simp only [A2,ho,hc,hargs] at he
           split at he
           · rename_i s' x' t t' hl ht'
             simp only [List.cons.injEq,and_true] at hl
             obtain ⟨rfl,rfl⟩:=hl
             split at he
             · rename_i htt
               subst htt
               split at he
               · rename_i E d h1
                 split at he
                 · rename_i e h2
                   split at he
                   · rename_i ys f id sz h3 h4
                     split at he
                     · rename_i E' fr e' l h5
                       split at he
                       · rename_i h6
                         obtain ⟨h7,he⟩:=A8 he
                         refine kl id sz _ _ h4 he (fun ss hs=>?_)
                         have e1:=hs sx hops.1
                         have e2:=hs x hops.2
                         simp only [A2,ho,hc,hargs,ht', if_true,h1,h2,e1,e2,h3,h4,h5,dif_pos h6,h7,cond_true]
                       · cases he
                     · cases he
                   · rename_i ys f h3 h4
                     split at he
                     · rename_i h6
                       obtain ⟨h7,he⟩:=A8 he
                       have q:=new _ _ he (fun ss hs=>by
                         have e1:=hs sx hops.1
                         have e2:=hs x hops.2
                         simp only [A2,ho,hc,hargs,ht', if_true,h1,h2,e1,e2,h3,h4,if_pos h6,h7,cond_true])
                       rw [h4]
                       obtain ⟨kf,q1,q2⟩:=q
                       exact ⟨fun a=>a,by
                         simp only [Option.some.injEq,Prod.mk.injEq] at he
                         obtain ⟨rfl,rfl⟩:=he
                         exact A4Y,fun ss hs=>by
                         have e1:=hs sx hops.1
                         have e2:=hs x hops.2
                         simp only [Option.some.injEq,Prod.mk.injEq] at he
                         obtain ⟨rfl,rfl⟩:=he
                         simp only [A2,ho,hc,hargs,ht', if_true,h1,h2,e1,e2,h3,h4,if_pos h6,h7,cond_true]
                         simp [St.new]⟩
                     · cases he
                   · rename_i ys f id sz n h3 h4
                     split at he
                     · rename_i E' fr e' l h5
                       split at he
                       · rename_i h6
                         obtain ⟨h7,he⟩:=A8 he
                         simp only [Option.some.injEq,Prod.mk.injEq] at he
                         obtain ⟨rfl,rfl⟩:=he
                         rw [h4]
                         refine ⟨fun a=>a,⟨fun _ _ _=>rfl,by simp,fun _ _ _=>rfl,rfl,by simp,fun k ob hb hk _ _=>?_⟩,fun ss hs=>?_⟩
                         · have hne:id ≠ k:=fun e=>hk (by simp [A5,B1,e])
                           simp only
                           rw [List.getElem?_set_ne hne]
                           exact hb
                         · have e1:=hs sx hops.1
                           have e2:=hs x hops.2
                           simp only [A2,ho,hc,hargs,ht', if_true,h1,h2,e1,e2,h3,h4,h5,dif_pos h6,h7,cond_true]
                           simp
                       · cases he
                     · cases he
                   · cases he
                 · cases he
               · cases he
             · rename_i htt
               split at he
               · rename_i y E d h1 h2 h3
                 split at he
                 · rename_i id sz h4 h5
                   split at he
                   · rename_i E' fr l h6
                     split at he
                     · rename_i h7
                       split at he
                       · rename_i h8
                         obtain ⟨h9,he⟩:=A8 he
                         refine kl id sz _ _ h5 he (fun ss hs=>?_)
                         have e1:=hs sx hops.1
                         have e2:=hs x hops.2
                         simp only [A2,ho,hc,hargs,ht', if_neg htt,h1,e2,h2,h3,h4,e1,h5,h6,if_pos h7,h8,h9,cond_true]
                       · cases he
                     · cases he
                   · cases he
                 · cases he
               · cases he
           · cases he
         · cases ht
       | _=>simp [hc] at ht
     | value fx =>
       simp only [hc] at ht
       split at ht
       · rename_i g caps hg
         simp only [Option.some.injEq] at ht
         subst ht
         have hops:fx∈o.op.operands∧∀ y∈c.args.toList,y∈o.op.operands:=by
           rw [ho]
           simp only [Op.operands,Call.operands,hc]
           constructor
           · simp
           · intro y hy;have:=Array.mem_def.2 hy;simp [this]
         have hev:∀ ss:List AV,(∀ x∈o.op.operands,St.ev { st with slots:=ss } x=st.ev x)→St.ev { st with slots:=ss } fx=st.ev fx∧c.args.toList.map (St.ev { st with slots:=ss })=c.args.toList.map st.ev:=fun ss hs=>⟨hs fx hops.1,List.map_congr_left fun y hy=>hs y (hops.2 y hy)⟩
         simp only [A2,ho,hc,hg] at he
         split at he
         · rename_i s hs
           split at he
           · rename_i r H' b hr
             obtain ⟨hb,he⟩:=A8 he
             subst hb
             have he:some (r,({ st with heap:=H' }:St))=some (v,s1):=he
             simp only [Option.some.injEq,Prod.mk.injEq] at he
             obtain ⟨rfl,rfl⟩:=he
             obtain ⟨l1,l2,l3⟩:=hL g s hs _ _ _ _ _ _ hr
             refine ⟨fun a=>a,⟨fun _ _ _=>rfl,by simp,fun _ _ _=>rfl,rfl,l2,l3⟩,fun ss hss=>?_⟩
             obtain ⟨e1,e2⟩:=hev ss hss
             simp only [A2,ho,hc,e1,hg,hs,e2,hr,cond_true]
             simp
           · rename_i r H' k ks b hr
             obtain ⟨hb,he⟩:=A8 he
             subst hb
             have he:some (r,({ st.kill (k::ks) with heap:=H' }:St))=some (v,s1):=he
             simp only [Option.some.injEq,Prod.mk.injEq] at he
             obtain ⟨rfl,rfl⟩:=he
             obtain ⟨l1,l2,l3⟩:=hL g s hs _ _ _ _ _ _ hr
             refine ⟨AV.kill (List.contains (k::ks)),⟨fun a ha hn=>A1L ha (fun id hid=>?_),by simp [St.kill],fun a ha hn=>A1L ha (fun id hid=>?_),rfl,l2,l3⟩,fun ss hss=>?_⟩
             · rw [Bool.eq_false_iff]
               intro hcn
               obtain ⟨n1,n2⟩:=hn id hid
               simp only [A0U,ho,hc,hg,hs,hr] at n2
               exact n2 (by simpa using hcn)
             · rw [Bool.eq_false_iff]
               intro hcn
               obtain ⟨n1,n2⟩:=hn id hid
               rcases l1 id (by simpa using hcn) with h | h
               · exact n2 h
               · omega
             · obtain ⟨e1,e2⟩:=hev ss hss
               simp only [A2,ho,hc,e1,hg,hs,e2,hr,cond_true]
               rfl
           · cases he
         · cases he
       · cases ht
     | invoke r m=>simp [hc] at ht
   | _=>simp [touched,ho] at ht
  exact key _ rfl

theorem A2B {st st':St} {p:AV} {vs:List AV} (h:st.write p vs=some st'):st'.slots=st.slots∧st'.heap.length=st.heap.length∧∀ ss,St.write { st with slots:=ss } p vs=some { st' with slots:=ss }:=by
 cases p with
 | ptr id row sz sub =>
  simp only [St.write] at h ⊢
  split at h
  ·rename_i cs hb
   split at h
   ·rename_i hr
    split at h
    ·rename_i hc
     simp only [Option.some.injEq] at h
     subst h
     exact ⟨rfl,by simp,fun ss=>by simp only [hb,if_pos hr,if_pos hc]⟩
    ·cases h
   ·cases h
  ·rename_i E fr e l hb
   split at h
   ·rename_i hc
    split at h
    ·rename_i x f hx
     simp only [Option.some.injEq] at h
     subst h
     exact ⟨rfl,by simp,fun ss=>by simp only [hb,if_pos hc,hx]⟩
    ·cases h
   ·cases h
  ·cases h
 | _=>simp [St.write] at h
theorem A2s {st s1:St} {o:Oper} {v:AV} (hs:A2G o=true) (he:A2 P tt S st o (fun v s=>some (v,s))=some (v,s1)) :
  s1.slots=st.slots∧s1.heap.length=st.heap.length∧∀ ss:List AV,(∀ x∈o.op.operands,St.ev { st with slots:=ss } x=st.ev x)→A2 P tt S { st with slots:=ss } o (fun v s=>some (v,s))=some (v,{ s1 with slots:=ss }):=by
 cases ho:o.op with
 | store t a x =>
  have ha:a∈o.op.operands∧x∈o.op.operands:=by rw [ho];simp [Op.operands]
  rw [← ho]
  simp only [A2,ho] at he
  split at he
  ·rename_i d hd
   split at he
   ·rename_i hc
    split at he
    ·rename_i id row sz sub ea
     split at he
     ·rename_i E fr e l hb
      split at he
      ·rename_i st' hw
       simp only [Option.some.injEq,Prod.mk.injEq] at he
       obtain ⟨rfl,rfl⟩:=he
       obtain ⟨w1,w2,w3⟩:=A2B hw
       obtain ⟨f1,f2,f3⟩:=A1P (st.ev x).cells st
       refine ⟨w1.trans f1,w2.trans f2,fun ss hss=>?_⟩
       have e1:=hss a ha.1
       have e2:=hss x ha.2
       simp only [A2,ho,hd,e2,if_pos hc,e1,ea,hb,f3 ss,w3 ss]
      ·cases he
     ·rename_i cs hb
      split at he
      ·rename_i st' hw
       simp only [Option.some.injEq,Prod.mk.injEq] at he
       obtain ⟨rfl,rfl⟩:=he
       obtain ⟨w1,w2,w3⟩:=A2B hw
       refine ⟨w1,w2,fun ss hss=>?_⟩
       have e1:=hss a ha.1
       have e2:=hss x ha.2
       simp only [A2,ho,hd,e2,if_pos hc,e1,ea,hb,w3 ss]
      ·cases he
     ·cases he
    ·cases he
   ·cases he
  ·cases he
 | _=>simp [A2G,ho] at hs
end
end Go.Proofs.YtcofibhklbfgoaaGreat.Eng
