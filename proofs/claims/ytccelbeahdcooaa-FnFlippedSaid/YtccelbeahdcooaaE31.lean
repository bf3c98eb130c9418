/- The engine, part 31: operations that float past the barriers of a region: what barriers leave alone. -/
import Derived.Test.YtccelbeahdcooaaE22
namespace Go.Proofs.Ytccelbeahdcooaa.Eng
open Go Go.RowKit
set_option linter.unusedSimpArgs false
set_option linter.unusedVariables false

theorem kill1_keep {K:Nat→Bool} {a:AV} (hs:still1 a=true) (h:∀ id∈namesOf1 a,K id=false):a.kill1 K=a:=by
 cases a with
 | all id sz=>simp only [AV.kill1];rw [h id (by simp [namesOf1])];rfl
 | arr id sz lo n=>simp only [AV.kill1];rw [h id (by simp [namesOf1])];rfl
 | pre id sz n=>simp only [AV.kill1];rw [h id (by simp [namesOf1])];rfl
 | ptr id row sz sub=>simp only [AV.kill1];rw [h id (by simp [namesOf1])];rfl
 | nest id row sz off=>simp only [AV.kill1];rw [h id (by simp [namesOf1])];rfl
 | agg=>simp [still1] at hs
 | tup=>simp [still1] at hs
 | fn=>simp [still1] at hs
 | _=>rfl
theorem map_keep {f:AV→AV}:∀ (l:List AV),(∀ a∈l,f a=a)→l.map f=l:=by
 intro l
 induction l with
 | nil=>intro _;rfl
 | cons a l ih=>intro h;rw [List.map_cons,h a (by simp),ih fun b hb=>h b (by simp [hb])]
theorem kill_keep {K:Nat→Bool} {a:AV} (hs:still a=true) (h:∀ id∈namesOf a,K id=false):a.kill K=a:=by
 cases a with
 | agg cs =>
  simp only [AV.kill]
  rw [map_keep]
  intro c hc
  exact kill1_keep (List.all_eq_true.1 hs c hc) (fun id hid=>h id (by simp only [namesOf,List.mem_flatMap];exact ⟨c,hc,hid⟩))
 | fn f cs =>
  simp only [AV.kill]
  rw [map_keep]
  intro c hc
  exact kill1_keep (List.all_eq_true.1 hs c hc) (fun id hid=>h id (by simp only [namesOf,List.mem_flatMap];exact ⟨c,hc,hid⟩))
 | tup=>simp [still] at hs
 | all id sz=>exact kill1_keep (a:=.all id sz) rfl h
 | arr id sz lo n=>exact kill1_keep (a:=.arr id sz lo n) rfl h
 | pre id sz n=>exact kill1_keep (a:=.pre id sz n) rfl h
 | ptr id row sz sub=>exact kill1_keep (a:=.ptr id row sz sub) rfl h
 | nest id row sz off=>exact kill1_keep (a:=.nest id row sz off) rfl h
 | _=>rfl
theorem objStill_kill {K:Nat→Bool} {o:AObj} (h:objStill o=true) (hn:∀ j∈objNames o,K j=false):o.kill K=o:=by
 cases o with
 | box cs =>
  simp only [AObj.kill]
  rw [map_keep]
  intro c hc
  exact kill1_keep (List.all_eq_true.1 h c hc) (fun id hid=>hn id (by simp only [objNames,List.mem_flatMap];exact ⟨c,hc,hid⟩))
 | _=>rfl

section
variable {R:Type} {P:Program} {tt:TT} {S:Tab} {QF:FuncId→Bool}

theorem view1_heap {H H':List AObj} {a:AV} (h:∀ id∈namesOf a,H'[id]? = H[id]?):view1 H' a=view1 H a:=by
 cases a with
 | all id sz=>simp only [view1];rw [h id (by simp [namesOf,namesOf1])]
 | arr id sz lo n=>simp only [view1];rw [h id (by simp [namesOf,namesOf1])]
 | pre id sz n=>simp only [view1];rw [h id (by simp [namesOf,namesOf1])]
 | _=>rfl
theorem len_heap {H H':List AObj} {a:AV} (h:∀ id∈namesOf a,H'[id]? = H[id]?):a.len H'=a.len H:=by
 cases a with
 | nest id row sz off=>simp only [AV.len];rw [h id (by simp [namesOf,namesOf1])]
 | all id sz=>simp only [AV.len];rw [h id (by simp [namesOf,namesOf1])]
 | t fr ty x=>cases ty<;>rfl
 | raw v=>cases v with
  | slice A n c=>cases A<;>cases n<;>cases c<;>rfl
  | _=>rfl
 | _=>rfl

theorem arrLoad_heap {d:TD} {H H':List AObj} {a:AV} (h:∀ id∈namesOf a,H'[id]? = H[id]?):arrLoad tt d H' a=arrLoad tt d H a:=by
 unfold arrLoad
 split
 ·rename_i id;simp only [h id (by simp [namesOf,namesOf1])]
 ·rfl
theorem arrAddr_heap {t:TypeId} {H H':List AObj} {a:AV} {n:Int} (h:∀ id∈namesOf a,H'[id]? = H[id]?):arrAddr tt t H' a n=arrAddr tt t H a n:=by
 unfold arrAddr
 split
 ·rename_i id;simp only [h id (by simp [namesOf,namesOf1])]
 ·rfl
theorem evalOpG_heap1 {ev:Operand→AV} {H H':List AObj} {o:Oper} {K:AV→Option R} (hf:flOp o=true) (h:∀ x∈o.op.operands,∀ id∈namesOf (ev x),H'[id]? = H[id]?):evalOpG P tt S ev H' o K=evalOpG P tt S ev H o K:=by
 simp only [flOp,Bool.and_eq_true] at hf
 cases ho:o.op with
 | move x=>simp only [evalOpG,ho]
 | assign x=>simp only [evalOpG,ho]
 | load t a =>
  rw [ho] at h
  simp only [evalOpG,ho]
  have hr:∀ n,St.read ⟨[],H', 0,[]⟩ n (ev a)=St.read ⟨[],H,0,[]⟩ n (ev a):=by
   intro n
   have h1:=h a (by simp [Op.operands])
   cases hv:ev a with
   | ptr id row sz sub=>rw [hv] at h1;simp only [St.read];rw [h1 id (by simp [namesOf,namesOf1])]
   | _=>rfl
  have ha:∀ d,arrLoad tt d H' (ev a)=arrLoad tt d H (ev a):=fun d=>arrLoad_heap (h a (by simp [Op.operands]))
  simp only [hr,ha]
 | nilCheck x=>simp only [evalOpG,ho]
 | fieldAddr s x f=>simp only [evalOpG,ho]
 | field s x f=>simp only [evalOpG,ho]
 | indexAddr t x i =>
  rw [ho] at h
  simp only [evalOpG,ho]
  have h1:=h x (by simp [Op.operands])
  have ha:∀ n,arrAddr tt t H' (ev x) n=arrAddr tt t H (ev x) n:=fun n=>arrAddr_heap h1
  simp only [ha]
  clear ha
  cases hv:ev x with
  | all id sz=>rw [hv] at h1;simp only [h1 id (by simp [namesOf,namesOf1])]
  | arr id sz lo n=>rw [hv] at h1;simp only [h1 id (by simp [namesOf,namesOf1])]
  | pre id sz n=>rw [hv] at h1;simp only [h1 id (by simp [namesOf,namesOf1])]
  | t fr ty x=>cases elemOf' tt t<;>cases (ev i).asInt<;>cases ty<;>rfl
  | _=>rfl
 | index t x i=>simp only [evalOpG,ho]
 | extract x i=>simp only [evalOpG,ho]
 | binOp op t x y t' =>
  rw [ho] at h
  simp only [evalOpG,ho,cmpSp]
  rw [view1_heap (h x (by simp [Op.operands]))]
 | unOp op t x=>simp only [evalOpG,ho]
 | convert src dst x =>
  rw [ho] at h
  simp only [evalOpG,ho]
  rw [view1_heap (h x (by simp [Op.operands]))]
 | slice t x lo hi mx =>
  cases mx with
  | some m=>rw [ho] at hf;simp at hf
  | none =>
   rw [ho] at h
   have hx:=h x (by simp [Op.operands])
   simp only [evalOpG,ho]
   rw [len_heap hx]
   cases hv:ev x with
   | pre id sz n =>
    rw [hv] at hx
    have e:=hx id (by simp [namesOf,namesOf1])
    cases hd:descOf tt t with
    | none=>rfl
    | some d=>cases d<;>simp only [e]
   | t fr ty y =>
    cases hd:descOf tt t with
    | none=>rfl
    | some d=>cases d<;>cases ty<;>rfl
   | _ =>
    cases hd:descOf tt t with
    | none=>rfl
    | some d=>cases d<;>rfl
 | call c =>
  rw [ho] at h hf
  simp only at hf
  cases hc:c.callee with
  | builtin b =>
   cases b with
   | len =>
    simp only [evalOpG,ho,hc]
    split
    ·rename_i x t hx ht
     have:x∈Op.operands (.call c):=by
      simp only [Op.operands,Call.operands,hc]
      have hm:x∈c.args:=Array.mem_def.2 (by rw [hx];simp)
      simpa using hm
     rw [len_heap (h x this)]
    ·rfl
   | _=>simp [hc] at hf
  | _=>simp [hc] at hf
 | _=>rw [ho] at hf;simp at hf

theorem evalOpG_heap {ev:Operand→AV} {H H':List AObj} {o:Oper} {K:AV→Option R} (hf:flOp o=true) (h:readsH o=true→∀ x∈o.op.operands,∀ id∈namesOf (ev x),H'[id]? = H[id]?):evalOpG P tt S ev H' o K=evalOpG P tt S ev H o K:=by
 cases hr:readsH o with
 | true=>exact evalOpG_heap1 hf (h hr)
 | false =>
  cases ho:o.op<;>simp [readsH,ho] at hr<;>simp only [evalOpG,ho]

def LocalS (s:Summ):Prop:=∀ args H r H' ks b,s args H=some (r,H', ks,b)→(∀ k∈ks,k∈winIds args H∨H.length≤k)∧H.length≤H'.length∧∀ id o,H[id]? = some o→id ∉ winIds args H→objStill o=true→(∀ j∈objNames o,j<H.length∧j ∉ winIds args H)→H'[id]? = some o
def LocalTab (S:Tab):Prop:=∀ f s,S f=some s→LocalS s

structure BarEff (st s1:St) (T KS:List Nat) (kf:AV→AV):Prop where
 keepK:∀ a,still a=true→(∀ id∈namesOf a,id<st.heap.length∧id ∉ KS)→kf a=a
 slots:s1.slots=st.slots.map kf
 keep:∀ a,still a=true→(∀ id∈namesOf a,id<st.heap.length∧id ∉ T)→kf a=a
 junk:kf .junk=.junk
 len:st.heap.length≤s1.heap.length
 heap:∀ id o,st.heap[id]? = some o→id ∉ T→objStill o=true→(∀ j∈objNames o,j<st.heap.length∧j ∉ T)→s1.heap[id]? = some o

theorem eff_new {st:St} {o:AObj} {T KS:List Nat}:BarEff st (st.new o) T KS (fun a=>a) :=
 ⟨fun _ _ _=>rfl,by simp [St.new],fun _ _ _=>rfl,rfl,by simp [St.new],fun id ob h _ _ _=>by simp only [St.new];rw [List.getElem?_append_left (List.getElem?_eq_some_iff.1 h).1];exact h⟩

theorem eff_kill {st:St} {id:Nat} {ob:AObj} {T KS:List Nat} (hT:id∈T) (hK:id∈KS):BarEff st { st.kill [id] with heap:=(st.kill [id]).heap.set id ob } T KS (AV.kill (List.contains [id])):=by
 refine ⟨fun a hs hn=>kill_keep hs (fun k hk=>?_),by simp [St.kill],fun a hs hn=>kill_keep hs (fun k hk=>?_),rfl,by simp [St.kill],fun k o h hk hs hn=>?_⟩
 ·have:=(hn k hk).2
  simp only [List.contains_cons,List.contains_nil,Bool.or_false,beq_eq_false_iff_ne]
  intro e;subst e;exact this hK
 ·have:=(hn k hk).2
  simp only [List.contains_cons,List.contains_nil,Bool.or_false,beq_eq_false_iff_ne]
  intro e;subst e;exact this hT
 ·have hne:id ≠ k:=fun e=>hk (e ▸ hT)
  simp only [St.kill]
  rw [List.getElem?_set_ne hne,List.getElem?_map,h]
  simp only [Option.map_some]
  rw [objStill_kill hs (fun j hj=>by
   have:=(hn j hj).2
   simp only [List.contains_cons,List.contains_nil,Bool.or_false,beq_eq_false_iff_ne]
   intro e;subst e;exact this hT)]

theorem freezeL_free:∀ (cs:List AV) (st:St),(∀ a∈cs,namesOf1 a=[])→St.freezeL cs st=(cs,st):=by
 intro cs
 induction cs with
 | nil=>intro st _;rfl
 | cons a cs ih =>
  intro st h
  have h1:st.freeze1 a=(a,st):=by
   cases a with
   | all id sz=>have:=h (.all id sz) (by simp);simp [namesOf1] at this
   | arr id sz lo n=>have:=h (.arr id sz lo n) (by simp);simp [namesOf1] at this
   | pre id sz n=>have:=h (.pre id sz n) (by simp);simp [namesOf1] at this
   | _=>rfl
  simp only [St.freezeL,h1]
  rw [ih st fun b hb=>h b (by simp [hb])]
theorem fillAV_mem:∀ (l:List (Nat×AV)) (cs:List AV) (place:Nat→Option (Nat×Nat)) (r:List AV),fillAV cs place l=some r→∀ a∈r,a∈cs∨∃ p∈l,a∈p.2.cells:=by
 intro l
 induction l with
 | nil=>intro cs place r h a ha;simp only [fillAV,Option.some.injEq] at h;subst h;exact .inl ha
 | cons p l ih =>
  obtain ⟨i,v⟩:=p
  intro cs place r h a ha
  simp only [fillAV] at h
  split at h
  ·split at h
   ·rcases ih _ _ _ h a ha with h1 | ⟨p,hp,h1⟩
    ·simp only [setRange,List.mem_append] at h1
     rcases h1 with (h1 | h1) | h1
     ·exact .inl (List.mem_of_mem_take h1)
     ·exact .inr ⟨(i,v),by simp,h1⟩
     ·exact .inl (List.mem_of_mem_drop h1)
    ·exact .inr ⟨p,by simp [hp],h1⟩
   ·cases h
  ·cases h

theorem freeze1_slots (st:St) (a:AV):(st.freeze1 a).2.slots=st.slots∧(st.freeze1 a).2.heap.length=st.heap.length∧∀ ss,St.freeze1 { st with slots:=ss } a=((st.freeze1 a).1,{ (st.freeze1 a).2 with slots:=ss }):=by
 cases a with
 | all id sz =>
  simp only [St.freeze1]
  split
  ·split<;>exact ⟨rfl,by simp,fun _=>rfl⟩
  ·exact ⟨rfl,rfl,fun _=>rfl⟩
 | arr id sz lo n =>
  simp only [St.freeze1]
  split
  ·split<;>exact ⟨rfl,by simp,fun _=>rfl⟩
  ·exact ⟨rfl,rfl,fun _=>rfl⟩
 | pre id sz n =>
  simp only [St.freeze1]
  split
  ·split<;>exact ⟨rfl,by simp,fun _=>rfl⟩
  ·exact ⟨rfl,rfl,fun _=>rfl⟩
 | _=>exact ⟨rfl,rfl,fun _=>rfl⟩
theorem freezeL_slots:∀ (cs:List AV) (st:St),(St.freezeL cs st).2.slots=st.slots∧(St.freezeL cs st).2.heap.length=st.heap.length∧∀ ss,St.freezeL cs { st with slots:=ss }=((St.freezeL cs st).1,{ (St.freezeL cs st).2 with slots:=ss }):=by
 intro cs
 induction cs with
 | nil=>intro st;exact ⟨rfl,rfl,fun _=>rfl⟩
 | cons a cs ih =>
  intro st
  obtain ⟨h1,h2,h3⟩:=freeze1_slots st a
  obtain ⟨g1,g2,g3⟩:=ih (st.freeze1 a).2
  refine ⟨by simp only [St.freezeL];rw [g1,h1],by simp only [St.freezeL];rw [g2,h2],fun ss=>?_⟩
  simp only [St.freezeL,h3 ss,g3 ss]
theorem freeze1_heap (st:St) (a:AV) (id:Nat) (h:id ∉ namesOf1 a):(st.freeze1 a).2.heap[id]? = st.heap[id]?:=by
 have key:∀ k:Nat,k ≠ id→(st.heap.set k .dead)[id]? = st.heap[id]?:=fun k hk=>List.getElem?_set_ne hk
 cases a with
 | all k sz =>
  have hk:k ≠ id:=fun e=>h (by simp [namesOf1,e])
  simp only [St.freeze1]
  split
  ·split
   ·exact key k hk
   ·rfl
  ·rfl
 | arr k sz lo n =>
  have hk:k ≠ id:=fun e=>h (by simp [namesOf1,e])
  simp only [St.freeze1]
  split
  ·split
   ·exact key k hk
   ·rfl
  ·rfl
 | pre k sz n =>
  have hk:k ≠ id:=fun e=>h (by simp [namesOf1,e])
  simp only [St.freeze1]
  split
  ·split
   ·exact key k hk
   ·rfl
  ·rfl
 | _=>rfl
theorem freezeL_heap:∀ (cs:List AV) (st:St) (id:Nat),(∀ a∈cs,id ∉ namesOf1 a)→(St.freezeL cs st).2.heap[id]? = st.heap[id]?:=by
 intro cs
 induction cs with
 | nil=>intro st id _;rfl
 | cons a cs ih =>
  intro st id h
  simp only [St.freezeL]
  rw [ih _ id (fun b hb=>h b (by simp [hb])),freeze1_heap st a id (h a (by simp))]

theorem putOwn_mem {H:List AObj} {sub:Nat} {vs:List AV}:∀ (t:Ty) (Es:List TypeId) (off:Nat) (old x:t.den) (ts:List (Nat×Nat)) (ns:List Nat),t.putOwn H Es off old sub vs=some (x,ts,ns)→∀ k o,(k,o)∈ts→∃ sz,.all k sz∈vs:=by
 intro t
 induction t with
 | sl e _ =>
  intro Es off old x ts ns h k o hm
  simp only [Ty.putOwn] at h
  split at h
  ·simp only [Option.some.injEq,Prod.mk.injEq] at h;obtain ⟨_,rfl,rfl⟩:=h;simp at hm
  ·split at h
   ·simp only [Option.some.injEq,Prod.mk.injEq] at h;obtain ⟨_,rfl,rfl⟩:=h;simp at hm
   ·rename_i k' sz hv
    split at h
    ·split at h
     ·simp only [Option.some.injEq,Prod.mk.injEq] at h
      obtain ⟨_,rfl,rfl⟩:=h
      simp only [List.mem_singleton,Prod.mk.injEq] at hm
      obtain ⟨rfl,_⟩:=hm
      exact ⟨sz,List.mem_of_getElem? hv⟩
     ·cases h
    ·cases h
   ·cases h
 | pair a b iha ihb =>
  intro Es off old x ts ns h k o hm
  simp only [Ty.putOwn] at h
  obtain ⟨p,hp,hq⟩:=Option.bind_eq_some_iff.1 h
  obtain ⟨q,hq1,hq2⟩:=Option.map_eq_some_iff.1 hq
  simp only [Prod.mk.injEq] at hq2
  obtain ⟨_,rfl,rfl⟩:=hq2
  rcases List.mem_append.1 hm with hm | hm
  ·exact iha _ _ _ _ _ _ hp k o hm
  ·exact ihb _ _ _ _ _ _ hq1 k o hm
 | int k' =>
  intro Es off old x ts ns h k o hm
  simp only [Ty.putOwn] at h
  split at h
  ·simp only [Option.some.injEq,Prod.mk.injEq] at h;obtain ⟨_,rfl,rfl⟩:=h;simp at hm
  ·split at h
   ·split at h
    ·simp only [Option.some.injEq,Prod.mk.injEq] at h;obtain ⟨_,rfl,rfl⟩:=h;simp at hm
    ·cases h
   ·cases h
 | bool =>
  intro Es off old x ts ns h k o hm
  simp only [Ty.putOwn] at h
  split at h
  ·simp only [Option.some.injEq,Prod.mk.injEq] at h;obtain ⟨_,rfl,rfl⟩:=h;simp at hm
  ·split at h
   ·simp only [Option.some.injEq,Prod.mk.injEq] at h;obtain ⟨_,rfl,rfl⟩:=h;simp at hm
   ·cases h
 | str =>
  intro Es off old x ts ns h k o hm
  simp only [Ty.putOwn] at h
  split at h
  ·simp only [Option.some.injEq,Prod.mk.injEq] at h;obtain ⟨_,rfl,rfl⟩:=h;simp at hm
  ·split at h
   ·simp only [Option.some.injEq,Prod.mk.injEq] at h;obtain ⟨_,rfl,rfl⟩:=h;simp at hm
   ·cases h

theorem buildOwn_eff {st st':St} {E:TypeId} {d:TD} {e:Ty} {len:Nat} {parts:List (Nat×AV)} (h:buildOwn st E d e len parts=some st') :
  st'.slots=st.slots∧st.heap.length≤st'.heap.length∧(∀ id,id<st.heap.length→(∀ p∈parts,∀ c∈p.2.cells,id ∉ namesOf1 c)→st'.heap[id]? = st.heap[id]?)∧∀ ss,buildOwn { st with slots:=ss } E d e len parts=some { st' with slots:=ss }:=by
 unfold buildOwn at h
 split at h
 ·rename_i hc
  split at h
  ·rename_i cs hf
   split at h
   ·rename_i x ts ns hp
    split at h
    ·rename_i hd
     obtain rfl:=Option.some.inj h
     refine ⟨rfl,by simp [deadAll_length],fun id hid hn=>?_,fun ss=>by simp only [buildOwn,if_pos hc,hf,hp,if_pos hd]⟩
     simp only
     rw [List.getElem?_append_left (by rw [deadAll_length];exact hid),deadAll_get _ _ _ (fun hm=>?_)]
     obtain ⟨p,hp1,rfl⟩:=List.mem_map.1 hm
     obtain ⟨sz,hs⟩:=putOwn_mem _ _ _ _ _ _ _ hp p.1 p.2 hp1
     rcases fillAV_mem _ _ _ _ hf _ hs with h1 | ⟨q,hq,h1⟩
     ·have:=List.eq_of_mem_replicate h1;cases this
     ·exact hn q hq _ h1 (by simp [namesOf1])
    ·cases h
   ·cases h
  ·cases h
 ·cases h

theorem appendOwn_eff {st st':St} {E:TypeId} {d:TD} {e:Ty} {u v r:AV} {b:Bool} (h:appendOwn st E d e u v=some (b,r,st')) :
  ∃ kf:AV→AV,(∀ a,still a=true→(∀ id∈namesOf a,id ∉ namesOf u)→kf a=a)∧kf .junk=.junk∧st'.slots=st.slots.map kf∧st.heap.length≤st'.heap.length ∧
   (∀ k o,st.heap[k]? = some o→k ∉ namesOf u++deepNames st.heap v→objStill o=true→(∀ j∈objNames o,j ∉ namesOf u)→st'.heap[k]? = some o)∧∀ ss,appendOwn { st with slots:=ss } E d e u v=some (b,r,{ st' with slots:=ss.map kf }):=by
 unfold appendOwn at h
 split at h
 ·rename_i id sz id2 sz2
  split at h
  ·rename_i E' Es e' l E2 Es2 e2 ys h1 h2
   split at h
   ·rename_i hc
    simp only [Option.some.injEq,Prod.mk.injEq] at h
    obtain ⟨rfl,rfl,rfl⟩:=h
    have hn:∀ k,k ∉ namesOf (.all id sz)→List.contains [id] k=false:=fun k hk=>by
     simp only [namesOf,namesOf1,List.mem_singleton] at hk
     simp only [List.contains_cons,List.contains_nil,Bool.or_false,beq_eq_false_iff_ne]
     exact hk
    refine ⟨AV.kill (List.contains [id]),fun a hs ha=>kill_keep hs (fun k hk=>hn k (ha k hk)),rfl,rfl,by simp [St.kill],fun k o ho hk hst hno=>?_,fun ss=>by simp only [appendOwn,h1,h2,dif_pos hc];rfl⟩
    simp only [List.mem_append,namesOf,namesOf1,deepNames,h2,List.mem_singleton,not_or] at hk
    rw [List.getElem?_set_ne (fun e=>hk.1 e.symm),List.getElem?_set_ne (fun e=>hk.2 e.symm)]
    simp only [St.kill]
    rw [List.getElem?_map,ho,Option.map_some,objStill_kill hst (fun j hj=>hn j (hno j hj))]
   ·cases h
  ·cases h
 ·rename_i id2 sz2
  split at h
  ·rename_i E2 Es2 e2 ys h2
   split at h
   ·rename_i hc
    simp only [Option.some.injEq,Prod.mk.injEq] at h
    obtain ⟨rfl,rfl,rfl⟩:=h
    refine ⟨fun a=>a,fun _ _ _=>rfl,rfl,by simp,by simp,fun k o ho hk hst hno=>?_,fun ss=>by simp only [appendOwn,h2,if_pos hc];simp⟩
    simp only [List.mem_append,deepNames,h2,List.mem_singleton,not_or] at hk
    have hlt:=(List.getElem?_eq_some_iff.1 ho).1
    rw [List.getElem?_append_left (by simpa using hlt),List.getElem?_set_ne (fun e=>hk.2 e.symm)]
    exact ho
   ·cases h
  ·cases h
 ·cases h

theorem bar_eff (hL:LocalTab S) {st s1:St} {o:Oper} {v:AV} {T:List Nat} (ht:touched st o=some T) (he:evalOp P tt S st o (fun v s=>some (v,s))=some (v,s1)) :
    ∃ kf,BarEff st s1 T (killsOf S st o) kf∧∀ ss:List AV,(∀ x∈o.op.operands,St.ev { st with slots:=ss } x=st.ev x)→evalOp P tt S { st with slots:=ss } o (fun v s=>some (v,s))=some (v,{ s1 with slots:=ss.map kf }):=by
  have new : ∀ (ob : AObj) (a : AV), some (a, st.new ob) = some (v, s1) → (∀ ss : List AV, (∀ x ∈ o.op.operands, St.ev { st with slots := ss } x = st.ev x) → evalOp P tt S { st with slots := ss } o (fun v s => some (v, s)) = some (a, St.new { st with slots := ss } ob)) →
      ∃ kf,BarEff st s1 T (killsOf S st o) kf∧∀ ss:List AV,(∀ x∈o.op.operands,St.ev { st with slots:=ss } x=st.ev x)→evalOp P tt S { st with slots:=ss } o (fun v s=>some (v,s))=some (v,{ s1 with slots:=ss.map kf }):=by
    intro ob a h1 h2
    simp only [Option.some.injEq,Prod.mk.injEq] at h1
    obtain ⟨rfl,rfl⟩:=h1
    exact ⟨_,eff_new,fun ss hs=>by rw [h2 ss hs];simp [St.new]⟩
  have key:∀ op,o.op=op→∃ kf,BarEff st s1 T (killsOf S st o) kf∧∀ ss:List AV,(∀ x∈o.op.operands,St.ev { st with slots:=ss } x=st.ev x)→evalOp P tt S { st with slots:=ss } o (fun v s=>some (v,s))=some (v,{ s1 with slots:=ss.map kf }):=by
   intro op ho
   cases op with
   | alloc E =>
     simp only [evalOp,ho] at he
     split at he
     · rename_i d hd
       exact new _ _ he (fun ss _=>by simp only [evalOp,ho,hd])
     · cases he
   | box E x =>
     simp only [evalOp,ho] at he
     split at he
     · rename_i hc
       refine new _ _ he (fun ss hs=>?_)
       have e1:=hs x (by rw [ho];simp [Op.operands])
       simp only [evalOp,ho,e1,if_pos hc]
     · cases he
   | makeSlice t l c =>
     simp only [evalOp,ho] at he
     split at he
     · rename_i E d n m h1 h2 h3
       split at he
       · rename_i e h4
         split at he
         · rename_i hd
           split at he
           · rename_i z ns h5
             split at he
             · rename_i h6
               obtain ⟨h7,he⟩:=cond_none he
               refine new _ _ he (fun ss hs=>?_)
               have e1:=hs l (by rw [ho];simp [Op.operands])
               have e2:=hs c (by rw [ho];simp [Op.operands])
               simp only [evalOp,ho,e1,e2,h1,h2,h3,h4,if_pos hd,h5,h6,h7,if_true,cond_true]
             · cases he
           · cases he
         rename_i hd
         split at he
         · rename_i z f h5
           split at he
           · rename_i h6
             obtain ⟨h7,he⟩:=cond_none he
             refine new _ _ he (fun ss hs=>?_)
             have e1:=hs l (by rw [ho];simp [Op.operands])
             have e2:=hs c (by rw [ho];simp [Op.operands])
             simp only [evalOp,ho,e1,e2,h1,h2,h3,h4,if_neg hd,h5,h6,h7,if_true,cond_true]
           · cases he
         · cases he
       · cases he
     · cases he
   | buildSlice t len parts =>
     simp only [touched,ho,Option.some.injEq] at ht
     simp only [evalOp,ho] at he
     split at he
     · rename_i E d h1
       split at he
       · rename_i e h2
         split at he
         · rename_i hd
           split at he
           · rename_i st' hb
             simp only [Option.some.injEq,Prod.mk.injEq] at he
             obtain ⟨rfl,rfl⟩:=he
             obtain ⟨b1,b2,b3,b4⟩:=buildOwn_eff hb
             refine ⟨fun a=>a,⟨fun _ _ _=>rfl,by simp [b1],fun _ _ _=>rfl,rfl,b2,fun id ob hb' hid _ _=>?_⟩,fun ss hs=>?_⟩
             · rw [b3 id (List.getElem?_eq_some_iff.1 hb').1 (fun p hp c hc hm=>hid ?_)]
               · exact hb'
               · obtain ⟨q,hq,rfl⟩:=List.mem_map.1 hp
                 rw [← ht]
                 exact List.mem_flatMap.2 ⟨q,hq,List.mem_flatMap.2 ⟨c,hc,hm⟩⟩
             · have e1 : (parts.toList.map fun p => (p.1, St.ev { st with slots := ss } p.2)) = parts.toList.map fun p => (p.1, st.ev p.2) := List.map_congr_left fun p hp => by
                 rw [hs p.2 (by rw [ho];simp only [Op.operands];simp only [Array.toList_map,Array.mem_def,List.mem_map] ;exact ⟨p,by simpa using hp,rfl⟩)]
               simp only [evalOp,ho,h1,h2,if_pos hd,e1,b4 ss]
               simp
           · cases he
         rename_i hd
         split at he
         · rename_i h3
           split at he
           · rename_i cs h4
             split at he
             · rename_i l f h5
               simp only [Option.some.injEq,Prod.mk.injEq] at he
               obtain ⟨rfl,rfl⟩:=he
               have hcs:∀ a∈cs,∀ id∈namesOf1 a,id∈T:=by
                 intro a ha id hid
                 rcases fillAV_mem _ _ _ _ h4 a ha with h | ⟨p,hp,h⟩
                 · rw [List.eq_of_mem_replicate h] at hid;simp [namesOf1] at hid
                 · obtain ⟨q,hq,rfl⟩:=List.mem_map.1 hp
                   rw [← ht]
                   exact List.mem_flatMap.2 ⟨q,hq,List.mem_flatMap.2 ⟨a,h,hid⟩⟩
               obtain ⟨f1,f2,f3⟩:=freezeL_slots cs st
               refine ⟨fun a=>a,⟨fun _ _ _=>rfl,by simp [St.new,f1],fun _ _ _=>rfl,rfl,by simp [St.new,f2],fun id ob hb hid _ _=>?_⟩,fun ss hs=>?_⟩
               · have hlt:=(List.getElem?_eq_some_iff.1 hb).1
                 simp only [St.new]
                 rw [List.getElem?_append_left (by rw [f2];exact hlt),freezeL_heap cs st id (fun a ha hm=>hid (hcs a ha id hm))]
                 exact hb
               · have e1 : (parts.toList.map fun p => (p.1, St.ev { st with slots := ss } p.2)) = parts.toList.map fun p => (p.1, st.ev p.2) := List.map_congr_left fun p hp => by
                   rw [hs p.2 (by rw [ho];simp only [Op.operands];simp only [Array.toList_map,Array.mem_def,List.mem_map] ;exact ⟨p,by simpa using hp,rfl⟩)]
                 simp only [evalOp,ho,h1,h2,if_neg hd,h3,e1,h4,if_true,f3 ss,h5]
                 simp [St.new]
             · cases he
           · cases he
         · cases he
       · cases he
     · cases he
   | call c =>
     simp only [touched,ho] at ht
     cases hc:c.callee with
     | builtin b =>
       cases b with
       | append =>
         simp only [hc] at ht
         split at ht
         · rename_i sx x hargs
           simp only [Option.some.injEq] at ht
           subst ht
           have hops:sx∈o.op.operands∧x∈o.op.operands:=by
             rw [ho]
             simp only [Op.operands,Call.operands,hc]
             have h1:sx∈c.args:=Array.mem_def.2 (by rw [hargs];simp)
             have h2:x∈c.args:=Array.mem_def.2 (by rw [hargs];simp)
             exact ⟨by simpa using h1,by simpa using h2⟩
           have kl : ∀ (id sz : Nat) (ob : AObj) (a : AV), st.ev sx = .all id sz → some (a, ({ st.kill [id] with heap := (st.kill [id]).heap.set id ob } : St)) = some (v, s1) →
               (∀ ss:List AV,(∀ x∈o.op.operands,St.ev { st with slots:=ss } x=st.ev x)→evalOp P tt S { st with slots:=ss } o (fun v s=>some (v,s))=some (a,({ St.kill { st with slots:=ss } [id] with heap:=(St.kill { st with slots:=ss } [id]).heap.set id ob }:St))) →
               ∃ kf,BarEff st s1 (namesOf (st.ev sx)++deepNames st.heap (st.ev x)) (killsOf S st o) kf∧∀ ss:List AV,(∀ x∈o.op.operands,St.ev { st with slots:=ss } x=st.ev x)→evalOp P tt S { st with slots:=ss } o (fun v s=>some (v,s))=some (v,{ s1 with slots:=ss.map kf }):=by
             intro id sz ob a hev h1 h2
             simp only [Option.some.injEq,Prod.mk.injEq] at h1
             obtain ⟨rfl,rfl⟩:=h1
             exact ⟨_,eff_kill (by rw [hev];simp [namesOf,namesOf1]) (by simp only [killsOf,ho,hc,hargs];rw [hev];simp [namesOf,namesOf1]),fun ss hs=>by rw [h2 ss hs];rfl⟩
           simp only [evalOp,ho,hc,hargs] at he
           split at he
           · rename_i s' x' t t' hl ht'
             simp only [List.cons.injEq,and_true] at hl
             obtain ⟨rfl,rfl⟩:=hl
             split at he
             · rename_i htt
               subst htt
               split at he
               · rename_i E d h1
                 split at he
                 · rename_i e h2
                   split at he
                   · rename_i hd
                     split at he
                     · rename_i b r' st' hb
                       obtain ⟨rfl,he⟩:=cond_none he
                       have he:some (r', st')=some (v,s1):=he
                       simp only [Option.some.injEq,Prod.mk.injEq] at he
                       obtain ⟨rfl,rfl⟩:=he
                       obtain ⟨kf,b1,b2,b3,b4,b5,b6⟩:=appendOwn_eff hb
                       refine ⟨kf,⟨fun a hs hn=>b1 a hs (fun k hk hm=>(hn k hk).2 ?_),b3,fun a hs hn=>b1 a hs (fun k hk hm=>(hn k hk).2 (List.mem_append_left _ hm)),b2,b4,fun k o h hk hs hn=>b5 k o h hk hs (fun j hj hm=>(hn j hj).2 (List.mem_append_left _ hm))⟩,fun ss hs=>?_⟩
                       · simp only [killsOf,ho,hc,hargs];exact hm
                       · have e1:=hs sx hops.1
                         have e2:=hs x hops.2
                         simp only [evalOp,ho,hc,hargs,ht', if_true,h1,h2,if_pos hd,e1,e2,b6 ss,cond_true]
                     · cases he
                   rename_i hd
                   split at he
                   · rename_i ys f id sz h3 h4
                     split at he
                     · rename_i E' fr e' l h5
                       split at he
                       · rename_i h6
                         obtain ⟨h7,he⟩:=cond_none he
                         refine kl id sz _ _ h4 he (fun ss hs=>?_)
                         have e1:=hs sx hops.1
                         have e2:=hs x hops.2
                         simp only [evalOp,ho,hc,hargs,ht', if_true,h1,h2,if_neg hd,e1,e2,h3,h4,h5,dif_pos h6,h7,cond_true]
                       · cases he
                     · cases he
                   · rename_i ys f h3 h4
                     split at he
                     · rename_i h6
                       obtain ⟨h7,he⟩:=cond_none he
                       have q:=new _ _ he (fun ss hs=>by
                         have e1:=hs sx hops.1
                         have e2:=hs x hops.2
                         simp only [evalOp,ho,hc,hargs,ht', if_true,h1,h2,if_neg hd,e1,e2,h3,h4,if_pos h6,h7,cond_true])
                       rw [h4]
                       obtain ⟨kf,q1,q2⟩:=q
                       exact ⟨fun a=>a,by
                         simp only [Option.some.injEq,Prod.mk.injEq] at he
                         obtain ⟨rfl,rfl⟩:=he
                         exact eff_new,fun ss hs=>by
                         have e1:=hs sx hops.1
                         have e2:=hs x hops.2
                         simp only [Option.some.injEq,Prod.mk.injEq] at he
                         obtain ⟨rfl,rfl⟩:=he
                         simp only [evalOp,ho,hc,hargs,ht', if_true,h1,h2,if_neg hd,e1,e2,h3,h4,if_pos h6,h7,cond_true]
                         simp [St.new]⟩
                     · cases he
                   · rename_i ys f id sz n h3 h4
                     split at he
                     · rename_i E' fr e' l h5
                       split at he
                       · rename_i h6
                         obtain ⟨h7,he⟩:=cond_none he
                         simp only [Option.some.injEq,Prod.mk.injEq] at he
                         obtain ⟨rfl,rfl⟩:=he
                         rw [h4]
                         refine ⟨fun a=>a,⟨fun _ _ _=>rfl,by simp,fun _ _ _=>rfl,rfl,by simp,fun k ob hb hk _ _=>?_⟩,fun ss hs=>?_⟩
                         · have hne:id ≠ k:=fun e=>hk (by simp [namesOf,namesOf1,e])
                           simp only
                           rw [List.getElem?_set_ne hne]
                           exact hb
                         · have e1:=hs sx hops.1
                           have e2:=hs x hops.2
                           simp only [evalOp,ho,hc,hargs,ht', if_true,h1,h2,if_neg hd,e1,e2,h3,h4,h5,dif_pos h6,h7,cond_true]
                           simp
                       · cases he
                     · cases he
                   · cases he
                 · cases he
               · cases he
             · rename_i htt
               split at he
               · rename_i y E d h1 h2 h3
                 split at he
                 · rename_i id sz h4 h5
                   split at he
                   · rename_i E' fr l h6
                     split at he
                     · rename_i h7
                       split at he
                       · rename_i h8
                         obtain ⟨h9,he⟩:=cond_none he
                         refine kl id sz _ _ h5 he (fun ss hs=>?_)
                         have e1:=hs sx hops.1
                         have e2:=hs x hops.2
                         simp only [evalOp,ho,hc,hargs,ht', if_neg htt,h1,e2,h2,h3,h4,e1,h5,h6,if_pos h7,h8,h9,cond_true]
                       · cases he
                     · cases he
                   · cases he
                 · cases he
               · cases he
           · cases he
         · cases ht
       | _=>simp [hc] at ht
     | value fx =>
       simp only [hc] at ht
       split at ht
       · rename_i g caps hg
         simp only [Option.some.injEq] at ht
         subst ht
         have hops:fx∈o.op.operands∧∀ y∈c.args.toList,y∈o.op.operands:=by
           rw [ho]
           simp only [Op.operands,Call.operands,hc]
           constructor
           · simp
           · intro y hy;have:=Array.mem_def.2 hy;simp [this]
         have hev:∀ ss:List AV,(∀ x∈o.op.operands,St.ev { st with slots:=ss } x=st.ev x)→St.ev { st with slots:=ss } fx=st.ev fx∧c.args.toList.map (St.ev { st with slots:=ss })=c.args.toList.map st.ev:=fun ss hs=>⟨hs fx hops.1,List.map_congr_left fun y hy=>hs y (hops.2 y hy)⟩
         simp only [evalOp,ho,hc,hg] at he
         split at he
         · rename_i s hs
           split at he
           · rename_i r H' b hr
             obtain ⟨hb,he⟩:=cond_none he
             subst hb
             have he:some (r,({ st with heap:=H' }:St))=some (v,s1):=he
             simp only [Option.some.injEq,Prod.mk.injEq] at he
             obtain ⟨rfl,rfl⟩:=he
             obtain ⟨l1,l2,l3⟩:=hL g s hs _ _ _ _ _ _ hr
             refine ⟨fun a=>a,⟨fun _ _ _=>rfl,by simp,fun _ _ _=>rfl,rfl,l2,l3⟩,fun ss hss=>?_⟩
             obtain ⟨e1,e2⟩:=hev ss hss
             simp only [evalOp,ho,hc,e1,hg,hs,e2,hr,cond_true]
             simp
           · rename_i r H' k ks b hr
             obtain ⟨hb,he⟩:=cond_none he
             subst hb
             have he:some (r,({ st.kill (k::ks) with heap:=H' }:St))=some (v,s1):=he
             simp only [Option.some.injEq,Prod.mk.injEq] at he
             obtain ⟨rfl,rfl⟩:=he
             obtain ⟨l1,l2,l3⟩:=hL g s hs _ _ _ _ _ _ hr
             refine ⟨AV.kill (List.contains (k::ks)),⟨fun a ha hn=>kill_keep ha (fun id hid=>?_),by simp [St.kill],fun a ha hn=>kill_keep ha (fun id hid=>?_),rfl,l2,l3⟩,fun ss hss=>?_⟩
             · rw [Bool.eq_false_iff]
               intro hcn
               obtain ⟨n1,n2⟩:=hn id hid
               simp only [killsOf,ho,hc,hg,hs,hr] at n2
               exact n2 (by simpa using hcn)
             · rw [Bool.eq_false_iff]
               intro hcn
               obtain ⟨n1,n2⟩:=hn id hid
               rcases l1 id (by simpa using hcn) with h | h
               · exact n2 h
               · omega
             · obtain ⟨e1,e2⟩:=hev ss hss
               simp only [evalOp,ho,hc,e1,hg,hs,e2,hr,cond_true]
               rfl
           · cases he
         · cases he
       · cases ht
     | invoke r m=>simp [hc] at ht
   | _=>simp [touched,ho] at ht
  exact key _ rfl

theorem write_slots {st st':St} {p:AV} {vs:List AV} (h:st.write p vs=some st'):st'.slots=st.slots∧st'.heap.length=st.heap.length∧∀ ss,St.write { st with slots:=ss } p vs=some { st' with slots:=ss }:=by
 cases p with
 | ptr id row sz sub =>
  simp only [St.write] at h ⊢
  split at h
  ·rename_i cs hb
   split at h
   ·rename_i hr
    split at h
    ·rename_i hc
     simp only [Option.some.injEq] at h
     subst h
     exact ⟨rfl,by simp,fun ss=>by simp only [hb,if_pos hr,if_pos hc]⟩
    ·cases h
   ·cases h
  ·rename_i E fr e l hb
   split at h
   ·rename_i hc
    split at h
    ·rename_i x f hx
     simp only [Option.some.injEq] at h
     subst h
     exact ⟨rfl,by simp,fun ss=>by simp only [hb,if_pos hc,hx]⟩
    ·cases h
   ·cases h
  ·rename_i E Es e l hb
   split at h
   ·rename_i hc
    split at h
    ·rename_i x hx
     simp only [Option.some.injEq] at h
     subst h
     exact ⟨rfl,by simp,fun ss=>by simp only [hb,if_pos hc,hx]⟩
    ·cases h
   ·cases h
  ·cases h
 | _=>simp [St.write] at h
theorem dropN_keep {id:Nat} {a:AV} (hs:still a=true) (h:namesOf a=[]):a.dropN id=a:=by
 have one:∀ c:AV,still1 c=true→namesOf1 c=[]→c.dropN1 id=c:=by
  intro c h1 h2
  cases c<;>first | rfl | (simp [still1] at h1;done) | (simp [namesOf1] at h2;done)
 have many:∀ cs:List AV,cs.all still1=true→cs.flatMap namesOf1=[]→cs.map (AV.dropN1 id)=cs:=by
  intro cs h1 h2
  refine map_keep cs fun c hc=>one c (List.all_eq_true.1 h1 c hc) ?_
  rw [List.flatMap_eq_nil_iff] at h2
  exact h2 c hc
 cases a with
 | agg cs=>simp only [AV.dropN,many cs hs h]
 | fn f cs=>simp only [AV.dropN,many cs hs h]
 | tup cs=>simp [still] at hs
 | nest i r s o=>simp [namesOf,namesOf1] at h
 | _=>rfl
theorem storeOwn_slots {st st':St} {id row sz sub:Nat} {vs:List AV} (h:st.storeOwn id row sz sub vs=some st'):st'.slots=st.slots.map (AV.dropN id)∧st'.heap.length=st.heap.length∧∀ ss,St.storeOwn { st with slots:=ss } id row sz sub vs=some { st' with slots:=ss.map (AV.dropN id) }:=by
 unfold St.storeOwn at h
 split at h
 ·rename_i E Es e l hb
  split at h
  ·rename_i hc
   split at h
   ·rename_i x ts ns hp
    split at h
    ·rename_i hd
     obtain rfl:=Option.some.inj h
     exact ⟨rfl,by simp [deadAll_length],fun ss=>by simp only [St.storeOwn,hb,if_pos hc,hp,if_pos hd]⟩
    ·cases h
   ·cases h
  ·cases h
 ·cases h
theorem write_none {st:St} {p:AV} {vs:List AV} (h:st.write p vs=none) (ss:List AV):St.write { st with slots:=ss } p vs=none:=by
 cases hw:St.write { st with slots:=ss } p vs with
 | none=>rfl
 | some st' =>
  have:=(write_slots hw).2.2 st.slots
  rw [h] at this;cases this
theorem arrStore_slots {d:TD} {st:St} {cs:List AV} {p:AV} {b:Bool} {st':St} (h:arrStore tt d st cs p=some (b,st')):st'.slots=st.slots∧st'.heap.length=st.heap.length∧∀ ss:List AV,arrStore tt d { st with slots:=ss } cs p=some (b,{ st' with slots:=ss }):=by
 unfold arrStore at h
 split at h
 ·rename_i id
  split at h
  ·rename_i E fr k' l k hob hak
   split at h
   ·rename_i hkk
    obtain ⟨l', hl,h2⟩:=Option.map_eq_some_iff.1 h
    simp only [Prod.mk.injEq] at h2
    obtain ⟨rfl,rfl⟩:=h2
    exact ⟨rfl,by simp,fun ss=>by simp only [arrStore,hob,hak,if_pos hkk,hl,Option.map_some]⟩
   ·cases h
  ·cases h
 ·cases h
theorem store_eff {st s1:St} {o:Oper} {v:AV} (hs:isStore o=true) (he:evalOp P tt S st o (fun v s=>some (v,s))=some (v,s1)) :
  ∃ kf:AV→AV,(∀ a,still a=true→namesOf a=[]→kf a=a)∧kf .junk=.junk∧s1.slots=st.slots.map kf∧s1.heap.length=st.heap.length∧∀ ss:List AV,(∀ x∈o.op.operands,St.ev { st with slots:=ss } x=st.ev x)→evalOp P tt S { st with slots:=ss } o (fun v s=>some (v,s))=some (v,{ s1 with slots:=ss.map kf }):=by
 cases ho:o.op with
 | store t a x =>
  have ha:a∈o.op.operands∧x∈o.op.operands:=by rw [ho];simp [Op.operands]
  rw [← ho]
  simp only [evalOp,ho] at he
  split at he
  ·rename_i d hd
   split at he
   ·rename_i hc
    split at he
    ·rename_i id row sz sub ea
     split at he
     ·rename_i E fr e l hb
      split at he
      ·rename_i st' hw
       simp only [Option.some.injEq,Prod.mk.injEq] at he
       obtain ⟨rfl,rfl⟩:=he
       obtain ⟨w1,w2,w3⟩:=write_slots hw
       obtain ⟨f1,f2,f3⟩:=freezeL_slots (st.ev x).cells st
       refine ⟨fun a=>a,fun _ _ _=>rfl,rfl,by simpa using w1.trans f1,w2.trans f2,fun ss hss=>?_⟩
       have e1:=hss a ha.1
       have e2:=hss x ha.2
       simp only [evalOp,ho,hd,e2,if_pos hc,e1,ea,hb,f3 ss,w3 ss,List.map_id']
      ·rename_i hw
       split at he
       ·rename_i b st' hw2
        obtain ⟨rfl,he⟩:=cond_none he
        obtain ⟨rfl,rfl⟩:=Prod.mk.inj (Option.some.inj he)
        obtain ⟨w1,w2,w3⟩:=arrStore_slots hw2
        obtain ⟨f1,f2,f3⟩:=freezeL_slots (st.ev x).cells st
        refine ⟨fun a=>a,fun _ _ _=>rfl,rfl,by simpa using w1,w2,fun ss hss=>?_⟩
        have e1:=hss a ha.1
        have e2:=hss x ha.2
        simp only [evalOp,ho,hd,e2,if_pos hc,e1,ea,hb,f3 ss,write_none hw ss,w3 ss,cond_true,List.map_id']
       ·cases he
     ·rename_i cs hb
      split at he
      ·rename_i st' hw
       simp only [Option.some.injEq,Prod.mk.injEq] at he
       obtain ⟨rfl,rfl⟩:=he
       obtain ⟨w1,w2,w3⟩:=write_slots hw
       refine ⟨fun a=>a,fun _ _ _=>rfl,rfl,by simpa using w1,w2,fun ss hss=>?_⟩
       have e1:=hss a ha.1
       have e2:=hss x ha.2
       simp only [evalOp,ho,hd,e2,if_pos hc,e1,ea,hb,w3 ss,List.map_id']
      ·cases he
     ·rename_i E Es e l hb
      split at he
      ·rename_i st' hw
       simp only [Option.some.injEq,Prod.mk.injEq] at he
       obtain ⟨rfl,rfl⟩:=he
       obtain ⟨w1,w2,w3⟩:=write_slots hw
       refine ⟨fun a=>a,fun _ _ _=>rfl,rfl,by simpa using w1,w2,fun ss hss=>?_⟩
       have e1:=hss a ha.1
       have e2:=hss x ha.2
       simp only [evalOp,ho,hd,e2,if_pos hc,e1,ea,hb,w3 ss,List.map_id']
      ·rename_i hw
       split at he
       ·rename_i st' hw2
        simp only [Option.some.injEq,Prod.mk.injEq] at he
        obtain ⟨rfl,rfl⟩:=he
        obtain ⟨w1,w2,w3⟩:=storeOwn_slots hw2
        refine ⟨AV.dropN id,fun _ h1 h2=>dropN_keep h1 h2,rfl,w1,w2,fun ss hss=>?_⟩
        have e1:=hss a ha.1
        have e2:=hss x ha.2
        simp only [evalOp,ho,hd,e2,if_pos hc,e1,ea,hb,write_none hw ss,w3 ss]
       ·cases he
     ·cases he
    ·cases he
   ·cases he
  ·cases he
 | _=>simp [isStore,ho] at hs
end
end Go.Proofs.Ytccelbeahdcooaa.Eng
