/- The engine, part 47: a block of nothing that is made ahead of its place is kept aside until then. -/
import Derived.Test.YtccelbeahdcooaaE32
namespace Go.Proofs.Ytccelbeahdcooaa.Eng
open Go Go.RowKit
set_option linter.unusedSimpArgs false
set_option linter.unusedVariables false

theorem buildOwn_zero (st:St) (E:TypeId) (d:TD) (e:Ty) (parts:List (Nat×AV)):buildOwn st E d e 0 parts=none:=by
 unfold buildOwn
 rw [if_neg]
 rintro ⟨_,h,_⟩;cases h

section
variable {P:Program} {tt:TT} {S:Tab} {N N':Nat→Prop} {w0 w0':World} {η0:Env} {h0:Nat} {we:World} {η:Env} {st:St} {a:Act} {w:World}

theorem SR.rebase [DF] (s:SR N' w0' η0 h0 we η st a w) (h1:∀ k,N k→N' k) (h2:∀ k,N k→k<w0.heap.size) (h3:Fr N w0 w0'):SR N w0 η0 h0 we η st a w :=
 ⟨⟨h2,⟨s.inv.fr.os.trans h3.os,s.inv.fr.tape.trans h3.tape,s.inv.fr.output.trans h3.output,Nat.le_trans h3.size s.inv.fr.size,fun k hk=>(s.inv.fr.block k (h1 k hk)).trans (h3.block k hk)⟩,s.inv.zlt,s.inv.zsub,
  fun b hb hn=>s.inv.znew b hb (h1 b hn),s.inv.hvs,s.inv.obj,fun id o ho hm=>⟨fun hn=>(s.inv.own id o ho hm).1 (h1 _ hn),(s.inv.own id o ho hm).2⟩,s.inv.inj,fun k q hk=>⟨fun hn=>(s.inv.dep k q hk).1 (h1 _ hn),(s.inv.dep k q hk).2⟩,s.inv.nvs⟩,s.ext,s.sl,s.base⟩

theorem SR.park [DF] (s:SR N' w0' η0 h0 we η st a w) (blk:Obj):SR (fun k=>N' k∨k=w.heap.size) (w.alloc blk) η0 h0 we η st a (w.alloc blk):=by
 have hsz:(w.alloc blk).heap.size=w.heap.size+1:=by show (w.heap.push blk).size=_;simp
 have hold:∀ b,b<w.heap.size→(w.alloc blk).heap[b]? = w.heap[b]?:=fun b hb=>Below.heap_alloc w blk b hb
 have x:Ext NoK η st.heap.length w η st.heap.length (w.alloc blk):=⟨fun _ hi _=>⟨hi,rfl,rfl,rfl⟩,fun _ _ hz=>hz,fun f b hz=>hold b (s.inv.zlt f b hz),fun _ h=>.inl h,fun _ _ _=>rfl⟩
 refine ⟨⟨fun k hk=>?_,⟨rfl,rfl,rfl,Nat.le_refl _,fun _ _=>rfl⟩,fun f b hb=>by rw [hsz];have:=s.inv.zlt f b hb;omega,s.inv.zsub,fun b hb hn=>?_,s.inv.hvs,fun id o ho=>?_,fun id o ho hm=>?_,s.inv.inj,fun k q hk=>?_,s.inv.nvs⟩,
  s.ext.trans x (fun id _ hk=>⟨hk,rfl⟩),s.sl.ext x,s.base⟩
 ·rw [hsz]
  rcases hk with hk | rfl
  ·have:=s.inv.nlt k hk;have:=s.inv.fr.size;omega
  ·omega
 ·rcases hn with hn | rfl
  ·exact s.inv.znew b hb hn
  ·exact absurd (s.inv.zlt _ _ hb) (Nat.lt_irrefl _)
 ·exact (s.inv.obj id o ho).mono x (List.getElem?_eq_some_iff.1 ho).1 (fun hm=>hold _ (s.inv.own id o ho hm).2.2) ⟨trivial,fun k r q hk=>⟨hk,hold _ (s.inv.dep k _ hk).2.2.1⟩⟩
 ·obtain ⟨a1,a2,a3⟩:=s.inv.own id o ho hm
  refine ⟨fun hn=>?_,a2,by rw [hsz];omega⟩
  rcases hn with hn | hn
  ·exact a1 hn
  ·omega
 ·obtain ⟨d1,d2,d3,d4⟩:=s.inv.dep k q hk
  refine ⟨fun hn=>?_,d2,by rw [hsz];omega,d4⟩
  rcases hn with hn | hn
  ·exact d1 hn
  ·omega

theorem upd_same {η:Env} {h:Nat} {w:World} {b:Nat} {v:Value} {n:Nat}:Ext NoK η h w (η.upd h b v n) (h+1) w:=by
 refine ⟨fun id hid _=>⟨by omega,?_,?_,?_⟩,fun f c hc=>hc,fun f c hc=>rfl,fun _ h=>.inl h,fun _ _ _=>rfl⟩
 all_goals simp [Env.upd,Nat.ne_of_lt hid]

theorem SR.adopt1 [DF] (s:SR N' w0' η0 h0 we η st a w) (ob:AObj) (b:Nat) (v:Value) (n:Nat) (hv:∃ A n c,v=.slice A n c)
  (hr:ObjR (η.upd st.heap.length b v n) (st.heap.length+1) w st.heap.length ob)
  (hown:ob.mat (η.upd st.heap.length b v n) st.heap.length→N' b∧¬ η0.Z false b∧b<w.heap.size):SR (fun k=>N' k∧k ≠ b) w0' η0 h0 we (η.upd st.heap.length b v n) (st.new ob) a w:=by
 have x:Ext NoK η st.heap.length w (η.upd st.heap.length b v n) (st.heap.length+1) w:=upd_same
 have e:(st.new ob).heap.length=st.heap.length+1:=by simp [St.new]
 have hnz:ob.mat (η.upd st.heap.length b v n) st.heap.length→¬ η.Z false b:=fun hm hz=>by
  obtain ⟨o1,o2,o3⟩:=hown hm
  rcases s.ext.zold b hz with h | h
  ·exact o2 h
  ·exact s.inv.znew b h o1
 have hlen:(st.new ob).heap=st.heap++[ob]:=rfl
 have eo:∀ i,i<st.heap.length→(η.upd st.heap.length b v n).ι i=η.ι i:=fun i hi=>by simp [Env.upd,Nat.ne_of_lt hi]
 have en:(η.upd st.heap.length b v n).ι st.heap.length=b:=by simp [Env.upd]
 refine ⟨⟨fun k hk=>s.inv.nlt k hk.1,⟨s.inv.fr.os,s.inv.fr.tape,s.inv.fr.output,s.inv.fr.size,fun k hk=>s.inv.fr.block k hk.1⟩,s.inv.zlt,s.inv.zsub,fun b' hb hn=>s.inv.znew b' hb hn.1,fun id=>?_,fun id x' hx=>?_,fun id x' hx hm=>?_,fun id id' x1 x2 h1 h2 m1 m2 he=>?_,fun k q hk=>?_,s.inv.nvs⟩,?_,?_,s.base⟩
 ·simp only [Env.upd];split
  ·exact hv
  ·exact s.inv.hvs id
 ·rw [e]
  rcases heap_append_some hx with ⟨hlt,hx⟩ | ⟨rfl,rfl⟩
  ·exact (s.inv.obj id x' hx).mono x hlt (fun hm=>rfl) ⟨trivial,fun k r q hk=>⟨hk,rfl⟩⟩
  ·exact hr
 ·rcases heap_append_some hx with ⟨hlt,hx⟩ | ⟨rfl,rfl⟩
  ·obtain ⟨a1,a2,a3⟩:=s.inv.own id x' hx ((mat_iff x hlt).1 hm)
   rw [eo id hlt]
   exact ⟨fun hn=>a1 hn.1,a2,a3⟩
  ·rw [en]
   exact ⟨fun hn=>hn.2 rfl,hnz hm,(hown hm).2.2⟩
 ·rcases heap_append_some h1 with ⟨l1,g1⟩ | ⟨rfl,e1⟩<;>rcases heap_append_some h2 with ⟨l2,g2⟩ | ⟨rfl,e2⟩
  ·rw [eo _ l1,eo _ l2] at he
   exact s.inv.inj id id' x1 x2 g1 g2 ((mat_iff x l1).1 m1) ((mat_iff x l2).1 m2) he
  ·rw [eo _ l1,en] at he
   subst e2
   have:=(s.inv.own id x1 g1 ((mat_iff x l1).1 m1)).1
   rw [he] at this
   exact absurd (hown m2).1 this
  ·rw [eo _ l2,en] at he
   subst e1
   have:=(s.inv.own id' x2 g2 ((mat_iff x l2).1 m2)).1
   rw [← he] at this
   exact absurd (hown m1).1 this
  ·rfl
 ·obtain ⟨d1,d2,d3,d4⟩:=s.inv.dep k q hk
  refine ⟨fun hn=>d1 hn.1,d2,d3,fun i y hy hm=>?_⟩
  rcases heap_append_some hy with ⟨hlt,hy⟩ | ⟨rfl,rfl⟩
  ·rw [eo i hlt];exact d4 i y hy ((mat_iff x hlt).1 hm)
  ·rw [en];intro e2;subst e2;exact d1 (hown hm).1
 ·rw [e];exact s.ext.trans x (fun id _ hk=>⟨hk,rfl⟩)
 ·rw [e];exact s.sl.ext x

def ParkV (tt:TT) (o:Oper) (b:Nat) (wb:World) (x:Value):Prop :=
 (∃ E d z,o.op=.alloc E∧tt E=some d∧x=.pointer (some ⟨b,0,none⟩)∧wb.heap[b]? = some (.cells z E (0,0))∧z.toList=d.zero∧d.zero.all Value.oneCell'=true) ∨
  (∃ t A,o.op=.buildSlice t 0 #[]∧x=.slice A 0 0)

theorem park_wp (hT:TTok P tt) {o:Oper} (hp:parkOp o=true) {st1:St} {r1:AV×St} (he:evalOp P tt S st1 o (fun v s=>some (v,s))=some r1) {next:Act→World→Prop} {Q:Exit→Act→World→Prop}
  (hn:∀ blk x,ParkV tt o w.heap.size (w.alloc blk) x→next (a.put o.dst x) (w.alloc blk)):o.wp P a w next Q:=by
 simp only [parkOp,Bool.and_eq_true] at hp
 have h2:=hp.2
 cases ho:o.op with
 | alloc E =>
  simp only [evalOp,ho] at he
  cases hd:tt E with
  | none=>rw [hd] at he;cases he
  | some d =>
   have td:=hT E d hd
   obtain ⟨z,hz,hl⟩:=run_zeroValue' td w
   refine wp_value (x:=.pointer (some ⟨w.heap.size,0,none⟩)) (w':=w.alloc (.cells z.cells E)) (by simp [execOp,ho,Instr.alloc,hz,newVar,newRow]) (hn _ _ (.inl ⟨E,d,z.cells,ho,hd,rfl,heap_alloc_new w _,hl,td.one⟩))
 | buildSlice t len parts =>
  rw [ho] at h2
  simp only [Bool.and_eq_true,beq_iff_eq,Array.isEmpty_iff] at h2
  obtain ⟨rfl,rfl⟩:=h2
  simp only [evalOp,ho] at he
  cases he2:elemOf' tt t with
  | none=>rw [he2] at he;cases he
  | some p =>
   obtain ⟨E,d⟩:=p
   obtain ⟨hu,td⟩:=elemOf_spec hT he2
   refine wp_value (x:=.slice (some ⟨w.heap.size,0,none⟩) 0 0) (w':=w.alloc (.cells #[] E)) ?_ (hn _ _ (.inr ⟨t,_,ho,rfl⟩))
   simp [execOp,ho,Instr.buildSlice,run_underlying hu,run_sizeOf' td,Instr.fill,newRow]
   rw [show Array.range 0=(#[]:Array Nat) from Array.eq_empty_of_size_eq_zero (by simp)];simp
 | _=>rw [ho] at h2;simp at h2

theorem SR.refineX [DF] (s:SR N w0 η0 h0 we η st a w) (d:Nat) {v:AV} (r:d<a.tmps.size→AVR η st.heap.length w v (a.tmps.getD d undef)):SR N w0 η0 h0 we η (st.put (some d) v) a w:=by
 by_cases h:d<a.tmps.size
 ·exact s.refine' d (r h)
 ·have e : st.put (some d) v = st := by
   have:st.slots.set d v=st.slots:=List.set_eq_of_length_le (by rw [← s.sl.size];omega)
   simp only [St.put,this]
  rw [e];exact s
theorem ParkV.mono {o:Oper} {b:Nat} {wb wb':World} {x:Value} (h:ParkV tt o b wb x) (hw:∀ y,wb.heap[b]? = some y→wb'.heap[b]? = some y):ParkV tt o b wb' x:=by
 rcases h with ⟨E,d,z,h1,h2,h3,h4,h5,h6⟩ | h
 ·exact .inl ⟨E,d,z,h1,h2,h3,hw _ h4,h5,h6⟩
 ·exact .inr h
theorem park_eval {o:Oper} (hp:parkOp o=true) {st:St} {v:AV} {s1:St} (he:evalOp P tt S st o (fun v s=>some (v,s))=some (v,s1)):∃ ob,s1=st.new ob∧∀ st':St,st'.heap=st.heap→evalOp P tt S st' o (fun v s=>some (v,s))=some (v,st'.new ob):=by
 simp only [parkOp,Bool.and_eq_true] at hp
 have h2:=hp.2
 cases ho:o.op with
 | alloc E =>
  simp only [evalOp,ho] at he ⊢
  cases ht:tt E with
  | none=>rw [ht] at he;cases he
  | some d =>
   rw [ht] at he
   simp only [Option.some.injEq,Prod.mk.injEq] at he
   obtain ⟨rfl,rfl⟩:=he
   exact ⟨_,rfl,fun st' hh=>by rw [hh]⟩
 | buildSlice t len parts =>
  rw [ho] at h2
  simp only [Bool.and_eq_true,beq_iff_eq,Array.isEmpty_iff] at h2
  obtain ⟨rfl,rfl⟩:=h2
  simp only [evalOp,ho] at he ⊢
  cases he2:elemOf' tt t with
  | none=>rw [he2] at he;cases he
  | some p =>
   obtain ⟨E,td⟩:=p
   rw [he2] at he
   simp only at he ⊢
   cases hty:tyOf tt 9 E with
   | none=>rw [hty] at he;cases he
   | some ey =>
    rw [hty] at he
    simp only at he ⊢
    split at he
    ·rw [buildOwn_zero] at he;cases he
    rename_i hdo
    split at he
    case isFalse=>cases he
    rename_i hc
    simp only [Nat.zero_mul,List.replicate_zero,Array.toList_empty,List.map_nil,fillAV,St.freezeL,readRows,Option.some.injEq,Prod.mk.injEq] at he
    obtain ⟨rfl,rfl⟩:=he
    refine ⟨_,rfl,fun st' hh=>?_⟩
    rw [if_neg hdo,if_pos hc]
    simp only [Nat.zero_mul,List.replicate_zero,Array.toList_empty,List.map_nil,fillAV,St.freezeL,readRows,hh]
 | _=>rw [ho] at h2;simp at h2

theorem boxOr_cases (tt:TT) (E:TypeId) (cs:List AV):boxOr tt E cs=.box cs∨∃ (k:IntKind) (l:List Int),intRow k cs=some l∧0<l.length∧l.length≤1000∧boxOr tt E cs=.rows E true (.int k) l:=by
 unfold boxOr
 split
 ·rename_i k _
  split
  ·rename_i l hl
   split
   ·rename_i hc;exact .inr ⟨k,l,hl,hc.1,hc.2,rfl⟩
   ·exact .inl rfl
  ·exact .inl rfl
 ·exact .inl rfl
theorem unpark [DF] (s:SR N' w0' η0 h0 we η st a w) {o:Oper} (hp:parkOp o=true) {v:AV} {s1:St} (he:evalOp P tt S st o (fun v s=>some (v,s))=some (v,s1)) {d:Nat} (hd:o.dst=some d) {b:Nat} (hb:N' b) (hz:¬ η0.Z false b)
  {x:Value} (hv:ParkV tt o b w0' x) (hx:d<a.tmps.size→a.tmps.getD d undef=x):∃ η', SR (fun k=>N' k∧k ≠ b) w0' η0 h0 we η' (s1.put o.dst v) a w:=by
 rw [hd]
 rcases hv with ⟨E,td,z,ho,ht,e,hw,hl,h1⟩ | ⟨t,A,ho,e⟩
 ·simp only [evalOp,ho,ht,Option.some.injEq,Prod.mk.injEq] at he
  obtain ⟨rfl,rfl⟩:=he
  have hwb:w.heap[b]? = some (.cells z E (0,0)):=(s.inv.fr.block b hb).trans hw
  rcases boxOr_cases tt E (td.zero.map AV.ofValue) with hbo | ⟨k,l,q1,q2,q3,hbo⟩
  rotate_left
  ·obtain ⟨g1,g2⟩:=intRow_rel _ _ q1
   have zs:z.size=l.length:=by rw [g1,List.length_map,← hl];simp
   have s2:=s.adopt1 (.rows E true (.int k) l) b (.slice (some ⟨b,0,none⟩) l.length l.length) l.length ⟨_,_,_,rfl⟩ ⟨by simp [Env.upd],.inr ⟨z,l.length,by simp [Env.upd],by rw [show (η.upd st.heap.length b (.slice (some ⟨b,0,none⟩) l.length l.length) l.length).ι st.heap.length=b by simp [Env.upd]];exact hwb,Nat.le_refl _,⟨q2,by unfold maxLen;omega⟩,by rw [zs];simp [Ty.cells],fun j x hj=>by
    obtain ⟨fr,h3⟩:=g2 j x hj
    obtain ⟨v,hv,hve⟩:=getElem?_map_some h3
    have h4:=int_rel (show AVR η 0 w (.t fr (.int k) x) v by rw [← hve];exact ofValue_rel v)
    show z[j*1+0]? = some (.int k x)
    rw [Nat.mul_one,Nat.add_zero,← Array.getElem?_toList,hl,hv,h4]⟩⟩ (fun _=>⟨hb,hz,(Array.getElem?_eq_some_iff.1 hwb).1⟩)
   rw [hbo]
   refine ⟨_,s2.refineX d fun hlt=>?_⟩
   rw [hx hlt,e]
   have:=@AVR.ptr (η.upd st.heap.length b (.slice (some ⟨b,0,none⟩) l.length l.length) l.length) (st.new (.rows E true (.int k) l)).heap.length w st.heap.length 0 1 0 (by simp [St.new]) (by simp [Env.upd];exact q2)
   simpa [Env.upd] using this
  rw [hbo]
  have s2:=s.adopt1 (.box (td.zero.map AV.ofValue)) b nilV 1 ⟨_,_,_,rfl⟩ ⟨by simp [Env.upd],z,E,by rw [show (η.upd st.heap.length b nilV 1).ι st.heap.length=b by simp [Env.upd]];exact hwb,by rw [List.length_map,← hl];simp,fun j x hj=>by
   obtain ⟨v,hv,rfl⟩:=getElem?_map_some hj
   have:z.getD j undef=v:=getD_some (by rw [← Array.getElem?_toList,hl];exact hv)
   rw [this]
   exact ⟨ofValue_rel v,List.all_eq_true.1 h1 v (List.mem_of_getElem? hv)⟩⟩ (fun _=>⟨hb,hz,(Array.getElem?_eq_some_iff.1 hwb).1⟩)
  refine ⟨_,s2.refineX d fun hlt=>?_⟩
  rw [hx hlt,e]
  have:=@AVR.ptr (η.upd st.heap.length b nilV 1) (st.new (.box (td.zero.map AV.ofValue))).heap.length w st.heap.length 0 1 0 (by simp [St.new]) (by simp [Env.upd])
  simpa [Env.upd] using this
 ·simp only [evalOp,ho] at he
  cases he2:elemOf' tt t with
  | none=>rw [he2] at he;cases he
  | some p =>
   obtain ⟨E,td⟩:=p
   rw [he2] at he
   simp only at he
   cases hty:tyOf tt 9 E with
   | none=>rw [hty] at he;cases he
   | some ey =>
    rw [hty] at he
    simp only at he
    split at he
    ·rw [buildOwn_zero] at he;cases he
    split at he
    case isFalse=>cases he
    simp only [Nat.zero_mul,List.replicate_zero,Array.toList_empty,List.map_nil,fillAV,St.freezeL,readRows,Option.some.injEq,Prod.mk.injEq] at he
    obtain ⟨rfl,rfl⟩:=he
    have s2:=s.adopt1 (.rows E true ey []) b (.slice A 0 0) 0 ⟨_,_,_,rfl⟩ ⟨by simp [Env.upd],.inl ⟨⟨A,by simp [Env.upd]⟩,rfl⟩⟩ (fun hm=>absurd (show nulV ((η.upd st.heap.length b (.slice A 0 0) 0).hv st.heap.length) from ⟨A,by simp [Env.upd]⟩) hm)
    refine ⟨_,s2.refineX d fun hlt=>?_⟩
    rw [hx hlt,e]
    have:=@AVR.all (η.upd st.heap.length b (.slice A 0 0) 0) (st.new (.rows E true ey [])).heap.length w st.heap.length ey.cells (by simp [St.new])
    simpa [Env.upd] using this

structure Aside (tt:TT) (ops:Array Oper) (N:Nat→Prop) (w0:World) (η0:Env) (listed:Array Bool) (s:Nat) (a:Act) (N':Nat→Prop) (w0':World) (pb:Nat→Nat):Prop where
 set:∀ k,N' k↔N k∨∃ p,s≤p∧parkAt ops p=true∧listed.getD p false=true∧pb p=k
 fr:Fr N w0 w0'
 val:∀ p o,ops[p]? = some o→s≤p→parkAt ops p=true→listed.getD p false=true→¬ N (pb p)∧¬ η0.Z false (pb p)∧∃ d x,o.dst=some d∧ParkV tt o (pb p) w0' x∧(d<a.tmps.size→a.tmps.getD d undef=x)
 inj:∀ p q,s≤p→parkAt ops p=true→listed.getD p false=true→s≤q→parkAt ops q=true→listed.getD q false=true→pb p=pb q→p=q

variable {ops:Array Oper} {listed listed':Array Bool} {s i:Nat} {pb:Nat→Nat}
theorem Aside.step (A:Aside tt ops N w0 η0 listed s a N' w0' pb) {s':Nat} (hs:s≤s') (hset:∀ p,parkAt ops p=true→((s'≤p∧listed'.getD p false=true)↔(s≤p∧listed.getD p false=true)))
  {o:Oper} {x:Value} (hd:∀ p o' d,ops[p]? = some o'→s≤p→parkAt ops p=true→listed.getD p false=true→o'.dst=some d→o.dst ≠ some d):Aside tt ops N w0 η0 listed' s' (a.put o.dst x) N' w0' pb:=by
 refine ⟨fun k=>(A.set k).trans (or_congr Iff.rfl ⟨?_,?_⟩),A.fr,fun p o' ho h1 h2 h3=>?_,fun p q h1 h2 h3 h4 h5 h6=>?_⟩
 ·rintro ⟨p,h1,h2,h3,h4⟩
  obtain ⟨e1,e2⟩:=(hset p h2).2 ⟨h1,h3⟩
  exact ⟨p,e1,h2,e2,h4⟩
 ·rintro ⟨p,h1,h2,h3,h4⟩
  obtain ⟨e1,e2⟩:=(hset p h2).1 ⟨h1,h3⟩
  exact ⟨p,e1,h2,e2,h4⟩
 ·obtain ⟨e1,e2⟩:=(hset p h2).1 ⟨h1,h3⟩
  obtain ⟨v1,v2,d,y,v3,v4,v5⟩:=A.val p o' ho e1 h2 e2
  refine ⟨v1,v2,d,y,v3,v4,fun hlt=>?_⟩
  have hne:=hd p o' d ho e1 h2 e2 v3
  cases hod:o.dst with
  | none=>rw [hod] at hlt;exact v5 hlt
  | some t =>
   rw [hod] at hlt hne
   have hts:t ≠ d:=fun e=>hne (by rw [e])
   have hlt2:d<a.tmps.size:=by simpa [Act.put] using hlt
   have:(a.put (some t) x).tmps.getD d undef=a.tmps.getD d undef:=by
    simp only [Act.put,Array.getD_eq_getD_getElem?]
    rw [Array.getElem?_setIfInBounds,if_neg hts]
   rw [this];exact v5 hlt2
 ·obtain ⟨e1,e2⟩:=(hset p h2).1 ⟨h1,h3⟩
  obtain ⟨e3,e4⟩:=(hset q h5).1 ⟨h4,h6⟩
  exact A.inj p q e1 h2 e2 e3 h5 e4
theorem Aside.more [DF] (A:Aside tt ops N w0 η0 listed s a N' w0' pb) {η:Env} {st:St} (sr:SR N' w0' η0 h0 we η st a w) (hN:∀ k,N k→k<w0.heap.size) (hset:∀ p,listed'.getD p false=(listed.getD p false||p==i)) (hi:s≤i) (hpk:parkAt ops i=true) (hun:listed.getD i false=false)
  {o:Oper} (ho:ops[i]? = some o) {d:Nat} (hod:o.dst=some d) {x:Value} {blk:Obj} (hv:ParkV tt o w.heap.size (w.alloc blk) x)
  (hd:∀ p o' d', ops[p]? = some o'→s≤p→parkAt ops p=true→listed.getD p false=true→o'.dst=some d'→d' ≠ d) :
  Aside tt ops N w0 η0 listed' s (a.put o.dst x) (fun k=>N' k∨k=w.heap.size) (w.alloc blk) (fun q=>if q=i then w.heap.size else pb q):=by
 have hfr:Fr N w0 w:=⟨sr.inv.fr.os.trans A.fr.os,sr.inv.fr.tape.trans A.fr.tape,sr.inv.fr.output.trans A.fr.output,Nat.le_trans A.fr.size sr.inv.fr.size,fun k hk=>(sr.inv.fr.block k ((A.set k).2 (.inl hk))).trans (A.fr.block k hk)⟩
 have hsz:(w.alloc blk).heap.size=w.heap.size+1:=by show (w.heap.push blk).size=_;simp
 have hN'lt:∀ k,N' k→k<w.heap.size:=fun k hk=>Nat.lt_of_lt_of_le (sr.inv.nlt k hk) sr.inv.fr.size
 have old:∀ p,s≤p→parkAt ops p=true→listed'.getD p false=true→p ≠ i→listed.getD p false=true:=fun p h1 h2 h3 hne=>by
  rw [hset] at h3
  simpa [hne] using h3
 have inN:∀ p,s≤p→parkAt ops p=true→listed.getD p false=true→N' (pb p):=fun p h1 h2 h3=>(A.set _).2 (.inr ⟨p,h1,h2,h3,rfl⟩)
 refine ⟨fun k=>?_,⟨hfr.os,hfr.tape,hfr.output,by rw [hsz];have:=hfr.size;omega,fun k hk=>by rw [Below.heap_alloc w blk k (Nat.lt_of_lt_of_le (hN k hk) hfr.size)];exact hfr.block k hk⟩,fun p o' ho' h1 h2 h3=>?_,fun p q h1 h2 h3 h4 h5 h6 he=>?_⟩
 ·constructor
  ·rintro (hk | rfl)
   ·rcases (A.set k).1 hk with h | ⟨p,h1,h2,h3,h4⟩
    ·exact .inl h
    ·have hne:p ≠ i:=fun e=>by subst e;rw [hun] at h3;cases h3
     exact .inr ⟨p,h1,h2,by rw [hset,h3];rfl,by rw [if_neg hne];exact h4⟩
   ·exact .inr ⟨i,hi,hpk,by rw [hset];simp,by simp⟩
  ·rintro (h | ⟨p,h1,h2,h3,h4⟩)
   ·exact .inl ((A.set k).2 (.inl h))
   ·by_cases hne:p=i
    ·rw [if_pos hne] at h4;exact .inr h4.symm
    ·rw [if_neg hne] at h4
     exact .inl ((A.set k).2 (.inr ⟨p,h1,h2,old p h1 h2 h3 hne,h4⟩))
 ·by_cases hne:p=i
  ·subst hne
   obtain rfl:o=o':=by rw [ho] at ho';exact Option.some.inj ho'
   simp only [if_true]
   refine ⟨fun hn=>?_,fun hz=>?_,d,x,hod,hv,fun hlt=>?_⟩
   ·have:=hN _ hn;have:=hfr.size;omega
   ·exact absurd (sr.inv.zlt _ _ (sr.ext.z _ _ hz)) (Nat.lt_irrefl _)
   ·rw [hod] at hlt ⊢
    have hlt2:d<a.tmps.size:=by simpa [Act.put] using hlt
    simp [Act.put,Array.getD_eq_getD_getElem?,Array.getElem?_setIfInBounds,hlt2]
  ·simp only [if_neg hne]
   have h3':=old p h1 h2 h3 hne
   obtain ⟨v1,v2,d', y,v3,v4,v5⟩:=A.val p o' ho' h1 h2 h3'
   have hne2:=hd p o' d' ho' h1 h2 h3' v3
   have hp:=inN p h1 h2 h3'
   refine ⟨v1,v2,d', y,v3,v4.mono (fun z hz=>by rw [Below.heap_alloc w blk _ (hN'lt _ hp),sr.inv.fr.block _ hp];exact hz),fun hlt=>?_⟩
   rw [hod] at hlt ⊢
   have hlt2:d'<a.tmps.size:=by simpa [Act.put] using hlt
   have:(a.put (some d) x).tmps.getD d' undef=a.tmps.getD d' undef:=by
    simp only [Act.put,Array.getD_eq_getD_getElem?]
    rw [Array.getElem?_setIfInBounds,if_neg (Ne.symm hne2)]
   rw [this];exact v5 hlt2
 ·by_cases hp:p=i
  ·by_cases hq:q=i
   ·rw [hp,hq]
   ·rw [if_pos hp,if_neg hq] at he
    have:=hN'lt _ (inN q h4 h5 (old q h4 h5 h6 hq));omega
  ·by_cases hq:q=i
   ·rw [if_neg hp,if_pos hq] at he
    have:=hN'lt _ (inN p h1 h2 (old p h1 h2 h3 hp));omega
   ·rw [if_neg hp,if_neg hq] at he
    exact A.inj p q h1 h2 (old p h1 h2 h3 hp) h4 h5 (old q h4 h5 h6 hq) he
theorem Aside.less (A:Aside tt ops N w0 η0 listed s a N' w0' pb) {p:Nat} (hs:s≤p) (hpk:parkAt ops p=true) (hl:listed.getD p false=true) (hno:∀ q,s≤q→q<p→parkAt ops q=false) :
  Aside tt ops N w0 η0 listed (p+1) a (fun k=>N' k∧k ≠ pb p) w0' pb:=by
 obtain ⟨o,ho⟩:∃ o,ops[p]? = some o:=⟨_,Array.getElem?_eq_getElem (park_lt hpk)⟩
 have hv:=A.val p o ho hs hpk hl
 refine ⟨fun k=>?_,A.fr,fun q o' ho' h1 h2 h3=>A.val q o' ho' (by omega) h2 h3,fun q r h1 h2 h3 h4 h5 h6=>A.inj q r (by omega) h2 h3 (by omega) h5 h6⟩
 constructor
 ·rintro ⟨hk,hne⟩
  rcases (A.set k).1 hk with h | ⟨q,h1,h2,h3,h4⟩
  ·exact .inl h
  ·refine .inr ⟨q,?_,h2,h3,h4⟩
   rcases Nat.lt_trichotomy q p with h | rfl | h
   ·rw [hno q h1 h] at h2;cases h2
   ·exact absurd h4.symm hne
   ·exact h
 ·rintro (h | ⟨q,h1,h2,h3,h4⟩)
  ·exact ⟨(A.set k).2 (.inl h),fun e=>hv.1 (e ▸ h)⟩
  ·refine ⟨(A.set k).2 (.inr ⟨q,by omega,h2,h3,h4⟩),fun e=>?_⟩
   have:=A.inj q p (by omega) h2 h3 hs hpk hl (h4.trans e)
   omega
end
end Go.Proofs.Ytccelbeahdcooaa.Eng
