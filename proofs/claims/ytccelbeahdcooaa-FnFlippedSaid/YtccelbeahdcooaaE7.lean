/- The engine, part 7: one operation. -/
import Derived.Test.YtccelbeahdcooaaE48
namespace Go.Proofs.Ytccelbeahdcooaa.Eng
open Go Go.RowKit
set_option linter.unusedSimpArgs false

section
variable {P:Program} {N:Nat→Prop} {w0:World} {η0:Env} {h0:Nat} {we:World} {R:Type}

def Post [DF] (N:Nat→Prop) (w0:World) (η0:Env) (h0:Nat) (we:World) (K:AV→St→Option R) (r:R) (o:Oper) (a:Act) (next:Act→World→Prop):Prop :=
 ∀ v st' η' w' x,K v st'=some r→SR N w0 η0 h0 we η' st' a w'→AVR η' st'.heap.length w' v x→next (a.put o.dst x) w'

variable {η:Env} {st:St} {a:Act} {w:World} {o:Oper} {next:Act→World→Prop} {Q:Exit→Act→World→Prop} {K:AV→St→Option R} {r:R} {tt:TT} {S:Tab}

theorem wp_value {x:Value} {w':World} (h:(execOp a.eval o).run P w=.ok (.value x) w') (hn:next (a.put o.dst x) w'):o.wp P a w next Q:=by
 unfold Oper.wp;rw [h];exact hn
theorem wp_skip' {w':World} (h:(execOp a.eval o).run P w=.ok .skip w') (hn:next (a.put o.dst undef) w'):o.wp P a w next Q:=by
 unfold Oper.wp;rw [h];exact hn

theorem cond_some {b:Bool} {x y:Option R} {r:R} (h:cond b x y=some r):(b=true∧x=some r)∨(b=false∧y=some r):=by
 cases b with
 | true=>exact .inl ⟨rfl,h⟩
 | false=>exact .inr ⟨rfl,h⟩
theorem cond_none {b:Bool} {x:Option R} {r:R} (h:cond b x none=some r):b=true∧x=some r:=by
 cases b with
 | true=>exact ⟨rfl,h⟩
 | false=>cases h

theorem SR.new [DF] (s:SR N w0 η0 h0 we η st a w) (ob:AObj) (blk:Obj) (v:Value) (n:Nat) (hv:∃ A n c,v=.slice A n c)
  (hr:Ext NoK η st.heap.length w (η.upd st.heap.length w.heap.size v n) (st.heap.length+1) (w.alloc blk)→ObjR (η.upd st.heap.length w.heap.size v n) (st.heap.length+1) (w.alloc blk) st.heap.length ob) :
  SR N w0 η0 h0 we (η.upd st.heap.length w.heap.size v n) (st.new ob) a (w.alloc blk)∧Ext NoK η st.heap.length w (η.upd st.heap.length w.heap.size v n) (st.heap.length+1) (w.alloc blk):=by
 have x:=Ext.upd_alloc η st.heap.length w blk s.inv.zlt w.heap.size v n
 have e:(st.new ob).heap.length=st.heap.length+1:=by simp [St.new]
 refine ⟨⟨s.inv.alloc ob blk v n hv (hr x),?_,?_,s.base⟩,x⟩
 ·rw [e];exact s.ext.trans x (fun id _ hk=>⟨hk,rfl⟩)
 ·rw [e];exact s.sl.ext x

theorem op_move [DF] (s:SR N w0 η0 h0 we η st a w) {x:Operand} (ho:o.op=.move x∨o.op=.assign x) (hk:K (st.ev x) st=some r) (hp:Post N w0 η0 h0 we K r o a next):o.wp P a w next Q:=by
 refine wp_value (x:=a.eval x) (w':=w) ?_ (hp _ _ _ _ _ hk s (s.ev x))
 rcases ho with ho | ho<;>simp [execOp,ho]

theorem op_pick [DF] (s:SR N w0 η0 h0 we η st a w) {c x y:Operand} (ho:o.op=.pick c x y) {v:Bool} (hc:(st.ev c).asBool=some v) (hk:cond v (K (st.ev x) st) (K (st.ev y) st)=some r)
  (hp:Post N w0 η0 h0 we K r o a next):o.wp P a w next Q:=by
 have hb:=asBool_rel (s.ev c) hc
 rcases cond_some hk with ⟨rfl,hk⟩ | ⟨rfl,hk⟩
 ·exact wp_value (x:=a.eval x) (w':=w) (by simp [execOp,ho,hb,asBool]) (hp _ _ _ _ _ hk s (s.ev x))
 ·exact wp_value (x:=a.eval y) (w':=w) (by simp [execOp,ho,hb,asBool]) (hp _ _ _ _ _ hk s (s.ev y))

theorem SR.newBox [DF] (s:SR N w0 η0 h0 we η st a w) (cs:List AV) (c:Array Value) (E:TypeId) (hsz:c.size=cs.length) (hc:∀ j x,cs[j]? = some x→AVR η st.heap.length w x (c.getD j undef)∧(c.getD j undef).oneCell'=true) :
  ∃ η', SR N w0 η0 h0 we η' (st.new (.box cs)) a (w.alloc (.cells c E))∧AVR η' (st.new (.box cs)).heap.length (w.alloc (.cells c E)) (.ptr st.heap.length 0 1 0) (.pointer (some ⟨w.heap.size,0,none⟩)):=by
 refine ⟨_,(s.new (.box cs) (.cells c E) nilV 1 ⟨_,_,_,rfl⟩ ?_).1,?_⟩
 ·intro x
  refine ⟨by simp [Env.upd],c,E,?_,hsz,fun j y hy=>⟨(hc j y hy).1.ext x,(hc j y hy).2⟩⟩
  have:(η.upd st.heap.length w.heap.size nilV 1).ι st.heap.length=w.heap.size:=by simp [Env.upd]
  rw [this];exact heap_alloc_new w _
 ·have:=@AVR.ptr (η.upd st.heap.length w.heap.size nilV 1) (st.new (.box cs)).heap.length (w.alloc (.cells c E)) st.heap.length 0 1 0 (by simp [St.new]) (by simp [Env.upd])
  simpa [Env.upd] using this

theorem arrK_spec (hT:TTok P tt) {t:TypeId} {d:TD} (td:TDok P t d) {k:IntKind} (h:arrK tt d=some k) :
  ∃ n t' e,P.underlying t=some (.array n t')∧tt t'=some e∧TDok P t' e∧e.desc=.int k∧e.size=1∧0<n∧n≤1000∧d.size=n∧d.agg=true∧e.agg=false:=by
 unfold arrK at h
 split at h
 ·rename_i n t' hd
  split at h
  ·rename_i e he
   split at h
   ·rename_i k' hk
    split at h
    ·rename_i hc
     simp only [Option.some.injEq] at h
     subst h
     have te:=hT _ _ he
     exact ⟨n,t', e,by rw [td.und,hd],he,te,hk,hc.2.2.2.1,hc.1,hc.2.1,hc.2.2.1,hc.2.2.2.2,by rw [te.agg,hk];rfl⟩
    ·cases h
   ·cases h
  ·cases h
 ·cases h
theorem intRow_rel {k:IntKind}:∀ (cs:List AV) (l:List Int),intRow k cs=some l→l.length=cs.length∧∀ (j:Nat) (x:Int),l[j]? = some x→∃ fr,cs[j]? = some (.t fr (.int k) x):=by
 intro cs
 induction cs with
 | nil=>intro l h;simp only [intRow,Option.some.injEq] at h;subst h;exact ⟨rfl,fun j x hj=>by simp at hj⟩
 | cons a r ih =>
  intro l h
  unfold intRow at h
  split at h
  ·rename_i e;cases e
  ·rename_i fr k' x r' e
   cases e
   split at h
   ·rename_i hk
    subst hk
    obtain ⟨l', h1,rfl⟩:=Option.map_eq_some_iff.1 h
    obtain ⟨q1,q2⟩:=ih l' h1
    refine ⟨by simp [q1],fun j y hj=>?_⟩
    cases j with
    | zero=>simp only [List.getElem?_cons_zero,Option.some.injEq] at hj;subst hj;exact ⟨fr,rfl⟩
    | succ j=>simpa using q2 j y (by simpa using hj)
   ·cases h
  ·cases h
theorem int_rel {h:Nat} {fr:Bool} {k:IntKind} {x:Int} {v:Value} (r:AVR η h w (.t fr (.int k) x) v):v=.int k x:=by
 cases r with
 | t h1 hl=>simpa [Lay] using hl
theorem ofInt_rel' {h:Nat} {k:IntKind} (x:Int):AVR η h w (.t true (.int k) x) (.int k x):=.t rfl (by simp [Lay])
theorem SR.newBoxOr [DF] (s:SR N w0 η0 h0 we η st a w) (cs:List AV) (c:Array Value) (E:TypeId) (hsz:c.size=cs.length) (hc:∀ j x,cs[j]? = some x→AVR η st.heap.length w x (c.getD j undef)∧(c.getD j undef).oneCell'=true) :
  ∃ η', SR N w0 η0 h0 we η' (st.new (boxOr tt E cs)) a (w.alloc (.cells c E))∧AVR η' (st.new (boxOr tt E cs)).heap.length (w.alloc (.cells c E)) (.ptr st.heap.length 0 1 0) (.pointer (some ⟨w.heap.size,0,none⟩)):=by
 unfold boxOr
 split
 ·rename_i k hk
  split
  ·rename_i l hl
   split
   ·rename_i hlen
    obtain ⟨g1,g2⟩:=intRow_rel cs l hl
    have e1:(η.upd st.heap.length w.heap.size (.slice (some ⟨w.heap.size,0,none⟩) l.length l.length) l.length).ι st.heap.length=w.heap.size:=by simp [Env.upd]
    refine ⟨_,(s.new (.rows E true (.int k) l) (.cells c E) (.slice (some ⟨w.heap.size,0,none⟩) l.length l.length) l.length ⟨_,_,_,rfl⟩ ?_).1,?_⟩
    ·intro x
     refine ⟨by simp [Env.upd],.inr ⟨c,l.length,by simp [Env.upd],by rw [e1];exact heap_alloc_new w _,Nat.le_refl _,⟨hlen.1,by have:=hlen.2;unfold maxLen;omega⟩,by rw [hsz,g1];simp [Ty.cells],fun i y hy=>?_⟩⟩
     obtain ⟨fr,h3⟩:=g2 i y hy
     have h4:=int_rel (hc i _ h3).1
     have hlt:i<c.size:=by rw [hsz];exact (List.getElem?_eq_some_iff.1 h3).1
     show c[i*1+0]? = some (.int k y)
     rw [Nat.mul_one,Nat.add_zero,getElem?_getD hlt,h4]
    ·have:=@AVR.ptr (η.upd st.heap.length w.heap.size (.slice (some ⟨w.heap.size,0,none⟩) l.length l.length) l.length) (st.new (.rows E true (.int k) l)).heap.length (w.alloc (.cells c E)) st.heap.length 0 1 0 (by simp [St.new]) (by simp [Env.upd];exact hlen.1)
     rw [e1] at this
     exact this
   ·exact s.newBox cs c E hsz hc
  ·exact s.newBox cs c E hsz hc
 ·exact s.newBox cs c E hsz hc

theorem op_alloc [DF] (hT:TTok P tt) (s:SR N w0 η0 h0 we η st a w) {E:TypeId} (ho:o.op=.alloc E) {d:TD} (hd:tt E=some d)
  (hk:K (.ptr st.heap.length 0 1 0) (st.new (boxOr tt E (d.zero.map AV.ofValue)))=some r) (hp:Post N w0 η0 h0 we K r o a next):o.wp P a w next Q:=by
 have td:=hT E d hd
 obtain ⟨z,hz,hl⟩:=run_zeroValue' td w
 obtain ⟨η', s', ra⟩:=s.newBoxOr (tt:=tt) (d.zero.map AV.ofValue) z.cells E (by rw [List.length_map,← hl];simp) (fun j x hj=>by
  obtain ⟨v,hv,rfl⟩:=getElem?_map_some hj
  have:z.cells.getD j undef=v:=getD_some (by rw [← Array.getElem?_toList,hl];exact hv)
  rw [this]
  exact ⟨ofValue_rel v,List.all_eq_true.1 td.one v (List.mem_of_getElem? hv)⟩)
 refine wp_value ?_ (hp _ _ _ _ _ hk s' ra)
 simp [execOp,ho,Instr.alloc,hz,newVar,newRow]

theorem op_box [DF] (s:SR N w0 η0 h0 we η st a w) {E:TypeId} {x:Operand} (ho:o.op=.box E x) (hc:(st.ev x).cells.all AV.isCell=true)
  (hk:K (.ptr st.heap.length 0 1 0) (st.new (boxOr tt E (st.ev x).cells))=some r) (hp:Post N w0 η0 h0 we K r o a next):o.wp P a w next Q:=by
 obtain ⟨c1,c2⟩:=cells_rel s.inv.hvs (s.ev x) hc
 obtain ⟨η', s', ra⟩:=s.newBoxOr (tt:=tt) (st.ev x).cells (a.eval x).cells E c1 c2
 refine wp_value ?_ (hp _ _ _ _ _ hk s' ra)
 simp [execOp,ho,Instr.box,newVar,newRow]

theorem op_load [DF] (hT:TTok P tt) (s:SR N w0 η0 h0 we η st a w) {t:TypeId} {x:Operand} (ho:o.op=.load t x) {d:TD} (hd:tt t=some d) {cs:List AV} (hr:st.read d.size (st.ev x)=some cs)
  {v:AV} (hv:packed d cs=some v) (hk:K v st=some r) (hp:Post N w0 η0 h0 we K r o a next):o.wp P a w next Q:=by
 have td:=hT t d hd
 obtain ⟨ad,e1,e2,e3⟩:=read_rel (S:=st.slots) (bs:=st.base) (kl:=st.killed) s.inv hr (s.ev x)
 obtain ⟨vs,v1,v2,v3⟩:=vals_of e3
 obtain ⟨p1,p2,p3⟩:=packed_rel hv v1 v3
 refine wp_value (w':=w) ?_ (hp _ _ _ _ _ hk s p3)
 have hl:=run_loadVar' td w vs (by omega) v2 p2
 simp [execOp,ho,e1,Instr.loadAt,Instr.sureAddr,hl]

theorem arr_rel {H:List AObj} (I:Inv N w0 η H w) {id:Nat} {v:Value} (r:AVR η H.length w (.ptr id 0 1 0) v) {E:TypeId} {fr:Bool} {k:IntKind} {l:List Int} (ho:H[id]? = some (.rows E fr (.int k) l)) :
  id<H.length∧v=.pointer (some ⟨η.ι id,0,none⟩)∧η.ln id=l.length∧0<l.length∧∃ (c:Array Value) (cap:Nat),η.hv id=.slice (some ⟨η.ι id,0,none⟩) l.length cap∧w.heap[η.ι id]? = some (.cells c E (0,0))∧l.length≤cap∧(0<cap∧cap≤maxLen)∧c.size=cap∧∀ (i:Nat) (x:Int),l[i]? = some x→c[i]? = some (.int k x):=by
 cases r with
 | ptr hid hr =>
  obtain ⟨hln,R⟩:=I.obj id _ ho
  have h0:0<l.length:=by rw [← hln];exact hr
  rcases R with ⟨_,h⟩ | ⟨c,cap,g1,g2,g3,g4,g5,g6⟩
  ·rw [show l=[] from h] at h0;simp at h0
  ·refine ⟨hid,rfl,hln,h0,c,cap,g1,g2,g3,g4,by simpa [Ty.cells] using g5,fun i x hx=>?_⟩
   have:=g6 i x hx
   simpa [Lay,Ty.cells] using this
theorem arrAVs_get {k:IntKind} {l:List Int} {n j:Nat} {c:AV} (h:(arrAVs k l n)[j]? = some c):j<n∧c=.t true (.int k) (l.getD j 0):=by
 obtain ⟨i,hi,rfl⟩:=getElem?_map_some h
 have hlt:=(List.getElem?_eq_some_iff.1 hi).1
 rw [List.length_range] at hlt
 rw [List.getElem?_range hlt] at hi
 obtain rfl:=Option.some.inj hi
 exact ⟨hlt,rfl⟩
theorem op_loadArr [DF] (hT:TTok P tt) (s:SR N w0 η0 h0 we η st a w) {t:TypeId} {x:Operand} (ho:o.op=.load t x) {d:TD} (hd:tt t=some d) {b:Bool} {v:AV} (hv:arrLoad tt d st.heap (st.ev x)=some (b,v))
  (hk:cond b (K v st) none=some r) (hp:Post N w0 η0 h0 we K r o a next):o.wp P a w next Q:=by
 have td:=hT t d hd
 obtain ⟨rfl,hk⟩:=cond_none hk
 unfold arrLoad at hv
 split at hv
 ·rename_i id hx
  split at hv
  ·rename_i E fr k' l k hob hak
   split at hv
   ·rename_i hkk
    subst hkk
    simp only [Option.some.injEq,Prod.mk.injEq,decide_eq_true_eq] at hv
    obtain ⟨hlen,rfl⟩:=hv
    have hr:=s.ev x
    rw [hx] at hr
    obtain ⟨_,e1,_,h0,c,cap,g1,g2,g3,g4,g5,g6⟩:=arr_rel s.inv hr hob
    obtain ⟨n,t', e,u1,u2,u3,u4,u5,u6,u7,u8,u9,_⟩:=arrK_spec hT td hak
    have hl:=run_loadVar' td (ad:=⟨η.ι id,0,none⟩) w (l.map (Value.int k')) (by simp [hlen]) (fun j u hj=>by
     obtain ⟨y,hy,rfl⟩:=getElem?_map_some hj
     rw [addr_at,Nat.zero_add,cell_block g2]
     exact g6 j y hy) (by simp [u9])
    rw [u9] at hl
    refine wp_value (w':=w) (x:=.agg (l.map (Value.int k')).toArray) ?_ (hp _ _ _ _ _ hk s (.agg (by simp [arrAVs,hlen]) (fun i c hc=>?_)))
    ·simp [execOp,ho,e1,Instr.loadAt,Instr.sureAddr,hl]
    ·obtain ⟨hi,rfl⟩:=arrAVs_get hc
     have:((l.map (Value.int k')).toArray).getD i undef=.int k' (l.getD i 0):=by
      apply getD_some
      simp only [List.getElem?_toArray,List.getElem?_map,List.getD_eq_getElem?_getD]
      rw [List.getElem?_eq_getElem (by omega)];rfl
     rw [this];exact ofInt_rel' _
   ·cases hv
  ·cases hv
 ·cases hv

theorem op_nilCheck [DF] (s:SR N w0 η0 h0 we η st a w) {x:Operand} (ho:o.op=.nilCheck x) {v:AV} (hx:st.ev x=v) (hv:(∃ id row sz sub,v=.ptr id row sz sub)∨(∃ fr e l row off,v=.rop fr e l row off))
  (hk:K v st=some r) (hp:Post N w0 η0 h0 we K r o a next):o.wp P a w next Q:=by
 have hr:=s.ev x
 have hr2:=hr
 rw [hx] at hr hr2
 have:∃ ad,a.eval x=.pointer (some ad):=by
  rcases hv with ⟨_,_,_,_,rfl⟩ | ⟨_,_,_,_,_,rfl⟩
  ·generalize a.eval x=u at hr;cases hr;exact ⟨_,rfl⟩
  ·generalize a.eval x=u at hr;cases hr;exact ⟨_,rfl⟩
 obtain ⟨ad,e⟩:=this
 refine wp_value (x:=a.eval x) (w':=w) ?_ (hp _ _ _ _ _ hk s hr2)
 simp [execOp,ho,e]

theorem fieldOf_spec {s:TypeId} {f:Nat} {off:Nat} {d:TD} (hT:TTok P tt) (hf:fieldOf tt s f=some (off,d)) :
  ∃ fs fd,P.underlying s=some (.struct fs)∧fs[f]? = some fd∧fd.offset=off∧TDok P fd.type d∧d.size ≠ 0:=by
 simp only [fieldOf] at hf
 obtain ⟨ds,h1,hf⟩:=Option.bind_eq_some_iff.1 hf
 have td:=hT _ _ h1
 cases hds:ds.desc<;>rw [hds] at hf<;>simp only at hf<;>try cases hf
 rename_i fs
 obtain ⟨fd,h2,hf⟩:=Option.bind_eq_some_iff.1 hf
 obtain ⟨d', h3,hf⟩:=Option.bind_eq_some_iff.1 hf
 split at hf
 ·cases hf
 ·rename_i hne
  simp only [Option.some.injEq,Prod.mk.injEq] at hf
  obtain ⟨rfl,rfl⟩:=hf
  exact ⟨fs,fd,by rw [td.und,hds],h2,rfl,hT _ _ h3,hne⟩

theorem op_fieldAddr [DF] (hT:TTok P tt) (s:SR N w0 η0 h0 we η st a w) {t:TypeId} {x:Operand} {f off:Nat} {d:TD} (ho:o.op=.fieldAddr t x f) (hf:fieldOf tt t f=some (off,d)) {v v':AV} (hx:st.ev x=v)
  (hv:(∃ id row sz sub,v=.ptr id row sz sub∧v'=.ptr id row sz (sub+off))∨(∃ fr e l row o', v=.rop fr e l row o'∧v'=.rop fr e l row (o'+off)))
  (hk:K v' st=some r) (hp:Post N w0 η0 h0 we K r o a next):o.wp P a w next Q:=by
 obtain ⟨fs,fd,u1,u2,u3,u4,u5⟩:=fieldOf_spec hT hf
 have hr:=s.ev x
 rw [hx] at hr
 have:∃ ad,a.eval x=.pointer (some ad)∧AVR η st.heap.length w v' (.pointer (some (ad.add off))):=by
  rcases hv with ⟨_,_,_,_,rfl,rfl⟩ | ⟨_,_,_,_,_,rfl,rfl⟩
  ·generalize a.eval x=u at hr;cases hr with
   | ptr hid hrow=>exact ⟨_,rfl,by rw [addr_at,Nat.add_assoc];exact .ptr hid hrow⟩
  ·generalize a.eval x=u at hr;cases hr with
   | rop hrow hz hl=>exact ⟨_,rfl,by rw [addr_add,Nat.add_assoc];exact .rop hrow hz hl⟩
 obtain ⟨ad,e,rv⟩:=this
 refine wp_value (w':=w) ?_ (hp _ _ _ _ _ hk s rv)
 have hs:(fieldPlace ad fd).run P w=.ok (ad.add off) w:=by
  simp only [fieldPlace,Sem.run_bind,run_sizeOf' u4,Result.andThen_ok]
  simp [u5,u3]
 simp [execOp,ho,e,Instr.fieldAt,run_underlying u1,u2,Instr.sureAddr,hs]

theorem extract_get {vs:Array Value} {off n j:Nat} (h:off+n≤vs.size) (hj:j<n):(vs.extract off (off+n)).getD j undef=vs.getD (off+j) undef:=by
 simp only [Array.getD_eq_getD_getElem?]
 congr 1
 rw [Array.getElem?_extract]
 have:j<min (off+n) vs.size - off:=by omega
 simp [this]

theorem op_field [DF] (hT:TTok P tt) (s:SR N w0 η0 h0 we η st a w) {t:TypeId} {x:Operand} {f off:Nat} {d:TD} (ho:o.op=.field t x f) (hf:fieldOf tt t f=some (off,d)) {cs:List AV} (hx:st.ev x=.agg cs)
  {v:AV} (hv:packed d ((cs.drop off).take d.size)=some v) (hk:K v st=some r) (hp:Post N w0 η0 h0 we K r o a next):o.wp P a w next Q:=by
 obtain ⟨fs,fd,u1,u2,u3,u4,u5⟩:=fieldOf_spec hT hf
 have hr:=s.ev x
 rw [hx] at hr
 generalize hu:a.eval x=u at hr
 cases hr with
 | @agg _ vs hsz hc =>
  have hlen:((cs.drop off).take d.size).length=d.size:=by
   simp only [packed] at hv;split at hv
   ·assumption
   ·cases hv
  have hle:off+d.size≤vs.size:=by
   simp only [List.length_take,List.length_drop] at hlen
   rw [hsz];have:d.size ≠ 0:=u5;omega
  have hxs:∀ j,j<d.size→(vs.extract off (off+d.size)).getD j undef=vs.getD (off+j) undef:=fun j hj=>extract_get hle hj
  have hxl:(vs.extract off (off+d.size)).size=d.size:=by rw [Array.size_extract];omega
  have hpart:(part fd.type vs off).run P w=.ok (if d.agg then .agg (vs.extract off (off+d.size)) else vs.getD off undef) w:=by
   simp only [part,Sem.run_bind,run_isAgg' u4,Result.andThen_ok]
   cases hd:d.agg with
   | true=>simp [run_sizeOf' u4]
   | false =>
    have e2:vs[off]? = some (vs.getD off undef):=getElem?_getD (by have:d.size ≠ 0:=u5;omega)
    rw [e2]
    rfl
  generalize vs.extract off (off+d.size)=xs at hxs hxl hpart
  obtain ⟨p1,p2,p3⟩:=packed_rel (vs:=xs.toList) hv (by rw [hlen,Array.length_toList,hxl]) (fun j c hj=>by
   obtain ⟨g1,g2⟩:=take_drop_get hj
   have e:xs.toList.getD j undef=vs.getD (off+j) undef:=by
    rw [← hxs j g1];simp [List.getD_eq_getElem?_getD,Array.getD_eq_getD_getElem?]
   rw [e];exact hc _ c g2)
  have p3':AVR η st.heap.length w v (if d.agg then .agg xs else vs.getD off undef):=by
   cases hd:d.agg with
   | true=>simpa [hd] using p3
   | false =>
    have h1:=p2 hd
    have e:=hxs 0 (by omega)
    rw [Nat.add_zero] at e
    simp only [hd,Bool.false_eq_true,if_false] at p3 ⊢
    rw [← e]
    simpa [List.getD_eq_getElem?_getD,Array.getD_eq_getD_getElem?] using p3
  refine wp_value (w':=w) ?_ (hp _ _ _ _ _ hk s p3')
  simp [execOp,ho,hu,Instr.field,run_underlying u1,u2,asAgg,u3,hpart]
end
end Go.Proofs.Ytccelbeahdcooaa.Eng
