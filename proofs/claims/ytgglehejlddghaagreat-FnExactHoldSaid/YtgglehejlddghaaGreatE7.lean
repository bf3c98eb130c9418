/- The engine, part 7: one operation. -/
import Derived.Test.YtgglehejlddghaaGreatE48
namespace Go.Proofs.YtgglehejlddghaaGreat.Eng
open Go Go.RowKit
set_option linter.unusedSimpArgs false

section
variable {P:Program} {N:Nat→Prop} {w0:World} {η0:Env} {h0:Nat} {we:World} {R:Type}

def Post (N:Nat→Prop) (w0:World) (η0:Env) (h0:Nat) (we:World) (K:AV→St→Option R) (r:R) (o:Oper) (a:Act) (next:Act→World→Prop):Prop :=
 ∀ v st' η' w' x,K v st'=some r→SR N w0 η0 h0 we η' st' a w'→AVR η' st'.heap.length w' v x→next (a.put o.dst x) w'

variable {η:Env} {st:St} {a:Act} {w:World} {o:Oper} {next:Act→World→Prop} {Q:Exit→Act→World→Prop} {K:AV→St→Option R} {r:R} {tt:TT} {S:Tab}

theorem B0 {x:Value} {w':World} (h:(execOp a.eval o).run P w=.ok (.value x) w') (hn:next (a.put o.dst x) w'):o.wp P a w next Q:=by
 unfold Oper.wp;rw [h];exact hn
theorem A5B {w':World} (h:(execOp a.eval o).run P w=.ok .skip w') (hn:next (a.put o.dst undef) w'):o.wp P a w next Q:=by
 unfold Oper.wp;rw [h];exact hn

theorem A1k {b:Bool} {x y:Option R} {r:R} (h:cond b x y=some r):(b=true∧x=some r)∨(b=false∧y=some r):=by
 cases b with
 | true=>exact .inl ⟨rfl,h⟩
 | false=>exact .inr ⟨rfl,h⟩
theorem B1 {b:Bool} {x:Option R} {r:R} (h:cond b x none=some r):b=true∧x=some r:=by
 cases b with
 | true=>exact ⟨rfl,h⟩
 | false=>cases h

theorem SR.new (s:SR N w0 η0 h0 we η st a w) (ob:AObj) (blk:Obj) (v:Value) (n:Nat) (hv:∃ A n c,v=.slice A n c)
  (hr:Ext NoK η st.heap.length w (η.upd st.heap.length w.heap.size v n) (st.heap.length+1) (w.alloc blk)→ObjR (η.upd st.heap.length w.heap.size v n) (st.heap.length+1) (w.alloc blk) st.heap.length ob) :
  SR N w0 η0 h0 we (η.upd st.heap.length w.heap.size v n) (st.new ob) a (w.alloc blk)∧Ext NoK η st.heap.length w (η.upd st.heap.length w.heap.size v n) (st.heap.length+1) (w.alloc blk):=by
 have x:=Ext.upd_alloc η st.heap.length w blk s.inv.zlt w.heap.size v n
 have e:(st.new ob).heap.length=st.heap.length+1:=by simp [St.new]
 refine ⟨⟨s.inv.alloc ob blk v n hv (hr x),?_,?_,s.base⟩,x⟩
 ·rw [e];exact s.ext.trans x (fun id _ hk=>⟨hk,rfl⟩)
 ·rw [e];exact s.sl.ext x

theorem A58 (s:SR N w0 η0 h0 we η st a w) {x:Operand} (ho:o.op=.move x∨o.op=.assign x) (hk:K (st.ev x) st=some r) (hp:Post N w0 η0 h0 we K r o a next):o.wp P a w next Q:=by
 refine B0 (x:=a.eval x) (w':=w) ?_ (hp _ _ _ _ _ hk s (s.ev x))
 rcases ho with ho | ho<;>simp [execOp,ho]

theorem A7d (s:SR N w0 η0 h0 we η st a w) {c x y:Operand} (ho:o.op=.pick c x y) {v:Bool} (hc:(st.ev c).asBool=some v) (hk:cond v (K (st.ev x) st) (K (st.ev y) st)=some r)
  (hp:Post N w0 η0 h0 we K r o a next):o.wp P a w next Q:=by
 have hb:=A1M (s.ev c) hc
 rcases A1k hk with ⟨rfl,hk⟩ | ⟨rfl,hk⟩
 ·exact B0 (x:=a.eval x) (w':=w) (by simp [execOp,ho,hb,asBool]) (hp _ _ _ _ _ hk s (s.ev x))
 ·exact B0 (x:=a.eval y) (w':=w) (by simp [execOp,ho,hb,asBool]) (hp _ _ _ _ _ hk s (s.ev y))

theorem SR.newBox (s:SR N w0 η0 h0 we η st a w) (cs:List AV) (c:Array Value) (E:TypeId) (hsz:c.size=cs.length) (hc:∀ j x,cs[j]? = some x→AVR η st.heap.length w x (c.getD j undef)∧(c.getD j undef).oneCell'=true) :
  ∃ η', SR N w0 η0 h0 we η' (st.new (.box cs)) a (w.alloc (.cells c E))∧AVR η' (st.new (.box cs)).heap.length (w.alloc (.cells c E)) (.ptr st.heap.length 0 1 0) (.pointer (some ⟨w.heap.size,0,none⟩)):=by
 refine ⟨_,(s.new (.box cs) (.cells c E) A1q 1 ⟨_,_,_,rfl⟩ ?_).1,?_⟩
 ·intro x
  refine ⟨by simp [Env.upd],c,E,?_,hsz,fun j y hy=>⟨(hc j y hy).1.ext x,(hc j y hy).2⟩⟩
  have:(η.upd st.heap.length w.heap.size A1q 1).ι st.heap.length=w.heap.size:=by simp [Env.upd]
  rw [this];exact heap_alloc_new w _
 ·have:=@AVR.ptr (η.upd st.heap.length w.heap.size A1q 1) (st.new (.box cs)).heap.length (w.alloc (.cells c E)) st.heap.length 0 1 0 (by simp [St.new]) (by simp [Env.upd])
  simpa [Env.upd] using this

theorem A6P (hT:TTok P tt) (s:SR N w0 η0 h0 we η st a w) {E:TypeId} (ho:o.op=.alloc E) {d:TD} (hd:tt E=some d)
  (hk:K (.ptr st.heap.length 0 1 0) (st.new (.box (d.zero.map AV.ofValue)))=some r) (hp:Post N w0 η0 h0 we K r o a next):o.wp P a w next Q:=by
 have td:=hT E d hd
 obtain ⟨z,hz,hl⟩:=A0u td w
 obtain ⟨η', s', ra⟩:=s.newBox (d.zero.map AV.ofValue) z.cells E (by rw [List.length_map,← hl];simp) (fun j x hj=>by
  obtain ⟨v,hv,rfl⟩:=A3 hj
  have:z.cells.getD j undef=v:=getD_some (by rw [← Array.getElem?_toList,hl];exact hv)
  rw [this]
  exact ⟨E4 v,List.all_eq_true.1 td.one v (List.mem_of_getElem? hv)⟩)
 refine B0 ?_ (hp _ _ _ _ _ hk s' ra)
 simp [execOp,ho,Instr.alloc,hz,newVar,newRow]

theorem A7r (s:SR N w0 η0 h0 we η st a w) {E:TypeId} {x:Operand} (ho:o.op=.box E x) (hc:(st.ev x).cells.all AV.isCell=true)
  (hk:K (.ptr st.heap.length 0 1 0) (st.new (.box (st.ev x).cells))=some r) (hp:Post N w0 η0 h0 we K r o a next):o.wp P a w next Q:=by
 obtain ⟨c1,c2⟩:=A2e s.inv.hvs (s.ev x) hc
 obtain ⟨η', s', ra⟩:=s.newBox (st.ev x).cells (a.eval x).cells E c1 c2
 refine B0 ?_ (hp _ _ _ _ _ hk s' ra)
 simp [execOp,ho,Instr.box,newVar,newRow]

theorem A7c (hT:TTok P tt) (s:SR N w0 η0 h0 we η st a w) {t:TypeId} {x:Operand} (ho:o.op=.load t x) {d:TD} (hd:tt t=some d) {cs:List AV} (hr:st.read d.size (st.ev x)=some cs)
  {v:AV} (hv:packed d cs=some v) (hk:K v st=some r) (hp:Post N w0 η0 h0 we K r o a next):o.wp P a w next Q:=by
 have td:=hT t d hd
 obtain ⟨ad,e1,e2,e3⟩:=A3F (S:=st.slots) (bs:=st.base) (kl:=st.killed) s.inv hr (s.ev x)
 obtain ⟨vs,v1,v2,v3⟩:=A59 e3
 obtain ⟨p1,p2,p3⟩:=A2v hv v1 v3
 refine B0 (w':=w) ?_ (hp _ _ _ _ _ hk s p3)
 have hl:=A2R td w vs (by omega) v2 p2
 simp [execOp,ho,e1,Instr.loadAt,Instr.sureAddr,hl]

theorem A29 (s:SR N w0 η0 h0 we η st a w) {x:Operand} (ho:o.op=.nilCheck x) {v:AV} (hx:st.ev x=v) (hv:(∃ id row sz sub,v=.ptr id row sz sub)∨(∃ fr e l row off,v=.rop fr e l row off))
  (hk:K v st=some r) (hp:Post N w0 η0 h0 we K r o a next):o.wp P a w next Q:=by
 have hr:=s.ev x
 have hr2:=hr
 rw [hx] at hr hr2
 have:∃ ad,a.eval x=.pointer (some ad):=by
  rcases hv with ⟨_,_,_,_,rfl⟩ | ⟨_,_,_,_,_,rfl⟩
  ·generalize a.eval x=u at hr;cases hr;exact ⟨_,rfl⟩
  ·generalize a.eval x=u at hr;cases hr;exact ⟨_,rfl⟩
 obtain ⟨ad,e⟩:=this
 refine B0 (x:=a.eval x) (w':=w) ?_ (hp _ _ _ _ _ hk s hr2)
 simp [execOp,ho,e]

theorem A2D {s:TypeId} {f:Nat} {off:Nat} {d:TD} (hT:TTok P tt) (hf:A0x tt s f=some (off,d)) :
  ∃ fs fd,P.underlying s=some (.struct fs)∧fs[f]? = some fd∧fd.offset=off∧TDok P fd.type d∧d.size ≠ 0:=by
 simp only [A0x] at hf
 obtain ⟨ds,h1,hf⟩:=Option.bind_eq_some_iff.1 hf
 have td:=hT _ _ h1
 cases hds:ds.desc<;>rw [hds] at hf<;>simp only at hf<;>try cases hf
 rename_i fs
 obtain ⟨fd,h2,hf⟩:=Option.bind_eq_some_iff.1 hf
 obtain ⟨d', h3,hf⟩:=Option.bind_eq_some_iff.1 hf
 split at hf
 ·cases hf
 ·rename_i hne
  simp only [Option.some.injEq,Prod.mk.injEq] at hf
  obtain ⟨rfl,rfl⟩:=hf
  exact ⟨fs,fd,by rw [td.und,hds],h2,rfl,hT _ _ h3,hne⟩

theorem A2K (hT:TTok P tt) (s:SR N w0 η0 h0 we η st a w) {t:TypeId} {x:Operand} {f off:Nat} {d:TD} (ho:o.op=.fieldAddr t x f) (hf:A0x tt t f=some (off,d)) {v v':AV} (hx:st.ev x=v)
  (hv:(∃ id row sz sub,v=.ptr id row sz sub∧v'=.ptr id row sz (sub+off))∨(∃ fr e l row o', v=.rop fr e l row o'∧v'=.rop fr e l row (o'+off)))
  (hk:K v' st=some r) (hp:Post N w0 η0 h0 we K r o a next):o.wp P a w next Q:=by
 obtain ⟨fs,fd,u1,u2,u3,u4,u5⟩:=A2D hT hf
 have hr:=s.ev x
 rw [hx] at hr
 have:∃ ad,a.eval x=.pointer (some ad)∧AVR η st.heap.length w v' (.pointer (some (ad.add off))):=by
  rcases hv with ⟨_,_,_,_,rfl,rfl⟩ | ⟨_,_,_,_,_,rfl,rfl⟩
  ·generalize a.eval x=u at hr;cases hr with
   | ptr hid hrow=>exact ⟨_,rfl,by rw [D8,Nat.add_assoc];exact .ptr hid hrow⟩
  ·generalize a.eval x=u at hr;cases hr with
   | rop hrow hz hl=>exact ⟨_,rfl,by rw [A3j,Nat.add_assoc];exact .rop hrow hz hl⟩
 obtain ⟨ad,e,rv⟩:=this
 refine B0 (w':=w) ?_ (hp _ _ _ _ _ hk s rv)
 have hs:(fieldPlace ad fd).run P w=.ok (ad.add off) w:=by
  simp only [fieldPlace,Sem.run_bind,C6 u4,Result.andThen_ok]
  simp [u5,u3]
 simp [execOp,ho,e,Instr.fieldAt,run_underlying u1,u2,Instr.sureAddr,hs]

theorem A46 {vs:Array Value} {off n j:Nat} (h:off+n≤vs.size) (hj:j<n):(vs.extract off (off+n)).getD j undef=vs.getD (off+j) undef:=by
 simp only [Array.getD_eq_getD_getElem?]
 congr 1
 rw [Array.getElem?_extract]
 have:j<min (off+n) vs.size - off:=by omega
 simp [this]

theorem A6T (hT:TTok P tt) (s:SR N w0 η0 h0 we η st a w) {t:TypeId} {x:Operand} {f off:Nat} {d:TD} (ho:o.op=.field t x f) (hf:A0x tt t f=some (off,d)) {cs:List AV} (hx:st.ev x=.agg cs)
  {v:AV} (hv:packed d ((cs.drop off).take d.size)=some v) (hk:K v st=some r) (hp:Post N w0 η0 h0 we K r o a next):o.wp P a w next Q:=by
 obtain ⟨fs,fd,u1,u2,u3,u4,u5⟩:=A2D hT hf
 have hr:=s.ev x
 rw [hx] at hr
 generalize hu:a.eval x=u at hr
 cases hr with
 | @agg _ vs hsz hc =>
  have hlen:((cs.drop off).take d.size).length=d.size:=by
   simp only [packed] at hv;split at hv
   ·assumption
   ·cases hv
  have hle:off+d.size≤vs.size:=by
   simp only [List.length_take,List.length_drop] at hlen
   rw [hsz];have:d.size ≠ 0:=u5;omega
  have hxs:∀ j,j<d.size→(vs.extract off (off+d.size)).getD j undef=vs.getD (off+j) undef:=fun j hj=>A46 hle hj
  have hxl:(vs.extract off (off+d.size)).size=d.size:=by rw [Array.size_extract];omega
  have hpart:(part fd.type vs off).run P w=.ok (if d.agg then .agg (vs.extract off (off+d.size)) else vs.getD off undef) w:=by
   simp only [part,Sem.run_bind,A2z u4,Result.andThen_ok]
   cases hd:d.agg with
   | true=>simp [C6 u4]
   | false =>
    have e2:vs[off]? = some (vs.getD off undef):=A0F (by have:d.size ≠ 0:=u5;omega)
    rw [e2]
    rfl
  generalize vs.extract off (off+d.size)=xs at hxs hxl hpart
  obtain ⟨p1,p2,p3⟩:=A2v (vs:=xs.toList) hv (by rw [hlen,Array.length_toList,hxl]) (fun j c hj=>by
   obtain ⟨g1,g2⟩:=F6 hj
   have e:xs.toList.getD j undef=vs.getD (off+j) undef:=by
    rw [← hxs j g1];simp [List.getD_eq_getElem?_getD,Array.getD_eq_getD_getElem?]
   rw [e];exact hc _ c g2)
  have p3':AVR η st.heap.length w v (if d.agg then .agg xs else vs.getD off undef):=by
   cases hd:d.agg with
   | true=>simpa [hd] using p3
   | false =>
    have h1:=p2 hd
    have e:=hxs 0 (by omega)
    rw [Nat.add_zero] at e
    simp only [hd,Bool.false_eq_true,if_false] at p3 ⊢
    rw [← e]
    simpa [List.getD_eq_getElem?_getD,Array.getD_eq_getD_getElem?] using p3
  refine B0 (w':=w) ?_ (hp _ _ _ _ _ hk s p3')
  simp [execOp,ho,hu,Instr.field,run_underlying u1,u2,asAgg,u3,hpart]
end
end Go.Proofs.YtgglehejlddghaaGreat.Eng
