/- The engine, part 4: steps of the world and the states that go with them. -/
import Derived.Test.YtccelbeahdcooaaE3
namespace Go.Proofs.Ytccelbeahdcooaa.Eng
open Go Go.RowKit
set_option linter.unusedSimpArgs false
set_option linter.unusedVariables false

abbrev NoK:Nat→Bool:=fun _=>false

theorem addr_block (a:Addr) (n:Nat):(a.add n).block=a.block:=by unfold Addr.add;split<;>rfl
theorem addr_add (a:Addr) (m n:Nat):(a.add m).add n=a.add (m+n):=by
 unfold Addr.add
 by_cases hm:m=0
 ·subst hm;simp
 ·by_cases hn:n=0
  ·subst hn;simp [hm]
  ·have:m+n ≠ 0:=by omega
   simp [hm,hn,this,Nat.add_assoc]
theorem addr_at (b o n:Nat):(⟨b,o,none⟩:Addr).add n=⟨b,o+n,none⟩:=by unfold Addr.add;split<;>simp_all

theorem cell_block {w:World} {b:Nat} {c:Array Value} {E:TypeId} {f:Nat×Nat} (hb:w.heap[b]? = some (.cells c E f)) (o:Nat):w.cell? ⟨b,o,none⟩=c[o]?:=by
 simp [World.cell?,hb]

def OKeep (η:Env) (w:World) (η':Env) (w':World) (id:Nat):Prop:=True∧∀ b r o,η.O b=some (id,r,o)→η'.O b=some (id,r,o)∧w'.heap[b]? = w.heap[b]?
theorem Own.renRow {η η':Env} {w w':World} {id j row row':Nat} (hn:∀ o,η'.nv j row' o=η.nv id row o) (ho:∀ b o,η.O b=some (id,row,o)→η'.O b=some (j,row', o)∧w'.heap[b]? = w.heap[b]?) :
  ∀ (t:Ty) (Es:List TypeId) (off:Nat) (x:t.den) (c:Nat→Option Value),Own η w id row t Es off x c→Own η' w' j row' t Es off x c:=by
 intro t
 induction t with
 | int k=>intro Es off x c h;exact h
 | bool=>intro Es off x c h;exact h
 | str=>intro Es off x c h;exact h
 | sl e _ =>
  intro Es off l c h
  obtain ⟨h0,h2⟩:=h
  refine ⟨by rw [hn];exact h0,?_⟩
  rcases h2 with ⟨h3,h4⟩ | ⟨h1,b,d,cap,q1,q2,q3,q4,q5,q6,q7⟩
  ·exact .inl ⟨by rw [hn];exact h3,h4⟩
  ·obtain ⟨k1,k2⟩:=ho b _ q2
   exact .inr ⟨h1,b,d,cap,by rw [hn];exact q1,k1,k2.trans q3,q4,q5,q6,fun i y hy=>Lay.of_flat _ _ _ h1 (q7 i y hy)⟩
 | pair a b iha ihb=>intro Es off x c h;exact ⟨iha _ _ _ _ h.1,ihb _ _ _ _ h.2⟩
theorem Own.ren {η η':Env} {w w':World} {id j row:Nat} (hn:η'.nv j=η.nv id) (ho:∀ b r o,η.O b=some (id,r,o)→η'.O b=some (j,r,o)∧w'.heap[b]? = w.heap[b]?)
  (t:Ty) (Es:List TypeId) (off:Nat) (x:t.den) (c:Nat→Option Value) (h:Own η w id row t Es off x c):Own η' w' j row t Es off x c :=
 Own.renRow (fun o=>by rw [hn]) (fun b o hb=>ho b row o hb) t Es off x c h
theorem Own.mono {η η':Env} {w w':World} {id row:Nat} (hn:η'.nv id=η.nv id) (ho:OKeep η w η' w' id) (hz:∀ f b,η.Z f b→η'.Z f b) (hw:∀ f b,η.Z f b→w'.heap[b]? = w.heap[b]?)
  (t:Ty) (Es:List TypeId) (off:Nat) (x:t.den) (c:Nat→Option Value) (h:Own η w id row t Es off x c):Own η' w' id row t Es off x c:=Own.ren hn ho.2 t Es off x c h

theorem Own.congr {η:Env} {w:World} {id row:Nat}:∀ (t:Ty) (Es:List TypeId) (off:Nat) (x:t.den) (c c':Nat→Option Value),(∀ j,j<t.cells→c j=c' j)→Own η w id row t Es off x c→Own η w id row t Es off x c':=by
 intro t
 induction t with
 | int k=>intro Es off x c c' h hl;simp only [Own] at hl ⊢;rw [← h 0 (by simp [Ty.cells])];exact hl
 | bool=>intro Es off x c c' h hl;simp only [Own] at hl ⊢;rw [← h 0 (by simp [Ty.cells])];exact hl
 | str=>intro Es off x c c' h hl;simp only [Own] at hl ⊢;rw [← h 0 (by simp [Ty.cells])];exact hl
 | sl e ih=>intro Es off x c c' h hl;simp only [Own] at hl ⊢;rw [← h 0 (by simp [Ty.cells])];exact hl
 | pair a b iha ihb =>
  intro Es off x c c' h hl
  simp only [Own] at hl ⊢
  refine ⟨iha _ _ _ _ _ (fun j hj=>h j (by simp only [Ty.cells];omega)) hl.1,ihb _ _ _ _ _ (fun j hj=>h _ (by simp only [Ty.cells];omega)) hl.2⟩

theorem ObjR.mono {η η':Env} {h h':Nat} {w w':World} (x:Ext NoK η h w η' h' w') {id:Nat} (hid:id<h) {o:AObj}
  (hb:o.mat η id→w'.heap[η.ι id]? = w.heap[η.ι id]?) (r:ObjR η h w id o) (hO:OKeep η w η' w' id):ObjR η' h' w' id o:=by
 obtain ⟨p1,p2,p3,p4⟩:=x.nm id hid rfl
 cases o with
 | dead=>trivial
 | box cs =>
  obtain ⟨hl,c,E,hc,hs,hr⟩:=r
  refine ⟨p4.trans hl,c,E,?_,hs,fun j a ha=>⟨(hr j a ha).1.ext x,(hr j a ha).2⟩⟩
  rw [p2,hb trivial];exact hc
 | rows E fr e l =>
  obtain ⟨hl,hr⟩:=r
  refine ⟨p4.trans hl,?_⟩
  rcases hr with ⟨h1,h2⟩ | ⟨c,cap,h1,h2,h3,h4,h5,h6⟩
  ·exact .inl ⟨by rw [p3];exact h1,h2⟩
  ·refine .inr ⟨c,cap,?_,?_,h3,h4,h5,fun i y hy=>lay_cell_mono x.z x.same (h6 i y hy)⟩
   ·rw [p2,p3];exact h1
   ·rw [p2,hb (not_nul h1 h4.1)];exact h2
 | deep E Es e l =>
  obtain ⟨hl,hr⟩:=r
  refine ⟨p4.trans hl,?_⟩
  rcases hr with ⟨h1,h2⟩ | ⟨c,cap,h1,h2,h3,h4,h5,h6⟩
  ·exact .inl ⟨by rw [p3];exact h1,h2⟩
  ·refine .inr ⟨c,cap,?_,?_,h3,h4,h5,fun i y hy=>Own.mono (x.nn id hid rfl) hO x.z x.same _ _ _ _ _ (h6 i y hy)⟩
   ·rw [p2,p3];exact h1
   ·rw [p2,hb (not_nul h1 h4.1)];exact h2
 | hole E Es e l row off =>
  obtain ⟨hl,c,cap,h1,h2,h3,h4,h5,h6⟩:=r
  refine ⟨p4.trans hl,c,cap,?_,?_,h3,h4,h5,fun i y hy=>Own.mono (η:=η.holeAt id row off) (η':=η'.holeAt id row off) (holeAt_eq (x.nn id hid rfl)) hO x.z x.same _ _ _ _ _ (h6 i y hy)⟩
  ·rw [p2,p3];exact h1
  ·rw [p2,hb (not_nul h1 h4.1)];exact h2

theorem mat_iff {η η':Env} {h h':Nat} {w w':World} (x:Ext NoK η h w η' h' w') {id:Nat} (hid:id<h) {o:AObj}:o.mat η' id↔o.mat η id:=by
 obtain ⟨p1,p2,p3,p4⟩:=x.nm id hid rfl
 cases o<;>simp [AObj.mat,p3]

theorem SlotsR.ext [DF] {η η':Env} {h h':Nat} {w w':World} (x:Ext NoK η h w η' h' w') {ss:List AV} {a:Act} (s:SlotsR η h w ss a):SlotsR η' h' w' ss a :=
 ⟨s.size,fun i c hc=>(s.slot i c hc).ext x,s.defers⟩

theorem SlotsR.kill [DF] {K:Nat→Bool} {η η':Env} {h h':Nat} {w w':World} (x:Ext K η h w η' h' w') {ss:List AV} {a:Act} (s:SlotsR η h w ss a):SlotsR η' h' w' (ss.map (AV.kill K)) a:=by
 refine ⟨by rw [s.size,List.length_map],fun i c hc=>?_,s.defers⟩
 obtain ⟨y,hy,rfl⟩:=getElem?_map_some hc
 exact (s.slot i y hy).kill x

theorem SlotsR.put [DF] {η:Env} {h:Nat} {w:World} {ss:List AV} {a:Act} (s:SlotsR η h w ss a) (d:Nat) {v:AV} {x:Value} (r:AVR η h w v x):SlotsR η h w (ss.set d v) (a.put (some d) x):=by
 refine ⟨by simp [Act.put,s.size],fun i c hc=>?_,by simp [Act.put,s.defers]⟩
 simp only [Act.put]
 by_cases hi:i=d
 ·subst hi
  rw [List.getElem?_set] at hc
  simp only [if_true] at hc
  split at hc
  ·rename_i hlt
   obtain rfl:v=c:=by simpa using hc
   have:i<a.tmps.size:=by rw [s.size];exact hlt
   simp [Array.getD,this];exact r
  ·cases hc
 ·rw [List.getElem?_set_ne (fun e=>hi e.symm)] at hc
  have:=s.slot i c hc
  have e:(a.tmps.setIfInBounds d x).getD i undef=a.tmps.getD i undef:=by
   simp only [Array.getD_eq_getD_getElem?]
   rw [Array.getElem?_setIfInBounds]
   rw [if_neg (fun e=>hi e.symm)]
  rw [e];exact this

structure SR [DF] (N:Nat→Prop) (w0:World) (η0:Env) (h0:Nat) (we:World) (η:Env) (st:St) (a:Act) (w:World):Prop where
 inv:Inv N w0 η st.heap w
 ext:Ext st.killed.contains η0 h0 we η st.heap.length w
 sl:SlotsR η st.heap.length w st.slots a
 base:st.base=h0

section
variable {N:Nat→Prop} {w0:World} {η0:Env} {h0:Nat} {we:World} {η:Env} {st:St} {a:Act} {w:World}

theorem SR.ev [DF] (s:SR N w0 η0 h0 we η st a w) (x:Operand):AVR η st.heap.length w (st.ev x) (a.eval x):=by
 cases x with
 | tmp t =>
  simp only [St.ev,Act.eval,List.getD_eq_getElem?_getD]
  cases e:st.slots[t]? with
  | none=>exact .junk _
  | some c=>exact s.sl.slot t c e
 | const v=>exact ofValue_rel v
 | global g=>exact .raw _
 | func f=>exact .fn rfl (fun i c hc=>by simp at hc)

theorem SR.put [DF] (s:SR N w0 η0 h0 we η st a w) (d:Option Tmp) {v:AV} {x:Value} (r:AVR η st.heap.length w v x):SR N w0 η0 h0 we η (st.put d v) (a.put d x) w:=by
 cases d with
 | none=>exact s
 | some d=>exact ⟨s.inv,s.ext,s.sl.put d r,s.base⟩

theorem SR.refine' [DF] (s:SR N w0 η0 h0 we η st a w) (d:Nat) {v:AV} (r:AVR η st.heap.length w v (a.tmps.getD d undef)):SR N w0 η0 h0 we η (st.put (some d) v) a w:=by
 refine ⟨s.inv,s.ext,⟨by simp [St.put,s.sl.size],fun i c hc=>?_,s.sl.defers⟩,s.base⟩
 simp only [St.put] at hc
 by_cases hi:i=d
 ·subst hi
  rw [List.getElem?_set] at hc
  simp only [if_true] at hc
  split at hc
  ·obtain rfl:v=c:=by simpa using hc
   exact r
  ·cases hc
 ·rw [List.getElem?_set_ne (fun e=>hi e.symm)] at hc
  exact s.sl.slot i c hc

theorem cells_rel (hvs:∀ id,∃ A n c,η.hv id=.slice A n c) {h:Nat} {x:AV} {v:Value} (r:AVR η h w x v) (hc:x.cells.all AV.isCell=true) :
    v.cells.size=x.cells.length∧∀ j c,x.cells[j]? = some c→AVR η h w c (v.cells.getD j undef)∧(v.cells.getD j undef).oneCell'=true:=by
  have one:∀ (y:AV) (u:Value),AVR η h w y u→y.isCell=true→u.cells=#[u]∧u.oneCell'=true:=by
    intro y u ru hy
    have ho:=cell_rel ru hy (fun id _=>hvs id)
    refine ⟨?_,ho⟩
    cases u<;>simp [Value.oneCell', Value.cells] at ho ⊢
  have single:∀ (y:AV),AVR η h w y v→y.isCell=true→y.cells=[y]→v.cells.size=y.cells.length∧∀ j c,y.cells[j]? = some c→AVR η h w c (v.cells.getD j undef)∧(v.cells.getD j undef).oneCell'=true:=by
    intro y ry hy he
    obtain ⟨e1,e2⟩:=one y v ry hy
    rw [he,e1]
    refine ⟨rfl,fun j c hj=>?_⟩
    cases j with
    | zero => obtain rfl : y = c := by simpa using hj
              exact ⟨ry,e2⟩
    | succ j=>simp at hj
  cases r with
  | agg hsz hcs =>
    refine ⟨hsz,fun j c hj=>⟨hcs j c hj,?_⟩⟩
    exact cell_rel (hcs j c hj) (List.all_eq_true.1 hc c (List.mem_of_getElem? hj)) (fun id _=>hvs id)
  | t h1 hl=>exact single _ (.t h1 hl) (by simpa [AV.cells] using hc) rfl
  | raw=>exact single _ (.raw _) (by simpa [AV.cells] using hc) rfl
  | all hid=>exact single _ (.all hid) (by simpa [AV.cells] using hc) rfl
  | arr hid hn hlo hA=>exact single _ (.arr hid hn hlo hA) (by simpa [AV.cells] using hc) rfl
  | pre hid hv hn hc'=>exact single _ (.pre hid hv hn hc') (by simpa [AV.cells] using hc) rfl
  | ptr hid hr=>exact single _ (.ptr hid hr) (by simpa [AV.cells] using hc) rfl
  | rop hr hz hl=>exact single _ (.rop hr hz hl) (by simpa [AV.cells] using hc) rfl
  | fn hsz hcs=>exact single _ (.fn hsz hcs) (by simpa [AV.cells] using hc) rfl
  | tup hsz hcs=>exact single _ (.tup hsz hcs) (by simpa [AV.cells] using hc) rfl
  | nest hid hr=>exact single _ (.nest hid hr) (by simpa [AV.cells] using hc) rfl
  | junk=>exact single _ (.junk _) (by simpa [AV.cells] using hc) rfl

def Env.upd (η:Env) (id b:Nat) (v:Value) (n:Nat):Env :=
 { ι:=fun i=>if i=id then b else η.ι i,hv:=fun i=>if i=id then v else η.hv i,ln:=fun i=>if i=id then n else η.ln i,Z:=η.Z,nv:=η.nv,O:=η.O }

theorem Ext.upd_alloc (η:Env) (h:Nat) (w:World) (o:Obj) (hz:∀ f b,η.Z f b→b<w.heap.size) (b:Nat) (v:Value) (n:Nat):Ext NoK η h w (η.upd h b v n) (h+1) (w.alloc o):=by
 refine ⟨fun id hid _=>⟨by omega,?_,?_,?_⟩,fun f c hc=>hc,fun f c hc=>?_,fun _ h=>.inl h,fun _ _ _=>rfl⟩
 ·simp [Env.upd,Nat.ne_of_lt hid]
 ·simp [Env.upd,Nat.ne_of_lt hid]
 ·simp [Env.upd,Nat.ne_of_lt hid]
 ·exact Below.heap_alloc w o c (hz f c hc)

theorem heap_append_some {H:List AObj} {o:AObj} {id:Nat} {x:AObj} (h:(H++[o])[id]? = some x):(id<H.length∧H[id]? = some x)∨(id=H.length∧x=o):=by
 by_cases hlt:id<H.length
 ·rw [List.getElem?_append_left hlt] at h;exact .inl ⟨hlt,h⟩
 ·rw [List.getElem?_append_right (by omega)] at h
  right
  cases hk:id - H.length with
  | zero=>rw [hk] at h;simp at h;exact ⟨by omega,h.symm⟩
  | succ k=>rw [hk] at h;simp at h

theorem Inv.alloc {H:List AObj} (I:Inv N w0 η H w) (o:AObj) (blk:Obj) (v:Value) (n:Nat) (hv:∃ A n c,v=.slice A n c)
  (hr:ObjR (η.upd H.length w.heap.size v n) (H.length+1) (w.alloc blk) H.length o) :
  Inv N w0 (η.upd H.length w.heap.size v n) (H++[o]) (w.alloc blk):=by
 have x:=Ext.upd_alloc η H.length w blk I.zlt w.heap.size v n
 have hsz:(w.alloc blk).heap.size=w.heap.size+1:=by show (w.heap.push blk).size=_;simp
 refine ⟨I.nlt,⟨I.fr.os,I.fr.tape,I.fr.output,by rw [hsz];have:=I.fr.size;omega,fun k hk=>?_⟩,fun f b hb=>by rw [hsz];have:=I.zlt f b hb;omega,I.zsub,I.znew,fun id=>?_,fun id x' hx=>?_,fun id x' hx hm=>?_,fun id id' x1 x2 h1 h2 m1 m2 he=>?_,fun b k hb=>?_,I.nvs⟩
 ·rw [Below.heap_alloc w blk k (Nat.lt_of_lt_of_le (I.nlt k hk) I.fr.size)];exact I.fr.block k hk
 ·simp only [Env.upd];split
  ·exact hv
  ·exact I.hvs id
 ·rw [List.length_append,List.length_singleton]
  rcases heap_append_some hx with ⟨hlt,hx⟩ | ⟨rfl,rfl⟩
  ·exact (I.obj id x' hx).mono x hlt (fun hm=>Below.heap_alloc w blk _ (I.own id x' hx hm).2.2) ⟨trivial,fun b r o hb=>⟨hb,Below.heap_alloc w blk _ (I.dep b _ hb).2.2.1⟩⟩
  ·exact hr
 ·rcases heap_append_some hx with ⟨hlt,hx⟩ | ⟨rfl,rfl⟩
  ·obtain ⟨a1,a2,a3⟩:=I.own id x' hx ((mat_iff x hlt).1 hm)
   have e:(η.upd H.length w.heap.size v n).ι id=η.ι id:=by simp [Env.upd,Nat.ne_of_lt hlt]
   rw [e,hsz]
   exact ⟨a1,a2,by omega⟩
  ·have e:(η.upd H.length w.heap.size v n).ι H.length=w.heap.size:=by simp [Env.upd]
   rw [e,hsz]
   exact ⟨fun hn=>by have:=I.nlt _ hn;have:=I.fr.size;omega,fun hz=>by have:=I.zlt _ _ hz;omega,by omega⟩
 ·have eo:∀ i,i<H.length→(η.upd H.length w.heap.size v n).ι i=η.ι i:=fun i hi=>by simp [Env.upd,Nat.ne_of_lt hi]
  have en:(η.upd H.length w.heap.size v n).ι H.length=w.heap.size:=by simp [Env.upd]
  rcases heap_append_some h1 with ⟨l1,g1⟩ | ⟨rfl,e1⟩<;>rcases heap_append_some h2 with ⟨l2,g2⟩ | ⟨rfl,e2⟩
  ·rw [eo _ l1,eo _ l2] at he
   exact I.inj id id' x1 x2 g1 g2 ((mat_iff x l1).1 m1) ((mat_iff x l2).1 m2) he
  ·rw [eo _ l1,en] at he
   have:=(I.own id x1 g1 ((mat_iff x l1).1 m1)).2.2;omega
  ·rw [eo _ l2,en] at he
   have:=(I.own id' x2 g2 ((mat_iff x l2).1 m2)).2.2;omega
  ·rfl
 ·obtain ⟨d1,d2,d3,d4⟩:=I.dep b k hb
  refine ⟨d1,d2,by omega,fun i y hy hm=>?_⟩
  rcases heap_append_some hy with ⟨hlt,hy⟩ | ⟨rfl,rfl⟩
  ·have e:(η.upd H.length w.heap.size v n).ι i=η.ι i:=by simp [Env.upd,Nat.ne_of_lt hlt]
   rw [e];exact d4 i y hy ((mat_iff x hlt).1 hm)
  ·have e:(η.upd H.length w.heap.size v n).ι H.length=w.heap.size:=by simp [Env.upd]
   rw [e];omega

theorem Inv.same {H:List AObj} (I:Inv N w0 η H w) {w':World} (hh:w'.heap=w.heap) (h1:w'.os=w.os) (h2:w'.tape=w.tape) (h3:w'.output=w.output) :
  Inv N w0 η H w'∧∀ h,Ext NoK η h w η h w':=by
 have x:∀ h,Ext NoK η h w η h w':=fun h=>⟨fun _ hi _=>⟨hi,rfl,rfl,rfl⟩,fun _ _ hz=>hz,fun _ _ _=>by rw [hh],fun _ h=>.inl h,fun _ _ _=>rfl⟩
 refine ⟨⟨I.nlt,⟨h1.trans I.fr.os,h2.trans I.fr.tape,h3.trans I.fr.output,by rw [hh];exact I.fr.size,fun k hk=>by rw [hh];exact I.fr.block k hk⟩,by rw [hh];exact I.zlt,I.zsub,I.znew,I.hvs,
  fun id o ho=>(I.obj id o ho).mono (x _) (List.getElem?_eq_some_iff.1 ho).1 (fun _=>by rw [hh]) ⟨trivial,fun b r o hb=>⟨hb,by rw [hh]⟩⟩,by rw [hh];exact I.own,I.inj,by rw [hh];exact I.dep,I.nvs⟩,x⟩
end
end Go.Proofs.Ytccelbeahdcooaa.Eng
