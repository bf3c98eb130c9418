/- The engine, part 36: nil in an answer becomes rows of its own. -/
import Derived.Test.YtccelbeahdcooaaE34
namespace Go.Proofs.Ytccelbeahdcooaa.Eng
open Go Go.RowKit
set_option linter.unusedSimpArgs false
set_option linter.unusedVariables false

def matA (tt:TT) (t:TypeId) (a:AV) (st:St):AV×St :=
 match a with
 | .raw (.slice none 0 0) =>
  match elemOf' tt t with
  | some (E,d)=>match tyOf tt 9 E with
   | some e=>if d.own==[4294967295] then (a,st) else (.all st.heap.length e.cells,{ st with heap:=st.heap++[rowsOr E e d.own] })
   | none=>(a,st)
  | none=>(a,st)
 | a=>(a,st)
def cellIds (tt:TT):Nat→TypeId→List TypeId
 | 0,t=>[t]
 | k+1,t=>match descOf tt t with
  | some (.struct fs)=>fs.toList.flatMap fun f=>cellIds tt k f.type
  | _=>[t]
def matL (tt:TT):List TypeId→List AV→St→List AV×St
 | t::ts,a::as,st=>let p:=matA tt t a st;let q:=matL tt ts as p.2;(p.1::q.1,q.2)
 | _,as,st=>(as,st)
def matB (tt:TT) (t:TypeId) (a:AV) (st:St):AV×St :=
 match a with
 | .agg cs=>(.agg (matL tt (cellIds tt 9 t) cs st).1,(matL tt (cellIds tt 9 t) cs st).2)
 | a=>matA tt t a st
def matT (tt:TT):List TypeId→List AV→St→List AV×St
 | t::ts,a::as,st=>let p:=matB tt t a st;let q:=matT tt ts as p.2;(p.1::q.1,q.2)
 | _,as,st=>(as,st)
def matR (ro:Bool) (tt:TT) (ts:List TypeId) (r:AV) (st:St):AV×St :=
 match ro with
 | true=>(r,st)
 | false=>match r with
  | .tup cs=>(.tup (matT tt ts cs st).1,(matT tt ts cs st).2)
  | r=>match ts with
   | [t]=>matB tt t r st
   | _=>(r,st)

section
variable {N:Nat→Prop} {w0:World} {η0:Env} {h0:Nat} {we:World} {w:World} {a:Act} {tt:TT}

theorem SR.matA [DF] {η:Env} {st:St} (s:SR N w0 η0 h0 we η st a w) (t:TypeId) (x:AV) :
  ∃ η', SR N w0 η0 h0 we η' (Eng.matA tt t x st).2 a w∧Ext NoK η st.heap.length w η' (Eng.matA tt t x st).2.heap.length w∧∀ v,AVR η st.heap.length w x v→AVR η' (Eng.matA tt t x st).2.heap.length w (Eng.matA tt t x st).1 v:=by
 have same:∃ η', SR N w0 η0 h0 we η' st a w∧Ext NoK η st.heap.length w η' st.heap.length w∧∀ v,AVR η st.heap.length w x v→AVR η' st.heap.length w x v:=⟨η,s,Ext.refl,fun _ h=>h⟩
 unfold Eng.matA
 split
 ·split
  ·rename_i E d hE
   split
   ·rename_i e he
    split
    ·exact same
    obtain ⟨η', s', ra,x⟩:=s.adoptNil (rowsOr E e d.own) e.cells (rowsOr_nil _ _ _)
    refine ⟨η', s', x,fun v hv=>?_⟩
    cases hv with
    | raw=>exact ra
   ·exact same
  ·exact same
 ·exact same

theorem SR.matL [DF]:∀ (ts:List TypeId) (as:List AV) {η:Env} {st:St} (s:SR N w0 η0 h0 we η st a w),
  ∃ η', SR N w0 η0 h0 we η' (Eng.matL tt ts as st).2 a w∧Ext NoK η st.heap.length w η' (Eng.matL tt ts as st).2.heap.length w∧(Eng.matL tt ts as st).1.length=as.length ∧
   ∀ (f:Nat→Value),(∀ i c,as[i]? = some c→AVR η st.heap.length w c (f i))→∀ i c,(Eng.matL tt ts as st).1[i]? = some c→AVR η' (Eng.matL tt ts as st).2.heap.length w c (f i):=by
 intro ts
 induction ts with
 | nil=>intro as η st s;exact ⟨η,s,Ext.refl,rfl,fun f h=>h⟩
 | cons t ts ih=>intro as η st s;cases as with
  | nil=>exact ⟨η,s,Ext.refl,rfl,fun f h=>h⟩
  | cons x as =>
   obtain ⟨η1,s1,x1,r1⟩:=s.matA (tt:=tt) t x
   obtain ⟨η2,s2,x2,l2,r2⟩:=ih as s1
   refine ⟨η2,s2,x1.trans x2 (fun _ _ h=>⟨h,h⟩),by simp [Eng.matL,l2],fun f hf i c hc=>?_⟩
   cases i with
   | zero =>
    obtain rfl:(Eng.matA tt t x st).1=c:=by simpa [Eng.matL] using hc
    exact (r1 _ (hf 0 x rfl)).ext x2
   | succ i=>exact r2 (fun i=>f (i+1)) (fun i d hd=>(hf (i+1) d (by simpa using hd)).ext x1) i c (by simpa [Eng.matL] using hc)

theorem SR.matB [DF] {η:Env} {st:St} (s:SR N w0 η0 h0 we η st a w) (t:TypeId) (x:AV) :
  ∃ η', SR N w0 η0 h0 we η' (Eng.matB tt t x st).2 a w∧Ext NoK η st.heap.length w η' (Eng.matB tt t x st).2.heap.length w∧∀ v,AVR η st.heap.length w x v→AVR η' (Eng.matB tt t x st).2.heap.length w (Eng.matB tt t x st).1 v:=by
 unfold Eng.matB
 split
 ·rename_i cs
  obtain ⟨η', s', x', l', r'⟩:=SR.matL (tt:=tt) (cellIds tt 9 t) cs s
  refine ⟨η', s', x', fun v hv=>?_⟩
  cases hv with
  | @agg _ vs hsz hc=>exact .agg (by rw [hsz];exact l'.symm) (r' (fun i=>vs.getD i undef) hc)
 ·exact s.matA t x

theorem SR.matT [DF]:∀ (ts:List TypeId) (as:List AV) {η:Env} {st:St} (s:SR N w0 η0 h0 we η st a w),
  ∃ η', SR N w0 η0 h0 we η' (Eng.matT tt ts as st).2 a w∧Ext NoK η st.heap.length w η' (Eng.matT tt ts as st).2.heap.length w∧(Eng.matT tt ts as st).1.length=as.length ∧
   ∀ (f:Nat→Value),(∀ i c,as[i]? = some c→AVR η st.heap.length w c (f i))→∀ i c,(Eng.matT tt ts as st).1[i]? = some c→AVR η' (Eng.matT tt ts as st).2.heap.length w c (f i):=by
 intro ts
 induction ts with
 | nil=>intro as η st s;exact ⟨η,s,Ext.refl,rfl,fun f h=>h⟩
 | cons t ts ih=>intro as η st s;cases as with
  | nil=>exact ⟨η,s,Ext.refl,rfl,fun f h=>h⟩
  | cons x as =>
   obtain ⟨η1,s1,x1,r1⟩:=s.matB (tt:=tt) t x
   obtain ⟨η2,s2,x2,l2,r2⟩:=ih as s1
   refine ⟨η2,s2,x1.trans x2 (fun _ _ h=>⟨h,h⟩),by simp [Eng.matT,l2],fun f hf i c hc=>?_⟩
   cases i with
   | zero =>
    obtain rfl:(Eng.matB tt t x st).1=c:=by simpa [Eng.matT] using hc
    exact (r1 _ (hf 0 x rfl)).ext x2
   | succ i=>exact r2 (fun i=>f (i+1)) (fun i d hd=>(hf (i+1) d (by simpa using hd)).ext x1) i c (by simpa [Eng.matT] using hc)

theorem SR.matR [DF] {η:Env} {st:St} {ro:Bool} {ts:List TypeId} (s:SR N w0 η0 h0 we η st a w) {r:AV} {v:Value} (hr:AVR η st.heap.length w r v) :
  ∃ η', SR N w0 η0 h0 we η' (Eng.matR ro tt ts r st).2 a w∧AVR η' (Eng.matR ro tt ts r st).2.heap.length w (Eng.matR ro tt ts r st).1 v:=by
 have same:∃ η', SR N w0 η0 h0 we η' st a w∧AVR η' st.heap.length w r v:=⟨η,s,hr⟩
 unfold Eng.matR
 split
 ·exact same
 ·split
  ·rename_i cs
   obtain ⟨η', s', x', l', r'⟩:=SR.matT (tt:=tt) ts cs s
   cases hr with
   | @tup _ vs hsz hc=>exact ⟨η', s', .tup (by rw [hsz];exact l'.symm) (r' (fun i=>vs.getD i undef) hc)⟩
  ·split
   ·rename_i t
    obtain ⟨η', s', _,r'⟩:=s.matB (tt:=tt) t r
    exact ⟨η', s', r' _ hr⟩
   ·exact same
theorem matA_st (t:TypeId) (x:AV) (st:St):(Eng.matA tt t x st).2.killed=st.killed∧(Eng.matA tt t x st).2.base=st.base:=by
 unfold Eng.matA
 split
 ·split
  ·split
   ·split<;>exact ⟨rfl,rfl⟩
   ·exact ⟨rfl,rfl⟩
  ·exact ⟨rfl,rfl⟩
 ·exact ⟨rfl,rfl⟩
end
end Go.Proofs.Ytccelbeahdcooaa.Eng
