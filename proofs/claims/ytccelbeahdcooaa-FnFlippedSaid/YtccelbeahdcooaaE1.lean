/- The engine, part 1: typed pure values, how they lie in memory, abstract values and states, and the relation to the model's worlds. -/
import Derived.WalkKit
import Derived.Below
import Derived.Maps.AppendAt
namespace Go.Proofs.Ytccelbeahdcooaa.Eng
open Go

inductive Ty where
 | int (k:IntKind) | bool | str | sl (e:Ty) | pair (a b:Ty)
 deriving DecidableEq

@[reducible] def Ty.den:Ty→Type
 | .int _=>Int
 | .bool=>Bool
 | .str=>ByteArray
 | .sl e=>List e.den
 | .pair a b=>a.den×b.den

def Ty.cells:Ty→Nat
 | .pair a b=>a.cells+b.cells
 | _=>1

theorem Ty.cells_pos (t:Ty):0<t.cells:=by
 induction t with
 | pair a b iha ihb=>simp only [Ty.cells];omega
 | _=>simp [Ty.cells]

def Ty.flat:Ty→Bool
 | .sl _=>false
 | .pair a b=>a.flat&&b.flat
 | _=>true

def Lay (Z:Nat→Prop) (w:World):(t:Ty)→t.den→(Nat→Option Value)→Prop
  | .int k,x,c=>c 0=some (.int k x)
  | .bool,x,c=>c 0=some (.bool x)
  | .str,x,c=>c 0=some (.string x)
  | .sl e, l, c => ∃ A cap, c 0 = some (.slice A l.length cap) ∧ l.length ≤ cap ∧
      (l=[]∨∃ ad,A=some ad∧Z ad.block∧∀ i x,l[i]? = some x→Lay Z w e x (fun j=>w.cell? (ad.add (i*e.cells+j))))
  | .pair a b,x,c=>Lay Z w a x.1 c∧Lay Z w b x.2 (fun j=>c (a.cells+j))

theorem Lay.congr {Z:Nat→Prop} {w:World}:∀ (t:Ty) (x:t.den) (c c':Nat→Option Value),(∀ j,j<t.cells→c j=c' j)→Lay Z w t x c→Lay Z w t x c':=by
 intro t
 induction t with
 | int k=>intro x c c' h hl;simp only [Lay] at hl ⊢;rw [← h 0 (by simp [Ty.cells])];exact hl
 | bool=>intro x c c' h hl;simp only [Lay] at hl ⊢;rw [← h 0 (by simp [Ty.cells])];exact hl
 | str=>intro x c c' h hl;simp only [Lay] at hl ⊢;rw [← h 0 (by simp [Ty.cells])];exact hl
 | sl e ih=>intro x c c' h hl;simp only [Lay] at hl ⊢;rw [← h 0 (by simp [Ty.cells])];exact hl
 | pair a b iha ihb =>
  intro x c c' h hl
  simp only [Lay] at hl ⊢
  refine ⟨iha _ _ _ (fun j hj=>h j (by simp only [Ty.cells];omega)) hl.1,ihb _ _ _ (fun j hj=>h _ (by simp only [Ty.cells];omega)) hl.2⟩

theorem Lay.mono {Z Z':Nat→Prop} {w w':World} (hz:∀ b,Z b→Z' b) (hw:∀ b,Z b→w'.heap[b]? = w.heap[b]?) :
  ∀ (t:Ty) (x:t.den) (c:Nat→Option Value),Lay Z w t x c→Lay Z' w' t x c:=by
 intro t
 induction t with
 | int k=>intro x c h;exact h
 | bool=>intro x c h;exact h
 | str=>intro x c h;exact h
 | sl e ih =>
  intro l c h
  obtain ⟨A,cap,h0,h1,h2⟩:=h
  refine ⟨A,cap,h0,h1,h2.imp id ?_⟩
  rintro ⟨ad,hA,hb,hr⟩
  refine ⟨ad,hA,hz _ hb,fun i x hx=>?_⟩
  refine Lay.congr e x _ _ (fun j hj=>?_) (ih x _ (hr i x hx))
  refine (World.cell?_of_block (w:=w) (w':=w') ?_).symm
  have:(ad.add (i*e.cells+j)).block=ad.block:=by unfold Addr.add;split<;>rfl
  rw [this]
  exact hw _ hb
 | pair a b iha ihb=>intro x c h;exact ⟨iha _ _ h.1,ihb _ _ h.2⟩

theorem Lay.of_flat {Z Z':Nat→Prop} {w w':World}:∀ (t:Ty) (x:t.den) (c:Nat→Option Value),t.flat=true→Lay Z w t x c→Lay Z' w' t x c:=by
 intro t
 induction t with
 | int k=>intro x c _ h;exact h
 | bool=>intro x c _ h;exact h
 | str=>intro x c _ h;exact h
 | sl e ih=>intro l c hf h;simp [Ty.flat] at hf
 | pair a b iha ihb =>
  intro x c hf h
  simp only [Ty.flat,Bool.and_eq_true] at hf
  exact ⟨iha _ _ hf.1 h.1,ihb _ _ hf.2 h.2⟩

theorem Lay.got {Z:Nat→Prop} {w:World}:∀ (t:Ty) (x:t.den) (c:Nat→Option Value),Lay Z w t x c→∀ j,j<t.cells→∃ v,c j=some v∧v.oneCell'=true:=by
  intro t
  induction t with
  | int k => intro x c h j hj; simp only [Ty.cells] at hj; obtain rfl : j = 0 := by omega
             exact ⟨_,h,rfl⟩
  | bool => intro x c h j hj; simp only [Ty.cells] at hj; obtain rfl : j = 0 := by omega
            exact ⟨_,h,rfl⟩
  | str => intro x c h j hj; simp only [Ty.cells] at hj; obtain rfl : j = 0 := by omega
           exact ⟨_,h,rfl⟩
  | sl e ih => intro x c h j hj; simp only [Ty.cells] at hj; obtain rfl : j = 0 := by omega
               obtain ⟨A,cap,h0,_⟩:=h;exact ⟨_,h0,rfl⟩
  | pair a b iha ihb =>
    intro x c h j hj
    simp only [Ty.cells] at hj
    by_cases hlt:j<a.cells
    · exact iha _ _ h.1 j hlt
    · obtain ⟨v,hv,h1⟩:=ihb _ _ h.2 (j - a.cells) (by omega)
      refine ⟨v,?_,h1⟩
      rw [← hv];show c j=c (a.cells+(j - a.cells));congr 1;omega

inductive AV where
 | t (fr:Bool) (ty:Ty) (x:ty.den)
 | raw (v:Value)
 | all (id sz:Nat)
 | arr (id sz lo n:Nat)
 | pre (id sz n:Nat)
 | ptr (id row sz sub:Nat)
 | rop (fr:Bool) (e:Ty) (l:List e.den) (row off:Nat)
 | nest (id row sz off:Nat)
 | agg (cs:List AV)
 | tup (cs:List AV)
 | fn (f:FuncId) (cs:List AV)
 | junk

inductive AObj where
 | box (cs:List AV)
 | rows (E:TypeId) (fr:Bool) (e:Ty) (l:List e.den)
 | deep (E:TypeId) (Es:List TypeId) (e:Ty) (l:List e.den)
 | hole (E:TypeId) (Es:List TypeId) (e:Ty) (l:List e.den) (row off:Nat)
 | dead

structure Env where
 ι:Nat→Nat
 hv:Nat→Value
 ln:Nat→Nat
 Z:Bool→Nat→Prop
 nv:Nat→Nat→Nat→Value
 O:Nat→Option (Nat×Nat×Nat)

inductive AVR (η:Env) (h:Nat) (w:World):AV→Value→Prop where
  | t {fr:Bool} {ty:Ty} {x:ty.den} {v:Value} (h1:ty.cells=1) (hl:Lay (η.Z fr) w ty x (fun j=>if j=0 then some v else none)):AVR η h w (.t fr ty x) v
  | raw (v:Value):AVR η h w (.raw v) v
  | all {id sz:Nat} (hid:id<h):AVR η h w (.all id sz) (η.hv id)
  | arr {id sz lo n cap : Nat} {A : Option Addr} (hid : id < h) (hn : n ≤ cap) (hlo : lo + n ≤ η.ln id) (hA : 0 < n → A = some ⟨η.ι id, lo * sz, none⟩) :
      AVR η h w (.arr id sz lo n) (.slice A n cap)
  | pre {id sz n m cap:Nat} {A:Option Addr} (hid:id<h) (hv:η.hv id=.slice A m cap) (hn:n≤m) (hc:n≤cap):AVR η h w (.pre id sz n) (.slice A n cap)
  | ptr {id row sz sub:Nat} (hid:id<h) (hr:row<η.ln id):AVR η h w (.ptr id row sz sub) (.pointer (some ⟨η.ι id,row*sz+sub,none⟩))
  | rop {fr : Bool} {e : Ty} {l : List e.den} {row off : Nat} {ad : Addr} (hr : row < l.length) (hz : η.Z fr ad.block)
      (hl:∀ i x,l[i]? = some x→Lay (η.Z fr) w e x (fun j=>w.cell? (ad.add (i*e.cells+j)))):AVR η h w (.rop fr e l row off) (.pointer (some (ad.add (row*e.cells+off))))
  | nest {id row sz off:Nat} (hid:id<h) (hr:row<η.ln id):AVR η h w (.nest id row sz off) (η.nv id row off)
  | agg {cs:List AV} {vs:Array Value} (hsz:vs.size=cs.length) (hc:∀ i c,cs[i]? = some c→AVR η h w c (vs.getD i undef)):AVR η h w (.agg cs) (.agg vs)
  | tup {cs:List AV} {vs:Array Value} (hsz:vs.size=cs.length) (hc:∀ i c,cs[i]? = some c→AVR η h w c (vs.getD i undef)):AVR η h w (.tup cs) (.tuple vs)
  | fn {f:FuncId} {cs:List AV} {vs:Array Value} (hsz:vs.size=cs.length) (hc:∀ i c,cs[i]? = some c→AVR η h w c (vs.getD i undef)):AVR η h w (.fn f cs) (.func (.func f) #[] vs)
  | junk (v:Value):AVR η h w .junk v

def AV.kill1 (K:Nat→Bool):AV→AV
 | .all id sz=>if K id then .junk else .all id sz
 | .arr id sz lo n=>if K id then .junk else .arr id sz lo n
 | .pre id sz n=>if K id then .junk else .pre id sz n
 | .ptr id row sz sub=>if K id then .junk else .ptr id row sz sub
 | .nest id row sz off=>if K id then .junk else .nest id row sz off
 | .agg _=>.junk
 | .tup _=>.junk
 | .fn _ _=>.junk
 | a=>a
def AV.kill2 (K:Nat→Bool):AV→AV
 | .agg cs=>.agg (cs.map (AV.kill1 K))
 | a=>a.kill1 K
def AV.kill (K:Nat→Bool):AV→AV
 | .agg cs=>.agg (cs.map (AV.kill1 K))
 | .fn f cs=>.fn f (cs.map (AV.kill1 K))
 | .tup cs=>.tup (cs.map (AV.kill2 K))
 | a=>a.kill1 K

structure Ext (K:Nat→Bool) (η:Env) (h:Nat) (w:World) (η':Env) (h':Nat) (w':World):Prop where
 nm:∀ id,id<h→K id=false→id<h'∧η'.ι id=η.ι id∧η'.hv id=η.hv id∧η'.ln id=η.ln id
 z:∀ f b,η.Z f b→η'.Z f b
 same:∀ f b,η.Z f b→w'.heap[b]? = w.heap[b]?
 zold:∀ b,η'.Z false b→η.Z false b∨η'.Z true b
 nn:∀ id,id<h→K id=false→η'.nv id=η.nv id

theorem Ext.refl {K:Nat→Bool} {η:Env} {h:Nat} {w:World}:Ext K η h w η h w:=⟨fun _ hi _=>⟨hi,rfl,rfl,rfl⟩,fun _ _ hz=>hz,fun _ _ _=>rfl,fun _ h=>.inl h,fun _ _ _=>rfl⟩
theorem Ext.trans {K K' K'':Nat→Bool} {η η' η'':Env} {h h' h'':Nat} {w w' w'':World} (a:Ext K η h w η' h' w') (b:Ext K' η' h' w' η'' h'' w'')
  (hK:∀ id,id<h→K'' id=false→K id=false∧K' id=false):Ext K'' η h w η'' h'' w'':=by
 refine ⟨fun id hi hk=>?_,fun f c hz=>b.z f c (a.z f c hz),fun f c hz=>(b.same f c (a.z f c hz)).trans (a.same f c hz),fun c hz=>(b.zold c hz).elim (fun h=>(a.zold c h).imp (fun h=>h) (b.z true c)) .inr,fun id hi hk=>?_⟩
 rotate_left
 ·obtain ⟨k1,k2⟩:=hK id hi hk
  exact (b.nn id (a.nm id hi k1).1 k2).trans (a.nn id hi k1)
 obtain ⟨k1,k2⟩:=hK id hi hk
 obtain ⟨p1,p2,p3,p4⟩:=a.nm id hi k1
 obtain ⟨q1,q2,q3,q4⟩:=b.nm id p1 k2
 exact ⟨q1,q2.trans p2,q3.trans p3,q4.trans p4⟩

theorem lay_cell_mono {η η':Env} {w w':World} {fr:Bool} (hz:∀ f b,η.Z f b→η'.Z f b) (hw:∀ f b,η.Z f b→w'.heap[b]? = w.heap[b]?) {ty:Ty} {x:ty.den} {c:Nat→Option Value}
  (h:Lay (η.Z fr) w ty x c):Lay (η'.Z fr) w' ty x c:=Lay.mono (hz fr) (hw fr) ty x c h

theorem AVR.kill1 {K:Nat→Bool} {η η':Env} {h h':Nat} {w w':World} (x:Ext K η h w η' h' w') {a:AV} {v:Value} (r:AVR η h w a v):AVR η' h' w' (a.kill1 K) v:=by
 cases r with
 | t h1 hl=>exact .t h1 (lay_cell_mono x.z x.same hl)
 | raw=>exact .raw _
 | @all id sz hid =>
  simp only [AV.kill1]
  cases hk:K id with
  | true=>exact .junk _
  | false=>obtain ⟨p1,p2,p3,p4⟩:=x.nm id hid hk;rw [← p3];exact .all p1
 | @arr id sz lo n cap A hid hn hlo hA =>
  simp only [AV.kill1]
  cases hk:K id with
  | true=>exact .junk _
  | false=>obtain ⟨p1,p2,p3,p4⟩:=x.nm id hid hk;exact .arr p1 hn (by rw [p4];exact hlo) (by rw [p2];exact hA)
 | @pre id sz n m cap A hid hv hn hc =>
  simp only [AV.kill1]
  cases hk:K id with
  | true=>exact .junk _
  | false=>obtain ⟨p1,p2,p3,p4⟩:=x.nm id hid hk;exact .pre p1 (by rw [p3];exact hv) hn hc
 | @ptr id row sz sub hid hr =>
  simp only [AV.kill1]
  cases hk:K id with
  | true=>exact .junk _
  | false=>obtain ⟨p1,p2,p3,p4⟩:=x.nm id hid hk;rw [← p2];exact .ptr p1 (by rw [p4];exact hr)
 | @nest id row sz off hid hr =>
  simp only [AV.kill1]
  cases hk:K id with
  | true=>exact .junk _
  | false=>rw [← x.nn id hid hk];exact .nest (x.nm id hid hk).1 (by rw [(x.nm id hid hk).2.2.2];exact hr)
 | @rop fr e l row off ad hr hz hl =>
  refine .rop hr (x.z _ _ hz) (fun i y hy=>?_)
  refine Lay.congr e y _ _ (fun j hj=>?_) (lay_cell_mono x.z x.same (hl i y hy))
  refine (World.cell?_of_block (w:=w) (w':=w') ?_).symm
  have:(ad.add (i*e.cells+j)).block=ad.block:=by unfold Addr.add;split<;>rfl
  rw [this];exact x.same _ _ hz
 | agg=>exact .junk _
 | tup=>exact .junk _
 | fn=>exact .junk _
 | junk=>exact .junk _

theorem getElem?_map_some {α β:Type} {f:α→β} {l:List α} {i:Nat} {b:β} (h:(l.map f)[i]? = some b):∃ a,l[i]? = some a∧f a=b:=by
 rw [List.getElem?_map] at h
 exact Option.map_eq_some_iff.1 h

theorem AVR.kill2 {K:Nat→Bool} {η η':Env} {h h':Nat} {w w':World} (x:Ext K η h w η' h' w') {a:AV} {v:Value} (r:AVR η h w a v):AVR η' h' w' (a.kill2 K) v:=by
 cases r with
 | agg hsz hc =>
  refine .agg (by simpa using hsz) (fun i c hi=>?_)
  obtain ⟨a,ha,rfl⟩:=getElem?_map_some hi
  exact (hc i a ha).kill1 x
 | t h1 hl=>exact AVR.kill1 x (.t h1 hl)
 | raw=>exact AVR.kill1 x (.raw _)
 | all hid=>exact AVR.kill1 x (.all hid)
 | arr hid hn hlo hA=>exact AVR.kill1 x (.arr hid hn hlo hA)
 | pre hid hv hn hc=>exact AVR.kill1 x (.pre hid hv hn hc)
 | ptr hid hr=>exact AVR.kill1 x (.ptr hid hr)
 | nest hid hr=>exact AVR.kill1 x (.nest hid hr)
 | rop hr hz hl=>exact AVR.kill1 x (.rop hr hz hl)
 | tup hsz hc=>exact AVR.kill1 x (.tup hsz hc)
 | fn hsz hc=>exact AVR.kill1 x (.fn hsz hc)
 | junk=>exact .junk _

theorem AVR.kill {K:Nat→Bool} {η η':Env} {h h':Nat} {w w':World} (x:Ext K η h w η' h' w') {a:AV} {v:Value} (r:AVR η h w a v):AVR η' h' w' (a.kill K) v:=by
 cases r with
 | agg hsz hc =>
  refine .agg (by simpa using hsz) (fun i c hi=>?_)
  obtain ⟨a,ha,rfl⟩:=getElem?_map_some hi
  exact (hc i a ha).kill1 x
 | tup hsz hc =>
  refine .tup (by simpa using hsz) (fun i c hi=>?_)
  obtain ⟨a,ha,rfl⟩:=getElem?_map_some hi
  exact (hc i a ha).kill2 x
 | fn hsz hc =>
  refine .fn (by simpa using hsz) (fun i c hi=>?_)
  obtain ⟨a,ha,rfl⟩:=getElem?_map_some hi
  exact (hc i a ha).kill1 x
 | t h1 hl=>exact AVR.kill1 x (.t h1 hl)
 | raw=>exact AVR.kill1 x (.raw _)
 | all hid=>exact AVR.kill1 x (.all hid)
 | arr hid hn hlo hA=>exact AVR.kill1 x (.arr hid hn hlo hA)
 | pre hid hv hn hc=>exact AVR.kill1 x (.pre hid hv hn hc)
 | ptr hid hr=>exact AVR.kill1 x (.ptr hid hr)
 | nest hid hr=>exact AVR.kill1 x (.nest hid hr)
 | rop hr hz hl=>exact AVR.kill1 x (.rop hr hz hl)
 | junk=>exact .junk _

theorem AVR.ext {η η':Env} {h h':Nat} {w w':World} (x:Ext (fun _=>false) η h w η' h' w') {a:AV} {v:Value} (r:AVR η h w a v):AVR η' h' w' a v:=by
 induction r with
 | agg hsz hc ih=>exact .agg hsz ih
 | tup hsz hc ih=>exact .tup hsz ih
 | fn hsz hc ih=>exact .fn hsz ih
 | t h1 hl=>exact AVR.kill1 x (.t h1 hl)
 | raw=>exact AVR.kill1 x (.raw _)
 | all hid=>exact AVR.kill1 x (.all hid)
 | arr hid hn hlo hA=>exact AVR.kill1 x (.arr hid hn hlo hA)
 | pre hid hv hn hc=>exact AVR.kill1 x (.pre hid hv hn hc)
 | ptr hid hr=>exact AVR.kill1 x (.ptr hid hr)
 | nest hid hr=>exact AVR.kill1 x (.nest hid hr)
 | rop hr hz hl=>exact AVR.kill1 x (.rop hr hz hl)
 | junk=>exact .junk _

def nulV (v:Value):Prop:=∃ A,v=.slice A 0 0
theorem not_nul {v:Value} {A:Option Addr} {n cap:Nat} (h:v=.slice A n cap) (hc:0<cap):¬ nulV v:=by
 rintro ⟨B,e⟩;rw [h] at e;cases e;exact absurd hc (by simp)
theorem nul_nil:nulV (.slice none 0 0):=⟨none,rfl⟩
def Ty.slices:Ty→Nat
 | .sl _=>1
 | .pair a b=>a.slices+b.slices
 | _=>0
def Own (η:Env) (w:World) (id row:Nat):(t:Ty)→List TypeId→Nat→t.den→(Nat→Option Value)→Prop
  | .int k,_,_,x,c=>c 0=some (.int k x)
  | .bool,_,_,x,c=>c 0=some (.bool x)
  | .str,_,_,x,c=>c 0=some (.string x)
  | .sl e, Es, off, l, c => c 0 = some (η.nv id row off) ∧ ((nulV (η.nv id row off) ∧ l = []) ∨ e.flat = true ∧
      ∃ b d cap,η.nv id row off=.slice (some ⟨b,0,none⟩) l.length cap∧η.O b=some (id,row,off)∧w.heap[b]? = some (.cells d (Es.headD 0) (0,0))∧l.length≤cap∧(0<cap∧cap≤maxLen)∧d.size=cap*e.cells ∧
        ∀ i x,l[i]? = some x→Lay (η.Z true) w e x (fun j=>d[i*e.cells+j]?))
  | .pair a b,Es,off,x,c=>Own η w id row a (Es.take a.slices) off x.1 c∧Own η w id row b (Es.drop a.slices) (off+a.cells) x.2 (fun j=>c (a.cells+j))
def Env.holeAt (η:Env) (id row off:Nat):Env:={ η with nv:=fun i r o=>if i=id∧r=row∧o=off then .slice none 0 0 else η.nv i r o }
theorem holeAt_eq {η η':Env} {id j row off:Nat} (h:η'.nv j=η.nv id):(η'.holeAt j row off).nv j=(η.holeAt id row off).nv id:=by
 funext r o
 simp [Env.holeAt,h]
def ObjR (η:Env) (h:Nat) (w:World) (id:Nat):AObj→Prop
  | .dead=>True
  | .box cs=>η.ln id=1∧∃ c E,w.heap[η.ι id]? = some (.cells c E (0,0))∧c.size=cs.length∧∀ j a,cs[j]? = some a→AVR η h w a (c.getD j undef)∧(c.getD j undef).oneCell'=true
  | .rows E fr e l => η.ln id = l.length ∧ ((nulV (η.hv id) ∧ l = []) ∨
      ∃ c cap,η.hv id=.slice (some ⟨η.ι id,0,none⟩) l.length cap∧w.heap[η.ι id]? = some (.cells c E (0,0))∧l.length≤cap∧(0<cap∧cap≤maxLen)∧c.size=cap*e.cells ∧
        ∀ i x,l[i]? = some x→Lay (η.Z fr) w e x (fun j=>c[i*e.cells+j]?))
  | .deep E Es e l => η.ln id = l.length ∧ ((nulV (η.hv id) ∧ l = []) ∨
      ∃ c cap,η.hv id=.slice (some ⟨η.ι id,0,none⟩) l.length cap∧w.heap[η.ι id]? = some (.cells c E (0,0))∧l.length≤cap∧(0<cap∧cap≤maxLen)∧c.size=cap*e.cells ∧
        ∀ i x,l[i]? = some x→Own η w id i e Es 0 x (fun j=>c[i*e.cells+j]?))
  | .hole E Es e l row off => η.ln id = l.length ∧ ∃ c cap, η.hv id = .slice (some ⟨η.ι id, 0, none⟩) l.length cap ∧ w.heap[η.ι id]? = some (.cells c E (0, 0)) ∧ l.length ≤ cap ∧ (0 < cap ∧ cap ≤ maxLen) ∧ c.size = cap * e.cells ∧
        ∀ i x,l[i]? = some x→Own (η.holeAt id row off) w id i e Es 0 x (fun j=>if i=row∧j=off then some (.slice none 0 0) else c[i*e.cells+j]?)

def AObj.mat (η:Env) (id:Nat):AObj→Prop
 | .dead=>False
 | .box _=>True
 | .rows ..=>¬ nulV (η.hv id)
 | .deep ..=>¬ nulV (η.hv id)
 | .hole ..=>¬ nulV (η.hv id)

structure Fr (N:Nat→Prop) (w0 w:World):Prop where
 os:w.os=w0.os
 tape:w.tape=w0.tape
 output:w.output=w0.output
 size:w0.heap.size≤w.heap.size
 block:∀ k,N k→w.heap[k]? = w0.heap[k]?

structure Inv (N:Nat→Prop) (w0:World) (η:Env) (H:List AObj) (w:World):Prop where
 nlt:∀ k,N k→k<w0.heap.size
 fr:Fr N w0 w
 zlt:∀ f b,η.Z f b→b<w.heap.size
 zsub:∀ b,η.Z true b→η.Z false b
 znew:∀ b,η.Z true b→¬ N b
 hvs:∀ id,∃ A n c,η.hv id=.slice A n c
 obj:∀ id o,H[id]? = some o→ObjR η H.length w id o
 own:∀ id o,H[id]? = some o→o.mat η id→¬ N (η.ι id)∧¬ η.Z false (η.ι id)∧η.ι id<w.heap.size
 inj:∀ id id' o o', H[id]? = some o→H[id']? = some o'→o.mat η id→o'.mat η id'→η.ι id=η.ι id'→id=id'
 dep:∀ b k,η.O b=some k→¬ N b∧¬ η.Z false b∧b<w.heap.size∧∀ id o,H[id]? = some o→o.mat η id→η.ι id ≠ b
 nvs:∀ id r o,∃ A n c,η.nv id r o=.slice A n c

theorem Inv.zfalse {N:Nat→Prop} {w0:World} {η:Env} {H:List AObj} {w:World} (I:Inv N w0 η H w) {f:Bool} {b:Nat} (h:η.Z f b):η.Z false b:=by
 cases f with
 | false=>exact h
 | true=>exact I.zsub b h

abbrev DF:=Inhabited (List Deferred)
structure SlotsR [DF] (η:Env) (h:Nat) (w:World) (ss:List AV) (a:Act):Prop where
 size:a.tmps.size=ss.length
 slot:∀ i c,ss[i]? = some c→AVR η h w c (a.tmps.getD i undef)
 defers:a.defers=default
end Go.Proofs.Ytccelbeahdcooaa.Eng
