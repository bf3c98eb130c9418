/- The engine, part 34: names anew. -/
import Derived.Test.YtccelbeahdcooaaE23
namespace Go.Proofs.Ytccelbeahdcooaa.Eng
open Go Go.RowKit
set_option linter.unusedSimpArgs false
set_option linter.unusedVariables false

def AV.ren1 (f:Nat→Option Nat):AV→AV
 | .all id sz=>match f id with
  | some j=>.all j sz
  | none=>.junk
 | .arr id sz lo n=>match f id with
  | some j=>.arr j sz lo n
  | none=>.junk
 | .pre id sz n=>match f id with
  | some j=>.pre j sz n
  | none=>.junk
 | .ptr id row sz sub=>match f id with
  | some j=>.ptr j row sz sub
  | none=>.junk
 | .nest id row sz off=>match f id with
  | some j=>.nest j row sz off
  | none=>.junk
 | .agg _=>.junk
 | .tup _=>.junk
 | .fn _ _=>.junk
 | a=>a
def AV.ren2 (f:Nat→Option Nat):AV→AV
 | .agg cs=>.agg (cs.map (AV.ren1 f))
 | a=>a.ren1 f
def AV.ren (f:Nat→Option Nat):AV→AV
 | .agg cs=>.agg (cs.map (AV.ren1 f))
 | .fn g cs=>.fn g (cs.map (AV.ren1 f))
 | .tup cs=>.tup (cs.map (AV.ren2 f))
 | a=>a.ren1 f
def AObj.ren (f:Nat→Option Nat):AObj→AObj
 | .box cs=>.box (cs.map (AV.ren1 f))
 | o=>o

structure Rn (f:Nat→Option Nat) (η:Env) (h:Nat) (w:World) (η':Env) (h':Nat) (w':World):Prop where
 nm:∀ id j,f id=some j→id<h→j<h'∧η'.ι j=η.ι id∧η'.hv j=η.hv id∧η'.ln j=η.ln id
 z:∀ fr b,η.Z fr b→η'.Z fr b
 same:∀ fr b,η.Z fr b→w'.heap[b]? = w.heap[b]?
 nn:∀ id j,f id=some j→id<h→η'.nv j=η.nv id

section
variable {P:Program} {N:Nat→Prop} {w0:World} {η η':Env} {h h':Nat} {w w':World} {f:Nat→Option Nat}

theorem AVR.ren1 (x:Rn f η h w η' h' w') {a:AV} {v:Value} (r:AVR η h w a v):AVR η' h' w' (a.ren1 f) v:=by
 cases r with
 | t h1 hl=>exact .t h1 (lay_cell_mono x.z x.same hl)
 | raw=>exact .raw _
 | @all id sz hid =>
  simp only [AV.ren1]
  cases hf:f id with
  | none=>exact .junk _
  | some j=>obtain ⟨p1,p2,p3,p4⟩:=x.nm id j hf hid;simp only [];rw [← p3];exact .all p1
 | @arr id sz lo n cap A hid hn hlo hA =>
  simp only [AV.ren1]
  cases hf:f id with
  | none=>exact .junk _
  | some j=>obtain ⟨p1,p2,p3,p4⟩:=x.nm id j hf hid;exact .arr p1 hn (by rw [p4];exact hlo) (by rw [p2];exact hA)
 | @pre id sz n m cap A hid hv hn hc =>
  simp only [AV.ren1]
  cases hf:f id with
  | none=>exact .junk _
  | some j=>obtain ⟨p1,p2,p3,p4⟩:=x.nm id j hf hid;exact .pre p1 (by rw [p3];exact hv) hn hc
 | @ptr id row sz sub hid hr =>
  simp only [AV.ren1]
  cases hf:f id with
  | none=>exact .junk _
  | some j=>obtain ⟨p1,p2,p3,p4⟩:=x.nm id j hf hid;simp only [];rw [← p2];exact .ptr p1 (by rw [p4];exact hr)
 | @nest id row sz off hid hr =>
  simp only [AV.ren1]
  cases hf:f id with
  | none=>exact .junk _
  | some j=>simp only [];rw [← x.nn id j hf hid];exact .nest (x.nm id j hf hid).1 (by rw [(x.nm id j hf hid).2.2.2];exact hr)
 | @rop fr e l row off ad hr hz hl =>
  refine .rop hr (x.z _ _ hz) (fun i y hy=>?_)
  refine Lay.congr e y _ _ (fun j hj=>?_) (lay_cell_mono x.z x.same (hl i y hy))
  refine (World.cell?_of_block (w:=w) (w':=w') ?_).symm
  have:(ad.add (i*e.cells+j)).block=ad.block:=by unfold Addr.add;split<;>rfl
  rw [this];exact x.same _ _ hz
 | agg=>exact .junk _
 | tup=>exact .junk _
 | fn=>exact .junk _
 | junk=>exact .junk _

theorem AVR.ren2 (x:Rn f η h w η' h' w') {a:AV} {v:Value} (r:AVR η h w a v):AVR η' h' w' (a.ren2 f) v:=by
 cases r with
 | agg hsz hc =>
  refine .agg (by simpa using hsz) (fun i c hi=>?_)
  obtain ⟨a,ha,rfl⟩:=getElem?_map_some hi
  exact (hc i a ha).ren1 x
 | t h1 hl=>exact AVR.ren1 x (.t h1 hl)
 | raw=>exact AVR.ren1 x (.raw _)
 | all hid=>exact AVR.ren1 x (.all hid)
 | arr hid hn hlo hA=>exact AVR.ren1 x (.arr hid hn hlo hA)
 | pre hid hv hn hc=>exact AVR.ren1 x (.pre hid hv hn hc)
 | ptr hid hr=>exact AVR.ren1 x (.ptr hid hr)
 | nest hid hr=>exact AVR.ren1 x (.nest hid hr)
 | rop hr hz hl=>exact AVR.ren1 x (.rop hr hz hl)
 | tup hsz hc=>exact AVR.ren1 x (.tup hsz hc)
 | fn hsz hc=>exact AVR.ren1 x (.fn hsz hc)
 | junk=>exact .junk _

theorem AVR.ren (x:Rn f η h w η' h' w') {a:AV} {v:Value} (r:AVR η h w a v):AVR η' h' w' (a.ren f) v:=by
 cases r with
 | agg hsz hc =>
  refine .agg (by simpa using hsz) (fun i c hi=>?_)
  obtain ⟨a,ha,rfl⟩:=getElem?_map_some hi
  exact (hc i a ha).ren1 x
 | tup hsz hc =>
  refine .tup (by simpa using hsz) (fun i c hi=>?_)
  obtain ⟨a,ha,rfl⟩:=getElem?_map_some hi
  exact (hc i a ha).ren2 x
 | fn hsz hc =>
  refine .fn (by simpa using hsz) (fun i c hi=>?_)
  obtain ⟨a,ha,rfl⟩:=getElem?_map_some hi
  exact (hc i a ha).ren1 x
 | t h1 hl=>exact AVR.ren1 x (.t h1 hl)
 | raw=>exact AVR.ren1 x (.raw _)
 | all hid=>exact AVR.ren1 x (.all hid)
 | arr hid hn hlo hA=>exact AVR.ren1 x (.arr hid hn hlo hA)
 | pre hid hv hn hc=>exact AVR.ren1 x (.pre hid hv hn hc)
 | ptr hid hr=>exact AVR.ren1 x (.ptr hid hr)
 | nest hid hr=>exact AVR.ren1 x (.nest hid hr)
 | rop hr hz hl=>exact AVR.ren1 x (.rop hr hz hl)
 | junk=>exact .junk _

theorem ObjR.ren (x:Rn f η h w η' h' w') {id j:Nat} (hid:id<h) (hf:f id=some j) {o:AObj} (hb:o.mat η id→w'.heap[η.ι id]? = w.heap[η.ι id]?) (r:ObjR η h w id o)
  (hO:True∧∀ b r o,η.O b=some (id,r,o)→η'.O b=some (j,r,o)∧w'.heap[b]? = w.heap[b]?):ObjR η' h' w' j (o.ren f):=by
 obtain ⟨p1,p2,p3,p4⟩:=x.nm id j hf hid
 cases o with
 | dead=>trivial
 | box cs =>
  obtain ⟨hl,c,E,hc,hs,hr⟩:=r
  refine ⟨p4.trans hl,c,E,by rw [p2,hb trivial];exact hc,by simpa using hs,fun k a ha=>?_⟩
  obtain ⟨b,hb', rfl⟩:=getElem?_map_some ha
  exact ⟨(hr k b hb').1.ren1 x,(hr k b hb').2⟩
 | rows E fr e l =>
  obtain ⟨hl,hr⟩:=r
  refine ⟨p4.trans hl,?_⟩
  rcases hr with ⟨q1,q2⟩ | ⟨c,cap,q1,q2,q3,q4,q5,q6⟩
  ·exact .inl ⟨by rw [p3];exact q1,q2⟩
  ·refine .inr ⟨c,cap,by rw [p3,p2];exact q1,?_,q3,q4,q5,fun i y hy=>lay_cell_mono x.z x.same (q6 i y hy)⟩
   rw [p2,hb (not_nul q1 q4.1)];exact q2
 | deep E Es e l =>
  obtain ⟨hl,hr⟩:=r
  refine ⟨p4.trans hl,?_⟩
  rcases hr with ⟨q1,q2⟩ | ⟨c,cap,q1,q2,q3,q4,q5,q6⟩
  ·exact .inl ⟨by rw [p3];exact q1,q2⟩
  ·refine .inr ⟨c,cap,by rw [p3,p2];exact q1,?_,q3,q4,q5,fun i y hy=>Own.ren (x.nn id j hf hid) hO.2 _ _ _ _ _ (q6 i y hy)⟩
   rw [p2,hb (not_nul q1 q4.1)];exact q2
 | hole E Es e l row off =>
  obtain ⟨hl,c,cap,q1,q2,q3,q4,q5,q6⟩:=r
  refine ⟨p4.trans hl,c,cap,by rw [p3,p2];exact q1,?_,q3,q4,q5,fun i y hy=>Own.ren (η:=η.holeAt id row off) (η':=η'.holeAt j row off) (holeAt_eq (x.nn id j hf hid)) hO.2 _ _ _ _ _ (q6 i y hy)⟩
  rw [p2,hb (not_nul q1 q4.1)];exact q2

def pos:List Nat→Nat→Option Nat
 | [],_=>none
 | i::r,id=>cond (i==id) (some 0) ((pos r id).map (·+1))
def nodupB:List Nat→Bool
 | []=>true
 | i::r=>!r.contains i&&nodupB r
theorem pos_get:∀ (is:List Nat) (id j:Nat),pos is id=some j→is[j]? = some id:=by
 intro is
 induction is with
 | nil=>intro id j h;simp [pos] at h
 | cons i r ih =>
  intro id j h
  simp only [pos] at h
  cases hb:(i==id) with
  | true =>
   rw [hb] at h
   obtain rfl:0=j:=by simpa using h
   simp [eq_of_beq hb]
  | false =>
   rw [hb] at h
   obtain ⟨k,hk,rfl⟩:=Option.map_eq_some_iff.1 h
   simpa using ih id k hk
theorem pos_of:∀ (is:List Nat) (id j:Nat),nodupB is=true→is[j]? = some id→pos is id=some j:=by
 intro is
 induction is with
 | nil=>intro id j _ h;simp at h
 | cons i r ih =>
  intro id j hn h
  simp only [nodupB,Bool.and_eq_true,Bool.not_eq_true'] at hn
  simp only [pos]
  cases j with
  | zero =>
   obtain rfl:i=id:=by simpa using h
   simp
  | succ j =>
   have h:r[j]? = some id:=by simpa using h
   have hne:(i==id)=false:=by
    rw [beq_eq_false_iff_ne];intro e;subst e
    have:=List.mem_of_getElem? h
    simp [this] at hn
   rw [hne,ih id j hn.2 h];rfl

theorem mat_ren {f:Nat→Option Nat} {o:AObj} {η:Env} {i:Nat}:(o.ren f).mat η i↔o.mat η i:=by cases o<;>exact Iff.rfl
theorem mat_congr {o:AObj} {η η':Env} {i j:Nat} (h:η.hv i=η'.hv j):o.mat η i↔o.mat η' j:=by
 cases o with
 | rows=>simp only [AObj.mat,h]
 | deep=>simp only [AObj.mat,h]
 | hole=>simp only [AObj.mat,h]
 | _=>exact Iff.rfl


def St.compact (keep:List Nat) (st:St):St :=
 let ss:=keepOnly keep 0 st.slots
 let l:=ss.flatMap namesOf
 let is:=dedup [] (List.range st.base++l++(l++List.range st.base).flatMap fun (i:Nat)=>match (st.heap[i]?:Option AObj) with
  | some (.box cs)=>cs.flatMap namesOf1
  | _=>[])
 if nodupB is&&is.all (fun i=>decide (i<st.heap.length))&&(List.range st.base).all (fun i=>is[i]?==some i) then
  { slots:=ss.map (AV.ren (pos is)),heap:=is.map fun i=>(st.heap.getD i .dead).ren (pos is),base:=st.base,killed:=st.killed }
 else { slots:=ss.map fun _=>.junk,heap:=st.heap,base:=st.base,killed:=st.killed }

theorem SR.compactZ [DF] {η0:Env} {h0:Nat} {we:World} {st:St} {a:Act} (s:SR N w0 η0 h0 we η st a w) (keep:List Nat):∃ η', SR N w0 η0 h0 we η' (st.compact keep) a w∧η'.Z=η.Z:=by
 simp only [St.compact]
 generalize dedup [] (List.range st.base++(keepOnly keep 0 st.slots).flatMap namesOf++((keepOnly keep 0 st.slots).flatMap namesOf++List.range st.base).flatMap fun (i:Nat)=>match (st.heap[i]?:Option AObj) with
  | some (.box cs)=>cs.flatMap namesOf1
  | _=>[])=is
 have slot:∀ i c,(keepOnly keep 0 st.slots)[i]? = some c→AVR η st.heap.length w c (a.tmps.getD i undef):=fun i c hc=>by
  rcases keepOnly_get keep st.slots 0 i c hc with rfl | hc
  ·exact .junk _
  ·exact s.sl.slot i c hc
 split
 ·rename_i hchk
  simp only [Bool.and_eq_true,List.all_eq_true,decide_eq_true_eq,beq_iff_eq,List.mem_range] at hchk
  obtain ⟨⟨hnd,hlt⟩,hbase⟩:=hchk
  have I:=s.inv
  let ηs:Env:=⟨fun j=>η.ι (is.getD j 0),fun j=>η.hv (is.getD j 0),fun j=>η.ln (is.getD j 0),η.Z,fun j=>η.nv (is.getD j 0),fun b=>(η.O b).bind fun k=>(pos is k.1).map fun j=>(j,k.2)⟩
  have hgetD:∀ {j id:Nat},is[j]? = some id→is.getD j 0=id:=fun {j id} hj=>by simp [List.getD_eq_getElem?_getD,hj]
  have hsg:∀ {j:Nat} {o:AObj},(is.map fun i=>(st.heap.getD i .dead).ren (pos is))[j]? = some o→∃ id o0,is[j]? = some id∧st.heap[id]? = some o0∧o=o0.ren (pos is):=by
   intro j o ho
   obtain ⟨id,h1,h2⟩:=getElem?_map_some ho
   have:=hlt id (List.mem_of_getElem? h1)
   refine ⟨id,st.heap[id],h1,List.getElem?_eq_getElem this,?_⟩
   rw [← h2,List.getD_eq_getElem?_getD,List.getElem?_eq_getElem this];rfl
  have xs:Rn (pos is) η st.heap.length w ηs is.length w:=by
   refine ⟨fun id j hp hid=>?_,fun _ _ hz=>hz,fun _ _ _=>rfl,fun id j hp hid=>?_⟩
   rotate_left
   ·have hj:=pos_get is id j hp
    simp only [ηs,hgetD hj]
   have hj:=pos_get is id j hp
   have:=(List.getElem?_eq_some_iff.1 hj).1
   exact ⟨this,by simp only [ηs,hgetD hj],by simp only [ηs,hgetD hj],by simp only [ηs,hgetD hj]⟩
  refine ⟨ηs,?_,rfl⟩
  refine ⟨⟨I.nlt,I.fr,I.zlt,I.zsub,I.znew,fun j=>I.hvs _,fun j o ho=>?_,fun j o ho hm=>?_,fun i j y z hy hz my mz he=>?_,fun b k hb=>?_,fun id r o=>I.nvs _ _ _⟩,⟨fun id hid hk=>?_,s.ext.z,s.ext.same,s.ext.zold,fun id hid hk=>?_⟩,⟨?_,fun i c hc=>?_,s.sl.defers⟩,s.base⟩
  ·obtain ⟨id,o0,h1,h2,rfl⟩:=hsg ho
   rw [List.length_map]
   exact (I.obj id o0 h2).ren xs (hlt id (List.mem_of_getElem? h1)) (pos_of is id j hnd h1) (fun _=>rfl) ⟨trivial,fun b r o hb=>⟨by simp only [ηs,hb,Option.bind_some,pos_of is id j hnd h1,Option.map_some],rfl⟩⟩
  ·obtain ⟨id,o0,h1,h2,rfl⟩:=hsg ho
   have hm0:o0.mat η id:=(mat_congr (by simp only [ηs,hgetD h1])).1 (mat_ren.1 hm)
   obtain ⟨a1,a2,a3⟩:=I.own id o0 h2 hm0
   simp only [ηs,hgetD h1]
   exact ⟨a1,a2,a3⟩
  ·obtain ⟨id,o0,h1,h2,rfl⟩:=hsg hy
   obtain ⟨id', o1,h3,h4,rfl⟩:=hsg hz
   have m0:o0.mat η id:=(mat_congr (by simp only [ηs,hgetD h1])).1 (mat_ren.1 my)
   have m1:o1.mat η id':=(mat_congr (by simp only [ηs,hgetD h3])).1 (mat_ren.1 mz)
   simp only [ηs,hgetD h1,hgetD h3] at he
   have:=I.inj id id' o0 o1 h2 h4 m0 m1 he
   subst this
   have e1:=pos_of is id i hnd h1
   have e2:=pos_of is id j hnd h3
   rw [e1] at e2
   exact Option.some.inj e2
  ·simp only [ηs] at hb
   obtain ⟨k0,hk0,_⟩:=Option.bind_eq_some_iff.1 hb
   obtain ⟨d1,d2,d3,d4⟩:=I.dep b k0 hk0
   refine ⟨d1,d2,d3,fun j o ho hm=>?_⟩
   obtain ⟨id,o0,h1,h2,rfl⟩:=hsg ho
   have hm0:o0.mat η id:=(mat_congr (by simp only [ηs,hgetD h1])).1 (mat_ren.1 hm)
   simp only [ηs,hgetD h1]
   exact d4 id o0 h2 hm0
  ·obtain ⟨p1,p2,p3,p4⟩:=s.ext.nm id hid hk
   have hb:=hbase id (by rw [s.base];exact hid)
   have:=(List.getElem?_eq_some_iff.1 hb).1
   simp only [ηs,hgetD hb,List.length_map]
   exact ⟨this,p2,p3,p4⟩
  ·have hb:=hbase id (by rw [s.base];exact hid)
   simp only [ηs,hgetD hb]
   exact s.ext.nn id hid hk
  ·simp [keepOnly_length,s.sl.size]
  ·obtain ⟨y,hy,rfl⟩:=getElem?_map_some hc
   rw [List.length_map]
   exact (slot i y hy).ren xs
 ·refine ⟨η,⟨s.inv,s.ext,⟨by simp [keepOnly_length,s.sl.size],fun i c hc=>?_,s.sl.defers⟩,s.base⟩,rfl⟩
  obtain ⟨y,_,rfl⟩:=getElem?_map_some hc
  exact .junk _
theorem SR.compact [DF] {η0:Env} {h0:Nat} {we:World} {st:St} {a:Act} (s:SR N w0 η0 h0 we η st a w) (keep:List Nat):∃ η', SR N w0 η0 h0 we η' (st.compact keep) a w:=by
 obtain ⟨η', s', _⟩:=s.compactZ keep
 exact ⟨η', s'⟩
end
end Go.Proofs.Ytccelbeahdcooaa.Eng
