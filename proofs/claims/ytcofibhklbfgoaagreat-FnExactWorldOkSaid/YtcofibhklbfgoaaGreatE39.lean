/- The engine, part 39: the library's sort of numbers and its compacting, as contracts on objects. -/
import Derived.Test.YtcofibhklbfgoaaGreatE38
import Derived.Sort.Grow
import Derived.Lib.SlicesCompact
import Derived.Lib.RowBridge
namespace Go.Proofs.YtcofibhklbfgoaaGreat.Eng
open Go Go.RowKit
open Go.Sort hiding ahead
set_option linter.unusedSimpArgs false
set_option linter.unusedVariables false

def A2S:Int→Value:=Value.int .i64
theorem A3r {w:World} {b:Nat} {c:Array Value} {E:TypeId} {f:Nat×Nat} (hb:w.heap[b]? = some (.cells c E f)) (d:Array Int):putRow A2S w b 0 d=w.setRow b (putCells A2S 0 d c):=by
 unfold putRow mapBlock World.setRow
 congr 1
 apply Array.ext_getElem?
 intro k
 simp only [Array.getElem?_modify]
 by_cases hk:b=k
 ·subst hk
  simp only [if_true,hb,Option.map_some,onCells]
 ·simp [hk]
theorem A34 {d:List Int} {c:Array Value} {i:Nat} {x:Int} (hx:d[i]? = some x) (hi:i<c.size):(putCells A2S 0 d.toArray c)[i]? = some (.int .i64 x):=by
 have hlt:i<d.length:=(List.getElem?_eq_some_iff.1 hx).1
 simp only [putCells,Array.getElem?_mapIdx,Array.getElem?_eq_getElem hi,Option.map_some]
 rw [if_pos ⟨Nat.zero_le _,by simpa using hlt⟩,Nat.sub_zero]
 have:d.toArray[i]! = x:=by
  have h:=(List.getElem?_eq_some_iff.1 hx).2
  rw [getElem!_pos d.toArray i (by simpa using hlt)]
  simpa using h
 rw [this];rfl

section
variable {P:Program} {N:Nat→Prop} {w0:World} {η:Env} {w:World}

theorem Inv.putInts {H:List AObj} (I:Inv N w0 η H w) {id:Nat} {E:TypeId} {fr:Bool} {l:List Int} (ho:H[id]? = some (.rows E fr (.int .i64) l)) {c:Array Value} {cap:Nat} (hv:η.hv id=.slice (some ⟨η.ι id,0,none⟩) l.length cap)
  (hb:w.heap[η.ι id]? = some (.cells c E (0,0))) (hle:l.length≤cap) (hcap:0<cap∧cap≤maxLen) (hsz:c.size=cap*1) (d:List Int) (hd:d.length=l.length) (n:Nat) (os:Array Obj) :
  Inv N w0 η (H.set id (.rows E fr (.int .i64) d)) (Go.Sort.grow (putRow A2S (Sort.ahead w n) (η.ι id) 0 d.toArray) os)∧∀ h,Ext NoK η h w η h (Go.Sort.grow (putRow A2S (Sort.ahead w n) (η.ι id) 0 d.toArray) os):=by
 have b1:Below w.heap.size w (Sort.ahead w n):=⟨rfl,rfl,rfl,Nat.le_refl _,fun k _=>rfl⟩
 obtain ⟨I1,x1⟩:=I.grow b1
 have hb1:(Sort.ahead w n).heap[η.ι id]? = some (.cells c E (0,0)):=hb
 rw [A3r hb1]
 have hln:η.ln id=l.length:=(A0R I ho).1
 have J:=I1.setRow (o:=.rows E fr (.int .i64) l) (o':=.rows E fr (.int .i64) d) ho (H3 hv hcap.1) (putCells A2S 0 d.toArray c) (fun _=>by
  refine ⟨by rw [hln,hd],.inr ⟨_,cap,by rw [hd];exact hv,setRow_heap _ _ c _ E _ hb1,by omega,hcap,by simp [putCells,hsz,Ty.cells],fun i x hx=>?_⟩⟩
  have hlt:i<d.length:=(List.getElem?_eq_some_iff.1 hx).1
  have:=A34 (c:=c) hx (by rw [hsz];omega)
  simp only [Lay,Ty.cells,Nat.mul_one,Nat.add_zero]
  exact this) (fun _ _ h=>h)
 have b2:Below ((Sort.ahead w n).setRow (η.ι id) (putCells A2S 0 d.toArray c)).heap.size ((Sort.ahead w n).setRow (η.ι id) (putCells A2S 0 d.toArray c)) (Go.Sort.grow ((Sort.ahead w n).setRow (η.ι id) (putCells A2S 0 d.toArray c)) os) :=
  ⟨rfl,rfl,rfl,by simp [Go.Sort.grow],fun k hk=>heap_grow_old _ _ hk⟩
 obtain ⟨I3,x3⟩:=J.1.grow b2
 exact ⟨I3,fun h=>((x1 h).trans (J.2 h) (fun _ _ h=>⟨h,h⟩)).trans (x3 h) (fun _ _ h=>⟨h,h⟩)⟩

theorem A2Z {b:Nat} {c:Array Value} {E:TypeId} {l:List Int} (hb:w.heap[b]? = some (.cells c E (0,0))) (hl:∀ (i:Nat) (x:Int),l[i]? = some x→c[i]? = some (.int .i64 x)):Holds A2S w b 0 l.toArray:=by
 intro j hj
 have hj':j<l.length:=by simpa using hj
 have h:=hl j l[j] (List.getElem?_eq_getElem hj')
 refine ⟨?_,by simp [World.frozen?,hb]⟩
 rw [Nat.zero_add]
 simp only [World.cell?,hb]
 have e:l.toArray[j]! = l[j]:=by rw [getElem!_pos l.toArray j hj];simp
 simp [h,A2S,e]

def A46 (l:List Int):List Int:=l.mergeSort fun x y=>decide (x≤y)
def A47:Summ:=fun args H=>match args,H with
 | [.all 0 1],[.rows E fr (.int .i64) l]=>some (.tup [],[.rows E fr (.int .i64) (A46 l)],[],decide (l.length<4611686018427387904))
 | _,_=>none
def A2Q:Summ:=fun args H=>match args,H with
 | [.all 0 1],[.rows E fr (.int .i64) l]=>some (.arr 0 1 0 (Lib.compact l).length,[.rows E fr (.int .i64) (Lib.compact l++List.replicate (l.length - (Lib.compact l).length) 0)],[],decide (l.length<4611686018427387904))
 | _,_=>none

theorem MContract.sortInt {f:FuncId} (h0:∀ (p:Option Addr) (cap:Nat) (w:World),Calls P f #[.slice p 0 cap] w fun e w'=>e=.returned (.tuple #[])∧w'=w)
  (h1:∀ (blk off cap:Nat) (zs:List Int) (w:World),Holds (Value.int .i64) w blk off zs.toArray→blk<w.heap.size→zs.length<4611686018427387904→Calls P f #[.slice (some ⟨blk,off,none⟩) zs.length cap] w fun e w' =>
   e=.returned (.tuple #[])∧∃ n os,w'=Go.Sort.grow (putRow (Value.int .i64) (Sort.ahead w n) blk off (zs.mergeSort fun x y=>decide (x≤y)).toArray) os):MContract P f A47:=by
 intro args H r H' Kf hs N w0 η w vs I hsz hr
 unfold A47 at hs
 split at hs
 ·rename_i E fr l
  simp only [Option.some.injEq,Prod.mk.injEq,decide_eq_true_eq] at hs
  obtain ⟨rfl,rfl,rfl,hl⟩:=hs
  have hv0:=hr 0 (.all 0 1) rfl
  have evs:vs=#[vs.getD 0 undef]:=by
   apply Array.ext_getElem?
   intro k
   cases k with
   | zero=>simp [Array.getD,show 0<vs.size by rw [hsz];decide]
   | succ k=>rw [Array.getElem?_eq_none (by rw [hsz];simp),Array.getElem?_eq_none (by simp)]
  generalize hu:vs.getD 0 undef=u at hv0 evs
  have hho:([.rows E fr (.int .i64) l]:List AObj)[0]? = some (.rows E fr (.int .i64) l):=rfl
  cases hv0 with
  | all hid =>
   obtain ⟨hln,hob⟩:=I.obj 0 _ hho
   rcases hob with ⟨⟨A,hA⟩,rfl⟩ | ⟨c,cap,g1,g2,g3,g4,g5,g6⟩
   ·rw [evs,hA]
    refine (h0 A 0 w).mono ?_
    rintro e w' ⟨rfl,rfl⟩
    exact ⟨_,η,rfl,by simpa [A46] using I,Ext.refl.trans Ext.refl (fun _ _ h=>⟨h,h⟩),.tup (vs:=#[]) rfl (fun i c hc=>by simp at hc)⟩
   ·rw [evs,g1]
    have hH:Holds (Value.int .i64) w (η.ι 0) 0 l.toArray:=A2Z g2 (fun i x hx=>by have:=g6 i x hx;simpa [Lay,Ty.cells] using this)
    refine (h1 (η.ι 0) 0 cap l w hH (Array.getElem?_eq_some_iff.1 g2).1 hl).mono ?_
    rintro e w' ⟨rfl,n,os,rfl⟩
    obtain ⟨J,x⟩:=I.putInts hho g1 g2 g3 g4 g5 (A46 l) (by simp [A46]) n os
    exact ⟨_,η,rfl,J,x _,.tup (vs:=#[]) rfl (fun i c hc=>by simp at hc)⟩
 ·cases hs
theorem MContract.compactInt {f:FuncId} (h0:∀ (p:Option Addr) (cap:Nat) (w:World),Calls P f #[.slice p 0 cap] w fun e w'=>e=.returned (.slice p 0 cap)∧w'=w)
  (h1:∀ (blk off cap:Nat) (zs:List Int) (w:World),Holds (Value.int .i64) w blk off zs.toArray→zs.length≤9223372036854775807→zs.length≤cap→Calls P f #[.slice (some ⟨blk,off,none⟩) zs.length cap] w fun e w' =>
   e=.returned (.slice (some ⟨blk,off,none⟩) (Lib.compact zs).length cap)∧∃ q,w'=putRow (Value.int .i64) (Sort.ahead w q) blk off (Lib.compact zs++List.replicate (zs.length - (Lib.compact zs).length) 0).toArray):MContract P f A2Q:=by
 intro args H r H' Kf hs N w0 η w vs I hsz hr
 unfold A2Q at hs
 split at hs
 ·rename_i E fr l
  simp only [Option.some.injEq,Prod.mk.injEq,decide_eq_true_eq] at hs
  obtain ⟨rfl,rfl,rfl,hl⟩:=hs
  have hv0:=hr 0 (.all 0 1) rfl
  have evs:vs=#[vs.getD 0 undef]:=by
   apply Array.ext_getElem?
   intro k
   cases k with
   | zero=>simp [Array.getD,show 0<vs.size by rw [hsz];decide]
   | succ k=>rw [Array.getElem?_eq_none (by rw [hsz];simp),Array.getElem?_eq_none (by simp)]
  generalize hu:vs.getD 0 undef=u at hv0 evs
  have hho:([.rows E fr (.int .i64) l]:List AObj)[0]? = some (.rows E fr (.int .i64) l):=rfl
  have hcl:=Lib.compact_length_le l
  cases hv0 with
  | all hid =>
   obtain ⟨hln,hob⟩:=I.obj 0 _ hho
   rcases hob with ⟨⟨A,hA⟩,rfl⟩ | ⟨c,cap,g1,g2,g3,g4,g5,g6⟩
   ·rw [evs,hA]
    refine (h0 A 0 w).mono ?_
    rintro e w' ⟨rfl,rfl⟩
    have hc0:Lib.compact ([]:List Int)=[]:=List.eq_nil_of_length_eq_zero (by simpa using hcl)
    refine ⟨_,η,rfl,by simpa [hc0] using I,Ext.refl.trans Ext.refl (fun _ _ h=>⟨h,h⟩),?_⟩
    rw [hc0]
    exact .arr (by simp) (Nat.le_refl _) (Nat.zero_le _) (fun h=>by simp at h)
   ·rw [evs,g1]
    have hH:Holds (Value.int .i64) w (η.ι 0) 0 l.toArray:=A2Z g2 (fun i x hx=>by have:=g6 i x hx;simpa [Lay,Ty.cells] using this)
    refine (h1 (η.ι 0) 0 cap l w hH (by omega) g3).mono ?_
    rintro e w' ⟨rfl,n,rfl⟩
    obtain ⟨J,x⟩:=I.putInts hho g1 g2 g3 g4 g5 (Lib.compact l++List.replicate (l.length - (Lib.compact l).length) 0) (by simp;omega) n #[]
    rw [grow_empty] at J x
    refine ⟨_,η,rfl,J,x _,?_⟩
    refine .arr (by simp) (by omega) (by rw [hln];omega) (fun _=>by simp)
 ·cases hs
end
end Go.Proofs.YtcofibhklbfgoaaGreat.Eng
