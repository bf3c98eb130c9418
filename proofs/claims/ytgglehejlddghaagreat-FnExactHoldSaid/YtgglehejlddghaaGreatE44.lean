/- The engine, part 44: Insert's contract out of the four ways that it takes. -/
import Derived.Test.YtgglehejlddghaaGreatE43
namespace Go.Proofs.YtgglehejlddghaaGreat.Eng
open Go Go.RowKit
set_option linter.unusedSimpArgs false
set_option linter.unusedVariables false
theorem A4K {cs vs:List Value} {a:Nat} (ha:a≤cs.length) (hv:vs.length=2) (j:Nat):(cs.take a++(vs++cs.drop a))[j]? = if j<a then cs[j]? else if j<a+2 then vs[j - a]? else (cs.drop a)[j - a - 2]?:=by
 have ht:(cs.take a).length=a:=by rw [List.length_take];omega
 by_cases h1:j<a
 ·rw [if_pos h1,List.getElem?_append_left (by omega),List.getElem?_take_of_lt h1]
 ·rw [if_neg h1,List.getElem?_append_right (by omega),ht]
  by_cases h2:j<a+2
  ·rw [if_pos h2,List.getElem?_append_left (by omega)]
  ·rw [if_neg h2,List.getElem?_append_right (by omega),hv]
theorem Keeps.drew (w:World) (m:Nat→Prop):Keeps w w.drew m:=⟨rfl,rfl,rfl,Nat.le_refl _,fun _ _ _=>rfl⟩
theorem Keeps.alloc (w:World) (o:Obj) (m:Nat→Prop):Keeps w (w.alloc o) m:=⟨rfl,rfl,rfl,by show _≤(w.heap.push o).size;simp,fun k hk _=>by show (w.heap.push o)[k]? = _;simp [Array.getElem?_push,Nat.ne_of_lt hk]⟩
theorem Keeps.mono {w w':World} {m m':Nat→Prop} (k:Keeps w w' m) (h:∀ j,j<w.heap.size→m j→m' j):Keeps w w' m':=⟨k.os,k.tape,k.output,k.size,fun j hj hm=>k.block j hj (fun hmj=>hm (h j hj hmj))⟩
theorem A3l (w:World) (o:Obj):(w.alloc o).heap[w.heap.size]? = some o:=by show (w.heap.push o)[w.heap.size]? = _;simp
section
variable {P:Program} {N:Nat→Prop} {w0:World} {η:Env} {w w':World}
theorem A1g {w:World} {b:Nat} {c:Array Value} {E:TypeId} (hb:w.heap[b]? = some (.cells c E (0,0))) (o:Nat):w.frozen? ⟨b,o,none⟩=false:=by
 simp [World.frozen?,hb]
theorem Inv.finish {E:TypeId} {l:List A1l} (I:Inv N w0 η [.dead,.dead] w') {g cap:Nat} {c:Array Value} (hg:w'.heap[g]? = some (.cells c E (0,0))) (hn:l.length≤cap) (hcap:0<cap∧cap≤maxLen) (hsz:c.size=cap*2)
  (hc:∀ (j:Nat) (v:Value),(l.flatMap D7)[j]? = some v→c[j]? = some v) (hN:¬ N g) (hZ:¬ η.Z false g) (hO:η.O g=none) :
  Inv N w0 (η.upd 0 g (.slice (some ⟨g,0,none⟩) l.length cap) l.length) [.rows E true (.pair .str .str) l,.dead] w'∧Ext (List.contains [0]) η 2 w' (η.upd 0 g (.slice (some ⟨g,0,none⟩) l.length cap) l.length) 2 w':=by
 have hget:∀ (i:Nat) (o:AObj),([.rows E true (.pair .str .str) l,.dead]:List AObj)[i]? = some o→(i=0∧o=.rows E true (.pair .str .str) l)∨(i=1∧o=.dead):=fun i o h=>by
  cases i with
  | zero=>exact .inl ⟨rfl,(Option.some.inj h).symm⟩
  | succ i=>cases i with
   | zero=>exact .inr ⟨rfl,(Option.some.inj h).symm⟩
   | succ i=>simp at h
 refine ⟨⟨I.nlt,I.fr,I.zlt,I.zsub,I.znew,fun id=>?_,fun i o ho=>?_,fun i o ho hm=>?_,fun i j x y hx hy mx my he=>?_,fun b q hb=>?_,I.nvs⟩,⟨fun i hi hk=>?_,fun _ _ h=>h,fun _ _ _=>rfl,fun _ h=>.inl h,fun _ _ _=>rfl⟩⟩
 ·simp only [Env.upd];split
  ·exact ⟨_,_,_,rfl⟩
  ·exact I.hvs id
 ·rcases hget i o ho with ⟨rfl,rfl⟩ | ⟨rfl,rfl⟩
  ·exact ⟨by simp [Env.upd],.inr ⟨c,cap,by simp [Env.upd],by simp [Env.upd,hg],hn,hcap,by simp [hsz,Ty.cells],fun i x hx=>A4L hc i x hx⟩⟩
  ·trivial
 ·rcases hget i o ho with ⟨rfl,rfl⟩ | ⟨rfl,rfl⟩
  ·simp only [Env.upd,if_true];exact ⟨hN,hZ,(Array.getElem?_eq_some_iff.1 hg).1⟩
  ·exact hm.elim
 ·rcases hget i x hx with ⟨rfl,rfl⟩ | ⟨rfl,rfl⟩<;>rcases hget j y hy with ⟨rfl,rfl⟩ | ⟨rfl,rfl⟩
  ·rfl
  ·exact my.elim
  ·exact mx.elim
  ·exact mx.elim
 ·obtain ⟨d1,d2,d3,_⟩:=I.dep b q hb
  refine ⟨d1,d2,d3,fun i o ho hm=>?_⟩
  rcases hget i o ho with ⟨rfl,rfl⟩ | ⟨rfl,rfl⟩
  ·simp only [Env.upd,if_true];intro e;subst e
   have h2:η.O g=some q:=hb
   rw [hO] at h2;cases h2
  ·exact hm.elim
 ·have:i ≠ 0:=by simpa using hk
  simp [Env.upd,this,hi]
theorem A6A {l:List A1l} {g cap:Nat}:AVR (η.upd 0 g (.slice (some ⟨g,0,none⟩) l.length cap) l.length) 2 w' (.all 0 2) (.slice (some ⟨g,0,none⟩) l.length cap):=by
 have h:=@AVR.all (η.upd 0 g (.slice (some ⟨g,0,none⟩) l.length cap) l.length) 2 w' 0 2 (by omega)
 simpa [Env.upd] using h
end
end Go.Proofs.YtgglehejlddghaaGreat.Eng
