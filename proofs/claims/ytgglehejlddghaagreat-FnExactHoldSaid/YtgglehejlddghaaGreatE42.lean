/- The engine, part 42: two objects given up for a new one; writing cells in a row. -/
import Derived.Test.YtgglehejlddghaaGreatE41
import Derived.Test.YtgglehejlddghaaGreatE38
namespace Go.Proofs.YtgglehejlddghaaGreat.Eng
open Go Go.RowKit
set_option linter.unusedSimpArgs false
set_option linter.unusedVariables false

structure Keeps (w w':World) (may:Nat→Prop):Prop where
 os:w'.os=w.os
 tape:w'.tape=w.tape
 output:w'.output=w.output
 size:w.heap.size≤w'.heap.size
 block:∀ k,k<w.heap.size→¬ may k→w'.heap[k]? = w.heap[k]?
theorem Keeps.trans {a b c:World} {m:Nat→Prop} (x:Keeps a b m) (y:Keeps b c m):Keeps a c m :=
 ⟨y.os.trans x.os,y.tape.trans x.tape,y.output.trans x.output,Nat.le_trans x.size y.size,fun k hk hm=>(y.block k (Nat.lt_of_lt_of_le hk x.size) hm).trans (x.block k hk hm)⟩

theorem A0v (b:Nat):∀ (vs:List Value) (o:Nat) (w:World),Keeps w (w.setCells b o vs) (fun k=>k=b)∧(w.setCells b o vs).heap.size=w.heap.size ∧
  ∀ c E f,w.heap[b]? = some (.cells c E f)→∃ c', (w.setCells b o vs).heap[b]? = some (.cells c' E f)∧c'.size=c.size∧∀ k,c'[k]? = if o≤k∧k<o+vs.length∧k<c.size then vs[k - o]? else c[k]?:=by
 intro vs
 induction vs with
 | nil =>
  intro o w
  refine ⟨⟨rfl,rfl,rfl,Nat.le_refl _,fun _ _ _=>rfl⟩,rfl,fun c E f h=>⟨c,h,rfl,fun k=>?_⟩⟩
  rw [if_neg (by simp;omega)]
 | cons v r ih =>
  intro o w
  obtain ⟨i1,i2,i3⟩:=ih (o+1) (w.setCell ⟨b,o,none⟩ v)
  have hs:(w.setCell ⟨b,o,none⟩ v).heap.size=w.heap.size:=by simp [World.setCell]
  refine ⟨⟨i1.os,i1.tape,i1.output,by rw [← hs];exact i1.size,fun k hk hm=>?_⟩,i2.trans hs,fun c E f h=>?_⟩
  ·show ((w.setCell ⟨b,o,none⟩ v).setCells b (o+1) r).heap[k]? = _
   rw [i1.block k (by rw [hs];exact hk) hm]
   simp [World.setCell,Array.getElem?_modify,Ne.symm hm]
  ·have h1 : (w.setCell ⟨b, o, none⟩ v).heap[b]? = some (.cells (c.setIfInBounds o v) E f) := by
    simp [World.setCell,Array.getElem?_modify,h]
   obtain ⟨c', g1,g2,g3⟩:=i3 _ E f h1
   refine ⟨c', g1,by rw [g2];simp,fun k=>?_⟩
   rw [g3 k,Array.size_setIfInBounds]
   by_cases hk:o+1≤k∧k<o+1+r.length∧k<c.size
   ·rw [if_pos hk,if_pos (by simp only [List.length_cons];omega),show k - o=(k - (o+1))+1 by omega,List.getElem?_cons_succ]
   ·rw [if_neg hk,Array.getElem?_setIfInBounds]
    by_cases hko:o=k
    ·subst hko
     rw [if_pos rfl]
     by_cases hlt:o<c.size
     ·rw [if_pos hlt,if_pos (by simp only [List.length_cons];omega)];simp
     ·rw [if_neg hlt,if_neg (by omega),Array.getElem?_eq_none (by omega)]
    ·rw [if_neg hko,if_neg (by simp only [List.length_cons];omega)]

section
variable {P:Program} {N:Nat→Prop} {w0:World} {η:Env} {w w':World}
theorem Inv.give {a b:AObj} (I:Inv N w0 η [a,b] w) (k:Keeps w w' (fun k=>(a.mat η 0∧k=η.ι 0)∨(b.mat η 1∧k=η.ι 1))):Inv N w0 η [.dead,.dead] w'∧∀ h,Ext NoK η h w η h w':=by
 have dm:∀ (i:Nat) (o:AObj),([.dead,.dead]:List AObj)[i]? = some o→o=.dead:=fun i o h=>by
  cases i with
  | zero=>exact (Option.some.inj h).symm
  | succ i=>cases i with
   | zero=>exact (Option.some.inj h).symm
   | succ i=>simp at h
 have fre:∀ k,(a.mat η 0∧k=η.ι 0)∨(b.mat η 1∧k=η.ι 1)→¬ N k∧¬ η.Z false k:=fun k h=>by
  rcases h with ⟨h,rfl⟩ | ⟨h,rfl⟩
  ·obtain ⟨q1,q2,_⟩:=I.own 0 a rfl h;exact ⟨q1,q2⟩
  ·obtain ⟨q1,q2,_⟩:=I.own 1 b rfl h;exact ⟨q1,q2⟩
 refine ⟨⟨I.nlt,⟨k.os.trans I.fr.os,k.tape.trans I.fr.tape,k.output.trans I.fr.output,Nat.le_trans I.fr.size k.size,fun j hj=>?_⟩,fun f b hb=>Nat.lt_of_lt_of_le (I.zlt f b hb) k.size,I.zsub,I.znew,I.hvs,fun i o ho=>?_,fun i o ho hm=>?_,fun i j x y hx hy mx my he=>?_,fun b q hb=>⟨(I.dep b q hb).1,(I.dep b q hb).2.1,Nat.lt_of_lt_of_le (I.dep b q hb).2.2.1 k.size,fun i o ho hm=>by rw [dm i o ho] at hm;exact hm.elim⟩,I.nvs⟩,fun h=>⟨fun _ hi _=>⟨hi,rfl,rfl,rfl⟩,fun _ _ h=>h,fun f c hz=>?_,fun _ h=>.inl h,fun _ _ _=>rfl⟩⟩
 ·rw [k.block j (Nat.lt_of_lt_of_le (I.nlt j hj) I.fr.size) (fun h=>(fre j h).1 hj)];exact I.fr.block j hj
 ·rw [dm i o ho];trivial
 ·rw [dm i o ho] at hm;exact hm.elim
 ·rw [dm i x hx] at mx;exact mx.elim
 ·exact k.block c (I.zlt f c hz) (fun h=>(fre c h).2 (I.zfalse hz))
end
end Go.Proofs.YtgglehejlddghaaGreat.Eng
