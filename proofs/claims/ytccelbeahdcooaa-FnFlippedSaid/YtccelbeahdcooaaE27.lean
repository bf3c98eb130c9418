/- The engine, part 27: loops on pure data, plainly. -/
import Derived.Test.YtccelbeahdcooaaE26
import Derived.Laws.Strings
namespace Go.Proofs.Ytccelbeahdcooaa.Eng
open Go Go.RowKit

def loopN {β γ:Type} (g:Nat→β→β ⊕ γ):Nat→Nat→β→β ⊕ γ
 | 0,_,b=>.inl b
 | k+1,i,b=>match g i b with
  | .inl b'=>loopN g k (i+1) b'
  | .inr c=>.inr c

theorem Runs.loopN {D β γ:Type} {step:D→RT D} (mk:Nat→β→D) (inv:Nat→β→Prop) (n:Nat) (g:Nat→β→β ⊕ γ) {fin:β→RT D} {bad:γ→RT D}
  (hs:∀ i b,i<n→inv i b→(∃ b', g i b=.inl b'∧inv (i+1) b'∧(step (mk i b)).val=.next (mk (i+1) b'))∨(∃ c e s x,g i b=.inr c∧(step (mk i b)).val=bad c∧bad c=.done e s x∧e ≠ .normal))
  (hf:∀ i b,n≤i→inv i b→(step (mk i b)).val=fin b∧∃ e s x,fin b=.done e s x∧e ≠ .normal) :
  ∀ k i b,n - i=k→inv i b→Runs step (mk i b) (match Eng.loopN g k i b with | .inl b=>fin b | .inr c=>bad c):=by
 intro k
 induction k with
 | zero =>
  intro i b hk hi
  obtain ⟨h1,e,s,x,h2,h3⟩:=hf i b (by omega) hi
  simp only [Eng.loopN]
  rw [h2] at h1 ⊢
  exact .done h3 h1
 | succ k ih =>
  intro i b hk hi
  rcases hs i b (by omega) hi with ⟨b', h1,h2,h3⟩ | ⟨c,e,s,x,h1,h2,h3,h4⟩
  ·simp only [Eng.loopN,h1]
   exact .next h3 (ih (i+1) b' (by omega) h2)
  ·simp only [Eng.loopN,h1]
   rw [h3] at h2 ⊢
   exact .done h4 h2

def allF (ok:Nat→Bool):Nat→Nat→Bool
 | 0,_=>true
 | k+1,i=>ok i&&allF ok k (i+1)

theorem Runs.scan {D:Type} {step:D→RT D} (mk:Nat→D) (n:Nat) (ok:Nat→Bool) {fin bad:RT D}
  (hs:∀ i,i<n→(step (mk i)).val=cond (ok i) (.next (mk (i+1))) bad) (hf:∀ i,n≤i→(step (mk i)).val=fin)
  (h1:∃ e s x,fin=.done e s x∧e ≠ .normal) (h2:∃ e s x,bad=.done e s x∧e ≠ .normal) :
  ∀ k i,n - i=k→Runs step (mk i) (cond (allF ok k i) fin bad):=by
 intro k
 induction k with
 | zero =>
  intro i hk
  obtain ⟨e,s,x,h3,h4⟩:=h1
  have:=hf i (by omega)
  simp only [allF,cond_true]
  rw [h3] at this ⊢
  exact .done h4 this
 | succ k ih =>
  intro i hk
  have h:=hs i (by omega)
  cases ho:ok i with
  | true =>
   rw [ho] at h
   simp only [allF,ho,Bool.true_and]
   exact .next h (ih (i+1) (by omega))
  | false =>
   rw [ho] at h
   simp only [allF,ho,Bool.false_and,cond_false] at h ⊢
   obtain ⟨e,s,x,h3,h4⟩:=h2
   rw [h3] at h ⊢
   exact .done h4 h

theorem allF_true {ok:Nat→Bool}:∀ k i,allF ok k i=true↔∀ j,i≤j→j<i+k→ok j=true:=by
 intro k
 induction k with
 | zero=>intro i;simp [allF];omega
 | succ k ih =>
  intro i
  simp only [allF,Bool.and_eq_true,ih]
  constructor
  ·rintro ⟨h1,h2⟩ j hj hk
   by_cases e:j=i
   ·exact e ▸ h1
   ·exact h2 j (by omega) (by omega)
  ·intro h
   exact ⟨h i (Nat.le_refl _) (by omega),fun j hj hk=>h j (by omega) (by omega)⟩

def foldN {β:Type} (g:Nat→β→β):Nat→Nat→β→β
 | 0,_,b=>b
 | k+1,i,b=>foldN g k (i+1) (g i b)
theorem Runs.foldN {D β:Type} {step:D→RT D} (mk:Nat→β→D) (inv:Nat→β→Prop) (n:Nat) (g:Nat→β→β) {fin:β→RT D}
  (hs:∀ i b,i<n→inv i b→inv (i+1) (g i b)∧(step (mk i b)).val=.next (mk (i+1) (g i b)))
  (hf:∀ i b,n≤i→inv i b→(step (mk i b)).val=fin b∧∃ e s x,fin b=.done e s x∧e ≠ .normal) :
  ∀ k i b,n - i=k→inv i b→Runs step (mk i b) (fin (Eng.foldN g k i b)):=by
 intro k
 induction k with
 | zero =>
  intro i b hk hi
  obtain ⟨h1,e,s,x,h2,h3⟩:=hf i b (by omega) hi
  simp only [Eng.foldN]
  rw [h2] at h1 ⊢
  exact .done h3 h1
 | succ k ih =>
  intro i b hk hi
  obtain ⟨h1,h2⟩:=hs i b (by omega) hi
  exact .next h2 (ih (i+1) _ (by omega) h1)
theorem foldN_inv {β:Type} {g:Nat→β→β} (inv:Nat→β→Prop):∀ k i b,inv i b→(∀ j b,i≤j→j<i+k→inv j b→inv (j+1) (g j b))→inv (i+k) (foldN g k i b):=by
 intro k
 induction k with
 | zero=>intro i b h _;exact h
 | succ k ih =>
  intro i b h hs
  have:=ih (i+1) (g i b) (hs i b (Nat.le_refl _) (by omega) h) (fun j b hj hk=>hs j b (by omega) (by omega))
  rw [show i+(k+1)=i+1+k by omega]
  exact this

def isInl {β γ:Type}:β ⊕ γ→Bool
 | .inl _=>true
 | .inr _=>false
def getInl {β γ:Type} (d:β):β ⊕ γ→β
 | .inl b=>b
 | .inr _=>d

theorem wrap64 {n:Int} (h1:-9223372036854775808≤n) (h2:n<9223372036854775808):IntKind.wrap .i64 n=n:=by
 show (if (true&&decide (n % (2 ^ 64:Int) ≥ (2 ^ 63:Int)))=true then n % (2 ^ 64:Int) - (2 ^ 64:Int) else n % (2 ^ 64:Int))=n
 simp only [Bool.true_and,decide_eq_true_eq]
 split<;>omega
theorem wrapS (i:Nat) (h:i<4611686018427387904):IntKind.wrap .i64 ((i:Int)+1)=((i+1:Nat):Int):=by
 rw [wrap64 (by omega) (by omega)];omega

def szN (f:Nat→Int→Int) (k i:Nat) (b:Int):Int ⊕ Unit:=loopN (fun i b=>cond (decide (f i b<0)) (.inr ()) (.inl (f i b))) k i b
theorem mapN {α β:Type} (f:α→β) (d:α) (l:List α):∀ (k i:Nat) (h:List β),i+k=l.length→h.length=l.length→foldN (fun i h=>h.set i (f (l.getD i d))) k i h=h.take i++(l.drop i).map f:=by
 intro k
 induction k with
 | zero =>
  intro i h h1 h2
  simp only [foldN]
  rw [List.take_of_length_le (by omega),List.drop_of_length_le (by omega)];simp
 | succ k ih =>
  intro i h h1 h2
  simp only [foldN]
  rw [ih (i+1) _ (by omega) (by simpa using h2)]
  have hi:i<l.length:=by omega
  have e:l.drop i=l.getD i d::l.drop (i+1):=by
   rw [List.drop_eq_getElem_cons hi];simp [List.getD_eq_getElem?_getD,hi]
  rw [e,List.map_cons,List.take_add_one,List.getElem?_set_self (by omega)]
  simp [List.take_set_of_le (Nat.le_refl i)]

def okS (s:ByteArray):Bool:=decide (s.size≤1048576)
def okL {α:Type} (l:List α):Bool:=decide (l.length≤1048576)
theorem okS_le {s:ByteArray} (h:okS s=true):s.size≤1048576:=by simpa [okS] using h
theorem okL_le {α:Type} {l:List α} (h:okL l=true):l.length≤1048576:=by simpa [okL] using h
end Go.Proofs.Ytccelbeahdcooaa.Eng
