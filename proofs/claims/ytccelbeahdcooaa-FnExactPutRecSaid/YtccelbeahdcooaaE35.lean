/- The engine, part 35: loops that tell their own answer. -/
import Derived.Test.YtccelbeahdcooaaE38
import Derived.Test.YtccelbeahdcooaaE49
import Derived.Test.YtccelbeahdcooaaE46
namespace Go.Proofs.Ytccelbeahdcooaa.Eng
open Go Go.RowKit
set_option linter.unusedVariables false

def itN {V A:Type} (ss:V→V ⊕ A) (fa:A):Nat→V→A
 | 0,_=>fa
 | n+1,v=>match ss v with
  | .inl v'=>itN ss fa n v'
  | .inr a=>a
theorem A6R:∃ f:{V A:Type}→(V→V ⊕ A)→A→V→A,@f=fun {V A} ss fa v=>itN ss fa 4611686018427387904 v:=⟨_,rfl⟩
noncomputable def itX {V A:Type} (ss:V→V ⊕ A) (fa:A) (v:V):A:=Classical.choose A6R ss fa v
theorem A4W {V A:Type} (ss:V→V ⊕ A) (fa:A) (v:V):itX ss fa v=itN ss fa 4611686018427387904 v:=by
 unfold itX
 exact congrArg (fun (f:{V A:Type}→(V→V ⊕ A)→A→V→A)=>f ss fa v) (Classical.choose_spec A6R)

theorem A7a {V A:Type} {ss:V→V ⊕ A} {fa:A} (inv:V→Prop) (post:A→Prop) (m:V→Nat)
  (h:∀ v,inv v→(∃ v', ss v=.inl v'∧inv v'∧m v'<m v)∨(∃ a,ss v=.inr a∧post a)) :
  ∀ n v,inv v→m v<n→post (itN ss fa n v):=by
 intro n
 induction n with
 | zero=>intro v _ h;omega
 | succ n ih =>
  intro v hv hm
  rcases h v hv with ⟨v', e,h1,h2⟩ | ⟨a,e,h1⟩
  ·simp only [itN,e];exact ih v' h1 (by omega)
  ·simp only [itN,e];exact h1
theorem A7I {V A:Type} {ss:V→V ⊕ A} {fa:A} (inv:V→Prop) (post:A→Prop) (m:V→Nat)
  (h:∀ v,inv v→(∃ v', ss v=.inl v'∧inv v'∧m v'<m v)∨(∃ a,ss v=.inr a∧post a))
  {v:V} (hv:inv v) (hm:m v<4611686018427387904):post (itX ss fa v):=by
 rw [A4W];exact A7a inv post m h _ v hv hm
theorem A7c {V A W B:Type} {ss:V→V ⊕ A} {fa:A} {tt:W→W ⊕ B} {fb:B} (rel:V→W→Prop) (post:A→B→Prop) (m:V→Nat)
  (h:∀ v w,rel v w→(∃ v' w', ss v=.inl v'∧tt w=.inl w'∧rel v' w'∧m v'<m v)∨(∃ a b,ss v=.inr a∧tt w=.inr b∧post a b)) :
  ∀ n v w,rel v w→m v<n→post (itN ss fa n v) (itN tt fb n w):=by
 intro n
 induction n with
 | zero=>intro v w _ h;omega
 | succ n ih =>
  intro v w hv hm
  rcases h v w hv with ⟨v', w', e,e2,h1,h2⟩ | ⟨a,b,e,e2,h1⟩
  ·simp only [itN,e,e2];exact ih v' w' h1 (by omega)
  ·simp only [itN,e,e2];exact h1
theorem A7J {V A W B:Type} {ss:V→V ⊕ A} {fa:A} {tt:W→W ⊕ B} {fb:B} (rel:V→W→Prop) (post:A→B→Prop) (m:V→Nat)
  (h:∀ v w,rel v w→(∃ v' w', ss v=.inl v'∧tt w=.inl w'∧rel v' w'∧m v'<m v)∨(∃ a b,ss v=.inr a∧tt w=.inr b∧post a b))
  {v:V} {w:W} (hv:rel v w) (hm:m v<4611686018427387904):post (itX ss fa v) (itX tt fb w):=by
 rw [A4W,A4W];exact A7c rel post m h _ v w hv hm
theorem A7b {V A:Type} (ss:V→V ⊕ A) (fa:A) (n:Nat) (v:V):itN ss fa (n+1) v=match ss v with | .inl v'=>itN ss fa n v' | .inr a=>a:=rfl

def A62 {D V A:Type} (pk:V→D) (ct:A→CT):V ⊕ A→RT D
 | .inl v=>.next (pk v)
 | .inr a=>(ct a).val
theorem A72 {D V A:Type} {pk:V→D} {ct:A→CT} {b:Bool} {x y:RT D} {X Y:V ⊕ A} (hx:x.val=A62 pk ct X) (hy:y.val=A62 pk ct Y):(RT.br b x y).val=A62 pk ct (cond b X Y):=by
 cases b with
 | true=>exact hx
 | false=>exact hy
def CEnd (D:Type) (c:CT):Prop:=c.val (D:=D)=.fail∨∃ e s x,c.val (D:=D)=.done e s x∧e ≠ .normal
theorem A7R {D:Type} {b:Bool} {x y:CT} (hx:CEnd D x) (hy:CEnd D y):CEnd D (.br b x y):=by
 cases b with
 | true=>exact hx
 | false=>exact hy
theorem A7T {D:Type}:CEnd D .fail:=.inl rfl
theorem A7S {D:Type} {e:Ex} {s:SS} {x:s.den} (h:e ≠ .normal):CEnd D (.done e s x):=.inr ⟨e,s,x,rfl,h⟩
theorem Runs.ofItN {D V A:Type} {step:D→RT D} (pk:V→D) {ss:V→V ⊕ A} {ct:A→CT} {fa:A} (hf:(ct fa).val (D:=D)=.fail)
  (h:∀ v,(step (pk v)).val=A62 pk ct (ss v)) (hd:∀ a,CEnd D (ct a)) :
  ∀ n v,(ct (itN ss fa n v)).val (D:=D)=.fail∨Runs step (pk v) (ct (itN ss fa n v)).val:=by
 intro n
 induction n with
 | zero=>intro v;exact .inl hf
 | succ n ih =>
  intro v
  have hv:=h v
  rw [A7b]
  cases e:ss v with
  | inl v' =>
   rw [e] at hv
   rcases ih v' with h1 | h1
   ·exact .inl h1
   ·exact .inr (.next hv h1)
  | inr a =>
   rw [e] at hv
   rcases hd a with h1 | ⟨e', s,x,h1,h2⟩
   ·exact .inl h1
   ·refine .inr ?_
    show Runs step (pk v) (ct a).val
    have hv':(step (pk v)).val=(ct a).val:=hv
    rw [h1] at hv' ⊢
    exact .done h2 hv'
theorem Runs.ofIt {D V A:Type} {step:D→RT D} (pk:V→D) {ss:V→V ⊕ A} {ct:A→CT} {fa:A} (hf:(ct fa).val (D:=D)=.fail)
  (h:∀ v,(step (pk v)).val=A62 pk ct (ss v)) (hd:∀ a,CEnd D (ct a)) (v:V) :
  (ct (itX ss fa v)).val (D:=D)=.fail∨Runs step (pk v) (ct (itX ss fa v)).val:=by
 rw [A4W];exact Runs.ofItN pk hf h hd _ v

theorem A7K {a b:Bool} (h:(a&&b)=true):a=true:=(Bool.and_eq_true _ _ ▸ h).1
theorem A7L {a b:Bool} (h:(a&&b)=true):b=true:=(Bool.and_eq_true _ _ ▸ h).2
theorem A7Z {α β:Type} {F:α→Option β} {c q r:Bool} {X Y:Option β} {a b:α} (hq:cond c q r=true) (hx:q=true→X=F a) (hy:r=true→Y=F b):cond c X Y=F (cond c a b):=by
 cases c with
 | true=>exact hx hq
 | false=>exact hy hq
theorem A7Y {β:Type} {c q:Bool} {X Y a:Option β} (hp:(c&&q)=true) (hx:q=true→X=a):cond c X Y=a:=by
 rw [A7K hp];exact hx (A7L hp)
section
variable {P:Program} {tt:TT} {S:Tab} {QF:FuncId→Bool}
abbrev A7X (ro:Bool) (_:Good P tt S QF) (L:Nat→St→Option Tree) (fn:Func) (ps:List PSh) (pre:E7 ps→Bool) (g:E7 ps→AV×List AObj):Prop:=∀ d,pre d=true→A64 ro P tt S QF L fn (A02 ps d)=some (g d)
abbrev A7W (_:Good P tt S QF) (L:Nat→St→Option Tree) (fn:Func) (s:SS) (pre:s.den→Bool) (g:s.den→AV×List AObj×List Nat):Prop:=∀ d,pre d=true→A63 P tt S QF L fn (A1e s.sl d.1) (A3I s.hp d.2)=some (g d)
abbrev RdA (_:Good P tt S QF) (L:Nat→St→Option Tree) (b:Nat) (x:Code) (s:SS) (B:Nat) (kk:List Nat) (ke:Ex→List Nat) (f:s.den→Option (Ex×St)):Prop:=∀ d,A0C P tt S QF L b x (s.st d B kk) (fun e s'=>some (e,s.cutE ke e s'))=f d
theorem hl0 {L:Nat→St→Option Tree} {b:Nat} {x:Code} (h:D8 b x=[]):∀ p∈D8 b x,LoopWp P (L p.1) p.2:=by rw [h];simp
theorem hl1 {L:Nat→St→Option Tree} {b:Nat} {x:Code} {i:Nat} {c:Code} (h:D8 b x=[(i,c)]) (w:LoopWp P (L i) c):∀ p∈D8 b x,LoopWp P (L p.1) p.2:=by
 rw [h];intro p hp;simp only [List.mem_singleton] at hp;subst hp;exact w
theorem SS.wp2 {G:Good P tt S QF} {L:Nat→St→Option Tree} {b:Nat} {x:Code} (hL:∀ p∈D8 b x,LoopWp P (L p.1) p.2) {s:SS} {B:Nat} {kk:List Nat} {ke:Ex→List Nat} (ms:List (Nat×TypeId×Ty)) (step:s.den→RT s.den)
  {f:s.den→Option (Ex×St)} (ha:RdA G L b x s B kk ke f) (hb:∀ d,f d=(step d).opt B kk) (T:s.den→CT) (hT:∀ d,(T d).val (D:=s.den)=.fail∨Runs step d (T d).val):LoopWp P (s.say B kk ms T) x :=
 SS.wp G L hL s B kk ke ms step (fun d=>(ha d).trans (hb d)) T hT
end
end Go.Proofs.Ytccelbeahdcooaa.Eng
