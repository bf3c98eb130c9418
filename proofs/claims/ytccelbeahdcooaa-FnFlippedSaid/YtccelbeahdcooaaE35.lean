/- The engine, part 35: loops that tell their own answer. -/
import Derived.Test.YtccelbeahdcooaaE38
import Derived.Test.YtccelbeahdcooaaE49
import Derived.Test.YtccelbeahdcooaaE46
namespace Go.Proofs.Ytccelbeahdcooaa.Eng
open Go Go.RowKit
set_option linter.unusedVariables false

def itN {V A:Type} (ss:V→V ⊕ A) (fa:A):Nat→V→A
 | 0,_=>fa
 | n+1,v=>match ss v with
  | .inl v'=>itN ss fa n v'
  | .inr a=>a
theorem itX_is:∃ f:{V A:Type}→(V→V ⊕ A)→A→V→A,@f=fun {V A} ss fa v=>itN ss fa 4611686018427387904 v:=⟨_,rfl⟩
noncomputable def itX {V A:Type} (ss:V→V ⊕ A) (fa:A) (v:V):A:=Classical.choose itX_is ss fa v
theorem itX_eq {V A:Type} (ss:V→V ⊕ A) (fa:A) (v:V):itX ss fa v=itN ss fa 4611686018427387904 v:=by
 unfold itX
 exact congrArg (fun (f:{V A:Type}→(V→V ⊕ A)→A→V→A)=>f ss fa v) (Classical.choose_spec itX_is)

theorem itN_inv {V A:Type} {ss:V→V ⊕ A} {fa:A} (inv:V→Prop) (post:A→Prop) (m:V→Nat)
  (h:∀ v,inv v→(∃ v', ss v=.inl v'∧inv v'∧m v'<m v)∨(∃ a,ss v=.inr a∧post a)) :
  ∀ n v,inv v→m v<n→post (itN ss fa n v):=by
 intro n
 induction n with
 | zero=>intro v _ h;omega
 | succ n ih =>
  intro v hv hm
  rcases h v hv with ⟨v', e,h1,h2⟩ | ⟨a,e,h1⟩
  ·simp only [itN,e];exact ih v' h1 (by omega)
  ·simp only [itN,e];exact h1
theorem itX_inv {V A:Type} {ss:V→V ⊕ A} {fa:A} (inv:V→Prop) (post:A→Prop) (m:V→Nat)
  (h:∀ v,inv v→(∃ v', ss v=.inl v'∧inv v'∧m v'<m v)∨(∃ a,ss v=.inr a∧post a))
  {v:V} (hv:inv v) (hm:m v<4611686018427387904):post (itX ss fa v):=by
 rw [itX_eq];exact itN_inv inv post m h _ v hv hm
theorem itX_of {V A:Type} {ss:V→V ⊕ A} {fa:A} (inv:V→Prop) (f:V→A) (m:V→Nat)
  (h:∀ v,inv v→(∃ v', ss v=.inl v'∧inv v'∧f v'=f v∧m v'<m v)∨ss v=.inr (f v))
  {v:V} (hv:inv v) (hm:m v<4611686018427387904):itX ss fa v=f v:=by
 refine itX_inv (fun w=>inv w∧f w=f v) (fun a=>a=f v) m (fun w hw=>?_) ⟨hv,rfl⟩ hm
 rcases h w hw.1 with ⟨v', e,h1,h2,h3⟩ | e
 ·exact .inl ⟨v', e,⟨h1,h2.trans hw.2⟩,h3⟩
 ·exact .inr ⟨_,e,hw.2⟩
theorem itN_sim {V A W B:Type} {ss:V→V ⊕ A} {fa:A} {tt:W→W ⊕ B} {fb:B} (rel:V→W→Prop) (post:A→B→Prop) (m:V→Nat)
  (h:∀ v w,rel v w→(∃ v' w', ss v=.inl v'∧tt w=.inl w'∧rel v' w'∧m v'<m v)∨(∃ a b,ss v=.inr a∧tt w=.inr b∧post a b)) :
  ∀ n v w,rel v w→m v<n→post (itN ss fa n v) (itN tt fb n w):=by
 intro n
 induction n with
 | zero=>intro v w _ h;omega
 | succ n ih =>
  intro v w hv hm
  rcases h v w hv with ⟨v', w', e,e2,h1,h2⟩ | ⟨a,b,e,e2,h1⟩
  ·simp only [itN,e,e2];exact ih v' w' h1 (by omega)
  ·simp only [itN,e,e2];exact h1
theorem itX_sim {V A W B:Type} {ss:V→V ⊕ A} {fa:A} {tt:W→W ⊕ B} {fb:B} (rel:V→W→Prop) (post:A→B→Prop) (m:V→Nat)
  (h:∀ v w,rel v w→(∃ v' w', ss v=.inl v'∧tt w=.inl w'∧rel v' w'∧m v'<m v)∨(∃ a b,ss v=.inr a∧tt w=.inr b∧post a b))
  {v:V} {w:W} (hv:rel v w) (hm:m v<4611686018427387904):post (itX ss fa v) (itX tt fb w):=by
 rw [itX_eq,itX_eq];exact itN_sim rel post m h _ v w hv hm
theorem itN_one {V A:Type} (ss:V→V ⊕ A) (fa:A) (n:Nat) (v:V):itN ss fa (n+1) v=match ss v with | .inl v'=>itN ss fa n v' | .inr a=>a:=rfl

def relS {D V A:Type} (pk:V→D) (ct:A→CT):V ⊕ A→RT D
 | .inl v=>.next (pk v)
 | .inr a=>(ct a).val
theorem relB {D V A:Type} {pk:V→D} {ct:A→CT} {b:Bool} {x y:RT D} {X Y:V ⊕ A} (hx:x.val=relS pk ct X) (hy:y.val=relS pk ct Y):(RT.br b x y).val=relS pk ct (cond b X Y):=by
 cases b with
 | true=>exact hx
 | false=>exact hy
def CEnd (D:Type) (c:CT):Prop:=c.val (D:=D)=.fail∨∃ e s x,c.val (D:=D)=.done e s x∧e ≠ .normal
theorem cendB {D:Type} {b:Bool} {x y:CT} (hx:CEnd D x) (hy:CEnd D y):CEnd D (.br b x y):=by
 cases b with
 | true=>exact hx
 | false=>exact hy
theorem cendF {D:Type}:CEnd D .fail:=.inl rfl
theorem cendD {D:Type} {e:Ex} {s:SS} {x:s.den} (h:e ≠ .normal):CEnd D (.done e s x):=.inr ⟨e,s,x,rfl,h⟩
theorem Runs.ofItN {D V A:Type} {step:D→RT D} (pk:V→D) {ss:V→V ⊕ A} {ct:A→CT} {fa:A} (hf:(ct fa).val (D:=D)=.fail)
  (h:∀ v,(step (pk v)).val=relS pk ct (ss v)) (hd:∀ a,CEnd D (ct a)) :
  ∀ n v,(ct (itN ss fa n v)).val (D:=D)=.fail∨Runs step (pk v) (ct (itN ss fa n v)).val:=by
 intro n
 induction n with
 | zero=>intro v;exact .inl hf
 | succ n ih =>
  intro v
  have hv:=h v
  rw [itN_one]
  cases e:ss v with
  | inl v' =>
   rw [e] at hv
   rcases ih v' with h1 | h1
   ·exact .inl h1
   ·exact .inr (.next hv h1)
  | inr a =>
   rw [e] at hv
   rcases hd a with h1 | ⟨e', s,x,h1,h2⟩
   ·exact .inl h1
   ·refine .inr ?_
    show Runs step (pk v) (ct a).val
    have hv':(step (pk v)).val=(ct a).val:=hv
    rw [h1] at hv' ⊢
    exact .done h2 hv'
theorem Runs.ofIt {D V A:Type} {step:D→RT D} (pk:V→D) {ss:V→V ⊕ A} {ct:A→CT} {fa:A} (hf:(ct fa).val (D:=D)=.fail)
  (h:∀ v,(step (pk v)).val=relS pk ct (ss v)) (hd:∀ a,CEnd D (ct a)) (v:V) :
  (ct (itX ss fa v)).val (D:=D)=.fail∨Runs step (pk v) (ct (itX ss fa v)).val:=by
 rw [itX_eq];exact Runs.ofItN pk hf h hd _ v

theorem condQ {b x y:Bool} {P:Prop} (h:cond b x y=true) (hx:b=true→x=true→P) (hy:b=false→y=true→P):P:=by
 cases b with
 | true=>exact hx rfl h
 | false=>exact hy rfl h
theorem andL {a b:Bool} (h:(a&&b)=true):a=true:=(Bool.and_eq_true _ _ ▸ h).1
theorem andR {a b:Bool} (h:(a&&b)=true):b=true:=(Bool.and_eq_true _ _ ▸ h).2
theorem cndQ {α β:Type} {F:α→Option β} {c q r:Bool} {X Y:Option β} {a b:α} (hq:cond c q r=true) (hx:q=true→X=F a) (hy:r=true→Y=F b):cond c X Y=F (cond c a b):=by
 cases c with
 | true=>exact hx hq
 | false=>exact hy hq
theorem cndN {β:Type} {c:Bool} {X Y:Option β} {a:Option β} (hc:(!c)=true) (hy:Y=a):cond c X Y=a:=by
 cases c with
 | true=>cases hc
 | false=>exact hy
theorem cndA {β:Type} {c q:Bool} {X Y a:Option β} (hp:(c&&q)=true) (hx:q=true→X=a):cond c X Y=a:=by
 rw [andL hp];exact hx (andR hp)
theorem cndB {β:Type} {c q:Bool} {X Y a:Option β} (hp:((!c)&&q)=true) (hy:q=true→Y=a):cond c X Y=a:=cndN (andL hp) (hy (andR hp))
theorem wrapU (i:Nat) (h:i<9223372036854775807):IntKind.wrap .i64 ((i:Int)+1)=((i+1:Nat):Int):=by
 rw [wrap64 (by omega) (by omega)];omega
section
variable {P:Program} {tt:TT} {S:Tab} {QF:FuncId→Bool}
abbrev RunP (ro:Bool) (_:Good P tt S QF) (L:Nat→St→Option Tree) (fn:Func) (ps:List PSh) (pre:pshsDen ps→Bool) (g:pshsDen ps→AV×List AObj):Prop:=∀ d,pre d=true→runP ro P tt S QF L fn (argsMk ps d)=some (g d)
abbrev RunM (_:Good P tt S QF) (L:Nat→St→Option Tree) (fn:Func) (s:SS) (pre:s.den→Bool) (g:s.den→AV×List AObj×List Nat):Prop:=∀ d,pre d=true→runM P tt S QF L fn (shsMk s.sl d.1) (ohsMk s.hp d.2)=some (g d)
abbrev RunMRD (dl:List AV) (_:Good P tt S QF) (L:Nat→St→Option Tree) (fn:Func) (s:SS) (pre:s.den→Bool) (g:s.den→AV×List AObj×List Nat):Prop:=∀ d,pre d=true→runMR P tt S QF L fn (shsMk s.sl d.1) (ohsMk s.hp d.2) dl=some (g d)
abbrev RunE (mr:Bool) (dl:List AV) (kx:List Nat) (nb:List (Nat×Nat×Nat×TypeId×Ty)) (_:Good P tt S QF) (L:Nat→St→Option Tree) (fn:Func) (s:SS) (pre:s.den→Bool) (g:s.den→AV×List AObj×List Nat):Prop:=∀ d,pre d=true→runE mr P tt S QF L fn (shsMk s.sl d.1) (ohsMk s.hp d.2) dl kx nb=some (g d)
abbrev RdA (_:Good P tt S QF) (L:Nat→St→Option Tree) (b:Nat) (x:Code) (s:SS) (B:Nat) (kk:List Nat) (ke:Ex→List Nat) (f:s.den→Option (Ex×St)):Prop:=∀ d,execC P tt S QF L b x (s.st d B kk) (fun e s'=>some (e,s.cutE ke e s'))=f d
theorem hl0 {L:Nat→St→Option Tree} {b:Nat} {x:Code} (h:loopsIn b x=[]):∀ p∈loopsIn b x,LoopWp P (L p.1) p.2:=by rw [h];simp
theorem hl1 {L:Nat→St→Option Tree} {b:Nat} {x:Code} {i:Nat} {c:Code} (h:loopsIn b x=[(i,c)]) (w:LoopWp P (L i) c):∀ p∈loopsIn b x,LoopWp P (L p.1) p.2:=by
 rw [h];intro p hp;simp only [List.mem_singleton] at hp;subst hp;exact w
theorem SS.wp2 {G:Good P tt S QF} {L:Nat→St→Option Tree} {b:Nat} {x:Code} (hL:∀ p∈loopsIn b x,LoopWp P (L p.1) p.2) {s:SS} {B:Nat} {kk:List Nat} {ke:Ex→List Nat} (ms:List (Nat×TypeId×Ty)) (step:s.den→RT s.den)
  {f:s.den→Option (Ex×St)} (ha:RdA G L b x s B kk ke f) (hb:∀ d,f d=(step d).opt B kk) (T:s.den→CT) (hT:∀ d,(T d).val (D:=s.den)=.fail∨Runs step d (T d).val):LoopWp P (s.say B kk ms T) x :=
 SS.wp G L hL s B kk ke ms step (fun d=>(ha d).trans (hb d)) T hT
end
end Go.Proofs.Ytccelbeahdcooaa.Eng
