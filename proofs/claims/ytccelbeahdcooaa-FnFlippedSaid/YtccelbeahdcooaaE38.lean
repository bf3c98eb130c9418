/- The engine, part 38: functions that ask whether a slice is nil. -/
import Derived.Test.YtccelbeahdcooaaE37
namespace Go.Proofs.Ytccelbeahdcooaa.Eng
open Go Go.RowKit
set_option linter.unusedSimpArgs false
set_option linter.unusedVariables false

def PCalls (P:Program) (f:FuncId) (args:List AV) (r:AV) (Hn:List AObj):Prop :=
 ∀ w (vs:Array Value),vs.size=args.length→(∀ i c,args[i]? = some c→AVR (envOf w) 0 w c (vs.getD i undef)) →
  Calls P f vs w fun e w'=>∃ v η', e=.returned v∧Inv (·<w.heap.size) w η' Hn w'∧AVR η' Hn.length w' r v

section
variable {P:Program} {tt:TT} {S:Tab} {QF:FuncId→Bool}

theorem PCalls.of_run (ro:Bool) (G:Good P tt S QF) {f:FuncId} {fn:Func} (hf:P.funcs[f]? = some fn) {L:Nat→St→Option Tree} (hL:∀ p∈loopsIn 0 (bodyOf fn),LoopWp P (L p.1) p.2) {args:List AV} {r:AV} {Hn:List AObj}
  (h:runP ro P tt S QF L fn args=some (r,Hn)) (h1:freshAV r=true) (h2:Hn.all AObj.fresh=true):PCalls P f args r Hn:=by
 classical
 have hc:PContract P f (fun a=>if a=args then some (r,Hn,true) else none):=by
  refine PContract.of_run ro G hf hL (fun a r' Hn' e=>?_)
  split at e
  ·rename_i ea
   simp only [Option.some.injEq,Prod.mk.injEq,and_true] at e
   obtain ⟨rfl,rfl⟩:=e
   rw [ea];exact h
  ·cases e
 intro w vs hs hr
 exact hc args r Hn (by simp) h1 h2 w vs hs hr

theorem PContract.split {f:FuncId} {e:Ty} {pre:List e.den→Bool} {g:List e.den→AV×List AObj}
  (h1:∀ l:List e.den,0<l.length→pre l=true→PCalls P f [.t (Ty.sl e).flat (.sl e) l] (g l).1 (g l).2)
  (h2:∀ A c,PCalls P f [.raw (.slice A 0 c)] (g []).1 (g []).2) :
  PContract P f (sumOf [.t (.sl e)] (fun d=>pre d.1) (fun d=>g d.1)):=by
 intro args r Hn hs f1 f2 w vs hsz hr
 simp only [sumOf] at hs
 obtain ⟨d,hd,he⟩:=Option.map_eq_some_iff.1 hs
 simp only [Prod.mk.injEq] at he
 obtain ⟨rfl,rfl,hp⟩:=he
 obtain ⟨q1,q2⟩:=argsRd_rel (w:=w) [PSh.t (.sl e)] args d hd
 have hv:=q2 (fun i=>vs.getD i undef) hr
 have hl:vs.size=1:=by rw [hsz,← q1];rfl
 by_cases h0:0<(d.1:List e.den).length
 ·exact h1 d.1 h0 hp w vs (by rw [hl];rfl) hv
 ·have hn:(d.1:List e.den)=[]:=List.eq_nil_of_length_eq_zero (by omega)
  have h00:=hv 0 (.t (Ty.sl e).flat (.sl e) d.1) rfl
  rw [hn] at h00 ⊢
  generalize hu:vs.getD 0 undef=u at h00
  cases h00 with
  | t hc hlay =>
   obtain ⟨A,c,c1,_,_⟩:=hlay
   simp only [if_true,Option.some.injEq,List.length_nil] at c1
   refine h2 A c w vs (by rw [hl];rfl) (fun i x hx=>?_)
   cases i with
   | zero =>
    obtain rfl:AV.raw (.slice A 0 c)=x:=Option.some.inj hx
    show AVR (envOf w) 0 w _ (vs.getD 0 undef)
    rw [hu,c1];exact .raw _
   | succ i=>simp at hx
end
end Go.Proofs.Ytccelbeahdcooaa.Eng
