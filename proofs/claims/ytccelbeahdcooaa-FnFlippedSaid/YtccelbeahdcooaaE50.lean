/- The engine, part 50: ranges over functions: operations in a round; a loop's rounds one by one; contracts by hand. -/
import Derived.Test.YtccelbeahdcooaaE35
import Derived.RangeFuncFrom
import Derived.RangeFuncLeaves
import Derived.RangeFuncCalls
import Derived.TacticsIn
namespace Go.Proofs.Ytccelbeahdcooaa.Eng
open Go Go.RowKit
set_option linter.unusedSimpArgs false
set_option linter.unusedVariables false

section
variable {P:Program} {N:Nat→Prop} {w0:World} {η0:Env} {h0:Nat} {we:World} {R:Type}
variable {η:Env} {st:St} {a:Act} {w:World} {o:Oper} {next:Act→World→Prop} {Q:Exit→Act→World→Prop} {r:R} {tt:TT} {S:Tab} {QF:FuncId→Bool}

theorem PContract.of_calls {f:FuncId} (l:List PSh) (pre:pshsDen l→Bool) (g:pshsDen l→AV×List AObj) (h:∀ d,pre d=true→∀ w (vs:Array Value),vs.size=(argsMk l d).length→(∀ i c,(argsMk l d)[i]? = some c→AVR (envOf w) 0 w c (vs.getD i undef)) →
  Calls P f vs w fun e w'=>∃ v η', e=.returned v∧Inv (·<w.heap.size) w η' (g d).2 w'∧AVR η' (g d).2.length w' (g d).1 v):PContract P f (sumOf l pre g):=by
 intro args r Hn hs h1 h2 w vs hl hr
 obtain ⟨d,hd,hgd⟩:=Option.map_eq_some_iff.1 hs
 simp only [Prod.mk.injEq] at hgd
 obtain ⟨rfl,rfl,hp⟩:=hgd
 obtain ⟨q1,q2⟩:=argsRd_rel (w:=w) l args d hd
 exact h d hp w vs (by rw [hl,q1]) (q2 (fun i=>vs.getD i undef) hr)

def Plain (F:Fence):Prop:=F=Fence.wide∨∃ l,F=Fence.wide.inRound l
theorem Plain.fn {F:Fence} (h:Plain F) (f:FuncId):F.fn f:=by rcases h with rfl | ⟨l,rfl⟩<;>trivial
theorem Plain.depth {F:Fence} (h:Plain F):F.depth=none:=by rcases h with rfl | ⟨l,rfl⟩<;>rfl
theorem Plain.fenced {F:Fence} (h:Plain F) (m:Machine):m.fenced P F:=by
 rcases h with rfl | ⟨l,rfl⟩
 ·exact fenced_wide P m
 ·exact fenced_wide P m
theorem Plain.calls {F:Fence} (h:Plain F) {n:Nat} {f:FuncId} {args:Array Value} {R:Ending→World→Prop} (hc:Calls P f args w R):CallsIn F n P f args w R:=by
 rcases h with rfl | ⟨l,rfl⟩
 ·exact callsIn_wide.2 hc
 ·exact (callsIn_wide.2 hc).inRound l
def notDefer (o:Oper):Bool:=match o.op with
 | .defer _=>false
 | _=>true
theorem wp_in {F:Fence} (hF:Plain F) {n:Nat} (hd:notDefer o=true) (h:o.wp P a w next Q):o.wpIn F n P a w next Q:=by
 refine ⟨fun f _=>hF.fn f,?_⟩
 rw [Oper.semAt_eq _ _ _ (fun c e=>by simp [notDefer,e] at hd)]
 unfold Oper.wp at h
 generalize (execOp a.eval o).run P w=x at h
 have hdep:F.depth.isSome=true→1≤n:=fun e=>by rw [hF.depth] at e;cases e
 cases x with
 | ok v w' =>
  cases v with
  | value v=>exact h
  | skip=>exact h
  | defer d=>exact h
  | enter f args=>exact ⟨hdep,hF.calls h⟩
  | row row args =>
   refine ⟨hdep,fun c cs _=>?_⟩
   obtain ⟨v,w', q,s⟩:=h c cs
   exact ⟨v,w', q,(StepsIn.of_steps s).mono fun m _=>hF.fenced m⟩
  | _=>exact h.elim
 | halt e w' =>
  cases e with
  | panic v=>exact h
  | _=>exact h.elim

theorem execOps_in [DF] (hT:TTok P tt) (hS:TabOk P S) {F:Fence} (hF:Plain F) {n:Nat} (ops:Array Oper) (rest:List Oper):∀ (l:List Oper) (st:St) (K:St→Option R) (η:Env) (a:Act) (w:World),SR N w0 η0 h0 we η st a w →
  (l.all fun o=>o.guard.isNone&&notDefer o)=true→execOps P tt S ops l st K=some r →
  (∀ st' η' a' w', K st'=some r→SR N w0 η0 h0 we η' st' a' w'→wpListIn F n P ops Q rest a' w')→wpListIn F n P ops Q (l++rest) a w:=by
 intro l
 induction l with
 | nil=>intro st K η a w s _ h hq;exact hq _ _ _ _ h s
 | cons o l ih =>
  intro st K η a w s hg h hq
  simp only [List.all_cons,Bool.and_eq_true] at hg
  obtain ⟨⟨hg1,hg2⟩,hg3⟩:=hg
  have hgn:o.guard=none:=by simpa using hg1
  simp only [execOps,hgn] at h
  rw [List.cons_append]
  refine wpListIn_plain hgn (fun Kc hK=>wp_in hF hg2 (evalOp_sound hT hS s h fun v st' η' w' x hk s' rx=>hK _ _ ?_))
  exact ih _ K η' _ w' (s'.put o.dst rx) (List.all_eq_true.2 fun o ho=>List.all_eq_true.1 hg3 o ho) hk hq

theorem LoopWp.iter (G:Good P tt S QF) (L:Nat→St→Option Tree) {b:Nat} {x:Code} (hL:∀ p∈loopsIn b x,LoopWp P (L p.1) p.2) (k:Nat) :
  LoopWp P (fun st=>(iterD (fun s=>execC P tt S QF L b x s (fun e s'=>some (e,s'))) (fun s=>s) k st).map fun p=>.leaf p.1 p.2) x:=by
 intro DD st t ht p hp N w0 η0 h0 we η a w Q s0 hq
 obtain ⟨q,hq1,rfl⟩:=Option.map_eq_some_iff.1 ht
 simp only [Tree.res,Option.some.injEq] at hp
 subst hp
 refine wp_loop_fuel (fun m a w=>∃ η' st', iterD (fun s=>execC P tt S QF L b x s (fun e s'=>some (e,s'))) (fun s=>s) m st'=some q∧SR N w0 η0 h0 we η' st' a w) (fun a w hj=>?_) (fun m a w hj=>?_) k a w ⟨η,st,hq1,s0⟩
 ·obtain ⟨_,_,h1,_⟩:=hj
  simp [iterD] at h1
 ·obtain ⟨η1,st1,h1,s1⟩:=hj
  simp only [iterD] at h1
  cases hx:execC P tt S QF L b x st1 (fun e s'=>some (e,s')) with
  | none=>rw [hx] at h1;cases h1
  | some y =>
   rw [hx] at h1
   refine execC_sound (r:=y) G L x b st1 _ _ η1 a w hL hx ?_ s1
   intro e' st3 η' a' w' hk s3
   simp only [Option.some.injEq] at hk
   subst hk
   cases e' with
   | normal=>exact ⟨η', st3,h1,s3⟩
   | exit id=>simp only [Option.some.injEq] at h1;subst h1;exact hq η' a' w' s3
   | ret=>simp only [Option.some.injEq] at h1;subst h1;exact hq η' a' w' s3
end
end Go.Proofs.Ytccelbeahdcooaa.Eng
