/- Proved: for every input the law FnExactRecOk answers true and leaves its argument as it was. No conditions. -/
import Derived.Test.YtoddiofedjnapaaFRecOk

namespace Go.Proofs.Ytoddiofedjnapaa
open Go.ChangeShapes Go.WideShapes Go.ChangeAt Go.RowKit Go.Proofs.Ytoddiofedjnapaa.Eng

theorem Try.own : ownKnob Try.prog.godebug = none := by kernel_rfl
theorem Try.laidOut : laidOutB Try.prog = true := by kernel_rfl
theorem c24 : chk tt 9 24 (.pair (.int .i64) (.pair (.int .i64) (.sl (.pair (.int .i64) (.pair .str .str))))) = true := by kernel_rfl
theorem bigOps_of {l : List (Int × ByteArray × ByteArray)} (h : bigT (.sl (.pair (.int .i64) (.pair .str .str))) l = true) : bigOps l = true := by
  have h : (decide (l.length ≤ maxLen) && l.all fun o => (Lit.int .i64 o.1).wf && (decide (o.2.1.size ≤ maxLen) && decide (o.2.2.size ≤ maxLen))) = true := h
  have hm : maxLen = 9223372036854775807 := by decide
  rw [hm] at h
  simp only [Bool.and_eq_true, decide_eq_true_eq, List.all_eq_true] at h
  simp only [bigOps, bigS, Bool.and_eq_true, decide_eq_true_eq, List.all_eq_true]
  exact ⟨h.1, fun o ho => (h.2 o ho).2⟩

set_option maxRecDepth 100000 in
theorem fnExactRecOk_lifted (os : Os) (started : os.Started) (H : Type) (enc : TypeId × Value → H) :
    ReturnsInHanded {} Try.checked os 3 .any (Rows.fnExactRecOkSpec.pre6 enc Try.prog Try.f3 Rows.fnExactRecOkRow.domain false) (Rows.fnExactRecOkSpec.post enc Try.prog Try.f3 false true false false) := by
  refine returnsInHanded_of_change (C := Try.checked) Try.own started (by kernel_rfl) Try.func3
    (ChangeSpec.witness6 (enc := enc) (C := Try.checked) false ⟨#[], #[.agg #[.int .i64 0, .int .i64 0, .slice none 0 0]], []⟩ 8 (by kernel_rfl) (by kernel_rfl) (by kernel_rfl) (by kernel_rfl)) ?_
  intro W base args ds gs before hval0 hW hcnd _
  have hval : ∀ (j : Nat) t v, Try.f3.params[j]? = some t → args[j]? = some v → Value.okWide Try.prog W .any base t v := hval0
  have hW' := hW
  obtain ⟨p, q, hA0, hV, rfl, hfz, hnd⟩ := hW
  have hA : DataW.TrodAll enc Try.prog W 0 (fun _ => true) true Try.f3.params.toList args.toList ds p := hA0
  rw [Try.params3] at hA hval
  obtain ⟨v0, d0, rfl, rfl, h0⟩ := trodAll_one hA
  obtain ⟨rfl, rfl⟩ := trodVars_none hV
  simp only [List.append_nil] at hW'
  obtain ⟨y, ya, yb⟩ := open_agg (w := W) tt_ok c24 Try.underlying24 (hval 0 24 v0 rfl rfl) h0
  obtain ⟨k, t, l⟩ := y
  have hb : bigOps l = true := by
    have hb : ((Lit.int .i64 k).wf && ((Lit.int .i64 t).wf && bigT (.sl (.pair (.int .i64) (.pair .str .str))) l)) = true := yb
    rw [Bool.and_eq_true, Bool.and_eq_true] at hb
    exact bigOps_of hb.2.2
  have hc := c_lFnExactRecOk [.agg [.t true (.int .i64) k, .t true (.int .i64) t, .t false (.sl (.pair (.int .i64) (.pair .str .str))) l]] (.t true .bool true) []
    (by show some ((AV.t true .bool (lFnExactRecOk k t l)), ([] : List AObj), bigOps l) = _; rw [exact_lFnExactRecOk, hb]) rfl rfl W #[v0] rfl (fun i c hi => by
      cases i with
      | zero => obtain rfl : _ = c := Option.some.inj hi; exact ya
      | succ i => simp at hi)
  refine hc.mono fun e W' he => ?_
  obtain ⟨v, η', rfl, I, r⟩ := he
  obtain rfl := bool_of r
  have hbelow := below_of [] I
  have hlt : ∀ x ∈ p, x.block < W.heap.size := fun x hx => by simpa using hW'.lt x hx
  exact ⟨_, rfl, [d0], [], p, [], p, [], hW', trodAll_mk1 (shut_bool Try.underlying4 true), trodAll_mk1 (Below.trod Try.laidOut (by kernel_rfl) (of_decide_eq_true (by kernel_rfl)) h0 hbelow hlt), rfl, hbelow.frame _, fun h => by cases h⟩

theorem fnExactRecOk_holds : Rows.FnExactRecOkSaid :=
  OpenClaim.holds_of_wide 3 Try.f3 rfl rfl rfl rfl rfl rfl rfl ⟨rfl, rfl, rfl, rfl, rfl⟩ rfl rfl rfl rfl rfl (by kernel_rfl) Try.func3 (by kernel_rfl)
    (of_decide_eq_true (by kernel_rfl)) (by unfold Func.isWrapper; first | (rw [if_pos (by decide +kernel)]; kernel_rfl) | (rw [if_neg (by decide +kernel)]; exact ⟨rfl, rfl⟩))
    (fun os started H enc _ => fnExactRecOk_lifted os started H enc)
end Go.Proofs.Ytoddiofedjnapaa
