/- Proved: for every input the law FnExactApply answers true and leaves its arguments as they were. No conditions. -/
import Derived.Test.YtoddiofedjnapaaFExactApply
import Derived.Test.YtoddiofedjnapaaRows
import Derived.ProofKit
namespace Go.Proofs.Ytoddiofedjnapaa
open Go.ChangeShapes Go.WideShapes Go.ChangeAt Go.RowKit Go.Proofs.Ytoddiofedjnapaa.Eng
theorem Try.own : ownKnob Try.prog.godebug = none := by kernel_rfl
theorem Try.laidOut : laidOutB Try.prog = true := by kernel_rfl
theorem c62 : chk tt 9 62 (.sl (.pair .str .str)) = true := by kernel_rfl
theorem c22 : chk tt 9 22 (.sl (.pair (.int .i64) (.pair .str .str))) = true := by kernel_rfl
set_option maxRecDepth 100000 in
theorem lifted (os : Os) (started : os.Started) (H : Type) (enc : TypeId × Value → H) :
    ReturnsInHanded {} Try.checked os 8 .any (Rows.fnExactApplySpec.pre6 enc Try.prog Try.f8 Rows.fnExactApplyRow.domain false) (Rows.fnExactApplySpec.post enc Try.prog Try.f8 false true false false) := by
  refine returnsInHanded_of_change (C := Try.checked) Try.own started (by kernel_rfl) Try.func8
    (ChangeSpec.witness6 (enc := enc) (C := Try.checked) false ⟨#[], #[.slice none 0 0, .slice none 0 0], []⟩ 8 (by kernel_rfl) (by kernel_rfl) (by kernel_rfl) (by kernel_rfl)) ?_
  intro W base args ds gs before hval0 hW hcnd _
  have hval : ∀ (j : Nat) t v, Try.f8.params[j]? = some t → args[j]? = some v → Value.okWide Try.prog W .any base t v := hval0
  have hW' := hW
  obtain ⟨p, q, hA0, hV, rfl, hfz, hnd⟩ := hW
  have hA : DataW.TrodAll enc Try.prog W 0 (fun _ => true) true Try.f8.params.toList args.toList ds p := hA0
  rw [Try.params8] at hA hval
  obtain ⟨v0, v1, d0, d1, p0, p1, rfl, rfl, rfl, h0, h1⟩ := trodAll_two hA
  obtain ⟨rfl, rfl⟩ := trodVars_none hV
  simp only [List.append_nil] at hW'
  have hc0 : v0.cells = #[v0] := by obtain ⟨_, _, _, rfl⟩ := okWide_slice Try.underlying62 (hval 0 62 v0 rfl rfl); rfl
  obtain ⟨y0, ya0, yb0⟩ := open_one (w := W) tt_ok c62 rfl hc0 h0
  have hc1 : v1.cells = #[v1] := by obtain ⟨_, _, _, rfl⟩ := okWide_slice Try.underlying22 (hval 1 22 v1 rfl rfl); rfl
  obtain ⟨y1, ya1, yb1⟩ := open_one (w := W) tt_ok c22 rfl hc1 h1
  have hb : pre_lFnExactApply (y0, y1, ()) = true := pre_of_lFnExactApply y0 y1 yb0 yb1
  have hc := c_lFnExactApply [.t false (.sl (.pair .str .str)) y0, .t false (.sl (.pair (.int .i64) (.pair .str .str))) y1] (.t true .bool true) []
    (by show some ((AV.t true .bool (lFnExactApply y0 y1)), ([] : List AObj), pre_lFnExactApply _) = _; rw [exact_lFnExactApply y0 y1 yb0 yb1]; exact congrArg (fun b => some (AV.t true .bool true, ([] : List AObj), b)) hb) rfl rfl W #[v0, v1] rfl (fun i c hi => by
      cases i with
      | zero => obtain rfl : _ = c := Option.some.inj hi; exact ya0
      | succ i =>
          cases i with
          | zero => obtain rfl : _ = c := Option.some.inj hi; exact ya1
          | succ i =>
              simp at hi)
  refine hc.mono fun e W' he => ?_
  obtain ⟨v, η', rfl, I, r⟩ := he
  obtain rfl := bool_of r
  have hbelow := below_of [] I
  exact ⟨_, rfl, [d0, d1], [], p0 ++ p1, [], p0 ++ p1, [], hW', trodAll_mk1 (shut_bool Try.underlying4 true), trodAll_mk2 (Below.trod Try.laidOut (by kernel_rfl) (of_decide_eq_true (by kernel_rfl)) h0 hbelow (fun x hx => by have := hW'.lt x (by simp [hx]); simpa using this)) (Below.trod Try.laidOut (by kernel_rfl) (of_decide_eq_true (by kernel_rfl)) h1 hbelow (fun x hx => by have := hW'.lt x (by simp [hx]); simpa using this)), rfl, hbelow.frame _, fun h => by cases h⟩
theorem holds : Rows.FnExactApplySaid :=
  OpenClaim.holds_of_wide 8 Try.f8 rfl rfl rfl rfl rfl rfl rfl ⟨rfl, rfl, rfl, rfl, rfl⟩ rfl rfl rfl rfl rfl (by kernel_rfl) Try.func8 (by kernel_rfl)
    (of_decide_eq_true (by kernel_rfl)) (by unfold Func.isWrapper; first | (rw [if_pos (by decide +kernel)]; kernel_rfl) | (rw [if_neg (by decide +kernel)]; exact ⟨rfl, rfl⟩))
    (fun os started H enc _ => lifted os started H enc)
end Go.Proofs.Ytoddiofedjnapaa
