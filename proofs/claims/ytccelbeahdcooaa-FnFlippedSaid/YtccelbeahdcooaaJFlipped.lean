/- Proved: for every input the law FnFlipped answers true and leaves its arguments as they were. No conditions. -/
import Derived.Test.YtccelbeahdcooaaFFlipped
import Derived.Test.YtccelbeahdcooaaRows
import Derived.ProofKit
namespace Go.Proofs.Ytccelbeahdcooaa
open Go.ChangeShapes Go.WideShapes Go.ChangeAt Go.RowKit Go.Proofs.Ytccelbeahdcooaa.Eng
theorem Try.own : ownKnob Try.prog.godebug = none := by kernel_rfl
theorem Try.laidOut : laidOutB Try.prog = true := by kernel_rfl
theorem c26 : chk tt 9 26 (.sl (.int .u8)) = true := by kernel_rfl
set_option maxRecDepth 100000 in
theorem lifted (os : Os) (started : os.Started) (H : Type) (enc : TypeId × Value → H) :
    ReturnsInHanded {} Try.checked os 6 .any (Rows.fnFlippedSpec.pre6 enc Try.prog Try.f6 Rows.fnFlippedRow.domain false) (Rows.fnFlippedSpec.post enc Try.prog Try.f6 false true false false) := by
  refine returnsInHanded_of_change (C := Try.checked) Try.own started (by kernel_rfl) Try.func6
    (ChangeSpec.witness6 (enc := enc) (C := Try.checked) false ⟨#[], #[.slice none 0 0], []⟩ 8 (by kernel_rfl) (by kernel_rfl) (by kernel_rfl) (by kernel_rfl)) ?_
  intro W base args ds gs before hval0 hW hcnd _
  have hval : ∀ (j : Nat) t v, Try.f6.params[j]? = some t → args[j]? = some v → Value.okWide Try.prog W .any base t v := hval0
  have hW' := hW
  obtain ⟨p, q, hA0, hV, rfl, hfz, hnd⟩ := hW
  have hA : DataW.TrodAll enc Try.prog W 0 (fun _ => true) true Try.f6.params.toList args.toList ds p := hA0
  rw [Try.params6] at hA hval
  obtain ⟨v0, d0, rfl, rfl, h0⟩ := trodAll_one hA
  obtain ⟨rfl, rfl⟩ := trodVars_none hV
  simp only [List.append_nil] at hW'
  have hc0 : v0.cells = #[v0] := by obtain ⟨_, _, _, rfl⟩ := okWide_slice Try.underlying26 (hval 0 26 v0 rfl rfl); rfl
  obtain ⟨y0, ya0, yb0⟩ := open_one (w := W) tt_ok c26 rfl hc0 h0
  have hb : U3 (y0, ()) = true := A8T y0 yb0
  have hc := B23 [.t false (.sl (.int .u8)) y0] (.t true .bool true) []
    (by show some ((AV.t true .bool (Y8 y0)), ([] : List AObj), U3 _) = _; rw [A9x y0 yb0]; exact congrArg (fun b => some (AV.t true .bool true, ([] : List AObj), b)) hb) rfl rfl W #[v0] rfl (fun i c hi => by
      cases i with
      | zero => obtain rfl : _ = c := Option.some.inj hi; exact ya0
      | succ i =>
          simp at hi)
  refine hc.mono fun e W' he => ?_
  obtain ⟨v, η', rfl, I, r⟩ := he
  obtain rfl := bool_of r
  have hbelow := below_of [] I
  exact ⟨_, rfl, [d0], [], p, [], p, [], hW', trodAll_mk1 (shut_bool Try.underlying4 true), trodAll_mk1 (Below.trod Try.laidOut (by kernel_rfl) (of_decide_eq_true (by kernel_rfl)) h0 hbelow (fun x hx => by have := hW'.lt x (by simp [hx]); simpa using this)), rfl, hbelow.frame _, fun h => by cases h⟩
theorem holds : Rows.FnFlippedSaid :=
  OpenClaim.holds_of_wide 6 Try.f6 rfl rfl rfl rfl rfl rfl rfl ⟨rfl, rfl, rfl, rfl, rfl⟩ rfl rfl rfl rfl rfl (by kernel_rfl) Try.func6 (by kernel_rfl)
    (of_decide_eq_true (by kernel_rfl)) (by unfold Func.isWrapper; first | (rw [if_pos (by decide +kernel)]; kernel_rfl) | (rw [if_neg (by decide +kernel)]; exact ⟨rfl, rfl⟩))
    (fun os started H enc _ => lifted os started H enc)
end Go.Proofs.Ytccelbeahdcooaa
