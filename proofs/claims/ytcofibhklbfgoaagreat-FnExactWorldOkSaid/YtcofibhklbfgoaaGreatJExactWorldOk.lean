/- Proved: for every input the law FnExactWorldOk answers true and leaves its arguments as they were. No conditions. -/
import Derived.Test.YtcofibhklbfgoaaGreatFExactWorldOk
import Derived.Test.YtcofibhklbfgoaaGreatRows
import Derived.ProofKit
namespace Go.Proofs.YtcofibhklbfgoaaGreat
open Go.ChangeShapes Go.WideShapes Go.ChangeAt Go.RowKit Go.Proofs.YtcofibhklbfgoaaGreat.Eng
theorem Tryz.own : ownKnob Tryz.prog.godebug = none := by kernel_rfl
theorem Tryz.laidOut : laidOutB Tryz.prog = true := by kernel_rfl
theorem c51 : chk tt 9 51 (.pair (.pair (.int .i64) (.pair (.int .i64) (.pair (.int .i64) (.pair (.sl (.pair (.int .i64) (.pair (.sl (.pair (.int .i64) (.pair .str .str))) (.pair (.int .i64) (.sl (.int .i64)))))) (.pair (.sl (.pair (.int .i64) .bool)) (.int .i64)))))) (.pair (.sl (.pair (.int .i64) (.pair (.sl (.pair (.int .i64) (.pair (.int .i64) (.sl (.pair (.int .i64) (.pair .str .str)))))) (.pair (.int .i64) (.pair (.sl (.pair .str .str)) (.sl (.pair (.int .i64) (.pair (.int .i64) (.sl (.pair (.int .i64) (.pair .str .str))))))))))) (.pair (.sl (.pair (.int .i64) (.pair (.int .i64) (.pair (.int .i64) (.pair (.sl (.pair (.int .i64) (.pair .str .str))) .bool))))) (.pair (.sl (.pair (.int .i64) (.pair (.int .i64) (.pair (.int .i64) (.pair (.sl (.pair (.int .i64) (.pair .str .str))) .bool))))) (.sl (.pair (.int .i64) (.sl (.pair (.int .i64) (.pair .str .str))))))))) = true := by kernel_rfl
set_option maxRecDepth 100000 in
theorem lifted (os : Os) (started : os.Started) (H : Type) (enc : TypeId × Value → H) :
    ReturnsInHanded {} Tryz.checked os 4 .any (Rows.fnExactWorldOkSpec.pre6 enc Tryz.prog Tryz.f4 Rows.fnExactWorldOkRow.domain false) (Rows.fnExactWorldOkSpec.post enc Tryz.prog Tryz.f4 false true false false) := by
  refine returnsInHanded_of_change (C := Tryz.checked) Tryz.own started (by kernel_rfl) Tryz.func4
    (ChangeSpec.witness6 (enc := enc) (C := Tryz.checked) false ⟨#[], #[.agg #[.int .i64 0, .int .i64 0, .int .i64 0, .slice none 0 0, .slice none 0 0, .int .i64 0, .slice none 0 0, .slice none 0 0, .slice none 0 0, .slice none 0 0]], []⟩ 8 (by kernel_rfl) (by kernel_rfl) (by kernel_rfl) (by kernel_rfl)) ?_
  intro W base args ds gs before hval0 hW hcnd _
  have hval : ∀ (j : Nat) t v, Tryz.f4.params[j]? = some t → args[j]? = some v → Value.okWide Tryz.prog W .any base t v := hval0
  have hW' := hW
  obtain ⟨p, q, hA0, hV, rfl, hfz, hnd⟩ := hW
  have hA : DataW.TrodAll enc Tryz.prog W 0 (fun _ => true) true Tryz.f4.params.toList args.toList ds p := hA0
  rw [Tryz.params4] at hA hval
  obtain ⟨v0, d0, rfl, rfl, h0⟩ := trodAll_one hA
  obtain ⟨rfl, rfl⟩ := trodVars_none hV
  simp only [List.append_nil] at hW'
  obtain ⟨y0, ya0, yb0⟩ := A6u (w := W) F6R c51 Tryz.underlying51 (hval 0 51 v0 rfl rfl) h0
  have hb : A7w ((y0.1.1, y0.1.2.1, y0.1.2.2.1, y0.1.2.2.2.1, y0.1.2.2.2.2.1, y0.1.2.2.2.2.2, y0.2.1, y0.2.2.1, y0.2.2.2.1, y0.2.2.2.2, ()), ()) = true := C8n y0.1.1 y0.1.2.1 y0.1.2.2.1 y0.1.2.2.2.1 y0.1.2.2.2.2.1 y0.1.2.2.2.2.2 y0.2.1 y0.2.2.1 y0.2.2.2.1 y0.2.2.2.2 yb0
  have hc := D7i [.agg [.t true (.int .i64) y0.1.1, .t true (.int .i64) y0.1.2.1, .t true (.int .i64) y0.1.2.2.1, .t false (.sl (.pair (.int .i64) (.pair (.sl (.pair (.int .i64) (.pair .str .str))) (.pair (.int .i64) (.sl (.int .i64)))))) y0.1.2.2.2.1, .t false (.sl (.pair (.int .i64) .bool)) y0.1.2.2.2.2.1, .t true (.int .i64) y0.1.2.2.2.2.2, .t false (.sl (.pair (.int .i64) (.pair (.sl (.pair (.int .i64) (.pair (.int .i64) (.sl (.pair (.int .i64) (.pair .str .str)))))) (.pair (.int .i64) (.pair (.sl (.pair .str .str)) (.sl (.pair (.int .i64) (.pair (.int .i64) (.sl (.pair (.int .i64) (.pair .str .str))))))))))) y0.2.1, .t false (.sl (.pair (.int .i64) (.pair (.int .i64) (.pair (.int .i64) (.pair (.sl (.pair (.int .i64) (.pair .str .str))) .bool))))) y0.2.2.1, .t false (.sl (.pair (.int .i64) (.pair (.int .i64) (.pair (.int .i64) (.pair (.sl (.pair (.int .i64) (.pair .str .str))) .bool))))) y0.2.2.2.1, .t false (.sl (.pair (.int .i64) (.sl (.pair (.int .i64) (.pair .str .str))))) y0.2.2.2.2]] (.t true .bool true) []
    (by show some ((AV.t true .bool (A8q y0.1.1 y0.1.2.1 y0.1.2.2.1 y0.1.2.2.2.1 y0.1.2.2.2.2.1 y0.1.2.2.2.2.2 y0.2.1 y0.2.2.1 y0.2.2.2.1 y0.2.2.2.2)), ([] : List AObj), A7w _) = _; rw [C93 y0.1.1 y0.1.2.1 y0.1.2.2.1 y0.1.2.2.2.1 y0.1.2.2.2.2.1 y0.1.2.2.2.2.2 y0.2.1 y0.2.2.1 y0.2.2.2.1 y0.2.2.2.2 yb0]; exact congrArg (fun b => some (AV.t true .bool true, ([] : List AObj), b)) hb) rfl rfl W #[v0] rfl (fun i c hi => by
      cases i with
      | zero => obtain rfl : _ = c := Option.some.inj hi; exact ya0
      | succ i =>
          simp at hi)
  refine hc.mono fun e W' he => ?_
  obtain ⟨v, η', rfl, I, r⟩ := he
  obtain rfl := A6x r
  have hbelow := A6s [] I
  exact ⟨_, rfl, [d0], [], p, [], p, [], hW', trodAll_mk1 (shut_bool Tryz.underlying4 true), trodAll_mk1 (Below.trod Tryz.laidOut (by kernel_rfl) (of_decide_eq_true (by kernel_rfl)) h0 hbelow (fun x hx => by have := hW'.lt x (by simp [hx]); simpa using this)), rfl, hbelow.frame _, fun h => by cases h⟩
theorem holds : Rows.FnExactWorldOkSaid :=
  OpenClaim.holds_of_wide 4 Tryz.f4 rfl rfl rfl rfl rfl rfl rfl ⟨rfl, rfl, rfl, rfl, rfl⟩ rfl rfl rfl rfl rfl (by kernel_rfl) Tryz.func4 (by kernel_rfl)
    (of_decide_eq_true (by kernel_rfl)) (by unfold Func.isWrapper; first | (rw [if_pos (by decide +kernel)]; kernel_rfl) | (rw [if_neg (by decide +kernel)]; exact ⟨rfl, rfl⟩))
    (fun os started H enc _ => lifted os started H enc)
end Go.Proofs.YtcofibhklbfgoaaGreat
