/- Proved: for every input the law FnExactHold answers true and leaves its arguments as they were. No conditions. -/
import Derived.Test.YtgglehejlddghaaGreatFExactHold
import Derived.Test.YtgglehejlddghaaGreatRows
import Derived.ProofKit
namespace Go.Proofs.YtgglehejlddghaaGreat
open Go.ChangeShapes Go.WideShapes Go.ChangeAt Go.RowKit Go.Proofs.YtgglehejlddghaaGreat.Eng
theorem Tryz.own : ownKnob Tryz.prog.godebug = none := by kernel_rfl
theorem Tryz.laidOut : laidOutB Tryz.prog = true := by kernel_rfl
theorem c25 : chk tt 9 25 (.pair (.int .i64) (.pair (.sl (.pair (.int .i64) (.pair (.int .i64) (.sl (.pair (.int .i64) (.pair .str .str)))))) (.pair (.int .i64) (.pair (.sl (.pair .str .str)) (.sl (.pair (.int .i64) (.pair (.int .i64) (.sl (.pair (.int .i64) (.pair .str .str)))))))))) = true := by kernel_rfl
theorem c3 : chk tt 9 3 (.int .i64) = true := by kernel_rfl
theorem c26 : chk tt 9 26 (.sl (.pair (.int .i64) (.pair .str .str))) = true := by kernel_rfl
set_option maxRecDepth 100000 in
theorem lifted (os : Os) (started : os.Started) (H : Type) (enc : TypeId × Value → H) :
    ReturnsInHanded {} Tryz.checked os 3 .any (Rows.fnExactHoldSpec.pre6 enc Tryz.prog Tryz.f3 Rows.fnExactHoldRow.domain false) (Rows.fnExactHoldSpec.post enc Tryz.prog Tryz.f3 false true false false) := by
  refine returnsInHanded_of_change (C := Tryz.checked) Tryz.own started (by kernel_rfl) Tryz.func3
    (ChangeSpec.witness6 (enc := enc) (C := Tryz.checked) false ⟨#[], #[.agg #[.int .i64 0, .slice none 0 0, .int .i64 0, .slice none 0 0, .slice none 0 0], .int .i64 0, .slice none 0 0], []⟩ 8 (by kernel_rfl) (by kernel_rfl) (by kernel_rfl) (by kernel_rfl)) ?_
  intro W base args ds gs before hval0 hW hcnd _
  have hval : ∀ (j : Nat) t v, Tryz.f3.params[j]? = some t → args[j]? = some v → Value.okWide Tryz.prog W .any base t v := hval0
  have hW' := hW
  obtain ⟨p, q, hA0, hV, rfl, hfz, hnd⟩ := hW
  have hA : DataW.TrodAll enc Tryz.prog W 0 (fun _ => true) true Tryz.f3.params.toList args.toList ds p := hA0
  rw [Tryz.params3] at hA hval
  obtain ⟨v0, v1, v2, d0, d1, d2, p0, p1, p2, rfl, rfl, rfl, h0, h1, h2⟩ := trodAll_three hA
  obtain ⟨rfl, rfl⟩ := trodVars_none hV
  simp only [List.append_nil, List.append_assoc] at hW'
  obtain ⟨y0, ya0, yb0⟩ := A7C (w := W) D6Q c25 Tryz.underlying25 (hval 0 25 v0 rfl rfl) h0
  have hc1 : v1.cells = #[v1] := by obtain ⟨_, rfl, _⟩ := open_int Tryz.underlying3 (hval 1 3 v1 rfl rfl) h1; rfl
  obtain ⟨y1, ya1, yb1⟩ := A7D (w := W) D6Q c3 rfl hc1 h1
  have hc2 : v2.cells = #[v2] := by obtain ⟨_, _, _, rfl⟩ := okWide_slice Tryz.underlying26 (hval 2 26 v2 rfl rfl); rfl
  obtain ⟨y2, ya2, yb2⟩ := A7D (w := W) D6Q c26 rfl hc2 h2
  have hb : A9f ((y0.1, y0.2.1, y0.2.2.1, y0.2.2.2.1, y0.2.2.2.2, ()), y1, y2, ()) = true := C3I y0.1 y0.2.1 y0.2.2.1 y0.2.2.2.1 y0.2.2.2.2 y1 y2 yb0 yb1 yb2
  have hc := C9T [.agg [.t true (.int .i64) y0.1, .t false (.sl (.pair (.int .i64) (.pair (.int .i64) (.sl (.pair (.int .i64) (.pair .str .str)))))) y0.2.1, .t true (.int .i64) y0.2.2.1, .t false (.sl (.pair .str .str)) y0.2.2.2.1, .t false (.sl (.pair (.int .i64) (.pair (.int .i64) (.sl (.pair (.int .i64) (.pair .str .str)))))) y0.2.2.2.2], .t false (.int .i64) y1, .t false (.sl (.pair (.int .i64) (.pair .str .str))) y2] (.t true .bool true) []
    (by show some ((AV.t true .bool (A9C y0.1 y0.2.1 y0.2.2.1 y0.2.2.2.1 y0.2.2.2.2 y1 y2)), ([] : List AObj), A9f _) = _; rw [C4D y0.1 y0.2.1 y0.2.2.1 y0.2.2.2.1 y0.2.2.2.2 y1 y2 yb0 yb1 yb2]; exact congrArg (fun b => some (AV.t true .bool true, ([] : List AObj), b)) hb) rfl rfl W #[v0, v1, v2] rfl (fun i c hi => by
      cases i with
      | zero => obtain rfl : _ = c := Option.some.inj hi; exact ya0
      | succ i =>
          cases i with
          | zero => obtain rfl : _ = c := Option.some.inj hi; exact ya1
          | succ i =>
              cases i with
              | zero => obtain rfl : _ = c := Option.some.inj hi; exact ya2
              | succ i =>
                  simp at hi)
  refine hc.mono fun e W' he => ?_
  obtain ⟨v, η', rfl, I, r⟩ := he
  obtain rfl := A7G r
  have hbelow := A7z [] I
  exact ⟨_, rfl, [d0, d1, d2], [], p0 ++ (p1 ++ p2), [], p0 ++ (p1 ++ p2), [], hW', trodAll_mk1 (shut_bool Tryz.underlying4 true), trodAll_mk3 (Below.trod Tryz.laidOut (by kernel_rfl) (of_decide_eq_true (by kernel_rfl)) h0 hbelow (fun x hx => by have := hW'.lt x (by simp [hx]); simpa using this)) (Below.trod Tryz.laidOut (by kernel_rfl) (of_decide_eq_true (by kernel_rfl)) h1 hbelow (fun x hx => by have := hW'.lt x (by simp [hx]); simpa using this)) (Below.trod Tryz.laidOut (by kernel_rfl) (of_decide_eq_true (by kernel_rfl)) h2 hbelow (fun x hx => by have := hW'.lt x (by simp [hx]); simpa using this)), rfl, hbelow.frame _, fun h => by cases h⟩
theorem holds : Rows.FnExactHoldSaid :=
  OpenClaim.holds_of_wide 3 Tryz.f3 rfl rfl rfl rfl rfl rfl rfl ⟨rfl, rfl, rfl, rfl, rfl⟩ rfl rfl rfl rfl rfl (by kernel_rfl) Tryz.func3 (by kernel_rfl)
    (of_decide_eq_true (by kernel_rfl)) (by unfold Func.isWrapper; first | (rw [if_pos (by decide +kernel)]; kernel_rfl) | (rw [if_neg (by decide +kernel)]; exact ⟨rfl, rfl⟩))
    (fun os started H enc _ => lifted os started H enc)
end Go.Proofs.YtgglehejlddghaaGreat
