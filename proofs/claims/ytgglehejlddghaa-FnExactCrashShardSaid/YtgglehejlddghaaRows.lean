/-
  No cell of these rows narrows 'for every input' (looked for: loops, veiled, ifaces, maps, wideKeys, modest, calm, conditions, laid).
  DERIVED. THE GIVEN ROWS OF THIS SEAT. 8 by the template 'for every input the law returns true; each argument reads behind the call as it read before'; 0 by the template 'total and deterministic' (their statements: YtgglehejlddghaaTotals.lean).
  GIVEN WITH THE SEED: the statements are not yours to turn. If you find one false, say at which input.
  Laid BY PROGRAM, IN A SANDBOX (cutbox-rows.mjs): the forced cells as the released guide's own fill.sh prints them over the translation a538db28cf4882ac… (all of the seat's roots in one cut). By AI agents, Wed Nov 11 2026. No macro, syntax, notation, axiom, sorry.
-/
import Derived.Test.YtgglehejlddghaaChecked
import GoSem.Claim
import GoSem.ClaimJoined
import GoSem.ClaimMapViews
import Derived.JoinedTies
import Derived.KernelRfl
namespace Go.Proofs.Ytgglehejlddghaa
/- THE CELL 'sum', in the pinned program and in every row, IS THE sha256 OF THE DUMP (.gsa) THAT YtgglehejlddghaaProg.lean LOADS. Nothing in Lean hashes anything: it is a label: what it is worth is what the hold of that sum in a sandbox is worth. -/
noncomputable def Try.pinned : Pinned := { name := "ytgglehejlddghaa", sum := "a538db28cf4882ac66c31dec5014ff69ad7060a7825102f2be4619f548082996", checked := Try.checked }
namespace Rows
def none {H : Type} : Left H := { results := [], args := [] }

/-- 'laws.FnOutcomes': WHATEVER THE INPUT: true; the input reads as it did. -/
def fnOutcomesSpec : ChangeSpec := { name := "fnOutcomes", fn := fun _ => fun
  | [d] => { results := [.lit (.bool true)], args := [d] }
  | _ => none }
def fnOutcomesRow : OpenClaim := { program := "ytgglehejlddghaa", sum := "a538db28cf4882ac66c31dec5014ff69ad7060a7825102f2be4619f548082996", func := "loop.example/g00244/laws.FnOutcomes", spec := "fnOutcomes", inPlace := ["slices.overlaps[loop.example/g00244/impl.Pair]"], unfollowed := true, recurses := true, apart := false }
def FnOutcomesSaid : Prop := fnOutcomesRow.holds Try.pinned (OpenSpec.ofChange fnOutcomesSpec)

/-- ITS FALSE NEIGHBOUR: 'it returns false'. Refute it at one input. -/
def fnOutcomesWrong : ChangeSpec := { name := "fnOutcomes", fn := fun _ => fun
  | [d] => { results := [.lit (.bool false)], args := [d] }
  | _ => none }
def FnOutcomesWrongFalsely : Prop := fnOutcomesRow.holds Try.pinned (OpenSpec.ofChange fnOutcomesWrong)

/-- 'laws.FnPrefixes': WHATEVER THE INPUT: true; the input reads as it did. -/
def fnPrefixesSpec : ChangeSpec := { name := "fnPrefixes", fn := fun _ => fun
  | [d] => { results := [.lit (.bool true)], args := [d] }
  | _ => none }
def fnPrefixesRow : OpenClaim := { program := "ytgglehejlddghaa", sum := "a538db28cf4882ac66c31dec5014ff69ad7060a7825102f2be4619f548082996", func := "loop.example/g00244/laws.FnPrefixes", spec := "fnPrefixes", inPlace := ["slices.overlaps[loop.example/g00244/impl.Pair]"], unfollowed := true, recurses := true, apart := false }
def FnPrefixesSaid : Prop := fnPrefixesRow.holds Try.pinned (OpenSpec.ofChange fnPrefixesSpec)

/-- ITS FALSE NEIGHBOUR: 'it returns false'. Refute it at one input. -/
def fnPrefixesWrong : ChangeSpec := { name := "fnPrefixes", fn := fun _ => fun
  | [d] => { results := [.lit (.bool false)], args := [d] }
  | _ => none }
def FnPrefixesWrongFalsely : Prop := fnPrefixesRow.holds Try.pinned (OpenSpec.ofChange fnPrefixesWrong)

/-- 'laws.FnCrashed': WHATEVER THE INPUT: true; the input reads as it did. -/
def fnCrashedSpec : ChangeSpec := { name := "fnCrashed", fn := fun _ => fun
  | [d] => { results := [.lit (.bool true)], args := [d] }
  | _ => none }
def fnCrashedRow : OpenClaim := { program := "ytgglehejlddghaa", sum := "a538db28cf4882ac66c31dec5014ff69ad7060a7825102f2be4619f548082996", func := "loop.example/g00244/laws.FnCrashed", spec := "fnCrashed", inPlace := ["slices.overlaps[loop.example/g00244/impl.Pair]"], unfollowed := true, recurses := true, apart := false }
def FnCrashedSaid : Prop := fnCrashedRow.holds Try.pinned (OpenSpec.ofChange fnCrashedSpec)

/-- ITS FALSE NEIGHBOUR: 'it returns false'. Refute it at one input. -/
def fnCrashedWrong : ChangeSpec := { name := "fnCrashed", fn := fun _ => fun
  | [d] => { results := [.lit (.bool false)], args := [d] }
  | _ => none }
def FnCrashedWrongFalsely : Prop := fnCrashedRow.holds Try.pinned (OpenSpec.ofChange fnCrashedWrong)

/-- 'laws.FnHeld': WHATEVER THE INPUT: true; the input reads as it did. -/
def fnHeldSpec : ChangeSpec := { name := "fnHeld", fn := fun _ => fun
  | [d] => { results := [.lit (.bool true)], args := [d] }
  | _ => none }
def fnHeldRow : OpenClaim := { program := "ytgglehejlddghaa", sum := "a538db28cf4882ac66c31dec5014ff69ad7060a7825102f2be4619f548082996", func := "loop.example/g00244/laws.FnHeld", spec := "fnHeld", inPlace := ["slices.overlaps[loop.example/g00244/impl.Pair]"], unfollowed := true, recurses := true, apart := false }
def FnHeldSaid : Prop := fnHeldRow.holds Try.pinned (OpenSpec.ofChange fnHeldSpec)

/-- ITS FALSE NEIGHBOUR: 'it returns false'. Refute it at one input. -/
def fnHeldWrong : ChangeSpec := { name := "fnHeld", fn := fun _ => fun
  | [d] => { results := [.lit (.bool false)], args := [d] }
  | _ => none }
def FnHeldWrongFalsely : Prop := fnHeldRow.holds Try.pinned (OpenSpec.ofChange fnHeldWrong)

/-- 'laws.FnDecided': WHATEVER THE INPUT: true; the input reads as it did. -/
def fnDecidedSpec : ChangeSpec := { name := "fnDecided", fn := fun _ => fun
  | [d] => { results := [.lit (.bool true)], args := [d] }
  | _ => none }
def fnDecidedRow : OpenClaim := { program := "ytgglehejlddghaa", sum := "a538db28cf4882ac66c31dec5014ff69ad7060a7825102f2be4619f548082996", func := "loop.example/g00244/laws.FnDecided", spec := "fnDecided", inPlace := ["slices.overlaps[loop.example/g00244/impl.Pair]"], unfollowed := true, recurses := true, apart := false }
def FnDecidedSaid : Prop := fnDecidedRow.holds Try.pinned (OpenSpec.ofChange fnDecidedSpec)

/-- ITS FALSE NEIGHBOUR: 'it returns false'. Refute it at one input. -/
def fnDecidedWrong : ChangeSpec := { name := "fnDecided", fn := fun _ => fun
  | [d] => { results := [.lit (.bool false)], args := [d] }
  | _ => none }
def FnDecidedWrongFalsely : Prop := fnDecidedRow.holds Try.pinned (OpenSpec.ofChange fnDecidedWrong)

/-- 'laws.FnExactMakeSure': WHATEVER THE INPUT: true; the input reads as it did. -/
def fnExactMakeSureSpec : ChangeSpec := { name := "fnExactMakeSure", fn := fun _ => fun
  | [d] => { results := [.lit (.bool true)], args := [d] }
  | _ => none }
def fnExactMakeSureRow : OpenClaim := { program := "ytgglehejlddghaa", sum := "a538db28cf4882ac66c31dec5014ff69ad7060a7825102f2be4619f548082996", func := "loop.example/g00244/laws.FnExactMakeSure", spec := "fnExactMakeSure", inPlace := ["slices.overlaps[loop.example/g00244/impl.Pair]"], unfollowed := true, recurses := true, apart := false }
def FnExactMakeSureSaid : Prop := fnExactMakeSureRow.holds Try.pinned (OpenSpec.ofChange fnExactMakeSureSpec)

/-- ITS FALSE NEIGHBOUR: 'it returns false'. Refute it at one input. -/
def fnExactMakeSureWrong : ChangeSpec := { name := "fnExactMakeSure", fn := fun _ => fun
  | [d] => { results := [.lit (.bool false)], args := [d] }
  | _ => none }
def FnExactMakeSureWrongFalsely : Prop := fnExactMakeSureRow.holds Try.pinned (OpenSpec.ofChange fnExactMakeSureWrong)

/-- 'laws.FnExactCrashShard': WHATEVER THE INPUT: true; the input reads as it did. -/
def fnExactCrashShardSpec : ChangeSpec := { name := "fnExactCrashShard", fn := fun _ => fun
  | [d1, d2] => { results := [.lit (.bool true)], args := [d1, d2] }
  | _ => none }
def fnExactCrashShardRow : OpenClaim := { program := "ytgglehejlddghaa", sum := "a538db28cf4882ac66c31dec5014ff69ad7060a7825102f2be4619f548082996", func := "loop.example/g00244/laws.FnExactCrashShard", spec := "fnExactCrashShard", inPlace := ["slices.overlaps[loop.example/g00244/impl.Pair]"], unfollowed := true, recurses := true, apart := false }
def FnExactCrashShardSaid : Prop := fnExactCrashShardRow.holds Try.pinned (OpenSpec.ofChange fnExactCrashShardSpec)

/-- ITS FALSE NEIGHBOUR: 'it returns false'. Refute it at one input. -/
def fnExactCrashShardWrong : ChangeSpec := { name := "fnExactCrashShard", fn := fun _ => fun
  | [d1, d2] => { results := [.lit (.bool false)], args := [d1, d2] }
  | _ => none }
def FnExactCrashShardWrongFalsely : Prop := fnExactCrashShardRow.holds Try.pinned (OpenSpec.ofChange fnExactCrashShardWrong)

/-- 'laws.FnExactDecide': WHATEVER THE INPUT: true; the input reads as it did. -/
def fnExactDecideSpec : ChangeSpec := { name := "fnExactDecide", fn := fun _ => fun
  | [d1, d2, d3] => { results := [.lit (.bool true)], args := [d1, d2, d3] }
  | _ => none }
def fnExactDecideRow : OpenClaim := { program := "ytgglehejlddghaa", sum := "a538db28cf4882ac66c31dec5014ff69ad7060a7825102f2be4619f548082996", func := "loop.example/g00244/laws.FnExactDecide", spec := "fnExactDecide", inPlace := ["slices.overlaps[loop.example/g00244/impl.Pair]"], unfollowed := true, recurses := true, apart := false }
def FnExactDecideSaid : Prop := fnExactDecideRow.holds Try.pinned (OpenSpec.ofChange fnExactDecideSpec)

/-- ITS FALSE NEIGHBOUR: 'it returns false'. Refute it at one input. -/
def fnExactDecideWrong : ChangeSpec := { name := "fnExactDecide", fn := fun _ => fun
  | [d1, d2, d3] => { results := [.lit (.bool false)], args := [d1, d2, d3] }
  | _ => none }
def FnExactDecideWrongFalsely : Prop := fnExactDecideRow.holds Try.pinned (OpenSpec.ofChange fnExactDecideWrong)

/- THE SECOND FORM. 'bulk': how many values and letters a reading holds, each counted each time it is reached (what is shared counts as often as it is met; a slice's spare places count too). A statement '..UptoSaid' is the law's where the arguments, and the package variables that the reading takes, are together of bulk at most 1048576: NARROWER than '..Said'. Prove '..Said' where nothing that the law and all that it calls make is longer than what came in: it says more and counts as full. Else prove '..UptoSaid'. A law counts once. -/
mutual
def uptoBulk {H : Type} : DataW H → Nat
  | .lit (.string bytes) => bytes.length + 1
  | .lit _ => 1
  | .nil => 1
  | .ptr d => uptoBulk d + 1
  | .slice elems spare => uptoBulkAll elems + uptoBulkAll spare + 1
  | .agg parts => uptoBulkAll parts + 1
  | .iface _ d => uptoBulk d + 1
  | .map entries => uptoBulkEntries entries + 1
  | .held _ => 1
def uptoBulkAll {H : Type} : List (DataW H) → Nat
  | [] => 0
  | d :: r => uptoBulk d + uptoBulkAll r
def uptoBulkEntries {H : Type} : List (Lit × DataW H) → Nat
  | [] => 0
  | x :: r => uptoBulkEntry x + uptoBulkEntries r
def uptoBulkEntry {H : Type} : Lit × DataW H → Nat
  | (.string bytes, d) => bytes.length + uptoBulk d + 1
  | (_, d) => uptoBulk d + 1
 end
def uptoSmall : (H : Type) → List (DataW H) → Bool := fun _ ds => decide (uptoBulkAll ds ≤ 1048576)
def OpenSpec.upto (s : _root_.Go.ChangeSpec) : _root_.Go.OpenSpec := { _root_.Go.OpenSpec.ofChange s with cond := some uptoSmall }

/-- 'laws.FnOutcomes', WHERE WHAT IT READS IS OF BULK AT MOST 1048576: true; the input reads as it did. -/
def fnOutcomesUptoRow : OpenClaim := { program := "ytgglehejlddghaa", sum := "a538db28cf4882ac66c31dec5014ff69ad7060a7825102f2be4619f548082996", func := "loop.example/g00244/laws.FnOutcomes", spec := "fnOutcomes", inPlace := ["slices.overlaps[loop.example/g00244/impl.Pair]"], unfollowed := true, recurses := true, apart := false, narrowed := true }
def FnOutcomesUptoSaid : Prop := fnOutcomesUptoRow.holds Try.pinned (OpenSpec.upto fnOutcomesSpec)

/-- 'laws.FnPrefixes', WHERE WHAT IT READS IS OF BULK AT MOST 1048576: true; the input reads as it did. -/
def fnPrefixesUptoRow : OpenClaim := { program := "ytgglehejlddghaa", sum := "a538db28cf4882ac66c31dec5014ff69ad7060a7825102f2be4619f548082996", func := "loop.example/g00244/laws.FnPrefixes", spec := "fnPrefixes", inPlace := ["slices.overlaps[loop.example/g00244/impl.Pair]"], unfollowed := true, recurses := true, apart := false, narrowed := true }
def FnPrefixesUptoSaid : Prop := fnPrefixesUptoRow.holds Try.pinned (OpenSpec.upto fnPrefixesSpec)

/-- 'laws.FnCrashed', WHERE WHAT IT READS IS OF BULK AT MOST 1048576: true; the input reads as it did. -/
def fnCrashedUptoRow : OpenClaim := { program := "ytgglehejlddghaa", sum := "a538db28cf4882ac66c31dec5014ff69ad7060a7825102f2be4619f548082996", func := "loop.example/g00244/laws.FnCrashed", spec := "fnCrashed", inPlace := ["slices.overlaps[loop.example/g00244/impl.Pair]"], unfollowed := true, recurses := true, apart := false, narrowed := true }
def FnCrashedUptoSaid : Prop := fnCrashedUptoRow.holds Try.pinned (OpenSpec.upto fnCrashedSpec)

/-- 'laws.FnHeld', WHERE WHAT IT READS IS OF BULK AT MOST 1048576: true; the input reads as it did. -/
def fnHeldUptoRow : OpenClaim := { program := "ytgglehejlddghaa", sum := "a538db28cf4882ac66c31dec5014ff69ad7060a7825102f2be4619f548082996", func := "loop.example/g00244/laws.FnHeld", spec := "fnHeld", inPlace := ["slices.overlaps[loop.example/g00244/impl.Pair]"], unfollowed := true, recurses := true, apart := false, narrowed := true }
def FnHeldUptoSaid : Prop := fnHeldUptoRow.holds Try.pinned (OpenSpec.upto fnHeldSpec)

/-- 'laws.FnDecided', WHERE WHAT IT READS IS OF BULK AT MOST 1048576: true; the input reads as it did. -/
def fnDecidedUptoRow : OpenClaim := { program := "ytgglehejlddghaa", sum := "a538db28cf4882ac66c31dec5014ff69ad7060a7825102f2be4619f548082996", func := "loop.example/g00244/laws.FnDecided", spec := "fnDecided", inPlace := ["slices.overlaps[loop.example/g00244/impl.Pair]"], unfollowed := true, recurses := true, apart := false, narrowed := true }
def FnDecidedUptoSaid : Prop := fnDecidedUptoRow.holds Try.pinned (OpenSpec.upto fnDecidedSpec)

/-- 'laws.FnExactMakeSure', WHERE WHAT IT READS IS OF BULK AT MOST 1048576: true; the input reads as it did. -/
def fnExactMakeSureUptoRow : OpenClaim := { program := "ytgglehejlddghaa", sum := "a538db28cf4882ac66c31dec5014ff69ad7060a7825102f2be4619f548082996", func := "loop.example/g00244/laws.FnExactMakeSure", spec := "fnExactMakeSure", inPlace := ["slices.overlaps[loop.example/g00244/impl.Pair]"], unfollowed := true, recurses := true, apart := false, narrowed := true }
def FnExactMakeSureUptoSaid : Prop := fnExactMakeSureUptoRow.holds Try.pinned (OpenSpec.upto fnExactMakeSureSpec)

/-- 'laws.FnExactCrashShard', WHERE WHAT IT READS IS OF BULK AT MOST 1048576: true; the input reads as it did. -/
def fnExactCrashShardUptoRow : OpenClaim := { program := "ytgglehejlddghaa", sum := "a538db28cf4882ac66c31dec5014ff69ad7060a7825102f2be4619f548082996", func := "loop.example/g00244/laws.FnExactCrashShard", spec := "fnExactCrashShard", inPlace := ["slices.overlaps[loop.example/g00244/impl.Pair]"], unfollowed := true, recurses := true, apart := false, narrowed := true }
def FnExactCrashShardUptoSaid : Prop := fnExactCrashShardUptoRow.holds Try.pinned (OpenSpec.upto fnExactCrashShardSpec)

/-- 'laws.FnExactDecide', WHERE WHAT IT READS IS OF BULK AT MOST 1048576: true; the input reads as it did. -/
def fnExactDecideUptoRow : OpenClaim := { program := "ytgglehejlddghaa", sum := "a538db28cf4882ac66c31dec5014ff69ad7060a7825102f2be4619f548082996", func := "loop.example/g00244/laws.FnExactDecide", spec := "fnExactDecide", inPlace := ["slices.overlaps[loop.example/g00244/impl.Pair]"], unfollowed := true, recurses := true, apart := false, narrowed := true }
def FnExactDecideUptoSaid : Prop := fnExactDecideUptoRow.holds Try.pinned (OpenSpec.upto fnExactDecideSpec)

end Rows
end Go.Proofs.Ytgglehejlddghaa
