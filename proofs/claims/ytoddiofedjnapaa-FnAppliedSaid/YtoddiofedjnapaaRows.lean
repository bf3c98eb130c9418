/-
  No cell of these rows narrows 'for every input' (looked for: loops, veiled, ifaces, maps, wideKeys, modest, calm, conditions, laid).
  DERIVED. THE GIVEN ROWS OF THIS SEAT. 12 by the template 'for every input the law returns true; each argument reads behind the call as it read before'; 0 by the template 'total and deterministic' (their statements: YtoddiofedjnapaaTotals.lean).
  GIVEN WITH THE SEED: the statements are not yours to turn. If you find one false, say at which input.
  Laid BY PROGRAM, IN A SANDBOX (cutbox-rows.mjs): the forced cells as the released guide's own fill.sh prints them over the translation fd7a54c1df01268f… (all of the seat's roots in one cut). By AI agents, Wed Nov 11 2026. No macro, syntax, notation, axiom, sorry.
-/
import Derived.Test.YtoddiofedjnapaaChecked
import GoSem.Claim
import GoSem.ClaimJoined
import GoSem.ClaimMapViews
import Derived.JoinedTies
import Derived.KernelRfl
namespace Go.Proofs.Ytoddiofedjnapaa
/- THE CELL 'sum', in the pinned program and in every row, IS THE sha256 OF THE DUMP (.gsa) THAT YtoddiofedjnapaaProg.lean LOADS. Nothing in Lean hashes anything: it is a label: what it is worth is what the hold of that sum in a sandbox is worth. -/
noncomputable def Try.pinned : Pinned := { name := "ytoddiofedjnapaa", sum := "fd7a54c1df01268fac0c44a4279889ee7d31d1a7b9ff33804dab679c190cffd4", checked := Try.checked }
namespace Rows
def none {H : Type} : Left H := { results := [], args := [] }

/-- 'laws.FnExactRecOk': WHATEVER THE INPUT: true; the input reads as it did. -/
def fnExactRecOkSpec : ChangeSpec := { name := "fnExactRecOk", fn := fun _ => fun
  | [d] => { results := [.lit (.bool true)], args := [d] }
  | _ => none }
def fnExactRecOkRow : OpenClaim := { program := "ytoddiofedjnapaa", sum := "fd7a54c1df01268fac0c44a4279889ee7d31d1a7b9ff33804dab679c190cffd4", func := "loop.example/g00244/laws.FnExactRecOk", spec := "fnExactRecOk", apart := false }
def FnExactRecOkSaid : Prop := fnExactRecOkRow.holds Try.pinned (OpenSpec.ofChange fnExactRecOkSpec)

/-- ITS FALSE NEIGHBOUR: 'it returns false'. Refute it at one input. -/
def fnExactRecOkWrong : ChangeSpec := { name := "fnExactRecOk", fn := fun _ => fun
  | [d] => { results := [.lit (.bool false)], args := [d] }
  | _ => none }
def FnExactRecOkWrongFalsely : Prop := fnExactRecOkRow.holds Try.pinned (OpenSpec.ofChange fnExactRecOkWrong)

/-- 'laws.FnExactWordOk': WHATEVER THE INPUT: true; the input reads as it did. -/
def fnExactWordOkSpec : ChangeSpec := { name := "fnExactWordOk", fn := fun _ => fun
  | [d] => { results := [.lit (.bool true)], args := [d] }
  | _ => none }
def fnExactWordOkRow : OpenClaim := { program := "ytoddiofedjnapaa", sum := "fd7a54c1df01268fac0c44a4279889ee7d31d1a7b9ff33804dab679c190cffd4", func := "loop.example/g00244/laws.FnExactWordOk", spec := "fnExactWordOk", apart := false }
def FnExactWordOkSaid : Prop := fnExactWordOkRow.holds Try.pinned (OpenSpec.ofChange fnExactWordOkSpec)

/-- ITS FALSE NEIGHBOUR: 'it returns false'. Refute it at one input. -/
def fnExactWordOkWrong : ChangeSpec := { name := "fnExactWordOk", fn := fun _ => fun
  | [d] => { results := [.lit (.bool false)], args := [d] }
  | _ => none }
def FnExactWordOkWrongFalsely : Prop := fnExactWordOkRow.holds Try.pinned (OpenSpec.ofChange fnExactWordOkWrong)

/-- 'laws.FnExactShardNew': WHATEVER THE INPUT: true; the input reads as it did. -/
def fnExactShardNewSpec : ChangeSpec := { name := "fnExactShardNew", fn := fun _ => fun
  | [d] => { results := [.lit (.bool true)], args := [d] }
  | _ => none }
def fnExactShardNewRow : OpenClaim := { program := "ytoddiofedjnapaa", sum := "fd7a54c1df01268fac0c44a4279889ee7d31d1a7b9ff33804dab679c190cffd4", func := "loop.example/g00244/laws.FnExactShardNew", spec := "fnExactShardNew", apart := false }
def FnExactShardNewSaid : Prop := fnExactShardNewRow.holds Try.pinned (OpenSpec.ofChange fnExactShardNewSpec)

/-- ITS FALSE NEIGHBOUR: 'it returns false'. Refute it at one input. -/
def fnExactShardNewWrong : ChangeSpec := { name := "fnExactShardNew", fn := fun _ => fun
  | [d] => { results := [.lit (.bool false)], args := [d] }
  | _ => none }
def FnExactShardNewWrongFalsely : Prop := fnExactShardNewRow.holds Try.pinned (OpenSpec.ofChange fnExactShardNewWrong)

/-- 'laws.FnExactCoordNew': WHATEVER THE INPUT: true; the input reads as it did. -/
def fnExactCoordNewSpec : ChangeSpec := { name := "fnExactCoordNew", fn := fun _ => fun
  | [d] => { results := [.lit (.bool true)], args := [d] }
  | _ => none }
def fnExactCoordNewRow : OpenClaim := { program := "ytoddiofedjnapaa", sum := "fd7a54c1df01268fac0c44a4279889ee7d31d1a7b9ff33804dab679c190cffd4", func := "loop.example/g00244/laws.FnExactCoordNew", spec := "fnExactCoordNew", apart := false }
def FnExactCoordNewSaid : Prop := fnExactCoordNewRow.holds Try.pinned (OpenSpec.ofChange fnExactCoordNewSpec)

/-- ITS FALSE NEIGHBOUR: 'it returns false'. Refute it at one input. -/
def fnExactCoordNewWrong : ChangeSpec := { name := "fnExactCoordNew", fn := fun _ => fun
  | [d] => { results := [.lit (.bool false)], args := [d] }
  | _ => none }
def FnExactCoordNewWrongFalsely : Prop := fnExactCoordNewRow.holds Try.pinned (OpenSpec.ofChange fnExactCoordNewWrong)

/-- 'laws.FnExactPutWord': WHATEVER THE INPUT: true; the input reads as it did. -/
def fnExactPutWordSpec : ChangeSpec := { name := "fnExactPutWord", fn := fun _ => fun
  | [d] => { results := [.lit (.bool true)], args := [d] }
  | _ => none }
def fnExactPutWordRow : OpenClaim := { program := "ytoddiofedjnapaa", sum := "fd7a54c1df01268fac0c44a4279889ee7d31d1a7b9ff33804dab679c190cffd4", func := "loop.example/g00244/laws.FnExactPutWord", spec := "fnExactPutWord", apart := false }
def FnExactPutWordSaid : Prop := fnExactPutWordRow.holds Try.pinned (OpenSpec.ofChange fnExactPutWordSpec)

/-- ITS FALSE NEIGHBOUR: 'it returns false'. Refute it at one input. -/
def fnExactPutWordWrong : ChangeSpec := { name := "fnExactPutWord", fn := fun _ => fun
  | [d] => { results := [.lit (.bool false)], args := [d] }
  | _ => none }
def FnExactPutWordWrongFalsely : Prop := fnExactPutWordRow.holds Try.pinned (OpenSpec.ofChange fnExactPutWordWrong)

/-- 'laws.FnExactApply': WHATEVER THE INPUT: true; the input reads as it did. -/
def fnExactApplySpec : ChangeSpec := { name := "fnExactApply", fn := fun _ => fun
  | [d1, d2] => { results := [.lit (.bool true)], args := [d1, d2] }
  | _ => none }
def fnExactApplyRow : OpenClaim := { program := "ytoddiofedjnapaa", sum := "fd7a54c1df01268fac0c44a4279889ee7d31d1a7b9ff33804dab679c190cffd4", func := "loop.example/g00244/laws.FnExactApply", spec := "fnExactApply", inPlace := ["slices.overlaps[loop.example/g00244/impl.Pair]"], unfollowed := true, recurses := true, apart := false }
def FnExactApplySaid : Prop := fnExactApplyRow.holds Try.pinned (OpenSpec.ofChange fnExactApplySpec)

/-- ITS FALSE NEIGHBOUR: 'it returns false'. Refute it at one input. -/
def fnExactApplyWrong : ChangeSpec := { name := "fnExactApply", fn := fun _ => fun
  | [d1, d2] => { results := [.lit (.bool false)], args := [d1, d2] }
  | _ => none }
def FnExactApplyWrongFalsely : Prop := fnExactApplyRow.holds Try.pinned (OpenSpec.ofChange fnExactApplyWrong)

/-- 'laws.FnOps': WHATEVER THE INPUT: true; the input reads as it did. -/
def fnOpsSpec : ChangeSpec := { name := "fnOps", fn := fun _ => fun
  | [d] => { results := [.lit (.bool true)], args := [d] }
  | _ => none }
def fnOpsRow : OpenClaim := { program := "ytoddiofedjnapaa", sum := "fd7a54c1df01268fac0c44a4279889ee7d31d1a7b9ff33804dab679c190cffd4", func := "loop.example/g00244/laws.FnOps", spec := "fnOps", apart := false }
def FnOpsSaid : Prop := fnOpsRow.holds Try.pinned (OpenSpec.ofChange fnOpsSpec)

/-- ITS FALSE NEIGHBOUR: 'it returns false'. Refute it at one input. -/
def fnOpsWrong : ChangeSpec := { name := "fnOps", fn := fun _ => fun
  | [d] => { results := [.lit (.bool false)], args := [d] }
  | _ => none }
def FnOpsWrongFalsely : Prop := fnOpsRow.holds Try.pinned (OpenSpec.ofChange fnOpsWrong)

/-- 'laws.FnApplied': WHATEVER THE INPUT: true; the input reads as it did. -/
def fnAppliedSpec : ChangeSpec := { name := "fnApplied", fn := fun _ => fun
  | [d] => { results := [.lit (.bool true)], args := [d] }
  | _ => none }
def fnAppliedRow : OpenClaim := { program := "ytoddiofedjnapaa", sum := "fd7a54c1df01268fac0c44a4279889ee7d31d1a7b9ff33804dab679c190cffd4", func := "loop.example/g00244/laws.FnApplied", spec := "fnApplied", inPlace := ["slices.overlaps[loop.example/g00244/impl.Pair]"], unfollowed := true, recurses := true, apart := false }
def FnAppliedSaid : Prop := fnAppliedRow.holds Try.pinned (OpenSpec.ofChange fnAppliedSpec)

/-- ITS FALSE NEIGHBOUR: 'it returns false'. Refute it at one input. -/
def fnAppliedWrong : ChangeSpec := { name := "fnApplied", fn := fun _ => fun
  | [d] => { results := [.lit (.bool false)], args := [d] }
  | _ => none }
def FnAppliedWrongFalsely : Prop := fnAppliedRow.holds Try.pinned (OpenSpec.ofChange fnAppliedWrong)

/-- 'laws.FnExactGetWord': WHATEVER THE INPUT: true; the input reads as it did. -/
def fnExactGetWordSpec : ChangeSpec := { name := "fnExactGetWord", fn := fun _ => fun
  | [d] => { results := [.lit (.bool true)], args := [d] }
  | _ => none }
def fnExactGetWordRow : OpenClaim := { program := "ytoddiofedjnapaa", sum := "fd7a54c1df01268fac0c44a4279889ee7d31d1a7b9ff33804dab679c190cffd4", func := "loop.example/g00244/laws.FnExactGetWord", spec := "fnExactGetWord", apart := false }
def FnExactGetWordSaid : Prop := fnExactGetWordRow.holds Try.pinned (OpenSpec.ofChange fnExactGetWordSpec)

/-- ITS FALSE NEIGHBOUR: 'it returns false'. Refute it at one input. -/
def fnExactGetWordWrong : ChangeSpec := { name := "fnExactGetWord", fn := fun _ => fun
  | [d] => { results := [.lit (.bool false)], args := [d] }
  | _ => none }
def FnExactGetWordWrongFalsely : Prop := fnExactGetWordRow.holds Try.pinned (OpenSpec.ofChange fnExactGetWordWrong)

/-- 'laws.FnWords': WHATEVER THE INPUT: true; the input reads as it did. -/
def fnWordsSpec : ChangeSpec := { name := "fnWords", fn := fun _ => fun
  | [d] => { results := [.lit (.bool true)], args := [d] }
  | _ => none }
def fnWordsRow : OpenClaim := { program := "ytoddiofedjnapaa", sum := "fd7a54c1df01268fac0c44a4279889ee7d31d1a7b9ff33804dab679c190cffd4", func := "loop.example/g00244/laws.FnWords", spec := "fnWords", apart := false }
def FnWordsSaid : Prop := fnWordsRow.holds Try.pinned (OpenSpec.ofChange fnWordsSpec)

/-- ITS FALSE NEIGHBOUR: 'it returns false'. Refute it at one input. -/
def fnWordsWrong : ChangeSpec := { name := "fnWords", fn := fun _ => fun
  | [d] => { results := [.lit (.bool false)], args := [d] }
  | _ => none }
def FnWordsWrongFalsely : Prop := fnWordsRow.holds Try.pinned (OpenSpec.ofChange fnWordsWrong)

/-- 'laws.FnShards': WHATEVER THE INPUT: true; the input reads as it did. -/
def fnShardsSpec : ChangeSpec := { name := "fnShards", fn := fun _ => fun
  | [d] => { results := [.lit (.bool true)], args := [d] }
  | _ => none }
def fnShardsRow : OpenClaim := { program := "ytoddiofedjnapaa", sum := "fd7a54c1df01268fac0c44a4279889ee7d31d1a7b9ff33804dab679c190cffd4", func := "loop.example/g00244/laws.FnShards", spec := "fnShards", recurses := true, apart := false }
def FnShardsSaid : Prop := fnShardsRow.holds Try.pinned (OpenSpec.ofChange fnShardsSpec)

/-- ITS FALSE NEIGHBOUR: 'it returns false'. Refute it at one input. -/
def fnShardsWrong : ChangeSpec := { name := "fnShards", fn := fun _ => fun
  | [d] => { results := [.lit (.bool false)], args := [d] }
  | _ => none }
def FnShardsWrongFalsely : Prop := fnShardsRow.holds Try.pinned (OpenSpec.ofChange fnShardsWrong)

/-- 'laws.FnExactShardsOf': WHATEVER THE INPUT: true; the input reads as it did. -/
def fnExactShardsOfSpec : ChangeSpec := { name := "fnExactShardsOf", fn := fun _ => fun
  | [d1, d2] => { results := [.lit (.bool true)], args := [d1, d2] }
  | _ => none }
def fnExactShardsOfRow : OpenClaim := { program := "ytoddiofedjnapaa", sum := "fd7a54c1df01268fac0c44a4279889ee7d31d1a7b9ff33804dab679c190cffd4", func := "loop.example/g00244/laws.FnExactShardsOf", spec := "fnExactShardsOf", recurses := true, apart := false }
def FnExactShardsOfSaid : Prop := fnExactShardsOfRow.holds Try.pinned (OpenSpec.ofChange fnExactShardsOfSpec)

/-- ITS FALSE NEIGHBOUR: 'it returns false'. Refute it at one input. -/
def fnExactShardsOfWrong : ChangeSpec := { name := "fnExactShardsOf", fn := fun _ => fun
  | [d1, d2] => { results := [.lit (.bool false)], args := [d1, d2] }
  | _ => none }
def FnExactShardsOfWrongFalsely : Prop := fnExactShardsOfRow.holds Try.pinned (OpenSpec.ofChange fnExactShardsOfWrong)

/- THE SECOND FORM. 'bulk': how many values and letters a reading holds, each counted each time it is reached (what is shared counts as often as it is met; a slice's spare places count too). A statement '..UptoSaid' is the law's where the arguments, and the package variables that the reading takes, are together of bulk at most 1048576: NARROWER than '..Said'. Prove '..Said' where nothing that the law and all that it calls make is longer than what came in: it says more and counts as full. Else prove '..UptoSaid'. A law counts once. -/
mutual
def uptoBulk {H : Type} : DataW H → Nat
  | .lit (.string bytes) => bytes.length + 1
  | .lit _ => 1
  | .nil => 1
  | .ptr d => uptoBulk d + 1
  | .slice elems spare => uptoBulkAll elems + uptoBulkAll spare + 1
  | .agg parts => uptoBulkAll parts + 1
  | .iface _ d => uptoBulk d + 1
  | .map entries => uptoBulkEntries entries + 1
  | .held _ => 1
def uptoBulkAll {H : Type} : List (DataW H) → Nat
  | [] => 0
  | d :: r => uptoBulk d + uptoBulkAll r
def uptoBulkEntries {H : Type} : List (Lit × DataW H) → Nat
  | [] => 0
  | x :: r => uptoBulkEntry x + uptoBulkEntries r
def uptoBulkEntry {H : Type} : Lit × DataW H → Nat
  | (.string bytes, d) => bytes.length + uptoBulk d + 1
  | (_, d) => uptoBulk d + 1
 end
def uptoSmall : (H : Type) → List (DataW H) → Bool := fun _ ds => decide (uptoBulkAll ds ≤ 1048576)
def OpenSpec.upto (s : _root_.Go.ChangeSpec) : _root_.Go.OpenSpec := { _root_.Go.OpenSpec.ofChange s with cond := some uptoSmall }

/-- 'laws.FnExactRecOk', WHERE WHAT IT READS IS OF BULK AT MOST 1048576: true; the input reads as it did. -/
def fnExactRecOkUptoRow : OpenClaim := { program := "ytoddiofedjnapaa", sum := "fd7a54c1df01268fac0c44a4279889ee7d31d1a7b9ff33804dab679c190cffd4", func := "loop.example/g00244/laws.FnExactRecOk", spec := "fnExactRecOk", apart := false, narrowed := true }
def FnExactRecOkUptoSaid : Prop := fnExactRecOkUptoRow.holds Try.pinned (OpenSpec.upto fnExactRecOkSpec)

/-- 'laws.FnExactWordOk', WHERE WHAT IT READS IS OF BULK AT MOST 1048576: true; the input reads as it did. -/
def fnExactWordOkUptoRow : OpenClaim := { program := "ytoddiofedjnapaa", sum := "fd7a54c1df01268fac0c44a4279889ee7d31d1a7b9ff33804dab679c190cffd4", func := "loop.example/g00244/laws.FnExactWordOk", spec := "fnExactWordOk", apart := false, narrowed := true }
def FnExactWordOkUptoSaid : Prop := fnExactWordOkUptoRow.holds Try.pinned (OpenSpec.upto fnExactWordOkSpec)

/-- 'laws.FnExactShardNew', WHERE WHAT IT READS IS OF BULK AT MOST 1048576: true; the input reads as it did. -/
def fnExactShardNewUptoRow : OpenClaim := { program := "ytoddiofedjnapaa", sum := "fd7a54c1df01268fac0c44a4279889ee7d31d1a7b9ff33804dab679c190cffd4", func := "loop.example/g00244/laws.FnExactShardNew", spec := "fnExactShardNew", apart := false, narrowed := true }
def FnExactShardNewUptoSaid : Prop := fnExactShardNewUptoRow.holds Try.pinned (OpenSpec.upto fnExactShardNewSpec)

/-- 'laws.FnExactCoordNew', WHERE WHAT IT READS IS OF BULK AT MOST 1048576: true; the input reads as it did. -/
def fnExactCoordNewUptoRow : OpenClaim := { program := "ytoddiofedjnapaa", sum := "fd7a54c1df01268fac0c44a4279889ee7d31d1a7b9ff33804dab679c190cffd4", func := "loop.example/g00244/laws.FnExactCoordNew", spec := "fnExactCoordNew", apart := false, narrowed := true }
def FnExactCoordNewUptoSaid : Prop := fnExactCoordNewUptoRow.holds Try.pinned (OpenSpec.upto fnExactCoordNewSpec)

/-- 'laws.FnExactPutWord', WHERE WHAT IT READS IS OF BULK AT MOST 1048576: true; the input reads as it did. -/
def fnExactPutWordUptoRow : OpenClaim := { program := "ytoddiofedjnapaa", sum := "fd7a54c1df01268fac0c44a4279889ee7d31d1a7b9ff33804dab679c190cffd4", func := "loop.example/g00244/laws.FnExactPutWord", spec := "fnExactPutWord", apart := false, narrowed := true }
def FnExactPutWordUptoSaid : Prop := fnExactPutWordUptoRow.holds Try.pinned (OpenSpec.upto fnExactPutWordSpec)

/-- 'laws.FnExactApply', WHERE WHAT IT READS IS OF BULK AT MOST 1048576: true; the input reads as it did. -/
def fnExactApplyUptoRow : OpenClaim := { program := "ytoddiofedjnapaa", sum := "fd7a54c1df01268fac0c44a4279889ee7d31d1a7b9ff33804dab679c190cffd4", func := "loop.example/g00244/laws.FnExactApply", spec := "fnExactApply", inPlace := ["slices.overlaps[loop.example/g00244/impl.Pair]"], unfollowed := true, recurses := true, apart := false, narrowed := true }
def FnExactApplyUptoSaid : Prop := fnExactApplyUptoRow.holds Try.pinned (OpenSpec.upto fnExactApplySpec)

/-- 'laws.FnOps', WHERE WHAT IT READS IS OF BULK AT MOST 1048576: true; the input reads as it did. -/
def fnOpsUptoRow : OpenClaim := { program := "ytoddiofedjnapaa", sum := "fd7a54c1df01268fac0c44a4279889ee7d31d1a7b9ff33804dab679c190cffd4", func := "loop.example/g00244/laws.FnOps", spec := "fnOps", apart := false, narrowed := true }
def FnOpsUptoSaid : Prop := fnOpsUptoRow.holds Try.pinned (OpenSpec.upto fnOpsSpec)

/-- 'laws.FnApplied', WHERE WHAT IT READS IS OF BULK AT MOST 1048576: true; the input reads as it did. -/
def fnAppliedUptoRow : OpenClaim := { program := "ytoddiofedjnapaa", sum := "fd7a54c1df01268fac0c44a4279889ee7d31d1a7b9ff33804dab679c190cffd4", func := "loop.example/g00244/laws.FnApplied", spec := "fnApplied", inPlace := ["slices.overlaps[loop.example/g00244/impl.Pair]"], unfollowed := true, recurses := true, apart := false, narrowed := true }
def FnAppliedUptoSaid : Prop := fnAppliedUptoRow.holds Try.pinned (OpenSpec.upto fnAppliedSpec)

/-- 'laws.FnExactGetWord', WHERE WHAT IT READS IS OF BULK AT MOST 1048576: true; the input reads as it did. -/
def fnExactGetWordUptoRow : OpenClaim := { program := "ytoddiofedjnapaa", sum := "fd7a54c1df01268fac0c44a4279889ee7d31d1a7b9ff33804dab679c190cffd4", func := "loop.example/g00244/laws.FnExactGetWord", spec := "fnExactGetWord", apart := false, narrowed := true }
def FnExactGetWordUptoSaid : Prop := fnExactGetWordUptoRow.holds Try.pinned (OpenSpec.upto fnExactGetWordSpec)

/-- 'laws.FnWords', WHERE WHAT IT READS IS OF BULK AT MOST 1048576: true; the input reads as it did. -/
def fnWordsUptoRow : OpenClaim := { program := "ytoddiofedjnapaa", sum := "fd7a54c1df01268fac0c44a4279889ee7d31d1a7b9ff33804dab679c190cffd4", func := "loop.example/g00244/laws.FnWords", spec := "fnWords", apart := false, narrowed := true }
def FnWordsUptoSaid : Prop := fnWordsUptoRow.holds Try.pinned (OpenSpec.upto fnWordsSpec)

/-- 'laws.FnShards', WHERE WHAT IT READS IS OF BULK AT MOST 1048576: true; the input reads as it did. -/
def fnShardsUptoRow : OpenClaim := { program := "ytoddiofedjnapaa", sum := "fd7a54c1df01268fac0c44a4279889ee7d31d1a7b9ff33804dab679c190cffd4", func := "loop.example/g00244/laws.FnShards", spec := "fnShards", recurses := true, apart := false, narrowed := true }
def FnShardsUptoSaid : Prop := fnShardsUptoRow.holds Try.pinned (OpenSpec.upto fnShardsSpec)

/-- 'laws.FnExactShardsOf', WHERE WHAT IT READS IS OF BULK AT MOST 1048576: true; the input reads as it did. -/
def fnExactShardsOfUptoRow : OpenClaim := { program := "ytoddiofedjnapaa", sum := "fd7a54c1df01268fac0c44a4279889ee7d31d1a7b9ff33804dab679c190cffd4", func := "loop.example/g00244/laws.FnExactShardsOf", spec := "fnExactShardsOf", recurses := true, apart := false, narrowed := true }
def FnExactShardsOfUptoSaid : Prop := fnExactShardsOfUptoRow.holds Try.pinned (OpenSpec.upto fnExactShardsOfSpec)

end Rows
end Go.Proofs.Ytoddiofedjnapaa
