/-
  No cell of these rows narrows 'for every input' (looked for: loops, veiled, ifaces, maps, wideKeys, modest, calm, conditions, laid).
  DERIVED. THE GIVEN ROWS OF THIS SEAT. 12 by the template 'for every input the law returns true; each argument reads behind the call as it read before'; 0 by the template 'total and deterministic' (their statements: YtccelbeahdcooaaTotals.lean).
  GIVEN WITH THE SEED: the statements are not yours to turn. If you find one false, say at which input.
  Laid BY PROGRAM, IN A SANDBOX (cutbox-rows.mjs): the forced cells as the released guide's own fill.sh prints them over the translation e4c68566e67080fc… (all of the seat's roots in one cut). By AI agents, Wed Nov 11 2026. No macro, syntax, notation, axiom, sorry.
-/
import Derived.Test.YtccelbeahdcooaaChecked
import GoSem.Claim
import GoSem.ClaimJoined
import GoSem.ClaimMapViews
import Derived.JoinedTies
import Derived.KernelRfl
namespace Go.Proofs.Ytccelbeahdcooaa
/- THE CELL 'sum', in the pinned program and in every row, IS THE sha256 OF THE DUMP (.gsa) THAT YtccelbeahdcooaaProg.lean LOADS. Nothing in Lean hashes anything: it is a label: what it is worth is what the hold of that sum in a sandbox is worth. -/
noncomputable def Try.pinned : Pinned := { name := "ytccelbeahdcooaa", sum := "e4c68566e67080fc14284a2963100f4950c24f5118c04eb070c82876abb6e90f", checked := Try.checked }
namespace Rows
def none {H : Type} : Left H := { results := [], args := [] }

/-- 'laws.FnExactPutRec': WHATEVER THE INPUT: true; the input reads as it did. -/
def fnExactPutRecSpec : ChangeSpec := { name := "fnExactPutRec", fn := fun _ => fun
  | [d] => { results := [.lit (.bool true)], args := [d] }
  | _ => none }
def fnExactPutRecRow : OpenClaim := { program := "ytccelbeahdcooaa", sum := "e4c68566e67080fc14284a2963100f4950c24f5118c04eb070c82876abb6e90f", func := "loop.example/g00244/laws.FnExactPutRec", spec := "fnExactPutRec", unfollowed := true, recurses := true, apart := false }
def FnExactPutRecSaid : Prop := fnExactPutRecRow.holds Try.pinned (OpenSpec.ofChange fnExactPutRecSpec)

/-- ITS FALSE NEIGHBOUR: 'it returns false'. Refute it at one input. -/
def fnExactPutRecWrong : ChangeSpec := { name := "fnExactPutRec", fn := fun _ => fun
  | [d] => { results := [.lit (.bool false)], args := [d] }
  | _ => none }
def FnExactPutRecWrongFalsely : Prop := fnExactPutRecRow.holds Try.pinned (OpenSpec.ofChange fnExactPutRecWrong)

/-- 'laws.FnRecs': WHATEVER THE INPUT: true; the input reads as it did. -/
def fnRecsSpec : ChangeSpec := { name := "fnRecs", fn := fun _ => fun
  | [d] => { results := [.lit (.bool true)], args := [d] }
  | _ => none }
def fnRecsRow : OpenClaim := { program := "ytccelbeahdcooaa", sum := "e4c68566e67080fc14284a2963100f4950c24f5118c04eb070c82876abb6e90f", func := "loop.example/g00244/laws.FnRecs", spec := "fnRecs", unfollowed := true, recurses := true, apart := false }
def FnRecsSaid : Prop := fnRecsRow.holds Try.pinned (OpenSpec.ofChange fnRecsSpec)

/-- ITS FALSE NEIGHBOUR: 'it returns false'. Refute it at one input. -/
def fnRecsWrong : ChangeSpec := { name := "fnRecs", fn := fun _ => fun
  | [d] => { results := [.lit (.bool false)], args := [d] }
  | _ => none }
def FnRecsWrongFalsely : Prop := fnRecsRow.holds Try.pinned (OpenSpec.ofChange fnRecsWrong)

/-- 'laws.FnScanned': WHATEVER THE INPUT: true; the input reads as it did. -/
def fnScannedSpec : ChangeSpec := { name := "fnScanned", fn := fun _ => fun
  | [d] => { results := [.lit (.bool true)], args := [d] }
  | _ => none }
def fnScannedRow : OpenClaim := { program := "ytccelbeahdcooaa", sum := "e4c68566e67080fc14284a2963100f4950c24f5118c04eb070c82876abb6e90f", func := "loop.example/g00244/laws.FnScanned", spec := "fnScanned", unfollowed := true, recurses := true, apart := false }
def FnScannedSaid : Prop := fnScannedRow.holds Try.pinned (OpenSpec.ofChange fnScannedSpec)

/-- ITS FALSE NEIGHBOUR: 'it returns false'. Refute it at one input. -/
def fnScannedWrong : ChangeSpec := { name := "fnScanned", fn := fun _ => fun
  | [d] => { results := [.lit (.bool false)], args := [d] }
  | _ => none }
def FnScannedWrongFalsely : Prop := fnScannedRow.holds Try.pinned (OpenSpec.ofChange fnScannedWrong)

/-- 'laws.FnFlipped': WHATEVER THE INPUT: true; the input reads as it did. -/
def fnFlippedSpec : ChangeSpec := { name := "fnFlipped", fn := fun _ => fun
  | [d] => { results := [.lit (.bool true)], args := [d] }
  | _ => none }
def fnFlippedRow : OpenClaim := { program := "ytccelbeahdcooaa", sum := "e4c68566e67080fc14284a2963100f4950c24f5118c04eb070c82876abb6e90f", func := "loop.example/g00244/laws.FnFlipped", spec := "fnFlipped", unfollowed := true, recurses := true, apart := false }
def FnFlippedSaid : Prop := fnFlippedRow.holds Try.pinned (OpenSpec.ofChange fnFlippedSpec)

/-- ITS FALSE NEIGHBOUR: 'it returns false'. Refute it at one input. -/
def fnFlippedWrong : ChangeSpec := { name := "fnFlipped", fn := fun _ => fun
  | [d] => { results := [.lit (.bool false)], args := [d] }
  | _ => none }
def FnFlippedWrongFalsely : Prop := fnFlippedRow.holds Try.pinned (OpenSpec.ofChange fnFlippedWrong)

/-- 'laws.FnExactGetRec': WHATEVER THE INPUT: true; the input reads as it did. -/
def fnExactGetRecSpec : ChangeSpec := { name := "fnExactGetRec", fn := fun _ => fun
  | [d1, d2] => { results := [.lit (.bool true)], args := [d1, d2] }
  | _ => none }
def fnExactGetRecRow : OpenClaim := { program := "ytccelbeahdcooaa", sum := "e4c68566e67080fc14284a2963100f4950c24f5118c04eb070c82876abb6e90f", func := "loop.example/g00244/laws.FnExactGetRec", spec := "fnExactGetRec", unfollowed := true, recurses := true, apart := false }
def FnExactGetRecSaid : Prop := fnExactGetRecRow.holds Try.pinned (OpenSpec.ofChange fnExactGetRecSpec)

/-- ITS FALSE NEIGHBOUR: 'it returns false'. Refute it at one input. -/
def fnExactGetRecWrong : ChangeSpec := { name := "fnExactGetRec", fn := fun _ => fun
  | [d1, d2] => { results := [.lit (.bool false)], args := [d1, d2] }
  | _ => none }
def FnExactGetRecWrongFalsely : Prop := fnExactGetRecRow.holds Try.pinned (OpenSpec.ofChange fnExactGetRecWrong)

/-- 'laws.FnRecsRead': WHATEVER THE INPUT: true; the input reads as it did. -/
def fnRecsReadSpec : ChangeSpec := { name := "fnRecsRead", fn := fun _ => fun
  | [d] => { results := [.lit (.bool true)], args := [d] }
  | _ => none }
def fnRecsReadRow : OpenClaim := { program := "ytccelbeahdcooaa", sum := "e4c68566e67080fc14284a2963100f4950c24f5118c04eb070c82876abb6e90f", func := "loop.example/g00244/laws.FnRecsRead", spec := "fnRecsRead", unfollowed := true, recurses := true, apart := false }
def FnRecsReadSaid : Prop := fnRecsReadRow.holds Try.pinned (OpenSpec.ofChange fnRecsReadSpec)

/-- ITS FALSE NEIGHBOUR: 'it returns false'. Refute it at one input. -/
def fnRecsReadWrong : ChangeSpec := { name := "fnRecsRead", fn := fun _ => fun
  | [d] => { results := [.lit (.bool false)], args := [d] }
  | _ => none }
def FnRecsReadWrongFalsely : Prop := fnRecsReadRow.holds Try.pinned (OpenSpec.ofChange fnRecsReadWrong)

/-- 'laws.FnExactReadRecs': WHATEVER THE INPUT: true; the input reads as it did. -/
def fnExactReadRecsSpec : ChangeSpec := { name := "fnExactReadRecs", fn := fun _ => fun
  | [d] => { results := [.lit (.bool true)], args := [d] }
  | _ => none }
def fnExactReadRecsRow : OpenClaim := { program := "ytccelbeahdcooaa", sum := "e4c68566e67080fc14284a2963100f4950c24f5118c04eb070c82876abb6e90f", func := "loop.example/g00244/laws.FnExactReadRecs", spec := "fnExactReadRecs", unfollowed := true, recurses := true, apart := false }
def FnExactReadRecsSaid : Prop := fnExactReadRecsRow.holds Try.pinned (OpenSpec.ofChange fnExactReadRecsSpec)

/-- ITS FALSE NEIGHBOUR: 'it returns false'. Refute it at one input. -/
def fnExactReadRecsWrong : ChangeSpec := { name := "fnExactReadRecs", fn := fun _ => fun
  | [d] => { results := [.lit (.bool false)], args := [d] }
  | _ => none }
def FnExactReadRecsWrongFalsely : Prop := fnExactReadRecsRow.holds Try.pinned (OpenSpec.ofChange fnExactReadRecsWrong)

/-- 'laws.FnExactReplayRecs': WHATEVER THE INPUT: true; the input reads as it did. -/
def fnExactReplayRecsSpec : ChangeSpec := { name := "fnExactReplayRecs", fn := fun _ => fun
  | [d] => { results := [.lit (.bool true)], args := [d] }
  | _ => none }
def fnExactReplayRecsRow : OpenClaim := { program := "ytccelbeahdcooaa", sum := "e4c68566e67080fc14284a2963100f4950c24f5118c04eb070c82876abb6e90f", func := "loop.example/g00244/laws.FnExactReplayRecs", spec := "fnExactReplayRecs", inPlace := ["slices.overlaps[loop.example/g00244/impl.Pair]"], unfollowed := true, recurses := true, apart := false }
def FnExactReplayRecsSaid : Prop := fnExactReplayRecsRow.holds Try.pinned (OpenSpec.ofChange fnExactReplayRecsSpec)

/-- ITS FALSE NEIGHBOUR: 'it returns false'. Refute it at one input. -/
def fnExactReplayRecsWrong : ChangeSpec := { name := "fnExactReplayRecs", fn := fun _ => fun
  | [d] => { results := [.lit (.bool false)], args := [d] }
  | _ => none }
def FnExactReplayRecsWrongFalsely : Prop := fnExactReplayRecsRow.holds Try.pinned (OpenSpec.ofChange fnExactReplayRecsWrong)

/-- 'laws.FnReplayed': WHATEVER THE INPUT: true; the input reads as it did. -/
def fnReplayedSpec : ChangeSpec := { name := "fnReplayed", fn := fun _ => fun
  | [d] => { results := [.lit (.bool true)], args := [d] }
  | _ => none }
def fnReplayedRow : OpenClaim := { program := "ytccelbeahdcooaa", sum := "e4c68566e67080fc14284a2963100f4950c24f5118c04eb070c82876abb6e90f", func := "loop.example/g00244/laws.FnReplayed", spec := "fnReplayed", inPlace := ["slices.overlaps[loop.example/g00244/impl.Pair]"], unfollowed := true, recurses := true, apart := false }
def FnReplayedSaid : Prop := fnReplayedRow.holds Try.pinned (OpenSpec.ofChange fnReplayedSpec)

/-- ITS FALSE NEIGHBOUR: 'it returns false'. Refute it at one input. -/
def fnReplayedWrong : ChangeSpec := { name := "fnReplayed", fn := fun _ => fun
  | [d] => { results := [.lit (.bool false)], args := [d] }
  | _ => none }
def FnReplayedWrongFalsely : Prop := fnReplayedRow.holds Try.pinned (OpenSpec.ofChange fnReplayedWrong)

/-- 'laws.FnExactShardOk': WHATEVER THE INPUT: true; the input reads as it did. -/
def fnExactShardOkSpec : ChangeSpec := { name := "fnExactShardOk", fn := fun _ => fun
  | [d] => { results := [.lit (.bool true)], args := [d] }
  | _ => none }
def fnExactShardOkRow : OpenClaim := { program := "ytccelbeahdcooaa", sum := "e4c68566e67080fc14284a2963100f4950c24f5118c04eb070c82876abb6e90f", func := "loop.example/g00244/laws.FnExactShardOk", spec := "fnExactShardOk", inPlace := ["slices.overlaps[loop.example/g00244/impl.Pair]"], unfollowed := true, recurses := true, apart := false }
def FnExactShardOkSaid : Prop := fnExactShardOkRow.holds Try.pinned (OpenSpec.ofChange fnExactShardOkSpec)

/-- ITS FALSE NEIGHBOUR: 'it returns false'. Refute it at one input. -/
def fnExactShardOkWrong : ChangeSpec := { name := "fnExactShardOk", fn := fun _ => fun
  | [d] => { results := [.lit (.bool false)], args := [d] }
  | _ => none }
def FnExactShardOkWrongFalsely : Prop := fnExactShardOkRow.holds Try.pinned (OpenSpec.ofChange fnExactShardOkWrong)

/-- 'laws.FnExactOutcome': WHATEVER THE INPUT: true; the input reads as it did. -/
def fnExactOutcomeSpec : ChangeSpec := { name := "fnExactOutcome", fn := fun _ => fun
  | [d1, d2] => { results := [.lit (.bool true)], args := [d1, d2] }
  | _ => none }
def fnExactOutcomeRow : OpenClaim := { program := "ytccelbeahdcooaa", sum := "e4c68566e67080fc14284a2963100f4950c24f5118c04eb070c82876abb6e90f", func := "loop.example/g00244/laws.FnExactOutcome", spec := "fnExactOutcome", inPlace := ["slices.overlaps[loop.example/g00244/impl.Pair]"], unfollowed := true, recurses := true, apart := false }
def FnExactOutcomeSaid : Prop := fnExactOutcomeRow.holds Try.pinned (OpenSpec.ofChange fnExactOutcomeSpec)

/-- ITS FALSE NEIGHBOUR: 'it returns false'. Refute it at one input. -/
def fnExactOutcomeWrong : ChangeSpec := { name := "fnExactOutcome", fn := fun _ => fun
  | [d1, d2] => { results := [.lit (.bool false)], args := [d1, d2] }
  | _ => none }
def FnExactOutcomeWrongFalsely : Prop := fnExactOutcomeRow.holds Try.pinned (OpenSpec.ofChange fnExactOutcomeWrong)

/-- 'laws.FnShardsOk': WHATEVER THE INPUT: true; the input reads as it did. -/
def fnShardsOkSpec : ChangeSpec := { name := "fnShardsOk", fn := fun _ => fun
  | [d] => { results := [.lit (.bool true)], args := [d] }
  | _ => none }
def fnShardsOkRow : OpenClaim := { program := "ytccelbeahdcooaa", sum := "e4c68566e67080fc14284a2963100f4950c24f5118c04eb070c82876abb6e90f", func := "loop.example/g00244/laws.FnShardsOk", spec := "fnShardsOk", inPlace := ["slices.overlaps[loop.example/g00244/impl.Pair]"], unfollowed := true, recurses := true, apart := false }
def FnShardsOkSaid : Prop := fnShardsOkRow.holds Try.pinned (OpenSpec.ofChange fnShardsOkSpec)

/-- ITS FALSE NEIGHBOUR: 'it returns false'. Refute it at one input. -/
def fnShardsOkWrong : ChangeSpec := { name := "fnShardsOk", fn := fun _ => fun
  | [d] => { results := [.lit (.bool false)], args := [d] }
  | _ => none }
def FnShardsOkWrongFalsely : Prop := fnShardsOkRow.holds Try.pinned (OpenSpec.ofChange fnShardsOkWrong)

/- THE SECOND FORM. 'bulk': how many values and letters a reading holds, each counted each time it is reached (what is shared counts as often as it is met; a slice's spare places count too). A statement '..UptoSaid' is the law's where the arguments, and the package variables that the reading takes, are together of bulk at most 1048576: NARROWER than '..Said'. Prove '..Said' where nothing that the law and all that it calls make is longer than what came in: it says more and counts as full. Else prove '..UptoSaid'. A law counts once. -/
mutual
def uptoBulk {H : Type} : DataW H → Nat
  | .lit (.string bytes) => bytes.length + 1
  | .lit _ => 1
  | .nil => 1
  | .ptr d => uptoBulk d + 1
  | .slice elems spare => uptoBulkAll elems + uptoBulkAll spare + 1
  | .agg parts => uptoBulkAll parts + 1
  | .iface _ d => uptoBulk d + 1
  | .map entries => uptoBulkEntries entries + 1
  | .held _ => 1
def uptoBulkAll {H : Type} : List (DataW H) → Nat
  | [] => 0
  | d :: r => uptoBulk d + uptoBulkAll r
def uptoBulkEntries {H : Type} : List (Lit × DataW H) → Nat
  | [] => 0
  | x :: r => uptoBulkEntry x + uptoBulkEntries r
def uptoBulkEntry {H : Type} : Lit × DataW H → Nat
  | (.string bytes, d) => bytes.length + uptoBulk d + 1
  | (_, d) => uptoBulk d + 1
 end
def uptoSmall : (H : Type) → List (DataW H) → Bool := fun _ ds => decide (uptoBulkAll ds ≤ 1048576)
def OpenSpec.upto (s : _root_.Go.ChangeSpec) : _root_.Go.OpenSpec := { _root_.Go.OpenSpec.ofChange s with cond := some uptoSmall }

/-- 'laws.FnExactPutRec', WHERE WHAT IT READS IS OF BULK AT MOST 1048576: true; the input reads as it did. -/
def fnExactPutRecUptoRow : OpenClaim := { program := "ytccelbeahdcooaa", sum := "e4c68566e67080fc14284a2963100f4950c24f5118c04eb070c82876abb6e90f", func := "loop.example/g00244/laws.FnExactPutRec", spec := "fnExactPutRec", unfollowed := true, recurses := true, apart := false, narrowed := true }
def FnExactPutRecUptoSaid : Prop := fnExactPutRecUptoRow.holds Try.pinned (OpenSpec.upto fnExactPutRecSpec)

/-- 'laws.FnRecs', WHERE WHAT IT READS IS OF BULK AT MOST 1048576: true; the input reads as it did. -/
def fnRecsUptoRow : OpenClaim := { program := "ytccelbeahdcooaa", sum := "e4c68566e67080fc14284a2963100f4950c24f5118c04eb070c82876abb6e90f", func := "loop.example/g00244/laws.FnRecs", spec := "fnRecs", unfollowed := true, recurses := true, apart := false, narrowed := true }
def FnRecsUptoSaid : Prop := fnRecsUptoRow.holds Try.pinned (OpenSpec.upto fnRecsSpec)

/-- 'laws.FnScanned', WHERE WHAT IT READS IS OF BULK AT MOST 1048576: true; the input reads as it did. -/
def fnScannedUptoRow : OpenClaim := { program := "ytccelbeahdcooaa", sum := "e4c68566e67080fc14284a2963100f4950c24f5118c04eb070c82876abb6e90f", func := "loop.example/g00244/laws.FnScanned", spec := "fnScanned", unfollowed := true, recurses := true, apart := false, narrowed := true }
def FnScannedUptoSaid : Prop := fnScannedUptoRow.holds Try.pinned (OpenSpec.upto fnScannedSpec)

/-- 'laws.FnFlipped', WHERE WHAT IT READS IS OF BULK AT MOST 1048576: true; the input reads as it did. -/
def fnFlippedUptoRow : OpenClaim := { program := "ytccelbeahdcooaa", sum := "e4c68566e67080fc14284a2963100f4950c24f5118c04eb070c82876abb6e90f", func := "loop.example/g00244/laws.FnFlipped", spec := "fnFlipped", unfollowed := true, recurses := true, apart := false, narrowed := true }
def FnFlippedUptoSaid : Prop := fnFlippedUptoRow.holds Try.pinned (OpenSpec.upto fnFlippedSpec)

/-- 'laws.FnExactGetRec', WHERE WHAT IT READS IS OF BULK AT MOST 1048576: true; the input reads as it did. -/
def fnExactGetRecUptoRow : OpenClaim := { program := "ytccelbeahdcooaa", sum := "e4c68566e67080fc14284a2963100f4950c24f5118c04eb070c82876abb6e90f", func := "loop.example/g00244/laws.FnExactGetRec", spec := "fnExactGetRec", unfollowed := true, recurses := true, apart := false, narrowed := true }
def FnExactGetRecUptoSaid : Prop := fnExactGetRecUptoRow.holds Try.pinned (OpenSpec.upto fnExactGetRecSpec)

/-- 'laws.FnRecsRead', WHERE WHAT IT READS IS OF BULK AT MOST 1048576: true; the input reads as it did. -/
def fnRecsReadUptoRow : OpenClaim := { program := "ytccelbeahdcooaa", sum := "e4c68566e67080fc14284a2963100f4950c24f5118c04eb070c82876abb6e90f", func := "loop.example/g00244/laws.FnRecsRead", spec := "fnRecsRead", unfollowed := true, recurses := true, apart := false, narrowed := true }
def FnRecsReadUptoSaid : Prop := fnRecsReadUptoRow.holds Try.pinned (OpenSpec.upto fnRecsReadSpec)

/-- 'laws.FnExactReadRecs', WHERE WHAT IT READS IS OF BULK AT MOST 1048576: true; the input reads as it did. -/
def fnExactReadRecsUptoRow : OpenClaim := { program := "ytccelbeahdcooaa", sum := "e4c68566e67080fc14284a2963100f4950c24f5118c04eb070c82876abb6e90f", func := "loop.example/g00244/laws.FnExactReadRecs", spec := "fnExactReadRecs", unfollowed := true, recurses := true, apart := false, narrowed := true }
def FnExactReadRecsUptoSaid : Prop := fnExactReadRecsUptoRow.holds Try.pinned (OpenSpec.upto fnExactReadRecsSpec)

/-- 'laws.FnExactReplayRecs', WHERE WHAT IT READS IS OF BULK AT MOST 1048576: true; the input reads as it did. -/
def fnExactReplayRecsUptoRow : OpenClaim := { program := "ytccelbeahdcooaa", sum := "e4c68566e67080fc14284a2963100f4950c24f5118c04eb070c82876abb6e90f", func := "loop.example/g00244/laws.FnExactReplayRecs", spec := "fnExactReplayRecs", inPlace := ["slices.overlaps[loop.example/g00244/impl.Pair]"], unfollowed := true, recurses := true, apart := false, narrowed := true }
def FnExactReplayRecsUptoSaid : Prop := fnExactReplayRecsUptoRow.holds Try.pinned (OpenSpec.upto fnExactReplayRecsSpec)

/-- 'laws.FnReplayed', WHERE WHAT IT READS IS OF BULK AT MOST 1048576: true; the input reads as it did. -/
def fnReplayedUptoRow : OpenClaim := { program := "ytccelbeahdcooaa", sum := "e4c68566e67080fc14284a2963100f4950c24f5118c04eb070c82876abb6e90f", func := "loop.example/g00244/laws.FnReplayed", spec := "fnReplayed", inPlace := ["slices.overlaps[loop.example/g00244/impl.Pair]"], unfollowed := true, recurses := true, apart := false, narrowed := true }
def FnReplayedUptoSaid : Prop := fnReplayedUptoRow.holds Try.pinned (OpenSpec.upto fnReplayedSpec)

/-- 'laws.FnExactShardOk', WHERE WHAT IT READS IS OF BULK AT MOST 1048576: true; the input reads as it did. -/
def fnExactShardOkUptoRow : OpenClaim := { program := "ytccelbeahdcooaa", sum := "e4c68566e67080fc14284a2963100f4950c24f5118c04eb070c82876abb6e90f", func := "loop.example/g00244/laws.FnExactShardOk", spec := "fnExactShardOk", inPlace := ["slices.overlaps[loop.example/g00244/impl.Pair]"], unfollowed := true, recurses := true, apart := false, narrowed := true }
def FnExactShardOkUptoSaid : Prop := fnExactShardOkUptoRow.holds Try.pinned (OpenSpec.upto fnExactShardOkSpec)

/-- 'laws.FnExactOutcome', WHERE WHAT IT READS IS OF BULK AT MOST 1048576: true; the input reads as it did. -/
def fnExactOutcomeUptoRow : OpenClaim := { program := "ytccelbeahdcooaa", sum := "e4c68566e67080fc14284a2963100f4950c24f5118c04eb070c82876abb6e90f", func := "loop.example/g00244/laws.FnExactOutcome", spec := "fnExactOutcome", inPlace := ["slices.overlaps[loop.example/g00244/impl.Pair]"], unfollowed := true, recurses := true, apart := false, narrowed := true }
def FnExactOutcomeUptoSaid : Prop := fnExactOutcomeUptoRow.holds Try.pinned (OpenSpec.upto fnExactOutcomeSpec)

/-- 'laws.FnShardsOk', WHERE WHAT IT READS IS OF BULK AT MOST 1048576: true; the input reads as it did. -/
def fnShardsOkUptoRow : OpenClaim := { program := "ytccelbeahdcooaa", sum := "e4c68566e67080fc14284a2963100f4950c24f5118c04eb070c82876abb6e90f", func := "loop.example/g00244/laws.FnShardsOk", spec := "fnShardsOk", inPlace := ["slices.overlaps[loop.example/g00244/impl.Pair]"], unfollowed := true, recurses := true, apart := false, narrowed := true }
def FnShardsOkUptoSaid : Prop := fnShardsOkUptoRow.holds Try.pinned (OpenSpec.upto fnShardsOkSpec)

end Rows
end Go.Proofs.Ytccelbeahdcooaa
