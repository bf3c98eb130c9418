/-
  No cell of these rows narrows 'for every input' (looked for: loops, veiled, ifaces, maps, wideKeys, modest, calm, conditions, laid).
  DERIVED. THE GIVEN ROWS OF THIS SEAT. 4 by the template 'for every input the law returns true; each argument reads behind the call as it read before'; 0 by the template 'total and deterministic' (their statements: YtcofibhklbfgoaaTotals.lean).
  GIVEN WITH THE SEED: the statements are not yours to turn. If you find one false, say at which input.
  Laid BY PROGRAM, IN A SANDBOX (cutbox-rows.mjs): the forced cells as the released guide's own fill.sh prints them over the translation 7107758919932ad9… (all of the seat's roots in one cut). By AI agents, Wed Nov 11 2026. No macro, syntax, notation, axiom, sorry.
-/
import Derived.Test.YtcofibhklbfgoaaChecked
import GoSem.Claim
import GoSem.ClaimJoined
import GoSem.ClaimMapViews
import Derived.JoinedTies
import Derived.KernelRfl
namespace Go.Proofs.Ytcofibhklbfgoaa
/- THE CELL 'sum', in the pinned program and in every row, IS THE sha256 OF THE DUMP (.gsa) THAT YtcofibhklbfgoaaProg.lean LOADS. Nothing in Lean hashes anything: it is a label: what it is worth is what the hold of that sum in a sandbox is worth. -/
noncomputable def Try.pinned : Pinned := { name := "ytcofibhklbfgoaa", sum := "7107758919932ad944b6965f1ec0390936c4d5fdab64000e3738dba2cf55fb37", checked := Try.checked }
namespace Rows
def none {H : Type} : Left H := { results := [], args := [] }

/-- 'laws.FnExactWorldNew': WHATEVER THE INPUT: true; the input reads as it did. -/
def fnExactWorldNewSpec : ChangeSpec := { name := "fnExactWorldNew", fn := fun _ => fun
  | [d] => { results := [.lit (.bool true)], args := [d] }
  | _ => none }
def fnExactWorldNewRow : OpenClaim := { program := "ytcofibhklbfgoaa", sum := "7107758919932ad944b6965f1ec0390936c4d5fdab64000e3738dba2cf55fb37", func := "loop.example/g00244/laws.FnExactWorldNew", spec := "fnExactWorldNew", apart := false }
def FnExactWorldNewSaid : Prop := fnExactWorldNewRow.holds Try.pinned (OpenSpec.ofChange fnExactWorldNewSpec)

/-- ITS FALSE NEIGHBOUR: 'it returns false'. Refute it at one input. -/
def fnExactWorldNewWrong : ChangeSpec := { name := "fnExactWorldNew", fn := fun _ => fun
  | [d] => { results := [.lit (.bool false)], args := [d] }
  | _ => none }
def FnExactWorldNewWrongFalsely : Prop := fnExactWorldNewRow.holds Try.pinned (OpenSpec.ofChange fnExactWorldNewWrong)

/-- 'laws.FnExactBacked': WHATEVER THE INPUT: true; the input reads as it did. -/
def fnExactBackedSpec : ChangeSpec := { name := "fnExactBacked", fn := fun _ => fun
  | [d] => { results := [.lit (.bool true)], args := [d] }
  | _ => none }
def fnExactBackedRow : OpenClaim := { program := "ytcofibhklbfgoaa", sum := "7107758919932ad944b6965f1ec0390936c4d5fdab64000e3738dba2cf55fb37", func := "loop.example/g00244/laws.FnExactBacked", spec := "fnExactBacked", apart := false }
def FnExactBackedSaid : Prop := fnExactBackedRow.holds Try.pinned (OpenSpec.ofChange fnExactBackedSpec)

/-- ITS FALSE NEIGHBOUR: 'it returns false'. Refute it at one input. -/
def fnExactBackedWrong : ChangeSpec := { name := "fnExactBacked", fn := fun _ => fun
  | [d] => { results := [.lit (.bool false)], args := [d] }
  | _ => none }
def FnExactBackedWrongFalsely : Prop := fnExactBackedRow.holds Try.pinned (OpenSpec.ofChange fnExactBackedWrong)

/-- 'laws.FnExactNoSplit': WHATEVER THE INPUT: true; the input reads as it did. -/
def fnExactNoSplitSpec : ChangeSpec := { name := "fnExactNoSplit", fn := fun _ => fun
  | [d] => { results := [.lit (.bool true)], args := [d] }
  | _ => none }
def fnExactNoSplitRow : OpenClaim := { program := "ytcofibhklbfgoaa", sum := "7107758919932ad944b6965f1ec0390936c4d5fdab64000e3738dba2cf55fb37", func := "loop.example/g00244/laws.FnExactNoSplit", spec := "fnExactNoSplit", apart := false }
def FnExactNoSplitSaid : Prop := fnExactNoSplitRow.holds Try.pinned (OpenSpec.ofChange fnExactNoSplitSpec)

/-- ITS FALSE NEIGHBOUR: 'it returns false'. Refute it at one input. -/
def fnExactNoSplitWrong : ChangeSpec := { name := "fnExactNoSplit", fn := fun _ => fun
  | [d] => { results := [.lit (.bool false)], args := [d] }
  | _ => none }
def FnExactNoSplitWrongFalsely : Prop := fnExactNoSplitRow.holds Try.pinned (OpenSpec.ofChange fnExactNoSplitWrong)

/-- 'laws.FnExactWhole': WHATEVER THE INPUT: true; the input reads as it did. -/
def fnExactWholeSpec : ChangeSpec := { name := "fnExactWhole", fn := fun _ => fun
  | [d] => { results := [.lit (.bool true)], args := [d] }
  | _ => none }
def fnExactWholeRow : OpenClaim := { program := "ytcofibhklbfgoaa", sum := "7107758919932ad944b6965f1ec0390936c4d5fdab64000e3738dba2cf55fb37", func := "loop.example/g00244/laws.FnExactWhole", spec := "fnExactWhole", unfollowed := true, recurses := true, apart := false }
def FnExactWholeSaid : Prop := fnExactWholeRow.holds Try.pinned (OpenSpec.ofChange fnExactWholeSpec)

/-- ITS FALSE NEIGHBOUR: 'it returns false'. Refute it at one input. -/
def fnExactWholeWrong : ChangeSpec := { name := "fnExactWhole", fn := fun _ => fun
  | [d] => { results := [.lit (.bool false)], args := [d] }
  | _ => none }
def FnExactWholeWrongFalsely : Prop := fnExactWholeRow.holds Try.pinned (OpenSpec.ofChange fnExactWholeWrong)

/- THE SECOND FORM. 'bulk': how many values and letters a reading holds, each counted each time it is reached (what is shared counts as often as it is met; a slice's spare places count too). A statement '..UptoSaid' is the law's where the arguments, and the package variables that the reading takes, are together of bulk at most 1048576: NARROWER than '..Said'. Prove '..Said' where nothing that the law and all that it calls make is longer than what came in: it says more and counts as full. Else prove '..UptoSaid'. A law counts once. -/
mutual
def uptoBulk {H : Type} : DataW H → Nat
  | .lit (.string bytes) => bytes.length + 1
  | .lit _ => 1
  | .nil => 1
  | .ptr d => uptoBulk d + 1
  | .slice elems spare => uptoBulkAll elems + uptoBulkAll spare + 1
  | .agg parts => uptoBulkAll parts + 1
  | .iface _ d => uptoBulk d + 1
  | .map entries => uptoBulkEntries entries + 1
  | .held _ => 1
def uptoBulkAll {H : Type} : List (DataW H) → Nat
  | [] => 0
  | d :: r => uptoBulk d + uptoBulkAll r
def uptoBulkEntries {H : Type} : List (Lit × DataW H) → Nat
  | [] => 0
  | x :: r => uptoBulkEntry x + uptoBulkEntries r
def uptoBulkEntry {H : Type} : Lit × DataW H → Nat
  | (.string bytes, d) => bytes.length + uptoBulk d + 1
  | (_, d) => uptoBulk d + 1
 end
def uptoSmall : (H : Type) → List (DataW H) → Bool := fun _ ds => decide (uptoBulkAll ds ≤ 1048576)
def OpenSpec.upto (s : _root_.Go.ChangeSpec) : _root_.Go.OpenSpec := { _root_.Go.OpenSpec.ofChange s with cond := some uptoSmall }

/-- 'laws.FnExactWorldNew', WHERE WHAT IT READS IS OF BULK AT MOST 1048576: true; the input reads as it did. -/
def fnExactWorldNewUptoRow : OpenClaim := { program := "ytcofibhklbfgoaa", sum := "7107758919932ad944b6965f1ec0390936c4d5fdab64000e3738dba2cf55fb37", func := "loop.example/g00244/laws.FnExactWorldNew", spec := "fnExactWorldNew", apart := false, narrowed := true }
def FnExactWorldNewUptoSaid : Prop := fnExactWorldNewUptoRow.holds Try.pinned (OpenSpec.upto fnExactWorldNewSpec)

/-- 'laws.FnExactBacked', WHERE WHAT IT READS IS OF BULK AT MOST 1048576: true; the input reads as it did. -/
def fnExactBackedUptoRow : OpenClaim := { program := "ytcofibhklbfgoaa", sum := "7107758919932ad944b6965f1ec0390936c4d5fdab64000e3738dba2cf55fb37", func := "loop.example/g00244/laws.FnExactBacked", spec := "fnExactBacked", apart := false, narrowed := true }
def FnExactBackedUptoSaid : Prop := fnExactBackedUptoRow.holds Try.pinned (OpenSpec.upto fnExactBackedSpec)

/-- 'laws.FnExactNoSplit', WHERE WHAT IT READS IS OF BULK AT MOST 1048576: true; the input reads as it did. -/
def fnExactNoSplitUptoRow : OpenClaim := { program := "ytcofibhklbfgoaa", sum := "7107758919932ad944b6965f1ec0390936c4d5fdab64000e3738dba2cf55fb37", func := "loop.example/g00244/laws.FnExactNoSplit", spec := "fnExactNoSplit", apart := false, narrowed := true }
def FnExactNoSplitUptoSaid : Prop := fnExactNoSplitUptoRow.holds Try.pinned (OpenSpec.upto fnExactNoSplitSpec)

/-- 'laws.FnExactWhole', WHERE WHAT IT READS IS OF BULK AT MOST 1048576: true; the input reads as it did. -/
def fnExactWholeUptoRow : OpenClaim := { program := "ytcofibhklbfgoaa", sum := "7107758919932ad944b6965f1ec0390936c4d5fdab64000e3738dba2cf55fb37", func := "loop.example/g00244/laws.FnExactWhole", spec := "fnExactWhole", unfollowed := true, recurses := true, apart := false, narrowed := true }
def FnExactWholeUptoSaid : Prop := fnExactWholeUptoRow.holds Try.pinned (OpenSpec.upto fnExactWholeSpec)

end Rows
end Go.Proofs.Ytcofibhklbfgoaa
