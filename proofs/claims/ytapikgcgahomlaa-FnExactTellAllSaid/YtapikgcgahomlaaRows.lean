/-
  No cell of these rows narrows 'for every input' (looked for: loops, veiled, ifaces, maps, wideKeys, modest, calm, conditions, laid).
  DERIVED. THE GIVEN ROWS OF THIS SEAT. 10 by the template 'for every input the law returns true; each argument reads behind the call as it read before'; 0 by the template 'total and deterministic' (their statements: YtapikgcgahomlaaTotals.lean).
  GIVEN WITH THE SEED: the statements are not yours to turn. If you find one false, say at which input.
  Laid BY PROGRAM, IN A SANDBOX (cutbox-rows.mjs): the forced cells as the released guide's own fill.sh prints them over the translation 5af9ca915c6d1b3a… (all of the seat's roots in one cut). By AI agents, Wed Nov 11 2026. No macro, syntax, notation, axiom, sorry.
-/
import Derived.Test.YtapikgcgahomlaaChecked
import GoSem.Claim
import GoSem.ClaimJoined
import GoSem.ClaimMapViews
import Derived.JoinedTies
import Derived.KernelRfl
namespace Go.Proofs.Ytapikgcgahomlaa
/- THE CELL 'sum', in the pinned program and in every row, IS THE sha256 OF THE DUMP (.gsa) THAT YtapikgcgahomlaaProg.lean LOADS. Nothing in Lean hashes anything: it is a label: what it is worth is what the hold of that sum in a sandbox is worth. -/
noncomputable def Try.pinned : Pinned := { name := "ytapikgcgahomlaa", sum := "5af9ca915c6d1b3afb6aaaf1a3594b0f6152f6072d422799641a83a34c5b5b22", checked := Try.checked }
namespace Rows
def none {H : Type} : Left H := { results := [], args := [] }

/-- 'laws.FnExactCoordOk': WHATEVER THE INPUT: true; the input reads as it did. -/
def fnExactCoordOkSpec : ChangeSpec := { name := "fnExactCoordOk", fn := fun _ => fun
  | [d] => { results := [.lit (.bool true)], args := [d] }
  | _ => none }
def fnExactCoordOkRow : OpenClaim := { program := "ytapikgcgahomlaa", sum := "5af9ca915c6d1b3afb6aaaf1a3594b0f6152f6072d422799641a83a34c5b5b22", func := "loop.example/g00244/laws.FnExactCoordOk", spec := "fnExactCoordOk", unfollowed := true, recurses := true, apart := false }
def FnExactCoordOkSaid : Prop := fnExactCoordOkRow.holds Try.pinned (OpenSpec.ofChange fnExactCoordOkSpec)

/-- ITS FALSE NEIGHBOUR: 'it returns false'. Refute it at one input. -/
def fnExactCoordOkWrong : ChangeSpec := { name := "fnExactCoordOk", fn := fun _ => fun
  | [d] => { results := [.lit (.bool false)], args := [d] }
  | _ => none }
def FnExactCoordOkWrongFalsely : Prop := fnExactCoordOkRow.holds Try.pinned (OpenSpec.ofChange fnExactCoordOkWrong)

/-- 'laws.FnExactAnswer': WHATEVER THE INPUT: true; the input reads as it did. -/
def fnExactAnswerSpec : ChangeSpec := { name := "fnExactAnswer", fn := fun _ => fun
  | [d1, d2] => { results := [.lit (.bool true)], args := [d1, d2] }
  | _ => none }
def fnExactAnswerRow : OpenClaim := { program := "ytapikgcgahomlaa", sum := "5af9ca915c6d1b3afb6aaaf1a3594b0f6152f6072d422799641a83a34c5b5b22", func := "loop.example/g00244/laws.FnExactAnswer", spec := "fnExactAnswer", unfollowed := true, recurses := true, apart := false }
def FnExactAnswerSaid : Prop := fnExactAnswerRow.holds Try.pinned (OpenSpec.ofChange fnExactAnswerSpec)

/-- ITS FALSE NEIGHBOUR: 'it returns false'. Refute it at one input. -/
def fnExactAnswerWrong : ChangeSpec := { name := "fnExactAnswer", fn := fun _ => fun
  | [d1, d2] => { results := [.lit (.bool false)], args := [d1, d2] }
  | _ => none }
def FnExactAnswerWrongFalsely : Prop := fnExactAnswerRow.holds Try.pinned (OpenSpec.ofChange fnExactAnswerWrong)

/-- 'laws.FnAnswered': WHATEVER THE INPUT: true; the input reads as it did. -/
def fnAnsweredSpec : ChangeSpec := { name := "fnAnswered", fn := fun _ => fun
  | [d] => { results := [.lit (.bool true)], args := [d] }
  | _ => none }
def fnAnsweredRow : OpenClaim := { program := "ytapikgcgahomlaa", sum := "5af9ca915c6d1b3afb6aaaf1a3594b0f6152f6072d422799641a83a34c5b5b22", func := "loop.example/g00244/laws.FnAnswered", spec := "fnAnswered", unfollowed := true, recurses := true, apart := false }
def FnAnsweredSaid : Prop := fnAnsweredRow.holds Try.pinned (OpenSpec.ofChange fnAnsweredSpec)

/-- ITS FALSE NEIGHBOUR: 'it returns false'. Refute it at one input. -/
def fnAnsweredWrong : ChangeSpec := { name := "fnAnswered", fn := fun _ => fun
  | [d] => { results := [.lit (.bool false)], args := [d] }
  | _ => none }
def FnAnsweredWrongFalsely : Prop := fnAnsweredRow.holds Try.pinned (OpenSpec.ofChange fnAnsweredWrong)

/-- 'laws.FnFell': WHATEVER THE INPUT: true; the input reads as it did. -/
def fnFellSpec : ChangeSpec := { name := "fnFell", fn := fun _ => fun
  | [d] => { results := [.lit (.bool true)], args := [d] }
  | _ => none }
def fnFellRow : OpenClaim := { program := "ytapikgcgahomlaa", sum := "5af9ca915c6d1b3afb6aaaf1a3594b0f6152f6072d422799641a83a34c5b5b22", func := "loop.example/g00244/laws.FnFell", spec := "fnFell", unfollowed := true, recurses := true, apart := false }
def FnFellSaid : Prop := fnFellRow.holds Try.pinned (OpenSpec.ofChange fnFellSpec)

/-- ITS FALSE NEIGHBOUR: 'it returns false'. Refute it at one input. -/
def fnFellWrong : ChangeSpec := { name := "fnFell", fn := fun _ => fun
  | [d] => { results := [.lit (.bool false)], args := [d] }
  | _ => none }
def FnFellWrongFalsely : Prop := fnFellRow.holds Try.pinned (OpenSpec.ofChange fnFellWrong)

/-- 'laws.FnVoted': WHATEVER THE INPUT: true; the input reads as it did. -/
def fnVotedSpec : ChangeSpec := { name := "fnVoted", fn := fun _ => fun
  | [d] => { results := [.lit (.bool true)], args := [d] }
  | _ => none }
def fnVotedRow : OpenClaim := { program := "ytapikgcgahomlaa", sum := "5af9ca915c6d1b3afb6aaaf1a3594b0f6152f6072d422799641a83a34c5b5b22", func := "loop.example/g00244/laws.FnVoted", spec := "fnVoted", unfollowed := true, recurses := true, apart := false }
def FnVotedSaid : Prop := fnVotedRow.holds Try.pinned (OpenSpec.ofChange fnVotedSpec)

/-- ITS FALSE NEIGHBOUR: 'it returns false'. Refute it at one input. -/
def fnVotedWrong : ChangeSpec := { name := "fnVoted", fn := fun _ => fun
  | [d] => { results := [.lit (.bool false)], args := [d] }
  | _ => none }
def FnVotedWrongFalsely : Prop := fnVotedRow.holds Try.pinned (OpenSpec.ofChange fnVotedWrong)

/-- 'laws.FnTells': WHATEVER THE INPUT: true; the input reads as it did. -/
def fnTellsSpec : ChangeSpec := { name := "fnTells", fn := fun _ => fun
  | [d] => { results := [.lit (.bool true)], args := [d] }
  | _ => none }
def fnTellsRow : OpenClaim := { program := "ytapikgcgahomlaa", sum := "5af9ca915c6d1b3afb6aaaf1a3594b0f6152f6072d422799641a83a34c5b5b22", func := "loop.example/g00244/laws.FnTells", spec := "fnTells", unfollowed := true, recurses := true, apart := false }
def FnTellsSaid : Prop := fnTellsRow.holds Try.pinned (OpenSpec.ofChange fnTellsSpec)

/-- ITS FALSE NEIGHBOUR: 'it returns false'. Refute it at one input. -/
def fnTellsWrong : ChangeSpec := { name := "fnTells", fn := fun _ => fun
  | [d] => { results := [.lit (.bool false)], args := [d] }
  | _ => none }
def FnTellsWrongFalsely : Prop := fnTellsRow.holds Try.pinned (OpenSpec.ofChange fnTellsWrong)

/-- 'laws.FnExactSureAll': WHATEVER THE INPUT: true; the input reads as it did. -/
def fnExactSureAllSpec : ChangeSpec := { name := "fnExactSureAll", fn := fun _ => fun
  | [d] => { results := [.lit (.bool true)], args := [d] }
  | _ => none }
def fnExactSureAllRow : OpenClaim := { program := "ytapikgcgahomlaa", sum := "5af9ca915c6d1b3afb6aaaf1a3594b0f6152f6072d422799641a83a34c5b5b22", func := "loop.example/g00244/laws.FnExactSureAll", spec := "fnExactSureAll", unfollowed := true, recurses := true, apart := false }
def FnExactSureAllSaid : Prop := fnExactSureAllRow.holds Try.pinned (OpenSpec.ofChange fnExactSureAllSpec)

/-- ITS FALSE NEIGHBOUR: 'it returns false'. Refute it at one input. -/
def fnExactSureAllWrong : ChangeSpec := { name := "fnExactSureAll", fn := fun _ => fun
  | [d] => { results := [.lit (.bool false)], args := [d] }
  | _ => none }
def FnExactSureAllWrongFalsely : Prop := fnExactSureAllRow.holds Try.pinned (OpenSpec.ofChange fnExactSureAllWrong)

/-- 'laws.FnExactCrashCoord': WHATEVER THE INPUT: true; the input reads as it did. -/
def fnExactCrashCoordSpec : ChangeSpec := { name := "fnExactCrashCoord", fn := fun _ => fun
  | [d1, d2] => { results := [.lit (.bool true)], args := [d1, d2] }
  | _ => none }
def fnExactCrashCoordRow : OpenClaim := { program := "ytapikgcgahomlaa", sum := "5af9ca915c6d1b3afb6aaaf1a3594b0f6152f6072d422799641a83a34c5b5b22", func := "loop.example/g00244/laws.FnExactCrashCoord", spec := "fnExactCrashCoord", unfollowed := true, recurses := true, apart := false }
def FnExactCrashCoordSaid : Prop := fnExactCrashCoordRow.holds Try.pinned (OpenSpec.ofChange fnExactCrashCoordSpec)

/-- ITS FALSE NEIGHBOUR: 'it returns false'. Refute it at one input. -/
def fnExactCrashCoordWrong : ChangeSpec := { name := "fnExactCrashCoord", fn := fun _ => fun
  | [d1, d2] => { results := [.lit (.bool false)], args := [d1, d2] }
  | _ => none }
def FnExactCrashCoordWrongFalsely : Prop := fnExactCrashCoordRow.holds Try.pinned (OpenSpec.ofChange fnExactCrashCoordWrong)

/-- 'laws.FnExactVote': WHATEVER THE INPUT: true; the input reads as it did. -/
def fnExactVoteSpec : ChangeSpec := { name := "fnExactVote", fn := fun _ => fun
  | [d1, d2, d3, d4] => { results := [.lit (.bool true)], args := [d1, d2, d3, d4] }
  | _ => none }
def fnExactVoteRow : OpenClaim := { program := "ytapikgcgahomlaa", sum := "5af9ca915c6d1b3afb6aaaf1a3594b0f6152f6072d422799641a83a34c5b5b22", func := "loop.example/g00244/laws.FnExactVote", spec := "fnExactVote", unfollowed := true, recurses := true, apart := false }
def FnExactVoteSaid : Prop := fnExactVoteRow.holds Try.pinned (OpenSpec.ofChange fnExactVoteSpec)

/-- ITS FALSE NEIGHBOUR: 'it returns false'. Refute it at one input. -/
def fnExactVoteWrong : ChangeSpec := { name := "fnExactVote", fn := fun _ => fun
  | [d1, d2, d3, d4] => { results := [.lit (.bool false)], args := [d1, d2, d3, d4] }
  | _ => none }
def FnExactVoteWrongFalsely : Prop := fnExactVoteRow.holds Try.pinned (OpenSpec.ofChange fnExactVoteWrong)

/-- 'laws.FnExactTellAll': WHATEVER THE INPUT: true; the input reads as it did. -/
def fnExactTellAllSpec : ChangeSpec := { name := "fnExactTellAll", fn := fun _ => fun
  | [d] => { results := [.lit (.bool true)], args := [d] }
  | _ => none }
def fnExactTellAllRow : OpenClaim := { program := "ytapikgcgahomlaa", sum := "5af9ca915c6d1b3afb6aaaf1a3594b0f6152f6072d422799641a83a34c5b5b22", func := "loop.example/g00244/laws.FnExactTellAll", spec := "fnExactTellAll", unfollowed := true, recurses := true, apart := false }
def FnExactTellAllSaid : Prop := fnExactTellAllRow.holds Try.pinned (OpenSpec.ofChange fnExactTellAllSpec)

/-- ITS FALSE NEIGHBOUR: 'it returns false'. Refute it at one input. -/
def fnExactTellAllWrong : ChangeSpec := { name := "fnExactTellAll", fn := fun _ => fun
  | [d] => { results := [.lit (.bool false)], args := [d] }
  | _ => none }
def FnExactTellAllWrongFalsely : Prop := fnExactTellAllRow.holds Try.pinned (OpenSpec.ofChange fnExactTellAllWrong)

/- THE SECOND FORM. 'bulk': how many values and letters a reading holds, each counted each time it is reached (what is shared counts as often as it is met; a slice's spare places count too). A statement '..UptoSaid' is the law's where the arguments, and the package variables that the reading takes, are together of bulk at most 1048576: NARROWER than '..Said'. Prove '..Said' where nothing that the law and all that it calls make is longer than what came in: it says more and counts as full. Else prove '..UptoSaid'. A law counts once. -/
mutual
def uptoBulk {H : Type} : DataW H → Nat
  | .lit (.string bytes) => bytes.length + 1
  | .lit _ => 1
  | .nil => 1
  | .ptr d => uptoBulk d + 1
  | .slice elems spare => uptoBulkAll elems + uptoBulkAll spare + 1
  | .agg parts => uptoBulkAll parts + 1
  | .iface _ d => uptoBulk d + 1
  | .map entries => uptoBulkEntries entries + 1
  | .held _ => 1
def uptoBulkAll {H : Type} : List (DataW H) → Nat
  | [] => 0
  | d :: r => uptoBulk d + uptoBulkAll r
def uptoBulkEntries {H : Type} : List (Lit × DataW H) → Nat
  | [] => 0
  | x :: r => uptoBulkEntry x + uptoBulkEntries r
def uptoBulkEntry {H : Type} : Lit × DataW H → Nat
  | (.string bytes, d) => bytes.length + uptoBulk d + 1
  | (_, d) => uptoBulk d + 1
 end
def uptoSmall : (H : Type) → List (DataW H) → Bool := fun _ ds => decide (uptoBulkAll ds ≤ 1048576)
def OpenSpec.upto (s : _root_.Go.ChangeSpec) : _root_.Go.OpenSpec := { _root_.Go.OpenSpec.ofChange s with cond := some uptoSmall }

/-- 'laws.FnExactCoordOk', WHERE WHAT IT READS IS OF BULK AT MOST 1048576: true; the input reads as it did. -/
def fnExactCoordOkUptoRow : OpenClaim := { program := "ytapikgcgahomlaa", sum := "5af9ca915c6d1b3afb6aaaf1a3594b0f6152f6072d422799641a83a34c5b5b22", func := "loop.example/g00244/laws.FnExactCoordOk", spec := "fnExactCoordOk", unfollowed := true, recurses := true, apart := false, narrowed := true }
def FnExactCoordOkUptoSaid : Prop := fnExactCoordOkUptoRow.holds Try.pinned (OpenSpec.upto fnExactCoordOkSpec)

/-- 'laws.FnExactAnswer', WHERE WHAT IT READS IS OF BULK AT MOST 1048576: true; the input reads as it did. -/
def fnExactAnswerUptoRow : OpenClaim := { program := "ytapikgcgahomlaa", sum := "5af9ca915c6d1b3afb6aaaf1a3594b0f6152f6072d422799641a83a34c5b5b22", func := "loop.example/g00244/laws.FnExactAnswer", spec := "fnExactAnswer", unfollowed := true, recurses := true, apart := false, narrowed := true }
def FnExactAnswerUptoSaid : Prop := fnExactAnswerUptoRow.holds Try.pinned (OpenSpec.upto fnExactAnswerSpec)

/-- 'laws.FnAnswered', WHERE WHAT IT READS IS OF BULK AT MOST 1048576: true; the input reads as it did. -/
def fnAnsweredUptoRow : OpenClaim := { program := "ytapikgcgahomlaa", sum := "5af9ca915c6d1b3afb6aaaf1a3594b0f6152f6072d422799641a83a34c5b5b22", func := "loop.example/g00244/laws.FnAnswered", spec := "fnAnswered", unfollowed := true, recurses := true, apart := false, narrowed := true }
def FnAnsweredUptoSaid : Prop := fnAnsweredUptoRow.holds Try.pinned (OpenSpec.upto fnAnsweredSpec)

/-- 'laws.FnFell', WHERE WHAT IT READS IS OF BULK AT MOST 1048576: true; the input reads as it did. -/
def fnFellUptoRow : OpenClaim := { program := "ytapikgcgahomlaa", sum := "5af9ca915c6d1b3afb6aaaf1a3594b0f6152f6072d422799641a83a34c5b5b22", func := "loop.example/g00244/laws.FnFell", spec := "fnFell", unfollowed := true, recurses := true, apart := false, narrowed := true }
def FnFellUptoSaid : Prop := fnFellUptoRow.holds Try.pinned (OpenSpec.upto fnFellSpec)

/-- 'laws.FnVoted', WHERE WHAT IT READS IS OF BULK AT MOST 1048576: true; the input reads as it did. -/
def fnVotedUptoRow : OpenClaim := { program := "ytapikgcgahomlaa", sum := "5af9ca915c6d1b3afb6aaaf1a3594b0f6152f6072d422799641a83a34c5b5b22", func := "loop.example/g00244/laws.FnVoted", spec := "fnVoted", unfollowed := true, recurses := true, apart := false, narrowed := true }
def FnVotedUptoSaid : Prop := fnVotedUptoRow.holds Try.pinned (OpenSpec.upto fnVotedSpec)

/-- 'laws.FnTells', WHERE WHAT IT READS IS OF BULK AT MOST 1048576: true; the input reads as it did. -/
def fnTellsUptoRow : OpenClaim := { program := "ytapikgcgahomlaa", sum := "5af9ca915c6d1b3afb6aaaf1a3594b0f6152f6072d422799641a83a34c5b5b22", func := "loop.example/g00244/laws.FnTells", spec := "fnTells", unfollowed := true, recurses := true, apart := false, narrowed := true }
def FnTellsUptoSaid : Prop := fnTellsUptoRow.holds Try.pinned (OpenSpec.upto fnTellsSpec)

/-- 'laws.FnExactSureAll', WHERE WHAT IT READS IS OF BULK AT MOST 1048576: true; the input reads as it did. -/
def fnExactSureAllUptoRow : OpenClaim := { program := "ytapikgcgahomlaa", sum := "5af9ca915c6d1b3afb6aaaf1a3594b0f6152f6072d422799641a83a34c5b5b22", func := "loop.example/g00244/laws.FnExactSureAll", spec := "fnExactSureAll", unfollowed := true, recurses := true, apart := false, narrowed := true }
def FnExactSureAllUptoSaid : Prop := fnExactSureAllUptoRow.holds Try.pinned (OpenSpec.upto fnExactSureAllSpec)

/-- 'laws.FnExactCrashCoord', WHERE WHAT IT READS IS OF BULK AT MOST 1048576: true; the input reads as it did. -/
def fnExactCrashCoordUptoRow : OpenClaim := { program := "ytapikgcgahomlaa", sum := "5af9ca915c6d1b3afb6aaaf1a3594b0f6152f6072d422799641a83a34c5b5b22", func := "loop.example/g00244/laws.FnExactCrashCoord", spec := "fnExactCrashCoord", unfollowed := true, recurses := true, apart := false, narrowed := true }
def FnExactCrashCoordUptoSaid : Prop := fnExactCrashCoordUptoRow.holds Try.pinned (OpenSpec.upto fnExactCrashCoordSpec)

/-- 'laws.FnExactVote', WHERE WHAT IT READS IS OF BULK AT MOST 1048576: true; the input reads as it did. -/
def fnExactVoteUptoRow : OpenClaim := { program := "ytapikgcgahomlaa", sum := "5af9ca915c6d1b3afb6aaaf1a3594b0f6152f6072d422799641a83a34c5b5b22", func := "loop.example/g00244/laws.FnExactVote", spec := "fnExactVote", unfollowed := true, recurses := true, apart := false, narrowed := true }
def FnExactVoteUptoSaid : Prop := fnExactVoteUptoRow.holds Try.pinned (OpenSpec.upto fnExactVoteSpec)

/-- 'laws.FnExactTellAll', WHERE WHAT IT READS IS OF BULK AT MOST 1048576: true; the input reads as it did. -/
def fnExactTellAllUptoRow : OpenClaim := { program := "ytapikgcgahomlaa", sum := "5af9ca915c6d1b3afb6aaaf1a3594b0f6152f6072d422799641a83a34c5b5b22", func := "loop.example/g00244/laws.FnExactTellAll", spec := "fnExactTellAll", unfollowed := true, recurses := true, apart := false, narrowed := true }
def FnExactTellAllUptoSaid : Prop := fnExactTellAllUptoRow.holds Try.pinned (OpenSpec.upto fnExactTellAllSpec)

end Rows
end Go.Proofs.Ytapikgcgahomlaa
