/-
  No cell of these rows narrows 'for every input' (looked for: loops, veiled, ifaces, maps, wideKeys, modest, calm, conditions, laid).
  DERIVED. THE GIVEN ROWS OF THIS SEAT. 5 by the template 'for every input the law returns true; each argument reads behind the call as it read before'; 0 by the template 'total and deterministic' (their statements: YtdhehmaglhobjaaTotals.lean).
  GIVEN WITH THE SEED: the statements are not yours to turn. If you find one false, say at which input.
  Laid BY PROGRAM, IN A SANDBOX (cutbox-rows.mjs): the forced cells as the released guide's own fill.sh prints them over the translation dbe1d0bccac1dd51… (all of the seat's roots in one cut). By AI agents, Wed Nov 11 2026. No macro, syntax, notation, axiom, sorry.
-/
import Derived.Test.YtdhehmaglhobjaaChecked
import GoSem.Claim
import GoSem.ClaimJoined
import GoSem.ClaimMapViews
import Derived.JoinedTies
import Derived.KernelRfl
namespace Go.Proofs.Ytdhehmaglhobjaa
/- THE CELL 'sum', in the pinned program and in every row, IS THE sha256 OF THE DUMP (.gsa) THAT YtdhehmaglhobjaaProg.lean LOADS. Nothing in Lean hashes anything: it is a label: what it is worth is what the hold of that sum in a sandbox is worth. -/
noncomputable def Try.pinned : Pinned := { name := "ytdhehmaglhobjaa", sum := "dbe1d0bccac1dd510eeb40fc8026dbdba9dfb9417a3c455fbb11b7533c62549d", checked := Try.checked }
namespace Rows
def none {H : Type} : Left H := { results := [], args := [] }

/-- 'laws.FnExactMedianSeconds': WHATEVER THE INPUT: true; the input reads as it did. -/
def fnExactMedianSecondsSpec : ChangeSpec := { name := "fnExactMedianSeconds", fn := fun _ => fun
  | [d1, d2] => { results := [.lit (.bool true)], args := [d1, d2] }
  | _ => none }
def fnExactMedianSecondsRow : OpenClaim := { program := "ytdhehmaglhobjaa", sum := "dbe1d0bccac1dd510eeb40fc8026dbdba9dfb9417a3c455fbb11b7533c62549d", func := "loop.example/g01021/laws.FnExactMedianSeconds", spec := "fnExactMedianSeconds", recurses := true, apart := false }
def FnExactMedianSecondsSaid : Prop := fnExactMedianSecondsRow.holds Try.pinned (OpenSpec.ofChange fnExactMedianSecondsSpec)

/-- ITS FALSE NEIGHBOUR: 'it returns false'. Refute it at one input. -/
def fnExactMedianSecondsWrong : ChangeSpec := { name := "fnExactMedianSeconds", fn := fun _ => fun
  | [d1, d2] => { results := [.lit (.bool false)], args := [d1, d2] }
  | _ => none }
def FnExactMedianSecondsWrongFalsely : Prop := fnExactMedianSecondsRow.holds Try.pinned (OpenSpec.ofChange fnExactMedianSecondsWrong)

/-- 'laws.FnExactCrewsOf': WHATEVER THE INPUT: true; the input reads as it did. -/
def fnExactCrewsOfSpec : ChangeSpec := { name := "fnExactCrewsOf", fn := fun _ => fun
  | [d] => { results := [.lit (.bool true)], args := [d] }
  | _ => none }
def fnExactCrewsOfRow : OpenClaim := { program := "ytdhehmaglhobjaa", sum := "dbe1d0bccac1dd510eeb40fc8026dbdba9dfb9417a3c455fbb11b7533c62549d", func := "loop.example/g01021/laws.FnExactCrewsOf", spec := "fnExactCrewsOf", recurses := true, apart := false }
def FnExactCrewsOfSaid : Prop := fnExactCrewsOfRow.holds Try.pinned (OpenSpec.ofChange fnExactCrewsOfSpec)

/-- ITS FALSE NEIGHBOUR: 'it returns false'. Refute it at one input. -/
def fnExactCrewsOfWrong : ChangeSpec := { name := "fnExactCrewsOf", fn := fun _ => fun
  | [d] => { results := [.lit (.bool false)], args := [d] }
  | _ => none }
def FnExactCrewsOfWrongFalsely : Prop := fnExactCrewsOfRow.holds Try.pinned (OpenSpec.ofChange fnExactCrewsOfWrong)

/-- 'laws.FnExactConflictsOf': WHATEVER THE INPUT: true; the input reads as it did. -/
def fnExactConflictsOfSpec : ChangeSpec := { name := "fnExactConflictsOf", fn := fun _ => fun
  | [d1, d2, d3] => { results := [.lit (.bool true)], args := [d1, d2, d3] }
  | _ => none }
def fnExactConflictsOfRow : OpenClaim := { program := "ytdhehmaglhobjaa", sum := "dbe1d0bccac1dd510eeb40fc8026dbdba9dfb9417a3c455fbb11b7533c62549d", func := "loop.example/g01021/laws.FnExactConflictsOf", spec := "fnExactConflictsOf", unfollowed := true, recurses := true, apart := false }
def FnExactConflictsOfSaid : Prop := fnExactConflictsOfRow.holds Try.pinned (OpenSpec.ofChange fnExactConflictsOfSpec)

/-- ITS FALSE NEIGHBOUR: 'it returns false'. Refute it at one input. -/
def fnExactConflictsOfWrong : ChangeSpec := { name := "fnExactConflictsOf", fn := fun _ => fun
  | [d1, d2, d3] => { results := [.lit (.bool false)], args := [d1, d2, d3] }
  | _ => none }
def FnExactConflictsOfWrongFalsely : Prop := fnExactConflictsOfRow.holds Try.pinned (OpenSpec.ofChange fnExactConflictsOfWrong)

/-- 'laws.FnExactMergeStates': WHATEVER THE INPUT: true; the input reads as it did. -/
def fnExactMergeStatesSpec : ChangeSpec := { name := "fnExactMergeStates", fn := fun _ => fun
  | [d1, d2, d3] => { results := [.lit (.bool true)], args := [d1, d2, d3] }
  | _ => none }
def fnExactMergeStatesRow : OpenClaim := { program := "ytdhehmaglhobjaa", sum := "dbe1d0bccac1dd510eeb40fc8026dbdba9dfb9417a3c455fbb11b7533c62549d", func := "loop.example/g01021/laws.FnExactMergeStates", spec := "fnExactMergeStates", unfollowed := true, recurses := true, apart := false }
def FnExactMergeStatesSaid : Prop := fnExactMergeStatesRow.holds Try.pinned (OpenSpec.ofChange fnExactMergeStatesSpec)

/-- ITS FALSE NEIGHBOUR: 'it returns false'. Refute it at one input. -/
def fnExactMergeStatesWrong : ChangeSpec := { name := "fnExactMergeStates", fn := fun _ => fun
  | [d1, d2, d3] => { results := [.lit (.bool false)], args := [d1, d2, d3] }
  | _ => none }
def FnExactMergeStatesWrongFalsely : Prop := fnExactMergeStatesRow.holds Try.pinned (OpenSpec.ofChange fnExactMergeStatesWrong)

/-- 'laws.FnExactRankCrews': WHATEVER THE INPUT: true; the input reads as it did. -/
def fnExactRankCrewsSpec : ChangeSpec := { name := "fnExactRankCrews", fn := fun _ => fun
  | [d] => { results := [.lit (.bool true)], args := [d] }
  | _ => none }
def fnExactRankCrewsRow : OpenClaim := { program := "ytdhehmaglhobjaa", sum := "dbe1d0bccac1dd510eeb40fc8026dbdba9dfb9417a3c455fbb11b7533c62549d", func := "loop.example/g01021/laws.FnExactRankCrews", spec := "fnExactRankCrews", unfollowed := true, recurses := true, apart := false }
def FnExactRankCrewsSaid : Prop := fnExactRankCrewsRow.holds Try.pinned (OpenSpec.ofChange fnExactRankCrewsSpec)

/-- ITS FALSE NEIGHBOUR: 'it returns false'. Refute it at one input. -/
def fnExactRankCrewsWrong : ChangeSpec := { name := "fnExactRankCrews", fn := fun _ => fun
  | [d] => { results := [.lit (.bool false)], args := [d] }
  | _ => none }
def FnExactRankCrewsWrongFalsely : Prop := fnExactRankCrewsRow.holds Try.pinned (OpenSpec.ofChange fnExactRankCrewsWrong)

/- THE SECOND FORM. 'bulk': how many values and letters a reading holds, each counted each time it is reached (what is shared counts as often as it is met; a slice's spare places count too). A statement '..UptoSaid' is the law's where the arguments, and the package variables that the reading takes, are together of bulk at most 1048576: NARROWER than '..Said'. Prove '..Said' where nothing that the law and all that it calls make is longer than what came in: it says more and counts as full. Else prove '..UptoSaid'. A law counts once. -/
mutual
def uptoBulk {H : Type} : DataW H → Nat
  | .lit (.string bytes) => bytes.length + 1
  | .lit _ => 1
  | .nil => 1
  | .ptr d => uptoBulk d + 1
  | .slice elems spare => uptoBulkAll elems + uptoBulkAll spare + 1
  | .agg parts => uptoBulkAll parts + 1
  | .iface _ d => uptoBulk d + 1
  | .map entries => uptoBulkEntries entries + 1
  | .held _ => 1
def uptoBulkAll {H : Type} : List (DataW H) → Nat
  | [] => 0
  | d :: r => uptoBulk d + uptoBulkAll r
def uptoBulkEntries {H : Type} : List (Lit × DataW H) → Nat
  | [] => 0
  | x :: r => uptoBulkEntry x + uptoBulkEntries r
def uptoBulkEntry {H : Type} : Lit × DataW H → Nat
  | (.string bytes, d) => bytes.length + uptoBulk d + 1
  | (_, d) => uptoBulk d + 1
 end
def uptoSmall : (H : Type) → List (DataW H) → Bool := fun _ ds => decide (uptoBulkAll ds ≤ 1048576)
def OpenSpec.upto (s : _root_.Go.ChangeSpec) : _root_.Go.OpenSpec := { _root_.Go.OpenSpec.ofChange s with cond := some uptoSmall }

/-- 'laws.FnExactMedianSeconds', WHERE WHAT IT READS IS OF BULK AT MOST 1048576: true; the input reads as it did. -/
def fnExactMedianSecondsUptoRow : OpenClaim := { program := "ytdhehmaglhobjaa", sum := "dbe1d0bccac1dd510eeb40fc8026dbdba9dfb9417a3c455fbb11b7533c62549d", func := "loop.example/g01021/laws.FnExactMedianSeconds", spec := "fnExactMedianSeconds", recurses := true, apart := false, narrowed := true }
def FnExactMedianSecondsUptoSaid : Prop := fnExactMedianSecondsUptoRow.holds Try.pinned (OpenSpec.upto fnExactMedianSecondsSpec)

/-- 'laws.FnExactCrewsOf', WHERE WHAT IT READS IS OF BULK AT MOST 1048576: true; the input reads as it did. -/
def fnExactCrewsOfUptoRow : OpenClaim := { program := "ytdhehmaglhobjaa", sum := "dbe1d0bccac1dd510eeb40fc8026dbdba9dfb9417a3c455fbb11b7533c62549d", func := "loop.example/g01021/laws.FnExactCrewsOf", spec := "fnExactCrewsOf", recurses := true, apart := false, narrowed := true }
def FnExactCrewsOfUptoSaid : Prop := fnExactCrewsOfUptoRow.holds Try.pinned (OpenSpec.upto fnExactCrewsOfSpec)

/-- 'laws.FnExactConflictsOf', WHERE WHAT IT READS IS OF BULK AT MOST 1048576: true; the input reads as it did. -/
def fnExactConflictsOfUptoRow : OpenClaim := { program := "ytdhehmaglhobjaa", sum := "dbe1d0bccac1dd510eeb40fc8026dbdba9dfb9417a3c455fbb11b7533c62549d", func := "loop.example/g01021/laws.FnExactConflictsOf", spec := "fnExactConflictsOf", unfollowed := true, recurses := true, apart := false, narrowed := true }
def FnExactConflictsOfUptoSaid : Prop := fnExactConflictsOfUptoRow.holds Try.pinned (OpenSpec.upto fnExactConflictsOfSpec)

/-- 'laws.FnExactMergeStates', WHERE WHAT IT READS IS OF BULK AT MOST 1048576: true; the input reads as it did. -/
def fnExactMergeStatesUptoRow : OpenClaim := { program := "ytdhehmaglhobjaa", sum := "dbe1d0bccac1dd510eeb40fc8026dbdba9dfb9417a3c455fbb11b7533c62549d", func := "loop.example/g01021/laws.FnExactMergeStates", spec := "fnExactMergeStates", unfollowed := true, recurses := true, apart := false, narrowed := true }
def FnExactMergeStatesUptoSaid : Prop := fnExactMergeStatesUptoRow.holds Try.pinned (OpenSpec.upto fnExactMergeStatesSpec)

/-- 'laws.FnExactRankCrews', WHERE WHAT IT READS IS OF BULK AT MOST 1048576: true; the input reads as it did. -/
def fnExactRankCrewsUptoRow : OpenClaim := { program := "ytdhehmaglhobjaa", sum := "dbe1d0bccac1dd510eeb40fc8026dbdba9dfb9417a3c455fbb11b7533c62549d", func := "loop.example/g01021/laws.FnExactRankCrews", spec := "fnExactRankCrews", unfollowed := true, recurses := true, apart := false, narrowed := true }
def FnExactRankCrewsUptoSaid : Prop := fnExactRankCrewsUptoRow.holds Try.pinned (OpenSpec.upto fnExactRankCrewsSpec)

end Rows
end Go.Proofs.Ytdhehmaglhobjaa
