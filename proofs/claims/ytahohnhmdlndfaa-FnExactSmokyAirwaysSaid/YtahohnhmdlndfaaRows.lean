/-
  No cell of these rows narrows 'for every input' (looked for: loops, veiled, ifaces, maps, wideKeys, modest, calm, conditions, laid).
  DERIVED. THE GIVEN ROWS OF THIS SEAT. 12 by the template 'for every input the law returns true; each argument reads behind the call as it read before'; 0 by the template 'total and deterministic' (their statements: YtahohnhmdlndfaaTotals.lean).
  GIVEN WITH THE SEED: the statements are not yours to turn. If you find one false, say at which input.
  Laid BY PROGRAM, IN A SANDBOX (cutbox-rows.mjs): the forced cells as the released guide's own fill.sh prints them over the translation 1a09d7a4ebfe5cd7… (all of the seat's roots in one cut). By AI agents, Wed Nov 11 2026. No macro, syntax, notation, axiom, sorry.
-/
import Derived.Test.YtahohnhmdlndfaaChecked
import GoSem.Claim
import GoSem.ClaimJoined
import GoSem.ClaimMapViews
import Derived.JoinedTies
import Derived.KernelRfl
namespace Go.Proofs.Ytahohnhmdlndfaa
/- THE CELL 'sum', in the pinned program and in every row, IS THE sha256 OF THE DUMP (.gsa) THAT YtahohnhmdlndfaaProg.lean LOADS. Nothing in Lean hashes anything: it is a label: what it is worth is what the hold of that sum in a sandbox is worth. -/
noncomputable def Try.pinned : Pinned := { name := "ytahohnhmdlndfaa", sum := "1a09d7a4ebfe5cd770ffa8a10d5531a3980e3d097aa6e0baf82c904fc95cc739", checked := Try.checked }
namespace Rows
def none {H : Type} : Left H := { results := [], args := [] }

/-- 'laws.FnExactJunctionShares': WHATEVER THE INPUT: true; the input reads as it did. -/
def fnExactJunctionSharesSpec : ChangeSpec := { name := "fnExactJunctionShares", fn := fun _ => fun
  | [d1, d2, d3] => { results := [.lit (.bool true)], args := [d1, d2, d3] }
  | _ => none }
def fnExactJunctionSharesRow : OpenClaim := { program := "ytahohnhmdlndfaa", sum := "1a09d7a4ebfe5cd770ffa8a10d5531a3980e3d097aa6e0baf82c904fc95cc739", func := "loop.example/g01021/laws.FnExactJunctionShares", spec := "fnExactJunctionShares", unfollowed := true, recurses := true, apart := false }
def FnExactJunctionSharesSaid : Prop := fnExactJunctionSharesRow.holds Try.pinned (OpenSpec.ofChange fnExactJunctionSharesSpec)

/-- ITS FALSE NEIGHBOUR: 'it returns false'. Refute it at one input. -/
def fnExactJunctionSharesWrong : ChangeSpec := { name := "fnExactJunctionShares", fn := fun _ => fun
  | [d1, d2, d3] => { results := [.lit (.bool false)], args := [d1, d2, d3] }
  | _ => none }
def FnExactJunctionSharesWrongFalsely : Prop := fnExactJunctionSharesRow.holds Try.pinned (OpenSpec.ofChange fnExactJunctionSharesWrong)

/-- 'laws.FnExactAirwayShares': WHATEVER THE INPUT: true; the input reads as it did. -/
def fnExactAirwaySharesSpec : ChangeSpec := { name := "fnExactAirwayShares", fn := fun _ => fun
  | [d1, d2, d3] => { results := [.lit (.bool true)], args := [d1, d2, d3] }
  | _ => none }
def fnExactAirwaySharesRow : OpenClaim := { program := "ytahohnhmdlndfaa", sum := "1a09d7a4ebfe5cd770ffa8a10d5531a3980e3d097aa6e0baf82c904fc95cc739", func := "loop.example/g01021/laws.FnExactAirwayShares", spec := "fnExactAirwayShares", unfollowed := true, recurses := true, apart := false }
def FnExactAirwaySharesSaid : Prop := fnExactAirwaySharesRow.holds Try.pinned (OpenSpec.ofChange fnExactAirwaySharesSpec)

/-- ITS FALSE NEIGHBOUR: 'it returns false'. Refute it at one input. -/
def fnExactAirwaySharesWrong : ChangeSpec := { name := "fnExactAirwayShares", fn := fun _ => fun
  | [d1, d2, d3] => { results := [.lit (.bool false)], args := [d1, d2, d3] }
  | _ => none }
def FnExactAirwaySharesWrongFalsely : Prop := fnExactAirwaySharesRow.holds Try.pinned (OpenSpec.ofChange fnExactAirwaySharesWrong)

/-- 'laws.FnExactOverLimit': WHATEVER THE INPUT: true; the input reads as it did. -/
def fnExactOverLimitSpec : ChangeSpec := { name := "fnExactOverLimit", fn := fun _ => fun
  | [d1, d2, d3, d4] => { results := [.lit (.bool true)], args := [d1, d2, d3, d4] }
  | _ => none }
def fnExactOverLimitRow : OpenClaim := { program := "ytahohnhmdlndfaa", sum := "1a09d7a4ebfe5cd770ffa8a10d5531a3980e3d097aa6e0baf82c904fc95cc739", func := "loop.example/g01021/laws.FnExactOverLimit", spec := "fnExactOverLimit", unfollowed := true, recurses := true, apart := false }
def FnExactOverLimitSaid : Prop := fnExactOverLimitRow.holds Try.pinned (OpenSpec.ofChange fnExactOverLimitSpec)

/-- ITS FALSE NEIGHBOUR: 'it returns false'. Refute it at one input. -/
def fnExactOverLimitWrong : ChangeSpec := { name := "fnExactOverLimit", fn := fun _ => fun
  | [d1, d2, d3, d4] => { results := [.lit (.bool false)], args := [d1, d2, d3, d4] }
  | _ => none }
def FnExactOverLimitWrongFalsely : Prop := fnExactOverLimitRow.holds Try.pinned (OpenSpec.ofChange fnExactOverLimitWrong)

/-- 'laws.FnExactWorstAirway': WHATEVER THE INPUT: true; the input reads as it did. -/
def fnExactWorstAirwaySpec : ChangeSpec := { name := "fnExactWorstAirway", fn := fun _ => fun
  | [d1, d2, d3] => { results := [.lit (.bool true)], args := [d1, d2, d3] }
  | _ => none }
def fnExactWorstAirwayRow : OpenClaim := { program := "ytahohnhmdlndfaa", sum := "1a09d7a4ebfe5cd770ffa8a10d5531a3980e3d097aa6e0baf82c904fc95cc739", func := "loop.example/g01021/laws.FnExactWorstAirway", spec := "fnExactWorstAirway", unfollowed := true, recurses := true, apart := false }
def FnExactWorstAirwaySaid : Prop := fnExactWorstAirwayRow.holds Try.pinned (OpenSpec.ofChange fnExactWorstAirwaySpec)

/-- ITS FALSE NEIGHBOUR: 'it returns false'. Refute it at one input. -/
def fnExactWorstAirwayWrong : ChangeSpec := { name := "fnExactWorstAirway", fn := fun _ => fun
  | [d1, d2, d3] => { results := [.lit (.bool false)], args := [d1, d2, d3] }
  | _ => none }
def FnExactWorstAirwayWrongFalsely : Prop := fnExactWorstAirwayRow.holds Try.pinned (OpenSpec.ofChange fnExactWorstAirwayWrong)

/-- 'laws.FnExactArrivalOf': WHATEVER THE INPUT: true; the input reads as it did. -/
def fnExactArrivalOfSpec : ChangeSpec := { name := "fnExactArrivalOf", fn := fun _ => fun
  | [d1, d2, d3] => { results := [.lit (.bool true)], args := [d1, d2, d3] }
  | _ => none }
def fnExactArrivalOfRow : OpenClaim := { program := "ytahohnhmdlndfaa", sum := "1a09d7a4ebfe5cd770ffa8a10d5531a3980e3d097aa6e0baf82c904fc95cc739", func := "loop.example/g01021/laws.FnExactArrivalOf", spec := "fnExactArrivalOf", unfollowed := true, recurses := true, apart := false }
def FnExactArrivalOfSaid : Prop := fnExactArrivalOfRow.holds Try.pinned (OpenSpec.ofChange fnExactArrivalOfSpec)

/-- ITS FALSE NEIGHBOUR: 'it returns false'. Refute it at one input. -/
def fnExactArrivalOfWrong : ChangeSpec := { name := "fnExactArrivalOf", fn := fun _ => fun
  | [d1, d2, d3] => { results := [.lit (.bool false)], args := [d1, d2, d3] }
  | _ => none }
def FnExactArrivalOfWrongFalsely : Prop := fnExactArrivalOfRow.holds Try.pinned (OpenSpec.ofChange fnExactArrivalOfWrong)

/-- 'laws.FnExactFirstSmoky': WHATEVER THE INPUT: true; the input reads as it did. -/
def fnExactFirstSmokySpec : ChangeSpec := { name := "fnExactFirstSmoky", fn := fun _ => fun
  | [d1, d2, d3, d4] => { results := [.lit (.bool true)], args := [d1, d2, d3, d4] }
  | _ => none }
def fnExactFirstSmokyRow : OpenClaim := { program := "ytahohnhmdlndfaa", sum := "1a09d7a4ebfe5cd770ffa8a10d5531a3980e3d097aa6e0baf82c904fc95cc739", func := "loop.example/g01021/laws.FnExactFirstSmoky", spec := "fnExactFirstSmoky", unfollowed := true, recurses := true, apart := false }
def FnExactFirstSmokySaid : Prop := fnExactFirstSmokyRow.holds Try.pinned (OpenSpec.ofChange fnExactFirstSmokySpec)

/-- ITS FALSE NEIGHBOUR: 'it returns false'. Refute it at one input. -/
def fnExactFirstSmokyWrong : ChangeSpec := { name := "fnExactFirstSmoky", fn := fun _ => fun
  | [d1, d2, d3, d4] => { results := [.lit (.bool false)], args := [d1, d2, d3, d4] }
  | _ => none }
def FnExactFirstSmokyWrongFalsely : Prop := fnExactFirstSmokyRow.holds Try.pinned (OpenSpec.ofChange fnExactFirstSmokyWrong)

/-- 'laws.FnExactSmokeFront': WHATEVER THE INPUT: true; the input reads as it did. -/
def fnExactSmokeFrontSpec : ChangeSpec := { name := "fnExactSmokeFront", fn := fun _ => fun
  | [d1, d2, d3, d4, d5] => { results := [.lit (.bool true)], args := [d1, d2, d3, d4, d5] }
  | _ => none }
def fnExactSmokeFrontRow : OpenClaim := { program := "ytahohnhmdlndfaa", sum := "1a09d7a4ebfe5cd770ffa8a10d5531a3980e3d097aa6e0baf82c904fc95cc739", func := "loop.example/g01021/laws.FnExactSmokeFront", spec := "fnExactSmokeFront", unfollowed := true, recurses := true, apart := false }
def FnExactSmokeFrontSaid : Prop := fnExactSmokeFrontRow.holds Try.pinned (OpenSpec.ofChange fnExactSmokeFrontSpec)

/-- ITS FALSE NEIGHBOUR: 'it returns false'. Refute it at one input. -/
def fnExactSmokeFrontWrong : ChangeSpec := { name := "fnExactSmokeFront", fn := fun _ => fun
  | [d1, d2, d3, d4, d5] => { results := [.lit (.bool false)], args := [d1, d2, d3, d4, d5] }
  | _ => none }
def FnExactSmokeFrontWrongFalsely : Prop := fnExactSmokeFrontRow.holds Try.pinned (OpenSpec.ofChange fnExactSmokeFrontWrong)

/-- 'laws.FnExactSmokyAirways': WHATEVER THE INPUT: true; the input reads as it did. -/
def fnExactSmokyAirwaysSpec : ChangeSpec := { name := "fnExactSmokyAirways", fn := fun _ => fun
  | [d1, d2, d3, d4] => { results := [.lit (.bool true)], args := [d1, d2, d3, d4] }
  | _ => none }
def fnExactSmokyAirwaysRow : OpenClaim := { program := "ytahohnhmdlndfaa", sum := "1a09d7a4ebfe5cd770ffa8a10d5531a3980e3d097aa6e0baf82c904fc95cc739", func := "loop.example/g01021/laws.FnExactSmokyAirways", spec := "fnExactSmokyAirways", unfollowed := true, recurses := true, apart := false }
def FnExactSmokyAirwaysSaid : Prop := fnExactSmokyAirwaysRow.holds Try.pinned (OpenSpec.ofChange fnExactSmokyAirwaysSpec)

/-- ITS FALSE NEIGHBOUR: 'it returns false'. Refute it at one input. -/
def fnExactSmokyAirwaysWrong : ChangeSpec := { name := "fnExactSmokyAirways", fn := fun _ => fun
  | [d1, d2, d3, d4] => { results := [.lit (.bool false)], args := [d1, d2, d3, d4] }
  | _ => none }
def FnExactSmokyAirwaysWrongFalsely : Prop := fnExactSmokyAirwaysRow.holds Try.pinned (OpenSpec.ofChange fnExactSmokyAirwaysWrong)

/-- 'laws.FnExactFreshJunctions': WHATEVER THE INPUT: true; the input reads as it did. -/
def fnExactFreshJunctionsSpec : ChangeSpec := { name := "fnExactFreshJunctions", fn := fun _ => fun
  | [d1, d2, d3, d4] => { results := [.lit (.bool true)], args := [d1, d2, d3, d4] }
  | _ => none }
def fnExactFreshJunctionsRow : OpenClaim := { program := "ytahohnhmdlndfaa", sum := "1a09d7a4ebfe5cd770ffa8a10d5531a3980e3d097aa6e0baf82c904fc95cc739", func := "loop.example/g01021/laws.FnExactFreshJunctions", spec := "fnExactFreshJunctions", unfollowed := true, recurses := true, apart := false }
def FnExactFreshJunctionsSaid : Prop := fnExactFreshJunctionsRow.holds Try.pinned (OpenSpec.ofChange fnExactFreshJunctionsSpec)

/-- ITS FALSE NEIGHBOUR: 'it returns false'. Refute it at one input. -/
def fnExactFreshJunctionsWrong : ChangeSpec := { name := "fnExactFreshJunctions", fn := fun _ => fun
  | [d1, d2, d3, d4] => { results := [.lit (.bool false)], args := [d1, d2, d3, d4] }
  | _ => none }
def FnExactFreshJunctionsWrongFalsely : Prop := fnExactFreshJunctionsRow.holds Try.pinned (OpenSpec.ofChange fnExactFreshJunctionsWrong)

/-- 'laws.FnExactLastArrival': WHATEVER THE INPUT: true; the input reads as it did. -/
def fnExactLastArrivalSpec : ChangeSpec := { name := "fnExactLastArrival", fn := fun _ => fun
  | [d1, d2, d3] => { results := [.lit (.bool true)], args := [d1, d2, d3] }
  | _ => none }
def fnExactLastArrivalRow : OpenClaim := { program := "ytahohnhmdlndfaa", sum := "1a09d7a4ebfe5cd770ffa8a10d5531a3980e3d097aa6e0baf82c904fc95cc739", func := "loop.example/g01021/laws.FnExactLastArrival", spec := "fnExactLastArrival", unfollowed := true, recurses := true, apart := false }
def FnExactLastArrivalSaid : Prop := fnExactLastArrivalRow.holds Try.pinned (OpenSpec.ofChange fnExactLastArrivalSpec)

/-- ITS FALSE NEIGHBOUR: 'it returns false'. Refute it at one input. -/
def fnExactLastArrivalWrong : ChangeSpec := { name := "fnExactLastArrival", fn := fun _ => fun
  | [d1, d2, d3] => { results := [.lit (.bool false)], args := [d1, d2, d3] }
  | _ => none }
def FnExactLastArrivalWrongFalsely : Prop := fnExactLastArrivalRow.holds Try.pinned (OpenSpec.ofChange fnExactLastArrivalWrong)

/-- 'laws.FnExactShortAirways': WHATEVER THE INPUT: true; the input reads as it did. -/
def fnExactShortAirwaysSpec : ChangeSpec := { name := "fnExactShortAirways", fn := fun _ => fun
  | [d1, d2, d3] => { results := [.lit (.bool true)], args := [d1, d2, d3] }
  | _ => none }
def fnExactShortAirwaysRow : OpenClaim := { program := "ytahohnhmdlndfaa", sum := "1a09d7a4ebfe5cd770ffa8a10d5531a3980e3d097aa6e0baf82c904fc95cc739", func := "loop.example/g01021/laws.FnExactShortAirways", spec := "fnExactShortAirways", unfollowed := true, recurses := true, apart := false }
def FnExactShortAirwaysSaid : Prop := fnExactShortAirwaysRow.holds Try.pinned (OpenSpec.ofChange fnExactShortAirwaysSpec)

/-- ITS FALSE NEIGHBOUR: 'it returns false'. Refute it at one input. -/
def fnExactShortAirwaysWrong : ChangeSpec := { name := "fnExactShortAirways", fn := fun _ => fun
  | [d1, d2, d3] => { results := [.lit (.bool false)], args := [d1, d2, d3] }
  | _ => none }
def FnExactShortAirwaysWrongFalsely : Prop := fnExactShortAirwaysRow.holds Try.pinned (OpenSpec.ofChange fnExactShortAirwaysWrong)

/-- 'laws.FnExactShiftFits': WHATEVER THE INPUT: true; the input reads as it did. -/
def fnExactShiftFitsSpec : ChangeSpec := { name := "fnExactShiftFits", fn := fun _ => fun
  | [d1, d2, d3, d4] => { results := [.lit (.bool true)], args := [d1, d2, d3, d4] }
  | _ => none }
def fnExactShiftFitsRow : OpenClaim := { program := "ytahohnhmdlndfaa", sum := "1a09d7a4ebfe5cd770ffa8a10d5531a3980e3d097aa6e0baf82c904fc95cc739", func := "loop.example/g01021/laws.FnExactShiftFits", spec := "fnExactShiftFits", unfollowed := true, recurses := true, apart := false }
def FnExactShiftFitsSaid : Prop := fnExactShiftFitsRow.holds Try.pinned (OpenSpec.ofChange fnExactShiftFitsSpec)

/-- ITS FALSE NEIGHBOUR: 'it returns false'. Refute it at one input. -/
def fnExactShiftFitsWrong : ChangeSpec := { name := "fnExactShiftFits", fn := fun _ => fun
  | [d1, d2, d3, d4] => { results := [.lit (.bool false)], args := [d1, d2, d3, d4] }
  | _ => none }
def FnExactShiftFitsWrongFalsely : Prop := fnExactShiftFitsRow.holds Try.pinned (OpenSpec.ofChange fnExactShiftFitsWrong)

/- THE SECOND FORM. 'bulk': how many values and letters a reading holds, each counted each time it is reached (what is shared counts as often as it is met; a slice's spare places count too). A statement '..UptoSaid' is the law's where the arguments, and the package variables that the reading takes, are together of bulk at most 1048576: NARROWER than '..Said'. Prove '..Said' where nothing that the law and all that it calls make is longer than what came in: it says more and counts as full. Else prove '..UptoSaid'. A law counts once. -/
mutual
def uptoBulk {H : Type} : DataW H → Nat
  | .lit (.string bytes) => bytes.length + 1
  | .lit _ => 1
  | .nil => 1
  | .ptr d => uptoBulk d + 1
  | .slice elems spare => uptoBulkAll elems + uptoBulkAll spare + 1
  | .agg parts => uptoBulkAll parts + 1
  | .iface _ d => uptoBulk d + 1
  | .map entries => uptoBulkEntries entries + 1
  | .held _ => 1
def uptoBulkAll {H : Type} : List (DataW H) → Nat
  | [] => 0
  | d :: r => uptoBulk d + uptoBulkAll r
def uptoBulkEntries {H : Type} : List (Lit × DataW H) → Nat
  | [] => 0
  | x :: r => uptoBulkEntry x + uptoBulkEntries r
def uptoBulkEntry {H : Type} : Lit × DataW H → Nat
  | (.string bytes, d) => bytes.length + uptoBulk d + 1
  | (_, d) => uptoBulk d + 1
 end
def uptoSmall : (H : Type) → List (DataW H) → Bool := fun _ ds => decide (uptoBulkAll ds ≤ 1048576)
def OpenSpec.upto (s : _root_.Go.ChangeSpec) : _root_.Go.OpenSpec := { _root_.Go.OpenSpec.ofChange s with cond := some uptoSmall }

/-- 'laws.FnExactJunctionShares', WHERE WHAT IT READS IS OF BULK AT MOST 1048576: true; the input reads as it did. -/
def fnExactJunctionSharesUptoRow : OpenClaim := { program := "ytahohnhmdlndfaa", sum := "1a09d7a4ebfe5cd770ffa8a10d5531a3980e3d097aa6e0baf82c904fc95cc739", func := "loop.example/g01021/laws.FnExactJunctionShares", spec := "fnExactJunctionShares", unfollowed := true, recurses := true, apart := false, narrowed := true }
def FnExactJunctionSharesUptoSaid : Prop := fnExactJunctionSharesUptoRow.holds Try.pinned (OpenSpec.upto fnExactJunctionSharesSpec)

/-- 'laws.FnExactAirwayShares', WHERE WHAT IT READS IS OF BULK AT MOST 1048576: true; the input reads as it did. -/
def fnExactAirwaySharesUptoRow : OpenClaim := { program := "ytahohnhmdlndfaa", sum := "1a09d7a4ebfe5cd770ffa8a10d5531a3980e3d097aa6e0baf82c904fc95cc739", func := "loop.example/g01021/laws.FnExactAirwayShares", spec := "fnExactAirwayShares", unfollowed := true, recurses := true, apart := false, narrowed := true }
def FnExactAirwaySharesUptoSaid : Prop := fnExactAirwaySharesUptoRow.holds Try.pinned (OpenSpec.upto fnExactAirwaySharesSpec)

/-- 'laws.FnExactOverLimit', WHERE WHAT IT READS IS OF BULK AT MOST 1048576: true; the input reads as it did. -/
def fnExactOverLimitUptoRow : OpenClaim := { program := "ytahohnhmdlndfaa", sum := "1a09d7a4ebfe5cd770ffa8a10d5531a3980e3d097aa6e0baf82c904fc95cc739", func := "loop.example/g01021/laws.FnExactOverLimit", spec := "fnExactOverLimit", unfollowed := true, recurses := true, apart := false, narrowed := true }
def FnExactOverLimitUptoSaid : Prop := fnExactOverLimitUptoRow.holds Try.pinned (OpenSpec.upto fnExactOverLimitSpec)

/-- 'laws.FnExactWorstAirway', WHERE WHAT IT READS IS OF BULK AT MOST 1048576: true; the input reads as it did. -/
def fnExactWorstAirwayUptoRow : OpenClaim := { program := "ytahohnhmdlndfaa", sum := "1a09d7a4ebfe5cd770ffa8a10d5531a3980e3d097aa6e0baf82c904fc95cc739", func := "loop.example/g01021/laws.FnExactWorstAirway", spec := "fnExactWorstAirway", unfollowed := true, recurses := true, apart := false, narrowed := true }
def FnExactWorstAirwayUptoSaid : Prop := fnExactWorstAirwayUptoRow.holds Try.pinned (OpenSpec.upto fnExactWorstAirwaySpec)

/-- 'laws.FnExactArrivalOf', WHERE WHAT IT READS IS OF BULK AT MOST 1048576: true; the input reads as it did. -/
def fnExactArrivalOfUptoRow : OpenClaim := { program := "ytahohnhmdlndfaa", sum := "1a09d7a4ebfe5cd770ffa8a10d5531a3980e3d097aa6e0baf82c904fc95cc739", func := "loop.example/g01021/laws.FnExactArrivalOf", spec := "fnExactArrivalOf", unfollowed := true, recurses := true, apart := false, narrowed := true }
def FnExactArrivalOfUptoSaid : Prop := fnExactArrivalOfUptoRow.holds Try.pinned (OpenSpec.upto fnExactArrivalOfSpec)

/-- 'laws.FnExactFirstSmoky', WHERE WHAT IT READS IS OF BULK AT MOST 1048576: true; the input reads as it did. -/
def fnExactFirstSmokyUptoRow : OpenClaim := { program := "ytahohnhmdlndfaa", sum := "1a09d7a4ebfe5cd770ffa8a10d5531a3980e3d097aa6e0baf82c904fc95cc739", func := "loop.example/g01021/laws.FnExactFirstSmoky", spec := "fnExactFirstSmoky", unfollowed := true, recurses := true, apart := false, narrowed := true }
def FnExactFirstSmokyUptoSaid : Prop := fnExactFirstSmokyUptoRow.holds Try.pinned (OpenSpec.upto fnExactFirstSmokySpec)

/-- 'laws.FnExactSmokeFront', WHERE WHAT IT READS IS OF BULK AT MOST 1048576: true; the input reads as it did. -/
def fnExactSmokeFrontUptoRow : OpenClaim := { program := "ytahohnhmdlndfaa", sum := "1a09d7a4ebfe5cd770ffa8a10d5531a3980e3d097aa6e0baf82c904fc95cc739", func := "loop.example/g01021/laws.FnExactSmokeFront", spec := "fnExactSmokeFront", unfollowed := true, recurses := true, apart := false, narrowed := true }
def FnExactSmokeFrontUptoSaid : Prop := fnExactSmokeFrontUptoRow.holds Try.pinned (OpenSpec.upto fnExactSmokeFrontSpec)

/-- 'laws.FnExactSmokyAirways', WHERE WHAT IT READS IS OF BULK AT MOST 1048576: true; the input reads as it did. -/
def fnExactSmokyAirwaysUptoRow : OpenClaim := { program := "ytahohnhmdlndfaa", sum := "1a09d7a4ebfe5cd770ffa8a10d5531a3980e3d097aa6e0baf82c904fc95cc739", func := "loop.example/g01021/laws.FnExactSmokyAirways", spec := "fnExactSmokyAirways", unfollowed := true, recurses := true, apart := false, narrowed := true }
def FnExactSmokyAirwaysUptoSaid : Prop := fnExactSmokyAirwaysUptoRow.holds Try.pinned (OpenSpec.upto fnExactSmokyAirwaysSpec)

/-- 'laws.FnExactFreshJunctions', WHERE WHAT IT READS IS OF BULK AT MOST 1048576: true; the input reads as it did. -/
def fnExactFreshJunctionsUptoRow : OpenClaim := { program := "ytahohnhmdlndfaa", sum := "1a09d7a4ebfe5cd770ffa8a10d5531a3980e3d097aa6e0baf82c904fc95cc739", func := "loop.example/g01021/laws.FnExactFreshJunctions", spec := "fnExactFreshJunctions", unfollowed := true, recurses := true, apart := false, narrowed := true }
def FnExactFreshJunctionsUptoSaid : Prop := fnExactFreshJunctionsUptoRow.holds Try.pinned (OpenSpec.upto fnExactFreshJunctionsSpec)

/-- 'laws.FnExactLastArrival', WHERE WHAT IT READS IS OF BULK AT MOST 1048576: true; the input reads as it did. -/
def fnExactLastArrivalUptoRow : OpenClaim := { program := "ytahohnhmdlndfaa", sum := "1a09d7a4ebfe5cd770ffa8a10d5531a3980e3d097aa6e0baf82c904fc95cc739", func := "loop.example/g01021/laws.FnExactLastArrival", spec := "fnExactLastArrival", unfollowed := true, recurses := true, apart := false, narrowed := true }
def FnExactLastArrivalUptoSaid : Prop := fnExactLastArrivalUptoRow.holds Try.pinned (OpenSpec.upto fnExactLastArrivalSpec)

/-- 'laws.FnExactShortAirways', WHERE WHAT IT READS IS OF BULK AT MOST 1048576: true; the input reads as it did. -/
def fnExactShortAirwaysUptoRow : OpenClaim := { program := "ytahohnhmdlndfaa", sum := "1a09d7a4ebfe5cd770ffa8a10d5531a3980e3d097aa6e0baf82c904fc95cc739", func := "loop.example/g01021/laws.FnExactShortAirways", spec := "fnExactShortAirways", unfollowed := true, recurses := true, apart := false, narrowed := true }
def FnExactShortAirwaysUptoSaid : Prop := fnExactShortAirwaysUptoRow.holds Try.pinned (OpenSpec.upto fnExactShortAirwaysSpec)

/-- 'laws.FnExactShiftFits', WHERE WHAT IT READS IS OF BULK AT MOST 1048576: true; the input reads as it did. -/
def fnExactShiftFitsUptoRow : OpenClaim := { program := "ytahohnhmdlndfaa", sum := "1a09d7a4ebfe5cd770ffa8a10d5531a3980e3d097aa6e0baf82c904fc95cc739", func := "loop.example/g01021/laws.FnExactShiftFits", spec := "fnExactShiftFits", unfollowed := true, recurses := true, apart := false, narrowed := true }
def FnExactShiftFitsUptoSaid : Prop := fnExactShiftFitsUptoRow.holds Try.pinned (OpenSpec.upto fnExactShiftFitsSpec)

end Rows
end Go.Proofs.Ytahohnhmdlndfaa
