/-
  No cell of these rows narrows 'for every input' (looked for: loops, veiled, ifaces, maps, wideKeys, modest, calm, conditions, laid).
  DERIVED. THE GIVEN ROWS OF THIS SEAT. 5 by the template 'for every input the law returns true; each argument reads behind the call as it read before'; 0 by the template 'total and deterministic' (their statements: YthcboapohklfnaaTotals.lean).
  GIVEN WITH THE SEED: the statements are not yours to turn. If you find one false, say at which input.
  Laid BY PROGRAM, IN A SANDBOX (cutbox-rows.mjs): the forced cells as the released guide's own fill.sh prints them over the translation c13509413e8cf97a… (all of the seat's roots in one cut). By AI agents, Wed Nov 11 2026. No macro, syntax, notation, axiom, sorry.
-/
import Derived.Test.YthcboapohklfnaaChecked
import GoSem.Claim
import GoSem.ClaimJoined
import GoSem.ClaimMapViews
import Derived.JoinedTies
import Derived.KernelRfl
namespace Go.Proofs.Ythcboapohklfnaa
/- THE CELL 'sum', in the pinned program and in every row, IS THE sha256 OF THE DUMP (.gsa) THAT YthcboapohklfnaaProg.lean LOADS. Nothing in Lean hashes anything: it is a label: what it is worth is what the hold of that sum in a sandbox is worth. -/
noncomputable def Try.pinned : Pinned := { name := "ythcboapohklfnaa", sum := "c13509413e8cf97a1ab10c094857a4aca64565a835f6dfc0ff5d70e25a45c315", checked := Try.checked }
namespace Rows
def none {H : Type} : Left H := { results := [], args := [] }

/-- 'laws.FnExactEscapeTimes': WHATEVER THE INPUT: true; the input reads as it did. -/
def fnExactEscapeTimesSpec : ChangeSpec := { name := "fnExactEscapeTimes", fn := fun _ => fun
  | [d1, d2, d3, d4, d5] => { results := [.lit (.bool true)], args := [d1, d2, d3, d4, d5] }
  | _ => none }
def fnExactEscapeTimesRow : OpenClaim := { program := "ythcboapohklfnaa", sum := "c13509413e8cf97a1ab10c094857a4aca64565a835f6dfc0ff5d70e25a45c315", func := "loop.example/g01021/laws.FnExactEscapeTimes", spec := "fnExactEscapeTimes", unfollowed := true, recurses := true, apart := false }
def FnExactEscapeTimesSaid : Prop := fnExactEscapeTimesRow.holds Try.pinned (OpenSpec.ofChange fnExactEscapeTimesSpec)

/-- ITS FALSE NEIGHBOUR: 'it returns false'. Refute it at one input. -/
def fnExactEscapeTimesWrong : ChangeSpec := { name := "fnExactEscapeTimes", fn := fun _ => fun
  | [d1, d2, d3, d4, d5] => { results := [.lit (.bool false)], args := [d1, d2, d3, d4, d5] }
  | _ => none }
def FnExactEscapeTimesWrongFalsely : Prop := fnExactEscapeTimesRow.holds Try.pinned (OpenSpec.ofChange fnExactEscapeTimesWrong)

/-- 'laws.FnExactTrappedCrews': WHATEVER THE INPUT: true; the input reads as it did. -/
def fnExactTrappedCrewsSpec : ChangeSpec := { name := "fnExactTrappedCrews", fn := fun _ => fun
  | [d1, d2, d3, d4, d5, d6] => { results := [.lit (.bool true)], args := [d1, d2, d3, d4, d5, d6] }
  | _ => none }
def fnExactTrappedCrewsRow : OpenClaim := { program := "ythcboapohklfnaa", sum := "c13509413e8cf97a1ab10c094857a4aca64565a835f6dfc0ff5d70e25a45c315", func := "loop.example/g01021/laws.FnExactTrappedCrews", spec := "fnExactTrappedCrews", unfollowed := true, recurses := true, apart := false }
def FnExactTrappedCrewsSaid : Prop := fnExactTrappedCrewsRow.holds Try.pinned (OpenSpec.ofChange fnExactTrappedCrewsSpec)

/-- ITS FALSE NEIGHBOUR: 'it returns false'. Refute it at one input. -/
def fnExactTrappedCrewsWrong : ChangeSpec := { name := "fnExactTrappedCrews", fn := fun _ => fun
  | [d1, d2, d3, d4, d5, d6] => { results := [.lit (.bool false)], args := [d1, d2, d3, d4, d5, d6] }
  | _ => none }
def FnExactTrappedCrewsWrongFalsely : Prop := fnExactTrappedCrewsRow.holds Try.pinned (OpenSpec.ofChange fnExactTrappedCrewsWrong)

/-- 'laws.FnExactNearestRefuge': WHATEVER THE INPUT: true; the input reads as it did. -/
def fnExactNearestRefugeSpec : ChangeSpec := { name := "fnExactNearestRefuge", fn := fun _ => fun
  | [d1, d2, d3, d4, d5, d6] => { results := [.lit (.bool true)], args := [d1, d2, d3, d4, d5, d6] }
  | _ => none }
def fnExactNearestRefugeRow : OpenClaim := { program := "ythcboapohklfnaa", sum := "c13509413e8cf97a1ab10c094857a4aca64565a835f6dfc0ff5d70e25a45c315", func := "loop.example/g01021/laws.FnExactNearestRefuge", spec := "fnExactNearestRefuge", unfollowed := true, recurses := true, apart := false }
def FnExactNearestRefugeSaid : Prop := fnExactNearestRefugeRow.holds Try.pinned (OpenSpec.ofChange fnExactNearestRefugeSpec)

/-- ITS FALSE NEIGHBOUR: 'it returns false'. Refute it at one input. -/
def fnExactNearestRefugeWrong : ChangeSpec := { name := "fnExactNearestRefuge", fn := fun _ => fun
  | [d1, d2, d3, d4, d5, d6] => { results := [.lit (.bool false)], args := [d1, d2, d3, d4, d5, d6] }
  | _ => none }
def FnExactNearestRefugeWrongFalsely : Prop := fnExactNearestRefugeRow.holds Try.pinned (OpenSpec.ofChange fnExactNearestRefugeWrong)

/-- 'laws.FnExactMissesOf': WHATEVER THE INPUT: true; the input reads as it did. -/
def fnExactMissesOfSpec : ChangeSpec := { name := "fnExactMissesOf", fn := fun _ => fun
  | [d1, d2, d3] => { results := [.lit (.bool true)], args := [d1, d2, d3] }
  | _ => none }
def fnExactMissesOfRow : OpenClaim := { program := "ythcboapohklfnaa", sum := "c13509413e8cf97a1ab10c094857a4aca64565a835f6dfc0ff5d70e25a45c315", func := "loop.example/g01021/laws.FnExactMissesOf", spec := "fnExactMissesOf", unfollowed := true, recurses := true, apart := false }
def FnExactMissesOfSaid : Prop := fnExactMissesOfRow.holds Try.pinned (OpenSpec.ofChange fnExactMissesOfSpec)

/-- ITS FALSE NEIGHBOUR: 'it returns false'. Refute it at one input. -/
def fnExactMissesOfWrong : ChangeSpec := { name := "fnExactMissesOf", fn := fun _ => fun
  | [d1, d2, d3] => { results := [.lit (.bool false)], args := [d1, d2, d3] }
  | _ => none }
def FnExactMissesOfWrongFalsely : Prop := fnExactMissesOfRow.holds Try.pinned (OpenSpec.ofChange fnExactMissesOfWrong)

/-- 'laws.FnExactEscapeRoute': WHATEVER THE INPUT: true; the input reads as it did. -/
def fnExactEscapeRouteSpec : ChangeSpec := { name := "fnExactEscapeRoute", fn := fun _ => fun
  | [d1, d2, d3, d4, d5, d6] => { results := [.lit (.bool true)], args := [d1, d2, d3, d4, d5, d6] }
  | _ => none }
def fnExactEscapeRouteRow : OpenClaim := { program := "ythcboapohklfnaa", sum := "c13509413e8cf97a1ab10c094857a4aca64565a835f6dfc0ff5d70e25a45c315", func := "loop.example/g01021/laws.FnExactEscapeRoute", spec := "fnExactEscapeRoute", unfollowed := true, recurses := true, apart := false }
def FnExactEscapeRouteSaid : Prop := fnExactEscapeRouteRow.holds Try.pinned (OpenSpec.ofChange fnExactEscapeRouteSpec)

/-- ITS FALSE NEIGHBOUR: 'it returns false'. Refute it at one input. -/
def fnExactEscapeRouteWrong : ChangeSpec := { name := "fnExactEscapeRoute", fn := fun _ => fun
  | [d1, d2, d3, d4, d5, d6] => { results := [.lit (.bool false)], args := [d1, d2, d3, d4, d5, d6] }
  | _ => none }
def FnExactEscapeRouteWrongFalsely : Prop := fnExactEscapeRouteRow.holds Try.pinned (OpenSpec.ofChange fnExactEscapeRouteWrong)

/- THE SECOND FORM. 'bulk': how many values and letters a reading holds, each counted each time it is reached (what is shared counts as often as it is met; a slice's spare places count too). A statement '..UptoSaid' is the law's where the arguments, and the package variables that the reading takes, are together of bulk at most 1048576: NARROWER than '..Said'. Prove '..Said' where nothing that the law and all that it calls make is longer than what came in: it says more and counts as full. Else prove '..UptoSaid'. A law counts once. -/
mutual
def uptoBulk {H : Type} : DataW H → Nat
  | .lit (.string bytes) => bytes.length + 1
  | .lit _ => 1
  | .nil => 1
  | .ptr d => uptoBulk d + 1
  | .slice elems spare => uptoBulkAll elems + uptoBulkAll spare + 1
  | .agg parts => uptoBulkAll parts + 1
  | .iface _ d => uptoBulk d + 1
  | .map entries => uptoBulkEntries entries + 1
  | .held _ => 1
def uptoBulkAll {H : Type} : List (DataW H) → Nat
  | [] => 0
  | d :: r => uptoBulk d + uptoBulkAll r
def uptoBulkEntries {H : Type} : List (Lit × DataW H) → Nat
  | [] => 0
  | x :: r => uptoBulkEntry x + uptoBulkEntries r
def uptoBulkEntry {H : Type} : Lit × DataW H → Nat
  | (.string bytes, d) => bytes.length + uptoBulk d + 1
  | (_, d) => uptoBulk d + 1
 end
def uptoSmall : (H : Type) → List (DataW H) → Bool := fun _ ds => decide (uptoBulkAll ds ≤ 1048576)
def OpenSpec.upto (s : _root_.Go.ChangeSpec) : _root_.Go.OpenSpec := { _root_.Go.OpenSpec.ofChange s with cond := some uptoSmall }

/-- 'laws.FnExactEscapeTimes', WHERE WHAT IT READS IS OF BULK AT MOST 1048576: true; the input reads as it did. -/
def fnExactEscapeTimesUptoRow : OpenClaim := { program := "ythcboapohklfnaa", sum := "c13509413e8cf97a1ab10c094857a4aca64565a835f6dfc0ff5d70e25a45c315", func := "loop.example/g01021/laws.FnExactEscapeTimes", spec := "fnExactEscapeTimes", unfollowed := true, recurses := true, apart := false, narrowed := true }
def FnExactEscapeTimesUptoSaid : Prop := fnExactEscapeTimesUptoRow.holds Try.pinned (OpenSpec.upto fnExactEscapeTimesSpec)

/-- 'laws.FnExactTrappedCrews', WHERE WHAT IT READS IS OF BULK AT MOST 1048576: true; the input reads as it did. -/
def fnExactTrappedCrewsUptoRow : OpenClaim := { program := "ythcboapohklfnaa", sum := "c13509413e8cf97a1ab10c094857a4aca64565a835f6dfc0ff5d70e25a45c315", func := "loop.example/g01021/laws.FnExactTrappedCrews", spec := "fnExactTrappedCrews", unfollowed := true, recurses := true, apart := false, narrowed := true }
def FnExactTrappedCrewsUptoSaid : Prop := fnExactTrappedCrewsUptoRow.holds Try.pinned (OpenSpec.upto fnExactTrappedCrewsSpec)

/-- 'laws.FnExactNearestRefuge', WHERE WHAT IT READS IS OF BULK AT MOST 1048576: true; the input reads as it did. -/
def fnExactNearestRefugeUptoRow : OpenClaim := { program := "ythcboapohklfnaa", sum := "c13509413e8cf97a1ab10c094857a4aca64565a835f6dfc0ff5d70e25a45c315", func := "loop.example/g01021/laws.FnExactNearestRefuge", spec := "fnExactNearestRefuge", unfollowed := true, recurses := true, apart := false, narrowed := true }
def FnExactNearestRefugeUptoSaid : Prop := fnExactNearestRefugeUptoRow.holds Try.pinned (OpenSpec.upto fnExactNearestRefugeSpec)

/-- 'laws.FnExactMissesOf', WHERE WHAT IT READS IS OF BULK AT MOST 1048576: true; the input reads as it did. -/
def fnExactMissesOfUptoRow : OpenClaim := { program := "ythcboapohklfnaa", sum := "c13509413e8cf97a1ab10c094857a4aca64565a835f6dfc0ff5d70e25a45c315", func := "loop.example/g01021/laws.FnExactMissesOf", spec := "fnExactMissesOf", unfollowed := true, recurses := true, apart := false, narrowed := true }
def FnExactMissesOfUptoSaid : Prop := fnExactMissesOfUptoRow.holds Try.pinned (OpenSpec.upto fnExactMissesOfSpec)

/-- 'laws.FnExactEscapeRoute', WHERE WHAT IT READS IS OF BULK AT MOST 1048576: true; the input reads as it did. -/
def fnExactEscapeRouteUptoRow : OpenClaim := { program := "ythcboapohklfnaa", sum := "c13509413e8cf97a1ab10c094857a4aca64565a835f6dfc0ff5d70e25a45c315", func := "loop.example/g01021/laws.FnExactEscapeRoute", spec := "fnExactEscapeRoute", unfollowed := true, recurses := true, apart := false, narrowed := true }
def FnExactEscapeRouteUptoSaid : Prop := fnExactEscapeRouteUptoRow.holds Try.pinned (OpenSpec.upto fnExactEscapeRouteSpec)

end Rows
end Go.Proofs.Ythcboapohklfnaa
