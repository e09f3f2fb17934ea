/-
  No cell of these rows narrows 'for every input' (looked for: loops, veiled, ifaces, maps, wideKeys, modest, calm, conditions, laid).
  DERIVED. THE GIVEN ROWS OF THIS SEAT. 4 by the template 'for every input the law returns true; each argument reads behind the call as it read before'; 0 by the template 'total and deterministic' (their statements: YtchjibndocnnhaaTotals.lean).
  GIVEN WITH THE SEED: the statements are not yours to turn. If you find one false, say at which input.
  Laid BY PROGRAM, IN A SANDBOX (cutbox-rows.mjs): the forced cells as the released guide's own fill.sh prints them over the translation 71263a4dd8cf4c0d… (all of the seat's roots in one cut). By AI agents, Wed Nov 11 2026. No macro, syntax, notation, axiom, sorry.
-/
import Derived.Test.YtchjibndocnnhaaChecked
import GoSem.Claim
import GoSem.ClaimJoined
import GoSem.ClaimMapViews
import Derived.JoinedTies
import Derived.KernelRfl
namespace Go.Proofs.Ytchjibndocnnhaa
/- THE CELL 'sum', in the pinned program and in every row, IS THE sha256 OF THE DUMP (.gsa) THAT YtchjibndocnnhaaProg.lean LOADS. Nothing in Lean hashes anything: it is a label: what it is worth is what the hold of that sum in a sandbox is worth. -/
noncomputable def Try.pinned : Pinned := { name := "ytchjibndocnnhaa", sum := "71263a4dd8cf4c0db7f95478c2c38dfc2fc78352b53a2ca393885d367ad5409b", checked := Try.checked }
namespace Rows
def none {H : Type} : Left H := { results := [], args := [] }

/-- 'laws.FnExactMostJobs': WHATEVER THE INPUT: true; the input reads as it did. -/
def fnExactMostJobsSpec : ChangeSpec := { name := "fnExactMostJobs", fn := fun _ => fun
  | [d1, d2, d3, d4] => { results := [.lit (.bool true)], args := [d1, d2, d3, d4] }
  | _ => none }
def fnExactMostJobsRow : OpenClaim := { program := "ytchjibndocnnhaa", sum := "71263a4dd8cf4c0db7f95478c2c38dfc2fc78352b53a2ca393885d367ad5409b", func := "loop.example/g01021/laws.FnExactMostJobs", spec := "fnExactMostJobs", unfollowed := true, recurses := true, apart := false }
def FnExactMostJobsSaid : Prop := fnExactMostJobsRow.holds Try.pinned (OpenSpec.ofChange fnExactMostJobsSpec)

/-- ITS FALSE NEIGHBOUR: 'it returns false'. Refute it at one input. -/
def fnExactMostJobsWrong : ChangeSpec := { name := "fnExactMostJobs", fn := fun _ => fun
  | [d1, d2, d3, d4] => { results := [.lit (.bool false)], args := [d1, d2, d3, d4] }
  | _ => none }
def FnExactMostJobsWrongFalsely : Prop := fnExactMostJobsRow.holds Try.pinned (OpenSpec.ofChange fnExactMostJobsWrong)

/-- 'laws.FnExactFewestShifts': WHATEVER THE INPUT: true; the input reads as it did. -/
def fnExactFewestShiftsSpec : ChangeSpec := { name := "fnExactFewestShifts", fn := fun _ => fun
  | [d1, d2, d3, d4] => { results := [.lit (.bool true)], args := [d1, d2, d3, d4] }
  | _ => none }
def fnExactFewestShiftsRow : OpenClaim := { program := "ytchjibndocnnhaa", sum := "71263a4dd8cf4c0db7f95478c2c38dfc2fc78352b53a2ca393885d367ad5409b", func := "loop.example/g01021/laws.FnExactFewestShifts", spec := "fnExactFewestShifts", unfollowed := true, recurses := true, apart := false }
def FnExactFewestShiftsSaid : Prop := fnExactFewestShiftsRow.holds Try.pinned (OpenSpec.ofChange fnExactFewestShiftsSpec)

/-- ITS FALSE NEIGHBOUR: 'it returns false'. Refute it at one input. -/
def fnExactFewestShiftsWrong : ChangeSpec := { name := "fnExactFewestShifts", fn := fun _ => fun
  | [d1, d2, d3, d4] => { results := [.lit (.bool false)], args := [d1, d2, d3, d4] }
  | _ => none }
def FnExactFewestShiftsWrongFalsely : Prop := fnExactFewestShiftsRow.holds Try.pinned (OpenSpec.ofChange fnExactFewestShiftsWrong)

/-- 'laws.FnExactMostPermits': WHATEVER THE INPUT: true; the input reads as it did. -/
def fnExactMostPermitsSpec : ChangeSpec := { name := "fnExactMostPermits", fn := fun _ => fun
  | [d1, d2, d3] => { results := [.lit (.bool true)], args := [d1, d2, d3] }
  | _ => none }
def fnExactMostPermitsRow : OpenClaim := { program := "ytchjibndocnnhaa", sum := "71263a4dd8cf4c0db7f95478c2c38dfc2fc78352b53a2ca393885d367ad5409b", func := "loop.example/g01021/laws.FnExactMostPermits", spec := "fnExactMostPermits", unfollowed := true, recurses := true, apart := false }
def FnExactMostPermitsSaid : Prop := fnExactMostPermitsRow.holds Try.pinned (OpenSpec.ofChange fnExactMostPermitsSpec)

/-- ITS FALSE NEIGHBOUR: 'it returns false'. Refute it at one input. -/
def fnExactMostPermitsWrong : ChangeSpec := { name := "fnExactMostPermits", fn := fun _ => fun
  | [d1, d2, d3] => { results := [.lit (.bool false)], args := [d1, d2, d3] }
  | _ => none }
def FnExactMostPermitsWrongFalsely : Prop := fnExactMostPermitsRow.holds Try.pinned (OpenSpec.ofChange fnExactMostPermitsWrong)

/-- 'laws.FnCrews': WHATEVER THE INPUT: true; the input reads as it did. -/
def fnCrewsSpec : ChangeSpec := { name := "fnCrews", fn := fun _ => fun
  | [d1, d2] => { results := [.lit (.bool true)], args := [d1, d2] }
  | _ => none }
def fnCrewsRow : OpenClaim := { program := "ytchjibndocnnhaa", sum := "71263a4dd8cf4c0db7f95478c2c38dfc2fc78352b53a2ca393885d367ad5409b", func := "loop.example/g01021/laws.FnCrews", spec := "fnCrews", unfollowed := true, recurses := true, apart := false }
def FnCrewsSaid : Prop := fnCrewsRow.holds Try.pinned (OpenSpec.ofChange fnCrewsSpec)

/-- ITS FALSE NEIGHBOUR: 'it returns false'. Refute it at one input. -/
def fnCrewsWrong : ChangeSpec := { name := "fnCrews", fn := fun _ => fun
  | [d1, d2] => { results := [.lit (.bool false)], args := [d1, d2] }
  | _ => none }
def FnCrewsWrongFalsely : Prop := fnCrewsRow.holds Try.pinned (OpenSpec.ofChange fnCrewsWrong)

/- THE SECOND FORM. 'bulk': how many values and letters a reading holds, each counted each time it is reached (what is shared counts as often as it is met; a slice's spare places count too). A statement '..UptoSaid' is the law's where the arguments, and the package variables that the reading takes, are together of bulk at most 1048576: NARROWER than '..Said'. Prove '..Said' where nothing that the law and all that it calls make is longer than what came in: it says more and counts as full. Else prove '..UptoSaid'. A law counts once. -/
mutual
def uptoBulk {H : Type} : DataW H → Nat
  | .lit (.string bytes) => bytes.length + 1
  | .lit _ => 1
  | .nil => 1
  | .ptr d => uptoBulk d + 1
  | .slice elems spare => uptoBulkAll elems + uptoBulkAll spare + 1
  | .agg parts => uptoBulkAll parts + 1
  | .iface _ d => uptoBulk d + 1
  | .map entries => uptoBulkEntries entries + 1
  | .held _ => 1
def uptoBulkAll {H : Type} : List (DataW H) → Nat
  | [] => 0
  | d :: r => uptoBulk d + uptoBulkAll r
def uptoBulkEntries {H : Type} : List (Lit × DataW H) → Nat
  | [] => 0
  | x :: r => uptoBulkEntry x + uptoBulkEntries r
def uptoBulkEntry {H : Type} : Lit × DataW H → Nat
  | (.string bytes, d) => bytes.length + uptoBulk d + 1
  | (_, d) => uptoBulk d + 1
 end
def uptoSmall : (H : Type) → List (DataW H) → Bool := fun _ ds => decide (uptoBulkAll ds ≤ 1048576)
def OpenSpec.upto (s : _root_.Go.ChangeSpec) : _root_.Go.OpenSpec := { _root_.Go.OpenSpec.ofChange s with cond := some uptoSmall }

/-- 'laws.FnExactMostJobs', WHERE WHAT IT READS IS OF BULK AT MOST 1048576: true; the input reads as it did. -/
def fnExactMostJobsUptoRow : OpenClaim := { program := "ytchjibndocnnhaa", sum := "71263a4dd8cf4c0db7f95478c2c38dfc2fc78352b53a2ca393885d367ad5409b", func := "loop.example/g01021/laws.FnExactMostJobs", spec := "fnExactMostJobs", unfollowed := true, recurses := true, apart := false, narrowed := true }
def FnExactMostJobsUptoSaid : Prop := fnExactMostJobsUptoRow.holds Try.pinned (OpenSpec.upto fnExactMostJobsSpec)

/-- 'laws.FnExactFewestShifts', WHERE WHAT IT READS IS OF BULK AT MOST 1048576: true; the input reads as it did. -/
def fnExactFewestShiftsUptoRow : OpenClaim := { program := "ytchjibndocnnhaa", sum := "71263a4dd8cf4c0db7f95478c2c38dfc2fc78352b53a2ca393885d367ad5409b", func := "loop.example/g01021/laws.FnExactFewestShifts", spec := "fnExactFewestShifts", unfollowed := true, recurses := true, apart := false, narrowed := true }
def FnExactFewestShiftsUptoSaid : Prop := fnExactFewestShiftsUptoRow.holds Try.pinned (OpenSpec.upto fnExactFewestShiftsSpec)

/-- 'laws.FnExactMostPermits', WHERE WHAT IT READS IS OF BULK AT MOST 1048576: true; the input reads as it did. -/
def fnExactMostPermitsUptoRow : OpenClaim := { program := "ytchjibndocnnhaa", sum := "71263a4dd8cf4c0db7f95478c2c38dfc2fc78352b53a2ca393885d367ad5409b", func := "loop.example/g01021/laws.FnExactMostPermits", spec := "fnExactMostPermits", unfollowed := true, recurses := true, apart := false, narrowed := true }
def FnExactMostPermitsUptoSaid : Prop := fnExactMostPermitsUptoRow.holds Try.pinned (OpenSpec.upto fnExactMostPermitsSpec)

/-- 'laws.FnCrews', WHERE WHAT IT READS IS OF BULK AT MOST 1048576: true; the input reads as it did. -/
def fnCrewsUptoRow : OpenClaim := { program := "ytchjibndocnnhaa", sum := "71263a4dd8cf4c0db7f95478c2c38dfc2fc78352b53a2ca393885d367ad5409b", func := "loop.example/g01021/laws.FnCrews", spec := "fnCrews", unfollowed := true, recurses := true, apart := false, narrowed := true }
def FnCrewsUptoSaid : Prop := fnCrewsUptoRow.holds Try.pinned (OpenSpec.upto fnCrewsSpec)

end Rows
end Go.Proofs.Ytchjibndocnnhaa
