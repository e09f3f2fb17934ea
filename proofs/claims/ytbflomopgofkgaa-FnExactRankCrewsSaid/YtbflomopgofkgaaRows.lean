/-
  No cell of these rows narrows 'for every input' (looked for: loops, veiled, ifaces, maps, wideKeys, modest, calm, conditions, laid).
  DERIVED. THE GIVEN ROWS OF THIS SEAT. 4 by the template 'for every input the law returns true; each argument reads behind the call as it read before'; 0 by the template 'total and deterministic' (their statements: YtbflomopgofkgaaTotals.lean).
  GIVEN WITH THE SEED: the statements are not yours to turn. If you find one false, say at which input.
  Laid BY PROGRAM, IN A SANDBOX (cutbox-rows.mjs): the forced cells as the released guide's own fill.sh prints them over the translation b25fc8b63accaf38… (all of the seat's roots in one cut). By AI agents, Wed Nov 11 2026. No macro, syntax, notation, axiom, sorry.
-/
import Derived.Test.YtbflomopgofkgaaChecked
import GoSem.Claim
import GoSem.ClaimJoined
import GoSem.ClaimMapViews
import Derived.JoinedTies
import Derived.KernelRfl
namespace Go.Proofs.Ytbflomopgofkgaa
/- THE CELL 'sum', in the pinned program and in every row, IS THE sha256 OF THE DUMP (.gsa) THAT YtbflomopgofkgaaProg.lean LOADS. Nothing in Lean hashes anything: it is a label: what it is worth is what the hold of that sum in a sandbox is worth. -/
noncomputable def Try.pinned : Pinned := { name := "ytbflomopgofkgaa", sum := "b25fc8b63accaf3899c86d2d188d06a83f3a4a5c4d42d83218d8299462902fce", checked := Try.checked }
namespace Rows
def none {H : Type} : Left H := { results := [], args := [] }

/-- 'laws.FnExactRankCrews': WHATEVER THE INPUT: true; the input reads as it did. -/
def fnExactRankCrewsSpec : ChangeSpec := { name := "fnExactRankCrews", fn := fun _ => fun
  | [d] => { results := [.lit (.bool true)], args := [d] }
  | _ => none }
def fnExactRankCrewsRow : OpenClaim := { program := "ytbflomopgofkgaa", sum := "b25fc8b63accaf3899c86d2d188d06a83f3a4a5c4d42d83218d8299462902fce", func := "loop.example/g01021/laws.FnExactRankCrews", spec := "fnExactRankCrews", unfollowed := true, recurses := true, apart := false }
def FnExactRankCrewsSaid : Prop := fnExactRankCrewsRow.holds Try.pinned (OpenSpec.ofChange fnExactRankCrewsSpec)

/-- ITS FALSE NEIGHBOUR: 'it returns false'. Refute it at one input. -/
def fnExactRankCrewsWrong : ChangeSpec := { name := "fnExactRankCrews", fn := fun _ => fun
  | [d] => { results := [.lit (.bool false)], args := [d] }
  | _ => none }
def FnExactRankCrewsWrongFalsely : Prop := fnExactRankCrewsRow.holds Try.pinned (OpenSpec.ofChange fnExactRankCrewsWrong)

/-- 'laws.FnExactAddPermit': WHATEVER THE INPUT: true; the input reads as it did. -/
def fnExactAddPermitSpec : ChangeSpec := { name := "fnExactAddPermit", fn := fun _ => fun
  | [d1, d2, d3] => { results := [.lit (.bool true)], args := [d1, d2, d3] }
  | _ => none }
def fnExactAddPermitRow : OpenClaim := { program := "ytbflomopgofkgaa", sum := "b25fc8b63accaf3899c86d2d188d06a83f3a4a5c4d42d83218d8299462902fce", func := "loop.example/g01021/laws.FnExactAddPermit", spec := "fnExactAddPermit", inPlace := ["internal/bytealg.abigen_runtime_cmpstring", "slices.overlaps[loop.example/g01021/impl.Permit]"], unfollowed := true, recurses := true, apart := false }
def FnExactAddPermitSaid : Prop := fnExactAddPermitRow.holds Try.pinned (OpenSpec.ofChange fnExactAddPermitSpec)

/-- ITS FALSE NEIGHBOUR: 'it returns false'. Refute it at one input. -/
def fnExactAddPermitWrong : ChangeSpec := { name := "fnExactAddPermit", fn := fun _ => fun
  | [d1, d2, d3] => { results := [.lit (.bool false)], args := [d1, d2, d3] }
  | _ => none }
def FnExactAddPermitWrongFalsely : Prop := fnExactAddPermitRow.holds Try.pinned (OpenSpec.ofChange fnExactAddPermitWrong)

/-- 'laws.FnExactApplyChanges': WHATEVER THE INPUT: true; the input reads as it did. -/
def fnExactApplyChangesSpec : ChangeSpec := { name := "fnExactApplyChanges", fn := fun _ => fun
  | [d1, d2] => { results := [.lit (.bool true)], args := [d1, d2] }
  | _ => none }
def fnExactApplyChangesRow : OpenClaim := { program := "ytbflomopgofkgaa", sum := "b25fc8b63accaf3899c86d2d188d06a83f3a4a5c4d42d83218d8299462902fce", func := "loop.example/g01021/laws.FnExactApplyChanges", spec := "fnExactApplyChanges", inPlace := ["slices.overlaps[loop.example/g01021/impl.Setting]"], unfollowed := true, recurses := true, apart := false }
def FnExactApplyChangesSaid : Prop := fnExactApplyChangesRow.holds Try.pinned (OpenSpec.ofChange fnExactApplyChangesSpec)

/-- ITS FALSE NEIGHBOUR: 'it returns false'. Refute it at one input. -/
def fnExactApplyChangesWrong : ChangeSpec := { name := "fnExactApplyChanges", fn := fun _ => fun
  | [d1, d2] => { results := [.lit (.bool false)], args := [d1, d2] }
  | _ => none }
def FnExactApplyChangesWrongFalsely : Prop := fnExactApplyChangesRow.holds Try.pinned (OpenSpec.ofChange fnExactApplyChangesWrong)

/-- 'laws.FnExactPermitClashes': WHATEVER THE INPUT: true; the input reads as it did. -/
def fnExactPermitClashesSpec : ChangeSpec := { name := "fnExactPermitClashes", fn := fun _ => fun
  | [d1, d2] => { results := [.lit (.bool true)], args := [d1, d2] }
  | _ => none }
def fnExactPermitClashesRow : OpenClaim := { program := "ytbflomopgofkgaa", sum := "b25fc8b63accaf3899c86d2d188d06a83f3a4a5c4d42d83218d8299462902fce", func := "loop.example/g01021/laws.FnExactPermitClashes", spec := "fnExactPermitClashes", apart := false }
def FnExactPermitClashesSaid : Prop := fnExactPermitClashesRow.holds Try.pinned (OpenSpec.ofChange fnExactPermitClashesSpec)

/-- ITS FALSE NEIGHBOUR: 'it returns false'. Refute it at one input. -/
def fnExactPermitClashesWrong : ChangeSpec := { name := "fnExactPermitClashes", fn := fun _ => fun
  | [d1, d2] => { results := [.lit (.bool false)], args := [d1, d2] }
  | _ => none }
def FnExactPermitClashesWrongFalsely : Prop := fnExactPermitClashesRow.holds Try.pinned (OpenSpec.ofChange fnExactPermitClashesWrong)

/- THE SECOND FORM. 'bulk': how many values and letters a reading holds, each counted each time it is reached (what is shared counts as often as it is met; a slice's spare places count too). A statement '..UptoSaid' is the law's where the arguments, and the package variables that the reading takes, are together of bulk at most 1048576: NARROWER than '..Said'. Prove '..Said' where nothing that the law and all that it calls make is longer than what came in: it says more and counts as full. Else prove '..UptoSaid'. A law counts once. -/
mutual
def uptoBulk {H : Type} : DataW H → Nat
  | .lit (.string bytes) => bytes.length + 1
  | .lit _ => 1
  | .nil => 1
  | .ptr d => uptoBulk d + 1
  | .slice elems spare => uptoBulkAll elems + uptoBulkAll spare + 1
  | .agg parts => uptoBulkAll parts + 1
  | .iface _ d => uptoBulk d + 1
  | .map entries => uptoBulkEntries entries + 1
  | .held _ => 1
def uptoBulkAll {H : Type} : List (DataW H) → Nat
  | [] => 0
  | d :: r => uptoBulk d + uptoBulkAll r
def uptoBulkEntries {H : Type} : List (Lit × DataW H) → Nat
  | [] => 0
  | x :: r => uptoBulkEntry x + uptoBulkEntries r
def uptoBulkEntry {H : Type} : Lit × DataW H → Nat
  | (.string bytes, d) => bytes.length + uptoBulk d + 1
  | (_, d) => uptoBulk d + 1
 end
def uptoSmall : (H : Type) → List (DataW H) → Bool := fun _ ds => decide (uptoBulkAll ds ≤ 1048576)
def OpenSpec.upto (s : _root_.Go.ChangeSpec) : _root_.Go.OpenSpec := { _root_.Go.OpenSpec.ofChange s with cond := some uptoSmall }

/-- 'laws.FnExactRankCrews', WHERE WHAT IT READS IS OF BULK AT MOST 1048576: true; the input reads as it did. -/
def fnExactRankCrewsUptoRow : OpenClaim := { program := "ytbflomopgofkgaa", sum := "b25fc8b63accaf3899c86d2d188d06a83f3a4a5c4d42d83218d8299462902fce", func := "loop.example/g01021/laws.FnExactRankCrews", spec := "fnExactRankCrews", unfollowed := true, recurses := true, apart := false, narrowed := true }
def FnExactRankCrewsUptoSaid : Prop := fnExactRankCrewsUptoRow.holds Try.pinned (OpenSpec.upto fnExactRankCrewsSpec)

/-- 'laws.FnExactAddPermit', WHERE WHAT IT READS IS OF BULK AT MOST 1048576: true; the input reads as it did. -/
def fnExactAddPermitUptoRow : OpenClaim := { program := "ytbflomopgofkgaa", sum := "b25fc8b63accaf3899c86d2d188d06a83f3a4a5c4d42d83218d8299462902fce", func := "loop.example/g01021/laws.FnExactAddPermit", spec := "fnExactAddPermit", inPlace := ["internal/bytealg.abigen_runtime_cmpstring", "slices.overlaps[loop.example/g01021/impl.Permit]"], unfollowed := true, recurses := true, apart := false, narrowed := true }
def FnExactAddPermitUptoSaid : Prop := fnExactAddPermitUptoRow.holds Try.pinned (OpenSpec.upto fnExactAddPermitSpec)

/-- 'laws.FnExactApplyChanges', WHERE WHAT IT READS IS OF BULK AT MOST 1048576: true; the input reads as it did. -/
def fnExactApplyChangesUptoRow : OpenClaim := { program := "ytbflomopgofkgaa", sum := "b25fc8b63accaf3899c86d2d188d06a83f3a4a5c4d42d83218d8299462902fce", func := "loop.example/g01021/laws.FnExactApplyChanges", spec := "fnExactApplyChanges", inPlace := ["slices.overlaps[loop.example/g01021/impl.Setting]"], unfollowed := true, recurses := true, apart := false, narrowed := true }
def FnExactApplyChangesUptoSaid : Prop := fnExactApplyChangesUptoRow.holds Try.pinned (OpenSpec.upto fnExactApplyChangesSpec)

/-- 'laws.FnExactPermitClashes', WHERE WHAT IT READS IS OF BULK AT MOST 1048576: true; the input reads as it did. -/
def fnExactPermitClashesUptoRow : OpenClaim := { program := "ytbflomopgofkgaa", sum := "b25fc8b63accaf3899c86d2d188d06a83f3a4a5c4d42d83218d8299462902fce", func := "loop.example/g01021/laws.FnExactPermitClashes", spec := "fnExactPermitClashes", apart := false, narrowed := true }
def FnExactPermitClashesUptoSaid : Prop := fnExactPermitClashesUptoRow.holds Try.pinned (OpenSpec.upto fnExactPermitClashesSpec)

end Rows
end Go.Proofs.Ytbflomopgofkgaa
