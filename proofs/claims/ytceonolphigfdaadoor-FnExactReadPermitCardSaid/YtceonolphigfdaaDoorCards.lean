/-
  DERIVED. GIVEN WITH THE SEED: THE CARDS: each row of YtceonolphigfdaaDoorRows.lean that lists a variable, with what it lists TIED to the program's text (the seventh form; the later family's looks); each row that meets fmt, with fmt's text TOLD by the authors' own Lean function (tested against real Go, not proved from fmt's source: count such statements apart). THE CARD IS WHAT COUNTS. Prove the row's statement (the work); the ties are given (YtceonolphigfdaaDoorTie.lean); close each card by the builder's one call (the guide's Derived/Test/ToyasCard.lean, 'card_holds'). Laid BY PROGRAM, IN A SANDBOX (cutbox-door.mjs). By AI agents, Wed Nov 11 2026. No macro, syntax, notation, axiom, sorry.
-/
import Derived.Test.YtceonolphigfdaaDoorRows
import GoSem.ClaimSeven
namespace Go.Proofs.YtceonolphigfdaaDoor
namespace Rows

/-- THE TIED CARD OF 'laws.FnExactReadCrew'. -/
def fnExactReadCrewCard : Claim7 := { stood := { row := fnExactReadCrewRow, standIns := [], harness := (true, "da65938622a43ffab55a8e41e91228eec5b82e176d9e72ca6a54e32e837893f5"), looks := true }, kinds := [], alts := [], laidByText := true, laidKinds := [.data, .data, .data, .data, .sentinel, .sentinel, .pinned], laidTests := true, laidLooks := .later }
def FnExactReadCrewCardSaid : Prop := Claim7.holds Tryd.pinned (.plain (OpenSpec.ofChange fnExactReadCrewSpec)) fnExactReadCrewCard

/-- THE TIED CARD OF 'laws.FnExactReadSource'. -/
def fnExactReadSourceCard : Claim7 := { stood := { row := fnExactReadSourceRow, standIns := [], harness := (true, "da65938622a43ffab55a8e41e91228eec5b82e176d9e72ca6a54e32e837893f5"), looks := true }, kinds := [], alts := [], laidByText := true, laidKinds := [.data, .data, .data, .data, .sentinel, .sentinel, .pinned], laidTests := true, laidLooks := .later }
def FnExactReadSourceCardSaid : Prop := Claim7.holds Tryd.pinned (.plain (OpenSpec.ofChange fnExactReadSourceSpec)) fnExactReadSourceCard

/-- THE TIED CARD OF 'laws.FnExactReadRefuge'. -/
def fnExactReadRefugeCard : Claim7 := { stood := { row := fnExactReadRefugeRow, standIns := [], harness := (true, "da65938622a43ffab55a8e41e91228eec5b82e176d9e72ca6a54e32e837893f5"), looks := true }, kinds := [], alts := [], laidByText := true, laidKinds := [.data, .data, .data, .data, .sentinel, .sentinel, .pinned], laidTests := true, laidLooks := .later }
def FnExactReadRefugeCardSaid : Prop := Claim7.holds Tryd.pinned (.plain (OpenSpec.ofChange fnExactReadRefugeSpec)) fnExactReadRefugeCard

/-- THE TIED CARD OF 'laws.FnExactReadPermit'. -/
def fnExactReadPermitCard : Claim7 := { stood := { row := fnExactReadPermitRow, standIns := [], harness := (true, "da65938622a43ffab55a8e41e91228eec5b82e176d9e72ca6a54e32e837893f5"), looks := true }, kinds := [], alts := [], laidByText := true, laidKinds := [.data, .data, .data, .data, .sentinel, .sentinel, .pinned], laidTests := true, laidLooks := .later }
def FnExactReadPermitCardSaid : Prop := Claim7.holds Tryd.pinned (.plain (OpenSpec.ofChange fnExactReadPermitSpec)) fnExactReadPermitCard

/-- THE SECOND FORM's CARD OF 'laws.FnExactReadCrew'. -/
def fnExactReadCrewUptoCard : Claim7 := { stood := { row := fnExactReadCrewUptoRow, standIns := [], harness := (true, "da65938622a43ffab55a8e41e91228eec5b82e176d9e72ca6a54e32e837893f5"), looks := true }, kinds := [], alts := [], laidByText := true, laidKinds := [.data, .data, .data, .data, .sentinel, .sentinel, .pinned], laidTests := true, laidLooks := .later }
def FnExactReadCrewUptoCardSaid : Prop := Claim7.holds Tryd.pinned (.plain (OpenSpec.upto fnExactReadCrewSpec)) fnExactReadCrewUptoCard

/-- THE SECOND FORM's CARD OF 'laws.FnExactReadSource'. -/
def fnExactReadSourceUptoCard : Claim7 := { stood := { row := fnExactReadSourceUptoRow, standIns := [], harness := (true, "da65938622a43ffab55a8e41e91228eec5b82e176d9e72ca6a54e32e837893f5"), looks := true }, kinds := [], alts := [], laidByText := true, laidKinds := [.data, .data, .data, .data, .sentinel, .sentinel, .pinned], laidTests := true, laidLooks := .later }
def FnExactReadSourceUptoCardSaid : Prop := Claim7.holds Tryd.pinned (.plain (OpenSpec.upto fnExactReadSourceSpec)) fnExactReadSourceUptoCard

/-- THE SECOND FORM's CARD OF 'laws.FnExactReadRefuge'. -/
def fnExactReadRefugeUptoCard : Claim7 := { stood := { row := fnExactReadRefugeUptoRow, standIns := [], harness := (true, "da65938622a43ffab55a8e41e91228eec5b82e176d9e72ca6a54e32e837893f5"), looks := true }, kinds := [], alts := [], laidByText := true, laidKinds := [.data, .data, .data, .data, .sentinel, .sentinel, .pinned], laidTests := true, laidLooks := .later }
def FnExactReadRefugeUptoCardSaid : Prop := Claim7.holds Tryd.pinned (.plain (OpenSpec.upto fnExactReadRefugeSpec)) fnExactReadRefugeUptoCard

/-- THE SECOND FORM's CARD OF 'laws.FnExactReadPermit'. -/
def fnExactReadPermitUptoCard : Claim7 := { stood := { row := fnExactReadPermitUptoRow, standIns := [], harness := (true, "da65938622a43ffab55a8e41e91228eec5b82e176d9e72ca6a54e32e837893f5"), looks := true }, kinds := [], alts := [], laidByText := true, laidKinds := [.data, .data, .data, .data, .sentinel, .sentinel, .pinned], laidTests := true, laidLooks := .later }
def FnExactReadPermitUptoCardSaid : Prop := Claim7.holds Tryd.pinned (.plain (OpenSpec.upto fnExactReadPermitSpec)) fnExactReadPermitUptoCard
end Rows
end Go.Proofs.YtceonolphigfdaaDoor
