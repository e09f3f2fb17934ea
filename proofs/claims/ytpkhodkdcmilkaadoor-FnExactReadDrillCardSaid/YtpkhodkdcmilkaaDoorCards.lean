/-
  DERIVED. GIVEN WITH THE SEED: THE CARDS: each row of YtpkhodkdcmilkaaDoorRows.lean that lists a variable, with what it lists TIED to the program's text (the seventh form; the later family's looks); each row that meets fmt, with fmt's text TOLD by the authors' own Lean function (tested against real Go, not proved from fmt's source: count such statements apart). THE CARD IS WHAT COUNTS. Prove the row's statement (the work); the ties are given (YtpkhodkdcmilkaaDoorTie.lean); close each card by the builder's one call (the guide's Derived/Test/ToyasCard.lean, 'card_holds'). Laid BY PROGRAM, IN A SANDBOX (cutbox-door.mjs). By AI agents, Wed Nov 11 2026. No macro, syntax, notation, axiom, sorry.
-/
import Derived.Test.YtpkhodkdcmilkaaDoorRows
import GoSem.ClaimSeven
namespace Go.Proofs.YtpkhodkdcmilkaaDoor
namespace Rows

/-- THE TIED CARD OF 'laws.FnExactReadFire'. -/
def fnExactReadFireCard : Claim7 := { stood := { row := fnExactReadFireRow, standIns := [], harness := (true, "d94f6cccc6b1f9242a1d347f24831c4f95334d70a76de567bf51b9201f48cc97"), looks := true }, kinds := [], alts := [], laidByText := true, laidKinds := [.data, .data, .data, .data, .sentinel, .sentinel, .pinned], laidTests := true, laidLooks := .later }
def FnExactReadFireCardSaid : Prop := Claim7.holds Tryd.pinned (.plain (OpenSpec.ofChange fnExactReadFireSpec)) fnExactReadFireCard

/-- THE TIED CARD OF 'laws.FnExactReadWant'. -/
def fnExactReadWantCard : Claim7 := { stood := { row := fnExactReadWantRow, standIns := [], harness := (true, "d94f6cccc6b1f9242a1d347f24831c4f95334d70a76de567bf51b9201f48cc97"), looks := true }, kinds := [], alts := [], laidByText := true, laidKinds := [.data, .data, .data, .data, .sentinel, .sentinel, .pinned], laidTests := true, laidLooks := .later }
def FnExactReadWantCardSaid : Prop := Claim7.holds Tryd.pinned (.plain (OpenSpec.ofChange fnExactReadWantSpec)) fnExactReadWantCard

/-- THE TIED CARD OF 'laws.FnExactReadDrill'. -/
def fnExactReadDrillCard : Claim7 := { stood := { row := fnExactReadDrillRow, standIns := [], harness := (true, "d94f6cccc6b1f9242a1d347f24831c4f95334d70a76de567bf51b9201f48cc97"), looks := true }, kinds := [], alts := [], laidByText := true, laidKinds := [.data, .data, .data, .data, .sentinel, .sentinel, .pinned], laidTests := true, laidLooks := .later }
def FnExactReadDrillCardSaid : Prop := Claim7.holds Tryd.pinned (.plain (OpenSpec.ofChange fnExactReadDrillSpec)) fnExactReadDrillCard

/-- THE TIED CARD OF 'laws.FnExactReadJob'. -/
def fnExactReadJobCard : Claim7 := { stood := { row := fnExactReadJobRow, standIns := [], harness := (true, "d94f6cccc6b1f9242a1d347f24831c4f95334d70a76de567bf51b9201f48cc97"), looks := true }, kinds := [], alts := [], laidByText := true, laidKinds := [.data, .data, .data, .data, .sentinel, .sentinel, .pinned], laidTests := true, laidLooks := .later }
def FnExactReadJobCardSaid : Prop := Claim7.holds Tryd.pinned (.plain (OpenSpec.ofChange fnExactReadJobSpec)) fnExactReadJobCard

/-- THE TIED CARD OF 'laws.FnExactReadCheck'. -/
def fnExactReadCheckCard : Claim7 := { stood := { row := fnExactReadCheckRow, standIns := [], harness := (true, "d94f6cccc6b1f9242a1d347f24831c4f95334d70a76de567bf51b9201f48cc97"), looks := true }, kinds := [], alts := [], laidByText := true, laidKinds := [.data, .data, .data, .data, .sentinel, .sentinel, .pinned], laidTests := true, laidLooks := .later }
def FnExactReadCheckCardSaid : Prop := Claim7.holds Tryd.pinned (.plain (OpenSpec.ofChange fnExactReadCheckSpec)) fnExactReadCheckCard

/-- THE SECOND FORM's CARD OF 'laws.FnExactReadFire'. -/
def fnExactReadFireUptoCard : Claim7 := { stood := { row := fnExactReadFireUptoRow, standIns := [], harness := (true, "d94f6cccc6b1f9242a1d347f24831c4f95334d70a76de567bf51b9201f48cc97"), looks := true }, kinds := [], alts := [], laidByText := true, laidKinds := [.data, .data, .data, .data, .sentinel, .sentinel, .pinned], laidTests := true, laidLooks := .later }
def FnExactReadFireUptoCardSaid : Prop := Claim7.holds Tryd.pinned (.plain (OpenSpec.upto fnExactReadFireSpec)) fnExactReadFireUptoCard

/-- THE SECOND FORM's CARD OF 'laws.FnExactReadWant'. -/
def fnExactReadWantUptoCard : Claim7 := { stood := { row := fnExactReadWantUptoRow, standIns := [], harness := (true, "d94f6cccc6b1f9242a1d347f24831c4f95334d70a76de567bf51b9201f48cc97"), looks := true }, kinds := [], alts := [], laidByText := true, laidKinds := [.data, .data, .data, .data, .sentinel, .sentinel, .pinned], laidTests := true, laidLooks := .later }
def FnExactReadWantUptoCardSaid : Prop := Claim7.holds Tryd.pinned (.plain (OpenSpec.upto fnExactReadWantSpec)) fnExactReadWantUptoCard

/-- THE SECOND FORM's CARD OF 'laws.FnExactReadDrill'. -/
def fnExactReadDrillUptoCard : Claim7 := { stood := { row := fnExactReadDrillUptoRow, standIns := [], harness := (true, "d94f6cccc6b1f9242a1d347f24831c4f95334d70a76de567bf51b9201f48cc97"), looks := true }, kinds := [], alts := [], laidByText := true, laidKinds := [.data, .data, .data, .data, .sentinel, .sentinel, .pinned], laidTests := true, laidLooks := .later }
def FnExactReadDrillUptoCardSaid : Prop := Claim7.holds Tryd.pinned (.plain (OpenSpec.upto fnExactReadDrillSpec)) fnExactReadDrillUptoCard

/-- THE SECOND FORM's CARD OF 'laws.FnExactReadJob'. -/
def fnExactReadJobUptoCard : Claim7 := { stood := { row := fnExactReadJobUptoRow, standIns := [], harness := (true, "d94f6cccc6b1f9242a1d347f24831c4f95334d70a76de567bf51b9201f48cc97"), looks := true }, kinds := [], alts := [], laidByText := true, laidKinds := [.data, .data, .data, .data, .sentinel, .sentinel, .pinned], laidTests := true, laidLooks := .later }
def FnExactReadJobUptoCardSaid : Prop := Claim7.holds Tryd.pinned (.plain (OpenSpec.upto fnExactReadJobSpec)) fnExactReadJobUptoCard

/-- THE SECOND FORM's CARD OF 'laws.FnExactReadCheck'. -/
def fnExactReadCheckUptoCard : Claim7 := { stood := { row := fnExactReadCheckUptoRow, standIns := [], harness := (true, "d94f6cccc6b1f9242a1d347f24831c4f95334d70a76de567bf51b9201f48cc97"), looks := true }, kinds := [], alts := [], laidByText := true, laidKinds := [.data, .data, .data, .data, .sentinel, .sentinel, .pinned], laidTests := true, laidLooks := .later }
def FnExactReadCheckUptoCardSaid : Prop := Claim7.holds Tryd.pinned (.plain (OpenSpec.upto fnExactReadCheckSpec)) fnExactReadCheckUptoCard
end Rows
end Go.Proofs.YtpkhodkdcmilkaaDoor
