/-
  DERIVED. GIVEN WITH THE SEED: THE CARDS: each row of YtandefcnbemclaaDoorRows.lean that lists a variable, with what it lists TIED to the program's text (the seventh form; the later family's looks); each row that meets fmt, with fmt's text TOLD by the authors' own Lean function (tested against real Go, not proved from fmt's source: count such statements apart). THE CARD IS WHAT COUNTS. Prove the row's statement (the work); the ties are given (YtandefcnbemclaaDoorTie.lean); close each card by the builder's one call (the guide's Derived/Test/ToyasCard.lean, 'card_holds'). Laid BY PROGRAM, IN A SANDBOX (cutbox-door.mjs). By AI agents, Wed Nov 11 2026. No macro, syntax, notation, axiom, sorry.
-/
import Derived.Test.YtandefcnbemclaaDoorRows
import GoSem.ClaimSeven
namespace Go.Proofs.YtandefcnbemclaaDoor
namespace Rows

/-- THE TIED CARD OF 'laws.FnExactCrewText'. -/
def fnExactCrewTextCard : Claim7 := { stood := { row := fnExactCrewTextRow, standIns := [], harness := (true, "f31084f81a06026741e7e6669fb4cf8ad43149f9301d059d3189832005f2043e"), looks := false }, kinds := [], alts := [], laidByText := true, laidKinds := [.data, .data, .data], laidTests := true, laidLooks := .later }
def FnExactCrewTextCardSaid : Prop := Claim7.holds Tryd.pinned (.plain (OpenSpec.ofChange fnExactCrewTextSpec)) fnExactCrewTextCard

/-- THE TIED CARD OF 'laws.FnExactSourceText'. -/
def fnExactSourceTextCard : Claim7 := { stood := { row := fnExactSourceTextRow, standIns := [], harness := (true, "f31084f81a06026741e7e6669fb4cf8ad43149f9301d059d3189832005f2043e"), looks := false }, kinds := [], alts := [], laidByText := true, laidKinds := [.data, .data, .data], laidTests := true, laidLooks := .later }
def FnExactSourceTextCardSaid : Prop := Claim7.holds Tryd.pinned (.plain (OpenSpec.ofChange fnExactSourceTextSpec)) fnExactSourceTextCard

/-- THE TIED CARD OF 'laws.FnExactRefugeText'. -/
def fnExactRefugeTextCard : Claim7 := { stood := { row := fnExactRefugeTextRow, standIns := [], harness := (true, "f31084f81a06026741e7e6669fb4cf8ad43149f9301d059d3189832005f2043e"), looks := false }, kinds := [], alts := [], laidByText := true, laidKinds := [.data, .data, .data], laidTests := true, laidLooks := .later }
def FnExactRefugeTextCardSaid : Prop := Claim7.holds Tryd.pinned (.plain (OpenSpec.ofChange fnExactRefugeTextSpec)) fnExactRefugeTextCard

/-- THE TIED CARD OF 'laws.FnExactVersionText'. -/
def fnExactVersionTextCard : Claim7 := { stood := { row := fnExactVersionTextRow, standIns := [], harness := (true, "f31084f81a06026741e7e6669fb4cf8ad43149f9301d059d3189832005f2043e"), looks := false }, kinds := [], alts := [], laidByText := true, laidKinds := [.data, .data, .data], laidTests := true, laidLooks := .later }
def FnExactVersionTextCardSaid : Prop := Claim7.holds Tryd.pinned (.plain (OpenSpec.ofChange fnExactVersionTextSpec)) fnExactVersionTextCard

/-- THE TIED CARD OF 'laws.FnExactPermitText'. -/
def fnExactPermitTextCard : Claim7 := { stood := { row := fnExactPermitTextRow, standIns := [], harness := (true, "f31084f81a06026741e7e6669fb4cf8ad43149f9301d059d3189832005f2043e"), looks := false }, kinds := [], alts := [], laidByText := true, laidKinds := [.data, .data, .data], laidTests := true, laidLooks := .later }
def FnExactPermitTextCardSaid : Prop := Claim7.holds Tryd.pinned (.plain (OpenSpec.ofChange fnExactPermitTextSpec)) fnExactPermitTextCard

/-- THE SECOND FORM's CARD OF 'laws.FnExactCrewText'. -/
def fnExactCrewTextUptoCard : Claim7 := { stood := { row := fnExactCrewTextUptoRow, standIns := [], harness := (true, "f31084f81a06026741e7e6669fb4cf8ad43149f9301d059d3189832005f2043e"), looks := false }, kinds := [], alts := [], laidByText := true, laidKinds := [.data, .data, .data], laidTests := true, laidLooks := .later }
def FnExactCrewTextUptoCardSaid : Prop := Claim7.holds Tryd.pinned (.plain (OpenSpec.upto fnExactCrewTextSpec)) fnExactCrewTextUptoCard

/-- THE SECOND FORM's CARD OF 'laws.FnExactSourceText'. -/
def fnExactSourceTextUptoCard : Claim7 := { stood := { row := fnExactSourceTextUptoRow, standIns := [], harness := (true, "f31084f81a06026741e7e6669fb4cf8ad43149f9301d059d3189832005f2043e"), looks := false }, kinds := [], alts := [], laidByText := true, laidKinds := [.data, .data, .data], laidTests := true, laidLooks := .later }
def FnExactSourceTextUptoCardSaid : Prop := Claim7.holds Tryd.pinned (.plain (OpenSpec.upto fnExactSourceTextSpec)) fnExactSourceTextUptoCard

/-- THE SECOND FORM's CARD OF 'laws.FnExactRefugeText'. -/
def fnExactRefugeTextUptoCard : Claim7 := { stood := { row := fnExactRefugeTextUptoRow, standIns := [], harness := (true, "f31084f81a06026741e7e6669fb4cf8ad43149f9301d059d3189832005f2043e"), looks := false }, kinds := [], alts := [], laidByText := true, laidKinds := [.data, .data, .data], laidTests := true, laidLooks := .later }
def FnExactRefugeTextUptoCardSaid : Prop := Claim7.holds Tryd.pinned (.plain (OpenSpec.upto fnExactRefugeTextSpec)) fnExactRefugeTextUptoCard

/-- THE SECOND FORM's CARD OF 'laws.FnExactVersionText'. -/
def fnExactVersionTextUptoCard : Claim7 := { stood := { row := fnExactVersionTextUptoRow, standIns := [], harness := (true, "f31084f81a06026741e7e6669fb4cf8ad43149f9301d059d3189832005f2043e"), looks := false }, kinds := [], alts := [], laidByText := true, laidKinds := [.data, .data, .data], laidTests := true, laidLooks := .later }
def FnExactVersionTextUptoCardSaid : Prop := Claim7.holds Tryd.pinned (.plain (OpenSpec.upto fnExactVersionTextSpec)) fnExactVersionTextUptoCard

/-- THE SECOND FORM's CARD OF 'laws.FnExactPermitText'. -/
def fnExactPermitTextUptoCard : Claim7 := { stood := { row := fnExactPermitTextUptoRow, standIns := [], harness := (true, "f31084f81a06026741e7e6669fb4cf8ad43149f9301d059d3189832005f2043e"), looks := false }, kinds := [], alts := [], laidByText := true, laidKinds := [.data, .data, .data], laidTests := true, laidLooks := .later }
def FnExactPermitTextUptoCardSaid : Prop := Claim7.holds Tryd.pinned (.plain (OpenSpec.upto fnExactPermitTextSpec)) fnExactPermitTextUptoCard
end Rows
end Go.Proofs.YtandefcnbemclaaDoor
