/-
  DERIVED. GIVEN WITH THE SEED: THE CARDS: each row of YtpjpnppoejnafaaDoorRows.lean that lists a variable, with what it lists TIED to the program's text (the seventh form; the later family's looks); each row that meets fmt, with fmt's text TOLD by the authors' own Lean function (tested against real Go, not proved from fmt's source: count such statements apart). THE CARD IS WHAT COUNTS. Prove the row's statement (the work); the ties are given (YtpjpnppoejnafaaDoorTie.lean); close each card by the builder's one call (the guide's Derived/Test/ToyasCard.lean, 'card_holds'). Laid BY PROGRAM, IN A SANDBOX (cutbox-door.mjs). By AI agents, Wed Nov 11 2026. No macro, syntax, notation, axiom, sorry.
-/
import Derived.Test.YtpjpnppoejnafaaDoorRows
import GoSem.ClaimSeven
namespace Go.Proofs.YtpjpnppoejnafaaDoor
namespace Rows

/-- THE TIED CARD OF 'laws.FnExactParseLabels'. -/
def fnExactParseLabelsCard : Claim7 := { stood := { row := fnExactParseLabelsRow, standIns := [], harness := (true, "ba4f657fa8b592f274b6cc130ab971ee82f2b4c39185dd714d5d2eff0ed06bdc"), looks := false }, kinds := [], alts := [], laidByText := true, laidKinds := [.data, .pinned], laidTests := true, laidLooks := .later }
def FnExactParseLabelsCardSaid : Prop := Claim7.holds Tryd.pinned (.plain (OpenSpec.ofChange fnExactParseLabelsSpec)) fnExactParseLabelsCard

/-- THE TIED CARD OF 'laws.FnExactParseSelector'. -/
def fnExactParseSelectorCard : Claim7 := { stood := { row := fnExactParseSelectorRow, standIns := [], harness := (true, "ba4f657fa8b592f274b6cc130ab971ee82f2b4c39185dd714d5d2eff0ed06bdc"), looks := false }, kinds := [], alts := [], laidByText := true, laidKinds := [.data, .pinned], laidTests := true, laidLooks := .later }
def FnExactParseSelectorCardSaid : Prop := Claim7.holds Tryd.pinned (.plain (OpenSpec.ofChange fnExactParseSelectorSpec)) fnExactParseSelectorCard

/-- THE TIED CARD OF 'laws.FnLabels'. -/
def fnLabelsCard : Claim7 := { stood := { row := fnLabelsRow, standIns := [], harness := (true, "ba4f657fa8b592f274b6cc130ab971ee82f2b4c39185dd714d5d2eff0ed06bdc"), looks := false }, kinds := [], alts := [], laidByText := true, laidKinds := [.data, .pinned], laidTests := true, laidLooks := .later }
def FnLabelsCardSaid : Prop := Claim7.holds Tryd.pinned (.plain (OpenSpec.ofChange fnLabelsSpec)) fnLabelsCard

/-- THE TIED CARD OF 'laws.FnSelectors'. -/
def fnSelectorsCard : Claim7 := { stood := { row := fnSelectorsRow, standIns := [], harness := (true, "ba4f657fa8b592f274b6cc130ab971ee82f2b4c39185dd714d5d2eff0ed06bdc"), looks := false }, kinds := [], alts := [], laidByText := true, laidKinds := [.data, .pinned], laidTests := true, laidLooks := .later }
def FnSelectorsCardSaid : Prop := Claim7.holds Tryd.pinned (.plain (OpenSpec.ofChange fnSelectorsSpec)) fnSelectorsCard

/-- THE SECOND FORM's CARD OF 'laws.FnExactParseLabels'. -/
def fnExactParseLabelsUptoCard : Claim7 := { stood := { row := fnExactParseLabelsUptoRow, standIns := [], harness := (true, "ba4f657fa8b592f274b6cc130ab971ee82f2b4c39185dd714d5d2eff0ed06bdc"), looks := false }, kinds := [], alts := [], laidByText := true, laidKinds := [.data, .pinned], laidTests := true, laidLooks := .later }
def FnExactParseLabelsUptoCardSaid : Prop := Claim7.holds Tryd.pinned (.plain (OpenSpec.upto fnExactParseLabelsSpec)) fnExactParseLabelsUptoCard

/-- THE SECOND FORM's CARD OF 'laws.FnExactParseSelector'. -/
def fnExactParseSelectorUptoCard : Claim7 := { stood := { row := fnExactParseSelectorUptoRow, standIns := [], harness := (true, "ba4f657fa8b592f274b6cc130ab971ee82f2b4c39185dd714d5d2eff0ed06bdc"), looks := false }, kinds := [], alts := [], laidByText := true, laidKinds := [.data, .pinned], laidTests := true, laidLooks := .later }
def FnExactParseSelectorUptoCardSaid : Prop := Claim7.holds Tryd.pinned (.plain (OpenSpec.upto fnExactParseSelectorSpec)) fnExactParseSelectorUptoCard

/-- THE SECOND FORM's CARD OF 'laws.FnLabels'. -/
def fnLabelsUptoCard : Claim7 := { stood := { row := fnLabelsUptoRow, standIns := [], harness := (true, "ba4f657fa8b592f274b6cc130ab971ee82f2b4c39185dd714d5d2eff0ed06bdc"), looks := false }, kinds := [], alts := [], laidByText := true, laidKinds := [.data, .pinned], laidTests := true, laidLooks := .later }
def FnLabelsUptoCardSaid : Prop := Claim7.holds Tryd.pinned (.plain (OpenSpec.upto fnLabelsSpec)) fnLabelsUptoCard

/-- THE SECOND FORM's CARD OF 'laws.FnSelectors'. -/
def fnSelectorsUptoCard : Claim7 := { stood := { row := fnSelectorsUptoRow, standIns := [], harness := (true, "ba4f657fa8b592f274b6cc130ab971ee82f2b4c39185dd714d5d2eff0ed06bdc"), looks := false }, kinds := [], alts := [], laidByText := true, laidKinds := [.data, .pinned], laidTests := true, laidLooks := .later }
def FnSelectorsUptoCardSaid : Prop := Claim7.holds Tryd.pinned (.plain (OpenSpec.upto fnSelectorsSpec)) fnSelectorsUptoCard
end Rows
end Go.Proofs.YtpjpnppoejnafaaDoor
