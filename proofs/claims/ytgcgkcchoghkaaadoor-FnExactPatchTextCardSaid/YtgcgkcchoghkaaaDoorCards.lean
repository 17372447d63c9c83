/-
  DERIVED. GIVEN WITH THE SEED: THE CARDS: each row of YtgcgkcchoghkaaaDoorRows.lean that lists a variable, with what it lists TIED to the program's text (the seventh form; the later family's looks); each row that meets fmt, with fmt's text TOLD by the authors' own Lean function (tested against real Go, not proved from fmt's source: count such statements apart). THE CARD IS WHAT COUNTS. Prove the row's statement (the work); the ties are given (YtgcgkcchoghkaaaDoorTie.lean); close each card by the builder's one call (the guide's Derived/Test/ToyasCard.lean, 'card_holds'). Laid BY PROGRAM, IN A SANDBOX (cutbox-door.mjs). By AI agents, Wed Nov 11 2026. No macro, syntax, notation, axiom, sorry.
-/
import Derived.Test.YtgcgkcchoghkaaaDoorRows
import GoSem.ClaimSeven
namespace Go.Proofs.YtgcgkcchoghkaaaDoor
namespace Rows

/-- THE TIED CARD OF 'laws.FnExactPatchText'. -/
def fnExactPatchTextCard : Claim7 := { stood := { row := fnExactPatchTextRow, standIns := [], harness := (true, "6348727e3366b7eff20e36f7d63c68f79bb9b55c5cd1a3045ad5fbae6149d030"), looks := false }, kinds := [], alts := [], laidByText := true, laidKinds := [.data, .pinned], laidTests := true, laidLooks := .later }
def FnExactPatchTextCardSaid : Prop := Claim7.holds Tryd.pinned (.plain (OpenSpec.ofChange fnExactPatchTextSpec)) fnExactPatchTextCard

/-- THE SECOND FORM's CARD OF 'laws.FnExactPatchText'. -/
def fnExactPatchTextUptoCard : Claim7 := { stood := { row := fnExactPatchTextUptoRow, standIns := [], harness := (true, "6348727e3366b7eff20e36f7d63c68f79bb9b55c5cd1a3045ad5fbae6149d030"), looks := false }, kinds := [], alts := [], laidByText := true, laidKinds := [.data, .pinned], laidTests := true, laidLooks := .later }
def FnExactPatchTextUptoCardSaid : Prop := Claim7.holds Tryd.pinned (.plain (OpenSpec.upto fnExactPatchTextSpec)) fnExactPatchTextUptoCard
end Rows
end Go.Proofs.YtgcgkcchoghkaaaDoor
