/-
  DERIVED. GIVEN WITH THE SEED: THE CARDS: each row of YtchhognpijobcaaDoorRows.lean that lists a variable, with what it lists TIED to the program's text (the seventh form; the later family's looks); each row that meets fmt, with fmt's text TOLD by the authors' own Lean function (tested against real Go, not proved from fmt's source: count such statements apart). THE CARD IS WHAT COUNTS. Prove the row's statement (the work); the ties are given (YtchhognpijobcaaDoorTie.lean); close each card by the builder's one call (the guide's Derived/Test/ToyasCard.lean, 'card_holds'). Laid BY PROGRAM, IN A SANDBOX (cutbox-door.mjs). By AI agents, Wed Nov 11 2026. No macro, syntax, notation, axiom, sorry.
-/
import Derived.Test.YtchhognpijobcaaDoorRows
import GoSem.ClaimSeven
namespace Go.Proofs.YtchhognpijobcaaDoor
namespace Rows

/-- THE TIED CARD OF 'laws.FnExactParseAmount'. -/
def fnExactParseAmountCard : Claim7 := { stood := { row := fnExactParseAmountRow, standIns := [], harness := (true, "54c651b9c64be20fa246e25f28148a4c2f311f3159a23607e0a709c027eda79d"), looks := false }, kinds := [], alts := [], laidByText := true, laidKinds := [.data, .pinned], laidTests := true, laidLooks := .later }
def FnExactParseAmountCardSaid : Prop := Claim7.holds Tryd.pinned (.plain (OpenSpec.ofChange fnExactParseAmountSpec)) fnExactParseAmountCard

/-- THE TIED CARD OF 'laws.FnExactValueText'. -/
def fnExactValueTextCard : Claim7 := { stood := { row := fnExactValueTextRow, standIns := [], harness := (true, "54c651b9c64be20fa246e25f28148a4c2f311f3159a23607e0a709c027eda79d"), looks := false }, kinds := [], alts := [], laidByText := true, laidKinds := [.data, .pinned], laidTests := true, laidLooks := .later }
def FnExactValueTextCardSaid : Prop := Claim7.holds Tryd.pinned (.plain (OpenSpec.ofChange fnExactValueTextSpec)) fnExactValueTextCard

/-- THE TIED CARD OF 'laws.FnAmounts'. -/
def fnAmountsCard : Claim7 := { stood := { row := fnAmountsRow, standIns := [], harness := (true, "54c651b9c64be20fa246e25f28148a4c2f311f3159a23607e0a709c027eda79d"), looks := false }, kinds := [], alts := [], laidByText := true, laidKinds := [.data, .pinned], laidTests := true, laidLooks := .later }
def FnAmountsCardSaid : Prop := Claim7.holds Tryd.pinned (.plain (OpenSpec.ofChange fnAmountsSpec)) fnAmountsCard

/-- THE SECOND FORM's CARD OF 'laws.FnExactParseAmount'. -/
def fnExactParseAmountUptoCard : Claim7 := { stood := { row := fnExactParseAmountUptoRow, standIns := [], harness := (true, "54c651b9c64be20fa246e25f28148a4c2f311f3159a23607e0a709c027eda79d"), looks := false }, kinds := [], alts := [], laidByText := true, laidKinds := [.data, .pinned], laidTests := true, laidLooks := .later }
def FnExactParseAmountUptoCardSaid : Prop := Claim7.holds Tryd.pinned (.plain (OpenSpec.upto fnExactParseAmountSpec)) fnExactParseAmountUptoCard

/-- THE SECOND FORM's CARD OF 'laws.FnExactValueText'. -/
def fnExactValueTextUptoCard : Claim7 := { stood := { row := fnExactValueTextUptoRow, standIns := [], harness := (true, "54c651b9c64be20fa246e25f28148a4c2f311f3159a23607e0a709c027eda79d"), looks := false }, kinds := [], alts := [], laidByText := true, laidKinds := [.data, .pinned], laidTests := true, laidLooks := .later }
def FnExactValueTextUptoCardSaid : Prop := Claim7.holds Tryd.pinned (.plain (OpenSpec.upto fnExactValueTextSpec)) fnExactValueTextUptoCard

/-- THE SECOND FORM's CARD OF 'laws.FnAmounts'. -/
def fnAmountsUptoCard : Claim7 := { stood := { row := fnAmountsUptoRow, standIns := [], harness := (true, "54c651b9c64be20fa246e25f28148a4c2f311f3159a23607e0a709c027eda79d"), looks := false }, kinds := [], alts := [], laidByText := true, laidKinds := [.data, .pinned], laidTests := true, laidLooks := .later }
def FnAmountsUptoCardSaid : Prop := Claim7.holds Tryd.pinned (.plain (OpenSpec.upto fnAmountsSpec)) fnAmountsUptoCard
end Rows
end Go.Proofs.YtchhognpijobcaaDoor
