/-
  No cell of these rows narrows 'for every input' (looked for: loops, veiled, ifaces, maps, wideKeys, modest, calm, conditions, laid).
  DERIVED. THE GIVEN ROWS OF THIS SEAT. 12 by the template 'for every input the law returns true; each argument reads behind the call as it read before'; 0 by the template 'total and deterministic' (their statements: YtbdegifmcppciaaTotals.lean).
  GIVEN WITH THE SEED: the statements are not yours to turn. If you find one false, say at which input.
  Laid BY PROGRAM, IN A SANDBOX (cutbox-rows.mjs): the forced cells as the released guide's own fill.sh prints them over the translation cc3ab731807cb192… (all of the seat's roots in one cut). By AI agents, Wed Nov 11 2026. No macro, syntax, notation, axiom, sorry.
-/
import Derived.Test.YtbdegifmcppciaaChecked
import GoSem.Claim
import GoSem.ClaimJoined
import GoSem.ClaimMapViews
import Derived.JoinedTies
import Derived.KernelRfl
namespace Go.Proofs.Ytbdegifmcppciaa
/- THE CELL 'sum', in the pinned program and in every row, IS THE sha256 OF THE DUMP (.gsa) THAT YtbdegifmcppciaaProg.lean LOADS. Nothing in Lean hashes anything: it is a label: what it is worth is what the hold of that sum in a sandbox is worth. -/
noncomputable def Try.pinned : Pinned := { name := "ytbdegifmcppciaa", sum := "cc3ab731807cb19218450feb3018a2aea09df1d6c800de3e09f02d164fe42e85", checked := Try.checked }
namespace Rows
def none {H : Type} : Left H := { results := [], args := [] }

/-- 'laws.FnExactConstants': WHATEVER THE INPUT: true; the input reads as it did. -/
def fnExactConstantsSpec : ChangeSpec := { name := "fnExactConstants", fn := fun _ => fun
  | [] => { results := [.lit (.bool true)], args := [] }
  | _ => none }
def fnExactConstantsRow : OpenClaim := { program := "ytbdegifmcppciaa", sum := "cc3ab731807cb19218450feb3018a2aea09df1d6c800de3e09f02d164fe42e85", func := "loop.example/g00119/laws.FnExactConstants", spec := "fnExactConstants", apart := false }
def FnExactConstantsSaid : Prop := fnExactConstantsRow.holds Try.pinned (OpenSpec.ofChange fnExactConstantsSpec)

/-- ITS FALSE NEIGHBOUR: 'it returns false'. Refute it at one input. -/
def fnExactConstantsWrong : ChangeSpec := { name := "fnExactConstants", fn := fun _ => fun
  | [] => { results := [.lit (.bool false)], args := [] }
  | _ => none }
def FnExactConstantsWrongFalsely : Prop := fnExactConstantsRow.holds Try.pinned (OpenSpec.ofChange fnExactConstantsWrong)

/-- 'laws.FnExactNameOk': WHATEVER THE INPUT: true; the input reads as it did. -/
def fnExactNameOkSpec : ChangeSpec := { name := "fnExactNameOk", fn := fun _ => fun
  | [d] => { results := [.lit (.bool true)], args := [d] }
  | _ => none }
def fnExactNameOkRow : OpenClaim := { program := "ytbdegifmcppciaa", sum := "cc3ab731807cb19218450feb3018a2aea09df1d6c800de3e09f02d164fe42e85", func := "loop.example/g00119/laws.FnExactNameOk", spec := "fnExactNameOk", apart := false }
def FnExactNameOkSaid : Prop := fnExactNameOkRow.holds Try.pinned (OpenSpec.ofChange fnExactNameOkSpec)

/-- ITS FALSE NEIGHBOUR: 'it returns false'. Refute it at one input. -/
def fnExactNameOkWrong : ChangeSpec := { name := "fnExactNameOk", fn := fun _ => fun
  | [d] => { results := [.lit (.bool false)], args := [d] }
  | _ => none }
def FnExactNameOkWrongFalsely : Prop := fnExactNameOkRow.holds Try.pinned (OpenSpec.ofChange fnExactNameOkWrong)

/-- 'laws.FnExactAmountsOk': WHATEVER THE INPUT: true; the input reads as it did. -/
def fnExactAmountsOkSpec : ChangeSpec := { name := "fnExactAmountsOk", fn := fun _ => fun
  | [d] => { results := [.lit (.bool true)], args := [d] }
  | _ => none }
def fnExactAmountsOkRow : OpenClaim := { program := "ytbdegifmcppciaa", sum := "cc3ab731807cb19218450feb3018a2aea09df1d6c800de3e09f02d164fe42e85", func := "loop.example/g00119/laws.FnExactAmountsOk", spec := "fnExactAmountsOk", apart := false }
def FnExactAmountsOkSaid : Prop := fnExactAmountsOkRow.holds Try.pinned (OpenSpec.ofChange fnExactAmountsOkSpec)

/-- ITS FALSE NEIGHBOUR: 'it returns false'. Refute it at one input. -/
def fnExactAmountsOkWrong : ChangeSpec := { name := "fnExactAmountsOk", fn := fun _ => fun
  | [d] => { results := [.lit (.bool false)], args := [d] }
  | _ => none }
def FnExactAmountsOkWrongFalsely : Prop := fnExactAmountsOkRow.holds Try.pinned (OpenSpec.ofChange fnExactAmountsOkWrong)

/-- 'laws.FnExactFits': WHATEVER THE INPUT: true; the input reads as it did. -/
def fnExactFitsSpec : ChangeSpec := { name := "fnExactFits", fn := fun _ => fun
  | [d1, d2] => { results := [.lit (.bool true)], args := [d1, d2] }
  | _ => none }
def fnExactFitsRow : OpenClaim := { program := "ytbdegifmcppciaa", sum := "cc3ab731807cb19218450feb3018a2aea09df1d6c800de3e09f02d164fe42e85", func := "loop.example/g00119/laws.FnExactFits", spec := "fnExactFits", apart := false }
def FnExactFitsSaid : Prop := fnExactFitsRow.holds Try.pinned (OpenSpec.ofChange fnExactFitsSpec)

/-- ITS FALSE NEIGHBOUR: 'it returns false'. Refute it at one input. -/
def fnExactFitsWrong : ChangeSpec := { name := "fnExactFits", fn := fun _ => fun
  | [d1, d2] => { results := [.lit (.bool false)], args := [d1, d2] }
  | _ => none }
def FnExactFitsWrongFalsely : Prop := fnExactFitsRow.holds Try.pinned (OpenSpec.ofChange fnExactFitsWrong)

/-- 'laws.FnExactAmountText': WHATEVER THE INPUT: true; the input reads as it did. -/
def fnExactAmountTextSpec : ChangeSpec := { name := "fnExactAmountText", fn := fun _ => fun
  | [d] => { results := [.lit (.bool true)], args := [d] }
  | _ => none }
def fnExactAmountTextRow : OpenClaim := { program := "ytbdegifmcppciaa", sum := "cc3ab731807cb19218450feb3018a2aea09df1d6c800de3e09f02d164fe42e85", func := "loop.example/g00119/laws.FnExactAmountText", spec := "fnExactAmountText", recurses := true, apart := false }
def FnExactAmountTextSaid : Prop := fnExactAmountTextRow.holds Try.pinned (OpenSpec.ofChange fnExactAmountTextSpec)

/-- ITS FALSE NEIGHBOUR: 'it returns false'. Refute it at one input. -/
def fnExactAmountTextWrong : ChangeSpec := { name := "fnExactAmountText", fn := fun _ => fun
  | [d] => { results := [.lit (.bool false)], args := [d] }
  | _ => none }
def FnExactAmountTextWrongFalsely : Prop := fnExactAmountTextRow.holds Try.pinned (OpenSpec.ofChange fnExactAmountTextWrong)

/-- 'laws.FnExactAddAmounts': WHATEVER THE INPUT: true; the input reads as it did. -/
def fnExactAddAmountsSpec : ChangeSpec := { name := "fnExactAddAmounts", fn := fun _ => fun
  | [d1, d2] => { results := [.lit (.bool true)], args := [d1, d2] }
  | _ => none }
def fnExactAddAmountsRow : OpenClaim := { program := "ytbdegifmcppciaa", sum := "cc3ab731807cb19218450feb3018a2aea09df1d6c800de3e09f02d164fe42e85", func := "loop.example/g00119/laws.FnExactAddAmounts", spec := "fnExactAddAmounts", apart := false }
def FnExactAddAmountsSaid : Prop := fnExactAddAmountsRow.holds Try.pinned (OpenSpec.ofChange fnExactAddAmountsSpec)

/-- ITS FALSE NEIGHBOUR: 'it returns false'. Refute it at one input. -/
def fnExactAddAmountsWrong : ChangeSpec := { name := "fnExactAddAmounts", fn := fun _ => fun
  | [d1, d2] => { results := [.lit (.bool false)], args := [d1, d2] }
  | _ => none }
def FnExactAddAmountsWrongFalsely : Prop := fnExactAddAmountsRow.holds Try.pinned (OpenSpec.ofChange fnExactAddAmountsWrong)

/-- 'laws.FnExactTimes': WHATEVER THE INPUT: true; the input reads as it did. -/
def fnExactTimesSpec : ChangeSpec := { name := "fnExactTimes", fn := fun _ => fun
  | [d1, d2] => { results := [.lit (.bool true)], args := [d1, d2] }
  | _ => none }
def fnExactTimesRow : OpenClaim := { program := "ytbdegifmcppciaa", sum := "cc3ab731807cb19218450feb3018a2aea09df1d6c800de3e09f02d164fe42e85", func := "loop.example/g00119/laws.FnExactTimes", spec := "fnExactTimes", apart := false }
def FnExactTimesSaid : Prop := fnExactTimesRow.holds Try.pinned (OpenSpec.ofChange fnExactTimesSpec)

/-- ITS FALSE NEIGHBOUR: 'it returns false'. Refute it at one input. -/
def fnExactTimesWrong : ChangeSpec := { name := "fnExactTimes", fn := fun _ => fun
  | [d1, d2] => { results := [.lit (.bool false)], args := [d1, d2] }
  | _ => none }
def FnExactTimesWrongFalsely : Prop := fnExactTimesRow.holds Try.pinned (OpenSpec.ofChange fnExactTimesWrong)

/-- 'laws.FnExactTotal': WHATEVER THE INPUT: true; the input reads as it did. -/
def fnExactTotalSpec : ChangeSpec := { name := "fnExactTotal", fn := fun _ => fun
  | [d1, d2, d3] => { results := [.lit (.bool true)], args := [d1, d2, d3] }
  | _ => none }
def fnExactTotalRow : OpenClaim := { program := "ytbdegifmcppciaa", sum := "cc3ab731807cb19218450feb3018a2aea09df1d6c800de3e09f02d164fe42e85", func := "loop.example/g00119/laws.FnExactTotal", spec := "fnExactTotal", unfollowed := true, recurses := true, apart := false }
def FnExactTotalSaid : Prop := fnExactTotalRow.holds Try.pinned (OpenSpec.ofChange fnExactTotalSpec)

/-- ITS FALSE NEIGHBOUR: 'it returns false'. Refute it at one input. -/
def fnExactTotalWrong : ChangeSpec := { name := "fnExactTotal", fn := fun _ => fun
  | [d1, d2, d3] => { results := [.lit (.bool false)], args := [d1, d2, d3] }
  | _ => none }
def FnExactTotalWrongFalsely : Prop := fnExactTotalRow.holds Try.pinned (OpenSpec.ofChange fnExactTotalWrong)

/-- 'laws.FnExactLabelGet': WHATEVER THE INPUT: true; the input reads as it did. -/
def fnExactLabelGetSpec : ChangeSpec := { name := "fnExactLabelGet", fn := fun _ => fun
  | [d1, d2] => { results := [.lit (.bool true)], args := [d1, d2] }
  | _ => none }
def fnExactLabelGetRow : OpenClaim := { program := "ytbdegifmcppciaa", sum := "cc3ab731807cb19218450feb3018a2aea09df1d6c800de3e09f02d164fe42e85", func := "loop.example/g00119/laws.FnExactLabelGet", spec := "fnExactLabelGet", apart := false }
def FnExactLabelGetSaid : Prop := fnExactLabelGetRow.holds Try.pinned (OpenSpec.ofChange fnExactLabelGetSpec)

/-- ITS FALSE NEIGHBOUR: 'it returns false'. Refute it at one input. -/
def fnExactLabelGetWrong : ChangeSpec := { name := "fnExactLabelGet", fn := fun _ => fun
  | [d1, d2] => { results := [.lit (.bool false)], args := [d1, d2] }
  | _ => none }
def FnExactLabelGetWrongFalsely : Prop := fnExactLabelGetRow.holds Try.pinned (OpenSpec.ofChange fnExactLabelGetWrong)

/-- 'laws.FnExactLabelsOk': WHATEVER THE INPUT: true; the input reads as it did. -/
def fnExactLabelsOkSpec : ChangeSpec := { name := "fnExactLabelsOk", fn := fun _ => fun
  | [d] => { results := [.lit (.bool true)], args := [d] }
  | _ => none }
def fnExactLabelsOkRow : OpenClaim := { program := "ytbdegifmcppciaa", sum := "cc3ab731807cb19218450feb3018a2aea09df1d6c800de3e09f02d164fe42e85", func := "loop.example/g00119/laws.FnExactLabelsOk", spec := "fnExactLabelsOk", apart := false }
def FnExactLabelsOkSaid : Prop := fnExactLabelsOkRow.holds Try.pinned (OpenSpec.ofChange fnExactLabelsOkSpec)

/-- ITS FALSE NEIGHBOUR: 'it returns false'. Refute it at one input. -/
def fnExactLabelsOkWrong : ChangeSpec := { name := "fnExactLabelsOk", fn := fun _ => fun
  | [d] => { results := [.lit (.bool false)], args := [d] }
  | _ => none }
def FnExactLabelsOkWrongFalsely : Prop := fnExactLabelsOkRow.holds Try.pinned (OpenSpec.ofChange fnExactLabelsOkWrong)

/-- 'laws.FnFitted': WHATEVER THE INPUT: true; the input reads as it did. -/
def fnFittedSpec : ChangeSpec := { name := "fnFitted", fn := fun _ => fun
  | [d] => { results := [.lit (.bool true)], args := [d] }
  | _ => none }
def fnFittedRow : OpenClaim := { program := "ytbdegifmcppciaa", sum := "cc3ab731807cb19218450feb3018a2aea09df1d6c800de3e09f02d164fe42e85", func := "loop.example/g00119/laws.FnFitted", spec := "fnFitted", apart := false }
def FnFittedSaid : Prop := fnFittedRow.holds Try.pinned (OpenSpec.ofChange fnFittedSpec)

/-- ITS FALSE NEIGHBOUR: 'it returns false'. Refute it at one input. -/
def fnFittedWrong : ChangeSpec := { name := "fnFitted", fn := fun _ => fun
  | [d] => { results := [.lit (.bool false)], args := [d] }
  | _ => none }
def FnFittedWrongFalsely : Prop := fnFittedRow.holds Try.pinned (OpenSpec.ofChange fnFittedWrong)

/-- 'laws.FnExactFairOk': WHATEVER THE INPUT: true; the input reads as it did. -/
def fnExactFairOkSpec : ChangeSpec := { name := "fnExactFairOk", fn := fun _ => fun
  | [d1, d2, d3, d4] => { results := [.lit (.bool true)], args := [d1, d2, d3, d4] }
  | _ => none }
def fnExactFairOkRow : OpenClaim := { program := "ytbdegifmcppciaa", sum := "cc3ab731807cb19218450feb3018a2aea09df1d6c800de3e09f02d164fe42e85", func := "loop.example/g00119/laws.FnExactFairOk", spec := "fnExactFairOk", unfollowed := true, recurses := true, apart := false }
def FnExactFairOkSaid : Prop := fnExactFairOkRow.holds Try.pinned (OpenSpec.ofChange fnExactFairOkSpec)

/-- ITS FALSE NEIGHBOUR: 'it returns false'. Refute it at one input. -/
def fnExactFairOkWrong : ChangeSpec := { name := "fnExactFairOk", fn := fun _ => fun
  | [d1, d2, d3, d4] => { results := [.lit (.bool false)], args := [d1, d2, d3, d4] }
  | _ => none }
def FnExactFairOkWrongFalsely : Prop := fnExactFairOkRow.holds Try.pinned (OpenSpec.ofChange fnExactFairOkWrong)

/- THE SECOND FORM. 'bulk': how many values and letters a reading holds, each counted each time it is reached (what is shared counts as often as it is met; a slice's spare places count too). A statement '..UptoSaid' is the law's where the arguments, and the package variables that the reading takes, are together of bulk at most 1048576: NARROWER than '..Said'. Prove '..Said' where nothing that the law and all that it calls make is longer than what came in: it says more and counts as full. Else prove '..UptoSaid'. A law counts once. -/
mutual
def uptoBulk {H : Type} : DataW H → Nat
  | .lit (.string bytes) => bytes.length + 1
  | .lit _ => 1
  | .nil => 1
  | .ptr d => uptoBulk d + 1
  | .slice elems spare => uptoBulkAll elems + uptoBulkAll spare + 1
  | .agg parts => uptoBulkAll parts + 1
  | .iface _ d => uptoBulk d + 1
  | .map entries => uptoBulkEntries entries + 1
  | .held _ => 1
def uptoBulkAll {H : Type} : List (DataW H) → Nat
  | [] => 0
  | d :: r => uptoBulk d + uptoBulkAll r
def uptoBulkEntries {H : Type} : List (Lit × DataW H) → Nat
  | [] => 0
  | x :: r => uptoBulkEntry x + uptoBulkEntries r
def uptoBulkEntry {H : Type} : Lit × DataW H → Nat
  | (.string bytes, d) => bytes.length + uptoBulk d + 1
  | (_, d) => uptoBulk d + 1
 end
def uptoSmall : (H : Type) → List (DataW H) → Bool := fun _ ds => decide (uptoBulkAll ds ≤ 1048576)
def OpenSpec.upto (s : _root_.Go.ChangeSpec) : _root_.Go.OpenSpec := { _root_.Go.OpenSpec.ofChange s with cond := some uptoSmall }

/-- 'laws.FnExactConstants', WHERE WHAT IT READS IS OF BULK AT MOST 1048576: true; the input reads as it did. -/
def fnExactConstantsUptoRow : OpenClaim := { program := "ytbdegifmcppciaa", sum := "cc3ab731807cb19218450feb3018a2aea09df1d6c800de3e09f02d164fe42e85", func := "loop.example/g00119/laws.FnExactConstants", spec := "fnExactConstants", apart := false, narrowed := true }
def FnExactConstantsUptoSaid : Prop := fnExactConstantsUptoRow.holds Try.pinned (OpenSpec.upto fnExactConstantsSpec)

/-- 'laws.FnExactNameOk', WHERE WHAT IT READS IS OF BULK AT MOST 1048576: true; the input reads as it did. -/
def fnExactNameOkUptoRow : OpenClaim := { program := "ytbdegifmcppciaa", sum := "cc3ab731807cb19218450feb3018a2aea09df1d6c800de3e09f02d164fe42e85", func := "loop.example/g00119/laws.FnExactNameOk", spec := "fnExactNameOk", apart := false, narrowed := true }
def FnExactNameOkUptoSaid : Prop := fnExactNameOkUptoRow.holds Try.pinned (OpenSpec.upto fnExactNameOkSpec)

/-- 'laws.FnExactAmountsOk', WHERE WHAT IT READS IS OF BULK AT MOST 1048576: true; the input reads as it did. -/
def fnExactAmountsOkUptoRow : OpenClaim := { program := "ytbdegifmcppciaa", sum := "cc3ab731807cb19218450feb3018a2aea09df1d6c800de3e09f02d164fe42e85", func := "loop.example/g00119/laws.FnExactAmountsOk", spec := "fnExactAmountsOk", apart := false, narrowed := true }
def FnExactAmountsOkUptoSaid : Prop := fnExactAmountsOkUptoRow.holds Try.pinned (OpenSpec.upto fnExactAmountsOkSpec)

/-- 'laws.FnExactFits', WHERE WHAT IT READS IS OF BULK AT MOST 1048576: true; the input reads as it did. -/
def fnExactFitsUptoRow : OpenClaim := { program := "ytbdegifmcppciaa", sum := "cc3ab731807cb19218450feb3018a2aea09df1d6c800de3e09f02d164fe42e85", func := "loop.example/g00119/laws.FnExactFits", spec := "fnExactFits", apart := false, narrowed := true }
def FnExactFitsUptoSaid : Prop := fnExactFitsUptoRow.holds Try.pinned (OpenSpec.upto fnExactFitsSpec)

/-- 'laws.FnExactAmountText', WHERE WHAT IT READS IS OF BULK AT MOST 1048576: true; the input reads as it did. -/
def fnExactAmountTextUptoRow : OpenClaim := { program := "ytbdegifmcppciaa", sum := "cc3ab731807cb19218450feb3018a2aea09df1d6c800de3e09f02d164fe42e85", func := "loop.example/g00119/laws.FnExactAmountText", spec := "fnExactAmountText", recurses := true, apart := false, narrowed := true }
def FnExactAmountTextUptoSaid : Prop := fnExactAmountTextUptoRow.holds Try.pinned (OpenSpec.upto fnExactAmountTextSpec)

/-- 'laws.FnExactAddAmounts', WHERE WHAT IT READS IS OF BULK AT MOST 1048576: true; the input reads as it did. -/
def fnExactAddAmountsUptoRow : OpenClaim := { program := "ytbdegifmcppciaa", sum := "cc3ab731807cb19218450feb3018a2aea09df1d6c800de3e09f02d164fe42e85", func := "loop.example/g00119/laws.FnExactAddAmounts", spec := "fnExactAddAmounts", apart := false, narrowed := true }
def FnExactAddAmountsUptoSaid : Prop := fnExactAddAmountsUptoRow.holds Try.pinned (OpenSpec.upto fnExactAddAmountsSpec)

/-- 'laws.FnExactTimes', WHERE WHAT IT READS IS OF BULK AT MOST 1048576: true; the input reads as it did. -/
def fnExactTimesUptoRow : OpenClaim := { program := "ytbdegifmcppciaa", sum := "cc3ab731807cb19218450feb3018a2aea09df1d6c800de3e09f02d164fe42e85", func := "loop.example/g00119/laws.FnExactTimes", spec := "fnExactTimes", apart := false, narrowed := true }
def FnExactTimesUptoSaid : Prop := fnExactTimesUptoRow.holds Try.pinned (OpenSpec.upto fnExactTimesSpec)

/-- 'laws.FnExactTotal', WHERE WHAT IT READS IS OF BULK AT MOST 1048576: true; the input reads as it did. -/
def fnExactTotalUptoRow : OpenClaim := { program := "ytbdegifmcppciaa", sum := "cc3ab731807cb19218450feb3018a2aea09df1d6c800de3e09f02d164fe42e85", func := "loop.example/g00119/laws.FnExactTotal", spec := "fnExactTotal", unfollowed := true, recurses := true, apart := false, narrowed := true }
def FnExactTotalUptoSaid : Prop := fnExactTotalUptoRow.holds Try.pinned (OpenSpec.upto fnExactTotalSpec)

/-- 'laws.FnExactLabelGet', WHERE WHAT IT READS IS OF BULK AT MOST 1048576: true; the input reads as it did. -/
def fnExactLabelGetUptoRow : OpenClaim := { program := "ytbdegifmcppciaa", sum := "cc3ab731807cb19218450feb3018a2aea09df1d6c800de3e09f02d164fe42e85", func := "loop.example/g00119/laws.FnExactLabelGet", spec := "fnExactLabelGet", apart := false, narrowed := true }
def FnExactLabelGetUptoSaid : Prop := fnExactLabelGetUptoRow.holds Try.pinned (OpenSpec.upto fnExactLabelGetSpec)

/-- 'laws.FnExactLabelsOk', WHERE WHAT IT READS IS OF BULK AT MOST 1048576: true; the input reads as it did. -/
def fnExactLabelsOkUptoRow : OpenClaim := { program := "ytbdegifmcppciaa", sum := "cc3ab731807cb19218450feb3018a2aea09df1d6c800de3e09f02d164fe42e85", func := "loop.example/g00119/laws.FnExactLabelsOk", spec := "fnExactLabelsOk", apart := false, narrowed := true }
def FnExactLabelsOkUptoSaid : Prop := fnExactLabelsOkUptoRow.holds Try.pinned (OpenSpec.upto fnExactLabelsOkSpec)

/-- 'laws.FnFitted', WHERE WHAT IT READS IS OF BULK AT MOST 1048576: true; the input reads as it did. -/
def fnFittedUptoRow : OpenClaim := { program := "ytbdegifmcppciaa", sum := "cc3ab731807cb19218450feb3018a2aea09df1d6c800de3e09f02d164fe42e85", func := "loop.example/g00119/laws.FnFitted", spec := "fnFitted", apart := false, narrowed := true }
def FnFittedUptoSaid : Prop := fnFittedUptoRow.holds Try.pinned (OpenSpec.upto fnFittedSpec)

/-- 'laws.FnExactFairOk', WHERE WHAT IT READS IS OF BULK AT MOST 1048576: true; the input reads as it did. -/
def fnExactFairOkUptoRow : OpenClaim := { program := "ytbdegifmcppciaa", sum := "cc3ab731807cb19218450feb3018a2aea09df1d6c800de3e09f02d164fe42e85", func := "loop.example/g00119/laws.FnExactFairOk", spec := "fnExactFairOk", unfollowed := true, recurses := true, apart := false, narrowed := true }
def FnExactFairOkUptoSaid : Prop := fnExactFairOkUptoRow.holds Try.pinned (OpenSpec.upto fnExactFairOkSpec)

end Rows
end Go.Proofs.Ytbdegifmcppciaa
