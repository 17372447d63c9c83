/-
  No cell of these rows narrows 'for every input' (looked for: loops, veiled, ifaces, maps, wideKeys, modest, calm, conditions, laid).
  DERIVED. THE GIVEN ROWS OF THIS SEAT. 8 by the template 'for every input the law returns true; each argument reads behind the call as it read before'; 0 by the template 'total and deterministic' (their statements: YtpjpnppoejnafaaTotals.lean).
  GIVEN WITH THE SEED: the statements are not yours to turn. If you find one false, say at which input.
  Laid BY PROGRAM, IN A SANDBOX (cutbox-rows.mjs): the forced cells as the released guide's own fill.sh prints them over the translation e8815bedc66703da… (all of the seat's roots in one cut). By AI agents, Wed Nov 11 2026. No macro, syntax, notation, axiom, sorry.
-/
import Derived.Test.YtpjpnppoejnafaaChecked
import GoSem.Claim
import GoSem.ClaimJoined
import GoSem.ClaimMapViews
import Derived.JoinedTies
import Derived.KernelRfl
namespace Go.Proofs.Ytpjpnppoejnafaa
/- THE CELL 'sum', in the pinned program and in every row, IS THE sha256 OF THE DUMP (.gsa) THAT YtpjpnppoejnafaaProg.lean LOADS. Nothing in Lean hashes anything: it is a label: what it is worth is what the hold of that sum in a sandbox is worth. -/
noncomputable def Try.pinned : Pinned := { name := "ytpjpnppoejnafaa", sum := "e8815bedc66703dab7b6ac13ab707c38743f99e21555cff75fa98c00763922a1", checked := Try.checked }
namespace Rows
def none {H : Type} : Left H := { results := [], args := [] }

/-- 'laws.FnExactLabelDrop': WHATEVER THE INPUT: true; the input reads as it did. -/
def fnExactLabelDropSpec : ChangeSpec := { name := "fnExactLabelDrop", fn := fun _ => fun
  | [d1, d2] => { results := [.lit (.bool true)], args := [d1, d2] }
  | _ => none }
def fnExactLabelDropRow : OpenClaim := { program := "ytpjpnppoejnafaa", sum := "e8815bedc66703dab7b6ac13ab707c38743f99e21555cff75fa98c00763922a1", func := "loop.example/g00119/laws.FnExactLabelDrop", spec := "fnExactLabelDrop", unfollowed := true, recurses := true, apart := false }
def FnExactLabelDropSaid : Prop := fnExactLabelDropRow.holds Try.pinned (OpenSpec.ofChange fnExactLabelDropSpec)

/-- ITS FALSE NEIGHBOUR: 'it returns false'. Refute it at one input. -/
def fnExactLabelDropWrong : ChangeSpec := { name := "fnExactLabelDrop", fn := fun _ => fun
  | [d1, d2] => { results := [.lit (.bool false)], args := [d1, d2] }
  | _ => none }
def FnExactLabelDropWrongFalsely : Prop := fnExactLabelDropRow.holds Try.pinned (OpenSpec.ofChange fnExactLabelDropWrong)

/-- 'laws.FnExactLabelsText': WHATEVER THE INPUT: true; the input reads as it did. -/
def fnExactLabelsTextSpec : ChangeSpec := { name := "fnExactLabelsText", fn := fun _ => fun
  | [d] => { results := [.lit (.bool true)], args := [d] }
  | _ => none }
def fnExactLabelsTextRow : OpenClaim := { program := "ytpjpnppoejnafaa", sum := "e8815bedc66703dab7b6ac13ab707c38743f99e21555cff75fa98c00763922a1", func := "loop.example/g00119/laws.FnExactLabelsText", spec := "fnExactLabelsText", inPlace := ["internal/abi.NoEscape", "internal/bytealg.MakeNoZero"], apart := false }
def FnExactLabelsTextSaid : Prop := fnExactLabelsTextRow.holds Try.pinned (OpenSpec.ofChange fnExactLabelsTextSpec)

/-- ITS FALSE NEIGHBOUR: 'it returns false'. Refute it at one input. -/
def fnExactLabelsTextWrong : ChangeSpec := { name := "fnExactLabelsText", fn := fun _ => fun
  | [d] => { results := [.lit (.bool false)], args := [d] }
  | _ => none }
def FnExactLabelsTextWrongFalsely : Prop := fnExactLabelsTextRow.holds Try.pinned (OpenSpec.ofChange fnExactLabelsTextWrong)

/-- 'laws.FnExactLabelSet': WHATEVER THE INPUT: true; the input reads as it did. -/
def fnExactLabelSetSpec : ChangeSpec := { name := "fnExactLabelSet", fn := fun _ => fun
  | [d1, d2, d3] => { results := [.lit (.bool true)], args := [d1, d2, d3] }
  | _ => none }
def fnExactLabelSetRow : OpenClaim := { program := "ytpjpnppoejnafaa", sum := "e8815bedc66703dab7b6ac13ab707c38743f99e21555cff75fa98c00763922a1", func := "loop.example/g00119/laws.FnExactLabelSet", spec := "fnExactLabelSet", inPlace := ["internal/bytealg.abigen_runtime_cmpstring", "slices.overlaps[loop.example/g00119/impl.Label]"], unfollowed := true, recurses := true, apart := false }
def FnExactLabelSetSaid : Prop := fnExactLabelSetRow.holds Try.pinned (OpenSpec.ofChange fnExactLabelSetSpec)

/-- ITS FALSE NEIGHBOUR: 'it returns false'. Refute it at one input. -/
def fnExactLabelSetWrong : ChangeSpec := { name := "fnExactLabelSet", fn := fun _ => fun
  | [d1, d2, d3] => { results := [.lit (.bool false)], args := [d1, d2, d3] }
  | _ => none }
def FnExactLabelSetWrongFalsely : Prop := fnExactLabelSetRow.holds Try.pinned (OpenSpec.ofChange fnExactLabelSetWrong)

/-- 'laws.FnExactSelectorOk': WHATEVER THE INPUT: true; the input reads as it did. -/
def fnExactSelectorOkSpec : ChangeSpec := { name := "fnExactSelectorOk", fn := fun _ => fun
  | [d] => { results := [.lit (.bool true)], args := [d] }
  | _ => none }
def fnExactSelectorOkRow : OpenClaim := { program := "ytpjpnppoejnafaa", sum := "e8815bedc66703dab7b6ac13ab707c38743f99e21555cff75fa98c00763922a1", func := "loop.example/g00119/laws.FnExactSelectorOk", spec := "fnExactSelectorOk", unfollowed := true, recurses := true, apart := false }
def FnExactSelectorOkSaid : Prop := fnExactSelectorOkRow.holds Try.pinned (OpenSpec.ofChange fnExactSelectorOkSpec)

/-- ITS FALSE NEIGHBOUR: 'it returns false'. Refute it at one input. -/
def fnExactSelectorOkWrong : ChangeSpec := { name := "fnExactSelectorOk", fn := fun _ => fun
  | [d] => { results := [.lit (.bool false)], args := [d] }
  | _ => none }
def FnExactSelectorOkWrongFalsely : Prop := fnExactSelectorOkRow.holds Try.pinned (OpenSpec.ofChange fnExactSelectorOkWrong)

/-- 'laws.FnExactSelectorText': WHATEVER THE INPUT: true; the input reads as it did. -/
def fnExactSelectorTextSpec : ChangeSpec := { name := "fnExactSelectorText", fn := fun _ => fun
  | [d] => { results := [.lit (.bool true)], args := [d] }
  | _ => none }
def fnExactSelectorTextRow : OpenClaim := { program := "ytpjpnppoejnafaa", sum := "e8815bedc66703dab7b6ac13ab707c38743f99e21555cff75fa98c00763922a1", func := "loop.example/g00119/laws.FnExactSelectorText", spec := "fnExactSelectorText", inPlace := ["internal/abi.NoEscape", "internal/bytealg.MakeNoZero"], unfollowed := true, recurses := true, apart := false }
def FnExactSelectorTextSaid : Prop := fnExactSelectorTextRow.holds Try.pinned (OpenSpec.ofChange fnExactSelectorTextSpec)

/-- ITS FALSE NEIGHBOUR: 'it returns false'. Refute it at one input. -/
def fnExactSelectorTextWrong : ChangeSpec := { name := "fnExactSelectorText", fn := fun _ => fun
  | [d] => { results := [.lit (.bool false)], args := [d] }
  | _ => none }
def FnExactSelectorTextWrongFalsely : Prop := fnExactSelectorTextRow.holds Try.pinned (OpenSpec.ofChange fnExactSelectorTextWrong)

/-- 'laws.FnExactNever': WHATEVER THE INPUT: true; the input reads as it did. -/
def fnExactNeverSpec : ChangeSpec := { name := "fnExactNever", fn := fun _ => fun
  | [d] => { results := [.lit (.bool true)], args := [d] }
  | _ => none }
def fnExactNeverRow : OpenClaim := { program := "ytpjpnppoejnafaa", sum := "e8815bedc66703dab7b6ac13ab707c38743f99e21555cff75fa98c00763922a1", func := "loop.example/g00119/laws.FnExactNever", spec := "fnExactNever", unfollowed := true, recurses := true, apart := false }
def FnExactNeverSaid : Prop := fnExactNeverRow.holds Try.pinned (OpenSpec.ofChange fnExactNeverSpec)

/-- ITS FALSE NEIGHBOUR: 'it returns false'. Refute it at one input. -/
def fnExactNeverWrong : ChangeSpec := { name := "fnExactNever", fn := fun _ => fun
  | [d] => { results := [.lit (.bool false)], args := [d] }
  | _ => none }
def FnExactNeverWrongFalsely : Prop := fnExactNeverRow.holds Try.pinned (OpenSpec.ofChange fnExactNeverWrong)

/-- 'laws.FnExactMatches': WHATEVER THE INPUT: true; the input reads as it did. -/
def fnExactMatchesSpec : ChangeSpec := { name := "fnExactMatches", fn := fun _ => fun
  | [d1, d2] => { results := [.lit (.bool true)], args := [d1, d2] }
  | _ => none }
def fnExactMatchesRow : OpenClaim := { program := "ytpjpnppoejnafaa", sum := "e8815bedc66703dab7b6ac13ab707c38743f99e21555cff75fa98c00763922a1", func := "loop.example/g00119/laws.FnExactMatches", spec := "fnExactMatches", unfollowed := true, recurses := true, apart := false }
def FnExactMatchesSaid : Prop := fnExactMatchesRow.holds Try.pinned (OpenSpec.ofChange fnExactMatchesSpec)

/-- ITS FALSE NEIGHBOUR: 'it returns false'. Refute it at one input. -/
def fnExactMatchesWrong : ChangeSpec := { name := "fnExactMatches", fn := fun _ => fun
  | [d1, d2] => { results := [.lit (.bool false)], args := [d1, d2] }
  | _ => none }
def FnExactMatchesWrongFalsely : Prop := fnExactMatchesRow.holds Try.pinned (OpenSpec.ofChange fnExactMatchesWrong)

/-- 'laws.FnMatched': WHATEVER THE INPUT: true; the input reads as it did. -/
def fnMatchedSpec : ChangeSpec := { name := "fnMatched", fn := fun _ => fun
  | [d] => { results := [.lit (.bool true)], args := [d] }
  | _ => none }
def fnMatchedRow : OpenClaim := { program := "ytpjpnppoejnafaa", sum := "e8815bedc66703dab7b6ac13ab707c38743f99e21555cff75fa98c00763922a1", func := "loop.example/g00119/laws.FnMatched", spec := "fnMatched", unfollowed := true, recurses := true, apart := false }
def FnMatchedSaid : Prop := fnMatchedRow.holds Try.pinned (OpenSpec.ofChange fnMatchedSpec)

/-- ITS FALSE NEIGHBOUR: 'it returns false'. Refute it at one input. -/
def fnMatchedWrong : ChangeSpec := { name := "fnMatched", fn := fun _ => fun
  | [d] => { results := [.lit (.bool false)], args := [d] }
  | _ => none }
def FnMatchedWrongFalsely : Prop := fnMatchedRow.holds Try.pinned (OpenSpec.ofChange fnMatchedWrong)

/- THE SECOND FORM. 'bulk': how many values and letters a reading holds, each counted each time it is reached (what is shared counts as often as it is met; a slice's spare places count too). A statement '..UptoSaid' is the law's where the arguments, and the package variables that the reading takes, are together of bulk at most 1048576: NARROWER than '..Said'. Prove '..Said' where nothing that the law and all that it calls make is longer than what came in: it says more and counts as full. Else prove '..UptoSaid'. A law counts once. -/
mutual
def uptoBulk {H : Type} : DataW H → Nat
  | .lit (.string bytes) => bytes.length + 1
  | .lit _ => 1
  | .nil => 1
  | .ptr d => uptoBulk d + 1
  | .slice elems spare => uptoBulkAll elems + uptoBulkAll spare + 1
  | .agg parts => uptoBulkAll parts + 1
  | .iface _ d => uptoBulk d + 1
  | .map entries => uptoBulkEntries entries + 1
  | .held _ => 1
def uptoBulkAll {H : Type} : List (DataW H) → Nat
  | [] => 0
  | d :: r => uptoBulk d + uptoBulkAll r
def uptoBulkEntries {H : Type} : List (Lit × DataW H) → Nat
  | [] => 0
  | x :: r => uptoBulkEntry x + uptoBulkEntries r
def uptoBulkEntry {H : Type} : Lit × DataW H → Nat
  | (.string bytes, d) => bytes.length + uptoBulk d + 1
  | (_, d) => uptoBulk d + 1
 end
def uptoSmall : (H : Type) → List (DataW H) → Bool := fun _ ds => decide (uptoBulkAll ds ≤ 1048576)
def OpenSpec.upto (s : _root_.Go.ChangeSpec) : _root_.Go.OpenSpec := { _root_.Go.OpenSpec.ofChange s with cond := some uptoSmall }

/-- 'laws.FnExactLabelDrop', WHERE WHAT IT READS IS OF BULK AT MOST 1048576: true; the input reads as it did. -/
def fnExactLabelDropUptoRow : OpenClaim := { program := "ytpjpnppoejnafaa", sum := "e8815bedc66703dab7b6ac13ab707c38743f99e21555cff75fa98c00763922a1", func := "loop.example/g00119/laws.FnExactLabelDrop", spec := "fnExactLabelDrop", unfollowed := true, recurses := true, apart := false, narrowed := true }
def FnExactLabelDropUptoSaid : Prop := fnExactLabelDropUptoRow.holds Try.pinned (OpenSpec.upto fnExactLabelDropSpec)

/-- 'laws.FnExactLabelsText', WHERE WHAT IT READS IS OF BULK AT MOST 1048576: true; the input reads as it did. -/
def fnExactLabelsTextUptoRow : OpenClaim := { program := "ytpjpnppoejnafaa", sum := "e8815bedc66703dab7b6ac13ab707c38743f99e21555cff75fa98c00763922a1", func := "loop.example/g00119/laws.FnExactLabelsText", spec := "fnExactLabelsText", inPlace := ["internal/abi.NoEscape", "internal/bytealg.MakeNoZero"], apart := false, narrowed := true }
def FnExactLabelsTextUptoSaid : Prop := fnExactLabelsTextUptoRow.holds Try.pinned (OpenSpec.upto fnExactLabelsTextSpec)

/-- 'laws.FnExactLabelSet', WHERE WHAT IT READS IS OF BULK AT MOST 1048576: true; the input reads as it did. -/
def fnExactLabelSetUptoRow : OpenClaim := { program := "ytpjpnppoejnafaa", sum := "e8815bedc66703dab7b6ac13ab707c38743f99e21555cff75fa98c00763922a1", func := "loop.example/g00119/laws.FnExactLabelSet", spec := "fnExactLabelSet", inPlace := ["internal/bytealg.abigen_runtime_cmpstring", "slices.overlaps[loop.example/g00119/impl.Label]"], unfollowed := true, recurses := true, apart := false, narrowed := true }
def FnExactLabelSetUptoSaid : Prop := fnExactLabelSetUptoRow.holds Try.pinned (OpenSpec.upto fnExactLabelSetSpec)

/-- 'laws.FnExactSelectorOk', WHERE WHAT IT READS IS OF BULK AT MOST 1048576: true; the input reads as it did. -/
def fnExactSelectorOkUptoRow : OpenClaim := { program := "ytpjpnppoejnafaa", sum := "e8815bedc66703dab7b6ac13ab707c38743f99e21555cff75fa98c00763922a1", func := "loop.example/g00119/laws.FnExactSelectorOk", spec := "fnExactSelectorOk", unfollowed := true, recurses := true, apart := false, narrowed := true }
def FnExactSelectorOkUptoSaid : Prop := fnExactSelectorOkUptoRow.holds Try.pinned (OpenSpec.upto fnExactSelectorOkSpec)

/-- 'laws.FnExactSelectorText', WHERE WHAT IT READS IS OF BULK AT MOST 1048576: true; the input reads as it did. -/
def fnExactSelectorTextUptoRow : OpenClaim := { program := "ytpjpnppoejnafaa", sum := "e8815bedc66703dab7b6ac13ab707c38743f99e21555cff75fa98c00763922a1", func := "loop.example/g00119/laws.FnExactSelectorText", spec := "fnExactSelectorText", inPlace := ["internal/abi.NoEscape", "internal/bytealg.MakeNoZero"], unfollowed := true, recurses := true, apart := false, narrowed := true }
def FnExactSelectorTextUptoSaid : Prop := fnExactSelectorTextUptoRow.holds Try.pinned (OpenSpec.upto fnExactSelectorTextSpec)

/-- 'laws.FnExactNever', WHERE WHAT IT READS IS OF BULK AT MOST 1048576: true; the input reads as it did. -/
def fnExactNeverUptoRow : OpenClaim := { program := "ytpjpnppoejnafaa", sum := "e8815bedc66703dab7b6ac13ab707c38743f99e21555cff75fa98c00763922a1", func := "loop.example/g00119/laws.FnExactNever", spec := "fnExactNever", unfollowed := true, recurses := true, apart := false, narrowed := true }
def FnExactNeverUptoSaid : Prop := fnExactNeverUptoRow.holds Try.pinned (OpenSpec.upto fnExactNeverSpec)

/-- 'laws.FnExactMatches', WHERE WHAT IT READS IS OF BULK AT MOST 1048576: true; the input reads as it did. -/
def fnExactMatchesUptoRow : OpenClaim := { program := "ytpjpnppoejnafaa", sum := "e8815bedc66703dab7b6ac13ab707c38743f99e21555cff75fa98c00763922a1", func := "loop.example/g00119/laws.FnExactMatches", spec := "fnExactMatches", unfollowed := true, recurses := true, apart := false, narrowed := true }
def FnExactMatchesUptoSaid : Prop := fnExactMatchesUptoRow.holds Try.pinned (OpenSpec.upto fnExactMatchesSpec)

/-- 'laws.FnMatched', WHERE WHAT IT READS IS OF BULK AT MOST 1048576: true; the input reads as it did. -/
def fnMatchedUptoRow : OpenClaim := { program := "ytpjpnppoejnafaa", sum := "e8815bedc66703dab7b6ac13ab707c38743f99e21555cff75fa98c00763922a1", func := "loop.example/g00119/laws.FnMatched", spec := "fnMatched", unfollowed := true, recurses := true, apart := false, narrowed := true }
def FnMatchedUptoSaid : Prop := fnMatchedUptoRow.holds Try.pinned (OpenSpec.upto fnMatchedSpec)

end Rows
end Go.Proofs.Ytpjpnppoejnafaa
