/-
  NARROWER THAN 'FOR EVERY INPUT', by the rows' own cells (each row's printed sentence says how): FnExactSameValue: loops · FnExactValueOk: loops · FnExactSizeOf: loops · FnExactPatchOk: loops · FnExactReach: loops.
  DERIVED. THE GIVEN ROWS OF THIS SEAT. 9 by the template 'for every input the law returns true; each argument reads behind the call as it read before'; 0 by the template 'total and deterministic' (their statements: YtchhognpijobcaaTotals.lean).
  GIVEN WITH THE SEED: the statements are not yours to turn. If you find one false, say at which input.
  Laid BY PROGRAM, IN A SANDBOX (cutbox-rows.mjs): the forced cells as the released guide's own fill.sh prints them over the translation f05abb37f56c99ed… (all of the seat's roots in one cut). By AI agents, Wed Nov 11 2026. No macro, syntax, notation, axiom, sorry.
-/
import Derived.Test.YtchhognpijobcaaChecked
import GoSem.Claim
import GoSem.ClaimJoined
import GoSem.ClaimMapViews
import Derived.JoinedTies
import Derived.KernelRfl
namespace Go.Proofs.Ytchhognpijobcaa
/- THE CELL 'sum', in the pinned program and in every row, IS THE sha256 OF THE DUMP (.gsa) THAT YtchhognpijobcaaProg.lean LOADS. Nothing in Lean hashes anything: it is a label: what it is worth is what the hold of that sum in a sandbox is worth. -/
noncomputable def Try.pinned : Pinned := { name := "ytchhognpijobcaa", sum := "f05abb37f56c99ed3491c7c8dbaec167bfddca576c49f42197fa8b67ad313001", checked := Try.checked }
namespace Rows
def none {H : Type} : Left H := { results := [], args := [] }

/-- 'laws.FnExactSameValue': WHATEVER THE INPUT: true; the input reads as it did. -/
def fnExactSameValueSpec : ChangeSpec := { name := "fnExactSameValue", fn := fun _ => fun
  | [d1, d2] => { results := [.lit (.bool true)], args := [d1, d2] }
  | _ => none }
def fnExactSameValueRow : OpenClaim := { program := "ytchhognpijobcaa", sum := "f05abb37f56c99ed3491c7c8dbaec167bfddca576c49f42197fa8b67ad313001", func := "loop.example/g00119/laws.FnExactSameValue", spec := "fnExactSameValue", unfollowed := true, recurses := true, loops := true, apart := false }
def FnExactSameValueSaid : Prop := fnExactSameValueRow.holds Try.pinned (OpenSpec.ofChange fnExactSameValueSpec)

/-- ITS FALSE NEIGHBOUR: 'it returns false'. Refute it at one input. -/
def fnExactSameValueWrong : ChangeSpec := { name := "fnExactSameValue", fn := fun _ => fun
  | [d1, d2] => { results := [.lit (.bool false)], args := [d1, d2] }
  | _ => none }
def FnExactSameValueWrongFalsely : Prop := fnExactSameValueRow.holds Try.pinned (OpenSpec.ofChange fnExactSameValueWrong)

/-- 'laws.FnExactValueOk': WHATEVER THE INPUT: true; the input reads as it did. -/
def fnExactValueOkSpec : ChangeSpec := { name := "fnExactValueOk", fn := fun _ => fun
  | [d] => { results := [.lit (.bool true)], args := [d] }
  | _ => none }
def fnExactValueOkRow : OpenClaim := { program := "ytchhognpijobcaa", sum := "f05abb37f56c99ed3491c7c8dbaec167bfddca576c49f42197fa8b67ad313001", func := "loop.example/g00119/laws.FnExactValueOk", spec := "fnExactValueOk", recurses := true, loops := true, apart := false }
def FnExactValueOkSaid : Prop := fnExactValueOkRow.holds Try.pinned (OpenSpec.ofChange fnExactValueOkSpec)

/-- ITS FALSE NEIGHBOUR: 'it returns false'. Refute it at one input. -/
def fnExactValueOkWrong : ChangeSpec := { name := "fnExactValueOk", fn := fun _ => fun
  | [d] => { results := [.lit (.bool false)], args := [d] }
  | _ => none }
def FnExactValueOkWrongFalsely : Prop := fnExactValueOkRow.holds Try.pinned (OpenSpec.ofChange fnExactValueOkWrong)

/-- 'laws.FnExactSizeOf': WHATEVER THE INPUT: true; the input reads as it did. -/
def fnExactSizeOfSpec : ChangeSpec := { name := "fnExactSizeOf", fn := fun _ => fun
  | [d] => { results := [.lit (.bool true)], args := [d] }
  | _ => none }
def fnExactSizeOfRow : OpenClaim := { program := "ytchhognpijobcaa", sum := "f05abb37f56c99ed3491c7c8dbaec167bfddca576c49f42197fa8b67ad313001", func := "loop.example/g00119/laws.FnExactSizeOf", spec := "fnExactSizeOf", recurses := true, loops := true, apart := false }
def FnExactSizeOfSaid : Prop := fnExactSizeOfRow.holds Try.pinned (OpenSpec.ofChange fnExactSizeOfSpec)

/-- ITS FALSE NEIGHBOUR: 'it returns false'. Refute it at one input. -/
def fnExactSizeOfWrong : ChangeSpec := { name := "fnExactSizeOf", fn := fun _ => fun
  | [d] => { results := [.lit (.bool false)], args := [d] }
  | _ => none }
def FnExactSizeOfWrongFalsely : Prop := fnExactSizeOfRow.holds Try.pinned (OpenSpec.ofChange fnExactSizeOfWrong)

/-- 'laws.FnExactDivide': WHATEVER THE INPUT: true; the input reads as it did. -/
def fnExactDivideSpec : ChangeSpec := { name := "fnExactDivide", fn := fun _ => fun
  | [d1, d2, d3] => { results := [.lit (.bool true)], args := [d1, d2, d3] }
  | _ => none }
def fnExactDivideRow : OpenClaim := { program := "ytchhognpijobcaa", sum := "f05abb37f56c99ed3491c7c8dbaec167bfddca576c49f42197fa8b67ad313001", func := "loop.example/g00119/laws.FnExactDivide", spec := "fnExactDivide", unfollowed := true, recurses := true, apart := false }
def FnExactDivideSaid : Prop := fnExactDivideRow.holds Try.pinned (OpenSpec.ofChange fnExactDivideSpec)

/-- ITS FALSE NEIGHBOUR: 'it returns false'. Refute it at one input. -/
def fnExactDivideWrong : ChangeSpec := { name := "fnExactDivide", fn := fun _ => fun
  | [d1, d2, d3] => { results := [.lit (.bool false)], args := [d1, d2, d3] }
  | _ => none }
def FnExactDivideWrongFalsely : Prop := fnExactDivideRow.holds Try.pinned (OpenSpec.ofChange fnExactDivideWrong)

/-- 'laws.FnExactPatchOk': WHATEVER THE INPUT: true; the input reads as it did. -/
def fnExactPatchOkSpec : ChangeSpec := { name := "fnExactPatchOk", fn := fun _ => fun
  | [d] => { results := [.lit (.bool true)], args := [d] }
  | _ => none }
def fnExactPatchOkRow : OpenClaim := { program := "ytchhognpijobcaa", sum := "f05abb37f56c99ed3491c7c8dbaec167bfddca576c49f42197fa8b67ad313001", func := "loop.example/g00119/laws.FnExactPatchOk", spec := "fnExactPatchOk", unfollowed := true, recurses := true, loops := true, apart := false }
def FnExactPatchOkSaid : Prop := fnExactPatchOkRow.holds Try.pinned (OpenSpec.ofChange fnExactPatchOkSpec)

/-- ITS FALSE NEIGHBOUR: 'it returns false'. Refute it at one input. -/
def fnExactPatchOkWrong : ChangeSpec := { name := "fnExactPatchOk", fn := fun _ => fun
  | [d] => { results := [.lit (.bool false)], args := [d] }
  | _ => none }
def FnExactPatchOkWrongFalsely : Prop := fnExactPatchOkRow.holds Try.pinned (OpenSpec.ofChange fnExactPatchOkWrong)

/-- 'laws.FnExactReach': WHATEVER THE INPUT: true; the input reads as it did. -/
def fnExactReachSpec : ChangeSpec := { name := "fnExactReach", fn := fun _ => fun
  | [d1, d2] => { results := [.lit (.bool true)], args := [d1, d2] }
  | _ => none }
def fnExactReachRow : OpenClaim := { program := "ytchhognpijobcaa", sum := "f05abb37f56c99ed3491c7c8dbaec167bfddca576c49f42197fa8b67ad313001", func := "loop.example/g00119/laws.FnExactReach", spec := "fnExactReach", recurses := true, loops := true, apart := false }
def FnExactReachSaid : Prop := fnExactReachRow.holds Try.pinned (OpenSpec.ofChange fnExactReachSpec)

/-- ITS FALSE NEIGHBOUR: 'it returns false'. Refute it at one input. -/
def fnExactReachWrong : ChangeSpec := { name := "fnExactReach", fn := fun _ => fun
  | [d1, d2] => { results := [.lit (.bool false)], args := [d1, d2] }
  | _ => none }
def FnExactReachWrongFalsely : Prop := fnExactReachRow.holds Try.pinned (OpenSpec.ofChange fnExactReachWrong)

/-- 'laws.FnDivided': WHATEVER THE INPUT: true; the input reads as it did. -/
def fnDividedSpec : ChangeSpec := { name := "fnDivided", fn := fun _ => fun
  | [d] => { results := [.lit (.bool true)], args := [d] }
  | _ => none }
def fnDividedRow : OpenClaim := { program := "ytchhognpijobcaa", sum := "f05abb37f56c99ed3491c7c8dbaec167bfddca576c49f42197fa8b67ad313001", func := "loop.example/g00119/laws.FnDivided", spec := "fnDivided", unfollowed := true, recurses := true, apart := false }
def FnDividedSaid : Prop := fnDividedRow.holds Try.pinned (OpenSpec.ofChange fnDividedSpec)

/-- ITS FALSE NEIGHBOUR: 'it returns false'. Refute it at one input. -/
def fnDividedWrong : ChangeSpec := { name := "fnDivided", fn := fun _ => fun
  | [d] => { results := [.lit (.bool false)], args := [d] }
  | _ => none }
def FnDividedWrongFalsely : Prop := fnDividedRow.holds Try.pinned (OpenSpec.ofChange fnDividedWrong)

/-- 'laws.FnEven': WHATEVER THE INPUT: true; the input reads as it did. -/
def fnEvenSpec : ChangeSpec := { name := "fnEven", fn := fun _ => fun
  | [d] => { results := [.lit (.bool true)], args := [d] }
  | _ => none }
def fnEvenRow : OpenClaim := { program := "ytchhognpijobcaa", sum := "f05abb37f56c99ed3491c7c8dbaec167bfddca576c49f42197fa8b67ad313001", func := "loop.example/g00119/laws.FnEven", spec := "fnEven", unfollowed := true, recurses := true, apart := false }
def FnEvenSaid : Prop := fnEvenRow.holds Try.pinned (OpenSpec.ofChange fnEvenSpec)

/-- ITS FALSE NEIGHBOUR: 'it returns false'. Refute it at one input. -/
def fnEvenWrong : ChangeSpec := { name := "fnEven", fn := fun _ => fun
  | [d] => { results := [.lit (.bool false)], args := [d] }
  | _ => none }
def FnEvenWrongFalsely : Prop := fnEvenRow.holds Try.pinned (OpenSpec.ofChange fnEvenWrong)

/-- 'laws.FnReached': WHATEVER THE INPUT: true; the input reads as it did. -/
def fnReachedSpec : ChangeSpec := { name := "fnReached", fn := fun _ => fun
  | [d] => { results := [.lit (.bool true)], args := [d] }
  | _ => none }
def fnReachedRow : OpenClaim := { program := "ytchhognpijobcaa", sum := "f05abb37f56c99ed3491c7c8dbaec167bfddca576c49f42197fa8b67ad313001", func := "loop.example/g00119/laws.FnReached", spec := "fnReached", unfollowed := true, recurses := true, apart := false }
def FnReachedSaid : Prop := fnReachedRow.holds Try.pinned (OpenSpec.ofChange fnReachedSpec)

/-- ITS FALSE NEIGHBOUR: 'it returns false'. Refute it at one input. -/
def fnReachedWrong : ChangeSpec := { name := "fnReached", fn := fun _ => fun
  | [d] => { results := [.lit (.bool false)], args := [d] }
  | _ => none }
def FnReachedWrongFalsely : Prop := fnReachedRow.holds Try.pinned (OpenSpec.ofChange fnReachedWrong)

/- THE SECOND FORM. 'bulk': how many values and letters a reading holds, each counted each time it is reached (what is shared counts as often as it is met; a slice's spare places count too). A statement '..UptoSaid' is the law's where the arguments, and the package variables that the reading takes, are together of bulk at most 1048576: NARROWER than '..Said'. Prove '..Said' where nothing that the law and all that it calls make is longer than what came in: it says more and counts as full. Else prove '..UptoSaid'. A law counts once. -/
mutual
def uptoBulk {H : Type} : DataW H → Nat
  | .lit (.string bytes) => bytes.length + 1
  | .lit _ => 1
  | .nil => 1
  | .ptr d => uptoBulk d + 1
  | .slice elems spare => uptoBulkAll elems + uptoBulkAll spare + 1
  | .agg parts => uptoBulkAll parts + 1
  | .iface _ d => uptoBulk d + 1
  | .map entries => uptoBulkEntries entries + 1
  | .held _ => 1
def uptoBulkAll {H : Type} : List (DataW H) → Nat
  | [] => 0
  | d :: r => uptoBulk d + uptoBulkAll r
def uptoBulkEntries {H : Type} : List (Lit × DataW H) → Nat
  | [] => 0
  | x :: r => uptoBulkEntry x + uptoBulkEntries r
def uptoBulkEntry {H : Type} : Lit × DataW H → Nat
  | (.string bytes, d) => bytes.length + uptoBulk d + 1
  | (_, d) => uptoBulk d + 1
 end
def uptoSmall : (H : Type) → List (DataW H) → Bool := fun _ ds => decide (uptoBulkAll ds ≤ 1048576)
def OpenSpec.upto (s : _root_.Go.ChangeSpec) : _root_.Go.OpenSpec := { _root_.Go.OpenSpec.ofChange s with cond := some uptoSmall }

/-- 'laws.FnExactSameValue', WHERE WHAT IT READS IS OF BULK AT MOST 1048576: true; the input reads as it did. -/
def fnExactSameValueUptoRow : OpenClaim := { program := "ytchhognpijobcaa", sum := "f05abb37f56c99ed3491c7c8dbaec167bfddca576c49f42197fa8b67ad313001", func := "loop.example/g00119/laws.FnExactSameValue", spec := "fnExactSameValue", unfollowed := true, recurses := true, loops := true, apart := false, narrowed := true }
def FnExactSameValueUptoSaid : Prop := fnExactSameValueUptoRow.holds Try.pinned (OpenSpec.upto fnExactSameValueSpec)

/-- 'laws.FnExactValueOk', WHERE WHAT IT READS IS OF BULK AT MOST 1048576: true; the input reads as it did. -/
def fnExactValueOkUptoRow : OpenClaim := { program := "ytchhognpijobcaa", sum := "f05abb37f56c99ed3491c7c8dbaec167bfddca576c49f42197fa8b67ad313001", func := "loop.example/g00119/laws.FnExactValueOk", spec := "fnExactValueOk", recurses := true, loops := true, apart := false, narrowed := true }
def FnExactValueOkUptoSaid : Prop := fnExactValueOkUptoRow.holds Try.pinned (OpenSpec.upto fnExactValueOkSpec)

/-- 'laws.FnExactSizeOf', WHERE WHAT IT READS IS OF BULK AT MOST 1048576: true; the input reads as it did. -/
def fnExactSizeOfUptoRow : OpenClaim := { program := "ytchhognpijobcaa", sum := "f05abb37f56c99ed3491c7c8dbaec167bfddca576c49f42197fa8b67ad313001", func := "loop.example/g00119/laws.FnExactSizeOf", spec := "fnExactSizeOf", recurses := true, loops := true, apart := false, narrowed := true }
def FnExactSizeOfUptoSaid : Prop := fnExactSizeOfUptoRow.holds Try.pinned (OpenSpec.upto fnExactSizeOfSpec)

/-- 'laws.FnExactDivide', WHERE WHAT IT READS IS OF BULK AT MOST 1048576: true; the input reads as it did. -/
def fnExactDivideUptoRow : OpenClaim := { program := "ytchhognpijobcaa", sum := "f05abb37f56c99ed3491c7c8dbaec167bfddca576c49f42197fa8b67ad313001", func := "loop.example/g00119/laws.FnExactDivide", spec := "fnExactDivide", unfollowed := true, recurses := true, apart := false, narrowed := true }
def FnExactDivideUptoSaid : Prop := fnExactDivideUptoRow.holds Try.pinned (OpenSpec.upto fnExactDivideSpec)

/-- 'laws.FnExactPatchOk', WHERE WHAT IT READS IS OF BULK AT MOST 1048576: true; the input reads as it did. -/
def fnExactPatchOkUptoRow : OpenClaim := { program := "ytchhognpijobcaa", sum := "f05abb37f56c99ed3491c7c8dbaec167bfddca576c49f42197fa8b67ad313001", func := "loop.example/g00119/laws.FnExactPatchOk", spec := "fnExactPatchOk", unfollowed := true, recurses := true, loops := true, apart := false, narrowed := true }
def FnExactPatchOkUptoSaid : Prop := fnExactPatchOkUptoRow.holds Try.pinned (OpenSpec.upto fnExactPatchOkSpec)

/-- 'laws.FnExactReach', WHERE WHAT IT READS IS OF BULK AT MOST 1048576: true; the input reads as it did. -/
def fnExactReachUptoRow : OpenClaim := { program := "ytchhognpijobcaa", sum := "f05abb37f56c99ed3491c7c8dbaec167bfddca576c49f42197fa8b67ad313001", func := "loop.example/g00119/laws.FnExactReach", spec := "fnExactReach", recurses := true, loops := true, apart := false, narrowed := true }
def FnExactReachUptoSaid : Prop := fnExactReachUptoRow.holds Try.pinned (OpenSpec.upto fnExactReachSpec)

/-- 'laws.FnDivided', WHERE WHAT IT READS IS OF BULK AT MOST 1048576: true; the input reads as it did. -/
def fnDividedUptoRow : OpenClaim := { program := "ytchhognpijobcaa", sum := "f05abb37f56c99ed3491c7c8dbaec167bfddca576c49f42197fa8b67ad313001", func := "loop.example/g00119/laws.FnDivided", spec := "fnDivided", unfollowed := true, recurses := true, apart := false, narrowed := true }
def FnDividedUptoSaid : Prop := fnDividedUptoRow.holds Try.pinned (OpenSpec.upto fnDividedSpec)

/-- 'laws.FnEven', WHERE WHAT IT READS IS OF BULK AT MOST 1048576: true; the input reads as it did. -/
def fnEvenUptoRow : OpenClaim := { program := "ytchhognpijobcaa", sum := "f05abb37f56c99ed3491c7c8dbaec167bfddca576c49f42197fa8b67ad313001", func := "loop.example/g00119/laws.FnEven", spec := "fnEven", unfollowed := true, recurses := true, apart := false, narrowed := true }
def FnEvenUptoSaid : Prop := fnEvenUptoRow.holds Try.pinned (OpenSpec.upto fnEvenSpec)

/-- 'laws.FnReached', WHERE WHAT IT READS IS OF BULK AT MOST 1048576: true; the input reads as it did. -/
def fnReachedUptoRow : OpenClaim := { program := "ytchhognpijobcaa", sum := "f05abb37f56c99ed3491c7c8dbaec167bfddca576c49f42197fa8b67ad313001", func := "loop.example/g00119/laws.FnReached", spec := "fnReached", unfollowed := true, recurses := true, apart := false, narrowed := true }
def FnReachedUptoSaid : Prop := fnReachedUptoRow.holds Try.pinned (OpenSpec.upto fnReachedSpec)

end Rows
end Go.Proofs.Ytchhognpijobcaa
