/-
  NARROWER THAN 'FOR EVERY INPUT', by the rows' own cells (each row's printed sentence says how): FnExactRemove: loops · FnExactBaseOk: loops · FnExactGet: loops · FnExactObjs: loops · FnExactCreate: loops · FnExactSetStatus: loops.
  DERIVED. THE GIVEN ROWS OF THIS SEAT. 10 by the template 'for every input the law returns true; each argument reads behind the call as it read before'; 0 by the template 'total and deterministic' (their statements: YtmoiacijklkfaaaTotals.lean).
  GIVEN WITH THE SEED: the statements are not yours to turn. If you find one false, say at which input.
  Laid BY PROGRAM, IN A SANDBOX (cutbox-rows.mjs): the forced cells as the released guide's own fill.sh prints them over the translation 7842c6d625dd9f9f… (all of the seat's roots in one cut). By AI agents, Wed Nov 11 2026. No macro, syntax, notation, axiom, sorry.
-/
import Derived.Test.YtmoiacijklkfaaaChecked
import GoSem.Claim
import GoSem.ClaimJoined
import GoSem.ClaimMapViews
import Derived.JoinedTies
import Derived.KernelRfl
namespace Go.Proofs.Ytmoiacijklkfaaa
/- THE CELL 'sum', in the pinned program and in every row, IS THE sha256 OF THE DUMP (.gsa) THAT YtmoiacijklkfaaaProg.lean LOADS. Nothing in Lean hashes anything: it is a label: what it is worth is what the hold of that sum in a sandbox is worth. -/
noncomputable def Try.pinned : Pinned := { name := "ytmoiacijklkfaaa", sum := "7842c6d625dd9f9f85b5a44182db69b1f80b49fa69bd18431c427d1a76d058a2", checked := Try.checked }
namespace Rows
def none {H : Type} : Left H := { results := [], args := [] }

/-- 'laws.FnExactRemove': WHATEVER THE INPUT: true; the input reads as it did. -/
def fnExactRemoveSpec : ChangeSpec := { name := "fnExactRemove", fn := fun _ => fun
  | [d1, d2, d3] => { results := [.lit (.bool true)], args := [d1, d2, d3] }
  | _ => none }
def fnExactRemoveRow : OpenClaim := { program := "ytmoiacijklkfaaa", sum := "7842c6d625dd9f9f85b5a44182db69b1f80b49fa69bd18431c427d1a76d058a2", func := "loop.example/g00119/laws.FnExactRemove", spec := "fnExactRemove", inPlace := ["internal/bytealg.abigen_runtime_cmpstring", "slices.overlaps[loop.example/g00119/impl.Obj]"], unfollowed := true, recurses := true, loops := true, apart := false }
def FnExactRemoveSaid : Prop := fnExactRemoveRow.holds Try.pinned (OpenSpec.ofChange fnExactRemoveSpec)

/-- ITS FALSE NEIGHBOUR: 'it returns false'. Refute it at one input. -/
def fnExactRemoveWrong : ChangeSpec := { name := "fnExactRemove", fn := fun _ => fun
  | [d1, d2, d3] => { results := [.lit (.bool false)], args := [d1, d2, d3] }
  | _ => none }
def FnExactRemoveWrongFalsely : Prop := fnExactRemoveRow.holds Try.pinned (OpenSpec.ofChange fnExactRemoveWrong)

/-- 'laws.FnExactBaseNew': WHATEVER THE INPUT: true; the input reads as it did. -/
def fnExactBaseNewSpec : ChangeSpec := { name := "fnExactBaseNew", fn := fun _ => fun
  | [] => { results := [.lit (.bool true)], args := [] }
  | _ => none }
def fnExactBaseNewRow : OpenClaim := { program := "ytmoiacijklkfaaa", sum := "7842c6d625dd9f9f85b5a44182db69b1f80b49fa69bd18431c427d1a76d058a2", func := "loop.example/g00119/laws.FnExactBaseNew", spec := "fnExactBaseNew", recurses := true, apart := false }
def FnExactBaseNewSaid : Prop := fnExactBaseNewRow.holds Try.pinned (OpenSpec.ofChange fnExactBaseNewSpec)

/-- ITS FALSE NEIGHBOUR: 'it returns false'. Refute it at one input. -/
def fnExactBaseNewWrong : ChangeSpec := { name := "fnExactBaseNew", fn := fun _ => fun
  | [] => { results := [.lit (.bool false)], args := [] }
  | _ => none }
def FnExactBaseNewWrongFalsely : Prop := fnExactBaseNewRow.holds Try.pinned (OpenSpec.ofChange fnExactBaseNewWrong)

/-- 'laws.FnExactBaseOk': WHATEVER THE INPUT: true; the input reads as it did. -/
def fnExactBaseOkSpec : ChangeSpec := { name := "fnExactBaseOk", fn := fun _ => fun
  | [d] => { results := [.lit (.bool true)], args := [d] }
  | _ => none }
def fnExactBaseOkRow : OpenClaim := { program := "ytmoiacijklkfaaa", sum := "7842c6d625dd9f9f85b5a44182db69b1f80b49fa69bd18431c427d1a76d058a2", func := "loop.example/g00119/laws.FnExactBaseOk", spec := "fnExactBaseOk", inPlace := ["internal/bytealg.abigen_runtime_cmpstring"], unfollowed := true, recurses := true, loops := true, apart := false }
def FnExactBaseOkSaid : Prop := fnExactBaseOkRow.holds Try.pinned (OpenSpec.ofChange fnExactBaseOkSpec)

/-- ITS FALSE NEIGHBOUR: 'it returns false'. Refute it at one input. -/
def fnExactBaseOkWrong : ChangeSpec := { name := "fnExactBaseOk", fn := fun _ => fun
  | [d] => { results := [.lit (.bool false)], args := [d] }
  | _ => none }
def FnExactBaseOkWrongFalsely : Prop := fnExactBaseOkRow.holds Try.pinned (OpenSpec.ofChange fnExactBaseOkWrong)

/-- 'laws.FnExactGet': WHATEVER THE INPUT: true; the input reads as it did. -/
def fnExactGetSpec : ChangeSpec := { name := "fnExactGet", fn := fun _ => fun
  | [d1, d2, d3] => { results := [.lit (.bool true)], args := [d1, d2, d3] }
  | _ => none }
def fnExactGetRow : OpenClaim := { program := "ytmoiacijklkfaaa", sum := "7842c6d625dd9f9f85b5a44182db69b1f80b49fa69bd18431c427d1a76d058a2", func := "loop.example/g00119/laws.FnExactGet", spec := "fnExactGet", unfollowed := true, recurses := true, loops := true, apart := false }
def FnExactGetSaid : Prop := fnExactGetRow.holds Try.pinned (OpenSpec.ofChange fnExactGetSpec)

/-- ITS FALSE NEIGHBOUR: 'it returns false'. Refute it at one input. -/
def fnExactGetWrong : ChangeSpec := { name := "fnExactGet", fn := fun _ => fun
  | [d1, d2, d3] => { results := [.lit (.bool false)], args := [d1, d2, d3] }
  | _ => none }
def FnExactGetWrongFalsely : Prop := fnExactGetRow.holds Try.pinned (OpenSpec.ofChange fnExactGetWrong)

/-- 'laws.FnExactObjs': WHATEVER THE INPUT: true; the input reads as it did. -/
def fnExactObjsSpec : ChangeSpec := { name := "fnExactObjs", fn := fun _ => fun
  | [d1, d2] => { results := [.lit (.bool true)], args := [d1, d2] }
  | _ => none }
def fnExactObjsRow : OpenClaim := { program := "ytmoiacijklkfaaa", sum := "7842c6d625dd9f9f85b5a44182db69b1f80b49fa69bd18431c427d1a76d058a2", func := "loop.example/g00119/laws.FnExactObjs", spec := "fnExactObjs", unfollowed := true, recurses := true, loops := true, apart := false }
def FnExactObjsSaid : Prop := fnExactObjsRow.holds Try.pinned (OpenSpec.ofChange fnExactObjsSpec)

/-- ITS FALSE NEIGHBOUR: 'it returns false'. Refute it at one input. -/
def fnExactObjsWrong : ChangeSpec := { name := "fnExactObjs", fn := fun _ => fun
  | [d1, d2] => { results := [.lit (.bool false)], args := [d1, d2] }
  | _ => none }
def FnExactObjsWrongFalsely : Prop := fnExactObjsRow.holds Try.pinned (OpenSpec.ofChange fnExactObjsWrong)

/-- 'laws.FnWaited': WHATEVER THE INPUT: true; the input reads as it did. -/
def fnWaitedSpec : ChangeSpec := { name := "fnWaited", fn := fun _ => fun
  | [d] => { results := [.lit (.bool true)], args := [d] }
  | _ => none }
def fnWaitedRow : OpenClaim := { program := "ytmoiacijklkfaaa", sum := "7842c6d625dd9f9f85b5a44182db69b1f80b49fa69bd18431c427d1a76d058a2", func := "loop.example/g00119/laws.FnWaited", spec := "fnWaited", inPlace := ["internal/bytealg.abigen_runtime_cmpstring", "slices.overlaps[loop.example/g00119/impl.Obj]"], unfollowed := true, recurses := true, apart := false }
def FnWaitedSaid : Prop := fnWaitedRow.holds Try.pinned (OpenSpec.ofChange fnWaitedSpec)

/-- ITS FALSE NEIGHBOUR: 'it returns false'. Refute it at one input. -/
def fnWaitedWrong : ChangeSpec := { name := "fnWaited", fn := fun _ => fun
  | [d] => { results := [.lit (.bool false)], args := [d] }
  | _ => none }
def FnWaitedWrongFalsely : Prop := fnWaitedRow.holds Try.pinned (OpenSpec.ofChange fnWaitedWrong)

/-- 'laws.FnStale': WHATEVER THE INPUT: true; the input reads as it did. -/
def fnStaleSpec : ChangeSpec := { name := "fnStale", fn := fun _ => fun
  | [d] => { results := [.lit (.bool true)], args := [d] }
  | _ => none }
def fnStaleRow : OpenClaim := { program := "ytmoiacijklkfaaa", sum := "7842c6d625dd9f9f85b5a44182db69b1f80b49fa69bd18431c427d1a76d058a2", func := "loop.example/g00119/laws.FnStale", spec := "fnStale", inPlace := ["internal/bytealg.abigen_runtime_cmpstring", "slices.overlaps[loop.example/g00119/impl.Obj]"], unfollowed := true, recurses := true, apart := false }
def FnStaleSaid : Prop := fnStaleRow.holds Try.pinned (OpenSpec.ofChange fnStaleSpec)

/-- ITS FALSE NEIGHBOUR: 'it returns false'. Refute it at one input. -/
def fnStaleWrong : ChangeSpec := { name := "fnStale", fn := fun _ => fun
  | [d] => { results := [.lit (.bool false)], args := [d] }
  | _ => none }
def FnStaleWrongFalsely : Prop := fnStaleRow.holds Try.pinned (OpenSpec.ofChange fnStaleWrong)

/-- 'laws.FnBorn': WHATEVER THE INPUT: true; the input reads as it did. -/
def fnBornSpec : ChangeSpec := { name := "fnBorn", fn := fun _ => fun
  | [d] => { results := [.lit (.bool true)], args := [d] }
  | _ => none }
def fnBornRow : OpenClaim := { program := "ytmoiacijklkfaaa", sum := "7842c6d625dd9f9f85b5a44182db69b1f80b49fa69bd18431c427d1a76d058a2", func := "loop.example/g00119/laws.FnBorn", spec := "fnBorn", inPlace := ["internal/bytealg.abigen_runtime_cmpstring", "slices.overlaps[loop.example/g00119/impl.Obj]"], unfollowed := true, recurses := true, apart := false }
def FnBornSaid : Prop := fnBornRow.holds Try.pinned (OpenSpec.ofChange fnBornSpec)

/-- ITS FALSE NEIGHBOUR: 'it returns false'. Refute it at one input. -/
def fnBornWrong : ChangeSpec := { name := "fnBorn", fn := fun _ => fun
  | [d] => { results := [.lit (.bool false)], args := [d] }
  | _ => none }
def FnBornWrongFalsely : Prop := fnBornRow.holds Try.pinned (OpenSpec.ofChange fnBornWrong)

/-- 'laws.FnExactCreate': WHATEVER THE INPUT: true; the input reads as it did. -/
def fnExactCreateSpec : ChangeSpec := { name := "fnExactCreate", fn := fun _ => fun
  | [d1, d2, d3, d4, d5] => { results := [.lit (.bool true)], args := [d1, d2, d3, d4, d5] }
  | _ => none }
def fnExactCreateRow : OpenClaim := { program := "ytmoiacijklkfaaa", sum := "7842c6d625dd9f9f85b5a44182db69b1f80b49fa69bd18431c427d1a76d058a2", func := "loop.example/g00119/laws.FnExactCreate", spec := "fnExactCreate", inPlace := ["internal/bytealg.abigen_runtime_cmpstring", "slices.overlaps[loop.example/g00119/impl.Obj]"], unfollowed := true, recurses := true, loops := true, apart := false }
def FnExactCreateSaid : Prop := fnExactCreateRow.holds Try.pinned (OpenSpec.ofChange fnExactCreateSpec)

/-- ITS FALSE NEIGHBOUR: 'it returns false'. Refute it at one input. -/
def fnExactCreateWrong : ChangeSpec := { name := "fnExactCreate", fn := fun _ => fun
  | [d1, d2, d3, d4, d5] => { results := [.lit (.bool false)], args := [d1, d2, d3, d4, d5] }
  | _ => none }
def FnExactCreateWrongFalsely : Prop := fnExactCreateRow.holds Try.pinned (OpenSpec.ofChange fnExactCreateWrong)

/-- 'laws.FnExactSetStatus': WHATEVER THE INPUT: true; the input reads as it did. -/
def fnExactSetStatusSpec : ChangeSpec := { name := "fnExactSetStatus", fn := fun _ => fun
  | [d1, d2, d3, d4, d5] => { results := [.lit (.bool true)], args := [d1, d2, d3, d4, d5] }
  | _ => none }
def fnExactSetStatusRow : OpenClaim := { program := "ytmoiacijklkfaaa", sum := "7842c6d625dd9f9f85b5a44182db69b1f80b49fa69bd18431c427d1a76d058a2", func := "loop.example/g00119/laws.FnExactSetStatus", spec := "fnExactSetStatus", inPlace := ["internal/bytealg.abigen_runtime_cmpstring", "slices.overlaps[loop.example/g00119/impl.Obj]"], unfollowed := true, recurses := true, loops := true, apart := false }
def FnExactSetStatusSaid : Prop := fnExactSetStatusRow.holds Try.pinned (OpenSpec.ofChange fnExactSetStatusSpec)

/-- ITS FALSE NEIGHBOUR: 'it returns false'. Refute it at one input. -/
def fnExactSetStatusWrong : ChangeSpec := { name := "fnExactSetStatus", fn := fun _ => fun
  | [d1, d2, d3, d4, d5] => { results := [.lit (.bool false)], args := [d1, d2, d3, d4, d5] }
  | _ => none }
def FnExactSetStatusWrongFalsely : Prop := fnExactSetStatusRow.holds Try.pinned (OpenSpec.ofChange fnExactSetStatusWrong)

/- THE SECOND FORM. 'bulk': how many values and letters a reading holds, each counted each time it is reached (what is shared counts as often as it is met; a slice's spare places count too). A statement '..UptoSaid' is the law's where the arguments, and the package variables that the reading takes, are together of bulk at most 1048576: NARROWER than '..Said'. Prove '..Said' where nothing that the law and all that it calls make is longer than what came in: it says more and counts as full. Else prove '..UptoSaid'. A law counts once. -/
mutual
def uptoBulk {H : Type} : DataW H → Nat
  | .lit (.string bytes) => bytes.length + 1
  | .lit _ => 1
  | .nil => 1
  | .ptr d => uptoBulk d + 1
  | .slice elems spare => uptoBulkAll elems + uptoBulkAll spare + 1
  | .agg parts => uptoBulkAll parts + 1
  | .iface _ d => uptoBulk d + 1
  | .map entries => uptoBulkEntries entries + 1
  | .held _ => 1
def uptoBulkAll {H : Type} : List (DataW H) → Nat
  | [] => 0
  | d :: r => uptoBulk d + uptoBulkAll r
def uptoBulkEntries {H : Type} : List (Lit × DataW H) → Nat
  | [] => 0
  | x :: r => uptoBulkEntry x + uptoBulkEntries r
def uptoBulkEntry {H : Type} : Lit × DataW H → Nat
  | (.string bytes, d) => bytes.length + uptoBulk d + 1
  | (_, d) => uptoBulk d + 1
 end
def uptoSmall : (H : Type) → List (DataW H) → Bool := fun _ ds => decide (uptoBulkAll ds ≤ 1048576)
def OpenSpec.upto (s : _root_.Go.ChangeSpec) : _root_.Go.OpenSpec := { _root_.Go.OpenSpec.ofChange s with cond := some uptoSmall }

/-- 'laws.FnExactRemove', WHERE WHAT IT READS IS OF BULK AT MOST 1048576: true; the input reads as it did. -/
def fnExactRemoveUptoRow : OpenClaim := { program := "ytmoiacijklkfaaa", sum := "7842c6d625dd9f9f85b5a44182db69b1f80b49fa69bd18431c427d1a76d058a2", func := "loop.example/g00119/laws.FnExactRemove", spec := "fnExactRemove", inPlace := ["internal/bytealg.abigen_runtime_cmpstring", "slices.overlaps[loop.example/g00119/impl.Obj]"], unfollowed := true, recurses := true, loops := true, apart := false, narrowed := true }
def FnExactRemoveUptoSaid : Prop := fnExactRemoveUptoRow.holds Try.pinned (OpenSpec.upto fnExactRemoveSpec)

/-- 'laws.FnExactBaseNew', WHERE WHAT IT READS IS OF BULK AT MOST 1048576: true; the input reads as it did. -/
def fnExactBaseNewUptoRow : OpenClaim := { program := "ytmoiacijklkfaaa", sum := "7842c6d625dd9f9f85b5a44182db69b1f80b49fa69bd18431c427d1a76d058a2", func := "loop.example/g00119/laws.FnExactBaseNew", spec := "fnExactBaseNew", recurses := true, apart := false, narrowed := true }
def FnExactBaseNewUptoSaid : Prop := fnExactBaseNewUptoRow.holds Try.pinned (OpenSpec.upto fnExactBaseNewSpec)

/-- 'laws.FnExactBaseOk', WHERE WHAT IT READS IS OF BULK AT MOST 1048576: true; the input reads as it did. -/
def fnExactBaseOkUptoRow : OpenClaim := { program := "ytmoiacijklkfaaa", sum := "7842c6d625dd9f9f85b5a44182db69b1f80b49fa69bd18431c427d1a76d058a2", func := "loop.example/g00119/laws.FnExactBaseOk", spec := "fnExactBaseOk", inPlace := ["internal/bytealg.abigen_runtime_cmpstring"], unfollowed := true, recurses := true, loops := true, apart := false, narrowed := true }
def FnExactBaseOkUptoSaid : Prop := fnExactBaseOkUptoRow.holds Try.pinned (OpenSpec.upto fnExactBaseOkSpec)

/-- 'laws.FnExactGet', WHERE WHAT IT READS IS OF BULK AT MOST 1048576: true; the input reads as it did. -/
def fnExactGetUptoRow : OpenClaim := { program := "ytmoiacijklkfaaa", sum := "7842c6d625dd9f9f85b5a44182db69b1f80b49fa69bd18431c427d1a76d058a2", func := "loop.example/g00119/laws.FnExactGet", spec := "fnExactGet", unfollowed := true, recurses := true, loops := true, apart := false, narrowed := true }
def FnExactGetUptoSaid : Prop := fnExactGetUptoRow.holds Try.pinned (OpenSpec.upto fnExactGetSpec)

/-- 'laws.FnExactObjs', WHERE WHAT IT READS IS OF BULK AT MOST 1048576: true; the input reads as it did. -/
def fnExactObjsUptoRow : OpenClaim := { program := "ytmoiacijklkfaaa", sum := "7842c6d625dd9f9f85b5a44182db69b1f80b49fa69bd18431c427d1a76d058a2", func := "loop.example/g00119/laws.FnExactObjs", spec := "fnExactObjs", unfollowed := true, recurses := true, loops := true, apart := false, narrowed := true }
def FnExactObjsUptoSaid : Prop := fnExactObjsUptoRow.holds Try.pinned (OpenSpec.upto fnExactObjsSpec)

/-- 'laws.FnWaited', WHERE WHAT IT READS IS OF BULK AT MOST 1048576: true; the input reads as it did. -/
def fnWaitedUptoRow : OpenClaim := { program := "ytmoiacijklkfaaa", sum := "7842c6d625dd9f9f85b5a44182db69b1f80b49fa69bd18431c427d1a76d058a2", func := "loop.example/g00119/laws.FnWaited", spec := "fnWaited", inPlace := ["internal/bytealg.abigen_runtime_cmpstring", "slices.overlaps[loop.example/g00119/impl.Obj]"], unfollowed := true, recurses := true, apart := false, narrowed := true }
def FnWaitedUptoSaid : Prop := fnWaitedUptoRow.holds Try.pinned (OpenSpec.upto fnWaitedSpec)

/-- 'laws.FnStale', WHERE WHAT IT READS IS OF BULK AT MOST 1048576: true; the input reads as it did. -/
def fnStaleUptoRow : OpenClaim := { program := "ytmoiacijklkfaaa", sum := "7842c6d625dd9f9f85b5a44182db69b1f80b49fa69bd18431c427d1a76d058a2", func := "loop.example/g00119/laws.FnStale", spec := "fnStale", inPlace := ["internal/bytealg.abigen_runtime_cmpstring", "slices.overlaps[loop.example/g00119/impl.Obj]"], unfollowed := true, recurses := true, apart := false, narrowed := true }
def FnStaleUptoSaid : Prop := fnStaleUptoRow.holds Try.pinned (OpenSpec.upto fnStaleSpec)

/-- 'laws.FnBorn', WHERE WHAT IT READS IS OF BULK AT MOST 1048576: true; the input reads as it did. -/
def fnBornUptoRow : OpenClaim := { program := "ytmoiacijklkfaaa", sum := "7842c6d625dd9f9f85b5a44182db69b1f80b49fa69bd18431c427d1a76d058a2", func := "loop.example/g00119/laws.FnBorn", spec := "fnBorn", inPlace := ["internal/bytealg.abigen_runtime_cmpstring", "slices.overlaps[loop.example/g00119/impl.Obj]"], unfollowed := true, recurses := true, apart := false, narrowed := true }
def FnBornUptoSaid : Prop := fnBornUptoRow.holds Try.pinned (OpenSpec.upto fnBornSpec)

/-- 'laws.FnExactCreate', WHERE WHAT IT READS IS OF BULK AT MOST 1048576: true; the input reads as it did. -/
def fnExactCreateUptoRow : OpenClaim := { program := "ytmoiacijklkfaaa", sum := "7842c6d625dd9f9f85b5a44182db69b1f80b49fa69bd18431c427d1a76d058a2", func := "loop.example/g00119/laws.FnExactCreate", spec := "fnExactCreate", inPlace := ["internal/bytealg.abigen_runtime_cmpstring", "slices.overlaps[loop.example/g00119/impl.Obj]"], unfollowed := true, recurses := true, loops := true, apart := false, narrowed := true }
def FnExactCreateUptoSaid : Prop := fnExactCreateUptoRow.holds Try.pinned (OpenSpec.upto fnExactCreateSpec)

/-- 'laws.FnExactSetStatus', WHERE WHAT IT READS IS OF BULK AT MOST 1048576: true; the input reads as it did. -/
def fnExactSetStatusUptoRow : OpenClaim := { program := "ytmoiacijklkfaaa", sum := "7842c6d625dd9f9f85b5a44182db69b1f80b49fa69bd18431c427d1a76d058a2", func := "loop.example/g00119/laws.FnExactSetStatus", spec := "fnExactSetStatus", inPlace := ["internal/bytealg.abigen_runtime_cmpstring", "slices.overlaps[loop.example/g00119/impl.Obj]"], unfollowed := true, recurses := true, loops := true, apart := false, narrowed := true }
def FnExactSetStatusUptoSaid : Prop := fnExactSetStatusUptoRow.holds Try.pinned (OpenSpec.upto fnExactSetStatusSpec)

end Rows
end Go.Proofs.Ytmoiacijklkfaaa
