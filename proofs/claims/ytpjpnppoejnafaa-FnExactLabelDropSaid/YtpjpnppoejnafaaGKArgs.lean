/-
  The arguments of the laws, opened: at this dump's type numbers.
-/
import Derived.Test.YtpjpnppoejnafaaProg
import Derived.Test.YtpjpnppoejnafaaG0
import Derived.Test.YtpjpnppoejnafaaGKOpen
import Derived.WideShapes
import Derived.KernelRfl
namespace Go.Proofs.Ytpjpnppoejnafaa.G
open Go.RowKit Go.Proofs.YtpjpnppoejnafaaW.PrintWords Go.Proofs.YtpjpnppoejnafaaW.PrintLast Go.Proofs.YtpjpnppoejnafaaW.PrintMore
set_option linter.unusedVariables false
theorem int_wf {n : Int} (h : (Lit.int .i64 n).wf = true) : -9223372036854775808 ≤ n ∧ n ≤ 9223372036854775807 := by
  have m1 : IntKind.i64.min = -9223372036854775808 := by decide
  have m2 : IntKind.i64.max = 9223372036854775807 := by decide
  simpa only [Lit.wf, Bool.and_eq_true, decide_eq_true_eq, m1, m2] using h
section
variable {H : Type} {enc : TypeId × Value → H} {w : World} {base : Nat} {spare : Nat → Bool} {held : Bool} {v : Value} {d : DataW H} {p : List MemPlace} {r : Reach} {b0 : Nat}
set_option maxRecDepth 20000 in
/-- A slice of such elements. -/
theorem kopen_of {α : Type} {t e : TypeId} {k : Kd α} {Wf : α → Prop} (ht : Try.prog.underlying t = some (.slice e)) (hsz : Try.prog.cellsOf e = k.sz) (hpos : 0 < k.sz) (ho : ∀ m, KOpens enc Try.prog w base spare held m e k Wf)
    (hv : Value.okWide Try.prog w r b0 t v) (h : DataW.Trod enc Try.prog w base spare held t v d p) :
    ∃ (xs : List α) (A : Option Addr) (c : Nat), v = .slice A xs.length c ∧ (xs.length ≤ 9223372036854775807 ∧ ∀ x ∈ xs, Wf x) ∧ xs.length ≤ c ∧ Kd.C k w A xs.length xs := by
  obtain ⟨A, n, c, rfl⟩ := Go.WideShapes.okWide_slice ht hv
  obtain ⟨fuel, h⟩ := h
  obtain ⟨xs, hw, A', c', he, hl, hC⟩ := kopens_slice ht hsz hpos (fun _ _ => trivial) (fun m _ => ho m) _ _ h
  have he' : [Value.slice A n c] = [Value.slice A' xs.length c'] := he
  simp only [List.cons.injEq, and_true] at he'
  exact ⟨xs, A', c', he', hw, hl, hC⟩
set_option maxRecDepth 20000 in
theorem kopens_lab (m : Nat) : KOpens enc Try.prog w base spare held m 55 k55 (fun x => wfStr x.f0 ∧ wfStr x.f1) :=
  kopens_struct (g := fun (p : ByteArray × ByteArray) => (⟨p.1, p.2⟩ : S55)) (Wf := fun (p : ByteArray × ByteArray) => wfStr p.1 ∧ wfStr p.2) (fun _ => rfl) Try.underlying55 (by kernel_rfl) (fun m _ => kfields_cons (o' := 1) (by kernel_rfl) rfl (kopens_str Try.underlying9) (kfields_one (by kernel_rfl) (kopens_str Try.underlying9)))
set_option maxRecDepth 20000 in
theorem kopen_labels (hv : Value.okWide Try.prog w r b0 22 v) (h : DataW.Trod enc Try.prog w base spare held 22 v d p) :
    ∃ (xs : List S55) (A : Option Addr) (c : Nat), v = .slice A xs.length c ∧ (xs.length ≤ 9223372036854775807 ∧ ∀ x ∈ xs, wfStr x.f0 ∧ wfStr x.f1) ∧ xs.length ≤ c ∧ Kd.C k55 w A xs.length xs :=
  kopen_of Try.underlying22 (by kernel_rfl) (by decide) kopens_lab hv h
set_option maxRecDepth 20000 in
theorem kopens_term (m : Nat) : KOpens enc Try.prog w base spare held m 73 k73 (fun x => wfInt x.f0 ∧ wfStr x.f1 ∧ (x.f2.length ≤ 9223372036854775807 ∧ ∀ y ∈ x.f2, wfStr y)) :=
  kopens_struct (g := fun (p : Int × ByteArray × List ByteArray) => (⟨p.1, p.2.1, p.2.2⟩ : S73)) (Wf := fun (p : Int × ByteArray × List ByteArray) => wfInt p.1 ∧ wfStr p.2.1 ∧ (p.2.2.length ≤ 9223372036854775807 ∧ ∀ y ∈ p.2.2, wfStr y)) (fun _ => rfl) Try.underlying73 (by kernel_rfl)
    (fun m _ => kfields_cons (o' := 1) (by kernel_rfl) rfl (kopens_int Try.underlying3) (kfields_cons (o' := 2) (by kernel_rfl) rfl (kopens_str Try.underlying9) (kfields_one (by kernel_rfl) (kopens_slice Try.underlying50 (by kernel_rfl) (by decide) (fun _ _ => trivial) (fun m _ => kopens_str Try.underlying9)))))
set_option maxRecDepth 20000 in
theorem kopen_terms (hv : Value.okWide Try.prog w r b0 35 v) (h : DataW.Trod enc Try.prog w base spare held 35 v d p) :
    ∃ (xs : List S73) (A : Option Addr) (c : Nat), v = .slice A xs.length c ∧ (xs.length ≤ 9223372036854775807 ∧ ∀ x ∈ xs, wfInt x.f0 ∧ wfStr x.f1 ∧ (x.f2.length ≤ 9223372036854775807 ∧ ∀ y ∈ x.f2, wfStr y)) ∧ xs.length ≤ c ∧ Kd.C k73 w A xs.length xs :=
  kopen_of Try.underlying35 (by kernel_rfl) (by decide) kopens_term hv h
set_option maxRecDepth 20000 in
theorem kopen_bytes (hv : Value.okWide Try.prog w r b0 45 v) (h : DataW.Trod enc Try.prog w base spare held 45 v d p) :
    ∃ (xs : List Int) (A : Option Addr) (c : Nat), v = .slice A xs.length c ∧ (xs.length ≤ 9223372036854775807 ∧ ∀ x ∈ xs, 0 ≤ x ∧ x ≤ 255) ∧ xs.length ≤ c ∧ Kd.C (Kd.int .u8) w A xs.length xs :=
  kopen_of Try.underlying45 (by kernel_rfl) (by decide) (fun m => kopens_u8 Try.underlying5) hv h
set_option maxRecDepth 20000 in
theorem kopen_strs (hv : Value.okWide Try.prog w r b0 50 v) (h : DataW.Trod enc Try.prog w base spare held 50 v d p) :
    ∃ (xs : List ByteArray) (A : Option Addr) (c : Nat), v = .slice A xs.length c ∧ (xs.length ≤ 9223372036854775807 ∧ ∀ x ∈ xs, wfStr x) ∧ xs.length ≤ c ∧ Kd.C Kd.string w A xs.length xs :=
  kopen_of Try.underlying50 (by kernel_rfl) (by decide) (fun m => kopens_str Try.underlying9) hv h
end
end Go.Proofs.Ytpjpnppoejnafaa.G
