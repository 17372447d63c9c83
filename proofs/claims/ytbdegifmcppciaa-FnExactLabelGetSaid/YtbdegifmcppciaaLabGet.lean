/-
  LabelGet of the program and of the reference: the first label with the key.
-/
import Derived.Test.YtbdegifmcppciaaLabFam
namespace Go.Proofs.Ytbdegifmcppciaa
open Go.RowKit
set_option linter.unusedVariables false
set_option linter.unusedSimpArgs false
attribute [local go_sem ↓] Go.wp_at_zero Go.wp_at_succ
open Classical in
noncomputable def labGet : List Label → ByteArray → Option ByteArray
  | [], _ => none
  | x :: xs, k => if x.key = k then some x.value else labGet xs k
noncomputable def labGetV (o : Option ByteArray) : Value := .tuple #[.string (o.getD ⟨#[]⟩), .bool o.isSome]
theorem labGet_step {xs : List Label} {k : Nat} (hk : k < xs.length) (key : ByteArray) : (xs[k].key = key → labGet (xs.drop k) key = some xs[k].value) ∧ (xs[k].key ≠ key → labGet (xs.drop k) key = labGet (xs.drop (k + 1)) key) := by
  rw [List.drop_eq_getElem_cons hk]
  constructor
  · intro h; rw [labGet, if_pos h]
  · intro h; rw [labGet, if_neg h]
theorem specLabelGet_any (xs : List Label) (v : Value) (o : Bool) (F : List Nat) (key : ByteArray) (w : World) (hr : rd o w (labD xs) [v] F) :
    Calls Try.prog 34 #[v, .string key] w fun e w' => e = .returned (labGetV (labGet xs key)) ∧ Below w.heap.size w w' := by
  obtain ⟨A, c, rfl, hn, hc, hx⟩ := rd_labs hr
  have HX := Lib.hid hx
  clear hx hr
  go_enter Try.func34, Try.ntmps34
  go_wp2
  go_loop [6] (fun i => ∃ k : Nat, k ≤ xs.length ∧ i = .int .i64 k ∧ Hid (labGet xs key = labGet (xs.drop k) key)) (fun i => xs.length - (intOf i).toNat)
  case atStart => exact ⟨0, by omega, rfl, rfl⟩
  case round =>
    obtain ⟨k, hk, rfl, HE⟩ := hrel
    by_cases hlt : k < xs.length
    · obtain ⟨b, off, rfl, hbl, c0, c1, k0, k1⟩ := HX.out k hlt
      obtain ⟨s1, s2⟩ := labGet_step hlt key
      have S1 := Lib.hid s1
      have S2 := Lib.hid s2
      clear s1 s2
      go_wp2
      · have e := str_eq' (a := xs[k].key) (b := key) (by assumption)
        go_ret2
        exact ⟨by rw [HE.out, S1.out e]; rfl, Below.refl _ _⟩
      · have e := str_ne' (a := xs[k].key) (b := key) (by assumption)
        go_round
        case rel => exact ⟨k + 1, by omega, by go_num, by unfold Hid; rw [HE.out, S2.out e]⟩
        case measure => simp [intOf]; omega
    · obtain rfl : k = xs.length := by omega
      go_wp2
      go_ret2
      exact ⟨by rw [HE.out]; simp [labGet, labGetV], Below.refl _ _⟩
theorem implLabelGet_any (xs : List Label) (v : Value) (o : Bool) (F : List Nat) (key : ByteArray) (w : World) (hr : rd o w (labD xs) [v] F) :
    Calls Try.prog 36 #[v, .string key] w fun e w' => e = .returned (labGetV (labGet xs key)) ∧ Below w.heap.size w w' := by
  obtain ⟨A, c, rfl, hn, hc, hx⟩ := rd_labs hr
  have HX := Lib.hid hx
  clear hx hr
  go_enter Try.func36, Try.ntmps36
  go_wp2
  go_loopw [7, 10] (fun _ i wr => ∃ k : Nat, k ≤ xs.length ∧ i = .int .i64 k ∧ Hid (labGet xs key = labGet (xs.drop k) key) ∧ Below w.heap.size w wr) (fun _ i _ => xs.length - (intOf i).toNat)
  case atStart => exact ⟨0, by omega, rfl, rfl, Below.refl _ _⟩
  case round =>
    obtain ⟨k, hk, rfl, HE, hb⟩ := hrel
    by_cases hlt : k < xs.length
    · obtain ⟨b, off, rfl, hbl, c0, c1, k0, k1⟩ := HX.out k hlt
      have d0 := below_cell hb c0
      have d1 := below_cell hb c1
      obtain ⟨s1, s2⟩ := labGet_step hlt key
      have S1 := Lib.hid s1
      have S2 := Lib.hid s2
      have HB := Lib.hid hb
      clear s1 s2 hb c0 c1
      go_wp2
      · have e := str_eq' (a := xs[k].key) (b := key) (by assumption)
        go_ret2
        exact ⟨by rw [HE.out, S1.out e]; rfl, belowA HB.out _⟩
      · have e := str_ne' (a := xs[k].key) (b := key) (by assumption)
        go_roundw
        case rel => exact ⟨k + 1, by omega, by go_num, by unfold Hid; rw [HE.out, S2.out e], belowA HB.out _⟩
        case measure => simp [intOf]; omega
    · obtain rfl : k = xs.length := by omega
      go_wp2
      go_ret2
      exact ⟨by rw [HE.out]; simp [labGet, labGetV], hb⟩
end Go.Proofs.Ytbdegifmcppciaa
