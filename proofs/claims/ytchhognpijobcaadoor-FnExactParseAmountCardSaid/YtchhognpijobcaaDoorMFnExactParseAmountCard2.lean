import Derived.Test.YtchhognpijobcaaDoorMFnExactParseAmountCard1
import Derived.ChangeArms
import Derived.ChangeShapes
import Derived.DataReads
import Derived.Test.YtchhognpijobcaaDoorProg
import Derived.WideShapes
import Derived.KernelRfl
import Derived.Test.YtchhognpijobcaaDoorRows
import Derived.WalkKit
import Derived.ProofKit
import Derived.OpenShut
import Derived.ShutString
import Derived.ChangeOld
import Derived.Carry
import Derived.Below
import Derived.Handed
import Derived.Test.YtchhognpijobcaaDoorCards
import Derived.Test.YtchhognpijobcaaDoorTie
import Derived.Lay
import Derived.LaidMore
import Derived.SevenTiedAt
import Derived.Stop.Joined
/- G7 -/
-- Laid by wip/g/gprint.py out of the translation, by the kit's print program. Lean checks it.
namespace Go.Proofs.YtchhognpijobcaaDoor.G
open Go.RowKit Go.Proofs.YtchhognpijobcaaDoorW.PrintWords Go.Proofs.YtchhognpijobcaaDoorW.PrintLast Go.Proofs.YtchhognpijobcaaDoorW.PrintMore
attribute [local go_sem] max2_int min2_int max_two min_two max_three min_three max_four min_four   -- for this text's walks alone
set_option linter.unusedVariables false
set_option linter.unusedSimpArgs false

/-! ### impl_ParseAmount: function 7 -/
def impl_ParseAmount.f (k : Nat) (a0 : ByteArray) : Option (Int × Bool) := (strings_TrimLeft.f a0 (⟨#[48, 49, 50, 51, 52, 53, 54, 55, 56, 57]⟩ : ByteArray)).bind fun t111 => (if 0 ≤ (wrap64 ((a0.size : Int) - (t111.size : Int))) then (if (wrap64 ((a0.size : Int) - (t111.size : Int))) ≤ (a0.size : Int) then ((impl_digits.f k (a0.extract 0 ((wrap64 ((a0.size : Int) - (t111.size : Int))) : Int).toNat) 16).bind fun bt112 => ((impl_unitOf.f t111).bind fun t114 => (if bt112.2 = true then (if t114 = 0 then (some (0, false)) else (if bt112.1 > (wrap64 ((1000000000000000 : Int) / t114)) then (some (0, false)) else (some (wrap64 (bt112.1 * t114), true)))) else (some (0, false))))) else (none)) else (none))
set_option maxHeartbeats 8000000 in
set_option maxRecDepth 100000 in
theorem impl_ParseAmount.calls (k : Nat) (a0 : ByteArray) (r1 : Int) (r2 : Bool) (w : World) (h : impl_ParseAmount.f k a0 = some (r1, r2)) :
    Calls Tryd.prog 7 #[.string a0] w fun e w' => e = .returned (.tuple #[.int .i64 r1, .bool r2]) ∧ Below w.heap.size w w' := by
  have HB := Aside0.mk (Below.refl w.heap.size w)
  have H : ((strings_TrimLeft.f a0 (⟨#[48, 49, 50, 51, 52, 53, 54, 55, 56, 57]⟩ : ByteArray)).bind fun t111 => (if 0 ≤ (wrap64 ((a0.size : Int) - (t111.size : Int))) then (if (wrap64 ((a0.size : Int) - (t111.size : Int))) ≤ (a0.size : Int) then ((impl_digits.f k (a0.extract 0 ((wrap64 ((a0.size : Int) - (t111.size : Int))) : Int).toNat) 16).bind fun bt112 => ((impl_unitOf.f t111).bind fun t114 => (if bt112.2 = true then (if t114 = 0 then (some (0, false)) else (if bt112.1 > (wrap64 ((1000000000000000 : Int) / t114)) then (some (0, false)) else (some (wrap64 (bt112.1 * t114), true)))) else (some (0, false))))) else (none)) else (none))) = some (r1, r2) := h
  clear h
  replace H := Option.bind_eq_some_iff.mp H
  obtain ⟨t111, A20, H⟩ := H
  replace H : (if 0 ≤ (wrap64 ((a0.size : Int) - (t111.size : Int))) then (if (wrap64 ((a0.size : Int) - (t111.size : Int))) ≤ (a0.size : Int) then ((impl_digits.f k (a0.extract 0 ((wrap64 ((a0.size : Int) - (t111.size : Int))) : Int).toNat) 16).bind fun bt112 => ((impl_unitOf.f t111).bind fun t114 => (if bt112.2 = true then (if t114 = 0 then (some (0, false)) else (if bt112.1 > (wrap64 ((1000000000000000 : Int) / t114)) then (some (0, false)) else (some (wrap64 (bt112.1 * t114), true)))) else (some (0, false))))) else (none)) else (none)) = some (r1, r2) := H
  have A2 := Aside0.mk A20
  clear A20
  obtain ⟨ji3, hji3⟩ : ∃ j_ : Int, (wrap64 ((a0.size : Int) - (t111.size : Int))) = j_ := ⟨_, rfl⟩
  replace H : (if 0 ≤ (ji3) then (if (ji3) ≤ (a0.size : Int) then ((impl_digits.f k (a0.extract 0 ((ji3) : Int).toNat) 16).bind fun bt112 => ((impl_unitOf.f t111).bind fun t114 => (if bt112.2 = true then (if t114 = 0 then (some (0, false)) else (if bt112.1 > (wrap64 ((1000000000000000 : Int) / t114)) then (some (0, false)) else (some (wrap64 (bt112.1 * t114), true)))) else (some (0, false))))) else (none)) else (none)) = some (r1, r2) := by first | (rw [hji3] at H; exact H) | (simp only [hji3] at H ⊢; exact H)
  (try rw [hji3] at A2)
  have hji3w : (IntKind.i64.wrap ((a0.size : Int) - (t111.size : Int))) = ji3 := (i64_w _).trans hji3
  by_cases c4 : 0 ≤ (ji3)
  · rw [if_pos c4] at H
    have c4b0 := eq_true c4
    have c4b1 : decide (0 ≤ (ji3)) = true := decide_eq_true c4
    clear c4
    by_cases c5 : (ji3) ≤ (a0.size : Int)
    · rw [if_pos c5] at H
      have c5b0 := eq_true c5
      have c5b1 : decide ((ji3) ≤ (a0.size : Int)) = true := decide_eq_true c5
      clear c5
      replace H := Option.bind_eq_some_iff.mp H
      obtain ⟨⟨t112, t113⟩, A60, H⟩ := H
      replace H : ((impl_unitOf.f t111).bind fun t114 => (if t113 = true then (if t114 = 0 then (some (0, false)) else (if t112 > (wrap64 ((1000000000000000 : Int) / t114)) then (some (0, false)) else (some (wrap64 (t112 * t114), true)))) else (some (0, false)))) = some (r1, r2) := H
      have A6 := Aside0.mk A60
      clear A60
      replace H := Option.bind_eq_some_iff.mp H
      obtain ⟨t114, A70, H⟩ := H
      replace H : (if t113 = true then (if t114 = 0 then (some (0, false)) else (if t112 > (wrap64 ((1000000000000000 : Int) / t114)) then (some (0, false)) else (some (wrap64 (t112 * t114), true)))) else (some (0, false))) = some (r1, r2) := H
      have A7 := Aside0.mk A70
      clear A70
      by_cases c8 : t113 = true
      · subst c8
        have H1 : (if t114 = 0 then (some (0, false)) else (if t112 > (wrap64 ((1000000000000000 : Int) / t114)) then (some (0, false)) else (some (wrap64 (t112 * t114), true)))) = some (r1, r2) := by rw [if_pos rfl] at H; exact H
        clear H
        have H := H1
        clear H1
        by_cases c9 : t114 = 0
        · rw [if_pos c9] at H
          have c9b0 : (t114 == 0) = true := beq_iff_eq.mpr c9
          have c9b1 : (t114 != 0) = false := bne_eq_false_iff_eq.mpr c9
          clear c9
          simp only [Option.some.injEq, Prod.mk.injEq] at H
          obtain ⟨rfl, rfl⟩ := H
          go_enter Tryd.func7, Tryd.ntmps7
          go_wp2_with (first | ((with_reducible refine gate_callee (f := 17) rfl ?_); refine goesL_ (some 9) rfl rfl Tryd.func17 (by kernel_rfl) rfl #[.string a0, .string (⟨#[48, 49, 50, 51, 52, 53, 54, 55, 56, 57]⟩ : ByteArray)] rfl (by (try simp only [List.map_toArray, List.map_cons, List.map_nil]); first | done | rfl | (simp only [List.length_drop, List.length_take]; rfl)) ?_; (with_reducible refine (strings_TrimLeft.calls a0 (⟨#[48, 49, 50, 51, 52, 53, 54, 55, 56, 57]⟩ : ByteArray) t111 _ A2.out).mono ?_); rintro e w10 ⟨rfl, hb⟩; refine ⟨_, rfl, ?_⟩; have n0_ := Aside0.mk (below_step (by repeat (first | (with_reducible first | exact HB.out | apply below_alloc | apply pw_below_drewN | apply below_drew1) | exact HB.out)) hb); clear HB; have HB := n0_; clear n0_; (try clear hb); (try clear hb2); (try clear hk); (try clear hi)) | ((with_reducible refine gate_callee (f := 18) rfl ?_); refine goesL_ (some 18) rfl rfl Tryd.func18 (by kernel_rfl) rfl #[.string (a0.extract 0 ((ji3) : Int).toNat), .int .i64 16] rfl (by (try simp only [List.map_toArray, List.map_cons, List.map_nil]); first | done | (simp only [hji3]; rfl) | rfl | (simp only [List.length_drop, List.length_take]; rfl)) ?_; (with_reducible refine (impl_digits.calls k (a0.extract 0 ((ji3) : Int).toNat) 16 t112 true _ A6.out).mono ?_); rintro e w' ⟨rfl, ⟨nd, rfl⟩⟩; refine ⟨_, rfl, ?_⟩) | ((with_reducible refine gate_callee (f := 19) rfl ?_); refine goesL_ (some 22) rfl rfl Tryd.func19 (by kernel_rfl) rfl #[.string t111] rfl (by (try simp only [List.map_toArray, List.map_cons, List.map_nil]); first | done | rfl | (simp only [List.length_drop, List.length_take]; rfl)) ?_; (with_reducible refine (impl_unitOf.calls t111 t114 _ A7.out).mono ?_); rintro e w' ⟨rfl, ⟨nd, rfl⟩⟩; refine ⟨_, rfl, ?_⟩))
          go_ret2
          exact ⟨by first | rfl | (simp [errW_none, errW_some] <;> rfl) | (simp only [← hji3]; first | rfl | (simp [errW_none, errW_some] <;> rfl)) | (simp [*, errW_none, errW_some] <;> rfl), by repeat (first | (with_reducible first | exact HB.out | apply below_alloc | apply pw_below_drewN | apply below_drew1) | exact HB.out)⟩
        · rw [if_neg c9] at H
          have c9b0 : (t114 == 0) = false := beq_eq_false_iff_ne.mpr c9
          have c9b1 : (t114 != 0) = true := bne_iff_ne.mpr c9
          by_cases c11 : t112 > (wrap64 ((1000000000000000 : Int) / t114))
          · rw [if_pos c11] at H
            have c11b0 : decide ((wrap64 ((1000000000000000 : Int) / t114)) < t112) = true := decide_eq_true c11
            have c11t0 : decide ((wrap64 (Int.tdiv (1000000000000000 : Int) t114)) < t112) = true := by rw [Int.tdiv_eq_ediv_of_nonneg (by omega)]; exact c11b0
            clear c11
            simp only [Option.some.injEq, Prod.mk.injEq] at H
            obtain ⟨rfl, rfl⟩ := H
            go_enter Tryd.func7, Tryd.ntmps7
            go_wp2_with (first | ((with_reducible refine gate_callee (f := 17) rfl ?_); refine goesL_ (some 9) rfl rfl Tryd.func17 (by kernel_rfl) rfl #[.string a0, .string (⟨#[48, 49, 50, 51, 52, 53, 54, 55, 56, 57]⟩ : ByteArray)] rfl (by (try simp only [List.map_toArray, List.map_cons, List.map_nil]); first | done | rfl | (simp only [List.length_drop, List.length_take]; rfl)) ?_; (with_reducible refine (strings_TrimLeft.calls a0 (⟨#[48, 49, 50, 51, 52, 53, 54, 55, 56, 57]⟩ : ByteArray) t111 _ A2.out).mono ?_); rintro e w12 ⟨rfl, hb⟩; refine ⟨_, rfl, ?_⟩; have n0_ := Aside0.mk (below_step (by repeat (first | (with_reducible first | exact HB.out | apply below_alloc | apply pw_below_drewN | apply below_drew1) | exact HB.out)) hb); clear HB; have HB := n0_; clear n0_; (try clear hb); (try clear hb2); (try clear hk); (try clear hi)) | ((with_reducible refine gate_callee (f := 18) rfl ?_); refine goesL_ (some 18) rfl rfl Tryd.func18 (by kernel_rfl) rfl #[.string (a0.extract 0 ((ji3) : Int).toNat), .int .i64 16] rfl (by (try simp only [List.map_toArray, List.map_cons, List.map_nil]); first | done | (simp only [hji3]; rfl) | rfl | (simp only [List.length_drop, List.length_take]; rfl)) ?_; (with_reducible refine (impl_digits.calls k (a0.extract 0 ((ji3) : Int).toNat) 16 t112 true _ A6.out).mono ?_); rintro e w' ⟨rfl, ⟨nd, rfl⟩⟩; refine ⟨_, rfl, ?_⟩) | ((with_reducible refine gate_callee (f := 19) rfl ?_); refine goesL_ (some 22) rfl rfl Tryd.func19 (by kernel_rfl) rfl #[.string t111] rfl (by (try simp only [List.map_toArray, List.map_cons, List.map_nil]); first | done | rfl | (simp only [List.length_drop, List.length_take]; rfl)) ?_; (with_reducible refine (impl_unitOf.calls t111 t114 _ A7.out).mono ?_); rintro e w' ⟨rfl, ⟨nd, rfl⟩⟩; refine ⟨_, rfl, ?_⟩))
            go_ret2
            exact ⟨by first | rfl | (simp [errW_none, errW_some] <;> rfl) | (simp only [← hji3]; first | rfl | (simp [errW_none, errW_some] <;> rfl)) | (simp [*, errW_none, errW_some] <;> rfl), by repeat (first | (with_reducible first | exact HB.out | apply below_alloc | apply pw_below_drewN | apply below_drew1) | exact HB.out)⟩
          · rw [if_neg c11] at H
            have c11b0 : decide ((wrap64 ((1000000000000000 : Int) / t114)) < t112) = false := decide_eq_false c11
            have c11t0 : decide ((wrap64 (Int.tdiv (1000000000000000 : Int) t114)) < t112) = false := by rw [Int.tdiv_eq_ediv_of_nonneg (by omega)]; exact c11b0
            clear c11
            simp only [Option.some.injEq, Prod.mk.injEq] at H
            obtain ⟨rfl, rfl⟩ := H
            go_enter Tryd.func7, Tryd.ntmps7
            go_wp2_with (first | ((with_reducible refine gate_callee (f := 17) rfl ?_); refine goesL_ (some 9) rfl rfl Tryd.func17 (by kernel_rfl) rfl #[.string a0, .string (⟨#[48, 49, 50, 51, 52, 53, 54, 55, 56, 57]⟩ : ByteArray)] rfl (by (try simp only [List.map_toArray, List.map_cons, List.map_nil]); first | done | rfl | (simp only [List.length_drop, List.length_take]; rfl)) ?_; (with_reducible refine (strings_TrimLeft.calls a0 (⟨#[48, 49, 50, 51, 52, 53, 54, 55, 56, 57]⟩ : ByteArray) t111 _ A2.out).mono ?_); rintro e w13 ⟨rfl, hb⟩; refine ⟨_, rfl, ?_⟩; have n0_ := Aside0.mk (below_step (by repeat (first | (with_reducible first | exact HB.out | apply below_alloc | apply pw_below_drewN | apply below_drew1) | exact HB.out)) hb); clear HB; have HB := n0_; clear n0_; (try clear hb); (try clear hb2); (try clear hk); (try clear hi)) | ((with_reducible refine gate_callee (f := 18) rfl ?_); refine goesL_ (some 18) rfl rfl Tryd.func18 (by kernel_rfl) rfl #[.string (a0.extract 0 ((ji3) : Int).toNat), .int .i64 16] rfl (by (try simp only [List.map_toArray, List.map_cons, List.map_nil]); first | done | (simp only [hji3]; rfl) | rfl | (simp only [List.length_drop, List.length_take]; rfl)) ?_; (with_reducible refine (impl_digits.calls k (a0.extract 0 ((ji3) : Int).toNat) 16 t112 true _ A6.out).mono ?_); rintro e w' ⟨rfl, ⟨nd, rfl⟩⟩; refine ⟨_, rfl, ?_⟩) | ((with_reducible refine gate_callee (f := 19) rfl ?_); refine goesL_ (some 22) rfl rfl Tryd.func19 (by kernel_rfl) rfl #[.string t111] rfl (by (try simp only [List.map_toArray, List.map_cons, List.map_nil]); first | done | rfl | (simp only [List.length_drop, List.length_take]; rfl)) ?_; (with_reducible refine (impl_unitOf.calls t111 t114 _ A7.out).mono ?_); rintro e w' ⟨rfl, ⟨nd, rfl⟩⟩; refine ⟨_, rfl, ?_⟩))
            go_ret2
            exact ⟨by first | rfl | (simp [errW_none, errW_some] <;> rfl) | (simp only [← hji3]; first | rfl | (simp [errW_none, errW_some] <;> rfl)) | (simp [*, errW_none, errW_some] <;> rfl), by repeat (first | (with_reducible first | exact HB.out | apply below_alloc | apply pw_below_drewN | apply below_drew1) | exact HB.out)⟩
      · replace c8 := Bool.eq_false_iff.mpr c8
        subst c8
        have H1 : (some (0, false)) = some (r1, r2) := by rw [if_neg (show ¬ (false = true) by decide)] at H; exact H
        clear H
        have H := H1
        clear H1
        simp only [Option.some.injEq, Prod.mk.injEq] at H
        obtain ⟨rfl, rfl⟩ := H
        go_enter Tryd.func7, Tryd.ntmps7
        go_wp2_with (first | ((with_reducible refine gate_callee (f := 17) rfl ?_); refine goesL_ (some 9) rfl rfl Tryd.func17 (by kernel_rfl) rfl #[.string a0, .string (⟨#[48, 49, 50, 51, 52, 53, 54, 55, 56, 57]⟩ : ByteArray)] rfl (by (try simp only [List.map_toArray, List.map_cons, List.map_nil]); first | done | rfl | (simp only [List.length_drop, List.length_take]; rfl)) ?_; (with_reducible refine (strings_TrimLeft.calls a0 (⟨#[48, 49, 50, 51, 52, 53, 54, 55, 56, 57]⟩ : ByteArray) t111 _ A2.out).mono ?_); rintro e w14 ⟨rfl, hb⟩; refine ⟨_, rfl, ?_⟩; have n0_ := Aside0.mk (below_step (by repeat (first | (with_reducible first | exact HB.out | apply below_alloc | apply pw_below_drewN | apply below_drew1) | exact HB.out)) hb); clear HB; have HB := n0_; clear n0_; (try clear hb); (try clear hb2); (try clear hk); (try clear hi)) | ((with_reducible refine gate_callee (f := 18) rfl ?_); refine goesL_ (some 18) rfl rfl Tryd.func18 (by kernel_rfl) rfl #[.string (a0.extract 0 ((ji3) : Int).toNat), .int .i64 16] rfl (by (try simp only [List.map_toArray, List.map_cons, List.map_nil]); first | done | (simp only [hji3]; rfl) | rfl | (simp only [List.length_drop, List.length_take]; rfl)) ?_; (with_reducible refine (impl_digits.calls k (a0.extract 0 ((ji3) : Int).toNat) 16 t112 false _ A6.out).mono ?_); rintro e w' ⟨rfl, ⟨nd, rfl⟩⟩; refine ⟨_, rfl, ?_⟩) | ((with_reducible refine gate_callee (f := 19) rfl ?_); refine goesL_ (some 22) rfl rfl Tryd.func19 (by kernel_rfl) rfl #[.string t111] rfl (by (try simp only [List.map_toArray, List.map_cons, List.map_nil]); first | done | rfl | (simp only [List.length_drop, List.length_take]; rfl)) ?_; (with_reducible refine (impl_unitOf.calls t111 t114 _ A7.out).mono ?_); rintro e w' ⟨rfl, ⟨nd, rfl⟩⟩; refine ⟨_, rfl, ?_⟩))
        go_ret2
        exact ⟨by first | rfl | (simp [errW_none, errW_some] <;> rfl) | (simp only [← hji3]; first | rfl | (simp [errW_none, errW_some] <;> rfl)) | (simp [*, errW_none, errW_some] <;> rfl), by repeat (first | (with_reducible first | exact HB.out | apply below_alloc | apply pw_below_drewN | apply below_drew1) | exact HB.out)⟩
    · rw [if_neg c5] at H
      exact absurd H (by simp)
  · rw [if_neg c4] at H
    exact absurd H (by simp)

end Go.Proofs.YtchhognpijobcaaDoor.G

/- PParse -/
/-
  The law of ParseAmount, as a statement over texts: it is answered true.
-/
namespace Go.Proofs.YtchhognpijobcaaDoor.G
open Go.RowKit Go.Proofs.YtchhognpijobcaaDoorW.PrintWords Go.Proofs.YtchhognpijobcaaDoorW.PrintLast Go.Proofs.YtchhognpijobcaaDoorW.PrintMore
set_option linter.unusedVariables false
set_option linter.unusedSimpArgs false
theorem toList_nil {s : ByteArray} : s.toList = [] ↔ s.size = 0 := by
  rw [ByteArray.toList_eq]
  constructor
  · intro h
    have : s.data.size = 0 := by rw [← Array.length_toList, h]; rfl
    exact this
  · intro h
    have h : s.data.size = 0 := h
    rw [← List.length_eq_zero_iff, Array.length_toList]; exact h
theorem size_len (s : ByteArray) : s.data.toList.length = s.size := Array.length_toList
def dig (s : ByteArray) (i : Nat) : Int := (bt s i - 48) % 256
def digB (s : ByteArray) (i : Nat) : Bool := inB (bt s i) 48 57
def valI (s : ByteArray) : Nat → Int
  | 0 => 0
  | i + 1 => valI s i * 10 + dig s i
theorem valI_bound (s : ByteArray) : ∀ i, 0 ≤ valI s i ∧ valI s i ≤ 29 * ((10 ^ i : Nat) : Int) - 29
  | 0 => by simp [valI]
  | i + 1 => by
    obtain ⟨h0, h1⟩ := valI_bound s i
    rw [valI, Nat.pow_succ]
    unfold dig
    omega
theorem pow_le17 {i : Nat} (h : i ≤ 17) : (10 ^ i : Nat) ≤ 100000000000000000 := Nat.pow_le_pow_right (n := 10) (by omega) h
/-! ### the digits at a text's head -/
def isD (b : UInt8) : Bool := decide (48 ≤ b.toNat ∧ b.toNat ≤ 57)
def lead (s : ByteArray) : Nat := (s.data.toList.takeWhile isD).length
theorem bt_list {s : ByteArray} {i : Nat} (h : i < s.size) : bt s i = ((s.data.toList[i]'(by rw [size_len]; exact h)).toNat : Int) := by
  rw [← bt_at s i (by simpa using h)]
  rfl
theorem digB_isD {s : ByteArray} {i : Nat} (h : i < s.size) : digB s i = isD (s.data.toList[i]'(by rw [size_len]; exact h)) := by
  unfold digB inB isD
  rw [bt_list h, decide_eq_decide]
  omega
theorem takeWhile_get {α : Type} {p : α → Bool} : ∀ {l : List α} {i : Nat} (h : i < (l.takeWhile p).length) (h2 : i < l.length), p l[i] = true
  | [], i, h, _ => by simp at h
  | x :: xs, i, h, h2 => by
    rw [List.takeWhile_cons] at h
    by_cases c : p x = true
    · rw [if_pos c] at h
      cases i with
      | zero => exact c
      | succ i => exact takeWhile_get (l := xs) (by simpa using h) (by simpa using h2)
    · rw [if_neg c] at h; simp at h
theorem takeWhile_stop {α : Type} {p : α → Bool} : ∀ {l : List α} (h : (l.takeWhile p).length < l.length), p (l[(l.takeWhile p).length]) = false
  | [], h => by simp at h
  | x :: xs, h => by
    by_cases c : p x = true
    · have e : ((x :: xs).takeWhile p) = x :: xs.takeWhile p := by rw [List.takeWhile_cons, if_pos c]
      simp only [e, List.length_cons, List.getElem_cons_succ]
      exact takeWhile_stop (l := xs) (by rw [e] at h; simpa using h)
    · have e : ((x :: xs).takeWhile p) = [] := by rw [List.takeWhile_cons, if_neg c]
      simp only [e, List.length_nil, List.getElem_cons_zero]
      exact Bool.eq_false_iff.2 c
theorem takeWhile_le {α : Type} (p : α → Bool) : ∀ (l : List α), (l.takeWhile p).length ≤ l.length
  | [] => by simp
  | x :: xs => by
    rw [List.takeWhile_cons]
    by_cases c : p x = true
    · rw [if_pos c]; simpa using takeWhile_le p xs
    · rw [if_neg c]; simp
theorem dropWhile_drop {α : Type} (p : α → Bool) : ∀ (l : List α), l.dropWhile p = l.drop (l.takeWhile p).length
  | [] => by simp
  | x :: xs => by
    rw [List.dropWhile_cons, List.takeWhile_cons]
    by_cases c : p x = true
    · rw [if_pos c, if_pos c]; simpa using dropWhile_drop p xs
    · rw [if_neg c, if_neg c]; simp
theorem lead_le (s : ByteArray) : lead s ≤ s.size := by rw [← size_len]; exact takeWhile_le _ _
theorem lead_dig {s : ByteArray} {i : Nat} (h : i < lead s) : digB s i = true := by
  have := lead_le s
  rw [digB_isD (by omega)]
  exact takeWhile_get h (by rw [size_len]; omega)
theorem lead_stop {s : ByteArray} (h : lead s < s.size) : digB s (lead s) = false := by
  rw [digB_isD h]
  exact takeWhile_stop (p := isD) (l := s.data.toList) (by rw [size_len]; exact h)
theorem extract_list (s : ByteArray) (a b : Nat) : (s.extract a b).data.toList = (s.data.toList.drop a).take (b - a) := by
  rw [ByteArray.data_extract]; simp [List.extract_eq_take_drop]
/-- The units: how many thousandths; 0 for no unit. -/
def unitZ (T : List UInt8) : Int :=
  if T = ([109] : List UInt8) then 1 else if T = ([] : List UInt8) then 1000 else if T = ([107] : List UInt8) then 1000000 else if T = ([77] : List UInt8) then 1000000000 else if T = ([71] : List UInt8) then 1000000000000 else if T = ([75, 105] : List UInt8) then 1024000 else if T = ([77, 105] : List UInt8) then 1048576000 else if T = ([71, 105] : List UInt8) then 1073741824000 else 0
theorem unitZ_cases (T : List UInt8) : unitZ T = 0 ∨ unitZ T = 1 ∨ unitZ T = 1000 ∨ unitZ T = 1000000 ∨ unitZ T = 1000000000 ∨ unitZ T = 1000000000000 ∨ unitZ T = 1024000 ∨ unitZ T = 1048576000 ∨ unitZ T = 1073741824000 := by
  unfold unitZ
  repeat' split
  all_goals simp
theorem unitOf_f (a : ByteArray) : impl_unitOf.f a = some (unitZ a.toList) := by
  unfold impl_unitOf.f unitZ
  repeat' split
  all_goals rfl
def amtOf (v u : Int) : Int × Bool := if u = 0 then (0, false) else if v > 1000000000000000 / u then (0, false) else (v * u, true)
def headOk (s : ByteArray) : Bool := inB (lead s) 1 16 && !(decide ((lead s : Int) > 1) && bt s 0 == 48)
def parsed (s : ByteArray) : Int × Bool := if headOk s = true then amtOf (valI s (lead s)) (unitZ (s.data.toList.drop (lead s))) else (0, false)
theorem quo_w {u : Int} (h : u = 1 ∨ u = 1000 ∨ u = 1000000 ∨ u = 1000000000 ∨ u = 1000000000000 ∨ u = 1024000 ∨ u = 1048576000 ∨ u = 1073741824000) : wrap64 ((1000000000000000 : Int) / u) = 1000000000000000 / u := by
  rcases h with rfl | rfl | rfl | rfl | rfl | rfl | rfl | rfl <;> exact w64 (by omega) (by omega)
theorem amt_tail {v u : Int} (h0 : 0 ≤ v) (hu : u = 0 ∨ u = 1 ∨ u = 1000 ∨ u = 1000000 ∨ u = 1000000000 ∨ u = 1000000000000 ∨ u = 1024000 ∨ u = 1048576000 ∨ u = 1073741824000) :
    (if u = 0 then some ((0 : Int), false) else if v > wrap64 ((1000000000000000 : Int) / u) then some (0, false) else some (wrap64 (v * u), true)) = some (amtOf v u) := by
  unfold amtOf
  by_cases h : u = 0
  · rw [if_pos h, if_pos h]
  · have hu' := hu.resolve_left h
    rw [if_neg h, if_neg h, quo_w hu']
    by_cases c : v > 1000000000000000 / u
    · rw [if_pos c, if_pos c]
    · rw [if_neg c, if_neg c]
      have : wrap64 (v * u) = v * u := by
        rcases hu' with rfl | rfl | rfl | rfl | rfl | rfl | rfl | rfl <;> exact w64 (by omega) (by omega)
      rw [this]
/-! ### the reference -/
theorem toL (a : Array UInt8) : (⟨a⟩ : ByteArray).toList = a.toList := ByteArray.toList_eq _
theorem specUnits_ev (s : ByteArray) (m : Nat) (v : Int) (hm : m ≤ s.size) (hs : s.size ≤ 9223372036854775807) (h0 : 0 ≤ v) (us : List ByteArray) (zs : List Int)
    (hu : us = [(⟨#[109]⟩ : ByteArray), ⟨#[]⟩, ⟨#[107]⟩, ⟨#[77]⟩, ⟨#[71]⟩, ⟨#[75, 105]⟩, ⟨#[77, 105]⟩, ⟨#[71, 105]⟩]) (hz : zs = [1, 1000, 1000000, 1000000000, 1000000000000, 1024000, 1048576000, 1073741824000]) :
    Ev (fun k => spec_ParseAmount.l1 k s m v us zs 0) (amtOf v (unitZ (s.data.toList.drop m))) := by
  have hT : (s.extract m s.size).toList = s.data.toList.drop m := by
    rw [ByteArray.toList_eq, extract_list, List.take_of_length_le (by rw [List.length_drop, size_len]; omega)]
  have step : ∀ (i : Nat) (u : Int) (t : List UInt8) (r : Int × Bool), i < 8 → (rdOf ByteArray.empty us (i : Nat)).toList = t → rd zs (i : Nat) = u → u ≠ 0 → (u = 0 ∨ u = 1 ∨ u = 1000 ∨ u = 1000000 ∨ u = 1000000000 ∨ u = 1000000000000 ∨ u = 1024000 ∨ u = 1048576000 ∨ u = 1073741824000) →
      Ev (fun k => spec_ParseAmount.l1 k s m v us zs ((i + 1 : Nat) : Int)) r → Ev (fun k => spec_ParseAmount.l1 k s m v us zs (i : Nat)) (if s.data.toList.drop m = t then amtOf v u else r) := by
    intro i u t r hi ht hzz hu0 hux hr
    refine Ev.step (fun k => by rw [spec_ParseAmount.l1]) ?_
    have e8 : us.length = 8 := by rw [hu]; rfl
    have z8 : zs.length = 8 := by rw [hz]; rfl
    simp only [Int.toNat_natCast, hT, ht, hzz, wsucc hi (by omega : (8 : Nat) ≤ 9223372036854775807)]
    refine ev_if_pos (by omega) (ev_if_pos (by omega) (ev_if_pos (by omega) (ev_if_pos (by omega) ?_)))
    by_cases c : s.data.toList.drop m = t
    · rw [if_pos c]
      refine ev_if_pos c (ev_if_pos (by omega) (ev_if_neg hu0 (ev_now ?_)))
      have := amt_tail h0 hux
      rw [if_neg hu0] at this
      exact this
    · rw [if_neg c]; exact ev_if_neg c hr
  have fin : Ev (fun k => spec_ParseAmount.l1 k s m v us zs ((8 : Nat) : Int)) ((0 : Int), false) := Ev.step (fun k => by rw [spec_ParseAmount.l1]) (ev_if_neg (by rw [hu]; decide) (Ev.now _))
  have h7 := step 7 1073741824000 [71, 105] _ (by omega) (by rw [hu]; exact toL #[71, 105]) (by rw [hz]; rfl) (by omega) (by omega) fin
  have h6 := step 6 1048576000 [77, 105] _ (by omega) (by rw [hu]; exact toL #[77, 105]) (by rw [hz]; rfl) (by omega) (by omega) h7
  have h5 := step 5 1024000 [75, 105] _ (by omega) (by rw [hu]; exact toL #[75, 105]) (by rw [hz]; rfl) (by omega) (by omega) h6
  have h4 := step 4 1000000000000 [71] _ (by omega) (by rw [hu]; exact toL #[71]) (by rw [hz]; rfl) (by omega) (by omega) h5
  have h3 := step 3 1000000000 [77] _ (by omega) (by rw [hu]; exact toL #[77]) (by rw [hz]; rfl) (by omega) (by omega) h4
  have h2 := step 2 1000000 [107] _ (by omega) (by rw [hu]; exact toL #[107]) (by rw [hz]; rfl) (by omega) (by omega) h3
  have h1 := step 1 1000 [] _ (by omega) (by rw [hu]; exact toL #[]) (by rw [hz]; rfl) (by omega) (by omega) h2
  have h0' := step 0 1 [109] _ (by omega) (by rw [hu]; exact toL #[109]) (by rw [hz]; rfl) (by omega) (by omega) h1
  refine ev_rw h0' ?_
  have f : ∀ (c : Prop) [Decidable c] (u : Int) (x : Int × Bool) (y : Int), x = amtOf v y → (if c then amtOf v u else x) = amtOf v (if c then u else y) := by
    intro c _ u x y h; by_cases hc : c
    · rw [if_pos hc, if_pos hc]
    · rw [if_neg hc, if_neg hc, h]
  unfold unitZ
  exact f _ _ _ _ (f _ _ _ _ (f _ _ _ _ (f _ _ _ _ (f _ _ _ _ (f _ _ _ _ (f _ _ _ _ (f _ _ _ _ (by simp [amtOf]))))))))
theorem specParse_ev (s : ByteArray) (hs : s.size ≤ 9223372036854775807) : Ev (fun k => spec_ParseAmount.f k s) (parsed s) := by
  unfold spec_ParseAmount.f
  have hl := lead_le s
  have tail : ∀ m : Nat, m = min (lead s) 17 → Ev (fun k => spec_ParseAmount.j1 k s m (valI s m)) (parsed s) := by
    intro m hm
    have hb := valI_bound s m
    refine Ev.step (fun k => by rw [spec_ParseAmount.j1]) ?_
    simp only [Option.bind_some]
    have no : ∀ (us : List ByteArray) (zs : List Int) (b : Bool), b = true → headOk s = false → Ev (fun k => spec_ParseAmount.j2 k s m (valI s m) us zs b) (parsed s) := fun us zs b hb h => by
      unfold parsed
      rw [h, if_neg Bool.false_ne_true]
      exact Ev.step (fun k => by rw [spec_ParseAmount.j2]) (ev_if_pos hb (Ev.now _))
    have yes : ∀ (b : Bool), b = false → headOk s = true → Ev (fun k => spec_ParseAmount.j2 k s m (valI s m) [(⟨#[109]⟩ : ByteArray), ⟨#[]⟩, ⟨#[107]⟩, ⟨#[77]⟩, ⟨#[71]⟩, ⟨#[75, 105]⟩, ⟨#[77, 105]⟩, ⟨#[71, 105]⟩] [1, 1000, 1000000, 1000000000, 1000000000000, 1024000, 1048576000, 1073741824000] b) (parsed s) := fun b hb2 h => by
      have h16 : lead s ≤ 16 := by unfold headOk at h; rw [Bool.and_eq_true] at h; have := inB_true h.1; omega
      have hml : m = lead s := by omega
      unfold parsed
      rw [h, if_pos rfl, ← hml]
      exact Ev.step (fun k => by rw [spec_ParseAmount.j2]) (ev_if_neg (by rw [hb2]; exact Bool.false_ne_true) (specUnits_ev s m (valI s m) (by omega) hs hb.1 _ _ rfl rfl))
    by_cases c0 : (m : Int) = 0
    · exact ev_if_pos c0 (no _ _ _ rfl (by unfold headOk inB; rw [decide_eq_false (by omega)]; rfl))
    refine ev_if_neg c0 ?_
    by_cases c1 : (m : Int) > 16
    · exact ev_if_pos c1 (no _ _ _ rfl (by unfold headOk inB; rw [decide_eq_false (by omega)]; rfl))
    refine ev_if_neg c1 ?_
    have hml : m = lead s := by omega
    have hr : inB (lead s) 1 16 = true := by unfold inB; rw [decide_eq_true_iff]; omega
    by_cases c2 : (m : Int) > 1
    · refine ev_if_pos c2 (ev_if_pos (by omega) ?_)
      cases hz : (bt s 0 == 48) with
      | true => exact no _ _ _ rfl (by unfold headOk; rw [hr, hz, decide_eq_true (by omega)]; rfl)
      | false => exact yes _ rfl (by unfold headOk; rw [hr, hz]; simp)
    · exact ev_if_neg c2 (yes _ rfl (by unfold headOk; rw [hr, decide_eq_false (by omega)]; rfl))
  have loop : ∀ (d i : Nat), i + d = min (lead s) 17 → Ev (fun k => spec_ParseAmount.l0 k s i (valI s i)) (parsed s) := by
    intro d
    induction d with
    | zero =>
      intro i hi
      refine Ev.step (fun k => by rw [spec_ParseAmount.l0]) ?_
      by_cases c0 : (i : Int) < s.size
      · refine ev_if_pos c0 ?_
        by_cases c1 : (i : Int) < 17
        · refine ev_if_pos c1 (ev_if_pos (by omega) ?_)
          have hil : i = lead s := by omega
          have hst := lead_stop (s := s) (by omega)
          simp only [l1In_f, Option.bind_some]
          have hw : wrap64 (bt s i) = bt s i := w64 (by have := bt_lo s i; omega) (by have := bt_hi s i; omega)
          rw [hw]
          exact ev_if_neg (by rw [hil]; unfold digB at hst; rw [hst]; simp) (tail i (by omega))
        · exact ev_if_neg c1 (tail i (by omega))
      · exact ev_if_neg c0 (tail i (by omega))
    | succ d ih =>
      intro i hi
      have hb1 := valI_bound s i
      have hb2 := pow_le17 (i := i) (by omega)
      have hd := lead_dig (s := s) (i := i) (by omega)
      refine Ev.step (fun k => by rw [spec_ParseAmount.l0]) (ev_if_pos (by omega) (ev_if_pos (by omega) (ev_if_pos (by omega) ?_)))
      simp only [l1In_f, Option.bind_some]
      have hw : wrap64 (bt s i) = bt s i := w64 (by have := bt_lo s i; omega) (by have := bt_hi s i; omega)
      have hdd : 0 ≤ dig s i ∧ dig s i ≤ 9 := by
        have := inB_true (show inB (bt s i) 48 57 = true from hd)
        unfold dig; omega
      have he : wrap64 (wrap64 (valI s i * 10) + (bt s i - 48) % 256) = valI s (i + 1) := by
        rw [valI]
        show wrap64 (wrap64 (valI s i * 10) + dig s i) = _
        have hb3 : i ≤ 16 := by omega
        have hb4 : (10 ^ i : Nat) ≤ 10000000000000000 := Nat.pow_le_pow_right (n := 10) (by omega) hb3
        rw [w64 (x := valI s i * 10) (by omega) (by omega), w64 (by omega) (by omega)]
      rw [hw, he, wsucc (by omega : i < s.size) hs]
      exact ev_if_pos hd (ih (i + 1) (by omega))
  exact loop (min (lead s) 17) 0 (by omega)
/-! ### the program -/
theorem digits_ev (s : ByteArray) (most : Nat) (hm : most ≤ 16) (hs : s.size ≤ 9223372036854775807) (hd : ∀ i, i < s.size → digB s i = true) :
    Ev (fun k => impl_digits.f k s (most : Int)) (if (inB s.size 1 most && !(decide ((s.size : Int) > 1) && bt s 0 == 48)) = true then (valI s s.size, true) else (0, false)) := by
  unfold impl_digits.f
  generalize hq : (inB s.size 1 most && !(decide ((s.size : Int) > 1) && bt s 0 == 48)) = q
  have bad : ∀ b : Bool, b = true → q = false → Ev (fun k => impl_digits.j0 k s b) (if q = true then (valI s s.size, true) else (0, false)) := fun b hb h => by
    rw [h, if_neg Bool.false_ne_true]
    exact Ev.step (fun k => by rw [impl_digits.j0]) (ev_if_pos hb (Ev.now _))
  by_cases c0 : s.toList = []
  · have := toList_nil.1 c0
    exact ev_if_pos c0 (bad _ rfl (by rw [← hq]; unfold inB; rw [decide_eq_false (by omega)]; rfl))
  · have hne : s.size ≠ 0 := fun h => c0 (toList_nil.2 h)
    refine ev_if_neg c0 ?_
    by_cases c1 : (s.size : Int) > most
    · exact ev_if_pos c1 (bad _ rfl (by rw [← hq]; unfold inB; rw [decide_eq_false (by omega)]; rfl))
    · refine ev_if_neg c1 (ev_if_pos (by omega) ?_)
      have hr : inB s.size 1 most = true := by unfold inB; rw [decide_eq_true_iff]; omega
      have good : ∀ b : Bool, b = (decide ((s.size : Int) > 1) && bt s 0 == 48) → Ev (fun k => impl_digits.j0 k s b) (if q = true then (valI s s.size, true) else (0, false)) := by
        intro b hb
        cases b with
        | true => exact bad true rfl (by rw [← hq, ← hb]; simp)
        | false =>
          have hqt : q = true := by rw [← hq, ← hb, hr]; rfl
          rw [hqt, if_pos rfl]
          refine Ev.step (fun k => by rw [impl_digits.j0]) (ev_if_neg Bool.false_ne_true ?_)
          have loop : ∀ (d i : Nat), i + d = s.size → Ev (fun k => impl_digits.l0 k s (valI s i) s.size i) (valI s s.size, true) := by
            intro d
            induction d with
            | zero =>
              intro i hi
              obtain rfl : i = s.size := by omega
              exact Ev.step (fun k => by rw [impl_digits.l0]) (ev_if_neg (by omega) (Ev.now _))
            | succ d ih =>
              intro i hi
              have hb1 := valI_bound s i
              have hb2 := pow_le17 (i := i) (by omega)
              have hdb : 48 ≤ bt s i ∧ bt s i ≤ 57 := inB_true (show inB (bt s i) 48 57 = true from hd i (by omega))
              have hdd : 0 ≤ dig s i ∧ dig s i ≤ 9 := by unfold dig; omega
              have he : wrap64 (wrap64 (10 * valI s i) + (bt s i - 48) % 256) = valI s (i + 1) := by
                rw [valI]
                show wrap64 (wrap64 (10 * valI s i) + dig s i) = _
                have hb4 : (10 ^ i : Nat) ≤ 10000000000000000 := Nat.pow_le_pow_right (n := 10) (by omega) (by omega : i ≤ 16)
                rw [w64 (x := 10 * valI s i) (by omega) (by omega), w64 (by omega) (by omega)]; omega
              refine Ev.step (fun k => by rw [impl_digits.l0]) ?_
              rw [he, wsucc (by omega : i < s.size) hs]
              exact ev_if_pos (by omega) (ev_if_pos (by omega) (ev_if_pos (by omega) (ev_if_neg (by omega) (ev_if_neg (by omega) (ih (i + 1) (by omega))))))
          exact loop s.size 0 (by omega)
      by_cases c : bt s 0 = 48
      · exact ev_if_pos c (good _ (by simp [c]))
      · exact ev_if_neg c (good _ (by simp [c]))
theorem cut_isD (b : UInt8) : ([48, 49, 50, 51, 52, 53, 54, 55, 56, 57] : List UInt8).contains b = isD b := by
  rw [Bool.eq_iff_iff]
  unfold isD
  simp only [List.contains_eq_mem, List.mem_cons, List.not_mem_nil, or_false, decide_eq_true_eq, ← UInt8.toNat_inj]
  have h : ∀ n : Nat, n < 256 → (UInt8.ofNat n).toNat = n := fun n hn => by simp [UInt8.toNat_ofNat]; omega
  show (b.toNat = 48 ∨ b.toNat = 49 ∨ b.toNat = 50 ∨ b.toNat = 51 ∨ b.toNat = 52 ∨ b.toNat = 53 ∨ b.toNat = 54 ∨ b.toNat = 55 ∨ b.toNat = 56 ∨ b.toNat = 57) ↔ _
  omega
theorem trim_f (s : ByteArray) : strings_TrimLeft.f s (⟨#[48, 49, 50, 51, 52, 53, 54, 55, 56, 57]⟩ : ByteArray) = some ⟨(s.data.toList.drop (lead s)).toArray⟩ := by
  unfold strings_TrimLeft.f
  rw [if_pos (by decide)]
  congr 3
  have e : Lib.trimLeftS s.data.toList ([48, 49, 50, 51, 52, 53, 54, 55, 56, 57] : List UInt8) = s.data.toList.drop (lead s) := by
    unfold Lib.trimLeftS lead
    have : (fun x : UInt8 => ([48, 49, 50, 51, 52, 53, 54, 55, 56, 57] : List UInt8).contains x) = isD := funext cut_isD
    rw [this, dropWhile_drop]
  exact e
theorem implParse_ev (s : ByteArray) (hs : s.size ≤ 9223372036854775807) : Ev (fun k => impl_ParseAmount.f k s) (parsed s) := by
  unfold impl_ParseAmount.f
  have hl := lead_le s
  refine Ev.bind (ev_now (trim_f s)) ?_
  have hT : (⟨(s.data.toList.drop (lead s)).toArray⟩ : ByteArray).size = s.size - lead s := by
    show (s.data.toList.drop (lead s)).toArray.size = _
    rw [List.size_toArray, List.length_drop, size_len]
  have hw : wrap64 ((s.size : Int) - ((s.size - lead s : Nat) : Int)) = (lead s : Int) := by rw [w64 (by omega) (by omega)]; omega
  rw [hT, hw]
  refine ev_if_pos (by omega) (ev_if_pos (by omega) ?_)
  simp only [Int.toNat_natCast]
  have hds : (s.extract 0 (lead s)).size = lead s := by rw [← size_len, extract_list]; simp [size_len]; omega
  have hbt : ∀ i, i < lead s → bt (s.extract 0 (lead s)) i = bt s i := by
    intro i hi
    rw [bt_list (by omega), bt_list (by omega)]
    congr 2
    have := extract_list s 0 (lead s)
    simp only [this]
    simp
  have hval : ∀ i, i ≤ lead s → valI (s.extract 0 (lead s)) i = valI s i := by
    intro i
    induction i with
    | zero => intro _; rfl
    | succ i ih => intro hi; rw [valI, valI, ih (by omega)]; unfold dig; rw [hbt i (by omega)]
  have hdg := digits_ev (s.extract 0 (lead s)) 16 (by omega) (by omega) (fun i hi => by
    have := lead_dig (s := s) (i := i) (by omega)
    unfold digB at this ⊢
    rw [hbt i (by omega)]; exact this)
  rw [hds, hval (lead s) (by omega)] at hdg
  refine Ev.bind hdg ?_
  rw [unitOf_f, Option.bind_some]
  have hTl : (⟨(s.data.toList.drop (lead s)).toArray⟩ : ByteArray).toList = s.data.toList.drop (lead s) := by rw [ByteArray.toList_eq]
  rw [hTl]
  have hq : (inB (lead s) 1 16 && !(decide ((lead s : Int) > 1) && bt (s.extract 0 (lead s)) 0 == 48)) = headOk s := by
    unfold headOk
    by_cases h0 : 0 < lead s
    · have := hbt 0 h0
      simp only [Int.natCast_zero] at this
      rw [show bt (s.extract 0 (lead s)) 0 = bt s 0 from this]
    · have : inB (lead s) 1 16 = false := by unfold inB; rw [decide_eq_false (by omega)]
      rw [this, Bool.false_and, Bool.false_and]
  have hq2 : ((inB (lead s) 1 ((16 : Nat) : Int)) && !(decide ((lead s : Int) > 1) && bt (s.extract 0 (lead s)) 0 == 48)) = headOk s := hq
  rw [hq2]
  unfold parsed
  have hv := (valI_bound s (lead s)).1
  cases hh : headOk s with
  | false => exact ev_if_neg (by simp) (Ev.now _)
  | true => exact ev_if_pos rfl (ev_now (amt_tail hv (unitZ_cases _)))
end Go.Proofs.YtchhognpijobcaaDoor.G

/- G3 -/
-- Laid by wip/g/gprint.py out of the translation, by the kit's print program. Lean checks it.
namespace Go.Proofs.YtchhognpijobcaaDoor.G
open Go.RowKit Go.Proofs.YtchhognpijobcaaDoorW.PrintWords Go.Proofs.YtchhognpijobcaaDoorW.PrintLast Go.Proofs.YtchhognpijobcaaDoorW.PrintMore
attribute [local go_sem] max2_int min2_int max_two min_two max_three min_three max_four min_four   -- for this text's walks alone
set_option linter.unusedVariables false
set_option linter.unusedSimpArgs false

/-! ### laws_FnExactParseAmount: function 3 -/
def laws_FnExactParseAmount.f (k : Nat) (a0 : ByteArray) : Option (Bool) := if (a0.size : Int) > 1048576 then (some true) else ((spec_ParseAmount.f k a0).bind fun bt115 => ((impl_ParseAmount.f k a0).bind fun bt117 => (if bt117.1 = bt115.1 then (if (bt117.2 != bt115.2) = true then (some false) else (some true)) else (some false))))
set_option maxHeartbeats 8000000 in
set_option maxRecDepth 100000 in
theorem laws_FnExactParseAmount.calls (k : Nat) (a0 : ByteArray) (r : Bool) (w : World) (h : laws_FnExactParseAmount.f k a0 = some r) :
    Calls Tryd.prog 3 #[.string a0] w fun e w' => e = .returned (.bool r) ∧ Below w.heap.size w w' := by
  have HB := Aside0.mk (Below.refl w.heap.size w)
  have H : (if (a0.size : Int) > 1048576 then (some true) else ((spec_ParseAmount.f k a0).bind fun bt115 => ((impl_ParseAmount.f k a0).bind fun bt117 => (if bt117.1 = bt115.1 then (if (bt117.2 != bt115.2) = true then (some false) else (some true)) else (some false))))) = some r := h
  clear h
  by_cases c2 : (a0.size : Int) > 1048576
  · rw [if_pos c2] at H
    have c2b0 : decide (1048576 < (a0.size : Int)) = true := decide_eq_true c2
    have c2b1 : decide (1048576 < a0.size) = true := decide_eq_true (by omega)
    clear c2
    obtain rfl := Option.some.inj H
    go_enter Tryd.func3, Tryd.ntmps3
    go_wp2
    go_ret
    exact ⟨by first | rfl | (simp [errW_none, errW_some] <;> rfl) | (simp [*, errW_none, errW_some] <;> rfl), by repeat (first | (with_reducible first | exact HB.out | apply below_alloc | apply pw_below_drewN | apply below_drew1) | exact HB.out)⟩
  · rw [if_neg c2] at H
    have c2b0 : decide (1048576 < (a0.size : Int)) = false := decide_eq_false c2
    have c2b1 : decide (1048576 < a0.size) = false := decide_eq_false (by omega)
    clear c2
    replace H := Option.bind_eq_some_iff.mp H
    obtain ⟨⟨t115, t116⟩, A30, H⟩ := H
    replace H : ((impl_ParseAmount.f k a0).bind fun bt117 => (if bt117.1 = t115 then (if (bt117.2 != t116) = true then (some false) else (some true)) else (some false))) = some r := H
    have A3 := Aside0.mk A30
    clear A30
    replace H := Option.bind_eq_some_iff.mp H
    obtain ⟨⟨t117, t118⟩, A40, H⟩ := H
    replace H : (if t117 = t115 then (if (t118 != t116) = true then (some false) else (some true)) else (some false)) = some r := H
    have A4 := Aside0.mk A40
    clear A40
    by_cases c5 : t117 = t115
    · rw [if_pos c5] at H
      have c5b0 : (t117 == t115) = true := beq_iff_eq.mpr c5
      have c5b1 : (t117 != t115) = false := bne_eq_false_iff_eq.mpr c5
      clear c5
      by_cases c6 : (t118 != t116) = true
      · rw [if_pos c6] at H
        have c6b0 : (t118 != t116) = true := c6
        (try (have c6b1 : decide (t118 = t116) = false := by simpa using c6))
        (try (have c6b2 : (t118 == t116) = false := by simpa using c6))
        (try (have c6b3 : ¬ (t118 = t116) := by simpa using c6))
        clear c6
        obtain rfl := Option.some.inj H
        go_enter Tryd.func3, Tryd.ntmps3
        go_wp2_with (first | ((with_reducible refine gate_callee (f := 6) rfl ?_); refine goesL_ (some 12) rfl rfl Tryd.func6 (by kernel_rfl) rfl #[.string a0] rfl (by (try simp only [List.map_toArray, List.map_cons, List.map_nil]); first | done | rfl | (simp only [List.length_drop, List.length_take]; rfl)) ?_; (with_reducible refine (spec_ParseAmount.calls k a0 t115 t116 _ A3.out).mono ?_); rintro e w7 ⟨rfl, hb⟩; refine ⟨_, rfl, ?_⟩; have n0_ := Aside0.mk (below_step (by repeat (first | (with_reducible first | exact HB.out | apply below_alloc | apply pw_below_drewN | apply below_drew1) | exact HB.out)) hb); clear HB; have HB := n0_; clear n0_; (try clear hb); (try clear hb2); (try clear hk); (try clear hi)) | ((with_reducible refine gate_callee (f := 7) rfl ?_); refine goesL_ (some 17) rfl rfl Tryd.func7 (by kernel_rfl) rfl #[.string a0] rfl (by (try simp only [List.map_toArray, List.map_cons, List.map_nil]); first | done | rfl | (simp only [List.length_drop, List.length_take]; rfl)) ?_; (with_reducible refine (impl_ParseAmount.calls k a0 t117 t118 _ A4.out).mono ?_); rintro e w8 ⟨rfl, hb⟩; refine ⟨_, rfl, ?_⟩; have n0_ := Aside0.mk (below_step (by repeat (first | (with_reducible first | exact HB.out | apply below_alloc | apply pw_below_drewN | apply below_drew1) | exact HB.out)) hb); clear HB; have HB := n0_; clear n0_; (try clear hb); (try clear hb2); (try clear hk); (try clear hi)))
        go_ret
        exact ⟨by first | rfl | (simp [errW_none, errW_some] <;> rfl) | (simp [*, errW_none, errW_some] <;> rfl), by repeat (first | (with_reducible first | exact HB.out | apply below_alloc | apply pw_below_drewN | apply below_drew1) | exact HB.out)⟩
      · rw [if_neg c6] at H
        have c6b0 : (t118 != t116) = false := by simpa using c6
        (try (have c6b1 : decide (t118 = t116) = true := by simpa using c6))
        (try (have c6b2 : (t118 == t116) = true := by simpa using c6))
        clear c6
        obtain rfl := Option.some.inj H
        go_enter Tryd.func3, Tryd.ntmps3
        go_wp2_with (first | ((with_reducible refine gate_callee (f := 6) rfl ?_); refine goesL_ (some 12) rfl rfl Tryd.func6 (by kernel_rfl) rfl #[.string a0] rfl (by (try simp only [List.map_toArray, List.map_cons, List.map_nil]); first | done | rfl | (simp only [List.length_drop, List.length_take]; rfl)) ?_; (with_reducible refine (spec_ParseAmount.calls k a0 t115 t116 _ A3.out).mono ?_); rintro e w9 ⟨rfl, hb⟩; refine ⟨_, rfl, ?_⟩; have n0_ := Aside0.mk (below_step (by repeat (first | (with_reducible first | exact HB.out | apply below_alloc | apply pw_below_drewN | apply below_drew1) | exact HB.out)) hb); clear HB; have HB := n0_; clear n0_; (try clear hb); (try clear hb2); (try clear hk); (try clear hi)) | ((with_reducible refine gate_callee (f := 7) rfl ?_); refine goesL_ (some 17) rfl rfl Tryd.func7 (by kernel_rfl) rfl #[.string a0] rfl (by (try simp only [List.map_toArray, List.map_cons, List.map_nil]); first | done | rfl | (simp only [List.length_drop, List.length_take]; rfl)) ?_; (with_reducible refine (impl_ParseAmount.calls k a0 t117 t118 _ A4.out).mono ?_); rintro e w10 ⟨rfl, hb⟩; refine ⟨_, rfl, ?_⟩; have n0_ := Aside0.mk (below_step (by repeat (first | (with_reducible first | exact HB.out | apply below_alloc | apply pw_below_drewN | apply below_drew1) | exact HB.out)) hb); clear HB; have HB := n0_; clear n0_; (try clear hb); (try clear hb2); (try clear hk); (try clear hi)))
        go_ret
        exact ⟨by first | rfl | (simp [errW_none, errW_some] <;> rfl) | (simp [*, errW_none, errW_some] <;> rfl), by repeat (first | (with_reducible first | exact HB.out | apply below_alloc | apply pw_below_drewN | apply below_drew1) | exact HB.out)⟩
    · rw [if_neg c5] at H
      have c5b0 : (t117 == t115) = false := beq_eq_false_iff_ne.mpr c5
      have c5b1 : (t117 != t115) = true := bne_iff_ne.mpr c5
      obtain rfl := Option.some.inj H
      go_enter Tryd.func3, Tryd.ntmps3
      go_wp2_with (first | ((with_reducible refine gate_callee (f := 6) rfl ?_); refine goesL_ (some 12) rfl rfl Tryd.func6 (by kernel_rfl) rfl #[.string a0] rfl (by (try simp only [List.map_toArray, List.map_cons, List.map_nil]); first | done | rfl | (simp only [List.length_drop, List.length_take]; rfl)) ?_; (with_reducible refine (spec_ParseAmount.calls k a0 t115 t116 _ A3.out).mono ?_); rintro e w11 ⟨rfl, hb⟩; refine ⟨_, rfl, ?_⟩; have n0_ := Aside0.mk (below_step (by repeat (first | (with_reducible first | exact HB.out | apply below_alloc | apply pw_below_drewN | apply below_drew1) | exact HB.out)) hb); clear HB; have HB := n0_; clear n0_; (try clear hb); (try clear hb2); (try clear hk); (try clear hi)) | ((with_reducible refine gate_callee (f := 7) rfl ?_); refine goesL_ (some 17) rfl rfl Tryd.func7 (by kernel_rfl) rfl #[.string a0] rfl (by (try simp only [List.map_toArray, List.map_cons, List.map_nil]); first | done | rfl | (simp only [List.length_drop, List.length_take]; rfl)) ?_; (with_reducible refine (impl_ParseAmount.calls k a0 t117 t118 _ A4.out).mono ?_); rintro e w12 ⟨rfl, hb⟩; refine ⟨_, rfl, ?_⟩; have n0_ := Aside0.mk (below_step (by repeat (first | (with_reducible first | exact HB.out | apply below_alloc | apply pw_below_drewN | apply below_drew1) | exact HB.out)) hb); clear HB; have HB := n0_; clear n0_; (try clear hb); (try clear hb2); (try clear hk); (try clear hi)))
      go_ret
      exact ⟨by first | rfl | (simp [errW_none, errW_some] <;> rfl) | (simp [*, errW_none, errW_some] <;> rfl), by repeat (first | (with_reducible first | exact HB.out | apply below_alloc | apply pw_below_drewN | apply below_drew1) | exact HB.out)⟩

end Go.Proofs.YtchhognpijobcaaDoor.G

/- PParseLaw -/
/-
  The law of ParseAmount: it is answered true.
-/
namespace Go.Proofs.YtchhognpijobcaaDoor.G
open Go.RowKit Go.Proofs.YtchhognpijobcaaDoorW.PrintWords Go.Proofs.YtchhognpijobcaaDoorW.PrintLast Go.Proofs.YtchhognpijobcaaDoorW.PrintMore
set_option linter.unusedVariables false
set_option linter.unusedSimpArgs false
theorem FnExactParseAmount_pure (a0 : ByteArray) (h : a0.size ≤ 9223372036854775807) : ∃ k, laws_FnExactParseAmount.f k a0 = some true := by
  refine Ev.rounds ?_
  unfold laws_FnExactParseAmount.f
  by_cases c : (a0.size : Int) > 1048576
  · exact ev_if_pos c (Ev.now _)
  exact ev_if_neg c (Ev.bind (specParse_ev a0 h) (Ev.bind (implParse_ev a0 h) (ev_if_pos rfl (ev_if_neg (by simp) (Ev.now _)))))
end Go.Proofs.YtchhognpijobcaaDoor.G

/- GKOpen -/
/-
  An argument that can be read as data (the form's own reading) is of a kind 'Kd'; and what is known of it besides ('Wf').
-/
namespace Go.Proofs.YtchhognpijobcaaDoor.G
open Go.RowKit Go.Proofs.YtchhognpijobcaaDoorW.PrintWords Go.Proofs.YtchhognpijobcaaDoorW.PrintLast Go.Proofs.YtchhognpijobcaaDoorW.PrintMore
set_option linter.unusedVariables false
section
variable {H : Type} {enc : TypeId × Value → H} {P : Program} {w : World} {base : Nat} {spare : Nat → Bool} {held : Bool}
end
end Go.Proofs.YtchhognpijobcaaDoor.G

/- GKArgs -/
/-
  The arguments of the laws, opened: at this dump's type numbers.
-/
namespace Go.Proofs.YtchhognpijobcaaDoor.G
open Go.RowKit Go.Proofs.YtchhognpijobcaaDoorW.PrintWords Go.Proofs.YtchhognpijobcaaDoorW.PrintLast Go.Proofs.YtchhognpijobcaaDoorW.PrintMore
set_option linter.unusedVariables false
section
variable {H : Type} {enc : TypeId × Value → H} {w : World} {base : Nat} {spare : Nat → Bool} {held : Bool} {v : Value} {d : DataW H} {p : List MemPlace} {r : Reach} {b0 : Nat}
end
end Go.Proofs.YtchhognpijobcaaDoor.G

/- RowFnExactParseAmountCard -/
/- The law 'FnExactParseAmount' holds for every input: it returns true, and each argument reads behind the call as it read before. No condition. -/
namespace Go.Proofs.YtchhognpijobcaaDoor.fnExactParseAmount
open Go.ChangeShapes Go.WideShapes Go.ChangeAt Go.RowKit
set_option linter.unusedVariables false
theorem own : ownKnob Tryd.prog.godebug = none := by kernel_rfl
theorem laidOut : laidOutB Tryd.prog = true := by kernel_rfl
set_option maxRecDepth 100000 in
theorem lifted (os : Os) (started : os.Started) (H : Type) (enc : TypeId × Value → H) :
    ReturnsInHanded {} Tryd.checked os 3 .any (fun w args => (Rows.fnExactParseAmountSpec.pre enc Tryd.prog Tryd.f3 Rows.fnExactParseAmountRow.domain false w args ∧ laidMetH Tryd.prog Rows.fnExactParseAmountRow.laid w) ∧ sizedMet enc Tryd.prog Tryd.f3 (OpenSpec.ofChange Rows.fnExactParseAmountSpec) false w args) (Rows.fnExactParseAmountSpec.post enc Tryd.prog Tryd.f3 false true false false) := by
  refine returnsInHanded_of_change_and (C := Tryd.checked) (X := fun w _ => laidMetH Tryd.prog Rows.fnExactParseAmountRow.laid w) (fun _ _ _ hh h => h.of_heap hh) own started (by kernel_rfl) Tryd.func3
    (ChangeSpec.witness_shaped (enc := enc) (C := Tryd.checked) (os := os) (X := fun w _ => laidMetH Tryd.prog Rows.fnExactParseAmountRow.laid w) false (World.laidAll Tryd.prog os Rows.fnExactParseAmountRow.laid) #[.string ByteArray.empty] 8 (World.laidAll_os _ _ _)
      (World.shaped_of_ZipB (by kernel_rfl) (by kernel_rfl)) (by kernel_rfl) (by kernel_rfl) (by kernel_rfl)
      (by rw [MakeChecks.laidMetH_plain _ _ _ (by kernel_rfl)]; exact laidMet_laidAll _ (by kernel_rfl) (by kernel_rfl))) ?_
  intro W base args ds gs before hval0 hW hcnd hshape hL _
  have hval : ∀ (j : Nat) t v, Tryd.f3.params[j]? = some t → args[j]? = some v → Value.okWide Tryd.prog W .any base t v := hval0
  have hW' := hW
  obtain ⟨p, q, hA0, hV, rfl, hfz, hnd⟩ := hW
  have hA : DataW.TrodAll enc Tryd.prog W 0 (fun _ => true) true Tryd.f3.params.toList args.toList ds p := hA0
  rw [Tryd.params3] at hA hval
  obtain ⟨v0, vs0, d0, ds0, p0, q0, hargs0, rfl, rfl, h0, r0x⟩ := trodAll_cons hA
  obtain ⟨rfl, rfl, rfl⟩ := trodAll_nil r0x
  obtain rfl : args = #[v0] := by cases args; simp_all
  obtain ⟨rfl, rfl⟩ := trodVars_none hV
  have hlt := hW'.lt
  have hk0 := h0
  obtain ⟨s0, rfl, _, _, y0⟩ := Go.ChangeMaps.open_string Tryd.underlying9 (hval 0 9 v0 rfl rfl) h0
  clear hA0 hval0
  obtain ⟨k, hk⟩ := G.FnExactParseAmount_pure s0 (by unfold maxLen at y0; exact y0)
  refine (G.laws_FnExactParseAmount.calls k s0 true W  hk).mono fun e W' ⟨he, bel⟩ => ?_
  subst he
  exact ⟨_, rfl, _, _, _, [], _, [], hW', trodAll_mk1 (shut_bool Tryd.underlying4 _), (trodAll_cons_mk (Below.trod laidOut (by kernel_rfl) (of_decide_eq_true (by kernel_rfl)) hk0 bel (fun x hx => hlt x (by simp [hx]))) trodAll_mk0), rfl, bel.frame _, fun h => by cases h⟩
theorem over : Rows.fnExactParseAmountRow.holds Tryd.pinned (OpenSpec.ofChange Rows.fnExactParseAmountSpec) :=
  OpenClaim.holds_of_wide 3 Tryd.f3 rfl rfl rfl rfl rfl rfl rfl ⟨rfl, rfl, rfl, rfl, rfl⟩ rfl rfl rfl rfl rfl (by kernel_rfl) Tryd.func3 (by kernel_rfl)
    (of_decide_eq_true (by kernel_rfl)) (by unfold Func.isWrapper; first | (rw [if_pos (by decide +kernel)]; kernel_rfl) | (rw [if_neg (by decide +kernel)]; exact ⟨rfl, rfl⟩))
    (fun os started H enc _ => lifted os started H enc)
theorem proved : Rows.FnExactParseAmountSaid := over
#print axioms proved
end Go.Proofs.YtchhognpijobcaaDoor.fnExactParseAmount
namespace Go.Proofs.YtchhognpijobcaaDoor
theorem fnExactParseAmountCard_holds : Rows.FnExactParseAmountCardSaid :=
  Claim7.holds_tied_plain_at .later [] [.data, .pinned] true (true, "54c651b9c64be20fa246e25f28148a4c2f311f3159a23607e0a709c027eda79d") false fnExactParseAmount.proved (fun _ h => by cases h) (by kernel_rfl) (fun _ h => by cases h) fnExactParseAmount_row_tie rfl ⟨rfl, rfl⟩ (by kernel_rfl) rfl
    (fun f fn hf hfn => by
      obtain rfl : f = 3 := Option.some.inj ((show Tryd.prog.funcNamed "loop.example/g00119/laws.FnExactParseAmount" = some 3 by kernel_rfl).symm.trans hf) |>.symm
      obtain rfl : fn = Tryd.f3 := (Option.some.inj (Tryd.func3.symm.trans hfn)).symm
      exact ⟨by kernel_rfl, fun j t ht => by
        rw [Tryd.params3] at ht
        have hm : t ∈ [9] := by simpa using Array.mem_of_getElem? ht
        have hall : ([9].all fun u => !Tryd.prog.wantsStandIn u) = true := by kernel_rfl
        exact (show Tryd.prog.wantsStandIn t = false by simpa using List.all_eq_true.1 hall t hm)⟩)
    (by kernel_rfl)
end Go.Proofs.YtchhognpijobcaaDoor
