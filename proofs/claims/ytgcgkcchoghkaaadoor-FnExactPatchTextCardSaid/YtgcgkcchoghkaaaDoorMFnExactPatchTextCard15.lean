import Derived.Test.YtgcgkcchoghkaaaDoorMFnExactPatchTextCard1
import Derived.Test.YtgcgkcchoghkaaaDoorMFnExactPatchTextCard14
import Derived.Test.YtgcgkcchoghkaaaDoorMFnExactPatchTextCard2
import Derived.Test.YtgcgkcchoghkaaaDoorMFnExactPatchTextCard11
/- G7 -/
-- Laid by wip/g/gprint.py out of the translation, by the kit's print program. Lean checks it.
namespace Go.Proofs.YtgcgkcchoghkaaaDoor.G
open Go.RowKit Go.Proofs.YtgcgkcchoghkaaaDoorW.PrintWords Go.Proofs.YtgcgkcchoghkaaaDoorW.PrintLast Go.Proofs.YtgcgkcchoghkaaaDoorW.PrintMore
attribute [local go_sem] max2_int min2_int max_two min_two max_three min_three max_four min_four   -- for this text's walks alone
set_option linter.unusedVariables false
set_option linter.unusedSimpArgs false

--IMPORT Derived.Test.YtgcgkcchoghkaaaDoorGKShape
/-! ### impl_PatchText: function 7 -/
def impl_PatchText.l0 : Nat → ByteArray → List (S41) → Int → Int → Option (ByteArray)
 | 0, _, _, _, _ => none
 | k + 1, x3, x9, x10, x11 => if x11 < x10 then (if 0 ≤ x11 then (if x11 < (x9.length : Int) then ((some (([(⟨#[115, 101, 116, 32]⟩ : ByteArray), (⟨#[100, 114, 111, 112, 32]⟩ : ByteArray), (⟨#[110, 101, 101, 100, 32]⟩ : ByteArray)] : List ByteArray) : List ByteArray)).bind fun y316 => (if 0 ≤ (wrap64 (((rd_T41 x9 x11).f0) - 1)) then (if (wrap64 (((rd_T41 x9 x11).f0) - 1)) < (y316.length : Int) then ((strings_Join.f ((rd_T41 x9 x11).f1) (⟨#[47]⟩ : ByteArray)).bind fun t320 => (if (rdOf ByteArray.empty y316 (wrap64 (((rd_T41 x9 x11).f0) - 1))).size + t320.size ≤ 9223372036854775807 then (if x3.size + ((rdOf ByteArray.empty y316 (wrap64 (((rd_T41 x9 x11).f0) - 1))) ++ t320).size ≤ 9223372036854775807 then (if ((rd_T41 x9 x11).f0) = 2 then (if (x3 ++ ((rdOf ByteArray.empty y316 (wrap64 (((rd_T41 x9 x11).f0) - 1))) ++ t320)).size + 1 ≤ 9223372036854775807 then (impl_PatchText.l0 k ((x3 ++ ((rdOf ByteArray.empty y316 (wrap64 (((rd_T41 x9 x11).f0) - 1))) ++ t320)) ++ (⟨#[10]⟩ : ByteArray)) x9 x10 (wrap64 (x11 + 1))) else (none)) else ((impl_ValueText.f k ((rd_T41 x9 x11).f2.f0) ((rd_T41 x9 x11).f2.f1) ((rd_T41 x9 x11).f2.f2) ((rd_T41 x9 x11).f2.f3) ((rd_T41 x9 x11).f2.f4)).bind fun t321 => (if 1 + t321.size ≤ 9223372036854775807 then (if (x3 ++ ((rdOf ByteArray.empty y316 (wrap64 (((rd_T41 x9 x11).f0) - 1))) ++ t320)).size + ((⟨#[32]⟩ : ByteArray) ++ t321).size ≤ 9223372036854775807 then (if ((x3 ++ ((rdOf ByteArray.empty y316 (wrap64 (((rd_T41 x9 x11).f0) - 1))) ++ t320)) ++ ((⟨#[32]⟩ : ByteArray) ++ t321)).size + 1 ≤ 9223372036854775807 then (impl_PatchText.l0 k (((x3 ++ ((rdOf ByteArray.empty y316 (wrap64 (((rd_T41 x9 x11).f0) - 1))) ++ t320)) ++ ((⟨#[32]⟩ : ByteArray) ++ t321)) ++ (⟨#[10]⟩ : ByteArray)) x9 x10 (wrap64 (x11 + 1))) else (none)) else (none)) else (none)))) else (none)) else (none))) else (none)) else (none))) else (none)) else (none)) else (some x3)
def impl_PatchText.f (k : Nat) (l0 : List (S41)) : Option (ByteArray) := (impl_PatchOk.f k l0).bind fun t313 => (if t313 = true then (impl_PatchText.l0 k (⟨#[]⟩ : ByteArray) l0 (l0.length : Int) 0) else (some (⟨#[]⟩ : ByteArray)))
def impl_PatchText.T7 : Bool × List (List Nat × List Nat) := (true, [([], []), ([], []), ([], []), ([2], [2]), ([3], [3]), ([1, 4], [1, 4]), ([5], [5]), ([], []), ([7], [7]), ([8], [8]), ([6, 9], [6, 9]), ([0, 10], [0, 10]), ([11, 9, 0, 1, 2, 3, 4, 5, 6, 7, 8, 9, 10, 11], [0, 11])])
def impl_PatchText.B7 : List Nat := [0, 0, 0, 4, 12, 30, 62, 0, 128, 384, 1022, 2047, 4095]
theorem impl_PatchText.tab7 : rtab .any (opsOf Tryd.f7 7) = impl_PatchText.T7 := by kernel_rfl
theorem impl_PatchText.bits7 : waitsOk impl_PatchText.T7.2 impl_PatchText.B7 = true := by kernel_rfl
set_option maxHeartbeats 8000000 in
set_option maxRecDepth 100000 in
theorem impl_PatchText.calls (k : Nat) (A0 : Option Addr) (c0 : Nat) (l0 : List (S41)) (r : ByteArray) (w : World) (hr0 : Kd.C k41 w A0 l0.length l0) (hc0 : l0.length ≤ c0) (hsh_ : SH w) (h : impl_PatchText.f k l0 = some r) :
  Calls Tryd.prog 7 #[.slice A0 l0.length c0] w fun e w' => e = .returned (.string r) ∧ Below w.heap.size w w' := by
 have hu41 := Tryd.underlying41
 have hu39 := Tryd.underlying39
 have HR0 := Aside0.mk hr0
 have HC0 := Aside0.mk hc0
 clear hr0 hc0
 have HB := Aside0.mk (Below.refl w.heap.size w)
 unfold impl_PatchText.f at h; have H := h
 clear h
 replace H := Option.bind_eq_some_iff.mp H
 obtain ⟨t313, A20, H⟩ := H
 try dsimp only at H
 have A2 := Aside0.mk A20
 clear A20
 by_cases c3 : t313 = true
 ·subst c3
  have H1 : (impl_PatchText.l0 k (⟨#[]⟩ : ByteArray) l0 (l0.length : Int) 0) = some r := by rw [if_pos rfl] at H; exact H
  clear H
  have H := H1
  clear H1
  have H' := Aside0.mk H
  clear H
  go_enter Tryd.func7, Tryd.ntmps7
  go_wp2_with (first | ((with_reducible refine gate_callee (f := 13) rfl ?_); refine goesL_ (some 7) rfl rfl Tryd.func13 (by kernel_rfl) rfl #[.slice A0 l0.length c0] rfl (by (try simp only [List.map_toArray, List.map_cons, List.map_nil]); first | done | rfl | (simp only [List.length_drop, List.length_take]; rfl)) ?_; (with_reducible refine (impl_PatchOk.calls k _ _ l0 true _ (qC0 HR0) HC0.out A2.out).mono ?_); rintro e w4 ⟨rfl, hb⟩; refine ⟨_, rfl, ?_⟩; have n0_ := Aside0.mk (below_step (qB HB) hb); clear HB; have HB := n0_; clear n0_; (try clear hb); (try clear hb2); (try clear hk); (try clear hi)))
  go_loopg [3, 11] k (fun kq v3 v11 w' => ∃ (x3_1 : ByteArray) (x11_1 : Int), v3 = .string x3_1 ∧ v11 = .int .i64 x11_1 ∧ Aside0 (impl_PatchText.l0 kq x3_1 l0 (l0.length : Int) x11_1 = some r) ∧ Aside0 (kq ≤ k) ∧ Aside0 (Below w.heap.size w w'))
  case atStart => exact ⟨((⟨#[]⟩ : ByteArray)), (0), (by first | rfl | (simp; done) | (simp [*]; done)), (by first | rfl | (simp; done) | (simp [*]; done)), H', ⟨Nat.le_refl _⟩, ⟨qB HB⟩⟩
  case round =>
   clear H'
   try clear c1
   try clear p2
   try clear c3
   obtain ⟨x3_1, x11_1, rfl, rfl, HA, HK1, HB⟩ := hrel
   cases gk with
   | zero => exact absurd HA.out (by simp [impl_PatchText.l0])
   | succ k1 =>
    have H := HA.out
    clear HA
    simp only [impl_PatchText.l0] at H
    by_cases c5 : x11_1 < (l0.length : Int)
    ·rw [if_pos c5] at H
     have c5b0 : decide (x11_1 < (l0.length : Int)) = true := decide_eq_true c5
     clear c5
     by_cases c6 : 0 ≤ x11_1
     ·rw [if_pos c6] at H
      have c6b0 : decide (0 ≤ x11_1) = true := decide_eq_true c6
      clear c6
      by_cases c7 : x11_1 < (l0.length : Int)
      ·rw [if_pos c7] at H
       have c7b0 : decide (x11_1 < (l0.length : Int)) = true := decide_eq_true c7
       clear c7
       obtain ⟨y316, hy316⟩ : ∃ y_ : List ByteArray, y_ = (([(⟨#[115, 101, 116, 32]⟩ : ByteArray), (⟨#[100, 114, 111, 112, 32]⟩ : ByteArray), (⟨#[110, 101, 101, 100, 32]⟩ : ByteArray)] : List ByteArray)) := ⟨_, rfl⟩
       replace H : (if 0 ≤ (wrap64 (((rd_T41 l0 x11_1).f0) - 1)) then (if (wrap64 (((rd_T41 l0 x11_1).f0) - 1)) < (y316.length : Int) then ((strings_Join.f ((rd_T41 l0 x11_1).f1) (⟨#[47]⟩ : ByteArray)).bind fun t320 => (if (rdOf ByteArray.empty y316 (wrap64 (((rd_T41 l0 x11_1).f0) - 1))).size + t320.size ≤ 9223372036854775807 then (if x3_1.size + ((rdOf ByteArray.empty y316 (wrap64 (((rd_T41 l0 x11_1).f0) - 1))) ++ t320).size ≤ 9223372036854775807 then (if ((rd_T41 l0 x11_1).f0) = 2 then (if (x3_1 ++ ((rdOf ByteArray.empty y316 (wrap64 (((rd_T41 l0 x11_1).f0) - 1))) ++ t320)).size + 1 ≤ 9223372036854775807 then (impl_PatchText.l0 k1 ((x3_1 ++ ((rdOf ByteArray.empty y316 (wrap64 (((rd_T41 l0 x11_1).f0) - 1))) ++ t320)) ++ (⟨#[10]⟩ : ByteArray)) l0 (l0.length : Int) (wrap64 (x11_1 + 1))) else (none)) else ((impl_ValueText.f k1 ((rd_T41 l0 x11_1).f2.f0) ((rd_T41 l0 x11_1).f2.f1) ((rd_T41 l0 x11_1).f2.f2) ((rd_T41 l0 x11_1).f2.f3) ((rd_T41 l0 x11_1).f2.f4)).bind fun t321 => (if 1 + t321.size ≤ 9223372036854775807 then (if (x3_1 ++ ((rdOf ByteArray.empty y316 (wrap64 (((rd_T41 l0 x11_1).f0) - 1))) ++ t320)).size + ((⟨#[32]⟩ : ByteArray) ++ t321).size ≤ 9223372036854775807 then (if ((x3_1 ++ ((rdOf ByteArray.empty y316 (wrap64 (((rd_T41 l0 x11_1).f0) - 1))) ++ t320)) ++ ((⟨#[32]⟩ : ByteArray) ++ t321)).size + 1 ≤ 9223372036854775807 then (impl_PatchText.l0 k1 (((x3_1 ++ ((rdOf ByteArray.empty y316 (wrap64 (((rd_T41 l0 x11_1).f0) - 1))) ++ t320)) ++ ((⟨#[32]⟩ : ByteArray) ++ t321)) ++ (⟨#[10]⟩ : ByteArray)) l0 (l0.length : Int) (wrap64 (x11_1 + 1))) else (none)) else (none)) else (none)))) else (none)) else (none))) else (none)) else (none)) = some r := by first | (rw [hy316]; with_reducible exact H) | (have H2_ := (Option.bind_some _ _).symm.trans H; rw [hy316]; with_reducible exact H2_) | (have H2_ := (Option.bind_some _ _).symm.trans H; with_reducible exact H2_) | with_reducible exact H | (rw [hy316]; exact H) | exact H
       have Ny316 := Aside0.mk hy316
       clear hy316
       obtain ⟨ji8, hji8⟩ : ∃ j_ : Int, (wrap64 (((rd_T41 l0 x11_1).f0) - 1)) = j_ := ⟨_, rfl⟩
       replace H : (if 0 ≤ (ji8) then (if (ji8) < (y316.length : Int) then ((strings_Join.f ((rd_T41 l0 x11_1).f1) (⟨#[47]⟩ : ByteArray)).bind fun t320 => (if (rdOf ByteArray.empty y316 (ji8)).size + t320.size ≤ 9223372036854775807 then (if x3_1.size + ((rdOf ByteArray.empty y316 (ji8)) ++ t320).size ≤ 9223372036854775807 then (if ((rd_T41 l0 x11_1).f0) = 2 then (if (x3_1 ++ ((rdOf ByteArray.empty y316 (ji8)) ++ t320)).size + 1 ≤ 9223372036854775807 then (impl_PatchText.l0 k1 ((x3_1 ++ ((rdOf ByteArray.empty y316 (ji8)) ++ t320)) ++ (⟨#[10]⟩ : ByteArray)) l0 (l0.length : Int) (wrap64 (x11_1 + 1))) else (none)) else ((impl_ValueText.f k1 ((rd_T41 l0 x11_1).f2.f0) ((rd_T41 l0 x11_1).f2.f1) ((rd_T41 l0 x11_1).f2.f2) ((rd_T41 l0 x11_1).f2.f3) ((rd_T41 l0 x11_1).f2.f4)).bind fun t321 => (if 1 + t321.size ≤ 9223372036854775807 then (if (x3_1 ++ ((rdOf ByteArray.empty y316 (ji8)) ++ t320)).size + ((⟨#[32]⟩ : ByteArray) ++ t321).size ≤ 9223372036854775807 then (if ((x3_1 ++ ((rdOf ByteArray.empty y316 (ji8)) ++ t320)) ++ ((⟨#[32]⟩ : ByteArray) ++ t321)).size + 1 ≤ 9223372036854775807 then (impl_PatchText.l0 k1 (((x3_1 ++ ((rdOf ByteArray.empty y316 (ji8)) ++ t320)) ++ ((⟨#[32]⟩ : ByteArray) ++ t321)) ++ (⟨#[10]⟩ : ByteArray)) l0 (l0.length : Int) (wrap64 (x11_1 + 1))) else (none)) else (none)) else (none)))) else (none)) else (none))) else (none)) else (none)) = some r := by first | (rw [hji8] at H; exact H) | (simp only [hji8] at H ⊢; exact H)
       have hji8w : (IntKind.i64.wrap (((rd_T41 l0 x11_1).f0) - 1)) = ji8 := (i64_w _).trans hji8
       by_cases c9 : 0 ≤ (ji8)
       ·rw [if_pos c9] at H
        have c9b0 : decide (0 ≤ (ji8)) = true := decide_eq_true c9
        clear c9
        by_cases c10 : (ji8) < (y316.length : Int)
        ·rw [if_pos c10] at H
         have c10b0 : decide ((ji8) < (y316.length : Int)) = true := decide_eq_true c10
         clear c10
         replace H := Option.bind_eq_some_iff.mp H
         obtain ⟨t320, A110, H⟩ := H
         try dsimp only at H
         have A11 := Aside0.mk A110
         clear A110
         by_cases c12 : (rdOf ByteArray.empty y316 (ji8)).size + t320.size ≤ 9223372036854775807
         ·rw [if_pos c12] at H
          have c12b0 := eq_true c12
          have c12b1 : decide ((rdOf ByteArray.empty y316 (ji8)).size + t320.size ≤ 9223372036854775807) = true := decide_eq_true c12
          try have c12b2 : (9223372036854775807 < (rdOf ByteArray.empty y316 (ji8)).size + t320.size) = False := eq_false (Nat.not_lt.2 c12)
          by_cases c13 : x3_1.size + ((rdOf ByteArray.empty y316 (ji8)) ++ t320).size ≤ 9223372036854775807
          ·rw [if_pos c13] at H
           have c13b0 := eq_true c13
           have c13b1 : decide (x3_1.size + ((rdOf ByteArray.empty y316 (ji8)) ++ t320).size ≤ 9223372036854775807) = true := decide_eq_true c13
           try have c13b2 : (9223372036854775807 < x3_1.size + ((rdOf ByteArray.empty y316 (ji8)) ++ t320).size) = False := eq_false (Nat.not_lt.2 c13)
           have c13m : x3_1.size + ((rdOf ByteArray.empty y316 (ji8)).size + t320.size) ≤ 9223372036854775807 := by have h_ := c13; simp only [ByteArray.size_append] at h_; exact h_
           have c13m0 := eq_true c13m
           have c13m1 : decide (x3_1.size + ((rdOf ByteArray.empty y316 (ji8)).size + t320.size) ≤ 9223372036854775807) = true := decide_eq_true c13m
           have c13m2 : (9223372036854775807 < x3_1.size + ((rdOf ByteArray.empty y316 (ji8)).size + t320.size)) = False := eq_false (Nat.not_lt.2 c13m)
           by_cases c14 : ((rd_T41 l0 x11_1).f0) = 2
           ·rw [if_pos c14] at H
            have c14b0 : (((rd_T41 l0 x11_1).f0) == 2) = true := beq_iff_eq.mpr c14
            have c14b1 : (((rd_T41 l0 x11_1).f0) != 2) = false := bne_eq_false_iff_eq.mpr c14
            clear c14
            by_cases c15 : (x3_1 ++ ((rdOf ByteArray.empty y316 (ji8)) ++ t320)).size + 1 ≤ 9223372036854775807
            ·rw [if_pos c15] at H
             have c15b0 := eq_true c15
             have c15b1 : decide ((x3_1 ++ ((rdOf ByteArray.empty y316 (ji8)) ++ t320)).size + 1 ≤ 9223372036854775807) = true := decide_eq_true c15
             try have c15b2 : (9223372036854775807 < (x3_1 ++ ((rdOf ByteArray.empty y316 (ji8)) ++ t320)).size + 1) = False := eq_false (Nat.not_lt.2 c15)
             have c15z0 : (x3_1 ++ ((rdOf ByteArray.empty y316 (ji8)) ++ t320)).size < 9223372036854775807 := by have h_ := c15; simp only [ByteArray.size_append] at h_ ⊢; first | omega | (simp only [ByteArray.size] at h_ ⊢; simp at h_ ⊢; omega)
             have c15z0a := eq_true c15z0
             have c15z0b := decide_eq_true c15z0
             have c15z0c : (9223372036854775807 ≤ (x3_1 ++ ((rdOf ByteArray.empty y316 (ji8)) ++ t320)).size) = False := eq_false (by omega)
             have c15z1 : x3_1.size + ((rdOf ByteArray.empty y316 (ji8)).size + t320.size) < 9223372036854775807 := by have h_ := c15; simp only [ByteArray.size_append] at h_ ⊢; first | omega | (simp only [ByteArray.size] at h_ ⊢; simp at h_ ⊢; omega)
             have c15z1a := eq_true c15z1
             have c15z1b := decide_eq_true c15z1
             have c15z1c : (9223372036854775807 ≤ x3_1.size + ((rdOf ByteArray.empty y316 (ji8)).size + t320.size)) = False := eq_false (by omega)
             have c15z2 : x3_1.size + ((rdOf ByteArray.empty y316 (ji8)).size + t320.size) + 1 ≤ 9223372036854775807 := by have h_ := c15; simp only [ByteArray.size_append] at h_ ⊢; first | omega | (simp only [ByteArray.size] at h_ ⊢; simp at h_ ⊢; omega)
             have c15z2a := eq_true c15z2
             have c15z2b := decide_eq_true c15z2
             have c15z2c : (9223372036854775807 < x3_1.size + ((rdOf ByteArray.empty y316 (ji8)).size + t320.size) + 1) = False := eq_false (by omega)
             have c15m : x3_1.size + ((rdOf ByteArray.empty y316 (ji8)).size + t320.size) + 1 ≤ 9223372036854775807 := by have h_ := c15; simp only [ByteArray.size_append] at h_; exact h_
             have c15m0 := eq_true c15m
             have c15m1 : decide (x3_1.size + ((rdOf ByteArray.empty y316 (ji8)).size + t320.size) + 1 ≤ 9223372036854775807) = true := decide_eq_true c15m
             have c15m2 : (9223372036854775807 < x3_1.size + ((rdOf ByteArray.empty y316 (ji8)).size + t320.size) + 1) = False := eq_false (Nat.not_lt.2 c15m)
             have H' := Aside0.mk H
             clear H
             have p314 : 0 ≤ (x11_1 : Int) := of_decide_eq_true (by first | (with_reducible assumption) | assumption)
             have q314 : x11_1 < (l0.length : Int) := of_decide_eq_true (by first | (with_reducible assumption) | assumption)
             obtain ⟨ad314, A314_1, c314_1, A314_5, c314_5, A314_6, c314_6, e314, hx314_0, hx314_1, hx314_2, hx314_3, hx314_4, hx314_5, hx314_6, hl314_1, hi314_1, hl314_5, hi314_5, hl314_6, hi314_6⟩ := at_T41 HR0.out x11_1 p314 q314
             cases e314
             replace hx314_0 := (HB.out.cell (World.block_lt_of_cell? w _ hx314_0)).trans hx314_0
             replace hx314_1 := (HB.out.cell (World.block_lt_of_cell? w _ hx314_1)).trans hx314_1
             replace hx314_2 := (HB.out.cell (World.block_lt_of_cell? w _ hx314_2)).trans hx314_2
             replace hx314_3 := (HB.out.cell (World.block_lt_of_cell? w _ hx314_3)).trans hx314_3
             replace hx314_4 := (HB.out.cell (World.block_lt_of_cell? w _ hx314_4)).trans hx314_4
             replace hx314_5 := (HB.out.cell (World.block_lt_of_cell? w _ hx314_5)).trans hx314_5
             replace hx314_6 := (HB.out.cell (World.block_lt_of_cell? w _ hx314_6)).trans hx314_6
             have HR314_1 := Aside0.mk hi314_1
             have HC314_1 := Aside0.mk hl314_1
             clear hi314_1 hl314_1
             have HR314_5 := Aside0.mk hi314_5
             have HC314_5 := Aside0.mk hl314_5
             clear hi314_5 hl314_5
             have HR314_6 := Aside0.mk hi314_6
             have HC314_6 := Aside0.mk hl314_6
             clear hi314_6 hl314_6
             replace p314 := eq_true p314
             replace q314 := eq_true q314
             try go_wp2_with (first | ((with_reducible refine gate_dst (N := 5) rfl ?_); refine box_event ?hg (N := 5) ?hd (cs := #[.int .i64 0, .slice none 0 0, .int .i64 0, .string (⟨#[]⟩ : ByteArray), .int .i64 0, .slice none 0 0, .slice none 0 0]) (t := 41) ?hr ?_; (case hd => rfl); (case hg => rfl); (case hr => go_simp); intro gb315 hg w16 hbox hb; have n0_ := Aside0.mk (below_step (qB HB) hb); have n1_ := Aside0.mk (hbox); have n2_ := Aside0.mk (qG HB hg); have n3_ := Aside0.mk (qG HB hg); clear HB; have HB := n0_; have BK315 := n1_; have GW315 := n2_; have GE315 := n3_; clear n0_ n1_ n2_ n3_; clear hb hbox hg; obtain ⟨hcz17_0, hcz17_1, hcz17_2, hcz17_3, hcz17_4, hcz17_5, hcz17_6, hfz17_0, hfz17_1, hfz17_2, hfz17_3, hfz17_4, hfz17_5, hfz17_6⟩ := blk7 BK315))
             have pi319 : (0 ≤ ((ji8) : Int)) = True := eq_true (of_decide_eq_true (by first | (with_reducible assumption) | assumption))
             have qi319 : ((ji8) < (y316.length : Int)) = True := eq_true (of_decide_eq_true (by first | (with_reducible assumption) | assumption))
             have n0_ : Aside0 ((((((((w16.setCell ⟨gb315, 0, none⟩ (.int .i64 ((rd_T41 l0 x11_1).f0))).setCell ⟨gb315, 1, none⟩ (.slice A314_1 ((rd_T41 l0 x11_1).f1).length c314_1)).setCell ⟨gb315, 2, none⟩ (.int .i64 ((rd_T41 l0 x11_1).f2.f0))).setCell ⟨gb315, 3, none⟩ (.string ((rd_T41 l0 x11_1).f2.f1))).setCell ⟨gb315, 4, none⟩ (.int .i64 ((rd_T41 l0 x11_1).f2.f2))).setCell ⟨gb315, 5, none⟩ (.slice A314_5 ((rd_T41 l0 x11_1).f2.f3).length c314_5)).setCell ⟨gb315, 6, none⟩ (.slice A314_6 ((rd_T41 l0 x11_1).f2.f4).length c314_6)).heap[gb315]? = some (.cells #[.int .i64 ((rd_T41 l0 x11_1).f0), .slice A314_1 ((rd_T41 l0 x11_1).f1).length c314_1, .int .i64 ((rd_T41 l0 x11_1).f2.f0), .string ((rd_T41 l0 x11_1).f2.f1), .int .i64 ((rd_T41 l0 x11_1).f2.f2), .slice A314_5 ((rd_T41 l0 x11_1).f2.f3).length c314_5, .slice A314_6 ((rd_T41 l0 x11_1).f2.f4).length c314_6] 41 (0, 0))) := ⟨by (with_reducible repeat (first | refine blk_drewN ?_ _ | refine blk_drew ?_ | refine blk_alloc ?_ _)); refine blk_put (cs := #[.int .i64 ((rd_T41 l0 x11_1).f0), .slice A314_1 ((rd_T41 l0 x11_1).f1).length c314_1, .int .i64 ((rd_T41 l0 x11_1).f2.f0), .string ((rd_T41 l0 x11_1).f2.f1), .int .i64 ((rd_T41 l0 x11_1).f2.f2), .slice A314_5 ((rd_T41 l0 x11_1).f2.f3).length c314_5, .slice none 0 0]) ?_ 6 _ rfl; (with_reducible repeat (first | refine blk_drewN ?_ _ | refine blk_drew ?_ | refine blk_alloc ?_ _)); refine blk_put (cs := #[.int .i64 ((rd_T41 l0 x11_1).f0), .slice A314_1 ((rd_T41 l0 x11_1).f1).length c314_1, .int .i64 ((rd_T41 l0 x11_1).f2.f0), .string ((rd_T41 l0 x11_1).f2.f1), .int .i64 ((rd_T41 l0 x11_1).f2.f2), .slice none 0 0, .slice none 0 0]) ?_ 5 _ rfl; (with_reducible repeat (first | refine blk_drewN ?_ _ | refine blk_drew ?_ | refine blk_alloc ?_ _)); refine blk_put (cs := #[.int .i64 ((rd_T41 l0 x11_1).f0), .slice A314_1 ((rd_T41 l0 x11_1).f1).length c314_1, .int .i64 ((rd_T41 l0 x11_1).f2.f0), .string ((rd_T41 l0 x11_1).f2.f1), .int .i64 0, .slice none 0 0, .slice none 0 0]) ?_ 4 _ rfl; (with_reducible repeat (first | refine blk_drewN ?_ _ | refine blk_drew ?_ | refine blk_alloc ?_ _)); refine blk_put (cs := #[.int .i64 ((rd_T41 l0 x11_1).f0), .slice A314_1 ((rd_T41 l0 x11_1).f1).length c314_1, .int .i64 ((rd_T41 l0 x11_1).f2.f0), .string (⟨#[]⟩ : ByteArray), .int .i64 0, .slice none 0 0, .slice none 0 0]) ?_ 3 _ rfl; (with_reducible repeat (first | refine blk_drewN ?_ _ | refine blk_drew ?_ | refine blk_alloc ?_ _)); refine blk_put (cs := #[.int .i64 ((rd_T41 l0 x11_1).f0), .slice A314_1 ((rd_T41 l0 x11_1).f1).length c314_1, .int .i64 0, .string (⟨#[]⟩ : ByteArray), .int .i64 0, .slice none 0 0, .slice none 0 0]) ?_ 2 _ rfl; (with_reducible repeat (first | refine blk_drewN ?_ _ | refine blk_drew ?_ | refine blk_alloc ?_ _)); refine blk_put (cs := #[.int .i64 ((rd_T41 l0 x11_1).f0), .slice none 0 0, .int .i64 0, .string (⟨#[]⟩ : ByteArray), .int .i64 0, .slice none 0 0, .slice none 0 0]) ?_ 1 _ rfl; (with_reducible repeat (first | refine blk_drewN ?_ _ | refine blk_drew ?_ | refine blk_alloc ?_ _)); refine blk_put (cs := #[.int .i64 0, .slice none 0 0, .int .i64 0, .string (⟨#[]⟩ : ByteArray), .int .i64 0, .slice none 0 0, .slice none 0 0]) ?_ 0 _ rfl; (with_reducible repeat (first | refine blk_drewN ?_ _ | refine blk_drew ?_ | refine blk_alloc ?_ _)); exact BK315.out⟩
             have n1_ : Aside0 (Below w.heap.size w (((((((w16.setCell ⟨gb315, 0, none⟩ (.int .i64 ((rd_T41 l0 x11_1).f0))).setCell ⟨gb315, 1, none⟩ (.slice A314_1 ((rd_T41 l0 x11_1).f1).length c314_1)).setCell ⟨gb315, 2, none⟩ (.int .i64 ((rd_T41 l0 x11_1).f2.f0))).setCell ⟨gb315, 3, none⟩ (.string ((rd_T41 l0 x11_1).f2.f1))).setCell ⟨gb315, 4, none⟩ (.int .i64 ((rd_T41 l0 x11_1).f2.f2))).setCell ⟨gb315, 5, none⟩ (.slice A314_5 ((rd_T41 l0 x11_1).f2.f3).length c314_5)).setCell ⟨gb315, 6, none⟩ (.slice A314_6 ((rd_T41 l0 x11_1).f2.f4).length c314_6))) := ⟨by repeat (first | (with_reducible first | exact HB.out | apply below_alloc | apply pw_below_drewN | apply below_drew1 | refine below_set ?_ GE315.out) | exact HB.out)⟩
             (try clear BK315)
             (try clear HB)
             generalize (((((((w16.setCell ⟨gb315, 0, none⟩ (.int .i64 ((rd_T41 l0 x11_1).f0))).setCell ⟨gb315, 1, none⟩ (.slice A314_1 ((rd_T41 l0 x11_1).f1).length c314_1)).setCell ⟨gb315, 2, none⟩ (.int .i64 ((rd_T41 l0 x11_1).f2.f0))).setCell ⟨gb315, 3, none⟩ (.string ((rd_T41 l0 x11_1).f2.f1))).setCell ⟨gb315, 4, none⟩ (.int .i64 ((rd_T41 l0 x11_1).f2.f2))).setCell ⟨gb315, 5, none⟩ (.slice A314_5 ((rd_T41 l0 x11_1).f2.f3).length c314_5)).setCell ⟨gb315, 6, none⟩ (.slice A314_6 ((rd_T41 l0 x11_1).f2.f4).length c314_6)) = w18 at n0_ n1_ ⊢
             have BK315 := n0_
             have HB := n1_
             clear n0_ n1_
             have n0_ := Aside0.mk (blk_drew BK315.out)
             have n1_ := Aside0.mk (below_drew1 HB.out)
             clear BK315
             clear HB
             have BK315 := n0_
             have HB := n1_
             clear n0_ n1_
             refine start_ (n := 13) (S := fun w' => True) (ds := []) #[false, false, false, false, false, false, false, false, false, false, false, false, false] (by kernel_rfl) rfl rfl trivial (fun hHeld => ?_); refine with_tabW impl_PatchText.tab7 impl_PatchText.bits7 (fun HT_ HW_ => ?_)
             generalize w18.drew = w19 at BK315 HB hHeld ⊢
             refine pure_ (i := 0) (N := some 15) (v := ?_) (a' := ?_) #[true, false, false, false, false, false, false, false, false, false, false, false, false] rfl rfl (any_of HT_.out (by kernel_rfl)) (fun _ _ _ h => h) (Or.inl ⟨by rfl, ?_⟩) ?_ ?_
             rotate_left
             ·intro w'
              go_simp
              with_reducible rfl
             rotate_left
             ·simp only [Act.put, List.setIfInBounds_toArray, List.set_cons_zero, List.set_cons_succ, i64_w, i32_w]
              rfl
             refine pure_ (i := 2) (N := some 17) (v := ?_) (a' := ?_) #[true, false, true, false, false, false, false, false, false, false, false, false, false] rfl rfl (any_of HT_.out (by kernel_rfl)) (fun _ _ _ h => h) (Or.inl ⟨by rfl, ?_⟩) ?_ ?_
             rotate_left
             ·intro w'
              go_simp
              with_reducible rfl
             rotate_left
             ·simp only [Act.put, List.setIfInBounds_toArray, List.set_cons_zero, List.set_cons_succ, i64_w, i32_w]
              rfl
             refine pure_ (i := 7) (N := some 22) (v := ?_) (a' := ?_) #[true, false, true, false, false, false, false, true, false, false, false, false, false] rfl rfl (any_of HT_.out (by kernel_rfl)) (fun _ _ _ h => h) (Or.inl ⟨by rfl, ?_⟩) ?_ ?_
             rotate_left
             ·intro w'
              go_simp
              with_reducible rfl
             rotate_left
             ·simp only [Act.put, List.setIfInBounds_toArray, List.set_cons_zero, List.set_cons_succ, i64_w, i32_w]
              rfl
             refine inv_at [1, 3, 4, 5, 6, 8, 9, 10, 11, 12] (fun a0_ b a w' => ∃ (v317 : Value) (adz_v317 : Addr) (m5_ : Value), a = putSel a0_ b [(1, 16, v317), (3, 18, .int .i64 ((rd_T41 l0 x11_1).f0)), (4, 19, .int .i64 ji8), (5, 20, m5_), (6, 21, .string (rdOf ByteArray.empty y316 (ji8))), (8, 23, .slice A314_1 ((rd_T41 l0 x11_1).f1).length c314_1), (9, 24, .string t320), (10, 25, .string ((rdOf ByteArray.empty y316 (ji8)) ++ t320)), (11, 26, .string (x3_1 ++ ((rdOf ByteArray.empty y316 (ji8)) ++ t320))), (12, 3, .string (x3_1 ++ ((rdOf ByteArray.empty y316 (ji8)) ++ t320)))] ∧ (w'.heap[gb315]? = some (.cells #[.int .i64 ((rd_T41 l0 x11_1).f0), .slice A314_1 ((rd_T41 l0 x11_1).f1).length c314_1, .int .i64 ((rd_T41 l0 x11_1).f2.f0), .string ((rd_T41 l0 x11_1).f2.f1), .int .i64 ((rd_T41 l0 x11_1).f2.f2), .slice A314_5 ((rd_T41 l0 x11_1).f2.f3).length c314_5, .slice A314_6 ((rd_T41 l0 x11_1).f2.f4).length c314_6] 41 (0, 0))) ∧ (Below w.heap.size w w') ∧ (b 1 = true → Kd.R Kd.string 9 w' w.heap.size (fun _ => True) v317 y316) ∧ (b 1 = true → ∃ c_, (v317 : Value) = .slice (some adz_v317) y316.length c_) ∧ (b 5 = true → (m5_ : Value) = .pointer (some (adz_v317.add ((ji8)).toNat)))) HT_.out HW_.out (by kernel_rfl) (by kernel_rfl) ?_ ?_ ?_
             ·exact ⟨.bool false, ⟨0, 0, none⟩, .bool false, by simp only [putSel, Bool.false_eq_true, if_false], BK315.out, HB.out, fun h_ => absurd h_ (by decide), fun h_ => absurd h_ (by decide), fun h_ => absurd h_ (by decide)⟩
             ·skip
              clear BK315 HB
              refine steps_cons ?_ ?_
              ·rintro b a w' ⟨v317, adz_v317, m5_, ha, Q_BK315, Q_HB, Q_HO318, Q_HA_HO318, Q_X5_⟩ hb_ hon hoff
               refine ⟨_, rfl, fun K hK => ?_⟩
               replace ha := Aside0.mk ha
               have BK315 := Aside0.mk Q_BK315
               have HB := Aside0.mk Q_HB
               refine Kd.R_lit_step Kd.string _ 9 ?hg (N := 16) ?hd (xs := ([(⟨#[115, 101, 116, 32]⟩ : ByteArray), (⟨#[100, 114, 111, 112, 32]⟩ : ByteArray), (⟨#[110, 101, 101, 100, 32]⟩ : ByteArray)] : List ByteArray)) (inner := [.string (⟨#[115, 101, 116, 32]⟩ : ByteArray), .string (⟨#[100, 114, 111, 112, 32]⟩ : ByteArray), .string (⟨#[110, 101, 101, 100, 32]⟩ : ByteArray)]) (ok := fun _ => True) (okp := fun _ => True) ?hr ?hp (fun _ hk => hk) trivial (Below.refl _ _) (Nat.le_refl _) (by simp) ?_; (case hd => rfl); (case hg => rfl); (case hr => go_simp); (case hp => exact (Reps.one (show Kd.M Kd.string _ _ _ (⟨#[115, 101, 116, 32]⟩ : ByteArray) [.string (⟨#[115, 101, 116, 32]⟩ : ByteArray)] from rfl) (Reps.one (show Kd.M Kd.string _ _ _ (⟨#[100, 114, 111, 112, 32]⟩ : ByteArray) [.string (⟨#[100, 114, 111, 112, 32]⟩ : ByteArray)] from rfl) (Reps.one (show Kd.M Kd.string _ _ _ (⟨#[110, 101, 101, 100, 32]⟩ : ByteArray) [.string (⟨#[110, 101, 101, 100, 32]⟩ : ByteArray)] from rfl) (Reps.none _ _)))))
               intro v317 w20 ho21 hb hg_ hnew_
               clear hg_ hnew_
               (first | rw [← Ny316.out] at ho21 | (simp only [Int.reduceToNat] at ho21; rw [← Ny316.out] at ho21))
               have n0_ := Aside0.mk (Kd.R_lower ho21 (below_size (qB HB)))
               have n1_ := Aside0.mk (blk_below (qK BK315) hb)
               have n2_ := Aside0.mk (below_step (qB HB) hb)
               clear BK315
               clear HB
               have HO318 := n0_
               have BK315 := n1_
               have HB := n2_
               clear n0_ n1_ n2_
               clear hb ho21
               obtain ⟨Ao22, co22, eo22⟩ := Kd.R_slice HO318.out
               subst eo22
               obtain ⟨ado22, fo22, _⟩ := Kd.at_string (Kd.R_reads' HO318.out).2.2 0 (by decide) (by rw [Ny316.out]; simp)
               cases fo22
               refine hK.out _ _ ⟨.slice (some ado22) y316.length co22, ado22, m5_, (by rw [ha.out]; exact putSel_upk 0 hb_ rfl rfl rfl), (qK BK315), (qB HB), fun _ => (by (with_reducible repeat (first | apply Kd.R_alloc | apply Kd.R_drewN | apply Kd.R_drew)); exact HO318.out), fun _ => ⟨_, rfl⟩, fun h0_ => absurd ((hoff 5 (by kernel_rfl)).symm.trans h0_) (by decide)⟩
              refine steps_cons ?_ ?_
              ·rintro b a w' ⟨v317, adz_v317, m5_, ha, Q_BK315, Q_HB, Q_HO318, Q_HA_HO318, Q_X5_⟩ hb_ hon hoff
               refine ⟨_, rfl, fun K hK => ?_⟩
               have e17 : a.tmps[17]? = some (.pointer (some ⟨gb315, 0, none⟩)) := by rw [ha]; exact (putSel_off rfl).trans rfl
               replace ha := Aside0.mk ha
               have BK315 := Aside0.mk Q_BK315
               have HB := Aside0.mk Q_HB
               have hc0_ : w'.cell? ⟨gb315, 0, none⟩ = some (.int .i64 ((rd_T41 l0 x11_1).f0)) := (blk_cell BK315.out 0).trans rfl
               have hc1_ : w'.cell? ⟨gb315, 1, none⟩ = some (.slice A314_1 ((rd_T41 l0 x11_1).f1).length c314_1) := (blk_cell BK315.out 1).trans rfl
               have hc2_ : w'.cell? ⟨gb315, 2, none⟩ = some (.int .i64 ((rd_T41 l0 x11_1).f2.f0)) := (blk_cell BK315.out 2).trans rfl
               have hc3_ : w'.cell? ⟨gb315, 3, none⟩ = some (.string ((rd_T41 l0 x11_1).f2.f1)) := (blk_cell BK315.out 3).trans rfl
               have hc4_ : w'.cell? ⟨gb315, 4, none⟩ = some (.int .i64 ((rd_T41 l0 x11_1).f2.f2)) := (blk_cell BK315.out 4).trans rfl
               have hc5_ : w'.cell? ⟨gb315, 5, none⟩ = some (.slice A314_5 ((rd_T41 l0 x11_1).f2.f3).length c314_5) := (blk_cell BK315.out 5).trans rfl
               have hc6_ : w'.cell? ⟨gb315, 6, none⟩ = some (.slice A314_6 ((rd_T41 l0 x11_1).f2.f4).length c314_6) := (blk_cell BK315.out 6).trans rfl
               refine value_ (w1 := w') (v := .int .i64 ((rd_T41 l0 x11_1).f0)) (by rfl) rfl ?_ ?_
               ·go_simp
                (try simp only [i64_w])
                try rfl
               refine hK.out _ _ ⟨v317, adz_v317, m5_, (by rw [ha.out]; exact putSel_upk 1 hb_ rfl rfl rfl), Q_BK315, Q_HB, Q_HO318, Q_HA_HO318, fun h0_ => absurd ((hoff 5 (by kernel_rfl)).symm.trans h0_) (by decide)⟩
              refine steps_cons ?_ ?_
              ·rintro b a w' ⟨v317, adz_v317, m5_, ha, Q_BK315, Q_HB, Q_HO318, Q_HA_HO318, Q_X5_⟩ hb_ hon hoff
               refine ⟨_, rfl, fun K hK => ?_⟩
               have e18 : a.tmps[18]? = some (.int .i64 ((rd_T41 l0 x11_1).f0)) := by rw [ha]; exact putSel_on (e := (3, 18, .int .i64 ((rd_T41 l0 x11_1).f0))) 1 rfl rfl (hon 3 (by kernel_rfl)) rfl
               replace ha := Aside0.mk ha
               have BK315 := Aside0.mk Q_BK315
               have HB := Aside0.mk Q_HB
               refine value_ (w1 := w') (v := .int .i64 ji8) (by rfl) rfl ?_ ?_
               ·go_simp
                (try simp only [i64_w])
                try rfl
               refine hK.out _ _ ⟨v317, adz_v317, m5_, (by rw [ha.out]; exact putSel_upk 2 hb_ rfl rfl rfl), Q_BK315, Q_HB, Q_HO318, Q_HA_HO318, fun h0_ => absurd ((hoff 5 (by kernel_rfl)).symm.trans h0_) (by decide)⟩
              refine steps_cons ?_ ?_
              ·rintro b a w' ⟨v317, adz_v317, m5_, ha, Q_BK315, Q_HB, Q_HO318, Q_HA_HO318, Q_X5_⟩ hb_ hon hoff
               refine ⟨_, rfl, fun K hK => ?_⟩
               have e16 : a.tmps[16]? = some (v317) := by rw [ha]; exact putSel_on (e := (1, 16, v317)) 0 rfl rfl (hon 1 (by kernel_rfl)) rfl
               have e19 : a.tmps[19]? = some (.int .i64 ji8) := by rw [ha]; exact putSel_on (e := (4, 19, .int .i64 ji8)) 2 rfl rfl (hon 4 (by kernel_rfl)) rfl
               replace ha := Aside0.mk ha
               have BK315 := Aside0.mk Q_BK315
               have HB := Aside0.mk Q_HB
               have HO318 := Aside0.mk (Q_HO318 (hon 1 (by kernel_rfl)))
               have HA_HO318 := Aside0.mk (Q_HA_HO318 (hon 1 (by kernel_rfl)))
               obtain ⟨c_, hv_⟩ := HA_HO318.out
               rw [hv_] at e16
               refine value_ (w1 := w') (v := .pointer (some (adz_v317.add ((ji8)).toNat))) (by rfl) rfl ?_ ?_
               ·go_simp
                (try simp only [i64_w])
                try rfl
               refine hK.out _ _ ⟨v317, adz_v317, (.pointer (some (adz_v317.add ((ji8)).toNat))), (by rw [ha.out]; exact putSel_upk 3 hb_ rfl rfl rfl), Q_BK315, Q_HB, Q_HO318, Q_HA_HO318, fun _ => rfl⟩
              refine steps_cons ?_ ?_
              ·rintro b a w' ⟨v317, adz_v317, m5_, ha, Q_BK315, Q_HB, Q_HO318, Q_HA_HO318, Q_X5_⟩ hb_ hon hoff
               refine ⟨_, rfl, fun K hK => ?_⟩
               have e20 : a.tmps[20]? = some (m5_) := by rw [ha]; exact putSel_on (e := (5, 20, m5_)) 3 rfl rfl (hon 5 (by kernel_rfl)) rfl
               rw [Q_X5_ (hon 5 (by kernel_rfl))] at e20
               replace ha := Aside0.mk ha
               have BK315 := Aside0.mk Q_BK315
               have HB := Aside0.mk Q_HB
               have HO318 := Aside0.mk (Q_HO318 (hon 1 (by kernel_rfl)))
               have HA_HO318 := Aside0.mk (Q_HA_HO318 (hon 1 (by kernel_rfl)))
               obtain ⟨c_, hv_⟩ := HA_HO318.out
               have hF_ := HO318.out
               rw [hv_] at hF_
               obtain ⟨ad_, ea_, hx_⟩ := Kd.at_string (Kd.R_reads' hF_).2.2 (ji8) (of_eq_true pi319) (of_eq_true qi319)
               cases ea_
               refine value_ (w1 := w') (v := .string (rdOf ByteArray.empty y316 (ji8))) (by rfl) rfl ?_ ?_
               ·go_simp
                (try simp only [i64_w])
                try rfl
               refine hK.out _ _ ⟨v317, adz_v317, m5_, (by rw [ha.out]; exact putSel_upk 4 hb_ rfl rfl rfl), Q_BK315, Q_HB, Q_HO318, Q_HA_HO318, Q_X5_⟩
              refine steps_cons ?_ ?_
              ·rintro b a w' ⟨v317, adz_v317, m5_, ha, Q_BK315, Q_HB, Q_HO318, Q_HA_HO318, Q_X5_⟩ hb_ hon hoff
               refine ⟨_, rfl, fun K hK => ?_⟩
               have e22 : a.tmps[22]? = some (.pointer (some ⟨gb315, 1, none⟩)) := by rw [ha]; exact (putSel_off rfl).trans rfl
               replace ha := Aside0.mk ha
               have BK315 := Aside0.mk Q_BK315
               have HB := Aside0.mk Q_HB
               have hc0_ : w'.cell? ⟨gb315, 0, none⟩ = some (.int .i64 ((rd_T41 l0 x11_1).f0)) := (blk_cell BK315.out 0).trans rfl
               have hc1_ : w'.cell? ⟨gb315, 1, none⟩ = some (.slice A314_1 ((rd_T41 l0 x11_1).f1).length c314_1) := (blk_cell BK315.out 1).trans rfl
               have hc2_ : w'.cell? ⟨gb315, 2, none⟩ = some (.int .i64 ((rd_T41 l0 x11_1).f2.f0)) := (blk_cell BK315.out 2).trans rfl
               have hc3_ : w'.cell? ⟨gb315, 3, none⟩ = some (.string ((rd_T41 l0 x11_1).f2.f1)) := (blk_cell BK315.out 3).trans rfl
               have hc4_ : w'.cell? ⟨gb315, 4, none⟩ = some (.int .i64 ((rd_T41 l0 x11_1).f2.f2)) := (blk_cell BK315.out 4).trans rfl
               have hc5_ : w'.cell? ⟨gb315, 5, none⟩ = some (.slice A314_5 ((rd_T41 l0 x11_1).f2.f3).length c314_5) := (blk_cell BK315.out 5).trans rfl
               have hc6_ : w'.cell? ⟨gb315, 6, none⟩ = some (.slice A314_6 ((rd_T41 l0 x11_1).f2.f4).length c314_6) := (blk_cell BK315.out 6).trans rfl
               refine value_ (w1 := w') (v := .slice A314_1 ((rd_T41 l0 x11_1).f1).length c314_1) (by rfl) rfl ?_ ?_
               ·go_simp
                (try simp only [i64_w])
                try rfl
               refine hK.out _ _ ⟨v317, adz_v317, m5_, (by rw [ha.out]; exact putSel_upk 5 hb_ rfl rfl rfl), Q_BK315, Q_HB, Q_HO318, Q_HA_HO318, Q_X5_⟩
              refine steps_cons ?_ ?_
              ·rintro b a w' ⟨v317, adz_v317, m5_, ha, Q_BK315, Q_HB, Q_HO318, Q_HA_HO318, Q_X5_⟩ hb_ hon hoff
               refine ⟨_, rfl, fun K hK => ?_⟩
               have e23 : a.tmps[23]? = some (.slice A314_1 ((rd_T41 l0 x11_1).f1).length c314_1) := by rw [ha]; exact putSel_on (e := (8, 23, .slice A314_1 ((rd_T41 l0 x11_1).f1).length c314_1)) 5 rfl rfl (hon 8 (by kernel_rfl)) rfl
               replace ha := Aside0.mk ha
               have BK315 := Aside0.mk Q_BK315
               have HB := Aside0.mk Q_HB
               refine goes_ Tryd.func14 (by kernel_rfl) rfl #[.slice A314_1 ((rd_T41 l0 x11_1).f1).length c314_1, .string (⟨#[47]⟩ : ByteArray)] (by rfl) rfl rfl (by first | (simp only [List.map_toArray, List.map_cons, List.map_nil, Act.eval, Array.getD_eq_getD_getElem?, Option.getD_some, e23]; done) | (simp only [List.map_toArray, List.map_cons, List.map_nil, Act.eval, Array.getD_eq_getD_getElem?, Option.getD_some, e23]; rfl)) ?_
               with_reducible refine (strings_Join.calls _ _ ((rd_T41 l0 x11_1).f1) (⟨#[47]⟩ : ByteArray) t320 _ ?side1 ?side2 A11.out).mono ?_
               (case side1 => exact qC HR314_1 HB)
               (case side2 => exact HC314_1.out)
               rintro e w20 ⟨rfl, hb⟩
               refine ⟨_, rfl, ?_⟩
               have n0_ := Aside0.mk (blk_below (qK BK315) hb)
               have n1_ := Aside0.mk (below_step (qB HB) hb)
               have z_HO318 := fun (h0_ : b 1 = true) => (show Kd.R Kd.string 9 w20 w.heap.size (fun _ => True) v317 y316 from by first | exact (Kd.R_below (by (with_reducible repeat (first | apply Kd.R_alloc | apply Kd.R_drewN | apply Kd.R_drew)); exact (Q_HO318 h0_)) hb) | exact Kd.R_mono (Kd.R_below (by (with_reducible repeat (first | apply Kd.R_alloc | apply Kd.R_drewN | apply Kd.R_drew)); exact (Q_HO318 h0_)) hb) (fun _ h_ => by first | trivial | exact h_ | exact h_.1))
               clear BK315
               clear HB
               have BK315 := n0_
               have HB := n1_
               clear n0_ n1_
               (try clear hb)
               (try clear hb2)
               (try clear hk)
               (try clear hi)
               refine hK.out _ _ ⟨v317, adz_v317, m5_, (by rw [ha.out]; exact putSel_upk 6 hb_ rfl rfl rfl), (qK BK315), (qB HB), z_HO318, Q_HA_HO318, Q_X5_⟩
              refine steps_cons ?_ ?_
              ·rintro b a w' ⟨v317, adz_v317, m5_, ha, Q_BK315, Q_HB, Q_HO318, Q_HA_HO318, Q_X5_⟩ hb_ hon hoff
               refine ⟨_, rfl, fun K hK => ?_⟩
               have e21 : a.tmps[21]? = some (.string (rdOf ByteArray.empty y316 (ji8))) := by rw [ha]; exact putSel_on (e := (6, 21, .string (rdOf ByteArray.empty y316 (ji8)))) 4 rfl rfl (hon 6 (by kernel_rfl)) rfl
               have e24 : a.tmps[24]? = some (.string t320) := by rw [ha]; exact putSel_on (e := (9, 24, .string t320)) 6 rfl rfl (hon 9 (by kernel_rfl)) rfl
               replace ha := Aside0.mk ha
               have BK315 := Aside0.mk Q_BK315
               have HB := Aside0.mk Q_HB
               have HO318 := Aside0.mk (Q_HO318 (hon 1 (by kernel_rfl)))
               have HA_HO318 := Aside0.mk (Q_HA_HO318 (hon 1 (by kernel_rfl)))
               refine value_ (w1 := w') (v := .string ((rdOf ByteArray.empty y316 (ji8)) ++ t320)) (by rfl) rfl ?_ ?_
               ·go_simp
                (try simp only [i64_w])
                try rfl
               refine hK.out _ _ ⟨v317, adz_v317, m5_, (by rw [ha.out]; exact putSel_upk 7 hb_ rfl rfl rfl), Q_BK315, Q_HB, Q_HO318, Q_HA_HO318, Q_X5_⟩
              refine steps_cons ?_ ?_
              ·rintro b a w' ⟨v317, adz_v317, m5_, ha, Q_BK315, Q_HB, Q_HO318, Q_HA_HO318, Q_X5_⟩ hb_ hon hoff
               refine ⟨_, rfl, fun K hK => ?_⟩
               have e15 : a.tmps[15]? = some (.string x3_1) := by rw [ha]; exact (putSel_off rfl).trans rfl
               have e25 : a.tmps[25]? = some (.string ((rdOf ByteArray.empty y316 (ji8)) ++ t320)) := by rw [ha]; exact putSel_on (e := (10, 25, .string ((rdOf ByteArray.empty y316 (ji8)) ++ t320))) 7 rfl rfl (hon 10 (by kernel_rfl)) rfl
               replace ha := Aside0.mk ha
               have BK315 := Aside0.mk Q_BK315
               have HB := Aside0.mk Q_HB
               have HO318 := Aside0.mk (Q_HO318 (hon 1 (by kernel_rfl)))
               have HA_HO318 := Aside0.mk (Q_HA_HO318 (hon 1 (by kernel_rfl)))
               refine value_ (w1 := w') (v := .string (x3_1 ++ ((rdOf ByteArray.empty y316 (ji8)) ++ t320))) (by rfl) rfl ?_ ?_
               ·go_simp
                (try simp only [i64_w])
                try rfl
               refine hK.out _ _ ⟨v317, adz_v317, m5_, (by rw [ha.out]; exact putSel_upk 8 hb_ rfl rfl rfl), Q_BK315, Q_HB, Q_HO318, Q_HA_HO318, Q_X5_⟩
              refine steps_cons ?_ ?_
              ·rintro b a w' ⟨v317, adz_v317, m5_, ha, Q_BK315, Q_HB, Q_HO318, Q_HA_HO318, Q_X5_⟩ hb_ hon hoff
               refine ⟨_, rfl, fun K hK => ?_⟩
               have e26 : a.tmps[26]? = some (.string (x3_1 ++ ((rdOf ByteArray.empty y316 (ji8)) ++ t320))) := by rw [ha]; exact putSel_on (e := (11, 26, .string (x3_1 ++ ((rdOf ByteArray.empty y316 (ji8)) ++ t320)))) 8 rfl rfl (hon 11 (by kernel_rfl)) rfl
               replace ha := Aside0.mk ha
               have BK315 := Aside0.mk Q_BK315
               have HB := Aside0.mk Q_HB
               have HO318 := Aside0.mk (Q_HO318 (hon 1 (by kernel_rfl)))
               have HA_HO318 := Aside0.mk (Q_HA_HO318 (hon 1 (by kernel_rfl)))
               refine value_ (w1 := w') (v := .string (x3_1 ++ ((rdOf ByteArray.empty y316 (ji8)) ++ t320))) (by rfl) rfl ?_ ?_
               ·go_simp
                (try simp only [i64_w])
                try rfl
               refine hK.out _ _ ⟨v317, adz_v317, m5_, (by rw [ha.out]; exact putSel_upk 9 hb_ rfl rfl rfl), Q_BK315, Q_HB, Q_HO318, Q_HA_HO318, Q_X5_⟩
              exact steps_nil
             rintro b a w24 hall ⟨v317, adz_v317, m5_, ha, Q_BK315, Q_HB, Q_HO318, Q_HA_HO318, Q_X5_⟩
             clear BK315 HB
             have hb1_ := hall 1 (by kernel_rfl)
             have hb3_ := hall 3 (by kernel_rfl)
             have hb4_ := hall 4 (by kernel_rfl)
             have hb5_ := hall 5 (by kernel_rfl)
             have hb6_ := hall 6 (by kernel_rfl)
             have hb8_ := hall 8 (by kernel_rfl)
             have hb9_ := hall 9 (by kernel_rfl)
             have hb10_ := hall 10 (by kernel_rfl)
             have hb11_ := hall 11 (by kernel_rfl)
             have hb12_ := hall 12 (by kernel_rfl)
             subst ha
             obtain rfl := Q_X5_ hb5_
             simp only [putSel, hb1_, hb3_, hb4_, hb5_, hb6_, hb8_, hb9_, hb10_, hb11_, hb12_, if_true, Act.put, List.setIfInBounds_toArray, List.set_cons_zero, List.set_cons_succ]
             have BK315 := Aside0.mk Q_BK315
             clear Q_BK315
             have HB := Aside0.mk Q_HB
             clear Q_HB
             have HO318 := Aside0.mk (Q_HO318 hb1_)
             clear Q_HO318
             have HA_HO318 := Aside0.mk (Q_HA_HO318 hb1_)
             clear Q_HA_HO318
             clear hall hb1_ hb3_ hb4_ hb5_ hb6_ hb8_ hb9_ hb10_ hb11_ hb12_
             obtain ⟨co25, eo25⟩ := HA_HO318.out
             clear HA_HO318
             subst eo25
             obtain ⟨hcz26_0, hcz26_1, hcz26_2, hcz26_3, hcz26_4, hcz26_5, hcz26_6, hfz26_0, hfz26_1, hfz26_2, hfz26_3, hfz26_4, hfz26_5, hfz26_6⟩ := blk7 BK315
             try go_wp2
             go_roundg k1
             case measure => have := HK1.out; omega
             case rel => exact ⟨((x3_1 ++ ((rdOf ByteArray.empty y316 (ji8)) ++ t320)) ++ (⟨#[10]⟩ : ByteArray)), (wrap64 (x11_1 + 1)), (by first | rfl | (simp; done) | (simp only [← hji8] <;> (first | rfl | simp)) | (simp [*]; done)), (by first | rfl | (simp; done) | (simp [*]; done)), H', ⟨by have := HK1.out; omega⟩, ⟨qB HB⟩⟩
            ·rw [if_neg c15] at H
             exact absurd H (by simp)
           ·rw [if_neg c14] at H
            have c14b0 : (((rd_T41 l0 x11_1).f0) == 2) = false := beq_eq_false_iff_ne.mpr c14
            have c14b1 : (((rd_T41 l0 x11_1).f0) != 2) = true := bne_iff_ne.mpr c14
            replace H := Option.bind_eq_some_iff.mp H
            obtain ⟨t321, A270, H⟩ := H
            try dsimp only at H
            have A27 := Aside0.mk A270
            clear A270
            by_cases c28 : 1 + t321.size ≤ 9223372036854775807
            ·rw [if_pos c28] at H
             have c28b0 := eq_true c28
             have c28b1 : decide (1 + t321.size ≤ 9223372036854775807) = true := decide_eq_true c28
             try have c28b2 : (9223372036854775807 < 1 + t321.size) = False := eq_false (Nat.not_lt.2 c28)
             by_cases c29 : (x3_1 ++ ((rdOf ByteArray.empty y316 (ji8)) ++ t320)).size + ((⟨#[32]⟩ : ByteArray) ++ t321).size ≤ 9223372036854775807
             ·rw [if_pos c29] at H
              have c29b0 := eq_true c29
              have c29b1 : decide ((x3_1 ++ ((rdOf ByteArray.empty y316 (ji8)) ++ t320)).size + ((⟨#[32]⟩ : ByteArray) ++ t321).size ≤ 9223372036854775807) = true := decide_eq_true c29
              try have c29b2 : (9223372036854775807 < (x3_1 ++ ((rdOf ByteArray.empty y316 (ji8)) ++ t320)).size + ((⟨#[32]⟩ : ByteArray) ++ t321).size) = False := eq_false (Nat.not_lt.2 c29)
              have c29m : x3_1.size + ((rdOf ByteArray.empty y316 (ji8)).size + t320.size) + (1 + t321.size) ≤ 9223372036854775807 := by have h_ := c29; simp only [ByteArray.size_append] at h_; exact h_
              have c29m0 := eq_true c29m
              have c29m1 : decide (x3_1.size + ((rdOf ByteArray.empty y316 (ji8)).size + t320.size) + (1 + t321.size) ≤ 9223372036854775807) = true := decide_eq_true c29m
              have c29m2 : (9223372036854775807 < x3_1.size + ((rdOf ByteArray.empty y316 (ji8)).size + t320.size) + (1 + t321.size)) = False := eq_false (Nat.not_lt.2 c29m)
              by_cases c30 : ((x3_1 ++ ((rdOf ByteArray.empty y316 (ji8)) ++ t320)) ++ ((⟨#[32]⟩ : ByteArray) ++ t321)).size + 1 ≤ 9223372036854775807
              ·rw [if_pos c30] at H
               have c30b0 := eq_true c30
               have c30b1 : decide (((x3_1 ++ ((rdOf ByteArray.empty y316 (ji8)) ++ t320)) ++ ((⟨#[32]⟩ : ByteArray) ++ t321)).size + 1 ≤ 9223372036854775807) = true := decide_eq_true c30
               try have c30b2 : (9223372036854775807 < ((x3_1 ++ ((rdOf ByteArray.empty y316 (ji8)) ++ t320)) ++ ((⟨#[32]⟩ : ByteArray) ++ t321)).size + 1) = False := eq_false (Nat.not_lt.2 c30)
               have c30z0 : ((x3_1 ++ ((rdOf ByteArray.empty y316 (ji8)) ++ t320)) ++ ((⟨#[32]⟩ : ByteArray) ++ t321)).size < 9223372036854775807 := by have h_ := c30; simp only [ByteArray.size_append] at h_ ⊢; first | omega | (simp only [ByteArray.size] at h_ ⊢; simp at h_ ⊢; omega)
               have c30z0a := eq_true c30z0
               have c30z0b := decide_eq_true c30z0
               have c30z0c : (9223372036854775807 ≤ ((x3_1 ++ ((rdOf ByteArray.empty y316 (ji8)) ++ t320)) ++ ((⟨#[32]⟩ : ByteArray) ++ t321)).size) = False := eq_false (by omega)
               have c30z1 : x3_1.size + ((rdOf ByteArray.empty y316 (ji8)).size + t320.size) + (1 + t321.size) < 9223372036854775807 := by have h_ := c30; simp only [ByteArray.size_append] at h_ ⊢; first | omega | (simp only [ByteArray.size] at h_ ⊢; simp at h_ ⊢; omega)
               have c30z1a := eq_true c30z1
               have c30z1b := decide_eq_true c30z1
               have c30z1c : (9223372036854775807 ≤ x3_1.size + ((rdOf ByteArray.empty y316 (ji8)).size + t320.size) + (1 + t321.size)) = False := eq_false (by omega)
               have c30z2 : x3_1.size + ((rdOf ByteArray.empty y316 (ji8)).size + t320.size) + (1 + t321.size) + 1 ≤ 9223372036854775807 := by have h_ := c30; simp only [ByteArray.size_append] at h_ ⊢; first | omega | (simp only [ByteArray.size] at h_ ⊢; simp at h_ ⊢; omega)
               have c30z2a := eq_true c30z2
               have c30z2b := decide_eq_true c30z2
               have c30z2c : (9223372036854775807 < x3_1.size + ((rdOf ByteArray.empty y316 (ji8)).size + t320.size) + (1 + t321.size) + 1) = False := eq_false (by omega)
               have c30m : x3_1.size + ((rdOf ByteArray.empty y316 (ji8)).size + t320.size) + (1 + t321.size) + 1 ≤ 9223372036854775807 := by have h_ := c30; simp only [ByteArray.size_append] at h_; exact h_
               have c30m0 := eq_true c30m
               have c30m1 : decide (x3_1.size + ((rdOf ByteArray.empty y316 (ji8)).size + t320.size) + (1 + t321.size) + 1 ≤ 9223372036854775807) = true := decide_eq_true c30m
               have c30m2 : (9223372036854775807 < x3_1.size + ((rdOf ByteArray.empty y316 (ji8)).size + t320.size) + (1 + t321.size) + 1) = False := eq_false (Nat.not_lt.2 c30m)
               have H' := Aside0.mk H
               clear H
               have p314 : 0 ≤ (x11_1 : Int) := of_decide_eq_true (by first | (with_reducible assumption) | assumption)
               have q314 : x11_1 < (l0.length : Int) := of_decide_eq_true (by first | (with_reducible assumption) | assumption)
               obtain ⟨ad314, A314_1, c314_1, A314_5, c314_5, A314_6, c314_6, e314, hx314_0, hx314_1, hx314_2, hx314_3, hx314_4, hx314_5, hx314_6, hl314_1, hi314_1, hl314_5, hi314_5, hl314_6, hi314_6⟩ := at_T41 HR0.out x11_1 p314 q314
               cases e314
               replace hx314_0 := (HB.out.cell (World.block_lt_of_cell? w _ hx314_0)).trans hx314_0
               replace hx314_1 := (HB.out.cell (World.block_lt_of_cell? w _ hx314_1)).trans hx314_1
               replace hx314_2 := (HB.out.cell (World.block_lt_of_cell? w _ hx314_2)).trans hx314_2
               replace hx314_3 := (HB.out.cell (World.block_lt_of_cell? w _ hx314_3)).trans hx314_3
               replace hx314_4 := (HB.out.cell (World.block_lt_of_cell? w _ hx314_4)).trans hx314_4
               replace hx314_5 := (HB.out.cell (World.block_lt_of_cell? w _ hx314_5)).trans hx314_5
               replace hx314_6 := (HB.out.cell (World.block_lt_of_cell? w _ hx314_6)).trans hx314_6
               have HR314_1 := Aside0.mk hi314_1
               have HC314_1 := Aside0.mk hl314_1
               clear hi314_1 hl314_1
               have HR314_5 := Aside0.mk hi314_5
               have HC314_5 := Aside0.mk hl314_5
               clear hi314_5 hl314_5
               have HR314_6 := Aside0.mk hi314_6
               have HC314_6 := Aside0.mk hl314_6
               clear hi314_6 hl314_6
               replace p314 := eq_true p314
               replace q314 := eq_true q314
               try go_wp2_with (first | ((with_reducible refine gate_dst (N := 5) rfl ?_); refine box_event ?hg (N := 5) ?hd (cs := #[.int .i64 0, .slice none 0 0, .int .i64 0, .string (⟨#[]⟩ : ByteArray), .int .i64 0, .slice none 0 0, .slice none 0 0]) (t := 41) ?hr ?_; (case hd => rfl); (case hg => rfl); (case hr => go_simp); intro gb315 hg w31 hbox hb; have n0_ := Aside0.mk (below_step (qB HB) hb); have n1_ := Aside0.mk (hbox); have n2_ := Aside0.mk (qG HB hg); have n3_ := Aside0.mk (qG HB hg); clear HB; have HB := n0_; have BK315 := n1_; have GW315 := n2_; have GE315 := n3_; clear n0_ n1_ n2_ n3_; clear hb hbox hg; obtain ⟨hcz32_0, hcz32_1, hcz32_2, hcz32_3, hcz32_4, hcz32_5, hcz32_6, hfz32_0, hfz32_1, hfz32_2, hfz32_3, hfz32_4, hfz32_5, hfz32_6⟩ := blk7 BK315))
               have pi319 : (0 ≤ ((ji8) : Int)) = True := eq_true (of_decide_eq_true (by first | (with_reducible assumption) | assumption))
               have qi319 : ((ji8) < (y316.length : Int)) = True := eq_true (of_decide_eq_true (by first | (with_reducible assumption) | assumption))
               have n0_ : Aside0 ((((((((w31.setCell ⟨gb315, 0, none⟩ (.int .i64 ((rd_T41 l0 x11_1).f0))).setCell ⟨gb315, 1, none⟩ (.slice A314_1 ((rd_T41 l0 x11_1).f1).length c314_1)).setCell ⟨gb315, 2, none⟩ (.int .i64 ((rd_T41 l0 x11_1).f2.f0))).setCell ⟨gb315, 3, none⟩ (.string ((rd_T41 l0 x11_1).f2.f1))).setCell ⟨gb315, 4, none⟩ (.int .i64 ((rd_T41 l0 x11_1).f2.f2))).setCell ⟨gb315, 5, none⟩ (.slice A314_5 ((rd_T41 l0 x11_1).f2.f3).length c314_5)).setCell ⟨gb315, 6, none⟩ (.slice A314_6 ((rd_T41 l0 x11_1).f2.f4).length c314_6)).heap[gb315]? = some (.cells #[.int .i64 ((rd_T41 l0 x11_1).f0), .slice A314_1 ((rd_T41 l0 x11_1).f1).length c314_1, .int .i64 ((rd_T41 l0 x11_1).f2.f0), .string ((rd_T41 l0 x11_1).f2.f1), .int .i64 ((rd_T41 l0 x11_1).f2.f2), .slice A314_5 ((rd_T41 l0 x11_1).f2.f3).length c314_5, .slice A314_6 ((rd_T41 l0 x11_1).f2.f4).length c314_6] 41 (0, 0))) := ⟨by (with_reducible repeat (first | refine blk_drewN ?_ _ | refine blk_drew ?_ | refine blk_alloc ?_ _)); refine blk_put (cs := #[.int .i64 ((rd_T41 l0 x11_1).f0), .slice A314_1 ((rd_T41 l0 x11_1).f1).length c314_1, .int .i64 ((rd_T41 l0 x11_1).f2.f0), .string ((rd_T41 l0 x11_1).f2.f1), .int .i64 ((rd_T41 l0 x11_1).f2.f2), .slice A314_5 ((rd_T41 l0 x11_1).f2.f3).length c314_5, .slice none 0 0]) ?_ 6 _ rfl; (with_reducible repeat (first | refine blk_drewN ?_ _ | refine blk_drew ?_ | refine blk_alloc ?_ _)); refine blk_put (cs := #[.int .i64 ((rd_T41 l0 x11_1).f0), .slice A314_1 ((rd_T41 l0 x11_1).f1).length c314_1, .int .i64 ((rd_T41 l0 x11_1).f2.f0), .string ((rd_T41 l0 x11_1).f2.f1), .int .i64 ((rd_T41 l0 x11_1).f2.f2), .slice none 0 0, .slice none 0 0]) ?_ 5 _ rfl; (with_reducible repeat (first | refine blk_drewN ?_ _ | refine blk_drew ?_ | refine blk_alloc ?_ _)); refine blk_put (cs := #[.int .i64 ((rd_T41 l0 x11_1).f0), .slice A314_1 ((rd_T41 l0 x11_1).f1).length c314_1, .int .i64 ((rd_T41 l0 x11_1).f2.f0), .string ((rd_T41 l0 x11_1).f2.f1), .int .i64 0, .slice none 0 0, .slice none 0 0]) ?_ 4 _ rfl; (with_reducible repeat (first | refine blk_drewN ?_ _ | refine blk_drew ?_ | refine blk_alloc ?_ _)); refine blk_put (cs := #[.int .i64 ((rd_T41 l0 x11_1).f0), .slice A314_1 ((rd_T41 l0 x11_1).f1).length c314_1, .int .i64 ((rd_T41 l0 x11_1).f2.f0), .string (⟨#[]⟩ : ByteArray), .int .i64 0, .slice none 0 0, .slice none 0 0]) ?_ 3 _ rfl; (with_reducible repeat (first | refine blk_drewN ?_ _ | refine blk_drew ?_ | refine blk_alloc ?_ _)); refine blk_put (cs := #[.int .i64 ((rd_T41 l0 x11_1).f0), .slice A314_1 ((rd_T41 l0 x11_1).f1).length c314_1, .int .i64 0, .string (⟨#[]⟩ : ByteArray), .int .i64 0, .slice none 0 0, .slice none 0 0]) ?_ 2 _ rfl; (with_reducible repeat (first | refine blk_drewN ?_ _ | refine blk_drew ?_ | refine blk_alloc ?_ _)); refine blk_put (cs := #[.int .i64 ((rd_T41 l0 x11_1).f0), .slice none 0 0, .int .i64 0, .string (⟨#[]⟩ : ByteArray), .int .i64 0, .slice none 0 0, .slice none 0 0]) ?_ 1 _ rfl; (with_reducible repeat (first | refine blk_drewN ?_ _ | refine blk_drew ?_ | refine blk_alloc ?_ _)); refine blk_put (cs := #[.int .i64 0, .slice none 0 0, .int .i64 0, .string (⟨#[]⟩ : ByteArray), .int .i64 0, .slice none 0 0, .slice none 0 0]) ?_ 0 _ rfl; (with_reducible repeat (first | refine blk_drewN ?_ _ | refine blk_drew ?_ | refine blk_alloc ?_ _)); exact BK315.out⟩
               have n1_ : Aside0 (Below w.heap.size w (((((((w31.setCell ⟨gb315, 0, none⟩ (.int .i64 ((rd_T41 l0 x11_1).f0))).setCell ⟨gb315, 1, none⟩ (.slice A314_1 ((rd_T41 l0 x11_1).f1).length c314_1)).setCell ⟨gb315, 2, none⟩ (.int .i64 ((rd_T41 l0 x11_1).f2.f0))).setCell ⟨gb315, 3, none⟩ (.string ((rd_T41 l0 x11_1).f2.f1))).setCell ⟨gb315, 4, none⟩ (.int .i64 ((rd_T41 l0 x11_1).f2.f2))).setCell ⟨gb315, 5, none⟩ (.slice A314_5 ((rd_T41 l0 x11_1).f2.f3).length c314_5)).setCell ⟨gb315, 6, none⟩ (.slice A314_6 ((rd_T41 l0 x11_1).f2.f4).length c314_6))) := ⟨by repeat (first | (with_reducible first | exact HB.out | apply below_alloc | apply pw_below_drewN | apply below_drew1 | refine below_set ?_ GE315.out) | exact HB.out)⟩
               (try clear BK315)
               (try clear HB)
               generalize (((((((w31.setCell ⟨gb315, 0, none⟩ (.int .i64 ((rd_T41 l0 x11_1).f0))).setCell ⟨gb315, 1, none⟩ (.slice A314_1 ((rd_T41 l0 x11_1).f1).length c314_1)).setCell ⟨gb315, 2, none⟩ (.int .i64 ((rd_T41 l0 x11_1).f2.f0))).setCell ⟨gb315, 3, none⟩ (.string ((rd_T41 l0 x11_1).f2.f1))).setCell ⟨gb315, 4, none⟩ (.int .i64 ((rd_T41 l0 x11_1).f2.f2))).setCell ⟨gb315, 5, none⟩ (.slice A314_5 ((rd_T41 l0 x11_1).f2.f3).length c314_5)).setCell ⟨gb315, 6, none⟩ (.slice A314_6 ((rd_T41 l0 x11_1).f2.f4).length c314_6)) = w33 at n0_ n1_ ⊢
               have BK315 := n0_
               have HB := n1_
               clear n0_ n1_
               have n0_ := Aside0.mk (blk_drew BK315.out)
               have n1_ := Aside0.mk (below_drew1 HB.out)
               clear BK315
               clear HB
               have BK315 := n0_
               have HB := n1_
               clear n0_ n1_
               refine start_ (n := 13) (S := fun w' => True) (ds := []) #[false, false, false, false, false, false, false, false, false, false, false, false, false] (by kernel_rfl) rfl rfl trivial (fun hHeld => ?_); refine with_tabW impl_PatchText.tab7 impl_PatchText.bits7 (fun HT_ HW_ => ?_)
               generalize w33.drew = w34 at BK315 HB hHeld ⊢
               refine pure_ (i := 0) (N := some 15) (v := ?_) (a' := ?_) #[true, false, false, false, false, false, false, false, false, false, false, false, false] rfl rfl (any_of HT_.out (by kernel_rfl)) (fun _ _ _ h => h) (Or.inl ⟨by rfl, ?_⟩) ?_ ?_
               rotate_left
               ·intro w'
                go_simp
                with_reducible rfl
               rotate_left
               ·simp only [Act.put, List.setIfInBounds_toArray, List.set_cons_zero, List.set_cons_succ, i64_w, i32_w]
                rfl
               refine pure_ (i := 2) (N := some 17) (v := ?_) (a' := ?_) #[true, false, true, false, false, false, false, false, false, false, false, false, false] rfl rfl (any_of HT_.out (by kernel_rfl)) (fun _ _ _ h => h) (Or.inl ⟨by rfl, ?_⟩) ?_ ?_
               rotate_left
               ·intro w'
                go_simp
                with_reducible rfl
               rotate_left
               ·simp only [Act.put, List.setIfInBounds_toArray, List.set_cons_zero, List.set_cons_succ, i64_w, i32_w]
                rfl
               refine pure_ (i := 7) (N := some 22) (v := ?_) (a' := ?_) #[true, false, true, false, false, false, false, true, false, false, false, false, false] rfl rfl (any_of HT_.out (by kernel_rfl)) (fun _ _ _ h => h) (Or.inl ⟨by rfl, ?_⟩) ?_ ?_
               rotate_left
               ·intro w'
                go_simp
                with_reducible rfl
               rotate_left
               ·simp only [Act.put, List.setIfInBounds_toArray, List.set_cons_zero, List.set_cons_succ, i64_w, i32_w]
                rfl
               refine inv_at [1, 3, 4, 5, 6, 8, 9, 10, 11, 12] (fun a0_ b a w' => ∃ (v317 : Value) (adz_v317 : Addr) (m5_ : Value), a = putSel a0_ b [(1, 16, v317), (3, 18, .int .i64 ((rd_T41 l0 x11_1).f0)), (4, 19, .int .i64 ji8), (5, 20, m5_), (6, 21, .string (rdOf ByteArray.empty y316 (ji8))), (8, 23, .slice A314_1 ((rd_T41 l0 x11_1).f1).length c314_1), (9, 24, .string t320), (10, 25, .string ((rdOf ByteArray.empty y316 (ji8)) ++ t320)), (11, 26, .string (x3_1 ++ ((rdOf ByteArray.empty y316 (ji8)) ++ t320))), (12, 3, .string (x3_1 ++ ((rdOf ByteArray.empty y316 (ji8)) ++ t320)))] ∧ (w'.heap[gb315]? = some (.cells #[.int .i64 ((rd_T41 l0 x11_1).f0), .slice A314_1 ((rd_T41 l0 x11_1).f1).length c314_1, .int .i64 ((rd_T41 l0 x11_1).f2.f0), .string ((rd_T41 l0 x11_1).f2.f1), .int .i64 ((rd_T41 l0 x11_1).f2.f2), .slice A314_5 ((rd_T41 l0 x11_1).f2.f3).length c314_5, .slice A314_6 ((rd_T41 l0 x11_1).f2.f4).length c314_6] 41 (0, 0))) ∧ (Below w.heap.size w w') ∧ (b 1 = true → Kd.R Kd.string 9 w' w.heap.size (fun _ => True) v317 y316) ∧ (b 1 = true → ∃ c_, (v317 : Value) = .slice (some adz_v317) y316.length c_) ∧ (b 5 = true → (m5_ : Value) = .pointer (some (adz_v317.add ((ji8)).toNat)))) HT_.out HW_.out (by kernel_rfl) (by kernel_rfl) ?_ ?_ ?_
               ·exact ⟨.bool false, ⟨0, 0, none⟩, .bool false, by simp only [putSel, Bool.false_eq_true, if_false], BK315.out, HB.out, fun h_ => absurd h_ (by decide), fun h_ => absurd h_ (by decide), fun h_ => absurd h_ (by decide)⟩
               ·skip
                clear BK315 HB
                refine steps_cons ?_ ?_
                ·rintro b a w' ⟨v317, adz_v317, m5_, ha, Q_BK315, Q_HB, Q_HO318, Q_HA_HO318, Q_X5_⟩ hb_ hon hoff
                 refine ⟨_, rfl, fun K hK => ?_⟩
                 replace ha := Aside0.mk ha
                 have BK315 := Aside0.mk Q_BK315
                 have HB := Aside0.mk Q_HB
                 refine Kd.R_lit_step Kd.string _ 9 ?hg (N := 16) ?hd (xs := ([(⟨#[115, 101, 116, 32]⟩ : ByteArray), (⟨#[100, 114, 111, 112, 32]⟩ : ByteArray), (⟨#[110, 101, 101, 100, 32]⟩ : ByteArray)] : List ByteArray)) (inner := [.string (⟨#[115, 101, 116, 32]⟩ : ByteArray), .string (⟨#[100, 114, 111, 112, 32]⟩ : ByteArray), .string (⟨#[110, 101, 101, 100, 32]⟩ : ByteArray)]) (ok := fun _ => True) (okp := fun _ => True) ?hr ?hp (fun _ hk => hk) trivial (Below.refl _ _) (Nat.le_refl _) (by simp) ?_; (case hd => rfl); (case hg => rfl); (case hr => go_simp); (case hp => exact (Reps.one (show Kd.M Kd.string _ _ _ (⟨#[115, 101, 116, 32]⟩ : ByteArray) [.string (⟨#[115, 101, 116, 32]⟩ : ByteArray)] from rfl) (Reps.one (show Kd.M Kd.string _ _ _ (⟨#[100, 114, 111, 112, 32]⟩ : ByteArray) [.string (⟨#[100, 114, 111, 112, 32]⟩ : ByteArray)] from rfl) (Reps.one (show Kd.M Kd.string _ _ _ (⟨#[110, 101, 101, 100, 32]⟩ : ByteArray) [.string (⟨#[110, 101, 101, 100, 32]⟩ : ByteArray)] from rfl) (Reps.none _ _)))))
                 intro v317 w35 ho36 hb hg_ hnew_
                 clear hg_ hnew_
                 (first | rw [← Ny316.out] at ho36 | (simp only [Int.reduceToNat] at ho36; rw [← Ny316.out] at ho36))
                 have n0_ := Aside0.mk (Kd.R_lower ho36 (below_size (qB HB)))
                 have n1_ := Aside0.mk (blk_below (qK BK315) hb)
                 have n2_ := Aside0.mk (below_step (qB HB) hb)
                 clear BK315
                 clear HB
                 have HO318 := n0_
                 have BK315 := n1_
                 have HB := n2_
                 clear n0_ n1_ n2_
                 clear hb ho36
                 obtain ⟨Ao37, co37, eo37⟩ := Kd.R_slice HO318.out
                 subst eo37
                 obtain ⟨ado37, fo37, _⟩ := Kd.at_string (Kd.R_reads' HO318.out).2.2 0 (by decide) (by rw [Ny316.out]; simp)
                 cases fo37
                 refine hK.out _ _ ⟨.slice (some ado37) y316.length co37, ado37, m5_, (by rw [ha.out]; exact putSel_upk 0 hb_ rfl rfl rfl), (qK BK315), (qB HB), fun _ => (by (with_reducible repeat (first | apply Kd.R_alloc | apply Kd.R_drewN | apply Kd.R_drew)); exact HO318.out), fun _ => ⟨_, rfl⟩, fun h0_ => absurd ((hoff 5 (by kernel_rfl)).symm.trans h0_) (by decide)⟩
                refine steps_cons ?_ ?_
                ·rintro b a w' ⟨v317, adz_v317, m5_, ha, Q_BK315, Q_HB, Q_HO318, Q_HA_HO318, Q_X5_⟩ hb_ hon hoff
                 refine ⟨_, rfl, fun K hK => ?_⟩
                 have e17 : a.tmps[17]? = some (.pointer (some ⟨gb315, 0, none⟩)) := by rw [ha]; exact (putSel_off rfl).trans rfl
                 replace ha := Aside0.mk ha
                 have BK315 := Aside0.mk Q_BK315
                 have HB := Aside0.mk Q_HB
                 have hc0_ : w'.cell? ⟨gb315, 0, none⟩ = some (.int .i64 ((rd_T41 l0 x11_1).f0)) := (blk_cell BK315.out 0).trans rfl
                 have hc1_ : w'.cell? ⟨gb315, 1, none⟩ = some (.slice A314_1 ((rd_T41 l0 x11_1).f1).length c314_1) := (blk_cell BK315.out 1).trans rfl
                 have hc2_ : w'.cell? ⟨gb315, 2, none⟩ = some (.int .i64 ((rd_T41 l0 x11_1).f2.f0)) := (blk_cell BK315.out 2).trans rfl
                 have hc3_ : w'.cell? ⟨gb315, 3, none⟩ = some (.string ((rd_T41 l0 x11_1).f2.f1)) := (blk_cell BK315.out 3).trans rfl
                 have hc4_ : w'.cell? ⟨gb315, 4, none⟩ = some (.int .i64 ((rd_T41 l0 x11_1).f2.f2)) := (blk_cell BK315.out 4).trans rfl
                 have hc5_ : w'.cell? ⟨gb315, 5, none⟩ = some (.slice A314_5 ((rd_T41 l0 x11_1).f2.f3).length c314_5) := (blk_cell BK315.out 5).trans rfl
                 have hc6_ : w'.cell? ⟨gb315, 6, none⟩ = some (.slice A314_6 ((rd_T41 l0 x11_1).f2.f4).length c314_6) := (blk_cell BK315.out 6).trans rfl
                 refine value_ (w1 := w') (v := .int .i64 ((rd_T41 l0 x11_1).f0)) (by rfl) rfl ?_ ?_
                 ·go_simp
                  (try simp only [i64_w])
                  try rfl
                 refine hK.out _ _ ⟨v317, adz_v317, m5_, (by rw [ha.out]; exact putSel_upk 1 hb_ rfl rfl rfl), Q_BK315, Q_HB, Q_HO318, Q_HA_HO318, fun h0_ => absurd ((hoff 5 (by kernel_rfl)).symm.trans h0_) (by decide)⟩
                refine steps_cons ?_ ?_
                ·rintro b a w' ⟨v317, adz_v317, m5_, ha, Q_BK315, Q_HB, Q_HO318, Q_HA_HO318, Q_X5_⟩ hb_ hon hoff
                 refine ⟨_, rfl, fun K hK => ?_⟩
                 have e18 : a.tmps[18]? = some (.int .i64 ((rd_T41 l0 x11_1).f0)) := by rw [ha]; exact putSel_on (e := (3, 18, .int .i64 ((rd_T41 l0 x11_1).f0))) 1 rfl rfl (hon 3 (by kernel_rfl)) rfl
                 replace ha := Aside0.mk ha
                 have BK315 := Aside0.mk Q_BK315
                 have HB := Aside0.mk Q_HB
                 refine value_ (w1 := w') (v := .int .i64 ji8) (by rfl) rfl ?_ ?_
                 ·go_simp
                  (try simp only [i64_w])
                  try rfl
                 refine hK.out _ _ ⟨v317, adz_v317, m5_, (by rw [ha.out]; exact putSel_upk 2 hb_ rfl rfl rfl), Q_BK315, Q_HB, Q_HO318, Q_HA_HO318, fun h0_ => absurd ((hoff 5 (by kernel_rfl)).symm.trans h0_) (by decide)⟩
                refine steps_cons ?_ ?_
                ·rintro b a w' ⟨v317, adz_v317, m5_, ha, Q_BK315, Q_HB, Q_HO318, Q_HA_HO318, Q_X5_⟩ hb_ hon hoff
                 refine ⟨_, rfl, fun K hK => ?_⟩
                 have e16 : a.tmps[16]? = some (v317) := by rw [ha]; exact putSel_on (e := (1, 16, v317)) 0 rfl rfl (hon 1 (by kernel_rfl)) rfl
                 have e19 : a.tmps[19]? = some (.int .i64 ji8) := by rw [ha]; exact putSel_on (e := (4, 19, .int .i64 ji8)) 2 rfl rfl (hon 4 (by kernel_rfl)) rfl
                 replace ha := Aside0.mk ha
                 have BK315 := Aside0.mk Q_BK315
                 have HB := Aside0.mk Q_HB
                 have HO318 := Aside0.mk (Q_HO318 (hon 1 (by kernel_rfl)))
                 have HA_HO318 := Aside0.mk (Q_HA_HO318 (hon 1 (by kernel_rfl)))
                 obtain ⟨c_, hv_⟩ := HA_HO318.out
                 rw [hv_] at e16
                 refine value_ (w1 := w') (v := .pointer (some (adz_v317.add ((ji8)).toNat))) (by rfl) rfl ?_ ?_
                 ·go_simp
                  (try simp only [i64_w])
                  try rfl
                 refine hK.out _ _ ⟨v317, adz_v317, (.pointer (some (adz_v317.add ((ji8)).toNat))), (by rw [ha.out]; exact putSel_upk 3 hb_ rfl rfl rfl), Q_BK315, Q_HB, Q_HO318, Q_HA_HO318, fun _ => rfl⟩
                refine steps_cons ?_ ?_
                ·rintro b a w' ⟨v317, adz_v317, m5_, ha, Q_BK315, Q_HB, Q_HO318, Q_HA_HO318, Q_X5_⟩ hb_ hon hoff
                 refine ⟨_, rfl, fun K hK => ?_⟩
                 have e20 : a.tmps[20]? = some (m5_) := by rw [ha]; exact putSel_on (e := (5, 20, m5_)) 3 rfl rfl (hon 5 (by kernel_rfl)) rfl
                 rw [Q_X5_ (hon 5 (by kernel_rfl))] at e20
                 replace ha := Aside0.mk ha
                 have BK315 := Aside0.mk Q_BK315
                 have HB := Aside0.mk Q_HB
                 have HO318 := Aside0.mk (Q_HO318 (hon 1 (by kernel_rfl)))
                 have HA_HO318 := Aside0.mk (Q_HA_HO318 (hon 1 (by kernel_rfl)))
                 obtain ⟨c_, hv_⟩ := HA_HO318.out
                 have hF_ := HO318.out
                 rw [hv_] at hF_
                 obtain ⟨ad_, ea_, hx_⟩ := Kd.at_string (Kd.R_reads' hF_).2.2 (ji8) (of_eq_true pi319) (of_eq_true qi319)
                 cases ea_
                 refine value_ (w1 := w') (v := .string (rdOf ByteArray.empty y316 (ji8))) (by rfl) rfl ?_ ?_
                 ·go_simp
                  (try simp only [i64_w])
                  try rfl
                 refine hK.out _ _ ⟨v317, adz_v317, m5_, (by rw [ha.out]; exact putSel_upk 4 hb_ rfl rfl rfl), Q_BK315, Q_HB, Q_HO318, Q_HA_HO318, Q_X5_⟩
                refine steps_cons ?_ ?_
                ·rintro b a w' ⟨v317, adz_v317, m5_, ha, Q_BK315, Q_HB, Q_HO318, Q_HA_HO318, Q_X5_⟩ hb_ hon hoff
                 refine ⟨_, rfl, fun K hK => ?_⟩
                 have e22 : a.tmps[22]? = some (.pointer (some ⟨gb315, 1, none⟩)) := by rw [ha]; exact (putSel_off rfl).trans rfl
                 replace ha := Aside0.mk ha
                 have BK315 := Aside0.mk Q_BK315
                 have HB := Aside0.mk Q_HB
                 have hc0_ : w'.cell? ⟨gb315, 0, none⟩ = some (.int .i64 ((rd_T41 l0 x11_1).f0)) := (blk_cell BK315.out 0).trans rfl
                 have hc1_ : w'.cell? ⟨gb315, 1, none⟩ = some (.slice A314_1 ((rd_T41 l0 x11_1).f1).length c314_1) := (blk_cell BK315.out 1).trans rfl
                 have hc2_ : w'.cell? ⟨gb315, 2, none⟩ = some (.int .i64 ((rd_T41 l0 x11_1).f2.f0)) := (blk_cell BK315.out 2).trans rfl
                 have hc3_ : w'.cell? ⟨gb315, 3, none⟩ = some (.string ((rd_T41 l0 x11_1).f2.f1)) := (blk_cell BK315.out 3).trans rfl
                 have hc4_ : w'.cell? ⟨gb315, 4, none⟩ = some (.int .i64 ((rd_T41 l0 x11_1).f2.f2)) := (blk_cell BK315.out 4).trans rfl
                 have hc5_ : w'.cell? ⟨gb315, 5, none⟩ = some (.slice A314_5 ((rd_T41 l0 x11_1).f2.f3).length c314_5) := (blk_cell BK315.out 5).trans rfl
                 have hc6_ : w'.cell? ⟨gb315, 6, none⟩ = some (.slice A314_6 ((rd_T41 l0 x11_1).f2.f4).length c314_6) := (blk_cell BK315.out 6).trans rfl
                 refine value_ (w1 := w') (v := .slice A314_1 ((rd_T41 l0 x11_1).f1).length c314_1) (by rfl) rfl ?_ ?_
                 ·go_simp
                  (try simp only [i64_w])
                  try rfl
                 refine hK.out _ _ ⟨v317, adz_v317, m5_, (by rw [ha.out]; exact putSel_upk 5 hb_ rfl rfl rfl), Q_BK315, Q_HB, Q_HO318, Q_HA_HO318, Q_X5_⟩
                refine steps_cons ?_ ?_
                ·rintro b a w' ⟨v317, adz_v317, m5_, ha, Q_BK315, Q_HB, Q_HO318, Q_HA_HO318, Q_X5_⟩ hb_ hon hoff
                 refine ⟨_, rfl, fun K hK => ?_⟩
                 have e23 : a.tmps[23]? = some (.slice A314_1 ((rd_T41 l0 x11_1).f1).length c314_1) := by rw [ha]; exact putSel_on (e := (8, 23, .slice A314_1 ((rd_T41 l0 x11_1).f1).length c314_1)) 5 rfl rfl (hon 8 (by kernel_rfl)) rfl
                 replace ha := Aside0.mk ha
                 have BK315 := Aside0.mk Q_BK315
                 have HB := Aside0.mk Q_HB
                 refine goes_ Tryd.func14 (by kernel_rfl) rfl #[.slice A314_1 ((rd_T41 l0 x11_1).f1).length c314_1, .string (⟨#[47]⟩ : ByteArray)] (by rfl) rfl rfl (by first | (simp only [List.map_toArray, List.map_cons, List.map_nil, Act.eval, Array.getD_eq_getD_getElem?, Option.getD_some, e23]; done) | (simp only [List.map_toArray, List.map_cons, List.map_nil, Act.eval, Array.getD_eq_getD_getElem?, Option.getD_some, e23]; rfl)) ?_
                 with_reducible refine (strings_Join.calls _ _ ((rd_T41 l0 x11_1).f1) (⟨#[47]⟩ : ByteArray) t320 _ ?side1 ?side2 A11.out).mono ?_
                 (case side1 => exact qC HR314_1 HB)
                 (case side2 => exact HC314_1.out)
                 rintro e w35 ⟨rfl, hb⟩
                 refine ⟨_, rfl, ?_⟩
                 have n0_ := Aside0.mk (blk_below (qK BK315) hb)
                 have n1_ := Aside0.mk (below_step (qB HB) hb)
                 have z_HO318 := fun (h0_ : b 1 = true) => (show Kd.R Kd.string 9 w35 w.heap.size (fun _ => True) v317 y316 from by first | exact (Kd.R_below (by (with_reducible repeat (first | apply Kd.R_alloc | apply Kd.R_drewN | apply Kd.R_drew)); exact (Q_HO318 h0_)) hb) | exact Kd.R_mono (Kd.R_below (by (with_reducible repeat (first | apply Kd.R_alloc | apply Kd.R_drewN | apply Kd.R_drew)); exact (Q_HO318 h0_)) hb) (fun _ h_ => by first | trivial | exact h_ | exact h_.1))
                 clear BK315
                 clear HB
                 have BK315 := n0_
                 have HB := n1_
                 clear n0_ n1_
                 (try clear hb)
                 (try clear hb2)
                 (try clear hk)
                 (try clear hi)
                 refine hK.out _ _ ⟨v317, adz_v317, m5_, (by rw [ha.out]; exact putSel_upk 6 hb_ rfl rfl rfl), (qK BK315), (qB HB), z_HO318, Q_HA_HO318, Q_X5_⟩
                refine steps_cons ?_ ?_
                ·rintro b a w' ⟨v317, adz_v317, m5_, ha, Q_BK315, Q_HB, Q_HO318, Q_HA_HO318, Q_X5_⟩ hb_ hon hoff
                 refine ⟨_, rfl, fun K hK => ?_⟩
                 have e21 : a.tmps[21]? = some (.string (rdOf ByteArray.empty y316 (ji8))) := by rw [ha]; exact putSel_on (e := (6, 21, .string (rdOf ByteArray.empty y316 (ji8)))) 4 rfl rfl (hon 6 (by kernel_rfl)) rfl
                 have e24 : a.tmps[24]? = some (.string t320) := by rw [ha]; exact putSel_on (e := (9, 24, .string t320)) 6 rfl rfl (hon 9 (by kernel_rfl)) rfl
                 replace ha := Aside0.mk ha
                 have BK315 := Aside0.mk Q_BK315
                 have HB := Aside0.mk Q_HB
                 have HO318 := Aside0.mk (Q_HO318 (hon 1 (by kernel_rfl)))
                 have HA_HO318 := Aside0.mk (Q_HA_HO318 (hon 1 (by kernel_rfl)))
                 refine value_ (w1 := w') (v := .string ((rdOf ByteArray.empty y316 (ji8)) ++ t320)) (by rfl) rfl ?_ ?_
                 ·go_simp
                  (try simp only [i64_w])
                  try rfl
                 refine hK.out _ _ ⟨v317, adz_v317, m5_, (by rw [ha.out]; exact putSel_upk 7 hb_ rfl rfl rfl), Q_BK315, Q_HB, Q_HO318, Q_HA_HO318, Q_X5_⟩
                refine steps_cons ?_ ?_
                ·rintro b a w' ⟨v317, adz_v317, m5_, ha, Q_BK315, Q_HB, Q_HO318, Q_HA_HO318, Q_X5_⟩ hb_ hon hoff
                 refine ⟨_, rfl, fun K hK => ?_⟩
                 have e15 : a.tmps[15]? = some (.string x3_1) := by rw [ha]; exact (putSel_off rfl).trans rfl
                 have e25 : a.tmps[25]? = some (.string ((rdOf ByteArray.empty y316 (ji8)) ++ t320)) := by rw [ha]; exact putSel_on (e := (10, 25, .string ((rdOf ByteArray.empty y316 (ji8)) ++ t320))) 7 rfl rfl (hon 10 (by kernel_rfl)) rfl
                 replace ha := Aside0.mk ha
                 have BK315 := Aside0.mk Q_BK315
                 have HB := Aside0.mk Q_HB
                 have HO318 := Aside0.mk (Q_HO318 (hon 1 (by kernel_rfl)))
                 have HA_HO318 := Aside0.mk (Q_HA_HO318 (hon 1 (by kernel_rfl)))
                 refine value_ (w1 := w') (v := .string (x3_1 ++ ((rdOf ByteArray.empty y316 (ji8)) ++ t320))) (by rfl) rfl ?_ ?_
                 ·go_simp
                  (try simp only [i64_w])
                  try rfl
                 refine hK.out _ _ ⟨v317, adz_v317, m5_, (by rw [ha.out]; exact putSel_upk 8 hb_ rfl rfl rfl), Q_BK315, Q_HB, Q_HO318, Q_HA_HO318, Q_X5_⟩
                refine steps_cons ?_ ?_
                ·rintro b a w' ⟨v317, adz_v317, m5_, ha, Q_BK315, Q_HB, Q_HO318, Q_HA_HO318, Q_X5_⟩ hb_ hon hoff
                 refine ⟨_, rfl, fun K hK => ?_⟩
                 have e26 : a.tmps[26]? = some (.string (x3_1 ++ ((rdOf ByteArray.empty y316 (ji8)) ++ t320))) := by rw [ha]; exact putSel_on (e := (11, 26, .string (x3_1 ++ ((rdOf ByteArray.empty y316 (ji8)) ++ t320)))) 8 rfl rfl (hon 11 (by kernel_rfl)) rfl
                 replace ha := Aside0.mk ha
                 have BK315 := Aside0.mk Q_BK315
                 have HB := Aside0.mk Q_HB
                 have HO318 := Aside0.mk (Q_HO318 (hon 1 (by kernel_rfl)))
                 have HA_HO318 := Aside0.mk (Q_HA_HO318 (hon 1 (by kernel_rfl)))
                 refine value_ (w1 := w') (v := .string (x3_1 ++ ((rdOf ByteArray.empty y316 (ji8)) ++ t320))) (by rfl) rfl ?_ ?_
                 ·go_simp
                  (try simp only [i64_w])
                  try rfl
                 refine hK.out _ _ ⟨v317, adz_v317, m5_, (by rw [ha.out]; exact putSel_upk 9 hb_ rfl rfl rfl), Q_BK315, Q_HB, Q_HO318, Q_HA_HO318, Q_X5_⟩
                exact steps_nil
               rintro b a w39 hall ⟨v317, adz_v317, m5_, ha, Q_BK315, Q_HB, Q_HO318, Q_HA_HO318, Q_X5_⟩
               clear BK315 HB
               have hb1_ := hall 1 (by kernel_rfl)
               have hb3_ := hall 3 (by kernel_rfl)
               have hb4_ := hall 4 (by kernel_rfl)
               have hb5_ := hall 5 (by kernel_rfl)
               have hb6_ := hall 6 (by kernel_rfl)
               have hb8_ := hall 8 (by kernel_rfl)
               have hb9_ := hall 9 (by kernel_rfl)
               have hb10_ := hall 10 (by kernel_rfl)
               have hb11_ := hall 11 (by kernel_rfl)
               have hb12_ := hall 12 (by kernel_rfl)
               subst ha
               obtain rfl := Q_X5_ hb5_
               simp only [putSel, hb1_, hb3_, hb4_, hb5_, hb6_, hb8_, hb9_, hb10_, hb11_, hb12_, if_true, Act.put, List.setIfInBounds_toArray, List.set_cons_zero, List.set_cons_succ]
               have BK315 := Aside0.mk Q_BK315
               clear Q_BK315
               have HB := Aside0.mk Q_HB
               clear Q_HB
               have HO318 := Aside0.mk (Q_HO318 hb1_)
               clear Q_HO318
               have HA_HO318 := Aside0.mk (Q_HA_HO318 hb1_)
               clear Q_HA_HO318
               clear hall hb1_ hb3_ hb4_ hb5_ hb6_ hb8_ hb9_ hb10_ hb11_ hb12_
               obtain ⟨co40, eo40⟩ := HA_HO318.out
               clear HA_HO318
               subst eo40
               obtain ⟨hcz41_0, hcz41_1, hcz41_2, hcz41_3, hcz41_4, hcz41_5, hcz41_6, hfz41_0, hfz41_1, hfz41_2, hfz41_3, hfz41_4, hfz41_5, hfz41_6⟩ := blk7 BK315
               try go_wp2_with (first | ((with_reducible refine gate_callee (f := 15) rfl ?_); refine goesL_ (some 33) rfl rfl Tryd.func15 (by kernel_rfl) rfl #[.agg #[.int .i64 ((rd_T41 l0 x11_1).f2.f0), .string ((rd_T41 l0 x11_1).f2.f1), .int .i64 ((rd_T41 l0 x11_1).f2.f2), .slice A314_5 ((rd_T41 l0 x11_1).f2.f3).length c314_5, .slice A314_6 ((rd_T41 l0 x11_1).f2.f4).length c314_6]] rfl (by (try simp only [List.map_toArray, List.map_cons, List.map_nil]); first | done | rfl | (simp only [List.length_drop, List.length_take]; rfl)) ?_; (with_reducible refine (impl_ValueText.calls k1 ((rd_T41 l0 x11_1).f2.f0) ((rd_T41 l0 x11_1).f2.f1) ((rd_T41 l0 x11_1).f2.f2) _ _ ((rd_T41 l0 x11_1).f2.f3) _ _ ((rd_T41 l0 x11_1).f2.f4) t321 _ (qC HR314_5 HB) HC314_5.out (qC HR314_6 HB) HC314_6.out (SH.below hsh_ (qB HB)) A27.out).mono ?_); rintro e w42 ⟨rfl, hb⟩; refine ⟨_, rfl, ?_⟩; have n0_ := Aside0.mk (Kd.R_below (by (with_reducible repeat (first | apply Kd.R_alloc | apply Kd.R_drewN | apply Kd.R_drew)); exact HO318.out) hb); have n1_ := Aside0.mk (blk_below (qK BK315) hb); have n2_ := Aside0.mk (below_step (qB HB) hb); clear HO318; clear BK315; clear HB; have HO318 := n0_; have BK315 := n1_; have HB := n2_; clear n0_ n1_ n2_; (try clear hb); (try clear hb2); (try clear hk); (try clear hi)))
               go_roundg k1
               case measure => have := HK1.out; omega
               case rel => exact ⟨(((x3_1 ++ ((rdOf ByteArray.empty y316 (ji8)) ++ t320)) ++ ((⟨#[32]⟩ : ByteArray) ++ t321)) ++ (⟨#[10]⟩ : ByteArray)), (wrap64 (x11_1 + 1)), (by first | rfl | (simp; done) | (simp only [← hji8] <;> (first | rfl | simp)) | (simp [*]; done)), (by first | rfl | (simp; done) | (simp [*]; done)), H', ⟨by have := HK1.out; omega⟩, ⟨qB HB⟩⟩
              ·rw [if_neg c30] at H
               exact absurd H (by simp)
             ·rw [if_neg c29] at H
              exact absurd H (by simp)
            ·rw [if_neg c28] at H
             exact absurd H (by simp)
          ·rw [if_neg c13] at H
           exact absurd H (by simp)
         ·rw [if_neg c12] at H
          exact absurd H (by simp)
        ·rw [if_neg c10] at H
         exact absurd H (by simp)
       ·rw [if_neg c9] at H
        exact absurd H (by simp)
      ·rw [if_neg c7] at H
       exact absurd H (by simp)
     ·rw [if_neg c6] at H
      exact absurd H (by simp)
    ·rw [if_neg c5] at H
     have c5b0 : decide (x11_1 < (l0.length : Int)) = false := decide_eq_false c5
     clear c5
     obtain rfl := Option.some.inj H
     go_wp2
     go_ret
     exact ⟨by first | rfl | (simp [errW_none, errW_some] <;> rfl) | (simp [*, errW_none, errW_some] <;> rfl), by repeat (first | (with_reducible first | exact HB.out | apply below_alloc | apply pw_below_drewN | apply below_drew1) | exact HB.out)⟩
 ·replace c3 := Bool.eq_false_iff.mpr c3
  subst c3
  have H1 : (some (⟨#[]⟩ : ByteArray)) = some r := by rw [if_neg (show ¬ (false = true) by decide)] at H; exact H
  clear H
  have H := H1
  clear H1
  obtain rfl := Option.some.inj H
  go_enter Tryd.func7, Tryd.ntmps7
  go_wp2_with (first | ((with_reducible refine gate_callee (f := 13) rfl ?_); refine goesL_ (some 7) rfl rfl Tryd.func13 (by kernel_rfl) rfl #[.slice A0 l0.length c0] rfl (by (try simp only [List.map_toArray, List.map_cons, List.map_nil]); first | done | rfl | (simp only [List.length_drop, List.length_take]; rfl)) ?_; (with_reducible refine (impl_PatchOk.calls k _ _ l0 false _ (qC0 HR0) HC0.out A2.out).mono ?_); rintro e w43 ⟨rfl, hb⟩; refine ⟨_, rfl, ?_⟩; have n0_ := Aside0.mk (below_step (qB HB) hb); clear HB; have HB := n0_; clear n0_; (try clear hb); (try clear hb2); (try clear hk); (try clear hi)))
  go_ret
  exact ⟨by first | rfl | (simp [errW_none, errW_some] <;> rfl) | (simp [*, errW_none, errW_some] <;> rfl), by repeat (first | (with_reducible first | exact HB.out | apply below_alloc | apply pw_below_drewN | apply below_drew1) | exact HB.out)⟩

end Go.Proofs.YtgcgkcchoghkaaaDoor.G
