/-
  Amounts: Fits.
-/
import Derived.Test.YtbdegifmcppciaaAmt2
namespace Go.Proofs.Ytbdegifmcppciaa
open Go.RowKit
set_option linter.unusedVariables false
set_option linter.unusedSimpArgs false

def fitsUp (x y : Amt) : Nat → Int
  | 0 => 1000000
  | 1 => fitStep 1000000 x.a y.a
  | 2 => fitStep (fitStep 1000000 x.a y.a) x.b y.b
  | _ => fitStep (fitStep (fitStep 1000000 x.a y.a) x.b y.b) x.c y.c
def Amt.at (x : Amt) : Nat → Int
  | 0 => x.a
  | 1 => x.b
  | _ => x.c
theorem fitsUp_succ (x y : Amt) (k : Nat) (hk : k < 3) : fitsUp x y (k + 1) = fitStep (fitsUp x y k) (x.at k) (y.at k) := by
  match k, hk with
  | 0, _ => rfl
  | 1, _ => rfl
  | 2, _ => rfl
theorem amt_at (x : Amt) (hx : amtOk x = true) (k : Nat) : 0 ≤ x.at k ∧ x.at k ≤ 1000000000000000 := by
  obtain ⟨h1, h2, h3⟩ := amtOk_iff.1 hx
  match k with
  | 0 => exact h1
  | 1 => exact h2
  | _ + 2 => exact h3
def Amt.cs (x : Amt) : Array Value := #[.int .i64 x.a, .int .i64 x.b, .int .i64 x.c]
theorem amt_cell {w : World} {g : Nat} {x : Amt} {t : TypeId} (h : w.heap[g]? = some (.cells x.cs t (0, 0))) (k : Nat) (hk : k < 3) : w.cell? ⟨g, k, none⟩ = some (.int .i64 (x.at k)) := by
  rw [cell_of_row w g k x.cs t (0, 0) h]
  match k, hk with
  | 0, _ => rfl
  | 1, _ => rfl
  | 2, _ => rfl
theorem amt_two {W : World} {c d e f : Array Value} {t : TypeId} : ((((W.alloc (.cells c t)).alloc (.cells d t)).alloc (.cells e t)).alloc (.cells f t)).heap[W.heap.size]? = some (.cells c t (0, 0)) ∧ ((((W.alloc (.cells c t)).alloc (.cells d t)).alloc (.cells e t)).alloc (.cells f t)).heap[W.heap.size + 1]? = some (.cells d t (0, 0)) := by
  constructor
  · rw [Below.heap_alloc _ _ _ (by simp; omega), Below.heap_alloc _ _ _ (by simp; omega), Below.heap_alloc _ _ _ (by simp), heap_alloc_new]
  · rw [Below.heap_alloc _ _ _ (by simp), Below.heap_alloc _ _ _ (by simp)]
    have := heap_alloc_new (W.alloc (.cells c t)) (.cells d t)
    simpa using this
set_option maxHeartbeats 1600000 in
theorem specFits_any (x y : Amt) (w : World) : Calls Try.prog 20 #[x.v, y.v] w fun e w' => e = .returned (.int .i64 (fitsOf x y)) ∧ Below w.heap.size w w' := by
  obtain ⟨a, b, c⟩ := x
  obtain ⟨p, q, r⟩ := y
  by_cases hx : amtOk ⟨a, b, c⟩ = true
  · by_cases hy : amtOk ⟨p, q, r⟩ = true
    · obtain ⟨⟨a1, a2⟩, ⟨b1, b2⟩, c1, c2⟩ := amtOk_iff.1 hx
      obtain ⟨⟨p1, p2⟩, ⟨q1, q2⟩, r1, r2⟩ := amtOk_iff.1 hy
      dsimp only at a1 a2 b1 b2 c1 c2 p1 p2 q1 q2 r1 r2
      have HV : Hid (fitsOf ⟨a, b, c⟩ ⟨p, q, r⟩ = fitsUp ⟨a, b, c⟩ ⟨p, q, r⟩ 3) := by unfold Hid fitsOf; rw [if_pos ⟨hx, hy⟩]; rfl
      have f0 : fitsUp ⟨a, b, c⟩ ⟨p, q, r⟩ 0 = 1000000 := rfl
      have F0 := Lib.hid f0
      clear f0
      unfold Amt.v
      go_enter Try.func20, Try.ntmps20
      go_wp2_with (go_at_call 17; refine (specAmountsOk_any ⟨_, _, _⟩ _).mono ?_; rintro e w' ⟨rfl, rfl⟩)
      go_loopw [5, 6] (fun nn i wr => ∃ k : Nat, k ≤ 3 ∧ i = .int .i64 k ∧ nn = .int .i64 (fitsUp ⟨a, b, c⟩ ⟨p, q, r⟩ k) ∧ Hid (wr.heap[w.heap.size]? = some (.cells (Amt.cs ⟨a, b, c⟩) 28 (0, 0)) ∧ wr.heap[w.heap.size + 1]? = some (.cells (Amt.cs ⟨p, q, r⟩) 28 (0, 0))) ∧ Below w.heap.size w wr) (fun _ i _ => 3 - (intOf i).toNat)
      case atStart => exact ⟨0, by omega, rfl, rfl, amt_two, by repeat (first | (with_reducible exact Below.refl _ _) | (with_reducible refine belowS ?_ _ _ (by omega) _) | (with_reducible refine belowA ?_ _) | (with_reducible refine belowN ?_ _) | (with_reducible refine belowD ?_))⟩
      case round =>
        obtain ⟨k, hk, rfl, rfl, HW, hb⟩ := hrel
        have HB := Lib.hid hb
        clear hb
        by_cases hlt : k < 3
        · match k, hlt with
          | 0, hlt =>
            have HS := Lib.hid (fitsUp_succ ⟨a, b, c⟩ ⟨p, q, r⟩ 0 (by omega))
            have cx : wr.cell? ⟨w.heap.size, 0, none⟩ = some (.int .i64 a) := amt_cell HW.out.1 0 (by omega)
            have cy : wr.cell? ⟨w.heap.size + 1, 0, none⟩ = some (.int .i64 p) := amt_cell HW.out.2 0 (by omega)
            by_cases he : 0 < a
            · obtain ⟨hq0, hq1⟩ := quo_bound (e := a) (r := p) he (by omega) (by omega)
              have hlow : 1 ≤ a := he
              by_cases hl : p / a < fitsUp ⟨a, b, c⟩ ⟨p, q, r⟩ 0
              · have HR : Hid (fitStep (fitsUp ⟨a, b, c⟩ ⟨p, q, r⟩ 0) a p = p / a) := by unfold Hid fitStep; rw [if_pos he, if_pos hl]
                go_wp2; go_quiet (fail); go_wp2; go_quiet (fail); go_wp2
                go_roundw
                case rel => exact ⟨0 + 1, by omega, by go_num, by rw [HS.out]; first | exact congrArg (Value.int .i64) HR.out.symm | exact congrArg (Value.int .i64) ((if_neg (by simpa using hld)).trans HR.out.symm), HW, by repeat (first | (with_reducible exact Below.refl _ _) | (with_reducible exact HB.out) | (with_reducible refine belowS ?_ _ _ (by omega) _) | (with_reducible refine belowA ?_ _) | (with_reducible refine belowN ?_ _) | (with_reducible refine belowD ?_))⟩
                case measure => simp [intOf]
              · have HR : Hid (fitStep (fitsUp ⟨a, b, c⟩ ⟨p, q, r⟩ 0) a p = fitsUp ⟨a, b, c⟩ ⟨p, q, r⟩ 0) := by unfold Hid fitStep; rw [if_pos he, if_neg hl]
                have hld : decide (p / a < fitsUp ⟨a, b, c⟩ ⟨p, q, r⟩ 0) = false := by simpa using hl
                clear hl
                go_wp2; go_quiet (fail); go_wp2
                go_roundw
                case rel => exact ⟨0 + 1, by omega, by go_num, by rw [HS.out]; first | exact congrArg (Value.int .i64) HR.out.symm | exact congrArg (Value.int .i64) ((if_neg (by simpa using hld)).trans HR.out.symm), HW, by repeat (first | (with_reducible exact Below.refl _ _) | (with_reducible exact HB.out) | (with_reducible refine belowS ?_ _ _ (by omega) _) | (with_reducible refine belowA ?_ _) | (with_reducible refine belowN ?_ _) | (with_reducible refine belowD ?_))⟩
                case measure => simp [intOf]
            · have HR : Hid (fitStep (fitsUp ⟨a, b, c⟩ ⟨p, q, r⟩ 0) a p = fitsUp ⟨a, b, c⟩ ⟨p, q, r⟩ 0) := by unfold Hid fitStep; rw [if_neg he]
              have hed : decide (0 < a) = false := by simpa using he
              clear he
              go_wp2; go_quiet (fail); go_wp2
              go_roundw
              case rel => exact ⟨0 + 1, by omega, by go_num, by rw [HS.out]; first | exact congrArg (Value.int .i64) HR.out.symm | exact congrArg (Value.int .i64) ((if_neg (by simpa using hld)).trans HR.out.symm), HW, by repeat (first | (with_reducible exact Below.refl _ _) | (with_reducible exact HB.out) | (with_reducible refine belowS ?_ _ _ (by omega) _) | (with_reducible refine belowA ?_ _) | (with_reducible refine belowN ?_ _) | (with_reducible refine belowD ?_))⟩
              case measure => simp [intOf]
          | 1, hlt =>
            have HS := Lib.hid (fitsUp_succ ⟨a, b, c⟩ ⟨p, q, r⟩ 1 (by omega))
            have cx : wr.cell? ⟨w.heap.size, 1, none⟩ = some (.int .i64 b) := amt_cell HW.out.1 1 (by omega)
            have cy : wr.cell? ⟨w.heap.size + 1, 1, none⟩ = some (.int .i64 q) := amt_cell HW.out.2 1 (by omega)
            by_cases he : 0 < b
            · obtain ⟨hq0, hq1⟩ := quo_bound (e := b) (r := q) he (by omega) (by omega)
              have hlow : 1 ≤ b := he
              by_cases hl : q / b < fitsUp ⟨a, b, c⟩ ⟨p, q, r⟩ 1
              · have HR : Hid (fitStep (fitsUp ⟨a, b, c⟩ ⟨p, q, r⟩ 1) b q = q / b) := by unfold Hid fitStep; rw [if_pos he, if_pos hl]
                go_wp2; go_quiet (fail); go_wp2; go_quiet (fail); go_wp2
                go_roundw
                case rel => exact ⟨1 + 1, by omega, by go_num, by rw [HS.out]; first | exact congrArg (Value.int .i64) HR.out.symm | exact congrArg (Value.int .i64) ((if_neg (by simpa using hld)).trans HR.out.symm), HW, by repeat (first | (with_reducible exact Below.refl _ _) | (with_reducible exact HB.out) | (with_reducible refine belowS ?_ _ _ (by omega) _) | (with_reducible refine belowA ?_ _) | (with_reducible refine belowN ?_ _) | (with_reducible refine belowD ?_))⟩
                case measure => simp [intOf]
              · have HR : Hid (fitStep (fitsUp ⟨a, b, c⟩ ⟨p, q, r⟩ 1) b q = fitsUp ⟨a, b, c⟩ ⟨p, q, r⟩ 1) := by unfold Hid fitStep; rw [if_pos he, if_neg hl]
                have hld : decide (q / b < fitsUp ⟨a, b, c⟩ ⟨p, q, r⟩ 1) = false := by simpa using hl
                clear hl
                go_wp2; go_quiet (fail); go_wp2
                go_roundw
                case rel => exact ⟨1 + 1, by omega, by go_num, by rw [HS.out]; first | exact congrArg (Value.int .i64) HR.out.symm | exact congrArg (Value.int .i64) ((if_neg (by simpa using hld)).trans HR.out.symm), HW, by repeat (first | (with_reducible exact Below.refl _ _) | (with_reducible exact HB.out) | (with_reducible refine belowS ?_ _ _ (by omega) _) | (with_reducible refine belowA ?_ _) | (with_reducible refine belowN ?_ _) | (with_reducible refine belowD ?_))⟩
                case measure => simp [intOf]
            · have HR : Hid (fitStep (fitsUp ⟨a, b, c⟩ ⟨p, q, r⟩ 1) b q = fitsUp ⟨a, b, c⟩ ⟨p, q, r⟩ 1) := by unfold Hid fitStep; rw [if_neg he]
              have hed : decide (0 < b) = false := by simpa using he
              clear he
              go_wp2; go_quiet (fail); go_wp2
              go_roundw
              case rel => exact ⟨1 + 1, by omega, by go_num, by rw [HS.out]; first | exact congrArg (Value.int .i64) HR.out.symm | exact congrArg (Value.int .i64) ((if_neg (by simpa using hld)).trans HR.out.symm), HW, by repeat (first | (with_reducible exact Below.refl _ _) | (with_reducible exact HB.out) | (with_reducible refine belowS ?_ _ _ (by omega) _) | (with_reducible refine belowA ?_ _) | (with_reducible refine belowN ?_ _) | (with_reducible refine belowD ?_))⟩
              case measure => simp [intOf]
          | 2, hlt =>
            have HS := Lib.hid (fitsUp_succ ⟨a, b, c⟩ ⟨p, q, r⟩ 2 (by omega))
            have cx : wr.cell? ⟨w.heap.size, 2, none⟩ = some (.int .i64 c) := amt_cell HW.out.1 2 (by omega)
            have cy : wr.cell? ⟨w.heap.size + 1, 2, none⟩ = some (.int .i64 r) := amt_cell HW.out.2 2 (by omega)
            by_cases he : 0 < c
            · obtain ⟨hq0, hq1⟩ := quo_bound (e := c) (r := r) he (by omega) (by omega)
              have hlow : 1 ≤ c := he
              by_cases hl : r / c < fitsUp ⟨a, b, c⟩ ⟨p, q, r⟩ 2
              · have HR : Hid (fitStep (fitsUp ⟨a, b, c⟩ ⟨p, q, r⟩ 2) c r = r / c) := by unfold Hid fitStep; rw [if_pos he, if_pos hl]
                go_wp2; go_quiet (fail); go_wp2; go_quiet (fail); go_wp2
                go_roundw
                case rel => exact ⟨2 + 1, by omega, by go_num, by rw [HS.out]; first | exact congrArg (Value.int .i64) HR.out.symm | exact congrArg (Value.int .i64) ((if_neg (by simpa using hld)).trans HR.out.symm), HW, by repeat (first | (with_reducible exact Below.refl _ _) | (with_reducible exact HB.out) | (with_reducible refine belowS ?_ _ _ (by omega) _) | (with_reducible refine belowA ?_ _) | (with_reducible refine belowN ?_ _) | (with_reducible refine belowD ?_))⟩
                case measure => simp [intOf]
              · have HR : Hid (fitStep (fitsUp ⟨a, b, c⟩ ⟨p, q, r⟩ 2) c r = fitsUp ⟨a, b, c⟩ ⟨p, q, r⟩ 2) := by unfold Hid fitStep; rw [if_pos he, if_neg hl]
                have hld : decide (r / c < fitsUp ⟨a, b, c⟩ ⟨p, q, r⟩ 2) = false := by simpa using hl
                clear hl
                go_wp2; go_quiet (fail); go_wp2
                go_roundw
                case rel => exact ⟨2 + 1, by omega, by go_num, by rw [HS.out]; first | exact congrArg (Value.int .i64) HR.out.symm | exact congrArg (Value.int .i64) ((if_neg (by simpa using hld)).trans HR.out.symm), HW, by repeat (first | (with_reducible exact Below.refl _ _) | (with_reducible exact HB.out) | (with_reducible refine belowS ?_ _ _ (by omega) _) | (with_reducible refine belowA ?_ _) | (with_reducible refine belowN ?_ _) | (with_reducible refine belowD ?_))⟩
                case measure => simp [intOf]
            · have HR : Hid (fitStep (fitsUp ⟨a, b, c⟩ ⟨p, q, r⟩ 2) c r = fitsUp ⟨a, b, c⟩ ⟨p, q, r⟩ 2) := by unfold Hid fitStep; rw [if_neg he]
              have hed : decide (0 < c) = false := by simpa using he
              clear he
              go_wp2; go_quiet (fail); go_wp2
              go_roundw
              case rel => exact ⟨2 + 1, by omega, by go_num, by rw [HS.out]; first | exact congrArg (Value.int .i64) HR.out.symm | exact congrArg (Value.int .i64) ((if_neg (by simpa using hld)).trans HR.out.symm), HW, by repeat (first | (with_reducible exact Below.refl _ _) | (with_reducible exact HB.out) | (with_reducible refine belowS ?_ _ _ (by omega) _) | (with_reducible refine belowA ?_ _) | (with_reducible refine belowN ?_ _) | (with_reducible refine belowD ?_))⟩
              case measure => simp [intOf]
        · obtain rfl : k = 3 := by omega
          go_wp2
          go_ret
          exact ⟨by rw [HV.out]; rfl, HB.out⟩
    · have hy' : amtOk ⟨p, q, r⟩ = false := by simpa using hy
      have HV : Hid (fitsOf ⟨a, b, c⟩ ⟨p, q, r⟩ = 0) := by unfold Hid fitsOf; rw [if_neg (fun h => hy h.2)]
      clear hy
      unfold Amt.v
      go_enter Try.func20, Try.ntmps20
      go_wp2_with (go_at_call 17; refine (specAmountsOk_any ⟨_, _, _⟩ _).mono ?_; rintro e w' ⟨rfl, rfl⟩)
      go_ret
      exact ⟨by rw [HV.out]; rfl, by repeat (first | (with_reducible exact Below.refl _ _) | (with_reducible refine belowS ?_ _ _ (by omega) _) | (with_reducible refine belowA ?_ _) | (with_reducible refine belowN ?_ _) | (with_reducible refine belowD ?_))⟩
  · have hx' : amtOk ⟨a, b, c⟩ = false := by simpa using hx
    have HV : Hid (fitsOf ⟨a, b, c⟩ ⟨p, q, r⟩ = 0) := by unfold Hid fitsOf; rw [if_neg (fun h => hx h.1)]
    clear hx
    unfold Amt.v
    go_enter Try.func20, Try.ntmps20
    go_wp2_with (go_at_call 17; refine (specAmountsOk_any ⟨_, _, _⟩ _).mono ?_; rintro e w' ⟨rfl, rfl⟩)
    go_ret
    exact ⟨by rw [HV.out]; rfl, by repeat (first | (with_reducible exact Below.refl _ _) | (with_reducible refine belowS ?_ _ _ (by omega) _) | (with_reducible refine belowA ?_ _) | (with_reducible refine belowN ?_ _) | (with_reducible refine belowD ?_))⟩
set_option maxHeartbeats 1600000 in
theorem implFits_any (x y : Amt) (w : World) : Calls Try.prog 21 #[x.v, y.v] w fun e w' => e = .returned (.int .i64 (fitsOf x y)) ∧ Below w.heap.size w w' := by
  obtain ⟨a, b, c⟩ := x
  obtain ⟨p, q, r⟩ := y
  have ix0 : ∀ w, (Instr.index 24 (.agg #[.int .i64 a, .int .i64 b, .int .i64 c]) (.int .i64 0)).run Try.prog w = .ok (.int .i64 a) w := fun _ => by kernel_rfl
  have ix1 : ∀ w, (Instr.index 24 (.agg #[.int .i64 a, .int .i64 b, .int .i64 c]) (.int .i64 1)).run Try.prog w = .ok (.int .i64 b) w := fun _ => by kernel_rfl
  have ix2 : ∀ w, (Instr.index 24 (.agg #[.int .i64 a, .int .i64 b, .int .i64 c]) (.int .i64 2)).run Try.prog w = .ok (.int .i64 c) w := fun _ => by kernel_rfl
  by_cases hx : amtOk ⟨a, b, c⟩ = true
  · by_cases hy : amtOk ⟨p, q, r⟩ = true
    · obtain ⟨⟨a1, a2⟩, ⟨b1, b2⟩, c1, c2⟩ := amtOk_iff.1 hx
      obtain ⟨⟨p1, p2⟩, ⟨q1, q2⟩, r1, r2⟩ := amtOk_iff.1 hy
      dsimp only at a1 a2 b1 b2 c1 c2 p1 p2 q1 q2 r1 r2
      have HV : Hid (fitsOf ⟨a, b, c⟩ ⟨p, q, r⟩ = fitsUp ⟨a, b, c⟩ ⟨p, q, r⟩ 3) := by unfold Hid fitsOf; rw [if_pos ⟨hx, hy⟩]; rfl
      have f0 : fitsUp ⟨a, b, c⟩ ⟨p, q, r⟩ 0 = 1000000 := rfl
      have F0 := Lib.hid f0
      clear f0
      unfold Amt.v
      go_enter Try.func21, Try.ntmps21
      go_wp2_with (go_at_call 19; refine (implAmountsOk_any ⟨_, _, _⟩ _).mono ?_; rintro e w' ⟨rfl, rfl⟩)
      go_loopw [5, 6, 7, 18] (fun nn _ _ i wr => ∃ k : Nat, k ≤ 3 ∧ i = .int .i64 k ∧ nn = .int .i64 (fitsUp ⟨a, b, c⟩ ⟨p, q, r⟩ k) ∧ Hid (wr.heap[w.heap.size]? = some (.cells (Amt.cs ⟨a, b, c⟩) 28 (0, 0)) ∧ wr.heap[w.heap.size + 1]? = some (.cells (Amt.cs ⟨p, q, r⟩) 28 (0, 0))) ∧ Below w.heap.size w wr) (fun _ _ _ i _ => 3 - (intOf i).toNat)
      case atStart => exact ⟨0, by omega, rfl, rfl, amt_two, by repeat (first | (with_reducible exact Below.refl _ _) | (with_reducible refine belowS ?_ _ _ (by omega) _) | (with_reducible refine belowA ?_ _) | (with_reducible refine belowN ?_ _) | (with_reducible refine belowD ?_))⟩
      case round =>
        obtain ⟨k, hk, rfl, rfl, HW, hb⟩ := hrel
        have HB := Lib.hid hb
        clear hb
        by_cases hlt : k < 3
        · match k, hlt with
          | 0, hlt =>
            have HS := Lib.hid (fitsUp_succ ⟨a, b, c⟩ ⟨p, q, r⟩ 0 (by omega))
            have cx : wr.cell? ⟨w.heap.size, 0, none⟩ = some (.int .i64 a) := amt_cell HW.out.1 0 (by omega)
            have cy : wr.cell? ⟨w.heap.size + 1, 0, none⟩ = some (.int .i64 p) := amt_cell HW.out.2 0 (by omega)
            by_cases he : 0 < a
            · obtain ⟨hq0, hq1⟩ := quo_bound (e := a) (r := p) he (by omega) (by omega)
              have hlow : 1 ≤ a := he
              by_cases hl : p / a < fitsUp ⟨a, b, c⟩ ⟨p, q, r⟩ 0
              · have HR : Hid (fitStep (fitsUp ⟨a, b, c⟩ ⟨p, q, r⟩ 0) a p = p / a) := by unfold Hid fitStep; rw [if_pos he, if_pos hl]
                go_wp2
                go_roundw
                case rel => exact ⟨0 + 1, by omega, by go_num, by rw [HS.out]; first | exact congrArg (Value.int .i64) HR.out.symm | exact congrArg (Value.int .i64) ((if_neg (by simpa using hld)).trans HR.out.symm), HW, by repeat (first | (with_reducible exact Below.refl _ _) | (with_reducible exact HB.out) | (with_reducible refine belowS ?_ _ _ (by omega) _) | (with_reducible refine belowA ?_ _) | (with_reducible refine belowN ?_ _) | (with_reducible refine belowD ?_))⟩
                case measure => simp [intOf]
              · have HR : Hid (fitStep (fitsUp ⟨a, b, c⟩ ⟨p, q, r⟩ 0) a p = fitsUp ⟨a, b, c⟩ ⟨p, q, r⟩ 0) := by unfold Hid fitStep; rw [if_pos he, if_neg hl]
                have hld : decide (p / a < fitsUp ⟨a, b, c⟩ ⟨p, q, r⟩ 0) = false := by simpa using hl
                clear hl
                go_wp2
                go_roundw
                case rel => exact ⟨0 + 1, by omega, by go_num, by rw [HS.out]; first | exact congrArg (Value.int .i64) HR.out.symm | exact congrArg (Value.int .i64) ((if_neg (by simpa using hld)).trans HR.out.symm), HW, by repeat (first | (with_reducible exact Below.refl _ _) | (with_reducible exact HB.out) | (with_reducible refine belowS ?_ _ _ (by omega) _) | (with_reducible refine belowA ?_ _) | (with_reducible refine belowN ?_ _) | (with_reducible refine belowD ?_))⟩
                case measure => simp [intOf]
            · have HR : Hid (fitStep (fitsUp ⟨a, b, c⟩ ⟨p, q, r⟩ 0) a p = fitsUp ⟨a, b, c⟩ ⟨p, q, r⟩ 0) := by unfold Hid fitStep; rw [if_neg he]
              have hed : decide (0 < a) = false := by simpa using he
              clear he
              go_wp2
              go_roundw
              case rel => exact ⟨0 + 1, by omega, by go_num, by rw [HS.out]; first | exact congrArg (Value.int .i64) HR.out.symm | exact congrArg (Value.int .i64) ((if_neg (by simpa using hld)).trans HR.out.symm), HW, by repeat (first | (with_reducible exact Below.refl _ _) | (with_reducible exact HB.out) | (with_reducible refine belowS ?_ _ _ (by omega) _) | (with_reducible refine belowA ?_ _) | (with_reducible refine belowN ?_ _) | (with_reducible refine belowD ?_))⟩
              case measure => simp [intOf]
          | 1, hlt =>
            have HS := Lib.hid (fitsUp_succ ⟨a, b, c⟩ ⟨p, q, r⟩ 1 (by omega))
            have cx : wr.cell? ⟨w.heap.size, 1, none⟩ = some (.int .i64 b) := amt_cell HW.out.1 1 (by omega)
            have cy : wr.cell? ⟨w.heap.size + 1, 1, none⟩ = some (.int .i64 q) := amt_cell HW.out.2 1 (by omega)
            by_cases he : 0 < b
            · obtain ⟨hq0, hq1⟩ := quo_bound (e := b) (r := q) he (by omega) (by omega)
              have hlow : 1 ≤ b := he
              by_cases hl : q / b < fitsUp ⟨a, b, c⟩ ⟨p, q, r⟩ 1
              · have HR : Hid (fitStep (fitsUp ⟨a, b, c⟩ ⟨p, q, r⟩ 1) b q = q / b) := by unfold Hid fitStep; rw [if_pos he, if_pos hl]
                go_wp2
                go_roundw
                case rel => exact ⟨1 + 1, by omega, by go_num, by rw [HS.out]; first | exact congrArg (Value.int .i64) HR.out.symm | exact congrArg (Value.int .i64) ((if_neg (by simpa using hld)).trans HR.out.symm), HW, by repeat (first | (with_reducible exact Below.refl _ _) | (with_reducible exact HB.out) | (with_reducible refine belowS ?_ _ _ (by omega) _) | (with_reducible refine belowA ?_ _) | (with_reducible refine belowN ?_ _) | (with_reducible refine belowD ?_))⟩
                case measure => simp [intOf]
              · have HR : Hid (fitStep (fitsUp ⟨a, b, c⟩ ⟨p, q, r⟩ 1) b q = fitsUp ⟨a, b, c⟩ ⟨p, q, r⟩ 1) := by unfold Hid fitStep; rw [if_pos he, if_neg hl]
                have hld : decide (q / b < fitsUp ⟨a, b, c⟩ ⟨p, q, r⟩ 1) = false := by simpa using hl
                clear hl
                go_wp2
                go_roundw
                case rel => exact ⟨1 + 1, by omega, by go_num, by rw [HS.out]; first | exact congrArg (Value.int .i64) HR.out.symm | exact congrArg (Value.int .i64) ((if_neg (by simpa using hld)).trans HR.out.symm), HW, by repeat (first | (with_reducible exact Below.refl _ _) | (with_reducible exact HB.out) | (with_reducible refine belowS ?_ _ _ (by omega) _) | (with_reducible refine belowA ?_ _) | (with_reducible refine belowN ?_ _) | (with_reducible refine belowD ?_))⟩
                case measure => simp [intOf]
            · have HR : Hid (fitStep (fitsUp ⟨a, b, c⟩ ⟨p, q, r⟩ 1) b q = fitsUp ⟨a, b, c⟩ ⟨p, q, r⟩ 1) := by unfold Hid fitStep; rw [if_neg he]
              have hed : decide (0 < b) = false := by simpa using he
              clear he
              go_wp2
              go_roundw
              case rel => exact ⟨1 + 1, by omega, by go_num, by rw [HS.out]; first | exact congrArg (Value.int .i64) HR.out.symm | exact congrArg (Value.int .i64) ((if_neg (by simpa using hld)).trans HR.out.symm), HW, by repeat (first | (with_reducible exact Below.refl _ _) | (with_reducible exact HB.out) | (with_reducible refine belowS ?_ _ _ (by omega) _) | (with_reducible refine belowA ?_ _) | (with_reducible refine belowN ?_ _) | (with_reducible refine belowD ?_))⟩
              case measure => simp [intOf]
          | 2, hlt =>
            have HS := Lib.hid (fitsUp_succ ⟨a, b, c⟩ ⟨p, q, r⟩ 2 (by omega))
            have cx : wr.cell? ⟨w.heap.size, 2, none⟩ = some (.int .i64 c) := amt_cell HW.out.1 2 (by omega)
            have cy : wr.cell? ⟨w.heap.size + 1, 2, none⟩ = some (.int .i64 r) := amt_cell HW.out.2 2 (by omega)
            by_cases he : 0 < c
            · obtain ⟨hq0, hq1⟩ := quo_bound (e := c) (r := r) he (by omega) (by omega)
              have hlow : 1 ≤ c := he
              by_cases hl : r / c < fitsUp ⟨a, b, c⟩ ⟨p, q, r⟩ 2
              · have HR : Hid (fitStep (fitsUp ⟨a, b, c⟩ ⟨p, q, r⟩ 2) c r = r / c) := by unfold Hid fitStep; rw [if_pos he, if_pos hl]
                go_wp2
                go_roundw
                case rel => exact ⟨2 + 1, by omega, by go_num, by rw [HS.out]; first | exact congrArg (Value.int .i64) HR.out.symm | exact congrArg (Value.int .i64) ((if_neg (by simpa using hld)).trans HR.out.symm), HW, by repeat (first | (with_reducible exact Below.refl _ _) | (with_reducible exact HB.out) | (with_reducible refine belowS ?_ _ _ (by omega) _) | (with_reducible refine belowA ?_ _) | (with_reducible refine belowN ?_ _) | (with_reducible refine belowD ?_))⟩
                case measure => simp [intOf]
              · have HR : Hid (fitStep (fitsUp ⟨a, b, c⟩ ⟨p, q, r⟩ 2) c r = fitsUp ⟨a, b, c⟩ ⟨p, q, r⟩ 2) := by unfold Hid fitStep; rw [if_pos he, if_neg hl]
                have hld : decide (r / c < fitsUp ⟨a, b, c⟩ ⟨p, q, r⟩ 2) = false := by simpa using hl
                clear hl
                go_wp2
                go_roundw
                case rel => exact ⟨2 + 1, by omega, by go_num, by rw [HS.out]; first | exact congrArg (Value.int .i64) HR.out.symm | exact congrArg (Value.int .i64) ((if_neg (by simpa using hld)).trans HR.out.symm), HW, by repeat (first | (with_reducible exact Below.refl _ _) | (with_reducible exact HB.out) | (with_reducible refine belowS ?_ _ _ (by omega) _) | (with_reducible refine belowA ?_ _) | (with_reducible refine belowN ?_ _) | (with_reducible refine belowD ?_))⟩
                case measure => simp [intOf]
            · have HR : Hid (fitStep (fitsUp ⟨a, b, c⟩ ⟨p, q, r⟩ 2) c r = fitsUp ⟨a, b, c⟩ ⟨p, q, r⟩ 2) := by unfold Hid fitStep; rw [if_neg he]
              have hed : decide (0 < c) = false := by simpa using he
              clear he
              go_wp2
              go_roundw
              case rel => exact ⟨2 + 1, by omega, by go_num, by rw [HS.out]; first | exact congrArg (Value.int .i64) HR.out.symm | exact congrArg (Value.int .i64) ((if_neg (by simpa using hld)).trans HR.out.symm), HW, by repeat (first | (with_reducible exact Below.refl _ _) | (with_reducible exact HB.out) | (with_reducible refine belowS ?_ _ _ (by omega) _) | (with_reducible refine belowA ?_ _) | (with_reducible refine belowN ?_ _) | (with_reducible refine belowD ?_))⟩
              case measure => simp [intOf]
        · obtain rfl : k = 3 := by omega
          go_wp2
          go_ret
          exact ⟨by rw [HV.out]; rfl, HB.out⟩
    · have hy' : amtOk ⟨p, q, r⟩ = false := by simpa using hy
      have HV : Hid (fitsOf ⟨a, b, c⟩ ⟨p, q, r⟩ = 0) := by unfold Hid fitsOf; rw [if_neg (fun h => hy h.2)]
      clear hy
      unfold Amt.v
      go_enter Try.func21, Try.ntmps21
      go_wp2_with (go_at_call 19; refine (implAmountsOk_any ⟨_, _, _⟩ _).mono ?_; rintro e w' ⟨rfl, rfl⟩)
      go_ret
      exact ⟨by rw [HV.out]; rfl, by repeat (first | (with_reducible exact Below.refl _ _) | (with_reducible refine belowS ?_ _ _ (by omega) _) | (with_reducible refine belowA ?_ _) | (with_reducible refine belowN ?_ _) | (with_reducible refine belowD ?_))⟩
  · have hx' : amtOk ⟨a, b, c⟩ = false := by simpa using hx
    have HV : Hid (fitsOf ⟨a, b, c⟩ ⟨p, q, r⟩ = 0) := by unfold Hid fitsOf; rw [if_neg (fun h => hx h.1)]
    clear hx
    unfold Amt.v
    go_enter Try.func21, Try.ntmps21
    go_wp2_with (go_at_call 19; refine (implAmountsOk_any ⟨_, _, _⟩ _).mono ?_; rintro e w' ⟨rfl, rfl⟩)
    go_ret
    exact ⟨by rw [HV.out]; rfl, by repeat (first | (with_reducible exact Below.refl _ _) | (with_reducible refine belowS ?_ _ _ (by omega) _) | (with_reducible refine belowA ?_ _) | (with_reducible refine belowN ?_ _) | (with_reducible refine belowD ?_))⟩
end Go.Proofs.Ytbdegifmcppciaa
