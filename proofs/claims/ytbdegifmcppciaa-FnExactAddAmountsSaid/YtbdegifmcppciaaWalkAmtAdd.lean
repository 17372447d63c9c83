/-
  The laws on amounts with two results, walked.
-/
import Derived.Test.YtbdegifmcppciaaWalkAmt
namespace Go.Proofs.Ytbdegifmcppciaa
open Go.RowKit
set_option linter.unusedVariables false
set_option linter.unusedSimpArgs false
noncomputable def addA (x y : Amt) : Amt := if amtOk x = true ∧ amtOk y = true ∧ amtOk ⟨x.a + y.a, x.b + y.b, x.c + y.c⟩ = true then ⟨x.a + y.a, x.b + y.b, x.c + y.c⟩ else amtZero
noncomputable def addB (x y : Amt) : Bool := if amtOk x = true ∧ amtOk y = true ∧ amtOk ⟨x.a + y.a, x.b + y.b, x.c + y.c⟩ = true then true else false
theorem addV_eq (x y : Amt) : addV x y = .tuple #[.agg #[.int .i64 (addA x y).a, .int .i64 (addA x y).b, .int .i64 (addA x y).c], .bool (addB x y)] := by
  unfold addV addA addB
  split <;> rfl
theorem eqAmounts3 (a b c : Int) (w : World) : Calls Try.prog 26 #[.agg #[.int .i64 a, .int .i64 b, .int .i64 c], .agg #[.int .i64 a, .int .i64 b, .int .i64 c]] w fun e w' => e = .returned (.bool true) ∧ Below w.heap.size w w' := eqAmounts_same ⟨a, b, c⟩ w
theorem specAdd3 (a b c p q r : Int) (w : World) : Calls Try.prog 24 #[.agg #[.int .i64 a, .int .i64 b, .int .i64 c], .agg #[.int .i64 p, .int .i64 q, .int .i64 r]] w fun e w' => e = .returned (.tuple #[.agg #[.int .i64 (addA ⟨a, b, c⟩ ⟨p, q, r⟩).a, .int .i64 (addA ⟨a, b, c⟩ ⟨p, q, r⟩).b, .int .i64 (addA ⟨a, b, c⟩ ⟨p, q, r⟩).c], .bool (addB ⟨a, b, c⟩ ⟨p, q, r⟩)]) ∧ Below w.heap.size w w' := by
  rw [← addV_eq]; exact specAddAmounts_any ⟨a, b, c⟩ ⟨p, q, r⟩ w
theorem implAdd3 (a b c p q r : Int) (w : World) : Calls Try.prog 25 #[.agg #[.int .i64 a, .int .i64 b, .int .i64 c], .agg #[.int .i64 p, .int .i64 q, .int .i64 r]] w fun e w' => e = .returned (.tuple #[.agg #[.int .i64 (addA ⟨a, b, c⟩ ⟨p, q, r⟩).a, .int .i64 (addA ⟨a, b, c⟩ ⟨p, q, r⟩).b, .int .i64 (addA ⟨a, b, c⟩ ⟨p, q, r⟩).c], .bool (addB ⟨a, b, c⟩ ⟨p, q, r⟩)]) ∧ Below w.heap.size w w' := by
  rw [← addV_eq]; exact implAddAmounts_any ⟨a, b, c⟩ ⟨p, q, r⟩ w
set_option maxHeartbeats 20000000 in
theorem law_AddAmounts (x y : Amt) (w : World) : Calls Try.prog 8 #[x.v, y.v] w fun e w' => e = .returned (.bool true) ∧ Below w.heap.size w w' := by
  obtain ⟨a, b, c⟩ := x
  obtain ⟨p, q, r⟩ := y
  unfold Amt.v
  go_enter Try.func8, Try.ntmps8
  go_upto_region 1 with fail
  have h0 : (fun W : World => W.cell? ⟨w.heap.size, 0, none⟩ = some (.int .i64 a) ∧ W.cell? ⟨w.heap.size, 1, none⟩ = some (.int .i64 b) ∧ W.cell? ⟨w.heap.size, 2, none⟩ = some (.int .i64 c) ∧ W.cell? ⟨w.heap.size + 1, 0, none⟩ = some (.int .i64 p) ∧ W.cell? ⟨w.heap.size + 1, 1, none⟩ = some (.int .i64 q) ∧ W.cell? ⟨w.heap.size + 1, 2, none⟩ = some (.int .i64 r) ∧ Below w.heap.size w W ∧ w.heap.size + 1 < W.heap.size) ((w.alloc (.cells #[.int .i64 a, .int .i64 b, .int .i64 c] 26)).alloc (.cells #[.int .i64 p, .int .i64 q, .int .i64 r] 26)) := by
    refine ⟨by simp, by simp, by simp, by simp, by simp, by simp, belowA (belowA (Below.refl _ _) _) _, by simp⟩
  generalize (w.alloc (.cells #[.int .i64 a, .int .i64 b, .int .i64 c] 26)).alloc (.cells #[.int .i64 p, .int .i64 q, .int .i64 r] 26) = W0 at h0 ⊢
  obtain ⟨c0, c1, c2, d0, d1, d2, hb0, hs0⟩ := h0
  have hs1 : w.heap.size < W0.heap.size := by omega
  have HB0 := Lib.hid hb0
  clear hb0
  go_cut [5, 6] (fun s5 s6 W => ∃ g : Nat, s5 = .pointer (some ⟨g, 0, none⟩) ∧ s6 = .bool (addB ⟨a, b, c⟩ ⟨p, q, r⟩) ∧ g < W.heap.size ∧ W.cell? ⟨g, 0, none⟩ = some (.int .i64 (addA ⟨a, b, c⟩ ⟨p, q, r⟩).a) ∧ W.cell? ⟨g, 1, none⟩ = some (.int .i64 (addA ⟨a, b, c⟩ ⟨p, q, r⟩).b) ∧ W.cell? ⟨g, 2, none⟩ = some (.int .i64 (addA ⟨a, b, c⟩ ⟨p, q, r⟩).c) ∧ Below W0.heap.size W0 W)
  case first =>
    go_region_with (first | (go_at_call 18; first | (have _t := hb2; clear _t; refine (toAmounts3 _ _ _ _).mono ?_; rintro e w3 ⟨rfl, hb3⟩; obtain ⟨hc3, hf3⟩ := bcell hb3; have hz3 := hb3.size; (try simp only [World.size_alloc, World.size_drew] at hz3); (try have _k : W0.heap.size < w3.heap.size := by omega); (try have _k : w1.heap.size < w3.heap.size := by omega); (try have _k : w2.heap.size < w3.heap.size := by omega); (try have _c := fun o => hc3 (W0.heap.size) o (by (try simp only [World.size_alloc, World.size_drew]); omega)); (try have _f := fun o => hf3 (W0.heap.size) o (by (try simp only [World.size_alloc, World.size_drew]); omega)); (try have _c := fun o => hc3 (w1.heap.size) o (by (try simp only [World.size_alloc, World.size_drew]); omega)); (try have _f := fun o => hf3 (w1.heap.size) o (by (try simp only [World.size_alloc, World.size_drew]); omega)); (try have _c := fun o => hc3 (w2.heap.size) o (by (try simp only [World.size_alloc, World.size_drew]); omega)); (try have _f := fun o => hf3 (w2.heap.size) o (by (try simp only [World.size_alloc, World.size_drew]); omega)); clear hc3 hf3) | (have _t := hb1; clear _t; refine (toAmounts3 _ _ _ _).mono ?_; rintro e w2 ⟨rfl, hb2⟩; obtain ⟨hc2, hf2⟩ := bcell hb2; have hz2 := hb2.size; (try simp only [World.size_alloc, World.size_drew] at hz2); (try have _k : W0.heap.size < w2.heap.size := by omega); (try have _k : w1.heap.size < w2.heap.size := by omega); (try have _c := fun o => hc2 (W0.heap.size) o (by (try simp only [World.size_alloc, World.size_drew]); omega)); (try have _f := fun o => hf2 (W0.heap.size) o (by (try simp only [World.size_alloc, World.size_drew]); omega)); (try have _c := fun o => hc2 (w1.heap.size) o (by (try simp only [World.size_alloc, World.size_drew]); omega)); (try have _f := fun o => hf2 (w1.heap.size) o (by (try simp only [World.size_alloc, World.size_drew]); omega)); clear hc2 hf2) | (refine (toAmounts3 _ _ _ _).mono ?_; rintro e w1 ⟨rfl, hb1⟩; obtain ⟨hc1, hf1⟩ := bcell hb1; have hz1 := hb1.size; (try simp only [World.size_alloc, World.size_drew] at hz1); (try have _k : w.heap.size < w1.heap.size := by omega); (try have _k : w.heap.size + 1 < w1.heap.size := by omega); (try have _k : W0.heap.size < w1.heap.size := by omega); (try have _c := fun o => hc1 (w.heap.size) o (by (try simp only [World.size_alloc, World.size_drew]); omega)); (try have _f := fun o => hf1 (w.heap.size) o (by (try simp only [World.size_alloc, World.size_drew]); omega)); (try have _c := fun o => hc1 (w.heap.size + 1) o (by (try simp only [World.size_alloc, World.size_drew]); omega)); (try have _f := fun o => hf1 (w.heap.size + 1) o (by (try simp only [World.size_alloc, World.size_drew]); omega)); (try have _c := fun o => hc1 (W0.heap.size) o (by (try simp only [World.size_alloc, World.size_drew]); omega)); (try have _f := fun o => hf1 (W0.heap.size) o (by (try simp only [World.size_alloc, World.size_drew]); omega)); clear hc1 hf1)) | (go_at_call 24; first | (have _t := hb2; clear _t; refine (specAdd3 _ _ _ _ _ _ _).mono ?_; rintro e w3 ⟨rfl, hb3⟩; obtain ⟨hc3, hf3⟩ := bcell hb3; have hz3 := hb3.size; (try simp only [World.size_alloc, World.size_drew] at hz3); (try have _k : W0.heap.size < w3.heap.size := by omega); (try have _k : w1.heap.size < w3.heap.size := by omega); (try have _k : w2.heap.size < w3.heap.size := by omega); (try have _c := fun o => hc3 (W0.heap.size) o (by (try simp only [World.size_alloc, World.size_drew]); omega)); (try have _f := fun o => hf3 (W0.heap.size) o (by (try simp only [World.size_alloc, World.size_drew]); omega)); (try have _c := fun o => hc3 (w1.heap.size) o (by (try simp only [World.size_alloc, World.size_drew]); omega)); (try have _f := fun o => hf3 (w1.heap.size) o (by (try simp only [World.size_alloc, World.size_drew]); omega)); (try have _c := fun o => hc3 (w2.heap.size) o (by (try simp only [World.size_alloc, World.size_drew]); omega)); (try have _f := fun o => hf3 (w2.heap.size) o (by (try simp only [World.size_alloc, World.size_drew]); omega)); clear hc3 hf3) | (have _t := hb1; clear _t; refine (specAdd3 _ _ _ _ _ _ _).mono ?_; rintro e w2 ⟨rfl, hb2⟩; obtain ⟨hc2, hf2⟩ := bcell hb2; have hz2 := hb2.size; (try simp only [World.size_alloc, World.size_drew] at hz2); (try have _k : W0.heap.size < w2.heap.size := by omega); (try have _k : w1.heap.size < w2.heap.size := by omega); (try have _c := fun o => hc2 (W0.heap.size) o (by (try simp only [World.size_alloc, World.size_drew]); omega)); (try have _f := fun o => hf2 (W0.heap.size) o (by (try simp only [World.size_alloc, World.size_drew]); omega)); (try have _c := fun o => hc2 (w1.heap.size) o (by (try simp only [World.size_alloc, World.size_drew]); omega)); (try have _f := fun o => hf2 (w1.heap.size) o (by (try simp only [World.size_alloc, World.size_drew]); omega)); clear hc2 hf2) | (refine (specAdd3 _ _ _ _ _ _ _).mono ?_; rintro e w1 ⟨rfl, hb1⟩; obtain ⟨hc1, hf1⟩ := bcell hb1; have hz1 := hb1.size; (try simp only [World.size_alloc, World.size_drew] at hz1); (try have _k : W0.heap.size < w1.heap.size := by omega); (try have _c := fun o => hc1 (W0.heap.size) o (by (try simp only [World.size_alloc, World.size_drew]); omega)); (try have _f := fun o => hf1 (W0.heap.size) o (by (try simp only [World.size_alloc, World.size_drew]); omega)); clear hc1 hf1)))
    all_goals go_wp2_with fail
    all_goals go_meet
    all_goals
      refine ⟨_, rfl, rfl, ?_, ?_, ?_, ?_, ?_⟩
      · simp only [World.size_alloc, World.size_setCell, World.size_drew]; omega
      · go_simp
      · go_simp
      · go_simp
      · repeat (first | with_reducible exact Below.refl _ _ | with_reducible refine belowA ?_ _ | with_reducible refine belowD ?_ | with_reducible refine belowS ?_ _ _ (by omega) _ | with_reducible refine belowT ?_ hb3 | with_reducible refine belowT ?_ hb2 | with_reducible refine belowT ?_ hb1)
  case rest =>
    obtain ⟨g, rfl, rfl, hg, e0, e1, e2, hbW⟩ := hcut
    have c0 := below_cell hbW c0
    have c1 := below_cell hbW c1
    have c2 := below_cell hbW c2
    have d0 := below_cell hbW d0
    have d1 := below_cell hbW d1
    have d2 := below_cell hbW d2
    have hsz := hbW.size
    have hs0 : w.heap.size + 1 < wc.heap.size := by omega
    have hs1 : w.heap.size < wc.heap.size := by omega
    have HB1 := Lib.hid (belowT HB0.out hbW)
    have E := Lib.hid (And.intro e0 (And.intro e1 e2))
    clear hbW e0 e1 e2 hsz
    go_upto_region 2 with fail
    go_cut [7, 8] (fun s7 s8 W => ∃ g : Nat, s7 = .pointer (some ⟨g, 0, none⟩) ∧ s8 = .bool (addB ⟨a, b, c⟩ ⟨p, q, r⟩) ∧ g < W.heap.size ∧ W.cell? ⟨g, 0, none⟩ = some (.int .i64 (addA ⟨a, b, c⟩ ⟨p, q, r⟩).a) ∧ W.cell? ⟨g, 1, none⟩ = some (.int .i64 (addA ⟨a, b, c⟩ ⟨p, q, r⟩).b) ∧ W.cell? ⟨g, 2, none⟩ = some (.int .i64 (addA ⟨a, b, c⟩ ⟨p, q, r⟩).c) ∧ Below wc.heap.size wc W)
    case first =>
      go_region_with (first | (go_at_call 18; first | (have _t := hb2; clear _t; refine (toAmounts3 _ _ _ _).mono ?_; rintro e w3 ⟨rfl, hb3⟩; obtain ⟨hc3, hf3⟩ := bcell hb3; have hz3 := hb3.size; (try simp only [World.size_alloc, World.size_drew] at hz3); (try have _k : wc.heap.size < w3.heap.size := by omega); (try have _k : w1.heap.size < w3.heap.size := by omega); (try have _k : w2.heap.size < w3.heap.size := by omega); (try have _c := fun o => hc3 (wc.heap.size) o (by (try simp only [World.size_alloc, World.size_drew]); omega)); (try have _f := fun o => hf3 (wc.heap.size) o (by (try simp only [World.size_alloc, World.size_drew]); omega)); (try have _c := fun o => hc3 (w1.heap.size) o (by (try simp only [World.size_alloc, World.size_drew]); omega)); (try have _f := fun o => hf3 (w1.heap.size) o (by (try simp only [World.size_alloc, World.size_drew]); omega)); (try have _c := fun o => hc3 (w2.heap.size) o (by (try simp only [World.size_alloc, World.size_drew]); omega)); (try have _f := fun o => hf3 (w2.heap.size) o (by (try simp only [World.size_alloc, World.size_drew]); omega)); clear hc3 hf3) | (have _t := hb1; clear _t; refine (toAmounts3 _ _ _ _).mono ?_; rintro e w2 ⟨rfl, hb2⟩; obtain ⟨hc2, hf2⟩ := bcell hb2; have hz2 := hb2.size; (try simp only [World.size_alloc, World.size_drew] at hz2); (try have _k : wc.heap.size < w2.heap.size := by omega); (try have _k : w1.heap.size < w2.heap.size := by omega); (try have _c := fun o => hc2 (wc.heap.size) o (by (try simp only [World.size_alloc, World.size_drew]); omega)); (try have _f := fun o => hf2 (wc.heap.size) o (by (try simp only [World.size_alloc, World.size_drew]); omega)); (try have _c := fun o => hc2 (w1.heap.size) o (by (try simp only [World.size_alloc, World.size_drew]); omega)); (try have _f := fun o => hf2 (w1.heap.size) o (by (try simp only [World.size_alloc, World.size_drew]); omega)); clear hc2 hf2) | (refine (toAmounts3 _ _ _ _).mono ?_; rintro e w1 ⟨rfl, hb1⟩; obtain ⟨hc1, hf1⟩ := bcell hb1; have hz1 := hb1.size; (try simp only [World.size_alloc, World.size_drew] at hz1); (try have _k : w.heap.size < w1.heap.size := by omega); (try have _k : w.heap.size + 1 < w1.heap.size := by omega); (try have _k : wc.heap.size < w1.heap.size := by omega); (try have _c := fun o => hc1 (w.heap.size) o (by (try simp only [World.size_alloc, World.size_drew]); omega)); (try have _f := fun o => hf1 (w.heap.size) o (by (try simp only [World.size_alloc, World.size_drew]); omega)); (try have _c := fun o => hc1 (w.heap.size + 1) o (by (try simp only [World.size_alloc, World.size_drew]); omega)); (try have _f := fun o => hf1 (w.heap.size + 1) o (by (try simp only [World.size_alloc, World.size_drew]); omega)); (try have _c := fun o => hc1 (wc.heap.size) o (by (try simp only [World.size_alloc, World.size_drew]); omega)); (try have _f := fun o => hf1 (wc.heap.size) o (by (try simp only [World.size_alloc, World.size_drew]); omega)); clear hc1 hf1)) | (go_at_call 25; first | (have _t := hb2; clear _t; refine (implAdd3 _ _ _ _ _ _ _).mono ?_; rintro e w3 ⟨rfl, hb3⟩; obtain ⟨hc3, hf3⟩ := bcell hb3; have hz3 := hb3.size; (try simp only [World.size_alloc, World.size_drew] at hz3); (try have _k : wc.heap.size < w3.heap.size := by omega); (try have _k : w1.heap.size < w3.heap.size := by omega); (try have _k : w2.heap.size < w3.heap.size := by omega); (try have _c := fun o => hc3 (wc.heap.size) o (by (try simp only [World.size_alloc, World.size_drew]); omega)); (try have _f := fun o => hf3 (wc.heap.size) o (by (try simp only [World.size_alloc, World.size_drew]); omega)); (try have _c := fun o => hc3 (w1.heap.size) o (by (try simp only [World.size_alloc, World.size_drew]); omega)); (try have _f := fun o => hf3 (w1.heap.size) o (by (try simp only [World.size_alloc, World.size_drew]); omega)); (try have _c := fun o => hc3 (w2.heap.size) o (by (try simp only [World.size_alloc, World.size_drew]); omega)); (try have _f := fun o => hf3 (w2.heap.size) o (by (try simp only [World.size_alloc, World.size_drew]); omega)); clear hc3 hf3) | (have _t := hb1; clear _t; refine (implAdd3 _ _ _ _ _ _ _).mono ?_; rintro e w2 ⟨rfl, hb2⟩; obtain ⟨hc2, hf2⟩ := bcell hb2; have hz2 := hb2.size; (try simp only [World.size_alloc, World.size_drew] at hz2); (try have _k : wc.heap.size < w2.heap.size := by omega); (try have _k : w1.heap.size < w2.heap.size := by omega); (try have _c := fun o => hc2 (wc.heap.size) o (by (try simp only [World.size_alloc, World.size_drew]); omega)); (try have _f := fun o => hf2 (wc.heap.size) o (by (try simp only [World.size_alloc, World.size_drew]); omega)); (try have _c := fun o => hc2 (w1.heap.size) o (by (try simp only [World.size_alloc, World.size_drew]); omega)); (try have _f := fun o => hf2 (w1.heap.size) o (by (try simp only [World.size_alloc, World.size_drew]); omega)); clear hc2 hf2) | (refine (implAdd3 _ _ _ _ _ _ _).mono ?_; rintro e w1 ⟨rfl, hb1⟩; obtain ⟨hc1, hf1⟩ := bcell hb1; have hz1 := hb1.size; (try simp only [World.size_alloc, World.size_drew] at hz1); (try have _k : wc.heap.size < w1.heap.size := by omega); (try have _c := fun o => hc1 (wc.heap.size) o (by (try simp only [World.size_alloc, World.size_drew]); omega)); (try have _f := fun o => hf1 (wc.heap.size) o (by (try simp only [World.size_alloc, World.size_drew]); omega)); clear hc1 hf1)))
      all_goals go_wp2_with fail
      all_goals go_meet
      all_goals
        refine ⟨_, rfl, rfl, ?_, ?_, ?_, ?_, ?_⟩
        · simp only [World.size_alloc, World.size_setCell, World.size_drew]; omega
        · go_simp
        · go_simp
        · go_simp
        · repeat (first | with_reducible exact Below.refl _ _ | with_reducible refine belowA ?_ _ | with_reducible refine belowD ?_ | with_reducible refine belowS ?_ _ _ (by omega) _ | with_reducible refine belowT ?_ hb3 | with_reducible refine belowT ?_ hb2 | with_reducible refine belowT ?_ hb1)
    case rest =>
      obtain ⟨g', rfl, rfl, hg', k0, k1, k2, hbW⟩ := hcut
      obtain ⟨e0, e1, e2⟩ := E.out
      have e0 := below_cell hbW e0
      have e1 := below_cell hbW e1
      have e2 := below_cell hbW e2
      have HB2 := Lib.hid (belowT HB1.out hbW)
      clear hbW c0 c1 c2 d0 d1 d2
      go_wp2_with fail
      refine (eqAmounts3 _ _ _ _).mono ?_
      rintro e w' ⟨rfl, hb⟩
      have b2 := belowT HB2.out hb
      go_wp2
      go_ret
      exact ⟨rfl, b2⟩
end Go.Proofs.Ytbdegifmcppciaa
