import Derived.Test.YtchhognpijobcaaMFnExactReach1
import Derived.Test.YtchhognpijobcaaMFnExactReach12
/- G76 -/
-- Laid by wip/g/gprint.py out of the translation, by the kit's print program. Lean checks it.
namespace Go.Proofs.Ytchhognpijobcaa.G
open Go.RowKit Go.Proofs.YtchhognpijobcaaW.PrintWords Go.Proofs.YtchhognpijobcaaW.PrintLast Go.Proofs.YtchhognpijobcaaW.PrintMore
attribute [local go_sem] max2_int min2_int max_two min_two max_three min_three max_four min_four   -- for this text's walks alone
set_option linter.unusedVariables false
set_option linter.unusedSimpArgs false

/-! ### laws_heldValueS: function 76 -/
mutual
def laws_heldValueS.l0 : Nat → List (S30) → Int → Int → Option (Int)
  | 0, _, _, _ => none
  | k + 1, x0, x1, x5 => if x5 < (x0.length : Int) then (if 0 ≤ x5 then (if ((rd_T30 x0 x5).f0) = x1 then ((laws_markText.f k (wrap64 (x1 + 1))).bind fun t605 => (if ((rd_T30 x0 x5).f1).toList = t605.toList then (if ((rd_T30 x0 x5).f2) = (wrap64 ((wrap64 (x1 + 1)) + 1)) then ((laws_heldStringS.f k ((rd_T30 x0 x5).f3) (wrap64 ((wrap64 ((wrap64 (x1 + 1)) + 1)) + 1))).bind fun t608 => (if t608 < 0 then (some (-1)) else ((laws_heldValueS.f k ((rd_T30 x0 x5).f4) t608).bind fun t610 => (if t610 < 0 then (some (-1)) else (laws_heldValueS.l0 k x0 t610 (wrap64 (x5 + 1))))))) else (some (-1))) else (some (-1)))) else (some (-1))) else (none)) else (some x1)
def laws_heldValueS.f : Nat → List (S30) → Int → Option (Int)
  | 0, _, _ => none
  | k + 1, l0, a1 => laws_heldValueS.l0 k l0 a1 0
end
def laws_heldValueS.T7 : Bool × List (List Nat × List Nat) := (true, [([], []), ([], []), ([0, 1], [0, 1]), ([2], [2]), ([3], [3]), ([], []), ([5], [5]), ([4, 6], [4, 6])])
def laws_heldValueS.B7 : List Nat := [0, 0, 3, 7, 15, 0, 32, 127]
theorem laws_heldValueS.tab7 : rtab .any (opsOf Try.f76 7) = laws_heldValueS.T7 := by kernel_rfl
theorem laws_heldValueS.bits7 : waitsOk laws_heldValueS.T7.2 laws_heldValueS.B7 = true := by kernel_rfl
set_option maxHeartbeats 8000000 in
set_option maxRecDepth 100000 in
theorem laws_heldValueS.calls (k : Nat) : ∀ (A0 : Option Addr) (c0 : Nat) (l0 : List (S30)) (a1 : Int) (r : Int) (w : World) (hr0 : Kd.C k30 w A0 l0.length l0) (hc0 : l0.length ≤ c0) (h : laws_heldValueS.f k l0 a1 = some r),
    Calls Try.prog 76 #[.slice A0 l0.length c0, .int .i64 a1] w fun e w' => e = .returned (.int .i64 r) ∧ Below w.heap.size w w' := by
  induction k using Nat.strongRecOn with
  | _ k ih =>
  intro A0 c0 l0 a1 r w hr0 hc0 h
  cases k with
  | zero => exact absurd h (by simp [laws_heldValueS.f])
  | succ k =>
  simp only [laws_heldValueS.f] at h
  have HR0 := Aside0.mk hr0
  have HC0 := Aside0.mk hc0
  clear hr0 hc0
  have HB := Aside0.mk (Below.refl w.heap.size w)
  have H : (laws_heldValueS.l0 k l0 a1 0) = some r := h
  clear h
  have H' := Aside0.mk H
  clear H
  go_enter Try.func76, Try.ntmps76
  go_wp2
  go_loopg [1, 5] k (fun kq v1 v5 w' => ∃ (x1_1 : Int) (x5_1 : Int), v1 = .int .i64 x1_1 ∧ v5 = .int .i64 x5_1 ∧ Aside0 (laws_heldValueS.l0 kq l0 x1_1 x5_1 = some r) ∧ Aside0 (kq ≤ k) ∧ Aside0 (Below w.heap.size w w'))
  case atStart => exact ⟨(a1), (0), (by first | rfl | (simp; done) | (simp [*]; done)), (by first | rfl | (simp; done) | (simp [*]; done)), H', ⟨Nat.le_refl _⟩, ⟨by repeat (first | (with_reducible first | exact HB.out | apply below_alloc | apply pw_below_drewN | apply below_drew1) | exact HB.out)⟩⟩
  case round =>
    clear H'
    try clear p2
    obtain ⟨x1_1, x5_1, rfl, rfl, HA, HK1, HB⟩ := hrel
    cases gk with
    | zero => exact absurd HA.out (by simp [laws_heldValueS.l0])
    | succ k1 =>
      have H := HA.out
      clear HA
      simp only [laws_heldValueS.l0] at H
      by_cases c3 : x5_1 < (l0.length : Int)
      · rw [if_pos c3] at H
        have c3b0 : decide (x5_1 < (l0.length : Int)) = true := decide_eq_true c3
        clear c3
        by_cases c4 : 0 ≤ x5_1
        · rw [if_pos c4] at H
          have c4b0 : decide (0 ≤ x5_1) = true := decide_eq_true c4
          clear c4
          by_cases c5 : ((rd_T30 l0 x5_1).f0) = x1_1
          · rw [if_pos c5] at H
            have c5b0 : (((rd_T30 l0 x5_1).f0) == x1_1) = true := beq_iff_eq.mpr c5
            have c5b1 : (((rd_T30 l0 x5_1).f0) != x1_1) = false := bne_eq_false_iff_eq.mpr c5
            clear c5
            replace H := Option.bind_eq_some_iff.mp H
            obtain ⟨t605, A60, H⟩ := H
            replace H : (if ((rd_T30 l0 x5_1).f1).toList = t605.toList then (if ((rd_T30 l0 x5_1).f2) = (wrap64 ((wrap64 (x1_1 + 1)) + 1)) then ((laws_heldStringS.f k1 ((rd_T30 l0 x5_1).f3) (wrap64 ((wrap64 ((wrap64 (x1_1 + 1)) + 1)) + 1))).bind fun t608 => (if t608 < 0 then (some (-1)) else ((laws_heldValueS.f k1 ((rd_T30 l0 x5_1).f4) t608).bind fun t610 => (if t610 < 0 then (some (-1)) else (laws_heldValueS.l0 k1 l0 t610 (wrap64 (x5_1 + 1))))))) else (some (-1))) else (some (-1))) = some r := H
            have A6 := Aside0.mk A60
            clear A60
            by_cases c7 : ((rd_T30 l0 x5_1).f1).toList = t605.toList
            · rw [if_pos c7] at H
              have c7b0 : (((rd_T30 l0 x5_1).f1).toList == t605.toList) = true := beq_iff_eq.mpr c7
              have c7b1 : (((rd_T30 l0 x5_1).f1).toList != t605.toList) = false := bne_eq_false_iff_eq.mpr c7
              clear c7
              by_cases c8 : ((rd_T30 l0 x5_1).f2) = (wrap64 ((wrap64 (x1_1 + 1)) + 1))
              · rw [if_pos c8] at H
                have c8b0 : (((rd_T30 l0 x5_1).f2) == (wrap64 ((wrap64 (x1_1 + 1)) + 1))) = true := beq_iff_eq.mpr c8
                have c8b1 : (((rd_T30 l0 x5_1).f2) != (wrap64 ((wrap64 (x1_1 + 1)) + 1))) = false := bne_eq_false_iff_eq.mpr c8
                clear c8
                replace H := Option.bind_eq_some_iff.mp H
                obtain ⟨t608, A90, H⟩ := H
                replace H : (if t608 < 0 then (some (-1)) else ((laws_heldValueS.f k1 ((rd_T30 l0 x5_1).f4) t608).bind fun t610 => (if t610 < 0 then (some (-1)) else (laws_heldValueS.l0 k1 l0 t610 (wrap64 (x5_1 + 1)))))) = some r := H
                have A9 := Aside0.mk A90
                clear A90
                by_cases c10 : t608 < 0
                · rw [if_pos c10] at H
                  have c10b0 : decide (t608 < 0) = true := decide_eq_true c10
                  clear c10
                  obtain rfl := Option.some.inj H
                  have p603 : 0 ≤ (x5_1 : Int) := of_decide_eq_true (by first | (with_reducible assumption) | assumption)
                  have q603 : x5_1 < (l0.length : Int) := of_decide_eq_true (by first | (with_reducible assumption) | assumption)
                  obtain ⟨ad603, A603_3, c603_3, A603_4, c603_4, e603, hx603_0, hx603_1, hx603_2, hx603_3, hx603_4, hl603_3, hi603_3, hl603_4, hi603_4⟩ := at_T30 HR0.out x5_1 p603 q603
                  cases e603
                  replace hx603_0 := (HB.out.cell (World.block_lt_of_cell? w _ hx603_0)).trans hx603_0
                  replace hx603_1 := (HB.out.cell (World.block_lt_of_cell? w _ hx603_1)).trans hx603_1
                  replace hx603_2 := (HB.out.cell (World.block_lt_of_cell? w _ hx603_2)).trans hx603_2
                  replace hx603_3 := (HB.out.cell (World.block_lt_of_cell? w _ hx603_3)).trans hx603_3
                  replace hx603_4 := (HB.out.cell (World.block_lt_of_cell? w _ hx603_4)).trans hx603_4
                  have HR603_3 := Aside0.mk hi603_3
                  have HC603_3 := Aside0.mk hl603_3
                  clear hi603_3 hl603_3
                  have HR603_4 := Aside0.mk hi603_4
                  have HC603_4 := Aside0.mk hl603_4
                  clear hi603_4 hl603_4
                  replace p603 := eq_true p603
                  replace q603 := eq_true q603
                  try go_wp2
                  have n0_ := Aside0.mk (below_drew1 HB.out)
                  clear HB
                  have HB := n0_
                  clear n0_
                  have p604 : 0 ≤ (x5_1 : Int) := of_decide_eq_true (by first | (with_reducible assumption) | assumption)
                  have q604 : x5_1 < (l0.length : Int) := of_decide_eq_true (by first | (with_reducible assumption) | assumption)
                  obtain ⟨ad604, A604_3, c604_3, A604_4, c604_4, e604, hx604_0, hx604_1, hx604_2, hx604_3, hx604_4, hl604_3, hi604_3, hl604_4, hi604_4⟩ := at_T30 HR0.out x5_1 p604 q604
                  have hw604_4 := hx604_4
                  have hw604_3 := hx604_3
                  have hw604_2 := hx604_2
                  have hw604_1 := hx604_1
                  have hw604_0 := hx604_0
                  obtain rfl : ad603 = ad604 := (by injection e604)
                  replace hx604_0 := (HB.out.cell (World.block_lt_of_cell? w _ hx604_0)).trans hx604_0
                  replace hx604_1 := (HB.out.cell (World.block_lt_of_cell? w _ hx604_1)).trans hx604_1
                  replace hx604_2 := (HB.out.cell (World.block_lt_of_cell? w _ hx604_2)).trans hx604_2
                  replace hx604_3 := (HB.out.cell (World.block_lt_of_cell? w _ hx604_3)).trans hx604_3
                  replace hx604_4 := (HB.out.cell (World.block_lt_of_cell? w _ hx604_4)).trans hx604_4
                  have HR604_3 := Aside0.mk hi604_3
                  have HC604_3 := Aside0.mk hl604_3
                  clear hi604_3 hl604_3
                  have HR604_4 := Aside0.mk hi604_4
                  have HC604_4 := Aside0.mk hl604_4
                  clear hi604_4 hl604_4
                  replace p604 := eq_true p604
                  replace q604 := eq_true q604
                  refine start_ (n := 8) (S := fun w' => w'.cell? (ad603.add ((x5_1).toNat * 5)) = some (.int .i64 ((rd_T30 l0 x5_1).f0)) ∧ w'.cell? ⟨(ad603.add ((x5_1).toNat * 5)).block, (ad603.add ((x5_1).toNat * 5)).off + 1, none⟩ = some (.string ((rd_T30 l0 x5_1).f1)) ∧ w'.cell? ⟨(ad603.add ((x5_1).toNat * 5)).block, (ad603.add ((x5_1).toNat * 5)).off + 2, none⟩ = some (.int .i64 ((rd_T30 l0 x5_1).f2)) ∧ w'.cell? ⟨(ad603.add ((x5_1).toNat * 5)).block, (ad603.add ((x5_1).toNat * 5)).off + 3, none⟩ = some (.slice A604_3 ((rd_T30 l0 x5_1).f3).length c604_3) ∧ w'.cell? ⟨(ad603.add ((x5_1).toNat * 5)).block, (ad603.add ((x5_1).toNat * 5)).off + 4, none⟩ = some (.slice A604_4 ((rd_T30 l0 x5_1).f4).length c604_4)) (ds := []) #[false, false, false, false, false, false, false, false] (by kernel_rfl) rfl rfl ⟨((HB.out.cell (World.block_lt_of_cell? w _ hw604_0)).trans hw604_0), ((HB.out.cell (World.block_lt_of_cell? w _ hw604_1)).trans hw604_1), ((HB.out.cell (World.block_lt_of_cell? w _ hw604_2)).trans hw604_2), ((HB.out.cell (World.block_lt_of_cell? w _ hw604_3)).trans hw604_3), ((HB.out.cell (World.block_lt_of_cell? w _ hw604_4)).trans hw604_4)⟩ (fun hHeld => ?_); refine with_tabW laws_heldValueS.tab7 laws_heldValueS.bits7 (fun HT_ HW_ => ?_)
                  generalize wr.drew = w11 at HB HR604_3 HR604_4 hx604_0 hx604_1 hx604_2 hx604_3 hx604_4 hHeld ⊢
                  refine pure_ (i := 0) (N := some 21) (v := ?_) (a' := ?_) #[true, false, false, false, false, false, false, false] rfl rfl (any_of HT_.out (by kernel_rfl)) (fun _ _ _ h => h) (Or.inl ⟨by rfl, ?_⟩) ?_ ?_
                  rotate_left
                  · intro w'
                    go_simp
                    with_reducible rfl
                  rotate_left
                  · simp only [Act.put, List.setIfInBounds_toArray, List.set_cons_zero, List.set_cons_succ, i64_w, i32_w]
                    rfl
                  refine pure_ (i := 1) (N := some 22) (v := ?_) (a' := ?_) #[true, true, false, false, false, false, false, false] rfl rfl (any_of HT_.out (by kernel_rfl)) (fun _ _ _ h => h) (Or.inl ⟨by rfl, ?_⟩) ?_ ?_
                  rotate_left
                  · intro w'
                    go_simp
                    with_reducible rfl
                  rotate_left
                  · simp only [Act.put, List.setIfInBounds_toArray, List.set_cons_zero, List.set_cons_succ, i64_w, i32_w]
                    rfl
                  refine pure_ (i := 2) (N := some 23) (v := ?_) (a' := ?_) #[true, true, true, false, false, false, false, false] rfl rfl (any_of HT_.out (by kernel_rfl)) (fun _ _ _ h => h) (Or.inl ⟨by rfl, ?_⟩) ?_ ?_
                  rotate_left
                  · intro w'
                    go_simp
                    with_reducible rfl
                  rotate_left
                  · simp only [Act.put, List.setIfInBounds_toArray, List.set_cons_zero, List.set_cons_succ, i64_w, i32_w]
                    rfl
                  refine pure_ (i := 3) (N := some 24) (v := ?_) (a' := ?_) #[true, true, true, true, false, false, false, false] rfl rfl (any_of HT_.out (by kernel_rfl)) (fun _ _ _ h => h) (Or.inl ⟨by rfl, ?_⟩) ?_ ?_
                  rotate_left
                  · intro w'
                    go_simp
                    with_reducible rfl
                  rotate_left
                  · simp only [Act.put, List.setIfInBounds_toArray, List.set_cons_zero, List.set_cons_succ, i64_w, i32_w]
                    rfl
                  refine pure_ (i := 5) (N := some 26) (v := ?_) (a' := ?_) #[true, true, true, true, false, true, false, false] rfl rfl (any_of HT_.out (by kernel_rfl)) (fun _ _ _ h => h) (Or.inl ⟨by rfl, ?_⟩) ?_ ?_
                  rotate_left
                  · intro w'
                    go_simp
                    with_reducible rfl
                  rotate_left
                  · simp only [Act.put, List.setIfInBounds_toArray, List.set_cons_zero, List.set_cons_succ, i64_w, i32_w]
                    rfl
                  refine take_ (i := 4) (N := some 25) (v := ?_) (a' := ?_) #[true, true, true, true, true, true, false, false] rfl rfl (take_ofW HT_.out HW_.out (by kernel_rfl)) (fun _ _ _ h => h) (Or.inl ⟨by rfl, ?_⟩) hHeld ?_ ?_
                  rotate_left
                  · rintro w' ⟨s0, s1, s2, s3, s4⟩
                    go_simp
                    with_reducible rfl
                  rotate_left
                  · simp only [Act.put, List.setIfInBounds_toArray, List.set_cons_zero, List.set_cons_succ, i64_w, i32_w]
                    rfl
                  refine one_ (i := 6) (N := some 27) #[true, true, true, true, true, true, true, false] rfl rfl (one_of HT_.out (by kernel_rfl)) (by decide) (fun K hK => ?_)
                  refine goes_ Try.func74 (by kernel_rfl) rfl #[.int .i64 (wrap64 (x1_1 + 1))] (by rfl) rfl rfl (by (try simp only [List.map_toArray, List.map_cons, List.map_nil]); first | done | rfl | (simp only [List.length_drop, List.length_take]; rfl)) ?_
                  with_reducible refine (laws_markText.calls k1 (wrap64 (x1_1 + 1)) t605 _ A6.out).mono ?_
                  rintro e w12 ⟨rfl, hb⟩
                  refine ⟨_, rfl, ?_⟩
                  have n0_ := Aside0.mk (below_step (by repeat (first | (with_reducible first | exact HB.out | apply below_alloc | apply pw_below_drewN | apply below_drew1) | exact HB.out)) hb)
                  clear HB
                  have HB := n0_
                  clear n0_
                  (try clear hb)
                  (try clear hb2)
                  (try clear hk)
                  (try clear hi)
                  refine hK.out _ _ ⟨((HB.out.cell (World.block_lt_of_cell? w _ hw604_0)).trans hw604_0), ((HB.out.cell (World.block_lt_of_cell? w _ hw604_1)).trans hw604_1), ((HB.out.cell (World.block_lt_of_cell? w _ hw604_2)).trans hw604_2), ((HB.out.cell (World.block_lt_of_cell? w _ hw604_3)).trans hw604_3), ((HB.out.cell (World.block_lt_of_cell? w _ hw604_4)).trans hw604_4)⟩ (fun hHeld => ?_)
                  clear hK K
                  refine norm_ (a' := ?_) ?_ ?_
                  rotate_left
                  · show Act.put _ (some 27) _ = _
                    simp only [Act.put, List.setIfInBounds_toArray, List.set_cons_zero, List.set_cons_succ, i64_w, i32_w]
                    rfl
                  refine pure_ (i := 7) (N := some 28) (v := ?_) (a' := ?_) #[true, true, true, true, true, true, true, true] rfl rfl (any_of HT_.out (by kernel_rfl)) (fun _ _ _ h => h) (Or.inl ⟨by rfl, ?_⟩) ?_ ?_
                  rotate_left
                  · intro w'
                    go_simp
                    with_reducible rfl
                  rotate_left
                  · simp only [Act.put, List.setIfInBounds_toArray, List.set_cons_zero, List.set_cons_succ, i64_w, i32_w]
                    rfl
                  refine done_ (done_of HT_.out (by kernel_rfl)) ?_
                  have p606 : 0 ≤ (x5_1 : Int) := of_decide_eq_true (by first | (with_reducible assumption) | assumption)
                  have q606 : x5_1 < (l0.length : Int) := of_decide_eq_true (by first | (with_reducible assumption) | assumption)
                  obtain ⟨ad606, A606_3, c606_3, A606_4, c606_4, e606, hx606_0, hx606_1, hx606_2, hx606_3, hx606_4, hl606_3, hi606_3, hl606_4, hi606_4⟩ := at_T30 HR0.out x5_1 p606 q606
                  obtain rfl : ad603 = ad606 := (by injection e606)
                  try (have ea_ := hw604_4.symm.trans hx606_4; injection ea_ with ea_; injection ea_ with ea_ eb_ ec_; have ea_ := ea_.symm; have ec_ := ec_.symm; subst ea_; subst ec_)
                  try (have ea_ := hw604_3.symm.trans hx606_3; injection ea_ with ea_; injection ea_ with ea_ eb_ ec_; have ea_ := ea_.symm; have ec_ := ec_.symm; subst ea_; subst ec_)
                  try (have ea_ := hw604_2.symm.trans hx606_2; injection ea_ with ea_; injection ea_ with ea_ eb_ ec_; have ea_ := ea_.symm; have ec_ := ec_.symm; subst ea_; subst ec_)
                  try (have ea_ := hw604_1.symm.trans hx606_1; injection ea_ with ea_; injection ea_ with ea_ eb_ ec_; have ea_ := ea_.symm; have ec_ := ec_.symm; subst ea_; subst ec_)
                  try (have ea_ := hw604_0.symm.trans hx606_0; injection ea_ with ea_; injection ea_ with ea_ eb_ ec_; have ea_ := ea_.symm; have ec_ := ec_.symm; subst ea_; subst ec_)
                  replace hx606_0 := (HB.out.cell (World.block_lt_of_cell? w _ hx606_0)).trans hx606_0
                  replace hx606_1 := (HB.out.cell (World.block_lt_of_cell? w _ hx606_1)).trans hx606_1
                  replace hx606_2 := (HB.out.cell (World.block_lt_of_cell? w _ hx606_2)).trans hx606_2
                  replace hx606_3 := (HB.out.cell (World.block_lt_of_cell? w _ hx606_3)).trans hx606_3
                  replace hx606_4 := (HB.out.cell (World.block_lt_of_cell? w _ hx606_4)).trans hx606_4
                  have HR606_3 := Aside0.mk hi606_3
                  have HC606_3 := Aside0.mk hl606_3
                  clear hi606_3 hl606_3
                  have HR606_4 := Aside0.mk hi606_4
                  have HC606_4 := Aside0.mk hl606_4
                  clear hi606_4 hl606_4
                  replace p606 := eq_true p606
                  replace q606 := eq_true q606
                  have p607 : 0 ≤ (x5_1 : Int) := of_decide_eq_true (by first | (with_reducible assumption) | assumption)
                  have q607 : x5_1 < (l0.length : Int) := of_decide_eq_true (by first | (with_reducible assumption) | assumption)
                  obtain ⟨ad607, A607_3, c607_3, A607_4, c607_4, e607, hx607_0, hx607_1, hx607_2, hx607_3, hx607_4, hl607_3, hi607_3, hl607_4, hi607_4⟩ := at_T30 HR0.out x5_1 p607 q607
                  obtain rfl : ad603 = ad607 := (by injection e607)
                  try (have ea_ := hw604_2.symm.trans hx607_2; injection ea_ with ea_; injection ea_ with ea_ eb_ ec_; have ea_ := ea_.symm; have ec_ := ec_.symm; subst ea_; subst ec_)
                  try (have ea_ := hw604_1.symm.trans hx607_1; injection ea_ with ea_; injection ea_ with ea_ eb_ ec_; have ea_ := ea_.symm; have ec_ := ec_.symm; subst ea_; subst ec_)
                  try (have ea_ := hw604_0.symm.trans hx607_0; injection ea_ with ea_; injection ea_ with ea_ eb_ ec_; have ea_ := ea_.symm; have ec_ := ec_.symm; subst ea_; subst ec_)
                  replace hx607_0 := (HB.out.cell (World.block_lt_of_cell? w _ hx607_0)).trans hx607_0
                  replace hx607_1 := (HB.out.cell (World.block_lt_of_cell? w _ hx607_1)).trans hx607_1
                  replace hx607_2 := (HB.out.cell (World.block_lt_of_cell? w _ hx607_2)).trans hx607_2
                  replace hx607_3 := (HB.out.cell (World.block_lt_of_cell? w _ hx607_3)).trans hx607_3
                  replace hx607_4 := (HB.out.cell (World.block_lt_of_cell? w _ hx607_4)).trans hx607_4
                  have HR607_3 := Aside0.mk hi607_3
                  have HC607_3 := Aside0.mk hl607_3
                  clear hi607_3 hl607_3
                  have HR607_4 := Aside0.mk hi607_4
                  have HC607_4 := Aside0.mk hl607_4
                  clear hi607_4 hl607_4
                  replace p607 := eq_true p607
                  replace q607 := eq_true q607
                  have ea_ := Option.some.inj (hx606_3.symm.trans hx607_3)
                  injection ea_ with ea_ en_ ec_
                  subst ea_
                  subst ec_
                  clear en_
                  have ea_ := Option.some.inj (hx606_4.symm.trans hx607_4)
                  injection ea_ with ea_ en_ ec_
                  subst ea_
                  subst ec_
                  clear en_
                  try go_wp2_with (first | ((with_reducible refine gate_callee (f := 75) rfl ?_); refine goesL_ (some 46) rfl rfl Try.func75 (by kernel_rfl) rfl #[.slice A606_3 ((rd_T30 l0 x5_1).f3).length c606_3, .int .i64 (wrap64 ((wrap64 ((wrap64 (x1_1 + 1)) + 1)) + 1))] rfl (by (try simp only [List.map_toArray, List.map_cons, List.map_nil]); first | done | rfl | (simp only [List.length_drop, List.length_take]; rfl)) ?_; (with_reducible refine (laws_heldStringS.calls k1 _ _ ((rd_T30 l0 x5_1).f3) (wrap64 ((wrap64 ((wrap64 (x1_1 + 1)) + 1)) + 1)) t608 _ ?side1 ?side2 A9.out).mono ?_); (case side1 => repeat (first | exact (Kd.C_below HR607_3.out HB.out) | (with_reducible refine Kd.C_alloc ?_ _) | (with_reducible refine Kd.C_drewN ?_ _) | (with_reducible refine Kd.C_drew ?_))); (case side2 => exact HC607_3.out); rintro e w13 ⟨rfl, hb⟩; refine ⟨_, rfl, ?_⟩; have n0_ := Aside0.mk (below_step (by repeat (first | (with_reducible first | exact HB.out | apply below_alloc | apply pw_below_drewN | apply below_drew1) | exact HB.out)) hb); clear HB; have HB := n0_; clear n0_; (try clear hb); (try clear hb2); (try clear hk); (try clear hi)))
                  go_ret
                  exact ⟨by first | rfl | (simp [errW_none, errW_some] <;> rfl) | (simp [*, errW_none, errW_some] <;> rfl), by repeat (first | (with_reducible first | exact HB.out | apply below_alloc | apply pw_below_drewN | apply below_drew1) | exact HB.out)⟩
                · rw [if_neg c10] at H
                  have c10b0 : decide (t608 < 0) = false := decide_eq_false c10
                  clear c10
                  replace H := Option.bind_eq_some_iff.mp H
                  obtain ⟨t610, A140, H⟩ := H
                  replace H : (if t610 < 0 then (some (-1)) else (laws_heldValueS.l0 k1 l0 t610 (wrap64 (x5_1 + 1)))) = some r := H
                  have A14 := Aside0.mk A140
                  clear A140
                  by_cases c15 : t610 < 0
                  · rw [if_pos c15] at H
                    have c15b0 : decide (t610 < 0) = true := decide_eq_true c15
                    clear c15
                    obtain rfl := Option.some.inj H
                    have p603 : 0 ≤ (x5_1 : Int) := of_decide_eq_true (by first | (with_reducible assumption) | assumption)
                    have q603 : x5_1 < (l0.length : Int) := of_decide_eq_true (by first | (with_reducible assumption) | assumption)
                    obtain ⟨ad603, A603_3, c603_3, A603_4, c603_4, e603, hx603_0, hx603_1, hx603_2, hx603_3, hx603_4, hl603_3, hi603_3, hl603_4, hi603_4⟩ := at_T30 HR0.out x5_1 p603 q603
                    cases e603
                    replace hx603_0 := (HB.out.cell (World.block_lt_of_cell? w _ hx603_0)).trans hx603_0
                    replace hx603_1 := (HB.out.cell (World.block_lt_of_cell? w _ hx603_1)).trans hx603_1
                    replace hx603_2 := (HB.out.cell (World.block_lt_of_cell? w _ hx603_2)).trans hx603_2
                    replace hx603_3 := (HB.out.cell (World.block_lt_of_cell? w _ hx603_3)).trans hx603_3
                    replace hx603_4 := (HB.out.cell (World.block_lt_of_cell? w _ hx603_4)).trans hx603_4
                    have HR603_3 := Aside0.mk hi603_3
                    have HC603_3 := Aside0.mk hl603_3
                    clear hi603_3 hl603_3
                    have HR603_4 := Aside0.mk hi603_4
                    have HC603_4 := Aside0.mk hl603_4
                    clear hi603_4 hl603_4
                    replace p603 := eq_true p603
                    replace q603 := eq_true q603
                    try go_wp2
                    have n0_ := Aside0.mk (below_drew1 HB.out)
                    clear HB
                    have HB := n0_
                    clear n0_
                    have p604 : 0 ≤ (x5_1 : Int) := of_decide_eq_true (by first | (with_reducible assumption) | assumption)
                    have q604 : x5_1 < (l0.length : Int) := of_decide_eq_true (by first | (with_reducible assumption) | assumption)
                    obtain ⟨ad604, A604_3, c604_3, A604_4, c604_4, e604, hx604_0, hx604_1, hx604_2, hx604_3, hx604_4, hl604_3, hi604_3, hl604_4, hi604_4⟩ := at_T30 HR0.out x5_1 p604 q604
                    have hw604_4 := hx604_4
                    have hw604_3 := hx604_3
                    have hw604_2 := hx604_2
                    have hw604_1 := hx604_1
                    have hw604_0 := hx604_0
                    obtain rfl : ad603 = ad604 := (by injection e604)
                    replace hx604_0 := (HB.out.cell (World.block_lt_of_cell? w _ hx604_0)).trans hx604_0
                    replace hx604_1 := (HB.out.cell (World.block_lt_of_cell? w _ hx604_1)).trans hx604_1
                    replace hx604_2 := (HB.out.cell (World.block_lt_of_cell? w _ hx604_2)).trans hx604_2
                    replace hx604_3 := (HB.out.cell (World.block_lt_of_cell? w _ hx604_3)).trans hx604_3
                    replace hx604_4 := (HB.out.cell (World.block_lt_of_cell? w _ hx604_4)).trans hx604_4
                    have HR604_3 := Aside0.mk hi604_3
                    have HC604_3 := Aside0.mk hl604_3
                    clear hi604_3 hl604_3
                    have HR604_4 := Aside0.mk hi604_4
                    have HC604_4 := Aside0.mk hl604_4
                    clear hi604_4 hl604_4
                    replace p604 := eq_true p604
                    replace q604 := eq_true q604
                    refine start_ (n := 8) (S := fun w' => w'.cell? (ad603.add ((x5_1).toNat * 5)) = some (.int .i64 ((rd_T30 l0 x5_1).f0)) ∧ w'.cell? ⟨(ad603.add ((x5_1).toNat * 5)).block, (ad603.add ((x5_1).toNat * 5)).off + 1, none⟩ = some (.string ((rd_T30 l0 x5_1).f1)) ∧ w'.cell? ⟨(ad603.add ((x5_1).toNat * 5)).block, (ad603.add ((x5_1).toNat * 5)).off + 2, none⟩ = some (.int .i64 ((rd_T30 l0 x5_1).f2)) ∧ w'.cell? ⟨(ad603.add ((x5_1).toNat * 5)).block, (ad603.add ((x5_1).toNat * 5)).off + 3, none⟩ = some (.slice A604_3 ((rd_T30 l0 x5_1).f3).length c604_3) ∧ w'.cell? ⟨(ad603.add ((x5_1).toNat * 5)).block, (ad603.add ((x5_1).toNat * 5)).off + 4, none⟩ = some (.slice A604_4 ((rd_T30 l0 x5_1).f4).length c604_4)) (ds := []) #[false, false, false, false, false, false, false, false] (by kernel_rfl) rfl rfl ⟨((HB.out.cell (World.block_lt_of_cell? w _ hw604_0)).trans hw604_0), ((HB.out.cell (World.block_lt_of_cell? w _ hw604_1)).trans hw604_1), ((HB.out.cell (World.block_lt_of_cell? w _ hw604_2)).trans hw604_2), ((HB.out.cell (World.block_lt_of_cell? w _ hw604_3)).trans hw604_3), ((HB.out.cell (World.block_lt_of_cell? w _ hw604_4)).trans hw604_4)⟩ (fun hHeld => ?_); refine with_tabW laws_heldValueS.tab7 laws_heldValueS.bits7 (fun HT_ HW_ => ?_)
                    generalize wr.drew = w16 at HB HR604_3 HR604_4 hx604_0 hx604_1 hx604_2 hx604_3 hx604_4 hHeld ⊢
                    refine pure_ (i := 0) (N := some 21) (v := ?_) (a' := ?_) #[true, false, false, false, false, false, false, false] rfl rfl (any_of HT_.out (by kernel_rfl)) (fun _ _ _ h => h) (Or.inl ⟨by rfl, ?_⟩) ?_ ?_
                    rotate_left
                    · intro w'
                      go_simp
                      with_reducible rfl
                    rotate_left
                    · simp only [Act.put, List.setIfInBounds_toArray, List.set_cons_zero, List.set_cons_succ, i64_w, i32_w]
                      rfl
                    refine pure_ (i := 1) (N := some 22) (v := ?_) (a' := ?_) #[true, true, false, false, false, false, false, false] rfl rfl (any_of HT_.out (by kernel_rfl)) (fun _ _ _ h => h) (Or.inl ⟨by rfl, ?_⟩) ?_ ?_
                    rotate_left
                    · intro w'
                      go_simp
                      with_reducible rfl
                    rotate_left
                    · simp only [Act.put, List.setIfInBounds_toArray, List.set_cons_zero, List.set_cons_succ, i64_w, i32_w]
                      rfl
                    refine pure_ (i := 2) (N := some 23) (v := ?_) (a' := ?_) #[true, true, true, false, false, false, false, false] rfl rfl (any_of HT_.out (by kernel_rfl)) (fun _ _ _ h => h) (Or.inl ⟨by rfl, ?_⟩) ?_ ?_
                    rotate_left
                    · intro w'
                      go_simp
                      with_reducible rfl
                    rotate_left
                    · simp only [Act.put, List.setIfInBounds_toArray, List.set_cons_zero, List.set_cons_succ, i64_w, i32_w]
                      rfl
                    refine pure_ (i := 3) (N := some 24) (v := ?_) (a' := ?_) #[true, true, true, true, false, false, false, false] rfl rfl (any_of HT_.out (by kernel_rfl)) (fun _ _ _ h => h) (Or.inl ⟨by rfl, ?_⟩) ?_ ?_
                    rotate_left
                    · intro w'
                      go_simp
                      with_reducible rfl
                    rotate_left
                    · simp only [Act.put, List.setIfInBounds_toArray, List.set_cons_zero, List.set_cons_succ, i64_w, i32_w]
                      rfl
                    refine pure_ (i := 5) (N := some 26) (v := ?_) (a' := ?_) #[true, true, true, true, false, true, false, false] rfl rfl (any_of HT_.out (by kernel_rfl)) (fun _ _ _ h => h) (Or.inl ⟨by rfl, ?_⟩) ?_ ?_
                    rotate_left
                    · intro w'
                      go_simp
                      with_reducible rfl
                    rotate_left
                    · simp only [Act.put, List.setIfInBounds_toArray, List.set_cons_zero, List.set_cons_succ, i64_w, i32_w]
                      rfl
                    refine take_ (i := 4) (N := some 25) (v := ?_) (a' := ?_) #[true, true, true, true, true, true, false, false] rfl rfl (take_ofW HT_.out HW_.out (by kernel_rfl)) (fun _ _ _ h => h) (Or.inl ⟨by rfl, ?_⟩) hHeld ?_ ?_
                    rotate_left
                    · rintro w' ⟨s0, s1, s2, s3, s4⟩
                      go_simp
                      with_reducible rfl
                    rotate_left
                    · simp only [Act.put, List.setIfInBounds_toArray, List.set_cons_zero, List.set_cons_succ, i64_w, i32_w]
                      rfl
                    refine one_ (i := 6) (N := some 27) #[true, true, true, true, true, true, true, false] rfl rfl (one_of HT_.out (by kernel_rfl)) (by decide) (fun K hK => ?_)
                    refine goes_ Try.func74 (by kernel_rfl) rfl #[.int .i64 (wrap64 (x1_1 + 1))] (by rfl) rfl rfl (by (try simp only [List.map_toArray, List.map_cons, List.map_nil]); first | done | rfl | (simp only [List.length_drop, List.length_take]; rfl)) ?_
                    with_reducible refine (laws_markText.calls k1 (wrap64 (x1_1 + 1)) t605 _ A6.out).mono ?_
                    rintro e w17 ⟨rfl, hb⟩
                    refine ⟨_, rfl, ?_⟩
                    have n0_ := Aside0.mk (below_step (by repeat (first | (with_reducible first | exact HB.out | apply below_alloc | apply pw_below_drewN | apply below_drew1) | exact HB.out)) hb)
                    clear HB
                    have HB := n0_
                    clear n0_
                    (try clear hb)
                    (try clear hb2)
                    (try clear hk)
                    (try clear hi)
                    refine hK.out _ _ ⟨((HB.out.cell (World.block_lt_of_cell? w _ hw604_0)).trans hw604_0), ((HB.out.cell (World.block_lt_of_cell? w _ hw604_1)).trans hw604_1), ((HB.out.cell (World.block_lt_of_cell? w _ hw604_2)).trans hw604_2), ((HB.out.cell (World.block_lt_of_cell? w _ hw604_3)).trans hw604_3), ((HB.out.cell (World.block_lt_of_cell? w _ hw604_4)).trans hw604_4)⟩ (fun hHeld => ?_)
                    clear hK K
                    refine norm_ (a' := ?_) ?_ ?_
                    rotate_left
                    · show Act.put _ (some 27) _ = _
                      simp only [Act.put, List.setIfInBounds_toArray, List.set_cons_zero, List.set_cons_succ, i64_w, i32_w]
                      rfl
                    refine pure_ (i := 7) (N := some 28) (v := ?_) (a' := ?_) #[true, true, true, true, true, true, true, true] rfl rfl (any_of HT_.out (by kernel_rfl)) (fun _ _ _ h => h) (Or.inl ⟨by rfl, ?_⟩) ?_ ?_
                    rotate_left
                    · intro w'
                      go_simp
                      with_reducible rfl
                    rotate_left
                    · simp only [Act.put, List.setIfInBounds_toArray, List.set_cons_zero, List.set_cons_succ, i64_w, i32_w]
                      rfl
                    refine done_ (done_of HT_.out (by kernel_rfl)) ?_
                    have p606 : 0 ≤ (x5_1 : Int) := of_decide_eq_true (by first | (with_reducible assumption) | assumption)
                    have q606 : x5_1 < (l0.length : Int) := of_decide_eq_true (by first | (with_reducible assumption) | assumption)
                    obtain ⟨ad606, A606_3, c606_3, A606_4, c606_4, e606, hx606_0, hx606_1, hx606_2, hx606_3, hx606_4, hl606_3, hi606_3, hl606_4, hi606_4⟩ := at_T30 HR0.out x5_1 p606 q606
                    obtain rfl : ad603 = ad606 := (by injection e606)
                    try (have ea_ := hw604_4.symm.trans hx606_4; injection ea_ with ea_; injection ea_ with ea_ eb_ ec_; have ea_ := ea_.symm; have ec_ := ec_.symm; subst ea_; subst ec_)
                    try (have ea_ := hw604_3.symm.trans hx606_3; injection ea_ with ea_; injection ea_ with ea_ eb_ ec_; have ea_ := ea_.symm; have ec_ := ec_.symm; subst ea_; subst ec_)
                    try (have ea_ := hw604_2.symm.trans hx606_2; injection ea_ with ea_; injection ea_ with ea_ eb_ ec_; have ea_ := ea_.symm; have ec_ := ec_.symm; subst ea_; subst ec_)
                    try (have ea_ := hw604_1.symm.trans hx606_1; injection ea_ with ea_; injection ea_ with ea_ eb_ ec_; have ea_ := ea_.symm; have ec_ := ec_.symm; subst ea_; subst ec_)
                    try (have ea_ := hw604_0.symm.trans hx606_0; injection ea_ with ea_; injection ea_ with ea_ eb_ ec_; have ea_ := ea_.symm; have ec_ := ec_.symm; subst ea_; subst ec_)
                    replace hx606_0 := (HB.out.cell (World.block_lt_of_cell? w _ hx606_0)).trans hx606_0
                    replace hx606_1 := (HB.out.cell (World.block_lt_of_cell? w _ hx606_1)).trans hx606_1
                    replace hx606_2 := (HB.out.cell (World.block_lt_of_cell? w _ hx606_2)).trans hx606_2
                    replace hx606_3 := (HB.out.cell (World.block_lt_of_cell? w _ hx606_3)).trans hx606_3
                    replace hx606_4 := (HB.out.cell (World.block_lt_of_cell? w _ hx606_4)).trans hx606_4
                    have HR606_3 := Aside0.mk hi606_3
                    have HC606_3 := Aside0.mk hl606_3
                    clear hi606_3 hl606_3
                    have HR606_4 := Aside0.mk hi606_4
                    have HC606_4 := Aside0.mk hl606_4
                    clear hi606_4 hl606_4
                    replace p606 := eq_true p606
                    replace q606 := eq_true q606
                    have p607 : 0 ≤ (x5_1 : Int) := of_decide_eq_true (by first | (with_reducible assumption) | assumption)
                    have q607 : x5_1 < (l0.length : Int) := of_decide_eq_true (by first | (with_reducible assumption) | assumption)
                    obtain ⟨ad607, A607_3, c607_3, A607_4, c607_4, e607, hx607_0, hx607_1, hx607_2, hx607_3, hx607_4, hl607_3, hi607_3, hl607_4, hi607_4⟩ := at_T30 HR0.out x5_1 p607 q607
                    obtain rfl : ad603 = ad607 := (by injection e607)
                    try (have ea_ := hw604_2.symm.trans hx607_2; injection ea_ with ea_; injection ea_ with ea_ eb_ ec_; have ea_ := ea_.symm; have ec_ := ec_.symm; subst ea_; subst ec_)
                    try (have ea_ := hw604_1.symm.trans hx607_1; injection ea_ with ea_; injection ea_ with ea_ eb_ ec_; have ea_ := ea_.symm; have ec_ := ec_.symm; subst ea_; subst ec_)
                    try (have ea_ := hw604_0.symm.trans hx607_0; injection ea_ with ea_; injection ea_ with ea_ eb_ ec_; have ea_ := ea_.symm; have ec_ := ec_.symm; subst ea_; subst ec_)
                    replace hx607_0 := (HB.out.cell (World.block_lt_of_cell? w _ hx607_0)).trans hx607_0
                    replace hx607_1 := (HB.out.cell (World.block_lt_of_cell? w _ hx607_1)).trans hx607_1
                    replace hx607_2 := (HB.out.cell (World.block_lt_of_cell? w _ hx607_2)).trans hx607_2
                    replace hx607_3 := (HB.out.cell (World.block_lt_of_cell? w _ hx607_3)).trans hx607_3
                    replace hx607_4 := (HB.out.cell (World.block_lt_of_cell? w _ hx607_4)).trans hx607_4
                    have HR607_3 := Aside0.mk hi607_3
                    have HC607_3 := Aside0.mk hl607_3
                    clear hi607_3 hl607_3
                    have HR607_4 := Aside0.mk hi607_4
                    have HC607_4 := Aside0.mk hl607_4
                    clear hi607_4 hl607_4
                    replace p607 := eq_true p607
                    replace q607 := eq_true q607
                    have ea_ := Option.some.inj (hx606_3.symm.trans hx607_3)
                    injection ea_ with ea_ en_ ec_
                    subst ea_
                    subst ec_
                    clear en_
                    have ea_ := Option.some.inj (hx606_4.symm.trans hx607_4)
                    injection ea_ with ea_ en_ ec_
                    subst ea_
                    subst ec_
                    clear en_
                    try go_wp2_with (first | ((with_reducible refine gate_callee (f := 75) rfl ?_); refine goesL_ (some 46) rfl rfl Try.func75 (by kernel_rfl) rfl #[.slice A606_3 ((rd_T30 l0 x5_1).f3).length c606_3, .int .i64 (wrap64 ((wrap64 ((wrap64 (x1_1 + 1)) + 1)) + 1))] rfl (by (try simp only [List.map_toArray, List.map_cons, List.map_nil]); first | done | rfl | (simp only [List.length_drop, List.length_take]; rfl)) ?_; (with_reducible refine (laws_heldStringS.calls k1 _ _ ((rd_T30 l0 x5_1).f3) (wrap64 ((wrap64 ((wrap64 (x1_1 + 1)) + 1)) + 1)) t608 _ ?side1 ?side2 A9.out).mono ?_); (case side1 => repeat (first | exact (Kd.C_below HR607_3.out HB.out) | (with_reducible refine Kd.C_alloc ?_ _) | (with_reducible refine Kd.C_drewN ?_ _) | (with_reducible refine Kd.C_drew ?_))); (case side2 => exact HC607_3.out); rintro e w18 ⟨rfl, hb⟩; refine ⟨_, rfl, ?_⟩; have n0_ := Aside0.mk (below_step (by repeat (first | (with_reducible first | exact HB.out | apply below_alloc | apply pw_below_drewN | apply below_drew1) | exact HB.out)) hb); clear HB; have HB := n0_; clear n0_; (try clear hb); (try clear hb2); (try clear hk); (try clear hi); have p609 : 0 ≤ (x5_1 : Int) := of_decide_eq_true (by first | (with_reducible assumption) | assumption); have q609 : x5_1 < (l0.length : Int) := of_decide_eq_true (by first | (with_reducible assumption) | assumption); obtain ⟨ad609, A609_3, c609_3, A609_4, c609_4, e609, hx609_0, hx609_1, hx609_2, hx609_3, hx609_4, hl609_3, hi609_3, hl609_4, hi609_4⟩ := at_T30 HR0.out x5_1 p609 q609; obtain rfl : ad603 = ad609 := (by injection e609); replace hx609_0 := (HB.out.cell (World.block_lt_of_cell? w _ hx609_0)).trans hx609_0; replace hx609_1 := (HB.out.cell (World.block_lt_of_cell? w _ hx609_1)).trans hx609_1; replace hx609_2 := (HB.out.cell (World.block_lt_of_cell? w _ hx609_2)).trans hx609_2; replace hx609_3 := (HB.out.cell (World.block_lt_of_cell? w _ hx609_3)).trans hx609_3; replace hx609_4 := (HB.out.cell (World.block_lt_of_cell? w _ hx609_4)).trans hx609_4; have HR609_3 := Aside0.mk hi609_3; have HC609_3 := Aside0.mk hl609_3; clear hi609_3 hl609_3; have HR609_4 := Aside0.mk hi609_4; have HC609_4 := Aside0.mk hl609_4; clear hi609_4 hl609_4; replace p609 := eq_true p609; replace q609 := eq_true q609) | ((with_reducible refine gate_callee (f := 76) rfl ?_); refine goesL_ (some 55) rfl rfl Try.func76 (by kernel_rfl) rfl #[.slice A609_4 ((rd_T30 l0 x5_1).f4).length c609_4, .int .i64 t608] rfl (by (try simp only [List.map_toArray, List.map_cons, List.map_nil]); first | done | rfl | (simp only [List.length_drop, List.length_take]; rfl)) ?_; (with_reducible refine (ih k1 (by have := HK1.out; omega) _ _ ((rd_T30 l0 x5_1).f4) t608 t610 _ ?side1 ?side2 A14.out).mono ?_); (case side1 => repeat (first | exact (Kd.C_below HR609_4.out HB.out) | (with_reducible refine Kd.C_alloc ?_ _) | (with_reducible refine Kd.C_drewN ?_ _) | (with_reducible refine Kd.C_drew ?_))); (case side2 => exact HC609_4.out); rintro e w19 ⟨rfl, hb⟩; refine ⟨_, rfl, ?_⟩; have n0_ := Aside0.mk (below_step (by repeat (first | (with_reducible first | exact HB.out | apply below_alloc | apply pw_below_drewN | apply below_drew1) | exact HB.out)) hb); clear HB; have HB := n0_; clear n0_; (try clear hb); (try clear hb2); (try clear hk); (try clear hi)))
                    go_ret
                    exact ⟨by first | rfl | (simp [errW_none, errW_some] <;> rfl) | (simp [*, errW_none, errW_some] <;> rfl), by repeat (first | (with_reducible first | exact HB.out | apply below_alloc | apply pw_below_drewN | apply below_drew1) | exact HB.out)⟩
                  · rw [if_neg c15] at H
                    have c15b0 : decide (t610 < 0) = false := decide_eq_false c15
                    clear c15
                    have H' := Aside0.mk H
                    clear H
                    have p603 : 0 ≤ (x5_1 : Int) := of_decide_eq_true (by first | (with_reducible assumption) | assumption)
                    have q603 : x5_1 < (l0.length : Int) := of_decide_eq_true (by first | (with_reducible assumption) | assumption)
                    obtain ⟨ad603, A603_3, c603_3, A603_4, c603_4, e603, hx603_0, hx603_1, hx603_2, hx603_3, hx603_4, hl603_3, hi603_3, hl603_4, hi603_4⟩ := at_T30 HR0.out x5_1 p603 q603
                    cases e603
                    replace hx603_0 := (HB.out.cell (World.block_lt_of_cell? w _ hx603_0)).trans hx603_0
                    replace hx603_1 := (HB.out.cell (World.block_lt_of_cell? w _ hx603_1)).trans hx603_1
                    replace hx603_2 := (HB.out.cell (World.block_lt_of_cell? w _ hx603_2)).trans hx603_2
                    replace hx603_3 := (HB.out.cell (World.block_lt_of_cell? w _ hx603_3)).trans hx603_3
                    replace hx603_4 := (HB.out.cell (World.block_lt_of_cell? w _ hx603_4)).trans hx603_4
                    have HR603_3 := Aside0.mk hi603_3
                    have HC603_3 := Aside0.mk hl603_3
                    clear hi603_3 hl603_3
                    have HR603_4 := Aside0.mk hi603_4
                    have HC603_4 := Aside0.mk hl603_4
                    clear hi603_4 hl603_4
                    replace p603 := eq_true p603
                    replace q603 := eq_true q603
                    try go_wp2
                    have n0_ := Aside0.mk (below_drew1 HB.out)
                    clear HB
                    have HB := n0_
                    clear n0_
                    have p604 : 0 ≤ (x5_1 : Int) := of_decide_eq_true (by first | (with_reducible assumption) | assumption)
                    have q604 : x5_1 < (l0.length : Int) := of_decide_eq_true (by first | (with_reducible assumption) | assumption)
                    obtain ⟨ad604, A604_3, c604_3, A604_4, c604_4, e604, hx604_0, hx604_1, hx604_2, hx604_3, hx604_4, hl604_3, hi604_3, hl604_4, hi604_4⟩ := at_T30 HR0.out x5_1 p604 q604
                    have hw604_4 := hx604_4
                    have hw604_3 := hx604_3
                    have hw604_2 := hx604_2
                    have hw604_1 := hx604_1
                    have hw604_0 := hx604_0
                    obtain rfl : ad603 = ad604 := (by injection e604)
                    replace hx604_0 := (HB.out.cell (World.block_lt_of_cell? w _ hx604_0)).trans hx604_0
                    replace hx604_1 := (HB.out.cell (World.block_lt_of_cell? w _ hx604_1)).trans hx604_1
                    replace hx604_2 := (HB.out.cell (World.block_lt_of_cell? w _ hx604_2)).trans hx604_2
                    replace hx604_3 := (HB.out.cell (World.block_lt_of_cell? w _ hx604_3)).trans hx604_3
                    replace hx604_4 := (HB.out.cell (World.block_lt_of_cell? w _ hx604_4)).trans hx604_4
                    have HR604_3 := Aside0.mk hi604_3
                    have HC604_3 := Aside0.mk hl604_3
                    clear hi604_3 hl604_3
                    have HR604_4 := Aside0.mk hi604_4
                    have HC604_4 := Aside0.mk hl604_4
                    clear hi604_4 hl604_4
                    replace p604 := eq_true p604
                    replace q604 := eq_true q604
                    refine start_ (n := 8) (S := fun w' => w'.cell? (ad603.add ((x5_1).toNat * 5)) = some (.int .i64 ((rd_T30 l0 x5_1).f0)) ∧ w'.cell? ⟨(ad603.add ((x5_1).toNat * 5)).block, (ad603.add ((x5_1).toNat * 5)).off + 1, none⟩ = some (.string ((rd_T30 l0 x5_1).f1)) ∧ w'.cell? ⟨(ad603.add ((x5_1).toNat * 5)).block, (ad603.add ((x5_1).toNat * 5)).off + 2, none⟩ = some (.int .i64 ((rd_T30 l0 x5_1).f2)) ∧ w'.cell? ⟨(ad603.add ((x5_1).toNat * 5)).block, (ad603.add ((x5_1).toNat * 5)).off + 3, none⟩ = some (.slice A604_3 ((rd_T30 l0 x5_1).f3).length c604_3) ∧ w'.cell? ⟨(ad603.add ((x5_1).toNat * 5)).block, (ad603.add ((x5_1).toNat * 5)).off + 4, none⟩ = some (.slice A604_4 ((rd_T30 l0 x5_1).f4).length c604_4)) (ds := []) #[false, false, false, false, false, false, false, false] (by kernel_rfl) rfl rfl ⟨((HB.out.cell (World.block_lt_of_cell? w _ hw604_0)).trans hw604_0), ((HB.out.cell (World.block_lt_of_cell? w _ hw604_1)).trans hw604_1), ((HB.out.cell (World.block_lt_of_cell? w _ hw604_2)).trans hw604_2), ((HB.out.cell (World.block_lt_of_cell? w _ hw604_3)).trans hw604_3), ((HB.out.cell (World.block_lt_of_cell? w _ hw604_4)).trans hw604_4)⟩ (fun hHeld => ?_); refine with_tabW laws_heldValueS.tab7 laws_heldValueS.bits7 (fun HT_ HW_ => ?_)
                    generalize wr.drew = w20 at HB HR604_3 HR604_4 hx604_0 hx604_1 hx604_2 hx604_3 hx604_4 hHeld ⊢
                    refine pure_ (i := 0) (N := some 21) (v := ?_) (a' := ?_) #[true, false, false, false, false, false, false, false] rfl rfl (any_of HT_.out (by kernel_rfl)) (fun _ _ _ h => h) (Or.inl ⟨by rfl, ?_⟩) ?_ ?_
                    rotate_left
                    · intro w'
                      go_simp
                      with_reducible rfl
                    rotate_left
                    · simp only [Act.put, List.setIfInBounds_toArray, List.set_cons_zero, List.set_cons_succ, i64_w, i32_w]
                      rfl
                    refine pure_ (i := 1) (N := some 22) (v := ?_) (a' := ?_) #[true, true, false, false, false, false, false, false] rfl rfl (any_of HT_.out (by kernel_rfl)) (fun _ _ _ h => h) (Or.inl ⟨by rfl, ?_⟩) ?_ ?_
                    rotate_left
                    · intro w'
                      go_simp
                      with_reducible rfl
                    rotate_left
                    · simp only [Act.put, List.setIfInBounds_toArray, List.set_cons_zero, List.set_cons_succ, i64_w, i32_w]
                      rfl
                    refine pure_ (i := 2) (N := some 23) (v := ?_) (a' := ?_) #[true, true, true, false, false, false, false, false] rfl rfl (any_of HT_.out (by kernel_rfl)) (fun _ _ _ h => h) (Or.inl ⟨by rfl, ?_⟩) ?_ ?_
                    rotate_left
                    · intro w'
                      go_simp
                      with_reducible rfl
                    rotate_left
                    · simp only [Act.put, List.setIfInBounds_toArray, List.set_cons_zero, List.set_cons_succ, i64_w, i32_w]
                      rfl
                    refine pure_ (i := 3) (N := some 24) (v := ?_) (a' := ?_) #[true, true, true, true, false, false, false, false] rfl rfl (any_of HT_.out (by kernel_rfl)) (fun _ _ _ h => h) (Or.inl ⟨by rfl, ?_⟩) ?_ ?_
                    rotate_left
                    · intro w'
                      go_simp
                      with_reducible rfl
                    rotate_left
                    · simp only [Act.put, List.setIfInBounds_toArray, List.set_cons_zero, List.set_cons_succ, i64_w, i32_w]
                      rfl
                    refine pure_ (i := 5) (N := some 26) (v := ?_) (a' := ?_) #[true, true, true, true, false, true, false, false] rfl rfl (any_of HT_.out (by kernel_rfl)) (fun _ _ _ h => h) (Or.inl ⟨by rfl, ?_⟩) ?_ ?_
                    rotate_left
                    · intro w'
                      go_simp
                      with_reducible rfl
                    rotate_left
                    · simp only [Act.put, List.setIfInBounds_toArray, List.set_cons_zero, List.set_cons_succ, i64_w, i32_w]
                      rfl
                    refine take_ (i := 4) (N := some 25) (v := ?_) (a' := ?_) #[true, true, true, true, true, true, false, false] rfl rfl (take_ofW HT_.out HW_.out (by kernel_rfl)) (fun _ _ _ h => h) (Or.inl ⟨by rfl, ?_⟩) hHeld ?_ ?_
                    rotate_left
                    · rintro w' ⟨s0, s1, s2, s3, s4⟩
                      go_simp
                      with_reducible rfl
                    rotate_left
                    · simp only [Act.put, List.setIfInBounds_toArray, List.set_cons_zero, List.set_cons_succ, i64_w, i32_w]
                      rfl
                    refine one_ (i := 6) (N := some 27) #[true, true, true, true, true, true, true, false] rfl rfl (one_of HT_.out (by kernel_rfl)) (by decide) (fun K hK => ?_)
                    refine goes_ Try.func74 (by kernel_rfl) rfl #[.int .i64 (wrap64 (x1_1 + 1))] (by rfl) rfl rfl (by (try simp only [List.map_toArray, List.map_cons, List.map_nil]); first | done | rfl | (simp only [List.length_drop, List.length_take]; rfl)) ?_
                    with_reducible refine (laws_markText.calls k1 (wrap64 (x1_1 + 1)) t605 _ A6.out).mono ?_
                    rintro e w21 ⟨rfl, hb⟩
                    refine ⟨_, rfl, ?_⟩
                    have n0_ := Aside0.mk (below_step (by repeat (first | (with_reducible first | exact HB.out | apply below_alloc | apply pw_below_drewN | apply below_drew1) | exact HB.out)) hb)
                    clear HB
                    have HB := n0_
                    clear n0_
                    (try clear hb)
                    (try clear hb2)
                    (try clear hk)
                    (try clear hi)
                    refine hK.out _ _ ⟨((HB.out.cell (World.block_lt_of_cell? w _ hw604_0)).trans hw604_0), ((HB.out.cell (World.block_lt_of_cell? w _ hw604_1)).trans hw604_1), ((HB.out.cell (World.block_lt_of_cell? w _ hw604_2)).trans hw604_2), ((HB.out.cell (World.block_lt_of_cell? w _ hw604_3)).trans hw604_3), ((HB.out.cell (World.block_lt_of_cell? w _ hw604_4)).trans hw604_4)⟩ (fun hHeld => ?_)
                    clear hK K
                    refine norm_ (a' := ?_) ?_ ?_
                    rotate_left
                    · show Act.put _ (some 27) _ = _
                      simp only [Act.put, List.setIfInBounds_toArray, List.set_cons_zero, List.set_cons_succ, i64_w, i32_w]
                      rfl
                    refine pure_ (i := 7) (N := some 28) (v := ?_) (a' := ?_) #[true, true, true, true, true, true, true, true] rfl rfl (any_of HT_.out (by kernel_rfl)) (fun _ _ _ h => h) (Or.inl ⟨by rfl, ?_⟩) ?_ ?_
                    rotate_left
                    · intro w'
                      go_simp
                      with_reducible rfl
                    rotate_left
                    · simp only [Act.put, List.setIfInBounds_toArray, List.set_cons_zero, List.set_cons_succ, i64_w, i32_w]
                      rfl
                    refine done_ (done_of HT_.out (by kernel_rfl)) ?_
                    have p606 : 0 ≤ (x5_1 : Int) := of_decide_eq_true (by first | (with_reducible assumption) | assumption)
                    have q606 : x5_1 < (l0.length : Int) := of_decide_eq_true (by first | (with_reducible assumption) | assumption)
                    obtain ⟨ad606, A606_3, c606_3, A606_4, c606_4, e606, hx606_0, hx606_1, hx606_2, hx606_3, hx606_4, hl606_3, hi606_3, hl606_4, hi606_4⟩ := at_T30 HR0.out x5_1 p606 q606
                    obtain rfl : ad603 = ad606 := (by injection e606)
                    try (have ea_ := hw604_4.symm.trans hx606_4; injection ea_ with ea_; injection ea_ with ea_ eb_ ec_; have ea_ := ea_.symm; have ec_ := ec_.symm; subst ea_; subst ec_)
                    try (have ea_ := hw604_3.symm.trans hx606_3; injection ea_ with ea_; injection ea_ with ea_ eb_ ec_; have ea_ := ea_.symm; have ec_ := ec_.symm; subst ea_; subst ec_)
                    try (have ea_ := hw604_2.symm.trans hx606_2; injection ea_ with ea_; injection ea_ with ea_ eb_ ec_; have ea_ := ea_.symm; have ec_ := ec_.symm; subst ea_; subst ec_)
                    try (have ea_ := hw604_1.symm.trans hx606_1; injection ea_ with ea_; injection ea_ with ea_ eb_ ec_; have ea_ := ea_.symm; have ec_ := ec_.symm; subst ea_; subst ec_)
                    try (have ea_ := hw604_0.symm.trans hx606_0; injection ea_ with ea_; injection ea_ with ea_ eb_ ec_; have ea_ := ea_.symm; have ec_ := ec_.symm; subst ea_; subst ec_)
                    replace hx606_0 := (HB.out.cell (World.block_lt_of_cell? w _ hx606_0)).trans hx606_0
                    replace hx606_1 := (HB.out.cell (World.block_lt_of_cell? w _ hx606_1)).trans hx606_1
                    replace hx606_2 := (HB.out.cell (World.block_lt_of_cell? w _ hx606_2)).trans hx606_2
                    replace hx606_3 := (HB.out.cell (World.block_lt_of_cell? w _ hx606_3)).trans hx606_3
                    replace hx606_4 := (HB.out.cell (World.block_lt_of_cell? w _ hx606_4)).trans hx606_4
                    have HR606_3 := Aside0.mk hi606_3
                    have HC606_3 := Aside0.mk hl606_3
                    clear hi606_3 hl606_3
                    have HR606_4 := Aside0.mk hi606_4
                    have HC606_4 := Aside0.mk hl606_4
                    clear hi606_4 hl606_4
                    replace p606 := eq_true p606
                    replace q606 := eq_true q606
                    have p607 : 0 ≤ (x5_1 : Int) := of_decide_eq_true (by first | (with_reducible assumption) | assumption)
                    have q607 : x5_1 < (l0.length : Int) := of_decide_eq_true (by first | (with_reducible assumption) | assumption)
                    obtain ⟨ad607, A607_3, c607_3, A607_4, c607_4, e607, hx607_0, hx607_1, hx607_2, hx607_3, hx607_4, hl607_3, hi607_3, hl607_4, hi607_4⟩ := at_T30 HR0.out x5_1 p607 q607
                    obtain rfl : ad603 = ad607 := (by injection e607)
                    try (have ea_ := hw604_2.symm.trans hx607_2; injection ea_ with ea_; injection ea_ with ea_ eb_ ec_; have ea_ := ea_.symm; have ec_ := ec_.symm; subst ea_; subst ec_)
                    try (have ea_ := hw604_1.symm.trans hx607_1; injection ea_ with ea_; injection ea_ with ea_ eb_ ec_; have ea_ := ea_.symm; have ec_ := ec_.symm; subst ea_; subst ec_)
                    try (have ea_ := hw604_0.symm.trans hx607_0; injection ea_ with ea_; injection ea_ with ea_ eb_ ec_; have ea_ := ea_.symm; have ec_ := ec_.symm; subst ea_; subst ec_)
                    replace hx607_0 := (HB.out.cell (World.block_lt_of_cell? w _ hx607_0)).trans hx607_0
                    replace hx607_1 := (HB.out.cell (World.block_lt_of_cell? w _ hx607_1)).trans hx607_1
                    replace hx607_2 := (HB.out.cell (World.block_lt_of_cell? w _ hx607_2)).trans hx607_2
                    replace hx607_3 := (HB.out.cell (World.block_lt_of_cell? w _ hx607_3)).trans hx607_3
                    replace hx607_4 := (HB.out.cell (World.block_lt_of_cell? w _ hx607_4)).trans hx607_4
                    have HR607_3 := Aside0.mk hi607_3
                    have HC607_3 := Aside0.mk hl607_3
                    clear hi607_3 hl607_3
                    have HR607_4 := Aside0.mk hi607_4
                    have HC607_4 := Aside0.mk hl607_4
                    clear hi607_4 hl607_4
                    replace p607 := eq_true p607
                    replace q607 := eq_true q607
                    have ea_ := Option.some.inj (hx606_3.symm.trans hx607_3)
                    injection ea_ with ea_ en_ ec_
                    subst ea_
                    subst ec_
                    clear en_
                    have ea_ := Option.some.inj (hx606_4.symm.trans hx607_4)
                    injection ea_ with ea_ en_ ec_
                    subst ea_
                    subst ec_
                    clear en_
                    try go_wp2_with (first | ((with_reducible refine gate_callee (f := 75) rfl ?_); refine goesL_ (some 46) rfl rfl Try.func75 (by kernel_rfl) rfl #[.slice A606_3 ((rd_T30 l0 x5_1).f3).length c606_3, .int .i64 (wrap64 ((wrap64 ((wrap64 (x1_1 + 1)) + 1)) + 1))] rfl (by (try simp only [List.map_toArray, List.map_cons, List.map_nil]); first | done | rfl | (simp only [List.length_drop, List.length_take]; rfl)) ?_; (with_reducible refine (laws_heldStringS.calls k1 _ _ ((rd_T30 l0 x5_1).f3) (wrap64 ((wrap64 ((wrap64 (x1_1 + 1)) + 1)) + 1)) t608 _ ?side1 ?side2 A9.out).mono ?_); (case side1 => repeat (first | exact (Kd.C_below HR607_3.out HB.out) | (with_reducible refine Kd.C_alloc ?_ _) | (with_reducible refine Kd.C_drewN ?_ _) | (with_reducible refine Kd.C_drew ?_))); (case side2 => exact HC607_3.out); rintro e w22 ⟨rfl, hb⟩; refine ⟨_, rfl, ?_⟩; have n0_ := Aside0.mk (below_step (by repeat (first | (with_reducible first | exact HB.out | apply below_alloc | apply pw_below_drewN | apply below_drew1) | exact HB.out)) hb); clear HB; have HB := n0_; clear n0_; (try clear hb); (try clear hb2); (try clear hk); (try clear hi); have p609 : 0 ≤ (x5_1 : Int) := of_decide_eq_true (by first | (with_reducible assumption) | assumption); have q609 : x5_1 < (l0.length : Int) := of_decide_eq_true (by first | (with_reducible assumption) | assumption); obtain ⟨ad609, A609_3, c609_3, A609_4, c609_4, e609, hx609_0, hx609_1, hx609_2, hx609_3, hx609_4, hl609_3, hi609_3, hl609_4, hi609_4⟩ := at_T30 HR0.out x5_1 p609 q609; obtain rfl : ad603 = ad609 := (by injection e609); replace hx609_0 := (HB.out.cell (World.block_lt_of_cell? w _ hx609_0)).trans hx609_0; replace hx609_1 := (HB.out.cell (World.block_lt_of_cell? w _ hx609_1)).trans hx609_1; replace hx609_2 := (HB.out.cell (World.block_lt_of_cell? w _ hx609_2)).trans hx609_2; replace hx609_3 := (HB.out.cell (World.block_lt_of_cell? w _ hx609_3)).trans hx609_3; replace hx609_4 := (HB.out.cell (World.block_lt_of_cell? w _ hx609_4)).trans hx609_4; have HR609_3 := Aside0.mk hi609_3; have HC609_3 := Aside0.mk hl609_3; clear hi609_3 hl609_3; have HR609_4 := Aside0.mk hi609_4; have HC609_4 := Aside0.mk hl609_4; clear hi609_4 hl609_4; replace p609 := eq_true p609; replace q609 := eq_true q609) | ((with_reducible refine gate_callee (f := 76) rfl ?_); refine goesL_ (some 55) rfl rfl Try.func76 (by kernel_rfl) rfl #[.slice A609_4 ((rd_T30 l0 x5_1).f4).length c609_4, .int .i64 t608] rfl (by (try simp only [List.map_toArray, List.map_cons, List.map_nil]); first | done | rfl | (simp only [List.length_drop, List.length_take]; rfl)) ?_; (with_reducible refine (ih k1 (by have := HK1.out; omega) _ _ ((rd_T30 l0 x5_1).f4) t608 t610 _ ?side1 ?side2 A14.out).mono ?_); (case side1 => repeat (first | exact (Kd.C_below HR609_4.out HB.out) | (with_reducible refine Kd.C_alloc ?_ _) | (with_reducible refine Kd.C_drewN ?_ _) | (with_reducible refine Kd.C_drew ?_))); (case side2 => exact HC609_4.out); rintro e w23 ⟨rfl, hb⟩; refine ⟨_, rfl, ?_⟩; have n0_ := Aside0.mk (below_step (by repeat (first | (with_reducible first | exact HB.out | apply below_alloc | apply pw_below_drewN | apply below_drew1) | exact HB.out)) hb); clear HB; have HB := n0_; clear n0_; (try clear hb); (try clear hb2); (try clear hk); (try clear hi)))
                    go_roundg k1
                    case measure => have := HK1.out; omega
                    case rel => exact ⟨(t610), (wrap64 (x5_1 + 1)), (by first | rfl | (simp; done) | (simp [*]; done)), (by first | rfl | (simp; done) | (simp [*]; done)), H', ⟨by have := HK1.out; omega⟩, ⟨by repeat (first | (with_reducible first | exact HB.out | apply below_alloc | apply pw_below_drewN | apply below_drew1) | exact HB.out)⟩⟩
              · rw [if_neg c8] at H
                have c8b0 : (((rd_T30 l0 x5_1).f2) == (wrap64 ((wrap64 (x1_1 + 1)) + 1))) = false := beq_eq_false_iff_ne.mpr c8
                have c8b1 : (((rd_T30 l0 x5_1).f2) != (wrap64 ((wrap64 (x1_1 + 1)) + 1))) = true := bne_iff_ne.mpr c8
                obtain rfl := Option.some.inj H
                have p603 : 0 ≤ (x5_1 : Int) := of_decide_eq_true (by first | (with_reducible assumption) | assumption)
                have q603 : x5_1 < (l0.length : Int) := of_decide_eq_true (by first | (with_reducible assumption) | assumption)
                obtain ⟨ad603, A603_3, c603_3, A603_4, c603_4, e603, hx603_0, hx603_1, hx603_2, hx603_3, hx603_4, hl603_3, hi603_3, hl603_4, hi603_4⟩ := at_T30 HR0.out x5_1 p603 q603
                cases e603
                replace hx603_0 := (HB.out.cell (World.block_lt_of_cell? w _ hx603_0)).trans hx603_0
                replace hx603_1 := (HB.out.cell (World.block_lt_of_cell? w _ hx603_1)).trans hx603_1
                replace hx603_2 := (HB.out.cell (World.block_lt_of_cell? w _ hx603_2)).trans hx603_2
                replace hx603_3 := (HB.out.cell (World.block_lt_of_cell? w _ hx603_3)).trans hx603_3
                replace hx603_4 := (HB.out.cell (World.block_lt_of_cell? w _ hx603_4)).trans hx603_4
                have HR603_3 := Aside0.mk hi603_3
                have HC603_3 := Aside0.mk hl603_3
                clear hi603_3 hl603_3
                have HR603_4 := Aside0.mk hi603_4
                have HC603_4 := Aside0.mk hl603_4
                clear hi603_4 hl603_4
                replace p603 := eq_true p603
                replace q603 := eq_true q603
                try go_wp2
                have n0_ := Aside0.mk (below_drew1 HB.out)
                clear HB
                have HB := n0_
                clear n0_
                have p604 : 0 ≤ (x5_1 : Int) := of_decide_eq_true (by first | (with_reducible assumption) | assumption)
                have q604 : x5_1 < (l0.length : Int) := of_decide_eq_true (by first | (with_reducible assumption) | assumption)
                obtain ⟨ad604, A604_3, c604_3, A604_4, c604_4, e604, hx604_0, hx604_1, hx604_2, hx604_3, hx604_4, hl604_3, hi604_3, hl604_4, hi604_4⟩ := at_T30 HR0.out x5_1 p604 q604
                have hw604_4 := hx604_4
                have hw604_3 := hx604_3
                have hw604_2 := hx604_2
                have hw604_1 := hx604_1
                have hw604_0 := hx604_0
                obtain rfl : ad603 = ad604 := (by injection e604)
                replace hx604_0 := (HB.out.cell (World.block_lt_of_cell? w _ hx604_0)).trans hx604_0
                replace hx604_1 := (HB.out.cell (World.block_lt_of_cell? w _ hx604_1)).trans hx604_1
                replace hx604_2 := (HB.out.cell (World.block_lt_of_cell? w _ hx604_2)).trans hx604_2
                replace hx604_3 := (HB.out.cell (World.block_lt_of_cell? w _ hx604_3)).trans hx604_3
                replace hx604_4 := (HB.out.cell (World.block_lt_of_cell? w _ hx604_4)).trans hx604_4
                have HR604_3 := Aside0.mk hi604_3
                have HC604_3 := Aside0.mk hl604_3
                clear hi604_3 hl604_3
                have HR604_4 := Aside0.mk hi604_4
                have HC604_4 := Aside0.mk hl604_4
                clear hi604_4 hl604_4
                replace p604 := eq_true p604
                replace q604 := eq_true q604
                refine start_ (n := 8) (S := fun w' => w'.cell? (ad603.add ((x5_1).toNat * 5)) = some (.int .i64 ((rd_T30 l0 x5_1).f0)) ∧ w'.cell? ⟨(ad603.add ((x5_1).toNat * 5)).block, (ad603.add ((x5_1).toNat * 5)).off + 1, none⟩ = some (.string ((rd_T30 l0 x5_1).f1)) ∧ w'.cell? ⟨(ad603.add ((x5_1).toNat * 5)).block, (ad603.add ((x5_1).toNat * 5)).off + 2, none⟩ = some (.int .i64 ((rd_T30 l0 x5_1).f2)) ∧ w'.cell? ⟨(ad603.add ((x5_1).toNat * 5)).block, (ad603.add ((x5_1).toNat * 5)).off + 3, none⟩ = some (.slice A604_3 ((rd_T30 l0 x5_1).f3).length c604_3) ∧ w'.cell? ⟨(ad603.add ((x5_1).toNat * 5)).block, (ad603.add ((x5_1).toNat * 5)).off + 4, none⟩ = some (.slice A604_4 ((rd_T30 l0 x5_1).f4).length c604_4)) (ds := []) #[false, false, false, false, false, false, false, false] (by kernel_rfl) rfl rfl ⟨((HB.out.cell (World.block_lt_of_cell? w _ hw604_0)).trans hw604_0), ((HB.out.cell (World.block_lt_of_cell? w _ hw604_1)).trans hw604_1), ((HB.out.cell (World.block_lt_of_cell? w _ hw604_2)).trans hw604_2), ((HB.out.cell (World.block_lt_of_cell? w _ hw604_3)).trans hw604_3), ((HB.out.cell (World.block_lt_of_cell? w _ hw604_4)).trans hw604_4)⟩ (fun hHeld => ?_); refine with_tabW laws_heldValueS.tab7 laws_heldValueS.bits7 (fun HT_ HW_ => ?_)
                generalize wr.drew = w24 at HB HR604_3 HR604_4 hx604_0 hx604_1 hx604_2 hx604_3 hx604_4 hHeld ⊢
                refine pure_ (i := 0) (N := some 21) (v := ?_) (a' := ?_) #[true, false, false, false, false, false, false, false] rfl rfl (any_of HT_.out (by kernel_rfl)) (fun _ _ _ h => h) (Or.inl ⟨by rfl, ?_⟩) ?_ ?_
                rotate_left
                · intro w'
                  go_simp
                  with_reducible rfl
                rotate_left
                · simp only [Act.put, List.setIfInBounds_toArray, List.set_cons_zero, List.set_cons_succ, i64_w, i32_w]
                  rfl
                refine pure_ (i := 1) (N := some 22) (v := ?_) (a' := ?_) #[true, true, false, false, false, false, false, false] rfl rfl (any_of HT_.out (by kernel_rfl)) (fun _ _ _ h => h) (Or.inl ⟨by rfl, ?_⟩) ?_ ?_
                rotate_left
                · intro w'
                  go_simp
                  with_reducible rfl
                rotate_left
                · simp only [Act.put, List.setIfInBounds_toArray, List.set_cons_zero, List.set_cons_succ, i64_w, i32_w]
                  rfl
                refine pure_ (i := 2) (N := some 23) (v := ?_) (a' := ?_) #[true, true, true, false, false, false, false, false] rfl rfl (any_of HT_.out (by kernel_rfl)) (fun _ _ _ h => h) (Or.inl ⟨by rfl, ?_⟩) ?_ ?_
                rotate_left
                · intro w'
                  go_simp
                  with_reducible rfl
                rotate_left
                · simp only [Act.put, List.setIfInBounds_toArray, List.set_cons_zero, List.set_cons_succ, i64_w, i32_w]
                  rfl
                refine pure_ (i := 3) (N := some 24) (v := ?_) (a' := ?_) #[true, true, true, true, false, false, false, false] rfl rfl (any_of HT_.out (by kernel_rfl)) (fun _ _ _ h => h) (Or.inl ⟨by rfl, ?_⟩) ?_ ?_
                rotate_left
                · intro w'
                  go_simp
                  with_reducible rfl
                rotate_left
                · simp only [Act.put, List.setIfInBounds_toArray, List.set_cons_zero, List.set_cons_succ, i64_w, i32_w]
                  rfl
                refine pure_ (i := 5) (N := some 26) (v := ?_) (a' := ?_) #[true, true, true, true, false, true, false, false] rfl rfl (any_of HT_.out (by kernel_rfl)) (fun _ _ _ h => h) (Or.inl ⟨by rfl, ?_⟩) ?_ ?_
                rotate_left
                · intro w'
                  go_simp
                  with_reducible rfl
                rotate_left
                · simp only [Act.put, List.setIfInBounds_toArray, List.set_cons_zero, List.set_cons_succ, i64_w, i32_w]
                  rfl
                refine take_ (i := 4) (N := some 25) (v := ?_) (a' := ?_) #[true, true, true, true, true, true, false, false] rfl rfl (take_ofW HT_.out HW_.out (by kernel_rfl)) (fun _ _ _ h => h) (Or.inl ⟨by rfl, ?_⟩) hHeld ?_ ?_
                rotate_left
                · rintro w' ⟨s0, s1, s2, s3, s4⟩
                  go_simp
                  with_reducible rfl
                rotate_left
                · simp only [Act.put, List.setIfInBounds_toArray, List.set_cons_zero, List.set_cons_succ, i64_w, i32_w]
                  rfl
                refine one_ (i := 6) (N := some 27) #[true, true, true, true, true, true, true, false] rfl rfl (one_of HT_.out (by kernel_rfl)) (by decide) (fun K hK => ?_)
                refine goes_ Try.func74 (by kernel_rfl) rfl #[.int .i64 (wrap64 (x1_1 + 1))] (by rfl) rfl rfl (by (try simp only [List.map_toArray, List.map_cons, List.map_nil]); first | done | rfl | (simp only [List.length_drop, List.length_take]; rfl)) ?_
                with_reducible refine (laws_markText.calls k1 (wrap64 (x1_1 + 1)) t605 _ A6.out).mono ?_
                rintro e w25 ⟨rfl, hb⟩
                refine ⟨_, rfl, ?_⟩
                have n0_ := Aside0.mk (below_step (by repeat (first | (with_reducible first | exact HB.out | apply below_alloc | apply pw_below_drewN | apply below_drew1) | exact HB.out)) hb)
                clear HB
                have HB := n0_
                clear n0_
                (try clear hb)
                (try clear hb2)
                (try clear hk)
                (try clear hi)
                refine hK.out _ _ ⟨((HB.out.cell (World.block_lt_of_cell? w _ hw604_0)).trans hw604_0), ((HB.out.cell (World.block_lt_of_cell? w _ hw604_1)).trans hw604_1), ((HB.out.cell (World.block_lt_of_cell? w _ hw604_2)).trans hw604_2), ((HB.out.cell (World.block_lt_of_cell? w _ hw604_3)).trans hw604_3), ((HB.out.cell (World.block_lt_of_cell? w _ hw604_4)).trans hw604_4)⟩ (fun hHeld => ?_)
                clear hK K
                refine norm_ (a' := ?_) ?_ ?_
                rotate_left
                · show Act.put _ (some 27) _ = _
                  simp only [Act.put, List.setIfInBounds_toArray, List.set_cons_zero, List.set_cons_succ, i64_w, i32_w]
                  rfl
                refine pure_ (i := 7) (N := some 28) (v := ?_) (a' := ?_) #[true, true, true, true, true, true, true, true] rfl rfl (any_of HT_.out (by kernel_rfl)) (fun _ _ _ h => h) (Or.inl ⟨by rfl, ?_⟩) ?_ ?_
                rotate_left
                · intro w'
                  go_simp
                  with_reducible rfl
                rotate_left
                · simp only [Act.put, List.setIfInBounds_toArray, List.set_cons_zero, List.set_cons_succ, i64_w, i32_w]
                  rfl
                refine done_ (done_of HT_.out (by kernel_rfl)) ?_
                have p606 : 0 ≤ (x5_1 : Int) := of_decide_eq_true (by first | (with_reducible assumption) | assumption)
                have q606 : x5_1 < (l0.length : Int) := of_decide_eq_true (by first | (with_reducible assumption) | assumption)
                obtain ⟨ad606, A606_3, c606_3, A606_4, c606_4, e606, hx606_0, hx606_1, hx606_2, hx606_3, hx606_4, hl606_3, hi606_3, hl606_4, hi606_4⟩ := at_T30 HR0.out x5_1 p606 q606
                obtain rfl : ad603 = ad606 := (by injection e606)
                try (have ea_ := hw604_4.symm.trans hx606_4; injection ea_ with ea_; injection ea_ with ea_ eb_ ec_; have ea_ := ea_.symm; have ec_ := ec_.symm; subst ea_; subst ec_)
                try (have ea_ := hw604_3.symm.trans hx606_3; injection ea_ with ea_; injection ea_ with ea_ eb_ ec_; have ea_ := ea_.symm; have ec_ := ec_.symm; subst ea_; subst ec_)
                try (have ea_ := hw604_2.symm.trans hx606_2; injection ea_ with ea_; injection ea_ with ea_ eb_ ec_; have ea_ := ea_.symm; have ec_ := ec_.symm; subst ea_; subst ec_)
                try (have ea_ := hw604_1.symm.trans hx606_1; injection ea_ with ea_; injection ea_ with ea_ eb_ ec_; have ea_ := ea_.symm; have ec_ := ec_.symm; subst ea_; subst ec_)
                try (have ea_ := hw604_0.symm.trans hx606_0; injection ea_ with ea_; injection ea_ with ea_ eb_ ec_; have ea_ := ea_.symm; have ec_ := ec_.symm; subst ea_; subst ec_)
                replace hx606_0 := (HB.out.cell (World.block_lt_of_cell? w _ hx606_0)).trans hx606_0
                replace hx606_1 := (HB.out.cell (World.block_lt_of_cell? w _ hx606_1)).trans hx606_1
                replace hx606_2 := (HB.out.cell (World.block_lt_of_cell? w _ hx606_2)).trans hx606_2
                replace hx606_3 := (HB.out.cell (World.block_lt_of_cell? w _ hx606_3)).trans hx606_3
                replace hx606_4 := (HB.out.cell (World.block_lt_of_cell? w _ hx606_4)).trans hx606_4
                have HR606_3 := Aside0.mk hi606_3
                have HC606_3 := Aside0.mk hl606_3
                clear hi606_3 hl606_3
                have HR606_4 := Aside0.mk hi606_4
                have HC606_4 := Aside0.mk hl606_4
                clear hi606_4 hl606_4
                replace p606 := eq_true p606
                replace q606 := eq_true q606
                try go_wp2
                go_ret
                exact ⟨by first | rfl | (simp [errW_none, errW_some] <;> rfl) | (simp [*, errW_none, errW_some] <;> rfl), by repeat (first | (with_reducible first | exact HB.out | apply below_alloc | apply pw_below_drewN | apply below_drew1) | exact HB.out)⟩
            · rw [if_neg c7] at H
              have c7b0 : (((rd_T30 l0 x5_1).f1).toList == t605.toList) = false := beq_eq_false_iff_ne.mpr c7
              have c7b1 : (((rd_T30 l0 x5_1).f1).toList != t605.toList) = true := bne_iff_ne.mpr c7
              obtain rfl := Option.some.inj H
              have p603 : 0 ≤ (x5_1 : Int) := of_decide_eq_true (by first | (with_reducible assumption) | assumption)
              have q603 : x5_1 < (l0.length : Int) := of_decide_eq_true (by first | (with_reducible assumption) | assumption)
              obtain ⟨ad603, A603_3, c603_3, A603_4, c603_4, e603, hx603_0, hx603_1, hx603_2, hx603_3, hx603_4, hl603_3, hi603_3, hl603_4, hi603_4⟩ := at_T30 HR0.out x5_1 p603 q603
              cases e603
              replace hx603_0 := (HB.out.cell (World.block_lt_of_cell? w _ hx603_0)).trans hx603_0
              replace hx603_1 := (HB.out.cell (World.block_lt_of_cell? w _ hx603_1)).trans hx603_1
              replace hx603_2 := (HB.out.cell (World.block_lt_of_cell? w _ hx603_2)).trans hx603_2
              replace hx603_3 := (HB.out.cell (World.block_lt_of_cell? w _ hx603_3)).trans hx603_3
              replace hx603_4 := (HB.out.cell (World.block_lt_of_cell? w _ hx603_4)).trans hx603_4
              have HR603_3 := Aside0.mk hi603_3
              have HC603_3 := Aside0.mk hl603_3
              clear hi603_3 hl603_3
              have HR603_4 := Aside0.mk hi603_4
              have HC603_4 := Aside0.mk hl603_4
              clear hi603_4 hl603_4
              replace p603 := eq_true p603
              replace q603 := eq_true q603
              try go_wp2
              have n0_ := Aside0.mk (below_drew1 HB.out)
              clear HB
              have HB := n0_
              clear n0_
              have p604 : 0 ≤ (x5_1 : Int) := of_decide_eq_true (by first | (with_reducible assumption) | assumption)
              have q604 : x5_1 < (l0.length : Int) := of_decide_eq_true (by first | (with_reducible assumption) | assumption)
              obtain ⟨ad604, A604_3, c604_3, A604_4, c604_4, e604, hx604_0, hx604_1, hx604_2, hx604_3, hx604_4, hl604_3, hi604_3, hl604_4, hi604_4⟩ := at_T30 HR0.out x5_1 p604 q604
              have hw604_4 := hx604_4
              have hw604_3 := hx604_3
              have hw604_2 := hx604_2
              have hw604_1 := hx604_1
              have hw604_0 := hx604_0
              obtain rfl : ad603 = ad604 := (by injection e604)
              replace hx604_0 := (HB.out.cell (World.block_lt_of_cell? w _ hx604_0)).trans hx604_0
              replace hx604_1 := (HB.out.cell (World.block_lt_of_cell? w _ hx604_1)).trans hx604_1
              replace hx604_2 := (HB.out.cell (World.block_lt_of_cell? w _ hx604_2)).trans hx604_2
              replace hx604_3 := (HB.out.cell (World.block_lt_of_cell? w _ hx604_3)).trans hx604_3
              replace hx604_4 := (HB.out.cell (World.block_lt_of_cell? w _ hx604_4)).trans hx604_4
              have HR604_3 := Aside0.mk hi604_3
              have HC604_3 := Aside0.mk hl604_3
              clear hi604_3 hl604_3
              have HR604_4 := Aside0.mk hi604_4
              have HC604_4 := Aside0.mk hl604_4
              clear hi604_4 hl604_4
              replace p604 := eq_true p604
              replace q604 := eq_true q604
              refine start_ (n := 8) (S := fun w' => w'.cell? (ad603.add ((x5_1).toNat * 5)) = some (.int .i64 ((rd_T30 l0 x5_1).f0)) ∧ w'.cell? ⟨(ad603.add ((x5_1).toNat * 5)).block, (ad603.add ((x5_1).toNat * 5)).off + 1, none⟩ = some (.string ((rd_T30 l0 x5_1).f1)) ∧ w'.cell? ⟨(ad603.add ((x5_1).toNat * 5)).block, (ad603.add ((x5_1).toNat * 5)).off + 2, none⟩ = some (.int .i64 ((rd_T30 l0 x5_1).f2)) ∧ w'.cell? ⟨(ad603.add ((x5_1).toNat * 5)).block, (ad603.add ((x5_1).toNat * 5)).off + 3, none⟩ = some (.slice A604_3 ((rd_T30 l0 x5_1).f3).length c604_3) ∧ w'.cell? ⟨(ad603.add ((x5_1).toNat * 5)).block, (ad603.add ((x5_1).toNat * 5)).off + 4, none⟩ = some (.slice A604_4 ((rd_T30 l0 x5_1).f4).length c604_4)) (ds := []) #[false, false, false, false, false, false, false, false] (by kernel_rfl) rfl rfl ⟨((HB.out.cell (World.block_lt_of_cell? w _ hw604_0)).trans hw604_0), ((HB.out.cell (World.block_lt_of_cell? w _ hw604_1)).trans hw604_1), ((HB.out.cell (World.block_lt_of_cell? w _ hw604_2)).trans hw604_2), ((HB.out.cell (World.block_lt_of_cell? w _ hw604_3)).trans hw604_3), ((HB.out.cell (World.block_lt_of_cell? w _ hw604_4)).trans hw604_4)⟩ (fun hHeld => ?_); refine with_tabW laws_heldValueS.tab7 laws_heldValueS.bits7 (fun HT_ HW_ => ?_)
              generalize wr.drew = w26 at HB HR604_3 HR604_4 hx604_0 hx604_1 hx604_2 hx604_3 hx604_4 hHeld ⊢
              refine pure_ (i := 0) (N := some 21) (v := ?_) (a' := ?_) #[true, false, false, false, false, false, false, false] rfl rfl (any_of HT_.out (by kernel_rfl)) (fun _ _ _ h => h) (Or.inl ⟨by rfl, ?_⟩) ?_ ?_
              rotate_left
              · intro w'
                go_simp
                with_reducible rfl
              rotate_left
              · simp only [Act.put, List.setIfInBounds_toArray, List.set_cons_zero, List.set_cons_succ, i64_w, i32_w]
                rfl
              refine pure_ (i := 1) (N := some 22) (v := ?_) (a' := ?_) #[true, true, false, false, false, false, false, false] rfl rfl (any_of HT_.out (by kernel_rfl)) (fun _ _ _ h => h) (Or.inl ⟨by rfl, ?_⟩) ?_ ?_
              rotate_left
              · intro w'
                go_simp
                with_reducible rfl
              rotate_left
              · simp only [Act.put, List.setIfInBounds_toArray, List.set_cons_zero, List.set_cons_succ, i64_w, i32_w]
                rfl
              refine pure_ (i := 2) (N := some 23) (v := ?_) (a' := ?_) #[true, true, true, false, false, false, false, false] rfl rfl (any_of HT_.out (by kernel_rfl)) (fun _ _ _ h => h) (Or.inl ⟨by rfl, ?_⟩) ?_ ?_
              rotate_left
              · intro w'
                go_simp
                with_reducible rfl
              rotate_left
              · simp only [Act.put, List.setIfInBounds_toArray, List.set_cons_zero, List.set_cons_succ, i64_w, i32_w]
                rfl
              refine pure_ (i := 3) (N := some 24) (v := ?_) (a' := ?_) #[true, true, true, true, false, false, false, false] rfl rfl (any_of HT_.out (by kernel_rfl)) (fun _ _ _ h => h) (Or.inl ⟨by rfl, ?_⟩) ?_ ?_
              rotate_left
              · intro w'
                go_simp
                with_reducible rfl
              rotate_left
              · simp only [Act.put, List.setIfInBounds_toArray, List.set_cons_zero, List.set_cons_succ, i64_w, i32_w]
                rfl
              refine pure_ (i := 5) (N := some 26) (v := ?_) (a' := ?_) #[true, true, true, true, false, true, false, false] rfl rfl (any_of HT_.out (by kernel_rfl)) (fun _ _ _ h => h) (Or.inl ⟨by rfl, ?_⟩) ?_ ?_
              rotate_left
              · intro w'
                go_simp
                with_reducible rfl
              rotate_left
              · simp only [Act.put, List.setIfInBounds_toArray, List.set_cons_zero, List.set_cons_succ, i64_w, i32_w]
                rfl
              refine take_ (i := 4) (N := some 25) (v := ?_) (a' := ?_) #[true, true, true, true, true, true, false, false] rfl rfl (take_ofW HT_.out HW_.out (by kernel_rfl)) (fun _ _ _ h => h) (Or.inl ⟨by rfl, ?_⟩) hHeld ?_ ?_
              rotate_left
              · rintro w' ⟨s0, s1, s2, s3, s4⟩
                go_simp
                with_reducible rfl
              rotate_left
              · simp only [Act.put, List.setIfInBounds_toArray, List.set_cons_zero, List.set_cons_succ, i64_w, i32_w]
                rfl
              refine one_ (i := 6) (N := some 27) #[true, true, true, true, true, true, true, false] rfl rfl (one_of HT_.out (by kernel_rfl)) (by decide) (fun K hK => ?_)
              refine goes_ Try.func74 (by kernel_rfl) rfl #[.int .i64 (wrap64 (x1_1 + 1))] (by rfl) rfl rfl (by (try simp only [List.map_toArray, List.map_cons, List.map_nil]); first | done | rfl | (simp only [List.length_drop, List.length_take]; rfl)) ?_
              with_reducible refine (laws_markText.calls k1 (wrap64 (x1_1 + 1)) t605 _ A6.out).mono ?_
              rintro e w27 ⟨rfl, hb⟩
              refine ⟨_, rfl, ?_⟩
              have n0_ := Aside0.mk (below_step (by repeat (first | (with_reducible first | exact HB.out | apply below_alloc | apply pw_below_drewN | apply below_drew1) | exact HB.out)) hb)
              clear HB
              have HB := n0_
              clear n0_
              (try clear hb)
              (try clear hb2)
              (try clear hk)
              (try clear hi)
              refine hK.out _ _ ⟨((HB.out.cell (World.block_lt_of_cell? w _ hw604_0)).trans hw604_0), ((HB.out.cell (World.block_lt_of_cell? w _ hw604_1)).trans hw604_1), ((HB.out.cell (World.block_lt_of_cell? w _ hw604_2)).trans hw604_2), ((HB.out.cell (World.block_lt_of_cell? w _ hw604_3)).trans hw604_3), ((HB.out.cell (World.block_lt_of_cell? w _ hw604_4)).trans hw604_4)⟩ (fun hHeld => ?_)
              clear hK K
              refine norm_ (a' := ?_) ?_ ?_
              rotate_left
              · show Act.put _ (some 27) _ = _
                simp only [Act.put, List.setIfInBounds_toArray, List.set_cons_zero, List.set_cons_succ, i64_w, i32_w]
                rfl
              refine pure_ (i := 7) (N := some 28) (v := ?_) (a' := ?_) #[true, true, true, true, true, true, true, true] rfl rfl (any_of HT_.out (by kernel_rfl)) (fun _ _ _ h => h) (Or.inl ⟨by rfl, ?_⟩) ?_ ?_
              rotate_left
              · intro w'
                go_simp
                with_reducible rfl
              rotate_left
              · simp only [Act.put, List.setIfInBounds_toArray, List.set_cons_zero, List.set_cons_succ, i64_w, i32_w]
                rfl
              refine done_ (done_of HT_.out (by kernel_rfl)) ?_
              try go_wp2
              go_ret
              exact ⟨by first | rfl | (simp [errW_none, errW_some] <;> rfl) | (simp [*, errW_none, errW_some] <;> rfl), by repeat (first | (with_reducible first | exact HB.out | apply below_alloc | apply pw_below_drewN | apply below_drew1) | exact HB.out)⟩
          · rw [if_neg c5] at H
            have c5b0 : (((rd_T30 l0 x5_1).f0) == x1_1) = false := beq_eq_false_iff_ne.mpr c5
            have c5b1 : (((rd_T30 l0 x5_1).f0) != x1_1) = true := bne_iff_ne.mpr c5
            obtain rfl := Option.some.inj H
            have p603 : 0 ≤ (x5_1 : Int) := of_decide_eq_true (by first | (with_reducible assumption) | assumption)
            have q603 : x5_1 < (l0.length : Int) := of_decide_eq_true (by first | (with_reducible assumption) | assumption)
            obtain ⟨ad603, A603_3, c603_3, A603_4, c603_4, e603, hx603_0, hx603_1, hx603_2, hx603_3, hx603_4, hl603_3, hi603_3, hl603_4, hi603_4⟩ := at_T30 HR0.out x5_1 p603 q603
            cases e603
            replace hx603_0 := (HB.out.cell (World.block_lt_of_cell? w _ hx603_0)).trans hx603_0
            replace hx603_1 := (HB.out.cell (World.block_lt_of_cell? w _ hx603_1)).trans hx603_1
            replace hx603_2 := (HB.out.cell (World.block_lt_of_cell? w _ hx603_2)).trans hx603_2
            replace hx603_3 := (HB.out.cell (World.block_lt_of_cell? w _ hx603_3)).trans hx603_3
            replace hx603_4 := (HB.out.cell (World.block_lt_of_cell? w _ hx603_4)).trans hx603_4
            have HR603_3 := Aside0.mk hi603_3
            have HC603_3 := Aside0.mk hl603_3
            clear hi603_3 hl603_3
            have HR603_4 := Aside0.mk hi603_4
            have HC603_4 := Aside0.mk hl603_4
            clear hi603_4 hl603_4
            replace p603 := eq_true p603
            replace q603 := eq_true q603
            go_wp2
            go_ret
            exact ⟨by first | rfl | (simp [errW_none, errW_some] <;> rfl) | (simp [*, errW_none, errW_some] <;> rfl), by repeat (first | (with_reducible first | exact HB.out | apply below_alloc | apply pw_below_drewN | apply below_drew1) | exact HB.out)⟩
        · rw [if_neg c4] at H
          exact absurd H (by simp)
      · rw [if_neg c3] at H
        have c3b0 : decide (x5_1 < (l0.length : Int)) = false := decide_eq_false c3
        clear c3
        obtain rfl := Option.some.inj H
        go_wp2
        go_ret
        exact ⟨by first | rfl | (simp [errW_none, errW_some] <;> rfl) | (simp [*, errW_none, errW_some] <;> rfl), by repeat (first | (with_reducible first | exact HB.out | apply below_alloc | apply pw_below_drewN | apply below_drew1) | exact HB.out)⟩

end Go.Proofs.Ytchhognpijobcaa.G
