import Derived.Test.YtmoiacijklkfaaaMFnExactObjs1
import Derived.Test.YtmoiacijklkfaaaMFnExactObjs8
import Derived.Test.YtmoiacijklkfaaaMFnExactObjs3
/- G85 -/
-- Laid by wip/g/gprint.py out of the translation, by the kit's print program. Lean checks it.
namespace Go.Proofs.Ytmoiacijklkfaaa.G
open Go.RowKit Go.Proofs.YtmoiacijklkfaaaW.PrintWords Go.Proofs.YtmoiacijklkfaaaW.PrintLast Go.Proofs.YtmoiacijklkfaaaW.PrintMore
attribute [local go_sem] max2_int min2_int max_two min_two max_three min_three max_four min_four   -- for this text's walks alone
set_option linter.unusedVariables false
set_option linter.unusedSimpArgs false

/-! ### laws_heldValueS: function 85 -/
mutual
def laws_heldValueS.l0 : Nat → List (S44) → Int → Int → Option (Int)
  | 0, _, _, _ => none
  | k + 1, x0, x1, x5 => if x5 < (x0.length : Int) then (if 0 ≤ x5 then (if ((rd_T44 x0 x5).f0) = x1 then ((laws_markText.f k (wrap64 (x1 + 1))).bind fun t1041 => (if ((rd_T44 x0 x5).f1).toList = t1041.toList then (if ((rd_T44 x0 x5).f2) = (wrap64 ((wrap64 (x1 + 1)) + 1)) then ((laws_heldStringS.f k ((rd_T44 x0 x5).f3) (wrap64 ((wrap64 ((wrap64 (x1 + 1)) + 1)) + 1))).bind fun t1044 => (if t1044 < 0 then (some (-1)) else ((laws_heldValueS.f k ((rd_T44 x0 x5).f4) t1044).bind fun t1046 => (if t1046 < 0 then (some (-1)) else (laws_heldValueS.l0 k x0 t1046 (wrap64 (x5 + 1))))))) else (some (-1))) else (some (-1)))) else (some (-1))) else (none)) else (some x1)
def laws_heldValueS.f : Nat → List (S44) → Int → Option (Int)
  | 0, _, _ => none
  | k + 1, l0, a1 => laws_heldValueS.l0 k l0 a1 0
end
def laws_heldValueS.T7 : Bool × List (List Nat × List Nat) := (true, [([], []), ([], []), ([0, 1], [0, 1]), ([2], [2]), ([3], [3]), ([], []), ([5], [5]), ([4, 6], [4, 6])])
def laws_heldValueS.B7 : List Nat := [0, 0, 3, 7, 15, 0, 32, 127]
theorem laws_heldValueS.tab7 : rtab .any (opsOf Try.f85 7) = laws_heldValueS.T7 := by kernel_rfl
theorem laws_heldValueS.bits7 : waitsOk laws_heldValueS.T7.2 laws_heldValueS.B7 = true := by kernel_rfl
set_option maxHeartbeats 8000000 in
set_option maxRecDepth 100000 in
theorem laws_heldValueS.calls (k : Nat) : ∀ (A0 : Option Addr) (c0 : Nat) (l0 : List (S44)) (a1 : Int) (r : Int) (w : World) (hr0 : Kd.C k44 w A0 l0.length l0) (hc0 : l0.length ≤ c0) (h : laws_heldValueS.f k l0 a1 = some r),
    Calls Try.prog 85 #[.slice A0 l0.length c0, .int .i64 a1] w fun e w' => e = .returned (.int .i64 r) ∧ Below w.heap.size w w' := by
  induction k using Nat.strongRecOn with
  | _ k ih =>
  intro A0 c0 l0 a1 r w hr0 hc0 h
  cases k with
  | zero => exact absurd h (by simp [laws_heldValueS.f])
  | succ k =>
  simp only [laws_heldValueS.f] at h
  have HR0 := Aside0.mk hr0
  have HC0 := Aside0.mk hc0
  clear hr0 hc0
  have HB := Aside0.mk (Below.refl w.heap.size w)
  have H : (laws_heldValueS.l0 k l0 a1 0) = some r := h
  clear h
  have H' := Aside0.mk H
  clear H
  go_enter Try.func85, Try.ntmps85
  go_wp2
  go_loopg [1, 5] k (fun kq v1 v5 w' => ∃ (x1_1 : Int) (x5_1 : Int), v1 = .int .i64 x1_1 ∧ v5 = .int .i64 x5_1 ∧ Aside0 (laws_heldValueS.l0 kq l0 x1_1 x5_1 = some r) ∧ Aside0 (kq ≤ k) ∧ Aside0 (Below w.heap.size w w'))
  case atStart => exact ⟨(a1), (0), (by first | rfl | (simp; done) | (simp [*]; done)), (by first | rfl | (simp; done) | (simp [*]; done)), H', ⟨Nat.le_refl _⟩, ⟨by repeat (first | (with_reducible first | exact HB.out | apply below_alloc | apply pw_below_drewN | apply below_drew1) | exact HB.out)⟩⟩
  case round =>
    clear H'
    try clear p2
    obtain ⟨x1_1, x5_1, rfl, rfl, HA, HK1, HB⟩ := hrel
    cases gk with
    | zero => exact absurd HA.out (by simp [laws_heldValueS.l0])
    | succ k1 =>
      have H := HA.out
      clear HA
      simp only [laws_heldValueS.l0] at H
      by_cases c3 : x5_1 < (l0.length : Int)
      · rw [if_pos c3] at H
        have c3b0 : decide (x5_1 < (l0.length : Int)) = true := decide_eq_true c3
        clear c3
        by_cases c4 : 0 ≤ x5_1
        · rw [if_pos c4] at H
          have c4b0 : decide (0 ≤ x5_1) = true := decide_eq_true c4
          clear c4
          by_cases c5 : ((rd_T44 l0 x5_1).f0) = x1_1
          · rw [if_pos c5] at H
            have c5b0 : (((rd_T44 l0 x5_1).f0) == x1_1) = true := beq_iff_eq.mpr c5
            have c5b1 : (((rd_T44 l0 x5_1).f0) != x1_1) = false := bne_eq_false_iff_eq.mpr c5
            clear c5
            replace H := Option.bind_eq_some_iff.mp H
            obtain ⟨t1041, A60, H⟩ := H
            replace H : (if ((rd_T44 l0 x5_1).f1).toList = t1041.toList then (if ((rd_T44 l0 x5_1).f2) = (wrap64 ((wrap64 (x1_1 + 1)) + 1)) then ((laws_heldStringS.f k1 ((rd_T44 l0 x5_1).f3) (wrap64 ((wrap64 ((wrap64 (x1_1 + 1)) + 1)) + 1))).bind fun t1044 => (if t1044 < 0 then (some (-1)) else ((laws_heldValueS.f k1 ((rd_T44 l0 x5_1).f4) t1044).bind fun t1046 => (if t1046 < 0 then (some (-1)) else (laws_heldValueS.l0 k1 l0 t1046 (wrap64 (x5_1 + 1))))))) else (some (-1))) else (some (-1))) = some r := H
            have A6 := Aside0.mk A60
            clear A60
            by_cases c7 : ((rd_T44 l0 x5_1).f1).toList = t1041.toList
            · rw [if_pos c7] at H
              have c7b0 : (((rd_T44 l0 x5_1).f1).toList == t1041.toList) = true := beq_iff_eq.mpr c7
              have c7b1 : (((rd_T44 l0 x5_1).f1).toList != t1041.toList) = false := bne_eq_false_iff_eq.mpr c7
              clear c7
              by_cases c8 : ((rd_T44 l0 x5_1).f2) = (wrap64 ((wrap64 (x1_1 + 1)) + 1))
              · rw [if_pos c8] at H
                have c8b0 : (((rd_T44 l0 x5_1).f2) == (wrap64 ((wrap64 (x1_1 + 1)) + 1))) = true := beq_iff_eq.mpr c8
                have c8b1 : (((rd_T44 l0 x5_1).f2) != (wrap64 ((wrap64 (x1_1 + 1)) + 1))) = false := bne_eq_false_iff_eq.mpr c8
                clear c8
                replace H := Option.bind_eq_some_iff.mp H
                obtain ⟨t1044, A90, H⟩ := H
                replace H : (if t1044 < 0 then (some (-1)) else ((laws_heldValueS.f k1 ((rd_T44 l0 x5_1).f4) t1044).bind fun t1046 => (if t1046 < 0 then (some (-1)) else (laws_heldValueS.l0 k1 l0 t1046 (wrap64 (x5_1 + 1)))))) = some r := H
                have A9 := Aside0.mk A90
                clear A90
                by_cases c10 : t1044 < 0
                · rw [if_pos c10] at H
                  have c10b0 : decide (t1044 < 0) = true := decide_eq_true c10
                  clear c10
                  obtain rfl := Option.some.inj H
                  have p1039 : 0 ≤ (x5_1 : Int) := of_decide_eq_true (by first | (with_reducible assumption) | assumption)
                  have q1039 : x5_1 < (l0.length : Int) := of_decide_eq_true (by first | (with_reducible assumption) | assumption)
                  obtain ⟨ad1039, A1039_3, c1039_3, A1039_4, c1039_4, e1039, hx1039_0, hx1039_1, hx1039_2, hx1039_3, hx1039_4, hl1039_3, hi1039_3, hl1039_4, hi1039_4⟩ := at_T44 HR0.out x5_1 p1039 q1039
                  cases e1039
                  replace hx1039_0 := (HB.out.cell (World.block_lt_of_cell? w _ hx1039_0)).trans hx1039_0
                  replace hx1039_1 := (HB.out.cell (World.block_lt_of_cell? w _ hx1039_1)).trans hx1039_1
                  replace hx1039_2 := (HB.out.cell (World.block_lt_of_cell? w _ hx1039_2)).trans hx1039_2
                  replace hx1039_3 := (HB.out.cell (World.block_lt_of_cell? w _ hx1039_3)).trans hx1039_3
                  replace hx1039_4 := (HB.out.cell (World.block_lt_of_cell? w _ hx1039_4)).trans hx1039_4
                  have HR1039_3 := Aside0.mk hi1039_3
                  have HC1039_3 := Aside0.mk hl1039_3
                  clear hi1039_3 hl1039_3
                  have HR1039_4 := Aside0.mk hi1039_4
                  have HC1039_4 := Aside0.mk hl1039_4
                  clear hi1039_4 hl1039_4
                  replace p1039 := eq_true p1039
                  replace q1039 := eq_true q1039
                  try go_wp2
                  have n0_ := Aside0.mk (below_drew1 HB.out)
                  clear HB
                  have HB := n0_
                  clear n0_
                  have p1040 : 0 ≤ (x5_1 : Int) := of_decide_eq_true (by first | (with_reducible assumption) | assumption)
                  have q1040 : x5_1 < (l0.length : Int) := of_decide_eq_true (by first | (with_reducible assumption) | assumption)
                  obtain ⟨ad1040, A1040_3, c1040_3, A1040_4, c1040_4, e1040, hx1040_0, hx1040_1, hx1040_2, hx1040_3, hx1040_4, hl1040_3, hi1040_3, hl1040_4, hi1040_4⟩ := at_T44 HR0.out x5_1 p1040 q1040
                  have hw1040_4 := hx1040_4
                  have hw1040_3 := hx1040_3
                  have hw1040_2 := hx1040_2
                  have hw1040_1 := hx1040_1
                  have hw1040_0 := hx1040_0
                  obtain rfl : ad1039 = ad1040 := (by injection e1040)
                  replace hx1040_0 := (HB.out.cell (World.block_lt_of_cell? w _ hx1040_0)).trans hx1040_0
                  replace hx1040_1 := (HB.out.cell (World.block_lt_of_cell? w _ hx1040_1)).trans hx1040_1
                  replace hx1040_2 := (HB.out.cell (World.block_lt_of_cell? w _ hx1040_2)).trans hx1040_2
                  replace hx1040_3 := (HB.out.cell (World.block_lt_of_cell? w _ hx1040_3)).trans hx1040_3
                  replace hx1040_4 := (HB.out.cell (World.block_lt_of_cell? w _ hx1040_4)).trans hx1040_4
                  have HR1040_3 := Aside0.mk hi1040_3
                  have HC1040_3 := Aside0.mk hl1040_3
                  clear hi1040_3 hl1040_3
                  have HR1040_4 := Aside0.mk hi1040_4
                  have HC1040_4 := Aside0.mk hl1040_4
                  clear hi1040_4 hl1040_4
                  replace p1040 := eq_true p1040
                  replace q1040 := eq_true q1040
                  refine start_ (n := 8) (S := fun w' => w'.cell? (ad1039.add ((x5_1).toNat * 5)) = some (.int .i64 ((rd_T44 l0 x5_1).f0)) ∧ w'.cell? ⟨(ad1039.add ((x5_1).toNat * 5)).block, (ad1039.add ((x5_1).toNat * 5)).off + 1, none⟩ = some (.string ((rd_T44 l0 x5_1).f1)) ∧ w'.cell? ⟨(ad1039.add ((x5_1).toNat * 5)).block, (ad1039.add ((x5_1).toNat * 5)).off + 2, none⟩ = some (.int .i64 ((rd_T44 l0 x5_1).f2)) ∧ w'.cell? ⟨(ad1039.add ((x5_1).toNat * 5)).block, (ad1039.add ((x5_1).toNat * 5)).off + 3, none⟩ = some (.slice A1040_3 ((rd_T44 l0 x5_1).f3).length c1040_3) ∧ w'.cell? ⟨(ad1039.add ((x5_1).toNat * 5)).block, (ad1039.add ((x5_1).toNat * 5)).off + 4, none⟩ = some (.slice A1040_4 ((rd_T44 l0 x5_1).f4).length c1040_4)) (ds := []) #[false, false, false, false, false, false, false, false] (by kernel_rfl) rfl rfl ⟨((HB.out.cell (World.block_lt_of_cell? w _ hw1040_0)).trans hw1040_0), ((HB.out.cell (World.block_lt_of_cell? w _ hw1040_1)).trans hw1040_1), ((HB.out.cell (World.block_lt_of_cell? w _ hw1040_2)).trans hw1040_2), ((HB.out.cell (World.block_lt_of_cell? w _ hw1040_3)).trans hw1040_3), ((HB.out.cell (World.block_lt_of_cell? w _ hw1040_4)).trans hw1040_4)⟩ (fun hHeld => ?_); refine with_tabW laws_heldValueS.tab7 laws_heldValueS.bits7 (fun HT_ HW_ => ?_)
                  generalize wr.drew = w11 at HB HR1040_3 HR1040_4 hx1040_0 hx1040_1 hx1040_2 hx1040_3 hx1040_4 hHeld ⊢
                  refine pure_ (i := 0) (N := some 21) (v := ?_) (a' := ?_) #[true, false, false, false, false, false, false, false] rfl rfl (any_of HT_.out (by kernel_rfl)) (fun _ _ _ h => h) (Or.inl ⟨by rfl, ?_⟩) ?_ ?_
                  rotate_left
                  · intro w'
                    go_simp
                    with_reducible rfl
                  rotate_left
                  · simp only [Act.put, List.setIfInBounds_toArray, List.set_cons_zero, List.set_cons_succ, i64_w, i32_w]
                    rfl
                  refine pure_ (i := 1) (N := some 22) (v := ?_) (a' := ?_) #[true, true, false, false, false, false, false, false] rfl rfl (any_of HT_.out (by kernel_rfl)) (fun _ _ _ h => h) (Or.inl ⟨by rfl, ?_⟩) ?_ ?_
                  rotate_left
                  · intro w'
                    go_simp
                    with_reducible rfl
                  rotate_left
                  · simp only [Act.put, List.setIfInBounds_toArray, List.set_cons_zero, List.set_cons_succ, i64_w, i32_w]
                    rfl
                  refine pure_ (i := 2) (N := some 23) (v := ?_) (a' := ?_) #[true, true, true, false, false, false, false, false] rfl rfl (any_of HT_.out (by kernel_rfl)) (fun _ _ _ h => h) (Or.inl ⟨by rfl, ?_⟩) ?_ ?_
                  rotate_left
                  · intro w'
                    go_simp
                    with_reducible rfl
                  rotate_left
                  · simp only [Act.put, List.setIfInBounds_toArray, List.set_cons_zero, List.set_cons_succ, i64_w, i32_w]
                    rfl
                  refine pure_ (i := 3) (N := some 24) (v := ?_) (a' := ?_) #[true, true, true, true, false, false, false, false] rfl rfl (any_of HT_.out (by kernel_rfl)) (fun _ _ _ h => h) (Or.inl ⟨by rfl, ?_⟩) ?_ ?_
                  rotate_left
                  · intro w'
                    go_simp
                    with_reducible rfl
                  rotate_left
                  · simp only [Act.put, List.setIfInBounds_toArray, List.set_cons_zero, List.set_cons_succ, i64_w, i32_w]
                    rfl
                  refine pure_ (i := 5) (N := some 26) (v := ?_) (a' := ?_) #[true, true, true, true, false, true, false, false] rfl rfl (any_of HT_.out (by kernel_rfl)) (fun _ _ _ h => h) (Or.inl ⟨by rfl, ?_⟩) ?_ ?_
                  rotate_left
                  · intro w'
                    go_simp
                    with_reducible rfl
                  rotate_left
                  · simp only [Act.put, List.setIfInBounds_toArray, List.set_cons_zero, List.set_cons_succ, i64_w, i32_w]
                    rfl
                  refine take_ (i := 4) (N := some 25) (v := ?_) (a' := ?_) #[true, true, true, true, true, true, false, false] rfl rfl (take_ofW HT_.out HW_.out (by kernel_rfl)) (fun _ _ _ h => h) (Or.inl ⟨by rfl, ?_⟩) hHeld ?_ ?_
                  rotate_left
                  · rintro w' ⟨s0, s1, s2, s3, s4⟩
                    go_simp
                    with_reducible rfl
                  rotate_left
                  · simp only [Act.put, List.setIfInBounds_toArray, List.set_cons_zero, List.set_cons_succ, i64_w, i32_w]
                    rfl
                  refine one_ (i := 6) (N := some 27) #[true, true, true, true, true, true, true, false] rfl rfl (one_of HT_.out (by kernel_rfl)) (by decide) (fun K hK => ?_)
                  refine goes_ Try.func83 (by kernel_rfl) rfl #[.int .i64 (wrap64 (x1_1 + 1))] (by rfl) rfl rfl (by (try simp only [List.map_toArray, List.map_cons, List.map_nil]); first | done | rfl | (simp only [List.length_drop, List.length_take]; rfl)) ?_
                  with_reducible refine (laws_markText.calls k1 (wrap64 (x1_1 + 1)) t1041 _ A6.out).mono ?_
                  rintro e w12 ⟨rfl, hb⟩
                  refine ⟨_, rfl, ?_⟩
                  have n0_ := Aside0.mk (below_step (by repeat (first | (with_reducible first | exact HB.out | apply below_alloc | apply pw_below_drewN | apply below_drew1) | exact HB.out)) hb)
                  clear HB
                  have HB := n0_
                  clear n0_
                  (try clear hb)
                  (try clear hb2)
                  (try clear hk)
                  (try clear hi)
                  refine hK.out _ _ ⟨((HB.out.cell (World.block_lt_of_cell? w _ hw1040_0)).trans hw1040_0), ((HB.out.cell (World.block_lt_of_cell? w _ hw1040_1)).trans hw1040_1), ((HB.out.cell (World.block_lt_of_cell? w _ hw1040_2)).trans hw1040_2), ((HB.out.cell (World.block_lt_of_cell? w _ hw1040_3)).trans hw1040_3), ((HB.out.cell (World.block_lt_of_cell? w _ hw1040_4)).trans hw1040_4)⟩ (fun hHeld => ?_)
                  clear hK K
                  refine norm_ (a' := ?_) ?_ ?_
                  rotate_left
                  · show Act.put _ (some 27) _ = _
                    simp only [Act.put, List.setIfInBounds_toArray, List.set_cons_zero, List.set_cons_succ, i64_w, i32_w]
                    rfl
                  refine pure_ (i := 7) (N := some 28) (v := ?_) (a' := ?_) #[true, true, true, true, true, true, true, true] rfl rfl (any_of HT_.out (by kernel_rfl)) (fun _ _ _ h => h) (Or.inl ⟨by rfl, ?_⟩) ?_ ?_
                  rotate_left
                  · intro w'
                    go_simp
                    with_reducible rfl
                  rotate_left
                  · simp only [Act.put, List.setIfInBounds_toArray, List.set_cons_zero, List.set_cons_succ, i64_w, i32_w]
                    rfl
                  refine done_ (done_of HT_.out (by kernel_rfl)) ?_
                  have p1042 : 0 ≤ (x5_1 : Int) := of_decide_eq_true (by first | (with_reducible assumption) | assumption)
                  have q1042 : x5_1 < (l0.length : Int) := of_decide_eq_true (by first | (with_reducible assumption) | assumption)
                  obtain ⟨ad1042, A1042_3, c1042_3, A1042_4, c1042_4, e1042, hx1042_0, hx1042_1, hx1042_2, hx1042_3, hx1042_4, hl1042_3, hi1042_3, hl1042_4, hi1042_4⟩ := at_T44 HR0.out x5_1 p1042 q1042
                  obtain rfl : ad1039 = ad1042 := (by injection e1042)
                  try (have ea_ := hw1040_4.symm.trans hx1042_4; injection ea_ with ea_; injection ea_ with ea_ eb_ ec_; have ea_ := ea_.symm; have ec_ := ec_.symm; subst ea_; subst ec_)
                  try (have ea_ := hw1040_3.symm.trans hx1042_3; injection ea_ with ea_; injection ea_ with ea_ eb_ ec_; have ea_ := ea_.symm; have ec_ := ec_.symm; subst ea_; subst ec_)
                  try (have ea_ := hw1040_2.symm.trans hx1042_2; injection ea_ with ea_; injection ea_ with ea_ eb_ ec_; have ea_ := ea_.symm; have ec_ := ec_.symm; subst ea_; subst ec_)
                  try (have ea_ := hw1040_1.symm.trans hx1042_1; injection ea_ with ea_; injection ea_ with ea_ eb_ ec_; have ea_ := ea_.symm; have ec_ := ec_.symm; subst ea_; subst ec_)
                  try (have ea_ := hw1040_0.symm.trans hx1042_0; injection ea_ with ea_; injection ea_ with ea_ eb_ ec_; have ea_ := ea_.symm; have ec_ := ec_.symm; subst ea_; subst ec_)
                  replace hx1042_0 := (HB.out.cell (World.block_lt_of_cell? w _ hx1042_0)).trans hx1042_0
                  replace hx1042_1 := (HB.out.cell (World.block_lt_of_cell? w _ hx1042_1)).trans hx1042_1
                  replace hx1042_2 := (HB.out.cell (World.block_lt_of_cell? w _ hx1042_2)).trans hx1042_2
                  replace hx1042_3 := (HB.out.cell (World.block_lt_of_cell? w _ hx1042_3)).trans hx1042_3
                  replace hx1042_4 := (HB.out.cell (World.block_lt_of_cell? w _ hx1042_4)).trans hx1042_4
                  have HR1042_3 := Aside0.mk hi1042_3
                  have HC1042_3 := Aside0.mk hl1042_3
                  clear hi1042_3 hl1042_3
                  have HR1042_4 := Aside0.mk hi1042_4
                  have HC1042_4 := Aside0.mk hl1042_4
                  clear hi1042_4 hl1042_4
                  replace p1042 := eq_true p1042
                  replace q1042 := eq_true q1042
                  have p1043 : 0 ≤ (x5_1 : Int) := of_decide_eq_true (by first | (with_reducible assumption) | assumption)
                  have q1043 : x5_1 < (l0.length : Int) := of_decide_eq_true (by first | (with_reducible assumption) | assumption)
                  obtain ⟨ad1043, A1043_3, c1043_3, A1043_4, c1043_4, e1043, hx1043_0, hx1043_1, hx1043_2, hx1043_3, hx1043_4, hl1043_3, hi1043_3, hl1043_4, hi1043_4⟩ := at_T44 HR0.out x5_1 p1043 q1043
                  obtain rfl : ad1039 = ad1043 := (by injection e1043)
                  try (have ea_ := hw1040_2.symm.trans hx1043_2; injection ea_ with ea_; injection ea_ with ea_ eb_ ec_; have ea_ := ea_.symm; have ec_ := ec_.symm; subst ea_; subst ec_)
                  try (have ea_ := hw1040_1.symm.trans hx1043_1; injection ea_ with ea_; injection ea_ with ea_ eb_ ec_; have ea_ := ea_.symm; have ec_ := ec_.symm; subst ea_; subst ec_)
                  try (have ea_ := hw1040_0.symm.trans hx1043_0; injection ea_ with ea_; injection ea_ with ea_ eb_ ec_; have ea_ := ea_.symm; have ec_ := ec_.symm; subst ea_; subst ec_)
                  replace hx1043_0 := (HB.out.cell (World.block_lt_of_cell? w _ hx1043_0)).trans hx1043_0
                  replace hx1043_1 := (HB.out.cell (World.block_lt_of_cell? w _ hx1043_1)).trans hx1043_1
                  replace hx1043_2 := (HB.out.cell (World.block_lt_of_cell? w _ hx1043_2)).trans hx1043_2
                  replace hx1043_3 := (HB.out.cell (World.block_lt_of_cell? w _ hx1043_3)).trans hx1043_3
                  replace hx1043_4 := (HB.out.cell (World.block_lt_of_cell? w _ hx1043_4)).trans hx1043_4
                  have HR1043_3 := Aside0.mk hi1043_3
                  have HC1043_3 := Aside0.mk hl1043_3
                  clear hi1043_3 hl1043_3
                  have HR1043_4 := Aside0.mk hi1043_4
                  have HC1043_4 := Aside0.mk hl1043_4
                  clear hi1043_4 hl1043_4
                  replace p1043 := eq_true p1043
                  replace q1043 := eq_true q1043
                  have ea_ := Option.some.inj (hx1042_3.symm.trans hx1043_3)
                  injection ea_ with ea_ en_ ec_
                  subst ea_
                  subst ec_
                  clear en_
                  have ea_ := Option.some.inj (hx1042_4.symm.trans hx1043_4)
                  injection ea_ with ea_ en_ ec_
                  subst ea_
                  subst ec_
                  clear en_
                  try go_wp2_with (first | ((with_reducible refine gate_callee (f := 78) rfl ?_); refine goesL_ (some 46) rfl rfl Try.func78 (by kernel_rfl) rfl #[.slice A1042_3 ((rd_T44 l0 x5_1).f3).length c1042_3, .int .i64 (wrap64 ((wrap64 ((wrap64 (x1_1 + 1)) + 1)) + 1))] rfl (by (try simp only [List.map_toArray, List.map_cons, List.map_nil]); first | done | rfl | (simp only [List.length_drop, List.length_take]; rfl)) ?_; (with_reducible refine (laws_heldStringS.calls k1 _ _ ((rd_T44 l0 x5_1).f3) (wrap64 ((wrap64 ((wrap64 (x1_1 + 1)) + 1)) + 1)) t1044 _ ?side1 ?side2 A9.out).mono ?_); (case side1 => repeat (first | exact (Kd.C_below HR1043_3.out HB.out) | (with_reducible refine Kd.C_alloc ?_ _) | (with_reducible refine Kd.C_drewN ?_ _) | (with_reducible refine Kd.C_drew ?_))); (case side2 => exact HC1043_3.out); rintro e w13 ⟨rfl, hb⟩; refine ⟨_, rfl, ?_⟩; have n0_ := Aside0.mk (below_step (by repeat (first | (with_reducible first | exact HB.out | apply below_alloc | apply pw_below_drewN | apply below_drew1) | exact HB.out)) hb); clear HB; have HB := n0_; clear n0_; (try clear hb); (try clear hb2); (try clear hk); (try clear hi)))
                  go_ret
                  exact ⟨by first | rfl | (simp [errW_none, errW_some] <;> rfl) | (simp [*, errW_none, errW_some] <;> rfl), by repeat (first | (with_reducible first | exact HB.out | apply below_alloc | apply pw_below_drewN | apply below_drew1) | exact HB.out)⟩
                · rw [if_neg c10] at H
                  have c10b0 : decide (t1044 < 0) = false := decide_eq_false c10
                  clear c10
                  replace H := Option.bind_eq_some_iff.mp H
                  obtain ⟨t1046, A140, H⟩ := H
                  replace H : (if t1046 < 0 then (some (-1)) else (laws_heldValueS.l0 k1 l0 t1046 (wrap64 (x5_1 + 1)))) = some r := H
                  have A14 := Aside0.mk A140
                  clear A140
                  by_cases c15 : t1046 < 0
                  · rw [if_pos c15] at H
                    have c15b0 : decide (t1046 < 0) = true := decide_eq_true c15
                    clear c15
                    obtain rfl := Option.some.inj H
                    have p1039 : 0 ≤ (x5_1 : Int) := of_decide_eq_true (by first | (with_reducible assumption) | assumption)
                    have q1039 : x5_1 < (l0.length : Int) := of_decide_eq_true (by first | (with_reducible assumption) | assumption)
                    obtain ⟨ad1039, A1039_3, c1039_3, A1039_4, c1039_4, e1039, hx1039_0, hx1039_1, hx1039_2, hx1039_3, hx1039_4, hl1039_3, hi1039_3, hl1039_4, hi1039_4⟩ := at_T44 HR0.out x5_1 p1039 q1039
                    cases e1039
                    replace hx1039_0 := (HB.out.cell (World.block_lt_of_cell? w _ hx1039_0)).trans hx1039_0
                    replace hx1039_1 := (HB.out.cell (World.block_lt_of_cell? w _ hx1039_1)).trans hx1039_1
                    replace hx1039_2 := (HB.out.cell (World.block_lt_of_cell? w _ hx1039_2)).trans hx1039_2
                    replace hx1039_3 := (HB.out.cell (World.block_lt_of_cell? w _ hx1039_3)).trans hx1039_3
                    replace hx1039_4 := (HB.out.cell (World.block_lt_of_cell? w _ hx1039_4)).trans hx1039_4
                    have HR1039_3 := Aside0.mk hi1039_3
                    have HC1039_3 := Aside0.mk hl1039_3
                    clear hi1039_3 hl1039_3
                    have HR1039_4 := Aside0.mk hi1039_4
                    have HC1039_4 := Aside0.mk hl1039_4
                    clear hi1039_4 hl1039_4
                    replace p1039 := eq_true p1039
                    replace q1039 := eq_true q1039
                    try go_wp2
                    have n0_ := Aside0.mk (below_drew1 HB.out)
                    clear HB
                    have HB := n0_
                    clear n0_
                    have p1040 : 0 ≤ (x5_1 : Int) := of_decide_eq_true (by first | (with_reducible assumption) | assumption)
                    have q1040 : x5_1 < (l0.length : Int) := of_decide_eq_true (by first | (with_reducible assumption) | assumption)
                    obtain ⟨ad1040, A1040_3, c1040_3, A1040_4, c1040_4, e1040, hx1040_0, hx1040_1, hx1040_2, hx1040_3, hx1040_4, hl1040_3, hi1040_3, hl1040_4, hi1040_4⟩ := at_T44 HR0.out x5_1 p1040 q1040
                    have hw1040_4 := hx1040_4
                    have hw1040_3 := hx1040_3
                    have hw1040_2 := hx1040_2
                    have hw1040_1 := hx1040_1
                    have hw1040_0 := hx1040_0
                    obtain rfl : ad1039 = ad1040 := (by injection e1040)
                    replace hx1040_0 := (HB.out.cell (World.block_lt_of_cell? w _ hx1040_0)).trans hx1040_0
                    replace hx1040_1 := (HB.out.cell (World.block_lt_of_cell? w _ hx1040_1)).trans hx1040_1
                    replace hx1040_2 := (HB.out.cell (World.block_lt_of_cell? w _ hx1040_2)).trans hx1040_2
                    replace hx1040_3 := (HB.out.cell (World.block_lt_of_cell? w _ hx1040_3)).trans hx1040_3
                    replace hx1040_4 := (HB.out.cell (World.block_lt_of_cell? w _ hx1040_4)).trans hx1040_4
                    have HR1040_3 := Aside0.mk hi1040_3
                    have HC1040_3 := Aside0.mk hl1040_3
                    clear hi1040_3 hl1040_3
                    have HR1040_4 := Aside0.mk hi1040_4
                    have HC1040_4 := Aside0.mk hl1040_4
                    clear hi1040_4 hl1040_4
                    replace p1040 := eq_true p1040
                    replace q1040 := eq_true q1040
                    refine start_ (n := 8) (S := fun w' => w'.cell? (ad1039.add ((x5_1).toNat * 5)) = some (.int .i64 ((rd_T44 l0 x5_1).f0)) ∧ w'.cell? ⟨(ad1039.add ((x5_1).toNat * 5)).block, (ad1039.add ((x5_1).toNat * 5)).off + 1, none⟩ = some (.string ((rd_T44 l0 x5_1).f1)) ∧ w'.cell? ⟨(ad1039.add ((x5_1).toNat * 5)).block, (ad1039.add ((x5_1).toNat * 5)).off + 2, none⟩ = some (.int .i64 ((rd_T44 l0 x5_1).f2)) ∧ w'.cell? ⟨(ad1039.add ((x5_1).toNat * 5)).block, (ad1039.add ((x5_1).toNat * 5)).off + 3, none⟩ = some (.slice A1040_3 ((rd_T44 l0 x5_1).f3).length c1040_3) ∧ w'.cell? ⟨(ad1039.add ((x5_1).toNat * 5)).block, (ad1039.add ((x5_1).toNat * 5)).off + 4, none⟩ = some (.slice A1040_4 ((rd_T44 l0 x5_1).f4).length c1040_4)) (ds := []) #[false, false, false, false, false, false, false, false] (by kernel_rfl) rfl rfl ⟨((HB.out.cell (World.block_lt_of_cell? w _ hw1040_0)).trans hw1040_0), ((HB.out.cell (World.block_lt_of_cell? w _ hw1040_1)).trans hw1040_1), ((HB.out.cell (World.block_lt_of_cell? w _ hw1040_2)).trans hw1040_2), ((HB.out.cell (World.block_lt_of_cell? w _ hw1040_3)).trans hw1040_3), ((HB.out.cell (World.block_lt_of_cell? w _ hw1040_4)).trans hw1040_4)⟩ (fun hHeld => ?_); refine with_tabW laws_heldValueS.tab7 laws_heldValueS.bits7 (fun HT_ HW_ => ?_)
                    generalize wr.drew = w16 at HB HR1040_3 HR1040_4 hx1040_0 hx1040_1 hx1040_2 hx1040_3 hx1040_4 hHeld ⊢
                    refine pure_ (i := 0) (N := some 21) (v := ?_) (a' := ?_) #[true, false, false, false, false, false, false, false] rfl rfl (any_of HT_.out (by kernel_rfl)) (fun _ _ _ h => h) (Or.inl ⟨by rfl, ?_⟩) ?_ ?_
                    rotate_left
                    · intro w'
                      go_simp
                      with_reducible rfl
                    rotate_left
                    · simp only [Act.put, List.setIfInBounds_toArray, List.set_cons_zero, List.set_cons_succ, i64_w, i32_w]
                      rfl
                    refine pure_ (i := 1) (N := some 22) (v := ?_) (a' := ?_) #[true, true, false, false, false, false, false, false] rfl rfl (any_of HT_.out (by kernel_rfl)) (fun _ _ _ h => h) (Or.inl ⟨by rfl, ?_⟩) ?_ ?_
                    rotate_left
                    · intro w'
                      go_simp
                      with_reducible rfl
                    rotate_left
                    · simp only [Act.put, List.setIfInBounds_toArray, List.set_cons_zero, List.set_cons_succ, i64_w, i32_w]
                      rfl
                    refine pure_ (i := 2) (N := some 23) (v := ?_) (a' := ?_) #[true, true, true, false, false, false, false, false] rfl rfl (any_of HT_.out (by kernel_rfl)) (fun _ _ _ h => h) (Or.inl ⟨by rfl, ?_⟩) ?_ ?_
                    rotate_left
                    · intro w'
                      go_simp
                      with_reducible rfl
                    rotate_left
                    · simp only [Act.put, List.setIfInBounds_toArray, List.set_cons_zero, List.set_cons_succ, i64_w, i32_w]
                      rfl
                    refine pure_ (i := 3) (N := some 24) (v := ?_) (a' := ?_) #[true, true, true, true, false, false, false, false] rfl rfl (any_of HT_.out (by kernel_rfl)) (fun _ _ _ h => h) (Or.inl ⟨by rfl, ?_⟩) ?_ ?_
                    rotate_left
                    · intro w'
                      go_simp
                      with_reducible rfl
                    rotate_left
                    · simp only [Act.put, List.setIfInBounds_toArray, List.set_cons_zero, List.set_cons_succ, i64_w, i32_w]
                      rfl
                    refine pure_ (i := 5) (N := some 26) (v := ?_) (a' := ?_) #[true, true, true, true, false, true, false, false] rfl rfl (any_of HT_.out (by kernel_rfl)) (fun _ _ _ h => h) (Or.inl ⟨by rfl, ?_⟩) ?_ ?_
                    rotate_left
                    · intro w'
                      go_simp
                      with_reducible rfl
                    rotate_left
                    · simp only [Act.put, List.setIfInBounds_toArray, List.set_cons_zero, List.set_cons_succ, i64_w, i32_w]
                      rfl
                    refine take_ (i := 4) (N := some 25) (v := ?_) (a' := ?_) #[true, true, true, true, true, true, false, false] rfl rfl (take_ofW HT_.out HW_.out (by kernel_rfl)) (fun _ _ _ h => h) (Or.inl ⟨by rfl, ?_⟩) hHeld ?_ ?_
                    rotate_left
                    · rintro w' ⟨s0, s1, s2, s3, s4⟩
                      go_simp
                      with_reducible rfl
                    rotate_left
                    · simp only [Act.put, List.setIfInBounds_toArray, List.set_cons_zero, List.set_cons_succ, i64_w, i32_w]
                      rfl
                    refine one_ (i := 6) (N := some 27) #[true, true, true, true, true, true, true, false] rfl rfl (one_of HT_.out (by kernel_rfl)) (by decide) (fun K hK => ?_)
                    refine goes_ Try.func83 (by kernel_rfl) rfl #[.int .i64 (wrap64 (x1_1 + 1))] (by rfl) rfl rfl (by (try simp only [List.map_toArray, List.map_cons, List.map_nil]); first | done | rfl | (simp only [List.length_drop, List.length_take]; rfl)) ?_
                    with_reducible refine (laws_markText.calls k1 (wrap64 (x1_1 + 1)) t1041 _ A6.out).mono ?_
                    rintro e w17 ⟨rfl, hb⟩
                    refine ⟨_, rfl, ?_⟩
                    have n0_ := Aside0.mk (below_step (by repeat (first | (with_reducible first | exact HB.out | apply below_alloc | apply pw_below_drewN | apply below_drew1) | exact HB.out)) hb)
                    clear HB
                    have HB := n0_
                    clear n0_
                    (try clear hb)
                    (try clear hb2)
                    (try clear hk)
                    (try clear hi)
                    refine hK.out _ _ ⟨((HB.out.cell (World.block_lt_of_cell? w _ hw1040_0)).trans hw1040_0), ((HB.out.cell (World.block_lt_of_cell? w _ hw1040_1)).trans hw1040_1), ((HB.out.cell (World.block_lt_of_cell? w _ hw1040_2)).trans hw1040_2), ((HB.out.cell (World.block_lt_of_cell? w _ hw1040_3)).trans hw1040_3), ((HB.out.cell (World.block_lt_of_cell? w _ hw1040_4)).trans hw1040_4)⟩ (fun hHeld => ?_)
                    clear hK K
                    refine norm_ (a' := ?_) ?_ ?_
                    rotate_left
                    · show Act.put _ (some 27) _ = _
                      simp only [Act.put, List.setIfInBounds_toArray, List.set_cons_zero, List.set_cons_succ, i64_w, i32_w]
                      rfl
                    refine pure_ (i := 7) (N := some 28) (v := ?_) (a' := ?_) #[true, true, true, true, true, true, true, true] rfl rfl (any_of HT_.out (by kernel_rfl)) (fun _ _ _ h => h) (Or.inl ⟨by rfl, ?_⟩) ?_ ?_
                    rotate_left
                    · intro w'
                      go_simp
                      with_reducible rfl
                    rotate_left
                    · simp only [Act.put, List.setIfInBounds_toArray, List.set_cons_zero, List.set_cons_succ, i64_w, i32_w]
                      rfl
                    refine done_ (done_of HT_.out (by kernel_rfl)) ?_
                    have p1042 : 0 ≤ (x5_1 : Int) := of_decide_eq_true (by first | (with_reducible assumption) | assumption)
                    have q1042 : x5_1 < (l0.length : Int) := of_decide_eq_true (by first | (with_reducible assumption) | assumption)
                    obtain ⟨ad1042, A1042_3, c1042_3, A1042_4, c1042_4, e1042, hx1042_0, hx1042_1, hx1042_2, hx1042_3, hx1042_4, hl1042_3, hi1042_3, hl1042_4, hi1042_4⟩ := at_T44 HR0.out x5_1 p1042 q1042
                    obtain rfl : ad1039 = ad1042 := (by injection e1042)
                    try (have ea_ := hw1040_4.symm.trans hx1042_4; injection ea_ with ea_; injection ea_ with ea_ eb_ ec_; have ea_ := ea_.symm; have ec_ := ec_.symm; subst ea_; subst ec_)
                    try (have ea_ := hw1040_3.symm.trans hx1042_3; injection ea_ with ea_; injection ea_ with ea_ eb_ ec_; have ea_ := ea_.symm; have ec_ := ec_.symm; subst ea_; subst ec_)
                    try (have ea_ := hw1040_2.symm.trans hx1042_2; injection ea_ with ea_; injection ea_ with ea_ eb_ ec_; have ea_ := ea_.symm; have ec_ := ec_.symm; subst ea_; subst ec_)
                    try (have ea_ := hw1040_1.symm.trans hx1042_1; injection ea_ with ea_; injection ea_ with ea_ eb_ ec_; have ea_ := ea_.symm; have ec_ := ec_.symm; subst ea_; subst ec_)
                    try (have ea_ := hw1040_0.symm.trans hx1042_0; injection ea_ with ea_; injection ea_ with ea_ eb_ ec_; have ea_ := ea_.symm; have ec_ := ec_.symm; subst ea_; subst ec_)
                    replace hx1042_0 := (HB.out.cell (World.block_lt_of_cell? w _ hx1042_0)).trans hx1042_0
                    replace hx1042_1 := (HB.out.cell (World.block_lt_of_cell? w _ hx1042_1)).trans hx1042_1
                    replace hx1042_2 := (HB.out.cell (World.block_lt_of_cell? w _ hx1042_2)).trans hx1042_2
                    replace hx1042_3 := (HB.out.cell (World.block_lt_of_cell? w _ hx1042_3)).trans hx1042_3
                    replace hx1042_4 := (HB.out.cell (World.block_lt_of_cell? w _ hx1042_4)).trans hx1042_4
                    have HR1042_3 := Aside0.mk hi1042_3
                    have HC1042_3 := Aside0.mk hl1042_3
                    clear hi1042_3 hl1042_3
                    have HR1042_4 := Aside0.mk hi1042_4
                    have HC1042_4 := Aside0.mk hl1042_4
                    clear hi1042_4 hl1042_4
                    replace p1042 := eq_true p1042
                    replace q1042 := eq_true q1042
                    have p1043 : 0 ≤ (x5_1 : Int) := of_decide_eq_true (by first | (with_reducible assumption) | assumption)
                    have q1043 : x5_1 < (l0.length : Int) := of_decide_eq_true (by first | (with_reducible assumption) | assumption)
                    obtain ⟨ad1043, A1043_3, c1043_3, A1043_4, c1043_4, e1043, hx1043_0, hx1043_1, hx1043_2, hx1043_3, hx1043_4, hl1043_3, hi1043_3, hl1043_4, hi1043_4⟩ := at_T44 HR0.out x5_1 p1043 q1043
                    obtain rfl : ad1039 = ad1043 := (by injection e1043)
                    try (have ea_ := hw1040_2.symm.trans hx1043_2; injection ea_ with ea_; injection ea_ with ea_ eb_ ec_; have ea_ := ea_.symm; have ec_ := ec_.symm; subst ea_; subst ec_)
                    try (have ea_ := hw1040_1.symm.trans hx1043_1; injection ea_ with ea_; injection ea_ with ea_ eb_ ec_; have ea_ := ea_.symm; have ec_ := ec_.symm; subst ea_; subst ec_)
                    try (have ea_ := hw1040_0.symm.trans hx1043_0; injection ea_ with ea_; injection ea_ with ea_ eb_ ec_; have ea_ := ea_.symm; have ec_ := ec_.symm; subst ea_; subst ec_)
                    replace hx1043_0 := (HB.out.cell (World.block_lt_of_cell? w _ hx1043_0)).trans hx1043_0
                    replace hx1043_1 := (HB.out.cell (World.block_lt_of_cell? w _ hx1043_1)).trans hx1043_1
                    replace hx1043_2 := (HB.out.cell (World.block_lt_of_cell? w _ hx1043_2)).trans hx1043_2
                    replace hx1043_3 := (HB.out.cell (World.block_lt_of_cell? w _ hx1043_3)).trans hx1043_3
                    replace hx1043_4 := (HB.out.cell (World.block_lt_of_cell? w _ hx1043_4)).trans hx1043_4
                    have HR1043_3 := Aside0.mk hi1043_3
                    have HC1043_3 := Aside0.mk hl1043_3
                    clear hi1043_3 hl1043_3
                    have HR1043_4 := Aside0.mk hi1043_4
                    have HC1043_4 := Aside0.mk hl1043_4
                    clear hi1043_4 hl1043_4
                    replace p1043 := eq_true p1043
                    replace q1043 := eq_true q1043
                    have ea_ := Option.some.inj (hx1042_3.symm.trans hx1043_3)
                    injection ea_ with ea_ en_ ec_
                    subst ea_
                    subst ec_
                    clear en_
                    have ea_ := Option.some.inj (hx1042_4.symm.trans hx1043_4)
                    injection ea_ with ea_ en_ ec_
                    subst ea_
                    subst ec_
                    clear en_
                    try go_wp2_with (first | ((with_reducible refine gate_callee (f := 78) rfl ?_); refine goesL_ (some 46) rfl rfl Try.func78 (by kernel_rfl) rfl #[.slice A1042_3 ((rd_T44 l0 x5_1).f3).length c1042_3, .int .i64 (wrap64 ((wrap64 ((wrap64 (x1_1 + 1)) + 1)) + 1))] rfl (by (try simp only [List.map_toArray, List.map_cons, List.map_nil]); first | done | rfl | (simp only [List.length_drop, List.length_take]; rfl)) ?_; (with_reducible refine (laws_heldStringS.calls k1 _ _ ((rd_T44 l0 x5_1).f3) (wrap64 ((wrap64 ((wrap64 (x1_1 + 1)) + 1)) + 1)) t1044 _ ?side1 ?side2 A9.out).mono ?_); (case side1 => repeat (first | exact (Kd.C_below HR1043_3.out HB.out) | (with_reducible refine Kd.C_alloc ?_ _) | (with_reducible refine Kd.C_drewN ?_ _) | (with_reducible refine Kd.C_drew ?_))); (case side2 => exact HC1043_3.out); rintro e w18 ⟨rfl, hb⟩; refine ⟨_, rfl, ?_⟩; have n0_ := Aside0.mk (below_step (by repeat (first | (with_reducible first | exact HB.out | apply below_alloc | apply pw_below_drewN | apply below_drew1) | exact HB.out)) hb); clear HB; have HB := n0_; clear n0_; (try clear hb); (try clear hb2); (try clear hk); (try clear hi); have p1045 : 0 ≤ (x5_1 : Int) := of_decide_eq_true (by first | (with_reducible assumption) | assumption); have q1045 : x5_1 < (l0.length : Int) := of_decide_eq_true (by first | (with_reducible assumption) | assumption); obtain ⟨ad1045, A1045_3, c1045_3, A1045_4, c1045_4, e1045, hx1045_0, hx1045_1, hx1045_2, hx1045_3, hx1045_4, hl1045_3, hi1045_3, hl1045_4, hi1045_4⟩ := at_T44 HR0.out x5_1 p1045 q1045; obtain rfl : ad1039 = ad1045 := (by injection e1045); replace hx1045_0 := (HB.out.cell (World.block_lt_of_cell? w _ hx1045_0)).trans hx1045_0; replace hx1045_1 := (HB.out.cell (World.block_lt_of_cell? w _ hx1045_1)).trans hx1045_1; replace hx1045_2 := (HB.out.cell (World.block_lt_of_cell? w _ hx1045_2)).trans hx1045_2; replace hx1045_3 := (HB.out.cell (World.block_lt_of_cell? w _ hx1045_3)).trans hx1045_3; replace hx1045_4 := (HB.out.cell (World.block_lt_of_cell? w _ hx1045_4)).trans hx1045_4; have HR1045_3 := Aside0.mk hi1045_3; have HC1045_3 := Aside0.mk hl1045_3; clear hi1045_3 hl1045_3; have HR1045_4 := Aside0.mk hi1045_4; have HC1045_4 := Aside0.mk hl1045_4; clear hi1045_4 hl1045_4; replace p1045 := eq_true p1045; replace q1045 := eq_true q1045) | ((with_reducible refine gate_callee (f := 85) rfl ?_); refine goesL_ (some 55) rfl rfl Try.func85 (by kernel_rfl) rfl #[.slice A1045_4 ((rd_T44 l0 x5_1).f4).length c1045_4, .int .i64 t1044] rfl (by (try simp only [List.map_toArray, List.map_cons, List.map_nil]); first | done | rfl | (simp only [List.length_drop, List.length_take]; rfl)) ?_; (with_reducible refine (ih k1 (by have := HK1.out; omega) _ _ ((rd_T44 l0 x5_1).f4) t1044 t1046 _ ?side1 ?side2 A14.out).mono ?_); (case side1 => repeat (first | exact (Kd.C_below HR1045_4.out HB.out) | (with_reducible refine Kd.C_alloc ?_ _) | (with_reducible refine Kd.C_drewN ?_ _) | (with_reducible refine Kd.C_drew ?_))); (case side2 => exact HC1045_4.out); rintro e w19 ⟨rfl, hb⟩; refine ⟨_, rfl, ?_⟩; have n0_ := Aside0.mk (below_step (by repeat (first | (with_reducible first | exact HB.out | apply below_alloc | apply pw_below_drewN | apply below_drew1) | exact HB.out)) hb); clear HB; have HB := n0_; clear n0_; (try clear hb); (try clear hb2); (try clear hk); (try clear hi)))
                    go_ret
                    exact ⟨by first | rfl | (simp [errW_none, errW_some] <;> rfl) | (simp [*, errW_none, errW_some] <;> rfl), by repeat (first | (with_reducible first | exact HB.out | apply below_alloc | apply pw_below_drewN | apply below_drew1) | exact HB.out)⟩
                  · rw [if_neg c15] at H
                    have c15b0 : decide (t1046 < 0) = false := decide_eq_false c15
                    clear c15
                    have H' := Aside0.mk H
                    clear H
                    have p1039 : 0 ≤ (x5_1 : Int) := of_decide_eq_true (by first | (with_reducible assumption) | assumption)
                    have q1039 : x5_1 < (l0.length : Int) := of_decide_eq_true (by first | (with_reducible assumption) | assumption)
                    obtain ⟨ad1039, A1039_3, c1039_3, A1039_4, c1039_4, e1039, hx1039_0, hx1039_1, hx1039_2, hx1039_3, hx1039_4, hl1039_3, hi1039_3, hl1039_4, hi1039_4⟩ := at_T44 HR0.out x5_1 p1039 q1039
                    cases e1039
                    replace hx1039_0 := (HB.out.cell (World.block_lt_of_cell? w _ hx1039_0)).trans hx1039_0
                    replace hx1039_1 := (HB.out.cell (World.block_lt_of_cell? w _ hx1039_1)).trans hx1039_1
                    replace hx1039_2 := (HB.out.cell (World.block_lt_of_cell? w _ hx1039_2)).trans hx1039_2
                    replace hx1039_3 := (HB.out.cell (World.block_lt_of_cell? w _ hx1039_3)).trans hx1039_3
                    replace hx1039_4 := (HB.out.cell (World.block_lt_of_cell? w _ hx1039_4)).trans hx1039_4
                    have HR1039_3 := Aside0.mk hi1039_3
                    have HC1039_3 := Aside0.mk hl1039_3
                    clear hi1039_3 hl1039_3
                    have HR1039_4 := Aside0.mk hi1039_4
                    have HC1039_4 := Aside0.mk hl1039_4
                    clear hi1039_4 hl1039_4
                    replace p1039 := eq_true p1039
                    replace q1039 := eq_true q1039
                    try go_wp2
                    have n0_ := Aside0.mk (below_drew1 HB.out)
                    clear HB
                    have HB := n0_
                    clear n0_
                    have p1040 : 0 ≤ (x5_1 : Int) := of_decide_eq_true (by first | (with_reducible assumption) | assumption)
                    have q1040 : x5_1 < (l0.length : Int) := of_decide_eq_true (by first | (with_reducible assumption) | assumption)
                    obtain ⟨ad1040, A1040_3, c1040_3, A1040_4, c1040_4, e1040, hx1040_0, hx1040_1, hx1040_2, hx1040_3, hx1040_4, hl1040_3, hi1040_3, hl1040_4, hi1040_4⟩ := at_T44 HR0.out x5_1 p1040 q1040
                    have hw1040_4 := hx1040_4
                    have hw1040_3 := hx1040_3
                    have hw1040_2 := hx1040_2
                    have hw1040_1 := hx1040_1
                    have hw1040_0 := hx1040_0
                    obtain rfl : ad1039 = ad1040 := (by injection e1040)
                    replace hx1040_0 := (HB.out.cell (World.block_lt_of_cell? w _ hx1040_0)).trans hx1040_0
                    replace hx1040_1 := (HB.out.cell (World.block_lt_of_cell? w _ hx1040_1)).trans hx1040_1
                    replace hx1040_2 := (HB.out.cell (World.block_lt_of_cell? w _ hx1040_2)).trans hx1040_2
                    replace hx1040_3 := (HB.out.cell (World.block_lt_of_cell? w _ hx1040_3)).trans hx1040_3
                    replace hx1040_4 := (HB.out.cell (World.block_lt_of_cell? w _ hx1040_4)).trans hx1040_4
                    have HR1040_3 := Aside0.mk hi1040_3
                    have HC1040_3 := Aside0.mk hl1040_3
                    clear hi1040_3 hl1040_3
                    have HR1040_4 := Aside0.mk hi1040_4
                    have HC1040_4 := Aside0.mk hl1040_4
                    clear hi1040_4 hl1040_4
                    replace p1040 := eq_true p1040
                    replace q1040 := eq_true q1040
                    refine start_ (n := 8) (S := fun w' => w'.cell? (ad1039.add ((x5_1).toNat * 5)) = some (.int .i64 ((rd_T44 l0 x5_1).f0)) ∧ w'.cell? ⟨(ad1039.add ((x5_1).toNat * 5)).block, (ad1039.add ((x5_1).toNat * 5)).off + 1, none⟩ = some (.string ((rd_T44 l0 x5_1).f1)) ∧ w'.cell? ⟨(ad1039.add ((x5_1).toNat * 5)).block, (ad1039.add ((x5_1).toNat * 5)).off + 2, none⟩ = some (.int .i64 ((rd_T44 l0 x5_1).f2)) ∧ w'.cell? ⟨(ad1039.add ((x5_1).toNat * 5)).block, (ad1039.add ((x5_1).toNat * 5)).off + 3, none⟩ = some (.slice A1040_3 ((rd_T44 l0 x5_1).f3).length c1040_3) ∧ w'.cell? ⟨(ad1039.add ((x5_1).toNat * 5)).block, (ad1039.add ((x5_1).toNat * 5)).off + 4, none⟩ = some (.slice A1040_4 ((rd_T44 l0 x5_1).f4).length c1040_4)) (ds := []) #[false, false, false, false, false, false, false, false] (by kernel_rfl) rfl rfl ⟨((HB.out.cell (World.block_lt_of_cell? w _ hw1040_0)).trans hw1040_0), ((HB.out.cell (World.block_lt_of_cell? w _ hw1040_1)).trans hw1040_1), ((HB.out.cell (World.block_lt_of_cell? w _ hw1040_2)).trans hw1040_2), ((HB.out.cell (World.block_lt_of_cell? w _ hw1040_3)).trans hw1040_3), ((HB.out.cell (World.block_lt_of_cell? w _ hw1040_4)).trans hw1040_4)⟩ (fun hHeld => ?_); refine with_tabW laws_heldValueS.tab7 laws_heldValueS.bits7 (fun HT_ HW_ => ?_)
                    generalize wr.drew = w20 at HB HR1040_3 HR1040_4 hx1040_0 hx1040_1 hx1040_2 hx1040_3 hx1040_4 hHeld ⊢
                    refine pure_ (i := 0) (N := some 21) (v := ?_) (a' := ?_) #[true, false, false, false, false, false, false, false] rfl rfl (any_of HT_.out (by kernel_rfl)) (fun _ _ _ h => h) (Or.inl ⟨by rfl, ?_⟩) ?_ ?_
                    rotate_left
                    · intro w'
                      go_simp
                      with_reducible rfl
                    rotate_left
                    · simp only [Act.put, List.setIfInBounds_toArray, List.set_cons_zero, List.set_cons_succ, i64_w, i32_w]
                      rfl
                    refine pure_ (i := 1) (N := some 22) (v := ?_) (a' := ?_) #[true, true, false, false, false, false, false, false] rfl rfl (any_of HT_.out (by kernel_rfl)) (fun _ _ _ h => h) (Or.inl ⟨by rfl, ?_⟩) ?_ ?_
                    rotate_left
                    · intro w'
                      go_simp
                      with_reducible rfl
                    rotate_left
                    · simp only [Act.put, List.setIfInBounds_toArray, List.set_cons_zero, List.set_cons_succ, i64_w, i32_w]
                      rfl
                    refine pure_ (i := 2) (N := some 23) (v := ?_) (a' := ?_) #[true, true, true, false, false, false, false, false] rfl rfl (any_of HT_.out (by kernel_rfl)) (fun _ _ _ h => h) (Or.inl ⟨by rfl, ?_⟩) ?_ ?_
                    rotate_left
                    · intro w'
                      go_simp
                      with_reducible rfl
                    rotate_left
                    · simp only [Act.put, List.setIfInBounds_toArray, List.set_cons_zero, List.set_cons_succ, i64_w, i32_w]
                      rfl
                    refine pure_ (i := 3) (N := some 24) (v := ?_) (a' := ?_) #[true, true, true, true, false, false, false, false] rfl rfl (any_of HT_.out (by kernel_rfl)) (fun _ _ _ h => h) (Or.inl ⟨by rfl, ?_⟩) ?_ ?_
                    rotate_left
                    · intro w'
                      go_simp
                      with_reducible rfl
                    rotate_left
                    · simp only [Act.put, List.setIfInBounds_toArray, List.set_cons_zero, List.set_cons_succ, i64_w, i32_w]
                      rfl
                    refine pure_ (i := 5) (N := some 26) (v := ?_) (a' := ?_) #[true, true, true, true, false, true, false, false] rfl rfl (any_of HT_.out (by kernel_rfl)) (fun _ _ _ h => h) (Or.inl ⟨by rfl, ?_⟩) ?_ ?_
                    rotate_left
                    · intro w'
                      go_simp
                      with_reducible rfl
                    rotate_left
                    · simp only [Act.put, List.setIfInBounds_toArray, List.set_cons_zero, List.set_cons_succ, i64_w, i32_w]
                      rfl
                    refine take_ (i := 4) (N := some 25) (v := ?_) (a' := ?_) #[true, true, true, true, true, true, false, false] rfl rfl (take_ofW HT_.out HW_.out (by kernel_rfl)) (fun _ _ _ h => h) (Or.inl ⟨by rfl, ?_⟩) hHeld ?_ ?_
                    rotate_left
                    · rintro w' ⟨s0, s1, s2, s3, s4⟩
                      go_simp
                      with_reducible rfl
                    rotate_left
                    · simp only [Act.put, List.setIfInBounds_toArray, List.set_cons_zero, List.set_cons_succ, i64_w, i32_w]
                      rfl
                    refine one_ (i := 6) (N := some 27) #[true, true, true, true, true, true, true, false] rfl rfl (one_of HT_.out (by kernel_rfl)) (by decide) (fun K hK => ?_)
                    refine goes_ Try.func83 (by kernel_rfl) rfl #[.int .i64 (wrap64 (x1_1 + 1))] (by rfl) rfl rfl (by (try simp only [List.map_toArray, List.map_cons, List.map_nil]); first | done | rfl | (simp only [List.length_drop, List.length_take]; rfl)) ?_
                    with_reducible refine (laws_markText.calls k1 (wrap64 (x1_1 + 1)) t1041 _ A6.out).mono ?_
                    rintro e w21 ⟨rfl, hb⟩
                    refine ⟨_, rfl, ?_⟩
                    have n0_ := Aside0.mk (below_step (by repeat (first | (with_reducible first | exact HB.out | apply below_alloc | apply pw_below_drewN | apply below_drew1) | exact HB.out)) hb)
                    clear HB
                    have HB := n0_
                    clear n0_
                    (try clear hb)
                    (try clear hb2)
                    (try clear hk)
                    (try clear hi)
                    refine hK.out _ _ ⟨((HB.out.cell (World.block_lt_of_cell? w _ hw1040_0)).trans hw1040_0), ((HB.out.cell (World.block_lt_of_cell? w _ hw1040_1)).trans hw1040_1), ((HB.out.cell (World.block_lt_of_cell? w _ hw1040_2)).trans hw1040_2), ((HB.out.cell (World.block_lt_of_cell? w _ hw1040_3)).trans hw1040_3), ((HB.out.cell (World.block_lt_of_cell? w _ hw1040_4)).trans hw1040_4)⟩ (fun hHeld => ?_)
                    clear hK K
                    refine norm_ (a' := ?_) ?_ ?_
                    rotate_left
                    · show Act.put _ (some 27) _ = _
                      simp only [Act.put, List.setIfInBounds_toArray, List.set_cons_zero, List.set_cons_succ, i64_w, i32_w]
                      rfl
                    refine pure_ (i := 7) (N := some 28) (v := ?_) (a' := ?_) #[true, true, true, true, true, true, true, true] rfl rfl (any_of HT_.out (by kernel_rfl)) (fun _ _ _ h => h) (Or.inl ⟨by rfl, ?_⟩) ?_ ?_
                    rotate_left
                    · intro w'
                      go_simp
                      with_reducible rfl
                    rotate_left
                    · simp only [Act.put, List.setIfInBounds_toArray, List.set_cons_zero, List.set_cons_succ, i64_w, i32_w]
                      rfl
                    refine done_ (done_of HT_.out (by kernel_rfl)) ?_
                    have p1042 : 0 ≤ (x5_1 : Int) := of_decide_eq_true (by first | (with_reducible assumption) | assumption)
                    have q1042 : x5_1 < (l0.length : Int) := of_decide_eq_true (by first | (with_reducible assumption) | assumption)
                    obtain ⟨ad1042, A1042_3, c1042_3, A1042_4, c1042_4, e1042, hx1042_0, hx1042_1, hx1042_2, hx1042_3, hx1042_4, hl1042_3, hi1042_3, hl1042_4, hi1042_4⟩ := at_T44 HR0.out x5_1 p1042 q1042
                    obtain rfl : ad1039 = ad1042 := (by injection e1042)
                    try (have ea_ := hw1040_4.symm.trans hx1042_4; injection ea_ with ea_; injection ea_ with ea_ eb_ ec_; have ea_ := ea_.symm; have ec_ := ec_.symm; subst ea_; subst ec_)
                    try (have ea_ := hw1040_3.symm.trans hx1042_3; injection ea_ with ea_; injection ea_ with ea_ eb_ ec_; have ea_ := ea_.symm; have ec_ := ec_.symm; subst ea_; subst ec_)
                    try (have ea_ := hw1040_2.symm.trans hx1042_2; injection ea_ with ea_; injection ea_ with ea_ eb_ ec_; have ea_ := ea_.symm; have ec_ := ec_.symm; subst ea_; subst ec_)
                    try (have ea_ := hw1040_1.symm.trans hx1042_1; injection ea_ with ea_; injection ea_ with ea_ eb_ ec_; have ea_ := ea_.symm; have ec_ := ec_.symm; subst ea_; subst ec_)
                    try (have ea_ := hw1040_0.symm.trans hx1042_0; injection ea_ with ea_; injection ea_ with ea_ eb_ ec_; have ea_ := ea_.symm; have ec_ := ec_.symm; subst ea_; subst ec_)
                    replace hx1042_0 := (HB.out.cell (World.block_lt_of_cell? w _ hx1042_0)).trans hx1042_0
                    replace hx1042_1 := (HB.out.cell (World.block_lt_of_cell? w _ hx1042_1)).trans hx1042_1
                    replace hx1042_2 := (HB.out.cell (World.block_lt_of_cell? w _ hx1042_2)).trans hx1042_2
                    replace hx1042_3 := (HB.out.cell (World.block_lt_of_cell? w _ hx1042_3)).trans hx1042_3
                    replace hx1042_4 := (HB.out.cell (World.block_lt_of_cell? w _ hx1042_4)).trans hx1042_4
                    have HR1042_3 := Aside0.mk hi1042_3
                    have HC1042_3 := Aside0.mk hl1042_3
                    clear hi1042_3 hl1042_3
                    have HR1042_4 := Aside0.mk hi1042_4
                    have HC1042_4 := Aside0.mk hl1042_4
                    clear hi1042_4 hl1042_4
                    replace p1042 := eq_true p1042
                    replace q1042 := eq_true q1042
                    have p1043 : 0 ≤ (x5_1 : Int) := of_decide_eq_true (by first | (with_reducible assumption) | assumption)
                    have q1043 : x5_1 < (l0.length : Int) := of_decide_eq_true (by first | (with_reducible assumption) | assumption)
                    obtain ⟨ad1043, A1043_3, c1043_3, A1043_4, c1043_4, e1043, hx1043_0, hx1043_1, hx1043_2, hx1043_3, hx1043_4, hl1043_3, hi1043_3, hl1043_4, hi1043_4⟩ := at_T44 HR0.out x5_1 p1043 q1043
                    obtain rfl : ad1039 = ad1043 := (by injection e1043)
                    try (have ea_ := hw1040_2.symm.trans hx1043_2; injection ea_ with ea_; injection ea_ with ea_ eb_ ec_; have ea_ := ea_.symm; have ec_ := ec_.symm; subst ea_; subst ec_)
                    try (have ea_ := hw1040_1.symm.trans hx1043_1; injection ea_ with ea_; injection ea_ with ea_ eb_ ec_; have ea_ := ea_.symm; have ec_ := ec_.symm; subst ea_; subst ec_)
                    try (have ea_ := hw1040_0.symm.trans hx1043_0; injection ea_ with ea_; injection ea_ with ea_ eb_ ec_; have ea_ := ea_.symm; have ec_ := ec_.symm; subst ea_; subst ec_)
                    replace hx1043_0 := (HB.out.cell (World.block_lt_of_cell? w _ hx1043_0)).trans hx1043_0
                    replace hx1043_1 := (HB.out.cell (World.block_lt_of_cell? w _ hx1043_1)).trans hx1043_1
                    replace hx1043_2 := (HB.out.cell (World.block_lt_of_cell? w _ hx1043_2)).trans hx1043_2
                    replace hx1043_3 := (HB.out.cell (World.block_lt_of_cell? w _ hx1043_3)).trans hx1043_3
                    replace hx1043_4 := (HB.out.cell (World.block_lt_of_cell? w _ hx1043_4)).trans hx1043_4
                    have HR1043_3 := Aside0.mk hi1043_3
                    have HC1043_3 := Aside0.mk hl1043_3
                    clear hi1043_3 hl1043_3
                    have HR1043_4 := Aside0.mk hi1043_4
                    have HC1043_4 := Aside0.mk hl1043_4
                    clear hi1043_4 hl1043_4
                    replace p1043 := eq_true p1043
                    replace q1043 := eq_true q1043
                    have ea_ := Option.some.inj (hx1042_3.symm.trans hx1043_3)
                    injection ea_ with ea_ en_ ec_
                    subst ea_
                    subst ec_
                    clear en_
                    have ea_ := Option.some.inj (hx1042_4.symm.trans hx1043_4)
                    injection ea_ with ea_ en_ ec_
                    subst ea_
                    subst ec_
                    clear en_
                    try go_wp2_with (first | ((with_reducible refine gate_callee (f := 78) rfl ?_); refine goesL_ (some 46) rfl rfl Try.func78 (by kernel_rfl) rfl #[.slice A1042_3 ((rd_T44 l0 x5_1).f3).length c1042_3, .int .i64 (wrap64 ((wrap64 ((wrap64 (x1_1 + 1)) + 1)) + 1))] rfl (by (try simp only [List.map_toArray, List.map_cons, List.map_nil]); first | done | rfl | (simp only [List.length_drop, List.length_take]; rfl)) ?_; (with_reducible refine (laws_heldStringS.calls k1 _ _ ((rd_T44 l0 x5_1).f3) (wrap64 ((wrap64 ((wrap64 (x1_1 + 1)) + 1)) + 1)) t1044 _ ?side1 ?side2 A9.out).mono ?_); (case side1 => repeat (first | exact (Kd.C_below HR1043_3.out HB.out) | (with_reducible refine Kd.C_alloc ?_ _) | (with_reducible refine Kd.C_drewN ?_ _) | (with_reducible refine Kd.C_drew ?_))); (case side2 => exact HC1043_3.out); rintro e w22 ⟨rfl, hb⟩; refine ⟨_, rfl, ?_⟩; have n0_ := Aside0.mk (below_step (by repeat (first | (with_reducible first | exact HB.out | apply below_alloc | apply pw_below_drewN | apply below_drew1) | exact HB.out)) hb); clear HB; have HB := n0_; clear n0_; (try clear hb); (try clear hb2); (try clear hk); (try clear hi); have p1045 : 0 ≤ (x5_1 : Int) := of_decide_eq_true (by first | (with_reducible assumption) | assumption); have q1045 : x5_1 < (l0.length : Int) := of_decide_eq_true (by first | (with_reducible assumption) | assumption); obtain ⟨ad1045, A1045_3, c1045_3, A1045_4, c1045_4, e1045, hx1045_0, hx1045_1, hx1045_2, hx1045_3, hx1045_4, hl1045_3, hi1045_3, hl1045_4, hi1045_4⟩ := at_T44 HR0.out x5_1 p1045 q1045; obtain rfl : ad1039 = ad1045 := (by injection e1045); replace hx1045_0 := (HB.out.cell (World.block_lt_of_cell? w _ hx1045_0)).trans hx1045_0; replace hx1045_1 := (HB.out.cell (World.block_lt_of_cell? w _ hx1045_1)).trans hx1045_1; replace hx1045_2 := (HB.out.cell (World.block_lt_of_cell? w _ hx1045_2)).trans hx1045_2; replace hx1045_3 := (HB.out.cell (World.block_lt_of_cell? w _ hx1045_3)).trans hx1045_3; replace hx1045_4 := (HB.out.cell (World.block_lt_of_cell? w _ hx1045_4)).trans hx1045_4; have HR1045_3 := Aside0.mk hi1045_3; have HC1045_3 := Aside0.mk hl1045_3; clear hi1045_3 hl1045_3; have HR1045_4 := Aside0.mk hi1045_4; have HC1045_4 := Aside0.mk hl1045_4; clear hi1045_4 hl1045_4; replace p1045 := eq_true p1045; replace q1045 := eq_true q1045) | ((with_reducible refine gate_callee (f := 85) rfl ?_); refine goesL_ (some 55) rfl rfl Try.func85 (by kernel_rfl) rfl #[.slice A1045_4 ((rd_T44 l0 x5_1).f4).length c1045_4, .int .i64 t1044] rfl (by (try simp only [List.map_toArray, List.map_cons, List.map_nil]); first | done | rfl | (simp only [List.length_drop, List.length_take]; rfl)) ?_; (with_reducible refine (ih k1 (by have := HK1.out; omega) _ _ ((rd_T44 l0 x5_1).f4) t1044 t1046 _ ?side1 ?side2 A14.out).mono ?_); (case side1 => repeat (first | exact (Kd.C_below HR1045_4.out HB.out) | (with_reducible refine Kd.C_alloc ?_ _) | (with_reducible refine Kd.C_drewN ?_ _) | (with_reducible refine Kd.C_drew ?_))); (case side2 => exact HC1045_4.out); rintro e w23 ⟨rfl, hb⟩; refine ⟨_, rfl, ?_⟩; have n0_ := Aside0.mk (below_step (by repeat (first | (with_reducible first | exact HB.out | apply below_alloc | apply pw_below_drewN | apply below_drew1) | exact HB.out)) hb); clear HB; have HB := n0_; clear n0_; (try clear hb); (try clear hb2); (try clear hk); (try clear hi)))
                    go_roundg k1
                    case measure => have := HK1.out; omega
                    case rel => exact ⟨(t1046), (wrap64 (x5_1 + 1)), (by first | rfl | (simp; done) | (simp [*]; done)), (by first | rfl | (simp; done) | (simp [*]; done)), H', ⟨by have := HK1.out; omega⟩, ⟨by repeat (first | (with_reducible first | exact HB.out | apply below_alloc | apply pw_below_drewN | apply below_drew1) | exact HB.out)⟩⟩
              · rw [if_neg c8] at H
                have c8b0 : (((rd_T44 l0 x5_1).f2) == (wrap64 ((wrap64 (x1_1 + 1)) + 1))) = false := beq_eq_false_iff_ne.mpr c8
                have c8b1 : (((rd_T44 l0 x5_1).f2) != (wrap64 ((wrap64 (x1_1 + 1)) + 1))) = true := bne_iff_ne.mpr c8
                obtain rfl := Option.some.inj H
                have p1039 : 0 ≤ (x5_1 : Int) := of_decide_eq_true (by first | (with_reducible assumption) | assumption)
                have q1039 : x5_1 < (l0.length : Int) := of_decide_eq_true (by first | (with_reducible assumption) | assumption)
                obtain ⟨ad1039, A1039_3, c1039_3, A1039_4, c1039_4, e1039, hx1039_0, hx1039_1, hx1039_2, hx1039_3, hx1039_4, hl1039_3, hi1039_3, hl1039_4, hi1039_4⟩ := at_T44 HR0.out x5_1 p1039 q1039
                cases e1039
                replace hx1039_0 := (HB.out.cell (World.block_lt_of_cell? w _ hx1039_0)).trans hx1039_0
                replace hx1039_1 := (HB.out.cell (World.block_lt_of_cell? w _ hx1039_1)).trans hx1039_1
                replace hx1039_2 := (HB.out.cell (World.block_lt_of_cell? w _ hx1039_2)).trans hx1039_2
                replace hx1039_3 := (HB.out.cell (World.block_lt_of_cell? w _ hx1039_3)).trans hx1039_3
                replace hx1039_4 := (HB.out.cell (World.block_lt_of_cell? w _ hx1039_4)).trans hx1039_4
                have HR1039_3 := Aside0.mk hi1039_3
                have HC1039_3 := Aside0.mk hl1039_3
                clear hi1039_3 hl1039_3
                have HR1039_4 := Aside0.mk hi1039_4
                have HC1039_4 := Aside0.mk hl1039_4
                clear hi1039_4 hl1039_4
                replace p1039 := eq_true p1039
                replace q1039 := eq_true q1039
                try go_wp2
                have n0_ := Aside0.mk (below_drew1 HB.out)
                clear HB
                have HB := n0_
                clear n0_
                have p1040 : 0 ≤ (x5_1 : Int) := of_decide_eq_true (by first | (with_reducible assumption) | assumption)
                have q1040 : x5_1 < (l0.length : Int) := of_decide_eq_true (by first | (with_reducible assumption) | assumption)
                obtain ⟨ad1040, A1040_3, c1040_3, A1040_4, c1040_4, e1040, hx1040_0, hx1040_1, hx1040_2, hx1040_3, hx1040_4, hl1040_3, hi1040_3, hl1040_4, hi1040_4⟩ := at_T44 HR0.out x5_1 p1040 q1040
                have hw1040_4 := hx1040_4
                have hw1040_3 := hx1040_3
                have hw1040_2 := hx1040_2
                have hw1040_1 := hx1040_1
                have hw1040_0 := hx1040_0
                obtain rfl : ad1039 = ad1040 := (by injection e1040)
                replace hx1040_0 := (HB.out.cell (World.block_lt_of_cell? w _ hx1040_0)).trans hx1040_0
                replace hx1040_1 := (HB.out.cell (World.block_lt_of_cell? w _ hx1040_1)).trans hx1040_1
                replace hx1040_2 := (HB.out.cell (World.block_lt_of_cell? w _ hx1040_2)).trans hx1040_2
                replace hx1040_3 := (HB.out.cell (World.block_lt_of_cell? w _ hx1040_3)).trans hx1040_3
                replace hx1040_4 := (HB.out.cell (World.block_lt_of_cell? w _ hx1040_4)).trans hx1040_4
                have HR1040_3 := Aside0.mk hi1040_3
                have HC1040_3 := Aside0.mk hl1040_3
                clear hi1040_3 hl1040_3
                have HR1040_4 := Aside0.mk hi1040_4
                have HC1040_4 := Aside0.mk hl1040_4
                clear hi1040_4 hl1040_4
                replace p1040 := eq_true p1040
                replace q1040 := eq_true q1040
                refine start_ (n := 8) (S := fun w' => w'.cell? (ad1039.add ((x5_1).toNat * 5)) = some (.int .i64 ((rd_T44 l0 x5_1).f0)) ∧ w'.cell? ⟨(ad1039.add ((x5_1).toNat * 5)).block, (ad1039.add ((x5_1).toNat * 5)).off + 1, none⟩ = some (.string ((rd_T44 l0 x5_1).f1)) ∧ w'.cell? ⟨(ad1039.add ((x5_1).toNat * 5)).block, (ad1039.add ((x5_1).toNat * 5)).off + 2, none⟩ = some (.int .i64 ((rd_T44 l0 x5_1).f2)) ∧ w'.cell? ⟨(ad1039.add ((x5_1).toNat * 5)).block, (ad1039.add ((x5_1).toNat * 5)).off + 3, none⟩ = some (.slice A1040_3 ((rd_T44 l0 x5_1).f3).length c1040_3) ∧ w'.cell? ⟨(ad1039.add ((x5_1).toNat * 5)).block, (ad1039.add ((x5_1).toNat * 5)).off + 4, none⟩ = some (.slice A1040_4 ((rd_T44 l0 x5_1).f4).length c1040_4)) (ds := []) #[false, false, false, false, false, false, false, false] (by kernel_rfl) rfl rfl ⟨((HB.out.cell (World.block_lt_of_cell? w _ hw1040_0)).trans hw1040_0), ((HB.out.cell (World.block_lt_of_cell? w _ hw1040_1)).trans hw1040_1), ((HB.out.cell (World.block_lt_of_cell? w _ hw1040_2)).trans hw1040_2), ((HB.out.cell (World.block_lt_of_cell? w _ hw1040_3)).trans hw1040_3), ((HB.out.cell (World.block_lt_of_cell? w _ hw1040_4)).trans hw1040_4)⟩ (fun hHeld => ?_); refine with_tabW laws_heldValueS.tab7 laws_heldValueS.bits7 (fun HT_ HW_ => ?_)
                generalize wr.drew = w24 at HB HR1040_3 HR1040_4 hx1040_0 hx1040_1 hx1040_2 hx1040_3 hx1040_4 hHeld ⊢
                refine pure_ (i := 0) (N := some 21) (v := ?_) (a' := ?_) #[true, false, false, false, false, false, false, false] rfl rfl (any_of HT_.out (by kernel_rfl)) (fun _ _ _ h => h) (Or.inl ⟨by rfl, ?_⟩) ?_ ?_
                rotate_left
                · intro w'
                  go_simp
                  with_reducible rfl
                rotate_left
                · simp only [Act.put, List.setIfInBounds_toArray, List.set_cons_zero, List.set_cons_succ, i64_w, i32_w]
                  rfl
                refine pure_ (i := 1) (N := some 22) (v := ?_) (a' := ?_) #[true, true, false, false, false, false, false, false] rfl rfl (any_of HT_.out (by kernel_rfl)) (fun _ _ _ h => h) (Or.inl ⟨by rfl, ?_⟩) ?_ ?_
                rotate_left
                · intro w'
                  go_simp
                  with_reducible rfl
                rotate_left
                · simp only [Act.put, List.setIfInBounds_toArray, List.set_cons_zero, List.set_cons_succ, i64_w, i32_w]
                  rfl
                refine pure_ (i := 2) (N := some 23) (v := ?_) (a' := ?_) #[true, true, true, false, false, false, false, false] rfl rfl (any_of HT_.out (by kernel_rfl)) (fun _ _ _ h => h) (Or.inl ⟨by rfl, ?_⟩) ?_ ?_
                rotate_left
                · intro w'
                  go_simp
                  with_reducible rfl
                rotate_left
                · simp only [Act.put, List.setIfInBounds_toArray, List.set_cons_zero, List.set_cons_succ, i64_w, i32_w]
                  rfl
                refine pure_ (i := 3) (N := some 24) (v := ?_) (a' := ?_) #[true, true, true, true, false, false, false, false] rfl rfl (any_of HT_.out (by kernel_rfl)) (fun _ _ _ h => h) (Or.inl ⟨by rfl, ?_⟩) ?_ ?_
                rotate_left
                · intro w'
                  go_simp
                  with_reducible rfl
                rotate_left
                · simp only [Act.put, List.setIfInBounds_toArray, List.set_cons_zero, List.set_cons_succ, i64_w, i32_w]
                  rfl
                refine pure_ (i := 5) (N := some 26) (v := ?_) (a' := ?_) #[true, true, true, true, false, true, false, false] rfl rfl (any_of HT_.out (by kernel_rfl)) (fun _ _ _ h => h) (Or.inl ⟨by rfl, ?_⟩) ?_ ?_
                rotate_left
                · intro w'
                  go_simp
                  with_reducible rfl
                rotate_left
                · simp only [Act.put, List.setIfInBounds_toArray, List.set_cons_zero, List.set_cons_succ, i64_w, i32_w]
                  rfl
                refine take_ (i := 4) (N := some 25) (v := ?_) (a' := ?_) #[true, true, true, true, true, true, false, false] rfl rfl (take_ofW HT_.out HW_.out (by kernel_rfl)) (fun _ _ _ h => h) (Or.inl ⟨by rfl, ?_⟩) hHeld ?_ ?_
                rotate_left
                · rintro w' ⟨s0, s1, s2, s3, s4⟩
                  go_simp
                  with_reducible rfl
                rotate_left
                · simp only [Act.put, List.setIfInBounds_toArray, List.set_cons_zero, List.set_cons_succ, i64_w, i32_w]
                  rfl
                refine one_ (i := 6) (N := some 27) #[true, true, true, true, true, true, true, false] rfl rfl (one_of HT_.out (by kernel_rfl)) (by decide) (fun K hK => ?_)
                refine goes_ Try.func83 (by kernel_rfl) rfl #[.int .i64 (wrap64 (x1_1 + 1))] (by rfl) rfl rfl (by (try simp only [List.map_toArray, List.map_cons, List.map_nil]); first | done | rfl | (simp only [List.length_drop, List.length_take]; rfl)) ?_
                with_reducible refine (laws_markText.calls k1 (wrap64 (x1_1 + 1)) t1041 _ A6.out).mono ?_
                rintro e w25 ⟨rfl, hb⟩
                refine ⟨_, rfl, ?_⟩
                have n0_ := Aside0.mk (below_step (by repeat (first | (with_reducible first | exact HB.out | apply below_alloc | apply pw_below_drewN | apply below_drew1) | exact HB.out)) hb)
                clear HB
                have HB := n0_
                clear n0_
                (try clear hb)
                (try clear hb2)
                (try clear hk)
                (try clear hi)
                refine hK.out _ _ ⟨((HB.out.cell (World.block_lt_of_cell? w _ hw1040_0)).trans hw1040_0), ((HB.out.cell (World.block_lt_of_cell? w _ hw1040_1)).trans hw1040_1), ((HB.out.cell (World.block_lt_of_cell? w _ hw1040_2)).trans hw1040_2), ((HB.out.cell (World.block_lt_of_cell? w _ hw1040_3)).trans hw1040_3), ((HB.out.cell (World.block_lt_of_cell? w _ hw1040_4)).trans hw1040_4)⟩ (fun hHeld => ?_)
                clear hK K
                refine norm_ (a' := ?_) ?_ ?_
                rotate_left
                · show Act.put _ (some 27) _ = _
                  simp only [Act.put, List.setIfInBounds_toArray, List.set_cons_zero, List.set_cons_succ, i64_w, i32_w]
                  rfl
                refine pure_ (i := 7) (N := some 28) (v := ?_) (a' := ?_) #[true, true, true, true, true, true, true, true] rfl rfl (any_of HT_.out (by kernel_rfl)) (fun _ _ _ h => h) (Or.inl ⟨by rfl, ?_⟩) ?_ ?_
                rotate_left
                · intro w'
                  go_simp
                  with_reducible rfl
                rotate_left
                · simp only [Act.put, List.setIfInBounds_toArray, List.set_cons_zero, List.set_cons_succ, i64_w, i32_w]
                  rfl
                refine done_ (done_of HT_.out (by kernel_rfl)) ?_
                have p1042 : 0 ≤ (x5_1 : Int) := of_decide_eq_true (by first | (with_reducible assumption) | assumption)
                have q1042 : x5_1 < (l0.length : Int) := of_decide_eq_true (by first | (with_reducible assumption) | assumption)
                obtain ⟨ad1042, A1042_3, c1042_3, A1042_4, c1042_4, e1042, hx1042_0, hx1042_1, hx1042_2, hx1042_3, hx1042_4, hl1042_3, hi1042_3, hl1042_4, hi1042_4⟩ := at_T44 HR0.out x5_1 p1042 q1042
                obtain rfl : ad1039 = ad1042 := (by injection e1042)
                try (have ea_ := hw1040_4.symm.trans hx1042_4; injection ea_ with ea_; injection ea_ with ea_ eb_ ec_; have ea_ := ea_.symm; have ec_ := ec_.symm; subst ea_; subst ec_)
                try (have ea_ := hw1040_3.symm.trans hx1042_3; injection ea_ with ea_; injection ea_ with ea_ eb_ ec_; have ea_ := ea_.symm; have ec_ := ec_.symm; subst ea_; subst ec_)
                try (have ea_ := hw1040_2.symm.trans hx1042_2; injection ea_ with ea_; injection ea_ with ea_ eb_ ec_; have ea_ := ea_.symm; have ec_ := ec_.symm; subst ea_; subst ec_)
                try (have ea_ := hw1040_1.symm.trans hx1042_1; injection ea_ with ea_; injection ea_ with ea_ eb_ ec_; have ea_ := ea_.symm; have ec_ := ec_.symm; subst ea_; subst ec_)
                try (have ea_ := hw1040_0.symm.trans hx1042_0; injection ea_ with ea_; injection ea_ with ea_ eb_ ec_; have ea_ := ea_.symm; have ec_ := ec_.symm; subst ea_; subst ec_)
                replace hx1042_0 := (HB.out.cell (World.block_lt_of_cell? w _ hx1042_0)).trans hx1042_0
                replace hx1042_1 := (HB.out.cell (World.block_lt_of_cell? w _ hx1042_1)).trans hx1042_1
                replace hx1042_2 := (HB.out.cell (World.block_lt_of_cell? w _ hx1042_2)).trans hx1042_2
                replace hx1042_3 := (HB.out.cell (World.block_lt_of_cell? w _ hx1042_3)).trans hx1042_3
                replace hx1042_4 := (HB.out.cell (World.block_lt_of_cell? w _ hx1042_4)).trans hx1042_4
                have HR1042_3 := Aside0.mk hi1042_3
                have HC1042_3 := Aside0.mk hl1042_3
                clear hi1042_3 hl1042_3
                have HR1042_4 := Aside0.mk hi1042_4
                have HC1042_4 := Aside0.mk hl1042_4
                clear hi1042_4 hl1042_4
                replace p1042 := eq_true p1042
                replace q1042 := eq_true q1042
                try go_wp2
                go_ret
                exact ⟨by first | rfl | (simp [errW_none, errW_some] <;> rfl) | (simp [*, errW_none, errW_some] <;> rfl), by repeat (first | (with_reducible first | exact HB.out | apply below_alloc | apply pw_below_drewN | apply below_drew1) | exact HB.out)⟩
            · rw [if_neg c7] at H
              have c7b0 : (((rd_T44 l0 x5_1).f1).toList == t1041.toList) = false := beq_eq_false_iff_ne.mpr c7
              have c7b1 : (((rd_T44 l0 x5_1).f1).toList != t1041.toList) = true := bne_iff_ne.mpr c7
              obtain rfl := Option.some.inj H
              have p1039 : 0 ≤ (x5_1 : Int) := of_decide_eq_true (by first | (with_reducible assumption) | assumption)
              have q1039 : x5_1 < (l0.length : Int) := of_decide_eq_true (by first | (with_reducible assumption) | assumption)
              obtain ⟨ad1039, A1039_3, c1039_3, A1039_4, c1039_4, e1039, hx1039_0, hx1039_1, hx1039_2, hx1039_3, hx1039_4, hl1039_3, hi1039_3, hl1039_4, hi1039_4⟩ := at_T44 HR0.out x5_1 p1039 q1039
              cases e1039
              replace hx1039_0 := (HB.out.cell (World.block_lt_of_cell? w _ hx1039_0)).trans hx1039_0
              replace hx1039_1 := (HB.out.cell (World.block_lt_of_cell? w _ hx1039_1)).trans hx1039_1
              replace hx1039_2 := (HB.out.cell (World.block_lt_of_cell? w _ hx1039_2)).trans hx1039_2
              replace hx1039_3 := (HB.out.cell (World.block_lt_of_cell? w _ hx1039_3)).trans hx1039_3
              replace hx1039_4 := (HB.out.cell (World.block_lt_of_cell? w _ hx1039_4)).trans hx1039_4
              have HR1039_3 := Aside0.mk hi1039_3
              have HC1039_3 := Aside0.mk hl1039_3
              clear hi1039_3 hl1039_3
              have HR1039_4 := Aside0.mk hi1039_4
              have HC1039_4 := Aside0.mk hl1039_4
              clear hi1039_4 hl1039_4
              replace p1039 := eq_true p1039
              replace q1039 := eq_true q1039
              try go_wp2
              have n0_ := Aside0.mk (below_drew1 HB.out)
              clear HB
              have HB := n0_
              clear n0_
              have p1040 : 0 ≤ (x5_1 : Int) := of_decide_eq_true (by first | (with_reducible assumption) | assumption)
              have q1040 : x5_1 < (l0.length : Int) := of_decide_eq_true (by first | (with_reducible assumption) | assumption)
              obtain ⟨ad1040, A1040_3, c1040_3, A1040_4, c1040_4, e1040, hx1040_0, hx1040_1, hx1040_2, hx1040_3, hx1040_4, hl1040_3, hi1040_3, hl1040_4, hi1040_4⟩ := at_T44 HR0.out x5_1 p1040 q1040
              have hw1040_4 := hx1040_4
              have hw1040_3 := hx1040_3
              have hw1040_2 := hx1040_2
              have hw1040_1 := hx1040_1
              have hw1040_0 := hx1040_0
              obtain rfl : ad1039 = ad1040 := (by injection e1040)
              replace hx1040_0 := (HB.out.cell (World.block_lt_of_cell? w _ hx1040_0)).trans hx1040_0
              replace hx1040_1 := (HB.out.cell (World.block_lt_of_cell? w _ hx1040_1)).trans hx1040_1
              replace hx1040_2 := (HB.out.cell (World.block_lt_of_cell? w _ hx1040_2)).trans hx1040_2
              replace hx1040_3 := (HB.out.cell (World.block_lt_of_cell? w _ hx1040_3)).trans hx1040_3
              replace hx1040_4 := (HB.out.cell (World.block_lt_of_cell? w _ hx1040_4)).trans hx1040_4
              have HR1040_3 := Aside0.mk hi1040_3
              have HC1040_3 := Aside0.mk hl1040_3
              clear hi1040_3 hl1040_3
              have HR1040_4 := Aside0.mk hi1040_4
              have HC1040_4 := Aside0.mk hl1040_4
              clear hi1040_4 hl1040_4
              replace p1040 := eq_true p1040
              replace q1040 := eq_true q1040
              refine start_ (n := 8) (S := fun w' => w'.cell? (ad1039.add ((x5_1).toNat * 5)) = some (.int .i64 ((rd_T44 l0 x5_1).f0)) ∧ w'.cell? ⟨(ad1039.add ((x5_1).toNat * 5)).block, (ad1039.add ((x5_1).toNat * 5)).off + 1, none⟩ = some (.string ((rd_T44 l0 x5_1).f1)) ∧ w'.cell? ⟨(ad1039.add ((x5_1).toNat * 5)).block, (ad1039.add ((x5_1).toNat * 5)).off + 2, none⟩ = some (.int .i64 ((rd_T44 l0 x5_1).f2)) ∧ w'.cell? ⟨(ad1039.add ((x5_1).toNat * 5)).block, (ad1039.add ((x5_1).toNat * 5)).off + 3, none⟩ = some (.slice A1040_3 ((rd_T44 l0 x5_1).f3).length c1040_3) ∧ w'.cell? ⟨(ad1039.add ((x5_1).toNat * 5)).block, (ad1039.add ((x5_1).toNat * 5)).off + 4, none⟩ = some (.slice A1040_4 ((rd_T44 l0 x5_1).f4).length c1040_4)) (ds := []) #[false, false, false, false, false, false, false, false] (by kernel_rfl) rfl rfl ⟨((HB.out.cell (World.block_lt_of_cell? w _ hw1040_0)).trans hw1040_0), ((HB.out.cell (World.block_lt_of_cell? w _ hw1040_1)).trans hw1040_1), ((HB.out.cell (World.block_lt_of_cell? w _ hw1040_2)).trans hw1040_2), ((HB.out.cell (World.block_lt_of_cell? w _ hw1040_3)).trans hw1040_3), ((HB.out.cell (World.block_lt_of_cell? w _ hw1040_4)).trans hw1040_4)⟩ (fun hHeld => ?_); refine with_tabW laws_heldValueS.tab7 laws_heldValueS.bits7 (fun HT_ HW_ => ?_)
              generalize wr.drew = w26 at HB HR1040_3 HR1040_4 hx1040_0 hx1040_1 hx1040_2 hx1040_3 hx1040_4 hHeld ⊢
              refine pure_ (i := 0) (N := some 21) (v := ?_) (a' := ?_) #[true, false, false, false, false, false, false, false] rfl rfl (any_of HT_.out (by kernel_rfl)) (fun _ _ _ h => h) (Or.inl ⟨by rfl, ?_⟩) ?_ ?_
              rotate_left
              · intro w'
                go_simp
                with_reducible rfl
              rotate_left
              · simp only [Act.put, List.setIfInBounds_toArray, List.set_cons_zero, List.set_cons_succ, i64_w, i32_w]
                rfl
              refine pure_ (i := 1) (N := some 22) (v := ?_) (a' := ?_) #[true, true, false, false, false, false, false, false] rfl rfl (any_of HT_.out (by kernel_rfl)) (fun _ _ _ h => h) (Or.inl ⟨by rfl, ?_⟩) ?_ ?_
              rotate_left
              · intro w'
                go_simp
                with_reducible rfl
              rotate_left
              · simp only [Act.put, List.setIfInBounds_toArray, List.set_cons_zero, List.set_cons_succ, i64_w, i32_w]
                rfl
              refine pure_ (i := 2) (N := some 23) (v := ?_) (a' := ?_) #[true, true, true, false, false, false, false, false] rfl rfl (any_of HT_.out (by kernel_rfl)) (fun _ _ _ h => h) (Or.inl ⟨by rfl, ?_⟩) ?_ ?_
              rotate_left
              · intro w'
                go_simp
                with_reducible rfl
              rotate_left
              · simp only [Act.put, List.setIfInBounds_toArray, List.set_cons_zero, List.set_cons_succ, i64_w, i32_w]
                rfl
              refine pure_ (i := 3) (N := some 24) (v := ?_) (a' := ?_) #[true, true, true, true, false, false, false, false] rfl rfl (any_of HT_.out (by kernel_rfl)) (fun _ _ _ h => h) (Or.inl ⟨by rfl, ?_⟩) ?_ ?_
              rotate_left
              · intro w'
                go_simp
                with_reducible rfl
              rotate_left
              · simp only [Act.put, List.setIfInBounds_toArray, List.set_cons_zero, List.set_cons_succ, i64_w, i32_w]
                rfl
              refine pure_ (i := 5) (N := some 26) (v := ?_) (a' := ?_) #[true, true, true, true, false, true, false, false] rfl rfl (any_of HT_.out (by kernel_rfl)) (fun _ _ _ h => h) (Or.inl ⟨by rfl, ?_⟩) ?_ ?_
              rotate_left
              · intro w'
                go_simp
                with_reducible rfl
              rotate_left
              · simp only [Act.put, List.setIfInBounds_toArray, List.set_cons_zero, List.set_cons_succ, i64_w, i32_w]
                rfl
              refine take_ (i := 4) (N := some 25) (v := ?_) (a' := ?_) #[true, true, true, true, true, true, false, false] rfl rfl (take_ofW HT_.out HW_.out (by kernel_rfl)) (fun _ _ _ h => h) (Or.inl ⟨by rfl, ?_⟩) hHeld ?_ ?_
              rotate_left
              · rintro w' ⟨s0, s1, s2, s3, s4⟩
                go_simp
                with_reducible rfl
              rotate_left
              · simp only [Act.put, List.setIfInBounds_toArray, List.set_cons_zero, List.set_cons_succ, i64_w, i32_w]
                rfl
              refine one_ (i := 6) (N := some 27) #[true, true, true, true, true, true, true, false] rfl rfl (one_of HT_.out (by kernel_rfl)) (by decide) (fun K hK => ?_)
              refine goes_ Try.func83 (by kernel_rfl) rfl #[.int .i64 (wrap64 (x1_1 + 1))] (by rfl) rfl rfl (by (try simp only [List.map_toArray, List.map_cons, List.map_nil]); first | done | rfl | (simp only [List.length_drop, List.length_take]; rfl)) ?_
              with_reducible refine (laws_markText.calls k1 (wrap64 (x1_1 + 1)) t1041 _ A6.out).mono ?_
              rintro e w27 ⟨rfl, hb⟩
              refine ⟨_, rfl, ?_⟩
              have n0_ := Aside0.mk (below_step (by repeat (first | (with_reducible first | exact HB.out | apply below_alloc | apply pw_below_drewN | apply below_drew1) | exact HB.out)) hb)
              clear HB
              have HB := n0_
              clear n0_
              (try clear hb)
              (try clear hb2)
              (try clear hk)
              (try clear hi)
              refine hK.out _ _ ⟨((HB.out.cell (World.block_lt_of_cell? w _ hw1040_0)).trans hw1040_0), ((HB.out.cell (World.block_lt_of_cell? w _ hw1040_1)).trans hw1040_1), ((HB.out.cell (World.block_lt_of_cell? w _ hw1040_2)).trans hw1040_2), ((HB.out.cell (World.block_lt_of_cell? w _ hw1040_3)).trans hw1040_3), ((HB.out.cell (World.block_lt_of_cell? w _ hw1040_4)).trans hw1040_4)⟩ (fun hHeld => ?_)
              clear hK K
              refine norm_ (a' := ?_) ?_ ?_
              rotate_left
              · show Act.put _ (some 27) _ = _
                simp only [Act.put, List.setIfInBounds_toArray, List.set_cons_zero, List.set_cons_succ, i64_w, i32_w]
                rfl
              refine pure_ (i := 7) (N := some 28) (v := ?_) (a' := ?_) #[true, true, true, true, true, true, true, true] rfl rfl (any_of HT_.out (by kernel_rfl)) (fun _ _ _ h => h) (Or.inl ⟨by rfl, ?_⟩) ?_ ?_
              rotate_left
              · intro w'
                go_simp
                with_reducible rfl
              rotate_left
              · simp only [Act.put, List.setIfInBounds_toArray, List.set_cons_zero, List.set_cons_succ, i64_w, i32_w]
                rfl
              refine done_ (done_of HT_.out (by kernel_rfl)) ?_
              try go_wp2
              go_ret
              exact ⟨by first | rfl | (simp [errW_none, errW_some] <;> rfl) | (simp [*, errW_none, errW_some] <;> rfl), by repeat (first | (with_reducible first | exact HB.out | apply below_alloc | apply pw_below_drewN | apply below_drew1) | exact HB.out)⟩
          · rw [if_neg c5] at H
            have c5b0 : (((rd_T44 l0 x5_1).f0) == x1_1) = false := beq_eq_false_iff_ne.mpr c5
            have c5b1 : (((rd_T44 l0 x5_1).f0) != x1_1) = true := bne_iff_ne.mpr c5
            obtain rfl := Option.some.inj H
            have p1039 : 0 ≤ (x5_1 : Int) := of_decide_eq_true (by first | (with_reducible assumption) | assumption)
            have q1039 : x5_1 < (l0.length : Int) := of_decide_eq_true (by first | (with_reducible assumption) | assumption)
            obtain ⟨ad1039, A1039_3, c1039_3, A1039_4, c1039_4, e1039, hx1039_0, hx1039_1, hx1039_2, hx1039_3, hx1039_4, hl1039_3, hi1039_3, hl1039_4, hi1039_4⟩ := at_T44 HR0.out x5_1 p1039 q1039
            cases e1039
            replace hx1039_0 := (HB.out.cell (World.block_lt_of_cell? w _ hx1039_0)).trans hx1039_0
            replace hx1039_1 := (HB.out.cell (World.block_lt_of_cell? w _ hx1039_1)).trans hx1039_1
            replace hx1039_2 := (HB.out.cell (World.block_lt_of_cell? w _ hx1039_2)).trans hx1039_2
            replace hx1039_3 := (HB.out.cell (World.block_lt_of_cell? w _ hx1039_3)).trans hx1039_3
            replace hx1039_4 := (HB.out.cell (World.block_lt_of_cell? w _ hx1039_4)).trans hx1039_4
            have HR1039_3 := Aside0.mk hi1039_3
            have HC1039_3 := Aside0.mk hl1039_3
            clear hi1039_3 hl1039_3
            have HR1039_4 := Aside0.mk hi1039_4
            have HC1039_4 := Aside0.mk hl1039_4
            clear hi1039_4 hl1039_4
            replace p1039 := eq_true p1039
            replace q1039 := eq_true q1039
            go_wp2
            go_ret
            exact ⟨by first | rfl | (simp [errW_none, errW_some] <;> rfl) | (simp [*, errW_none, errW_some] <;> rfl), by repeat (first | (with_reducible first | exact HB.out | apply below_alloc | apply pw_below_drewN | apply below_drew1) | exact HB.out)⟩
        · rw [if_neg c4] at H
          exact absurd H (by simp)
      · rw [if_neg c3] at H
        have c3b0 : decide (x5_1 < (l0.length : Int)) = false := decide_eq_false c3
        clear c3
        obtain rfl := Option.some.inj H
        go_wp2
        go_ret
        exact ⟨by first | rfl | (simp [errW_none, errW_some] <;> rfl) | (simp [*, errW_none, errW_some] <;> rfl), by repeat (first | (with_reducible first | exact HB.out | apply below_alloc | apply pw_below_drewN | apply below_drew1) | exact HB.out)⟩

end Go.Proofs.Ytmoiacijklkfaaa.G

/- G79 -/
-- Laid by wip/g/gprint.py out of the translation, by the kit's print program. Lean checks it.
namespace Go.Proofs.Ytmoiacijklkfaaa.G
open Go.RowKit Go.Proofs.YtmoiacijklkfaaaW.PrintWords Go.Proofs.YtmoiacijklkfaaaW.PrintLast Go.Proofs.YtmoiacijklkfaaaW.PrintMore
attribute [local go_sem] max2_int min2_int max_two min_two max_three min_three max_four min_four   -- for this text's walks alone
set_option linter.unusedVariables false
set_option linter.unusedSimpArgs false

/-! ### laws_heldValue: function 79 -/
end Go.Proofs.Ytmoiacijklkfaaa.G
