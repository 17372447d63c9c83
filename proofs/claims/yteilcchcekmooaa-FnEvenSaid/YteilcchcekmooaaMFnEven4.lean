import Derived.Test.YteilcchcekmooaaMFnEven1
import Derived.Test.YteilcchcekmooaaMFnEven3
import Derived.Test.YteilcchcekmooaaMFnEven2
/- G17 -/
-- Laid by wip/g/gprint.py out of the translation, by the kit's print program. Lean checks it.
namespace Go.Proofs.Yteilcchcekmooaa.G
open Go.RowKit Go.Proofs.YteilcchcekmooaaW.PrintWords Go.Proofs.YteilcchcekmooaaW.PrintLast Go.Proofs.YteilcchcekmooaaW.PrintMore
attribute [local go_sem] max2_int min2_int max_two min_two max_three min_three max_four min_four   -- for this text's walks alone
set_option linter.unusedVariables false
set_option linter.unusedSimpArgs false

/-! ### impl_FairOk: function 17 -/
mutual
def impl_FairOk.j0 : Nat → List Int → List Int → List Int → Int → Bool → Option (Bool)
  | 0, _, _, _, _, _ => none
  | k + 1, x1, x2, x3, x9, x28 => if x28 = true then (some false) else (impl_FairOk.l0 k x1 x2 x3 x9 x3 (x3.length : Int) 0)
def impl_FairOk.l0 : Nat → List Int → List Int → List Int → Int → List Int → Int → Int → Option (Bool)
  | 0, _, _, _, _, _, _, _ => none
  | k + 1, x1, x2, x3, x9, x29, x30, x31 => if x31 < x30 then (if 0 ≤ x31 then (if x31 < (x29.length : Int) then (if x31 < (x2.length : Int) then ((impl_within.f (rd x29 x31) 0 (rd x2 x31)).bind fun t400 => (if t400 = true then (if x31 < (x1.length : Int) then (if (rd x1 x31) = 0 then (if (rd x29 x31) = 0 then (impl_FairOk.l0 k x1 x2 x3 (wrap64 (x9 - (rd x29 x31))) x29 x30 (wrap64 (x31 + 1))) else (some false)) else (impl_FairOk.l0 k x1 x2 x3 (wrap64 (x9 - (rd x29 x31))) x29 x30 (wrap64 (x31 + 1)))) else (none)) else (some false))) else (none)) else (none)) else (none)) else (if x9 = 0 then (impl_FairOk.l1 k x1 x2 x3 x3 (x3.length : Int) 0) else (some false))
def impl_FairOk.l1 : Nat → List Int → List Int → List Int → List Int → Int → Int → Option (Bool)
  | 0, _, _, _, _, _, _ => none
  | k + 1, x1, x2, x3, x60, x61, x62 => if x62 < x61 then (if 0 ≤ x62 then (if x62 < (x60.length : Int) then (impl_FairOk.l2 k x1 x2 x3 x62 (rd x60 x62) x60 x61 x62 x3 (x3.length : Int) 0) else (none)) else (none)) else (some true)
def impl_FairOk.l2 : Nat → List Int → List Int → List Int → Int → Int → List Int → Int → Int → List Int → Int → Int → Option (Bool)
  | 0, _, _, _, _, _, _, _, _, _, _, _ => none
  | k + 1, x1, x2, x3, x12, x13, x60, x61, x62, x67, x68, x69 => if x69 < x68 then (if 0 ≤ x69 then (if x69 < (x67.length : Int) then (if x12 = x69 then (impl_FairOk.l2 k x1 x2 x3 x12 x13 x60 x61 x62 x67 x68 (wrap64 (x69 + 1))) else (if 0 ≤ x12 then (if x12 < (x1.length : Int) then (if (rd x1 x12) > 0 then (if x69 < (x1.length : Int) then (if (rd x1 x69) > 0 then (if x12 < (x2.length : Int) then (if x13 < (rd x2 x12) then (if (wrap64 ((wrap64 (x13 + 1)) * (rd x1 x69))) < (wrap64 ((wrap64 ((rd x67 x69) - 1)) * (rd x1 x12))) then (some false) else (impl_FairOk.l2 k x1 x2 x3 x12 x13 x60 x61 x62 x67 x68 (wrap64 (x69 + 1)))) else (impl_FairOk.l2 k x1 x2 x3 x12 x13 x60 x61 x62 x67 x68 (wrap64 (x69 + 1)))) else (none)) else (impl_FairOk.l2 k x1 x2 x3 x12 x13 x60 x61 x62 x67 x68 (wrap64 (x69 + 1)))) else (none)) else (impl_FairOk.l2 k x1 x2 x3 x12 x13 x60 x61 x62 x67 x68 (wrap64 (x69 + 1)))) else (none)) else (none))) else (none)) else (none)) else (impl_FairOk.l1 k x1 x2 x3 x60 x61 (wrap64 (x62 + 1)))
end
def impl_FairOk.f (k : Nat) (a0 : Int) (l1 : List Int) (l2 : List Int) (l3 : List Int) : Option (Bool) := (impl_Total.f k a0 l1 l2).bind fun t397 => (if t397 < 0 then (impl_FairOk.j0 k l1 l2 l3 t397 true) else (impl_FairOk.j0 k l1 l2 l3 t397 ((l3.length : Int) != (l1.length : Int))))
set_option maxHeartbeats 8000000 in
set_option maxRecDepth 100000 in
theorem impl_FairOk.calls (k : Nat) (a0 : Int) (A1 : Option Addr) (c1 : Nat) (l1 : List Int) (A2 : Option Addr) (c2 : Nat) (l2 : List Int) (A3 : Option Addr) (c3 : Nat) (l3 : List Int) (r : Bool) (w : World) (hr1 : Kd.C (Kd.int .i64) w A1 l1.length l1) (hc1 : l1.length ≤ c1) (hr2 : Kd.C (Kd.int .i64) w A2 l2.length l2) (hc2 : l2.length ≤ c2) (hr3 : Kd.C (Kd.int .i64) w A3 l3.length l3) (hc3 : l3.length ≤ c3) (h : impl_FairOk.f k a0 l1 l2 l3 = some r) :
    Calls Try.prog 17 #[.int .i64 a0, .slice A1 l1.length c1, .slice A2 l2.length c2, .slice A3 l3.length c3] w fun e w' => e = .returned (.bool r) ∧ Below w.heap.size w w' := by
  have HR1 := Aside0.mk hr1
  have HC1 := Aside0.mk hc1
  clear hr1 hc1
  have HR2 := Aside0.mk hr2
  have HC2 := Aside0.mk hc2
  clear hr2 hc2
  have HR3 := Aside0.mk hr3
  have HC3 := Aside0.mk hc3
  clear hr3 hc3
  have HB := Aside0.mk (Below.refl w.heap.size w)
  have H : ((impl_Total.f k a0 l1 l2).bind fun t397 => (if t397 < 0 then (impl_FairOk.j0 k l1 l2 l3 t397 true) else (impl_FairOk.j0 k l1 l2 l3 t397 ((l3.length : Int) != (l1.length : Int))))) = some r := h
  clear h
  replace H := Option.bind_eq_some_iff.mp H
  obtain ⟨t397, A50, H⟩ := H
  replace H : (if t397 < 0 then (impl_FairOk.j0 k l1 l2 l3 t397 true) else (impl_FairOk.j0 k l1 l2 l3 t397 ((l3.length : Int) != (l1.length : Int)))) = some r := H
  have A5 := Aside0.mk A50
  clear A50
  have HC6 := Aside0.mk H
  clear H
  go_enter Try.func17, Try.ntmps17
  go_upto_region 2 with (first | (go_at_call 14; (with_reducible refine (impl_Total.calls k a0 _ _ l1 _ _ l2 t397 _ ?side1 ?side2 ?side3 ?side4 A5.out).mono ?_); (case side1 => repeat (first | exact HR1.out | (with_reducible refine Kd.C_alloc ?_ _) | (with_reducible refine Kd.C_drewN ?_ _) | (with_reducible refine Kd.C_drew ?_))); (case side2 => exact HC1.out); (case side3 => repeat (first | exact HR2.out | (with_reducible refine Kd.C_alloc ?_ _) | (with_reducible refine Kd.C_drewN ?_ _) | (with_reducible refine Kd.C_drew ?_))); (case side4 => exact HC2.out); rintro e w7 ⟨rfl, hb⟩; have n0_ := Aside0.mk (below_step (by repeat (first | (with_reducible first | exact HB.out | apply below_alloc | apply pw_below_drewN | apply below_drew1) | exact HB.out)) hb); clear HB; have HB := n0_; clear n0_; (try clear hb); (try clear hb2); (try clear hk); (try clear hi)))
  repeat (go_quiet (first | (go_at_call 14; (with_reducible refine (impl_Total.calls k a0 _ _ l1 _ _ l2 t397 _ ?side1 ?side2 ?side3 ?side4 A5.out).mono ?_); (case side1 => repeat (first | exact HR1.out | (with_reducible refine Kd.C_alloc ?_ _) | (with_reducible refine Kd.C_drewN ?_ _) | (with_reducible refine Kd.C_drew ?_))); (case side2 => exact HC1.out); (case side3 => repeat (first | exact HR2.out | (with_reducible refine Kd.C_alloc ?_ _) | (with_reducible refine Kd.C_drewN ?_ _) | (with_reducible refine Kd.C_drew ?_))); (case side4 => exact HC2.out); rintro e w7 ⟨rfl, hb⟩; have n0_ := Aside0.mk (below_step (by repeat (first | (with_reducible first | exact HB.out | apply below_alloc | apply pw_below_drewN | apply below_drew1) | exact HB.out)) hb); clear HB; have HB := n0_; clear n0_; (try clear hb); (try clear hb2); (try clear hk); (try clear hi))); go_upto_region 2 with (first | (go_at_call 14; (with_reducible refine (impl_Total.calls k a0 _ _ l1 _ _ l2 t397 _ ?side1 ?side2 ?side3 ?side4 A5.out).mono ?_); (case side1 => repeat (first | exact HR1.out | (with_reducible refine Kd.C_alloc ?_ _) | (with_reducible refine Kd.C_drewN ?_ _) | (with_reducible refine Kd.C_drew ?_))); (case side2 => exact HC1.out); (case side3 => repeat (first | exact HR2.out | (with_reducible refine Kd.C_alloc ?_ _) | (with_reducible refine Kd.C_drewN ?_ _) | (with_reducible refine Kd.C_drew ?_))); (case side4 => exact HC2.out); rintro e w7 ⟨rfl, hb⟩; have n0_ := Aside0.mk (below_step (by repeat (first | (with_reducible first | exact HB.out | apply below_alloc | apply pw_below_drewN | apply below_drew1) | exact HB.out)) hb); clear HB; have HB := n0_; clear n0_; (try clear hb); (try clear hb2); (try clear hk); (try clear hi))))
  (try simp only [Act.put, List.setIfInBounds_toArray, List.set_cons_zero, List.set_cons_succ])
  go_cut [28] (fun v28 wc => ∃ (kq : Nat) (x28_5 : Bool), v28 = .bool x28_5 ∧ Aside0 (impl_FairOk.j0 kq l1 l2 l3 t397 x28_5 = some r) ∧ Aside0 (kq ≤ k) ∧ Aside0 (Below w.heap.size w wc))
  case first =>
    have H := HC6.out
    clear HC6
    by_cases c8 : t397 < 0
    · rw [if_pos c8] at H
      have c8b0 : decide (t397 < 0) = true := decide_eq_true c8
      clear c8
      (first | rw [c8b0] | (simp only [i64_w, i32_w]; rw [c8b0]) | skip)
      have H' := Aside0.mk H
      clear H
      go_wp2
      repeat (go_quiet (fail); try go_wp2)
      go_meet
      case rel => exact ⟨_, (true), (by first | rfl | (simp; done) | (simp [*]; done)), H', ⟨by first | omega | exact Nat.le_refl _⟩, ⟨by repeat (first | (with_reducible first | exact HB.out | apply below_alloc | apply pw_below_drewN | apply below_drew1) | exact HB.out)⟩⟩
    · rw [if_neg c8] at H
      have c8b0 : decide (t397 < 0) = false := decide_eq_false c8
      clear c8
      (first | rw [c8b0] | (simp only [i64_w, i32_w]; rw [c8b0]) | skip)
      have H' := Aside0.mk H
      clear H
      go_wp2
      repeat (go_quiet (fail); try go_wp2)
      go_meet
      case rel => exact ⟨_, (((l3.length : Int) != (l1.length : Int))), (by first | rfl | (simp; done) | (simp [*]; done)), H', ⟨by first | omega | exact Nat.le_refl _⟩, ⟨by repeat (first | (with_reducible first | exact HB.out | apply below_alloc | apply pw_below_drewN | apply below_drew1) | exact HB.out)⟩⟩
  case rest =>
    clear HC6
    try clear c1
    try clear c2
    try clear p2
    try clear c3
    try clear c8
    try clear c8b0
    obtain ⟨kq, x28_5, rfl, HA, HJ5, HB⟩ := hcut
    cases kq with
    | zero => exact absurd HA.out (by simp [impl_FairOk.j0])
    | succ kj5 =>
      have H := HA.out
      clear HA
      simp only [impl_FairOk.j0] at H
      by_cases c9 : x28_5 = true
      · subst c9
        have H1 : (some false) = some r := by rw [if_pos rfl] at H; exact H
        clear H
        have H := H1
        clear H1
        obtain rfl := Option.some.inj H
        go_wp2
        repeat (go_quiet (fail); try go_wp2)
        go_ret
        exact ⟨by first | rfl | (simp [errW_none, errW_some] <;> rfl) | (simp [*, errW_none, errW_some] <;> rfl), by repeat (first | (with_reducible first | exact HB.out | apply below_alloc | apply pw_below_drewN | apply below_drew1) | exact HB.out)⟩
      · replace c9 := Bool.eq_false_iff.mpr c9
        subst c9
        have H1 : (impl_FairOk.l0 kj5 l1 l2 l3 t397 l3 (l3.length : Int) 0) = some r := by rw [if_neg (show ¬ (false = true) by decide)] at H; exact H
        clear H
        have H := H1
        clear H1
        have H' := Aside0.mk H
        clear H
        go_wp2
        repeat (go_quiet (fail); try go_wp2)
        go_loopg [9, 31] kj5 (fun kq v9 v31 w' => ∃ (x9_2 : Int) (x31_2 : Int), v9 = .int .i64 x9_2 ∧ v31 = .int .i64 x31_2 ∧ Aside0 (impl_FairOk.l0 kq l1 l2 l3 x9_2 l3 (l3.length : Int) x31_2 = some r) ∧ Aside0 (kq ≤ kj5) ∧ Aside0 (Below w.heap.size w w'))
        case atStart => exact ⟨(t397), (0), (by first | rfl | (simp; done) | (simp [*]; done)), (by first | rfl | (simp; done) | (simp [*]; done)), H', ⟨Nat.le_refl _⟩, ⟨by repeat (first | (with_reducible first | exact HB.out | apply below_alloc | apply pw_below_drewN | apply below_drew1) | exact HB.out)⟩⟩
        case round =>
          clear H'
          try clear c1
          try clear c2
          try clear p2
          try clear c3
          try clear c8
          try clear c8b0
          try clear c9
          try clear p2
          obtain ⟨x9_2, x31_2, rfl, rfl, HA, HK2, HB⟩ := hrel
          cases gk with
          | zero => exact absurd HA.out (by simp [impl_FairOk.l0])
          | succ k2 =>
            have H := HA.out
            clear HA
            simp only [impl_FairOk.l0] at H
            by_cases c10 : x31_2 < (l3.length : Int)
            · rw [if_pos c10] at H
              have c10b0 : decide (x31_2 < (l3.length : Int)) = true := decide_eq_true c10
              clear c10
              by_cases c11 : 0 ≤ x31_2
              · rw [if_pos c11] at H
                have c11b0 : decide (0 ≤ x31_2) = true := decide_eq_true c11
                clear c11
                by_cases c12 : x31_2 < (l3.length : Int)
                · rw [if_pos c12] at H
                  have c12b0 : decide (x31_2 < (l3.length : Int)) = true := decide_eq_true c12
                  clear c12
                  by_cases c13 : x31_2 < (l2.length : Int)
                  · rw [if_pos c13] at H
                    have c13b0 : decide (x31_2 < (l2.length : Int)) = true := decide_eq_true c13
                    clear c13
                    replace H := Option.bind_eq_some_iff.mp H
                    obtain ⟨t400, A140, H⟩ := H
                    replace H : (if t400 = true then (if x31_2 < (l1.length : Int) then (if (rd l1 x31_2) = 0 then (if (rd l3 x31_2) = 0 then (impl_FairOk.l0 k2 l1 l2 l3 (wrap64 (x9_2 - (rd l3 x31_2))) l3 (l3.length : Int) (wrap64 (x31_2 + 1))) else (some false)) else (impl_FairOk.l0 k2 l1 l2 l3 (wrap64 (x9_2 - (rd l3 x31_2))) l3 (l3.length : Int) (wrap64 (x31_2 + 1)))) else (none)) else (some false)) = some r := H
                    have A14 := Aside0.mk A140
                    clear A140
                    by_cases c15 : t400 = true
                    · subst c15
                      have H1 : (if x31_2 < (l1.length : Int) then (if (rd l1 x31_2) = 0 then (if (rd l3 x31_2) = 0 then (impl_FairOk.l0 k2 l1 l2 l3 (wrap64 (x9_2 - (rd l3 x31_2))) l3 (l3.length : Int) (wrap64 (x31_2 + 1))) else (some false)) else (impl_FairOk.l0 k2 l1 l2 l3 (wrap64 (x9_2 - (rd l3 x31_2))) l3 (l3.length : Int) (wrap64 (x31_2 + 1)))) else (none)) = some r := by rw [if_pos rfl] at H; exact H
                      clear H
                      have H := H1
                      clear H1
                      by_cases c16 : x31_2 < (l1.length : Int)
                      · rw [if_pos c16] at H
                        have c16b0 : decide (x31_2 < (l1.length : Int)) = true := decide_eq_true c16
                        clear c16
                        by_cases c17 : (rd l1 x31_2) = 0
                        · rw [if_pos c17] at H
                          have c17b0 : ((rd l1 x31_2) == 0) = true := beq_iff_eq.mpr c17
                          have c17b1 : ((rd l1 x31_2) != 0) = false := bne_eq_false_iff_eq.mpr c17
                          clear c17
                          by_cases c18 : (rd l3 x31_2) = 0
                          · rw [if_pos c18] at H
                            have c18b0 : ((rd l3 x31_2) == 0) = true := beq_iff_eq.mpr c18
                            have c18b1 : ((rd l3 x31_2) != 0) = false := bne_eq_false_iff_eq.mpr c18
                            clear c18
                            have H' := Aside0.mk H
                            clear H
                            have p398 : 0 ≤ (x31_2 : Int) := of_decide_eq_true (by first | (with_reducible assumption) | assumption)
                            have q398 : x31_2 < (l3.length : Int) := of_decide_eq_true (by first | (with_reducible assumption) | assumption)
                            obtain ⟨ad398, e398, hx398_0⟩ := Kd.at_int HR3.out x31_2 p398 q398
                            cases e398
                            replace hx398_0 := (HB.out.cell (World.block_lt_of_cell? w _ hx398_0)).trans hx398_0
                            replace p398 := eq_true p398
                            replace q398 := eq_true q398
                            have p399 : 0 ≤ (x31_2 : Int) := of_decide_eq_true (by first | (with_reducible assumption) | assumption)
                            have q399 : x31_2 < (l2.length : Int) := of_decide_eq_true (by first | (with_reducible assumption) | assumption)
                            obtain ⟨ad399, e399, hx399_0⟩ := Kd.at_int HR2.out x31_2 p399 q399
                            cases e399
                            replace hx399_0 := (HB.out.cell (World.block_lt_of_cell? w _ hx399_0)).trans hx399_0
                            replace p399 := eq_true p399
                            replace q399 := eq_true q399
                            go_wp2_with (first | (go_at_call 29; (with_reducible refine (impl_within.calls (rd l3 x31_2) 0 (rd l2 x31_2) true _ A14.out).mono ?_); rintro e w' ⟨rfl, ⟨nd, rfl⟩⟩; (try first | exact ⟨rfl, _, World.drewN_drewN _ _ _⟩ | exact ⟨rfl, _, Eq.trans (World.drewN_drewN _ _ _) (congrArg (World.drewN _) (Nat.add_assoc _ _ _))⟩); have p401 : 0 ≤ (x31_2 : Int) := of_decide_eq_true (by first | (with_reducible assumption) | assumption); have q401 : x31_2 < (l1.length : Int) := of_decide_eq_true (by first | (with_reducible assumption) | assumption); obtain ⟨ad401, e401, hx401_0⟩ := Kd.at_int HR1.out x31_2 p401 q401; cases e401; replace hx401_0 := (HB.out.cell (World.block_lt_of_cell? w _ hx401_0)).trans hx401_0; replace p401 := eq_true p401; replace q401 := eq_true q401))
                            repeat (go_quiet (first | (go_at_call 29; (with_reducible refine (impl_within.calls (rd l3 x31_2) 0 (rd l2 x31_2) true _ A14.out).mono ?_); rintro e w' ⟨rfl, ⟨nd, rfl⟩⟩; (try first | exact ⟨rfl, _, World.drewN_drewN _ _ _⟩ | exact ⟨rfl, _, Eq.trans (World.drewN_drewN _ _ _) (congrArg (World.drewN _) (Nat.add_assoc _ _ _))⟩); have p401 : 0 ≤ (x31_2 : Int) := of_decide_eq_true (by first | (with_reducible assumption) | assumption); have q401 : x31_2 < (l1.length : Int) := of_decide_eq_true (by first | (with_reducible assumption) | assumption); obtain ⟨ad401, e401, hx401_0⟩ := Kd.at_int HR1.out x31_2 p401 q401; cases e401; replace hx401_0 := (HB.out.cell (World.block_lt_of_cell? w _ hx401_0)).trans hx401_0; replace p401 := eq_true p401; replace q401 := eq_true q401)); try go_wp2_with (first | (go_at_call 29; (with_reducible refine (impl_within.calls (rd l3 x31_2) 0 (rd l2 x31_2) true _ A14.out).mono ?_); rintro e w' ⟨rfl, ⟨nd, rfl⟩⟩; (try first | exact ⟨rfl, _, World.drewN_drewN _ _ _⟩ | exact ⟨rfl, _, Eq.trans (World.drewN_drewN _ _ _) (congrArg (World.drewN _) (Nat.add_assoc _ _ _))⟩); have p401 : 0 ≤ (x31_2 : Int) := of_decide_eq_true (by first | (with_reducible assumption) | assumption); have q401 : x31_2 < (l1.length : Int) := of_decide_eq_true (by first | (with_reducible assumption) | assumption); obtain ⟨ad401, e401, hx401_0⟩ := Kd.at_int HR1.out x31_2 p401 q401; cases e401; replace hx401_0 := (HB.out.cell (World.block_lt_of_cell? w _ hx401_0)).trans hx401_0; replace p401 := eq_true p401; replace q401 := eq_true q401)))
                            go_roundg k2
                            case measure => have := HJ5.out; have := HK2.out; omega
                            case rel => exact ⟨(wrap64 (x9_2 - (rd l3 x31_2))), (wrap64 (x31_2 + 1)), (by first | rfl | (simp; done) | (simp [*]; done)), (by first | rfl | (simp; done) | (simp [*]; done)), H', ⟨by have := HJ5.out; have := HK2.out; omega⟩, ⟨by repeat (first | (with_reducible first | exact HB.out | apply below_alloc | apply pw_below_drewN | apply below_drew1) | exact HB.out)⟩⟩
                          · rw [if_neg c18] at H
                            have c18b0 : ((rd l3 x31_2) == 0) = false := beq_eq_false_iff_ne.mpr c18
                            have c18b1 : ((rd l3 x31_2) != 0) = true := bne_iff_ne.mpr c18
                            obtain rfl := Option.some.inj H
                            have p398 : 0 ≤ (x31_2 : Int) := of_decide_eq_true (by first | (with_reducible assumption) | assumption)
                            have q398 : x31_2 < (l3.length : Int) := of_decide_eq_true (by first | (with_reducible assumption) | assumption)
                            obtain ⟨ad398, e398, hx398_0⟩ := Kd.at_int HR3.out x31_2 p398 q398
                            cases e398
                            replace hx398_0 := (HB.out.cell (World.block_lt_of_cell? w _ hx398_0)).trans hx398_0
                            replace p398 := eq_true p398
                            replace q398 := eq_true q398
                            have p399 : 0 ≤ (x31_2 : Int) := of_decide_eq_true (by first | (with_reducible assumption) | assumption)
                            have q399 : x31_2 < (l2.length : Int) := of_decide_eq_true (by first | (with_reducible assumption) | assumption)
                            obtain ⟨ad399, e399, hx399_0⟩ := Kd.at_int HR2.out x31_2 p399 q399
                            cases e399
                            replace hx399_0 := (HB.out.cell (World.block_lt_of_cell? w _ hx399_0)).trans hx399_0
                            replace p399 := eq_true p399
                            replace q399 := eq_true q399
                            go_wp2_with (first | (go_at_call 29; (with_reducible refine (impl_within.calls (rd l3 x31_2) 0 (rd l2 x31_2) true _ A14.out).mono ?_); rintro e w' ⟨rfl, ⟨nd, rfl⟩⟩; (try first | exact ⟨rfl, _, World.drewN_drewN _ _ _⟩ | exact ⟨rfl, _, Eq.trans (World.drewN_drewN _ _ _) (congrArg (World.drewN _) (Nat.add_assoc _ _ _))⟩); have p401 : 0 ≤ (x31_2 : Int) := of_decide_eq_true (by first | (with_reducible assumption) | assumption); have q401 : x31_2 < (l1.length : Int) := of_decide_eq_true (by first | (with_reducible assumption) | assumption); obtain ⟨ad401, e401, hx401_0⟩ := Kd.at_int HR1.out x31_2 p401 q401; cases e401; replace hx401_0 := (HB.out.cell (World.block_lt_of_cell? w _ hx401_0)).trans hx401_0; replace p401 := eq_true p401; replace q401 := eq_true q401))
                            repeat (go_quiet (first | (go_at_call 29; (with_reducible refine (impl_within.calls (rd l3 x31_2) 0 (rd l2 x31_2) true _ A14.out).mono ?_); rintro e w' ⟨rfl, ⟨nd, rfl⟩⟩; (try first | exact ⟨rfl, _, World.drewN_drewN _ _ _⟩ | exact ⟨rfl, _, Eq.trans (World.drewN_drewN _ _ _) (congrArg (World.drewN _) (Nat.add_assoc _ _ _))⟩); have p401 : 0 ≤ (x31_2 : Int) := of_decide_eq_true (by first | (with_reducible assumption) | assumption); have q401 : x31_2 < (l1.length : Int) := of_decide_eq_true (by first | (with_reducible assumption) | assumption); obtain ⟨ad401, e401, hx401_0⟩ := Kd.at_int HR1.out x31_2 p401 q401; cases e401; replace hx401_0 := (HB.out.cell (World.block_lt_of_cell? w _ hx401_0)).trans hx401_0; replace p401 := eq_true p401; replace q401 := eq_true q401)); try go_wp2_with (first | (go_at_call 29; (with_reducible refine (impl_within.calls (rd l3 x31_2) 0 (rd l2 x31_2) true _ A14.out).mono ?_); rintro e w' ⟨rfl, ⟨nd, rfl⟩⟩; (try first | exact ⟨rfl, _, World.drewN_drewN _ _ _⟩ | exact ⟨rfl, _, Eq.trans (World.drewN_drewN _ _ _) (congrArg (World.drewN _) (Nat.add_assoc _ _ _))⟩); have p401 : 0 ≤ (x31_2 : Int) := of_decide_eq_true (by first | (with_reducible assumption) | assumption); have q401 : x31_2 < (l1.length : Int) := of_decide_eq_true (by first | (with_reducible assumption) | assumption); obtain ⟨ad401, e401, hx401_0⟩ := Kd.at_int HR1.out x31_2 p401 q401; cases e401; replace hx401_0 := (HB.out.cell (World.block_lt_of_cell? w _ hx401_0)).trans hx401_0; replace p401 := eq_true p401; replace q401 := eq_true q401)))
                            go_ret
                            exact ⟨by first | rfl | (simp [errW_none, errW_some] <;> rfl) | (simp [*, errW_none, errW_some] <;> rfl), by repeat (first | (with_reducible first | exact HB.out | apply below_alloc | apply pw_below_drewN | apply below_drew1) | exact HB.out)⟩
                        · rw [if_neg c17] at H
                          have c17b0 : ((rd l1 x31_2) == 0) = false := beq_eq_false_iff_ne.mpr c17
                          have c17b1 : ((rd l1 x31_2) != 0) = true := bne_iff_ne.mpr c17
                          have H' := Aside0.mk H
                          clear H
                          have p398 : 0 ≤ (x31_2 : Int) := of_decide_eq_true (by first | (with_reducible assumption) | assumption)
                          have q398 : x31_2 < (l3.length : Int) := of_decide_eq_true (by first | (with_reducible assumption) | assumption)
                          obtain ⟨ad398, e398, hx398_0⟩ := Kd.at_int HR3.out x31_2 p398 q398
                          cases e398
                          replace hx398_0 := (HB.out.cell (World.block_lt_of_cell? w _ hx398_0)).trans hx398_0
                          replace p398 := eq_true p398
                          replace q398 := eq_true q398
                          have p399 : 0 ≤ (x31_2 : Int) := of_decide_eq_true (by first | (with_reducible assumption) | assumption)
                          have q399 : x31_2 < (l2.length : Int) := of_decide_eq_true (by first | (with_reducible assumption) | assumption)
                          obtain ⟨ad399, e399, hx399_0⟩ := Kd.at_int HR2.out x31_2 p399 q399
                          cases e399
                          replace hx399_0 := (HB.out.cell (World.block_lt_of_cell? w _ hx399_0)).trans hx399_0
                          replace p399 := eq_true p399
                          replace q399 := eq_true q399
                          go_wp2_with (first | (go_at_call 29; (with_reducible refine (impl_within.calls (rd l3 x31_2) 0 (rd l2 x31_2) true _ A14.out).mono ?_); rintro e w' ⟨rfl, ⟨nd, rfl⟩⟩; (try first | exact ⟨rfl, _, World.drewN_drewN _ _ _⟩ | exact ⟨rfl, _, Eq.trans (World.drewN_drewN _ _ _) (congrArg (World.drewN _) (Nat.add_assoc _ _ _))⟩); have p401 : 0 ≤ (x31_2 : Int) := of_decide_eq_true (by first | (with_reducible assumption) | assumption); have q401 : x31_2 < (l1.length : Int) := of_decide_eq_true (by first | (with_reducible assumption) | assumption); obtain ⟨ad401, e401, hx401_0⟩ := Kd.at_int HR1.out x31_2 p401 q401; cases e401; replace hx401_0 := (HB.out.cell (World.block_lt_of_cell? w _ hx401_0)).trans hx401_0; replace p401 := eq_true p401; replace q401 := eq_true q401))
                          repeat (go_quiet (first | (go_at_call 29; (with_reducible refine (impl_within.calls (rd l3 x31_2) 0 (rd l2 x31_2) true _ A14.out).mono ?_); rintro e w' ⟨rfl, ⟨nd, rfl⟩⟩; (try first | exact ⟨rfl, _, World.drewN_drewN _ _ _⟩ | exact ⟨rfl, _, Eq.trans (World.drewN_drewN _ _ _) (congrArg (World.drewN _) (Nat.add_assoc _ _ _))⟩); have p401 : 0 ≤ (x31_2 : Int) := of_decide_eq_true (by first | (with_reducible assumption) | assumption); have q401 : x31_2 < (l1.length : Int) := of_decide_eq_true (by first | (with_reducible assumption) | assumption); obtain ⟨ad401, e401, hx401_0⟩ := Kd.at_int HR1.out x31_2 p401 q401; cases e401; replace hx401_0 := (HB.out.cell (World.block_lt_of_cell? w _ hx401_0)).trans hx401_0; replace p401 := eq_true p401; replace q401 := eq_true q401)); try go_wp2_with (first | (go_at_call 29; (with_reducible refine (impl_within.calls (rd l3 x31_2) 0 (rd l2 x31_2) true _ A14.out).mono ?_); rintro e w' ⟨rfl, ⟨nd, rfl⟩⟩; (try first | exact ⟨rfl, _, World.drewN_drewN _ _ _⟩ | exact ⟨rfl, _, Eq.trans (World.drewN_drewN _ _ _) (congrArg (World.drewN _) (Nat.add_assoc _ _ _))⟩); have p401 : 0 ≤ (x31_2 : Int) := of_decide_eq_true (by first | (with_reducible assumption) | assumption); have q401 : x31_2 < (l1.length : Int) := of_decide_eq_true (by first | (with_reducible assumption) | assumption); obtain ⟨ad401, e401, hx401_0⟩ := Kd.at_int HR1.out x31_2 p401 q401; cases e401; replace hx401_0 := (HB.out.cell (World.block_lt_of_cell? w _ hx401_0)).trans hx401_0; replace p401 := eq_true p401; replace q401 := eq_true q401)))
                          go_roundg k2
                          case measure => have := HJ5.out; have := HK2.out; omega
                          case rel => exact ⟨(wrap64 (x9_2 - (rd l3 x31_2))), (wrap64 (x31_2 + 1)), (by first | rfl | (simp; done) | (simp [*]; done)), (by first | rfl | (simp; done) | (simp [*]; done)), H', ⟨by have := HJ5.out; have := HK2.out; omega⟩, ⟨by repeat (first | (with_reducible first | exact HB.out | apply below_alloc | apply pw_below_drewN | apply below_drew1) | exact HB.out)⟩⟩
                      · rw [if_neg c16] at H
                        exact absurd H (by simp)
                    · replace c15 := Bool.eq_false_iff.mpr c15
                      subst c15
                      have H1 : (some false) = some r := by rw [if_neg (show ¬ (false = true) by decide)] at H; exact H
                      clear H
                      have H := H1
                      clear H1
                      obtain rfl := Option.some.inj H
                      have p398 : 0 ≤ (x31_2 : Int) := of_decide_eq_true (by first | (with_reducible assumption) | assumption)
                      have q398 : x31_2 < (l3.length : Int) := of_decide_eq_true (by first | (with_reducible assumption) | assumption)
                      obtain ⟨ad398, e398, hx398_0⟩ := Kd.at_int HR3.out x31_2 p398 q398
                      cases e398
                      replace hx398_0 := (HB.out.cell (World.block_lt_of_cell? w _ hx398_0)).trans hx398_0
                      replace p398 := eq_true p398
                      replace q398 := eq_true q398
                      have p399 : 0 ≤ (x31_2 : Int) := of_decide_eq_true (by first | (with_reducible assumption) | assumption)
                      have q399 : x31_2 < (l2.length : Int) := of_decide_eq_true (by first | (with_reducible assumption) | assumption)
                      obtain ⟨ad399, e399, hx399_0⟩ := Kd.at_int HR2.out x31_2 p399 q399
                      cases e399
                      replace hx399_0 := (HB.out.cell (World.block_lt_of_cell? w _ hx399_0)).trans hx399_0
                      replace p399 := eq_true p399
                      replace q399 := eq_true q399
                      go_wp2_with (first | (go_at_call 29; (with_reducible refine (impl_within.calls (rd l3 x31_2) 0 (rd l2 x31_2) false _ A14.out).mono ?_); rintro e w' ⟨rfl, ⟨nd, rfl⟩⟩; (try first | exact ⟨rfl, _, World.drewN_drewN _ _ _⟩ | exact ⟨rfl, _, Eq.trans (World.drewN_drewN _ _ _) (congrArg (World.drewN _) (Nat.add_assoc _ _ _))⟩)))
                      repeat (go_quiet (first | (go_at_call 29; (with_reducible refine (impl_within.calls (rd l3 x31_2) 0 (rd l2 x31_2) false _ A14.out).mono ?_); rintro e w' ⟨rfl, ⟨nd, rfl⟩⟩; (try first | exact ⟨rfl, _, World.drewN_drewN _ _ _⟩ | exact ⟨rfl, _, Eq.trans (World.drewN_drewN _ _ _) (congrArg (World.drewN _) (Nat.add_assoc _ _ _))⟩))); try go_wp2_with (first | (go_at_call 29; (with_reducible refine (impl_within.calls (rd l3 x31_2) 0 (rd l2 x31_2) false _ A14.out).mono ?_); rintro e w' ⟨rfl, ⟨nd, rfl⟩⟩; (try first | exact ⟨rfl, _, World.drewN_drewN _ _ _⟩ | exact ⟨rfl, _, Eq.trans (World.drewN_drewN _ _ _) (congrArg (World.drewN _) (Nat.add_assoc _ _ _))⟩))))
                      go_ret
                      exact ⟨by first | rfl | (simp [errW_none, errW_some] <;> rfl) | (simp [*, errW_none, errW_some] <;> rfl), by repeat (first | (with_reducible first | exact HB.out | apply below_alloc | apply pw_below_drewN | apply below_drew1) | exact HB.out)⟩
                  · rw [if_neg c13] at H
                    exact absurd H (by simp)
                · rw [if_neg c12] at H
                  exact absurd H (by simp)
              · rw [if_neg c11] at H
                exact absurd H (by simp)
            · rw [if_neg c10] at H
              have c10b0 : decide (x31_2 < (l3.length : Int)) = false := decide_eq_false c10
              clear c10
              by_cases c19 : x9_2 = 0
              · rw [if_pos c19] at H
                have c19b0 : (x9_2 == 0) = true := beq_iff_eq.mpr c19
                have c19b1 : (x9_2 != 0) = false := bne_eq_false_iff_eq.mpr c19
                clear c19
                have H' := Aside0.mk H
                clear H
                go_wp2
                repeat (go_quiet (fail); try go_wp2)
                go_loopg [62] k2 (fun kq v62 w' => ∃ (x62_3 : Int), v62 = .int .i64 x62_3 ∧ Aside0 (impl_FairOk.l1 kq l1 l2 l3 l3 (l3.length : Int) x62_3 = some r) ∧ Aside0 (kq ≤ k2) ∧ Aside0 (Below w.heap.size w w'))
                case atStart => exact ⟨(0), (by first | rfl | (simp; done) | (simp [*]; done)), H', ⟨Nat.le_refl _⟩, ⟨by repeat (first | (with_reducible first | exact HB.out | apply below_alloc | apply pw_below_drewN | apply below_drew1) | exact HB.out)⟩⟩
                case round =>
                  clear H'
                  try clear c1
                  try clear c2
                  try clear p2
                  try clear c3
                  try clear p3
                  try clear q3
                  try clear hx3
                  try clear p4
                  try clear q4
                  try clear hx4
                  try clear p6
                  try clear c8
                  try clear c8b0
                  try clear c9
                  try clear c10
                  try clear c10b0
                  try clear c11
                  try clear c11b0
                  try clear c12
                  try clear c12b0
                  try clear c13
                  try clear c13b0
                  try clear c15
                  try clear c16
                  try clear c16b0
                  try clear c17
                  try clear c17b0
                  try clear c17b1
                  try clear c18
                  try clear c18b0
                  try clear c18b1
                  try clear c19
                  try clear c19b0
                  try clear c19b1
                  try clear hx398_0
                  try clear hx399_0
                  try clear hx401_0
                  try clear p2
                  try clear p398
                  try clear p399
                  try clear p401
                  try clear q398
                  try clear q399
                  try clear q401
                  obtain ⟨x62_3, rfl, HA, HK3, HB⟩ := hrel
                  cases gk with
                  | zero => exact absurd HA.out (by simp [impl_FairOk.l1])
                  | succ k3 =>
                    have H := HA.out
                    clear HA
                    simp only [impl_FairOk.l1] at H
                    by_cases c20 : x62_3 < (l3.length : Int)
                    · rw [if_pos c20] at H
                      have c20b0 : decide (x62_3 < (l3.length : Int)) = true := decide_eq_true c20
                      clear c20
                      by_cases c21 : 0 ≤ x62_3
                      · rw [if_pos c21] at H
                        have c21b0 : decide (0 ≤ x62_3) = true := decide_eq_true c21
                        clear c21
                        by_cases c22 : x62_3 < (l3.length : Int)
                        · rw [if_pos c22] at H
                          have c22b0 : decide (x62_3 < (l3.length : Int)) = true := decide_eq_true c22
                          clear c22
                          have H' := Aside0.mk H
                          clear H
                          have p402 : 0 ≤ (x62_3 : Int) := of_decide_eq_true (by first | (with_reducible assumption) | assumption)
                          have q402 : x62_3 < (l3.length : Int) := of_decide_eq_true (by first | (with_reducible assumption) | assumption)
                          obtain ⟨ad402, e402, hx402_0⟩ := Kd.at_int HR3.out x62_3 p402 q402
                          cases e402
                          replace hx402_0 := (HB.out.cell (World.block_lt_of_cell? w _ hx402_0)).trans hx402_0
                          replace p402 := eq_true p402
                          replace q402 := eq_true q402
                          go_wp2
                          repeat (go_quiet (fail); try go_wp2)
                          go_loopg [69] k3 (fun kq v69 w' => ∃ (x69_4 : Int), v69 = .int .i64 x69_4 ∧ Aside0 (impl_FairOk.l2 kq l1 l2 l3 x62_3 (rd l3 x62_3) l3 (l3.length : Int) x62_3 l3 (l3.length : Int) x69_4 = some r) ∧ Aside0 (kq ≤ k3) ∧ Aside0 (Below w.heap.size w w'))
                          case atStart => exact ⟨(0), (by first | rfl | (simp; done) | (simp [*]; done)), H', ⟨Nat.le_refl _⟩, ⟨by repeat (first | (with_reducible first | exact HB.out | apply below_alloc | apply pw_below_drewN | apply below_drew1) | exact HB.out)⟩⟩
                          case round =>
                            clear H'
                            try clear c1
                            try clear c2
                            try clear p2
                            try clear c3
                            try clear p3
                            try clear q3
                            try clear hx3
                            try clear p4
                            try clear q4
                            try clear hx4
                            try clear p6
                            try clear c8
                            try clear c8b0
                            try clear c9
                            try clear c10
                            try clear c10b0
                            try clear c11
                            try clear c11b0
                            try clear c12
                            try clear c12b0
                            try clear c13
                            try clear c13b0
                            try clear c15
                            try clear c16
                            try clear c16b0
                            try clear c17
                            try clear c17b0
                            try clear c17b1
                            try clear c18
                            try clear c18b0
                            try clear c18b1
                            try clear c19
                            try clear c19b0
                            try clear c19b1
                            try clear c20
                            try clear c20b0
                            try clear c21
                            try clear c21b0
                            try clear c22
                            try clear c22b0
                            try clear hx398_0
                            try clear hx399_0
                            try clear hx401_0
                            try clear hx402_0
                            try clear p2
                            try clear p3
                            try clear p398
                            try clear p399
                            try clear p4
                            try clear p401
                            try clear p402
                            try clear p6
                            try clear q3
                            try clear q398
                            try clear q399
                            try clear q4
                            try clear q401
                            try clear q402
                            obtain ⟨x69_4, rfl, HA, HK4, HB⟩ := hrel
                            cases gk with
                            | zero => exact absurd HA.out (by simp [impl_FairOk.l2])
                            | succ k4 =>
                              have H := HA.out
                              clear HA
                              simp only [impl_FairOk.l2] at H
                              by_cases c23 : x69_4 < (l3.length : Int)
                              · rw [if_pos c23] at H
                                have c23b0 : decide (x69_4 < (l3.length : Int)) = true := decide_eq_true c23
                                clear c23
                                by_cases c24 : 0 ≤ x69_4
                                · rw [if_pos c24] at H
                                  have c24b0 : decide (0 ≤ x69_4) = true := decide_eq_true c24
                                  clear c24
                                  by_cases c25 : x69_4 < (l3.length : Int)
                                  · rw [if_pos c25] at H
                                    have c25b0 : decide (x69_4 < (l3.length : Int)) = true := decide_eq_true c25
                                    clear c25
                                    by_cases c26 : x62_3 = x69_4
                                    · rw [if_pos c26] at H
                                      have c26b0 : (x62_3 == x69_4) = true := beq_iff_eq.mpr c26
                                      have c26b1 : (x62_3 != x69_4) = false := bne_eq_false_iff_eq.mpr c26
                                      clear c26
                                      have H' := Aside0.mk H
                                      clear H
                                      have p403 : 0 ≤ (x69_4 : Int) := of_decide_eq_true (by first | (with_reducible assumption) | assumption)
                                      have q403 : x69_4 < (l3.length : Int) := of_decide_eq_true (by first | (with_reducible assumption) | assumption)
                                      obtain ⟨ad403, e403, hx403_0⟩ := Kd.at_int HR3.out x69_4 p403 q403
                                      obtain rfl : ad402 = ad403 := (by injection e403)
                                      replace hx403_0 := (HB.out.cell (World.block_lt_of_cell? w _ hx403_0)).trans hx403_0
                                      replace p403 := eq_true p403
                                      replace q403 := eq_true q403
                                      go_wp2
                                      repeat (go_quiet (fail); try go_wp2)
                                      go_roundg k4
                                      case measure => have := HJ5.out; have := HK2.out; have := HK3.out; have := HK4.out; omega
                                      case rel => exact ⟨(wrap64 (x69_4 + 1)), (by first | rfl | (simp; done) | (simp [*]; done)), H', ⟨by have := HJ5.out; have := HK2.out; have := HK3.out; have := HK4.out; omega⟩, ⟨by repeat (first | (with_reducible first | exact HB.out | apply below_alloc | apply pw_below_drewN | apply below_drew1) | exact HB.out)⟩⟩
                                    · rw [if_neg c26] at H
                                      have c26b0 : (x62_3 == x69_4) = false := beq_eq_false_iff_ne.mpr c26
                                      have c26b1 : (x62_3 != x69_4) = true := bne_iff_ne.mpr c26
                                      by_cases c27 : 0 ≤ x62_3
                                      · rw [if_pos c27] at H
                                        have c27b0 : decide (0 ≤ x62_3) = true := decide_eq_true c27
                                        clear c27
                                        by_cases c28 : x62_3 < (l1.length : Int)
                                        · rw [if_pos c28] at H
                                          have c28b0 : decide (x62_3 < (l1.length : Int)) = true := decide_eq_true c28
                                          clear c28
                                          by_cases c29 : (rd l1 x62_3) > 0
                                          · rw [if_pos c29] at H
                                            have c29b0 : decide (0 < (rd l1 x62_3)) = true := decide_eq_true c29
                                            clear c29
                                            by_cases c30 : x69_4 < (l1.length : Int)
                                            · rw [if_pos c30] at H
                                              have c30b0 : decide (x69_4 < (l1.length : Int)) = true := decide_eq_true c30
                                              clear c30
                                              by_cases c31 : (rd l1 x69_4) > 0
                                              · rw [if_pos c31] at H
                                                have c31b0 : decide (0 < (rd l1 x69_4)) = true := decide_eq_true c31
                                                clear c31
                                                by_cases c32 : x62_3 < (l2.length : Int)
                                                · rw [if_pos c32] at H
                                                  have c32b0 : decide (x62_3 < (l2.length : Int)) = true := decide_eq_true c32
                                                  clear c32
                                                  by_cases c33 : (rd l3 x62_3) < (rd l2 x62_3)
                                                  · rw [if_pos c33] at H
                                                    have c33b0 : decide ((rd l3 x62_3) < (rd l2 x62_3)) = true := decide_eq_true c33
                                                    clear c33
                                                    by_cases c34 : (wrap64 ((wrap64 ((rd l3 x62_3) + 1)) * (rd l1 x69_4))) < (wrap64 ((wrap64 ((rd l3 x69_4) - 1)) * (rd l1 x62_3)))
                                                    · rw [if_pos c34] at H
                                                      have c34b0 : decide ((wrap64 ((wrap64 ((rd l3 x62_3) + 1)) * (rd l1 x69_4))) < (wrap64 ((wrap64 ((rd l3 x69_4) - 1)) * (rd l1 x62_3)))) = true := decide_eq_true c34
                                                      clear c34
                                                      obtain rfl := Option.some.inj H
                                                      have p403 : 0 ≤ (x69_4 : Int) := of_decide_eq_true (by first | (with_reducible assumption) | assumption)
                                                      have q403 : x69_4 < (l3.length : Int) := of_decide_eq_true (by first | (with_reducible assumption) | assumption)
                                                      obtain ⟨ad403, e403, hx403_0⟩ := Kd.at_int HR3.out x69_4 p403 q403
                                                      obtain rfl : ad402 = ad403 := (by injection e403)
                                                      replace hx403_0 := (HB.out.cell (World.block_lt_of_cell? w _ hx403_0)).trans hx403_0
                                                      replace p403 := eq_true p403
                                                      replace q403 := eq_true q403
                                                      have p404 : 0 ≤ (x62_3 : Int) := of_decide_eq_true (by first | (with_reducible assumption) | assumption)
                                                      have q404 : x62_3 < (l1.length : Int) := of_decide_eq_true (by first | (with_reducible assumption) | assumption)
                                                      obtain ⟨ad404, e404, hx404_0⟩ := Kd.at_int HR1.out x62_3 p404 q404
                                                      cases e404
                                                      replace hx404_0 := (HB.out.cell (World.block_lt_of_cell? w _ hx404_0)).trans hx404_0
                                                      replace p404 := eq_true p404
                                                      replace q404 := eq_true q404
                                                      have p405 : 0 ≤ (x69_4 : Int) := of_decide_eq_true (by first | (with_reducible assumption) | assumption)
                                                      have q405 : x69_4 < (l1.length : Int) := of_decide_eq_true (by first | (with_reducible assumption) | assumption)
                                                      obtain ⟨ad405, e405, hx405_0⟩ := Kd.at_int HR1.out x69_4 p405 q405
                                                      obtain rfl : ad404 = ad405 := (by injection e405)
                                                      replace hx405_0 := (HB.out.cell (World.block_lt_of_cell? w _ hx405_0)).trans hx405_0
                                                      replace p405 := eq_true p405
                                                      replace q405 := eq_true q405
                                                      have p406 : 0 ≤ (x62_3 : Int) := of_decide_eq_true (by first | (with_reducible assumption) | assumption)
                                                      have q406 : x62_3 < (l2.length : Int) := of_decide_eq_true (by first | (with_reducible assumption) | assumption)
                                                      obtain ⟨ad406, e406, hx406_0⟩ := Kd.at_int HR2.out x62_3 p406 q406
                                                      cases e406
                                                      replace hx406_0 := (HB.out.cell (World.block_lt_of_cell? w _ hx406_0)).trans hx406_0
                                                      replace p406 := eq_true p406
                                                      replace q406 := eq_true q406
                                                      have p407 : 0 ≤ (x69_4 : Int) := of_decide_eq_true (by first | (with_reducible assumption) | assumption)
                                                      have q407 : x69_4 < (l1.length : Int) := of_decide_eq_true (by first | (with_reducible assumption) | assumption)
                                                      obtain ⟨ad407, e407, hx407_0⟩ := Kd.at_int HR1.out x69_4 p407 q407
                                                      obtain rfl : ad404 = ad407 := (by injection e407)
                                                      replace hx407_0 := (HB.out.cell (World.block_lt_of_cell? w _ hx407_0)).trans hx407_0
                                                      replace p407 := eq_true p407
                                                      replace q407 := eq_true q407
                                                      have p408 : 0 ≤ (x62_3 : Int) := of_decide_eq_true (by first | (with_reducible assumption) | assumption)
                                                      have q408 : x62_3 < (l1.length : Int) := of_decide_eq_true (by first | (with_reducible assumption) | assumption)
                                                      obtain ⟨ad408, e408, hx408_0⟩ := Kd.at_int HR1.out x62_3 p408 q408
                                                      obtain rfl : ad404 = ad408 := (by injection e408)
                                                      replace hx408_0 := (HB.out.cell (World.block_lt_of_cell? w _ hx408_0)).trans hx408_0
                                                      replace p408 := eq_true p408
                                                      replace q408 := eq_true q408
                                                      go_wp2
                                                      repeat (go_quiet (fail); try go_wp2)
                                                      go_ret
                                                      exact ⟨by first | rfl | (simp [errW_none, errW_some] <;> rfl) | (simp [*, errW_none, errW_some] <;> rfl), by repeat (first | (with_reducible first | exact HB.out | apply below_alloc | apply pw_below_drewN | apply below_drew1) | exact HB.out)⟩
                                                    · rw [if_neg c34] at H
                                                      have c34b0 : decide ((wrap64 ((wrap64 ((rd l3 x62_3) + 1)) * (rd l1 x69_4))) < (wrap64 ((wrap64 ((rd l3 x69_4) - 1)) * (rd l1 x62_3)))) = false := decide_eq_false c34
                                                      clear c34
                                                      have H' := Aside0.mk H
                                                      clear H
                                                      have p403 : 0 ≤ (x69_4 : Int) := of_decide_eq_true (by first | (with_reducible assumption) | assumption)
                                                      have q403 : x69_4 < (l3.length : Int) := of_decide_eq_true (by first | (with_reducible assumption) | assumption)
                                                      obtain ⟨ad403, e403, hx403_0⟩ := Kd.at_int HR3.out x69_4 p403 q403
                                                      obtain rfl : ad402 = ad403 := (by injection e403)
                                                      replace hx403_0 := (HB.out.cell (World.block_lt_of_cell? w _ hx403_0)).trans hx403_0
                                                      replace p403 := eq_true p403
                                                      replace q403 := eq_true q403
                                                      have p404 : 0 ≤ (x62_3 : Int) := of_decide_eq_true (by first | (with_reducible assumption) | assumption)
                                                      have q404 : x62_3 < (l1.length : Int) := of_decide_eq_true (by first | (with_reducible assumption) | assumption)
                                                      obtain ⟨ad404, e404, hx404_0⟩ := Kd.at_int HR1.out x62_3 p404 q404
                                                      cases e404
                                                      replace hx404_0 := (HB.out.cell (World.block_lt_of_cell? w _ hx404_0)).trans hx404_0
                                                      replace p404 := eq_true p404
                                                      replace q404 := eq_true q404
                                                      have p405 : 0 ≤ (x69_4 : Int) := of_decide_eq_true (by first | (with_reducible assumption) | assumption)
                                                      have q405 : x69_4 < (l1.length : Int) := of_decide_eq_true (by first | (with_reducible assumption) | assumption)
                                                      obtain ⟨ad405, e405, hx405_0⟩ := Kd.at_int HR1.out x69_4 p405 q405
                                                      obtain rfl : ad404 = ad405 := (by injection e405)
                                                      replace hx405_0 := (HB.out.cell (World.block_lt_of_cell? w _ hx405_0)).trans hx405_0
                                                      replace p405 := eq_true p405
                                                      replace q405 := eq_true q405
                                                      have p406 : 0 ≤ (x62_3 : Int) := of_decide_eq_true (by first | (with_reducible assumption) | assumption)
                                                      have q406 : x62_3 < (l2.length : Int) := of_decide_eq_true (by first | (with_reducible assumption) | assumption)
                                                      obtain ⟨ad406, e406, hx406_0⟩ := Kd.at_int HR2.out x62_3 p406 q406
                                                      cases e406
                                                      replace hx406_0 := (HB.out.cell (World.block_lt_of_cell? w _ hx406_0)).trans hx406_0
                                                      replace p406 := eq_true p406
                                                      replace q406 := eq_true q406
                                                      have p407 : 0 ≤ (x69_4 : Int) := of_decide_eq_true (by first | (with_reducible assumption) | assumption)
                                                      have q407 : x69_4 < (l1.length : Int) := of_decide_eq_true (by first | (with_reducible assumption) | assumption)
                                                      obtain ⟨ad407, e407, hx407_0⟩ := Kd.at_int HR1.out x69_4 p407 q407
                                                      obtain rfl : ad404 = ad407 := (by injection e407)
                                                      replace hx407_0 := (HB.out.cell (World.block_lt_of_cell? w _ hx407_0)).trans hx407_0
                                                      replace p407 := eq_true p407
                                                      replace q407 := eq_true q407
                                                      have p408 : 0 ≤ (x62_3 : Int) := of_decide_eq_true (by first | (with_reducible assumption) | assumption)
                                                      have q408 : x62_3 < (l1.length : Int) := of_decide_eq_true (by first | (with_reducible assumption) | assumption)
                                                      obtain ⟨ad408, e408, hx408_0⟩ := Kd.at_int HR1.out x62_3 p408 q408
                                                      obtain rfl : ad404 = ad408 := (by injection e408)
                                                      replace hx408_0 := (HB.out.cell (World.block_lt_of_cell? w _ hx408_0)).trans hx408_0
                                                      replace p408 := eq_true p408
                                                      replace q408 := eq_true q408
                                                      go_wp2
                                                      repeat (go_quiet (fail); try go_wp2)
                                                      go_roundg k4
                                                      case measure => have := HJ5.out; have := HK2.out; have := HK3.out; have := HK4.out; omega
                                                      case rel => exact ⟨(wrap64 (x69_4 + 1)), (by first | rfl | (simp; done) | (simp [*]; done)), H', ⟨by have := HJ5.out; have := HK2.out; have := HK3.out; have := HK4.out; omega⟩, ⟨by repeat (first | (with_reducible first | exact HB.out | apply below_alloc | apply pw_below_drewN | apply below_drew1) | exact HB.out)⟩⟩
                                                  · rw [if_neg c33] at H
                                                    have c33b0 : decide ((rd l3 x62_3) < (rd l2 x62_3)) = false := decide_eq_false c33
                                                    clear c33
                                                    have H' := Aside0.mk H
                                                    clear H
                                                    have p403 : 0 ≤ (x69_4 : Int) := of_decide_eq_true (by first | (with_reducible assumption) | assumption)
                                                    have q403 : x69_4 < (l3.length : Int) := of_decide_eq_true (by first | (with_reducible assumption) | assumption)
                                                    obtain ⟨ad403, e403, hx403_0⟩ := Kd.at_int HR3.out x69_4 p403 q403
                                                    obtain rfl : ad402 = ad403 := (by injection e403)
                                                    replace hx403_0 := (HB.out.cell (World.block_lt_of_cell? w _ hx403_0)).trans hx403_0
                                                    replace p403 := eq_true p403
                                                    replace q403 := eq_true q403
                                                    have p404 : 0 ≤ (x62_3 : Int) := of_decide_eq_true (by first | (with_reducible assumption) | assumption)
                                                    have q404 : x62_3 < (l1.length : Int) := of_decide_eq_true (by first | (with_reducible assumption) | assumption)
                                                    obtain ⟨ad404, e404, hx404_0⟩ := Kd.at_int HR1.out x62_3 p404 q404
                                                    cases e404
                                                    replace hx404_0 := (HB.out.cell (World.block_lt_of_cell? w _ hx404_0)).trans hx404_0
                                                    replace p404 := eq_true p404
                                                    replace q404 := eq_true q404
                                                    have p405 : 0 ≤ (x69_4 : Int) := of_decide_eq_true (by first | (with_reducible assumption) | assumption)
                                                    have q405 : x69_4 < (l1.length : Int) := of_decide_eq_true (by first | (with_reducible assumption) | assumption)
                                                    obtain ⟨ad405, e405, hx405_0⟩ := Kd.at_int HR1.out x69_4 p405 q405
                                                    obtain rfl : ad404 = ad405 := (by injection e405)
                                                    replace hx405_0 := (HB.out.cell (World.block_lt_of_cell? w _ hx405_0)).trans hx405_0
                                                    replace p405 := eq_true p405
                                                    replace q405 := eq_true q405
                                                    have p406 : 0 ≤ (x62_3 : Int) := of_decide_eq_true (by first | (with_reducible assumption) | assumption)
                                                    have q406 : x62_3 < (l2.length : Int) := of_decide_eq_true (by first | (with_reducible assumption) | assumption)
                                                    obtain ⟨ad406, e406, hx406_0⟩ := Kd.at_int HR2.out x62_3 p406 q406
                                                    cases e406
                                                    replace hx406_0 := (HB.out.cell (World.block_lt_of_cell? w _ hx406_0)).trans hx406_0
                                                    replace p406 := eq_true p406
                                                    replace q406 := eq_true q406
                                                    go_wp2
                                                    repeat (go_quiet (fail); try go_wp2)
                                                    go_roundg k4
                                                    case measure => have := HJ5.out; have := HK2.out; have := HK3.out; have := HK4.out; omega
                                                    case rel => exact ⟨(wrap64 (x69_4 + 1)), (by first | rfl | (simp; done) | (simp [*]; done)), H', ⟨by have := HJ5.out; have := HK2.out; have := HK3.out; have := HK4.out; omega⟩, ⟨by repeat (first | (with_reducible first | exact HB.out | apply below_alloc | apply pw_below_drewN | apply below_drew1) | exact HB.out)⟩⟩
                                                · rw [if_neg c32] at H
                                                  exact absurd H (by simp)
                                              · rw [if_neg c31] at H
                                                have c31b0 : decide (0 < (rd l1 x69_4)) = false := decide_eq_false c31
                                                clear c31
                                                have H' := Aside0.mk H
                                                clear H
                                                have p403 : 0 ≤ (x69_4 : Int) := of_decide_eq_true (by first | (with_reducible assumption) | assumption)
                                                have q403 : x69_4 < (l3.length : Int) := of_decide_eq_true (by first | (with_reducible assumption) | assumption)
                                                obtain ⟨ad403, e403, hx403_0⟩ := Kd.at_int HR3.out x69_4 p403 q403
                                                obtain rfl : ad402 = ad403 := (by injection e403)
                                                replace hx403_0 := (HB.out.cell (World.block_lt_of_cell? w _ hx403_0)).trans hx403_0
                                                replace p403 := eq_true p403
                                                replace q403 := eq_true q403
                                                have p404 : 0 ≤ (x62_3 : Int) := of_decide_eq_true (by first | (with_reducible assumption) | assumption)
                                                have q404 : x62_3 < (l1.length : Int) := of_decide_eq_true (by first | (with_reducible assumption) | assumption)
                                                obtain ⟨ad404, e404, hx404_0⟩ := Kd.at_int HR1.out x62_3 p404 q404
                                                cases e404
                                                replace hx404_0 := (HB.out.cell (World.block_lt_of_cell? w _ hx404_0)).trans hx404_0
                                                replace p404 := eq_true p404
                                                replace q404 := eq_true q404
                                                have p405 : 0 ≤ (x69_4 : Int) := of_decide_eq_true (by first | (with_reducible assumption) | assumption)
                                                have q405 : x69_4 < (l1.length : Int) := of_decide_eq_true (by first | (with_reducible assumption) | assumption)
                                                obtain ⟨ad405, e405, hx405_0⟩ := Kd.at_int HR1.out x69_4 p405 q405
                                                obtain rfl : ad404 = ad405 := (by injection e405)
                                                replace hx405_0 := (HB.out.cell (World.block_lt_of_cell? w _ hx405_0)).trans hx405_0
                                                replace p405 := eq_true p405
                                                replace q405 := eq_true q405
                                                go_wp2
                                                repeat (go_quiet (fail); try go_wp2)
                                                go_roundg k4
                                                case measure => have := HJ5.out; have := HK2.out; have := HK3.out; have := HK4.out; omega
                                                case rel => exact ⟨(wrap64 (x69_4 + 1)), (by first | rfl | (simp; done) | (simp [*]; done)), H', ⟨by have := HJ5.out; have := HK2.out; have := HK3.out; have := HK4.out; omega⟩, ⟨by repeat (first | (with_reducible first | exact HB.out | apply below_alloc | apply pw_below_drewN | apply below_drew1) | exact HB.out)⟩⟩
                                            · rw [if_neg c30] at H
                                              exact absurd H (by simp)
                                          · rw [if_neg c29] at H
                                            have c29b0 : decide (0 < (rd l1 x62_3)) = false := decide_eq_false c29
                                            clear c29
                                            have H' := Aside0.mk H
                                            clear H
                                            have p403 : 0 ≤ (x69_4 : Int) := of_decide_eq_true (by first | (with_reducible assumption) | assumption)
                                            have q403 : x69_4 < (l3.length : Int) := of_decide_eq_true (by first | (with_reducible assumption) | assumption)
                                            obtain ⟨ad403, e403, hx403_0⟩ := Kd.at_int HR3.out x69_4 p403 q403
                                            obtain rfl : ad402 = ad403 := (by injection e403)
                                            replace hx403_0 := (HB.out.cell (World.block_lt_of_cell? w _ hx403_0)).trans hx403_0
                                            replace p403 := eq_true p403
                                            replace q403 := eq_true q403
                                            have p404 : 0 ≤ (x62_3 : Int) := of_decide_eq_true (by first | (with_reducible assumption) | assumption)
                                            have q404 : x62_3 < (l1.length : Int) := of_decide_eq_true (by first | (with_reducible assumption) | assumption)
                                            obtain ⟨ad404, e404, hx404_0⟩ := Kd.at_int HR1.out x62_3 p404 q404
                                            cases e404
                                            replace hx404_0 := (HB.out.cell (World.block_lt_of_cell? w _ hx404_0)).trans hx404_0
                                            replace p404 := eq_true p404
                                            replace q404 := eq_true q404
                                            go_wp2
                                            repeat (go_quiet (fail); try go_wp2)
                                            go_roundg k4
                                            case measure => have := HJ5.out; have := HK2.out; have := HK3.out; have := HK4.out; omega
                                            case rel => exact ⟨(wrap64 (x69_4 + 1)), (by first | rfl | (simp; done) | (simp [*]; done)), H', ⟨by have := HJ5.out; have := HK2.out; have := HK3.out; have := HK4.out; omega⟩, ⟨by repeat (first | (with_reducible first | exact HB.out | apply below_alloc | apply pw_below_drewN | apply below_drew1) | exact HB.out)⟩⟩
                                        · rw [if_neg c28] at H
                                          exact absurd H (by simp)
                                      · rw [if_neg c27] at H
                                        exact absurd H (by simp)
                                  · rw [if_neg c25] at H
                                    exact absurd H (by simp)
                                · rw [if_neg c24] at H
                                  exact absurd H (by simp)
                              · rw [if_neg c23] at H
                                have c23b0 : decide (x69_4 < (l3.length : Int)) = false := decide_eq_false c23
                                clear c23
                                have H' := Aside0.mk H
                                clear H
                                go_wp2
                                repeat (go_quiet (fail); try go_wp2)
                                go_roundg k4
                                case measure => have := HJ5.out; have := HK2.out; have := HK3.out; have := HK4.out; omega
                                case rel => exact ⟨(wrap64 (x62_3 + 1)), (by first | rfl | (simp; done) | (simp [*]; done)), H', ⟨by have := HJ5.out; have := HK2.out; have := HK3.out; have := HK4.out; omega⟩, ⟨by repeat (first | (with_reducible first | exact HB.out | apply below_alloc | apply pw_below_drewN | apply below_drew1) | exact HB.out)⟩⟩
                        · rw [if_neg c22] at H
                          exact absurd H (by simp)
                      · rw [if_neg c21] at H
                        exact absurd H (by simp)
                    · rw [if_neg c20] at H
                      have c20b0 : decide (x62_3 < (l3.length : Int)) = false := decide_eq_false c20
                      clear c20
                      obtain rfl := Option.some.inj H
                      go_wp2
                      repeat (go_quiet (fail); try go_wp2)
                      go_ret
                      exact ⟨by first | rfl | (simp [errW_none, errW_some] <;> rfl) | (simp [*, errW_none, errW_some] <;> rfl), by repeat (first | (with_reducible first | exact HB.out | apply below_alloc | apply pw_below_drewN | apply below_drew1) | exact HB.out)⟩
              · rw [if_neg c19] at H
                have c19b0 : (x9_2 == 0) = false := beq_eq_false_iff_ne.mpr c19
                have c19b1 : (x9_2 != 0) = true := bne_iff_ne.mpr c19
                obtain rfl := Option.some.inj H
                go_wp2
                repeat (go_quiet (fail); try go_wp2)
                go_ret
                exact ⟨by first | rfl | (simp [errW_none, errW_some] <;> rfl) | (simp [*, errW_none, errW_some] <;> rfl), by repeat (first | (with_reducible first | exact HB.out | apply below_alloc | apply pw_below_drewN | apply below_drew1) | exact HB.out)⟩

end Go.Proofs.Yteilcchcekmooaa.G

/- PFairI -/
/-
  FairOk of the program answers what is fair.
-/
namespace Go.Proofs.Yteilcchcekmooaa.G
open Go.RowKit Go.Sort Go.Proofs.YteilcchcekmooaaW.PrintWords Go.Proofs.YteilcchcekmooaaW.PrintLast Go.Proofs.YteilcchcekmooaaW.PrintMore
set_option linter.unusedVariables false
set_option linter.unusedSimpArgs false
section
variable {n : Int} {ws cs sh : List Int}
theorem fair_l2 (h : ShOk n ws cs) (hlen : sh.length = ws.length) (hok : ∀ j, j < ws.length → okI ws cs sh j) {i : Nat} (hi : i < ws.length) (r : Bool) (hr : Ev (fun k => impl_FairOk.l1 k ws cs sh sh (sh.length : Int) ((i + 1 : Nat) : Int)) r) :
    Ev (fun k => impl_FairOk.l2 k ws cs sh (i : Int) (rd sh (i : Int)) sh (sh.length : Int) (i : Int) sh (sh.length : Int) 0) (if allN ws.length (fun k => !badB ws cs sh i k) = true then r else false) := by
  have hl1 := h.l1
  have hl2 := h.l2
  have wi := h.w i hi
  have ci := h.c i hi
  have oi := (hok i hi).1
  have key : ∀ d j, j + d = ws.length → (∀ k, k < j → badB ws cs sh i k = false) → Ev (fun k => impl_FairOk.l2 k ws cs sh (i : Int) (rd sh (i : Int)) sh (sh.length : Int) (i : Int) sh (sh.length : Int) (j : Int)) (if allN ws.length (fun k => !badB ws cs sh i k) = true then r else false) := by
    intro d
    induction d with
    | zero =>
      intro j hj hb
      obtain rfl : j = ws.length := by omega
      have : allN ws.length (fun k => !badB ws cs sh i k) = true := allN_true.2 (fun k hk => by rw [hb k hk]; rfl)
      rw [if_pos this]
      refine Ev.step (fun k => by rw [impl_FairOk.l2]) (ev_if_neg (by omega) ?_)
      simp only [wsucc hi (by omega)]
      exact hr
    | succ d ih =>
      intro j hj hb
      have hjN : j < ws.length := by omega
      have wj := h.w j hjN
      have cj := h.c j hjN
      have oj := (hok j hjN).1
      unfold ix at oi oj
      have go : badB ws cs sh i j = false → Ev (fun k => impl_FairOk.l2 k ws cs sh (i : Int) (rd sh (i : Int)) sh (sh.length : Int) (i : Int) sh (sh.length : Int) ((j + 1 : Nat) : Int)) (if allN ws.length (fun k => !badB ws cs sh i k) = true then r else false) := fun hbj =>
        ih (j + 1) (by omega) (fun k hk => by
          by_cases e : k = j
          · subst e; exact hbj
          · exact hb k (by omega))
      have no : ¬ badI ws cs sh i j → badB ws cs sh i j = false := fun hn => by
        cases hbb : badB ws cs sh i j with
        | false => rfl
        | true => exact absurd (badB_iff.1 hbb) hn
      refine Ev.step (fun k => by rw [impl_FairOk.l2]) (ev_if_pos (by omega) (ev_if_pos (by omega) (ev_if_pos (by omega) ?_)))
      simp only [wsucc hjN (by omega)]
      by_cases q1 : (i : Int) = (j : Int)
      · exact ev_if_pos q1 (go (no (fun hh => hh.1 (by omega))))
      refine ev_if_neg q1 (ev_if_pos (by omega) (ev_if_pos (by omega) ?_))
      by_cases q2 : rd ws (i : Int) > 0
      · refine ev_if_pos q2 (ev_if_pos (by omega) ?_)
        by_cases q3 : rd ws (j : Int) > 0
        · refine ev_if_pos q3 (ev_if_pos (by omega) ?_)
          by_cases q4 : rd sh (i : Int) < rd cs (i : Int)
          · refine ev_if_pos q4 ?_
            have m1 := mul_small (a := rd sh (i : Int) + 1) (b := rd ws (j : Int)) (by omega) (by omega) (by omega) (by omega)
            have m2 := mul_small' (a := rd sh (j : Int) - 1) (b := rd ws (i : Int)) (by omega) (by omega) (by omega) (by omega)
            have e1 : wrap64 (rd sh (i : Int) + 1) = rd sh (i : Int) + 1 := w64 (by omega) (by omega)
            have e2 : wrap64 (rd sh (j : Int) - 1) = rd sh (j : Int) - 1 := w64 (by omega) (by omega)
            have e3 : wrap64 ((rd sh (i : Int) + 1) * rd ws (j : Int)) = (rd sh (i : Int) + 1) * rd ws (j : Int) := w64 (by omega) (by omega)
            have e4 : wrap64 ((rd sh (j : Int) - 1) * rd ws (i : Int)) = (rd sh (j : Int) - 1) * rd ws (i : Int) := w64 (by omega) (by omega)
            simp only [e1, e2, e3, e4]
            by_cases q6 : (rd sh (i : Int) + 1) * rd ws (j : Int) < (rd sh (j : Int) - 1) * rd ws (i : Int)
            · refine ev_if_pos q6 (ev_some ?_)
              have hbad : badI ws cs sh i j := ⟨by omega, q2, q3, q4, oj, q6⟩
              rw [if_neg (fun hh => by
                have := allN_true.1 hh j hjN
                rw [badB_iff.2 hbad] at this
                cases this)]
            · exact ev_if_neg q6 (go (no (fun hh => q6 hh.2.2.2.2.2)))
          · exact ev_if_neg q4 (go (no (fun hh => q4 hh.2.2.2.1)))
        · exact ev_if_neg q3 (go (no (fun hh => q3 hh.2.2.1)))
      · exact ev_if_neg q2 (go (no (fun hh => q2 hh.2.1)))
  exact key ws.length 0 (by omega) (by omega)
theorem fair_l1 (h : ShOk n ws cs) (hlen : sh.length = ws.length) (hok : ∀ j, j < ws.length → okI ws cs sh j) :
    Ev (fun k => impl_FairOk.l1 k ws cs sh sh (sh.length : Int) 0) (allN ws.length (fun i => allN ws.length (fun k => !badB ws cs sh i k))) := by
  have h0 := loop_all (g := fun k i => impl_FairOk.l1 k ws cs sh sh (sh.length : Int) i) ws.length (fun i => allN ws.length (fun k => !badB ws cs sh i k)) true (fun i hi hc r hr => by
    have h2 := fair_l2 h hlen hok hi r hr
    rw [if_pos hc] at h2
    exact Ev.step (fun k => by rw [impl_FairOk.l1]) (ev_if_pos (by omega) (ev_if_pos (by omega) (ev_if_pos (by omega) h2)))) (fun i hi hc => by
    have hl1 := h.l1
    -- what follows doesn't matter: some answer is there
    have h2 : ∀ r, Ev (fun k => impl_FairOk.l1 k ws cs sh sh (sh.length : Int) ((i + 1 : Nat) : Int)) r → Ev (fun k => impl_FairOk.l1 k ws cs sh sh (sh.length : Int) (i : Int)) false := fun r hr => by
      have h3 := fair_l2 h hlen hok hi r hr
      rw [if_neg (by rw [hc]; simp)] at h3
      exact Ev.step (fun k => by rw [impl_FairOk.l1]) (ev_if_pos (by omega) (ev_if_pos (by omega) (ev_if_pos (by omega) h3)))
    have all : ∀ d j, j + d = ws.length → ∃ r, Ev (fun k => impl_FairOk.l1 k ws cs sh sh (sh.length : Int) (j : Int)) r := by
      intro d
      induction d with
      | zero =>
        intro j hj
        exact ⟨true, Ev.step (fun k => by rw [impl_FairOk.l1]) (ev_if_neg (by omega) (ev_some rfl))⟩
      | succ d ih =>
        intro j hj
        obtain ⟨r, hr⟩ := ih (j + 1) (by omega)
        exact ⟨_, Ev.step (fun k => by rw [impl_FairOk.l1]) (ev_if_pos (by omega) (ev_if_pos (by omega) (ev_if_pos (by omega) (fair_l2 h hlen hok (show j < ws.length by omega) r hr))))⟩
    obtain ⟨r, hr⟩ := all (ws.length - (i + 1)) (i + 1) (by omega)
    exact h2 r hr) (Ev.step (fun k => by rw [impl_FairOk.l1]) (ev_if_neg (by omega) (ev_some rfl)))
  rw [Bool.and_true] at h0
  exact h0
theorem implFair_ev (n : Int) (ws cs sh : List Int) : Ev (fun k => impl_FairOk.f k n ws cs sh) (fairB n ws cs sh) := by
  unfold impl_FairOk.f
  refine Ev.bind (implTotal_ev n ws cs) ?_
  unfold fairB
  cases hs : shOk n ws cs with
  | false =>
    have e : totI n ws cs = -1 := by unfold totI; rw [if_neg (by rw [hs]; simp)]
    rw [e, Bool.false_and]
    exact ev_if_pos (by omega) (Ev.step (fun k => by rw [impl_FairOk.j0]) (ev_if_pos rfl (ev_some rfl)))
  | true =>
    have h := shOk_iff.1 hs
    have hl1 := h.l1
    have hl2 := h.l2
    have hcb := capF_bound h ws.length (Nat.le_refl _)
    have hn0 := h.n0
    have hn1 := h.n1
    have ht : 0 ≤ totI n ws cs ∧ totI n ws cs ≤ 10000 := by unfold totI; rw [if_pos hs]; split <;> omega
    rw [Bool.true_and]
    refine ev_if_neg (by omega) ?_
    by_cases hlen : sh.length = ws.length
    · rw [decide_eq_true hlen, Bool.true_and, show ((sh.length : Int) != (ws.length : Int)) = false by rw [hlen]; simp]
      refine Ev.step (fun k => by rw [impl_FairOk.j0]) (ev_if_neg (by simp) ?_)
      unfold fairR
      have hC : ∀ i, i < ws.length → 0 ≤ ix cs i ∧ ix cs i ≤ 10000 := h.c
      have key : ∀ d i, i + d = ws.length → (∀ j, j < i → okB ws cs sh j = true) → Ev (fun k => impl_FairOk.l0 k ws cs sh (totI n ws cs - sumTo sh i) sh (sh.length : Int) (i : Int)) (allN ws.length (okB ws cs sh) && (decide (sumTo sh ws.length = totI n ws cs) && allN ws.length (fun i => allN ws.length (fun k => !badB ws cs sh i k)))) := by
        intro d
        induction d with
        | zero =>
          intro i hi hok
          obtain rfl : i = ws.length := by omega
          rw [allN_true.2 hok, Bool.true_and]
          refine Ev.step (fun k => by rw [impl_FairOk.l0]) (ev_if_neg (by omega) ?_)
          by_cases c : sumTo sh ws.length = totI n ws cs
          · rw [decide_eq_true c, Bool.true_and]
            exact ev_if_pos (by omega) (fair_l1 h hlen (fun j hj => okB_iff.1 (hok j hj)))
          · rw [decide_eq_false c, Bool.false_and]
            exact ev_if_neg (by omega) (ev_some rfl)
        | succ d ih =>
          intro i hi hok
          have hiN : i < ws.length := by omega
          have hsb := sumTo_bound hC i (by omega) (fun j hj => okB_iff.1 (hok j hj))
          have fail : okB ws cs sh i = false → (allN ws.length (okB ws cs sh) && (decide (sumTo sh ws.length = totI n ws cs) && allN ws.length (fun i => allN ws.length (fun k => !badB ws cs sh i k)))) = false := fun hf => by
            have : allN ws.length (okB ws cs sh) = false := by
              rw [← Bool.not_eq_true, allN_true]
              intro hh
              rw [hh i hiN] at hf
              cases hf
            rw [this, Bool.false_and]
          have no : ¬ okI ws cs sh i → okB ws cs sh i = false := fun hn => by
            cases hb : okB ws cs sh i with
            | false => rfl
            | true => exact absurd (okB_iff.1 hb) hn
          have ci := h.c i hiN
          have go : okI ws cs sh i → Ev (fun k => impl_FairOk.l0 k ws cs sh (wrap64 (totI n ws cs - sumTo sh i - rd sh (i : Int))) sh (sh.length : Int) ((i + 1 : Nat) : Int)) (allN ws.length (okB ws cs sh) && (decide (sumTo sh ws.length = totI n ws cs) && allN ws.length (fun i => allN ws.length (fun k => !badB ws cs sh i k)))) := fun hoi => by
            have ih := ih (i + 1) (by omega) (fun j hj => by
              by_cases e : j = i
              · subst e; exact okB_iff.2 hoi
              · exact hok j (by omega))
            have ho := hoi.1
            unfold ix at ho
            rw [sumTo] at ih
            unfold ix at ih
            rw [w64 (by omega) (by omega), show totI n ws cs - sumTo sh i - rd sh (i : Int) = totI n ws cs - (sumTo sh i + rd sh (i : Int)) by omega]
            exact ih
          refine Ev.step (fun k => by rw [impl_FairOk.l0]) (ev_if_pos (by omega) (ev_if_pos (by omega) (ev_if_pos (by omega) (ev_if_pos (by omega) ?_))))
          simp only [within_eq, Option.bind_some, wsucc hiN (by omega)]
          by_cases c1 : (decide (0 ≤ rd sh (i : Int)) && decide (rd sh (i : Int) ≤ rd cs (i : Int))) = true
          · have c1' : 0 ≤ rd sh (i : Int) ∧ rd sh (i : Int) ≤ rd cs (i : Int) := by simpa using c1
            refine ev_if_pos c1 (ev_if_pos (by omega) ?_)
            by_cases c2 : rd ws (i : Int) = 0
            · refine ev_if_pos c2 ?_
              by_cases c3 : rd sh (i : Int) = 0
              · exact ev_if_pos c3 (go ⟨c1', fun hh => by have := hh.2; unfold ix at this; omega⟩)
              · exact ev_if_neg c3 (ev_some (fail (no (fun hh => hh.2 ⟨c2, by unfold ix; omega⟩))).symm)
            · exact ev_if_neg c2 (go ⟨c1', fun hh => c2 hh.1⟩)
          · exact ev_if_neg c1 (ev_some (fail (no (fun hh => c1 (by have := hh.1; unfold ix at this; simp; omega)))).symm)
      have h0 := key ws.length 0 (by omega) (by omega)
      simpa [sumTo] using h0
    · rw [decide_eq_false hlen, Bool.false_and, show ((sh.length : Int) != (ws.length : Int)) = true by simp; omega]
      exact Ev.step (fun k => by rw [impl_FairOk.j0]) (ev_if_pos rfl (ev_some rfl))
end
end Go.Proofs.Yteilcchcekmooaa.G
