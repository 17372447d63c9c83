import Derived.Test.YtpjpnppoejnafaaMFnExactNever1
import Derived.Test.YtpjpnppoejnafaaMFnExactNever4
import Derived.Test.YtpjpnppoejnafaaMFnExactNever3
import Derived.Test.YtpjpnppoejnafaaMFnExactNever5
/- G61 -/
-- Laid by wip/g/gprint.py out of the translation, by the kit's print program. Lean checks it.
namespace Go.Proofs.Ytpjpnppoejnafaa.G
open Go.RowKit Go.Proofs.YtpjpnppoejnafaaW.PrintWords Go.Proofs.YtpjpnppoejnafaaW.PrintLast Go.Proofs.YtpjpnppoejnafaaW.PrintMore
attribute [local go_sem] max2_int min2_int max_two min_two max_three min_three max_four min_four   -- for this text's walks alone
set_option linter.unusedVariables false
set_option linter.unusedSimpArgs false

/-! ### spec_l2Alone: function 61 -/
mutual
def spec_l2Alone.l0 : Nat → List (S52) → ByteArray → List ByteArray → Int → Option (Bool)
  | 0, _, _, _, _ => none
  | k + 1, x0, x1, x5, x6 => if x6 < 60 then (if x5.length < 8796093022208 then (spec_l2Alone.l0 k x0 x1 (x5 ++ [strOfNums (([122, (wrap64 (48 + (wrap64 (Int.tdiv x6 10)))) % 256, (wrap64 (48 + (Int.tmod x6 10))) % 256] : List Int))]) (wrap64 (x6 + 1))) else (none)) else (spec_l2Alone.l1 k x0 x1 x5 0)
def spec_l2Alone.l1 : Nat → List (S52) → ByteArray → List ByteArray → Int → Option (Bool)
  | 0, _, _, _, _ => none
  | k + 1, x0, x1, x5, x7 => if x7 < (x0.length : Int) then (if 0 ≤ x7 then (if ((rd_T52 x0 x7).f1).toList = x1.toList then (if x5.length + ((rd_T52 x0 x7).f2).length < 8796093022208 then (spec_l2Alone.l1 k x0 x1 (x5 ++ ((rd_T52 x0 x7).f2)) (wrap64 (x7 + 1))) else (none)) else (spec_l2Alone.l1 k x0 x1 x5 (wrap64 (x7 + 1)))) else (none)) else (spec_l2Alone.l2 k x0 x1 x5 (-1))
def spec_l2Alone.l2 : Nat → List (S52) → ByteArray → List ByteArray → Int → Option (Bool)
  | 0, _, _, _, _ => none
  | k + 1, x0, x1, x5, x8 => if x8 < (x5.length : Int) then (spec_l2Alone.l3 k x0 x1 x5 x8 true 0) else (some true)
def spec_l2Alone.l3 : Nat → List (S52) → ByteArray → List ByteArray → Int → Bool → Int → Option (Bool)
  | 0, _, _, _, _, _, _ => none
  | k + 1, x0, x1, x5, x8, x9, x10 => if x10 < (x0.length : Int) then (if x8 ≥ 0 then (if 0 ≤ x8 then (if x8 < (x5.length : Int) then (if x9 = true then (if 0 ≤ x10 then (if ((rd_T52 x0 x10).f1).toList = x1.toList then ((spec_l2Holds.f k ((rd_T52 x0 x10).f0) ((rd_T52 x0 x10).f1) ((rd_T52 x0 x10).f2) (rdOf ByteArray.empty x5 x8) (decide (x8 ≥ 0))).bind fun t431 => (spec_l2Alone.l3 k x0 x1 x5 x8 t431 (wrap64 (x10 + 1)))) else (spec_l2Alone.l3 k x0 x1 x5 x8 true (wrap64 (x10 + 1)))) else (none)) else (spec_l2Alone.l3 k x0 x1 x5 x8 false (wrap64 (x10 + 1)))) else (none)) else (none)) else (if x9 = true then (if 0 ≤ x10 then (if ((rd_T52 x0 x10).f1).toList = x1.toList then ((spec_l2Holds.f k ((rd_T52 x0 x10).f0) ((rd_T52 x0 x10).f1) ((rd_T52 x0 x10).f2) (⟨#[]⟩ : ByteArray) (decide (x8 ≥ 0))).bind fun t434 => (spec_l2Alone.l3 k x0 x1 x5 x8 t434 (wrap64 (x10 + 1)))) else (spec_l2Alone.l3 k x0 x1 x5 x8 true (wrap64 (x10 + 1)))) else (none)) else (spec_l2Alone.l3 k x0 x1 x5 x8 false (wrap64 (x10 + 1))))) else (if x9 = true then (some false) else (spec_l2Alone.l2 k x0 x1 x5 (wrap64 (x8 + 1))))
end
def spec_l2Alone.f (k : Nat) (l0 : List (S52)) (a1 : ByteArray) : Option (Bool) := spec_l2Alone.l0 k l0 a1 (([] : List ByteArray)) 0
set_option maxHeartbeats 8000000 in
set_option maxRecDepth 100000 in
theorem spec_l2Alone.calls (k : Nat) (A0 : Option Addr) (c0 : Nat) (l0 : List (S52)) (a1 : ByteArray) (r : Bool) (w : World) (hr0 : Kd.C k52 w A0 l0.length l0) (hc0 : l0.length ≤ c0) (h : spec_l2Alone.f k l0 a1 = some r) :
    Calls Try.prog 61 #[.slice A0 l0.length c0, .string a1] w fun e w' => e = .returned (.bool r) ∧ Below w.heap.size w w' := by
  have hu52 := Try.underlying52
  have HR0 := Aside0.mk hr0
  have HC0 := Aside0.mk hc0
  clear hr0 hc0
  have HB := Aside0.mk (Below.refl w.heap.size w)
  have H : (spec_l2Alone.l0 k l0 a1 (([] : List ByteArray)) 0) = some r := h
  clear h
  obtain ⟨y414, hy414⟩ : ∃ y_ : List ByteArray, y_ = (([] : List ByteArray)) := ⟨_, rfl⟩
  replace H : (spec_l2Alone.l0 k l0 a1 y414 0) = some r := by first | (rw [hy414]; with_reducible exact H) | (have H2_ := (Option.bind_some _ _).symm.trans H; rw [hy414]; with_reducible exact H2_) | (have H2_ := (Option.bind_some _ _).symm.trans H; with_reducible exact H2_) | with_reducible exact H | (rw [hy414]; exact H) | exact H
  have Ny414 := Aside0.mk hy414
  clear hy414
  have H' := Aside0.mk H
  clear H
  go_enter Try.func61, Try.ntmps61
  go_wp2_with (first | ((with_reducible refine gate_dst (N := 12) rfl ?_); refine Kd.R_lit Kd.string _ 9 ?hg (N := 12) ?hd (xs := ([] : List ByteArray)) (inner := []) (ok := fun _ => True) (okp := fun _ => True) ?hr ?hp (fun _ hk => hk) trivial (Below.refl _ _) (Nat.le_refl _) (by simp) ?_; (case hd => rfl); (case hg => rfl); (case hr => first | (go_simp; done) | (go_simp; rfl)); (case hp => exact (Reps.none _ _)); intro v415 w3 ho4 hb hg_ hnew_; clear hg_ hnew_; (first | rw [← Ny414.out] at ho4 | (simp only [Int.reduceToNat] at ho4; rw [← Ny414.out] at ho4)); have n0_ := Aside0.mk (Kd.R_lower ho4 (below_size (by repeat (first | (with_reducible first | exact HB.out | apply below_alloc | apply pw_below_drewN | apply below_drew1) | exact HB.out)))); have n1_ := Aside0.mk (below_step (by repeat (first | (with_reducible first | exact HB.out | apply below_alloc | apply pw_below_drewN | apply below_drew1) | exact HB.out)) hb); clear HB; have HO416 := n0_; have HB := n1_; clear n0_ n1_; clear hb ho4))
  go_loopg [5, 6] k (fun kq v5 v6 w' => ∃ (x5_1 : List ByteArray) (x6_1 : Int), v6 = .int .i64 x6_1 ∧ Aside0 (spec_l2Alone.l0 kq l0 a1 x5_1 x6_1 = some r) ∧ Aside0 (kq ≤ k) ∧ Aside0 (Kd.R Kd.string 9 w' w.heap.size (fun _ => True) v5 x5_1) ∧ Aside0 (Below w.heap.size w w'))
  case atStart => exact ⟨(y414), (0), (by first | rfl | (simp; done) | (simp [*]; done)), H', ⟨Nat.le_refl _⟩, ⟨by (with_reducible repeat (first | apply Kd.R_alloc | apply Kd.R_drewN | apply Kd.R_drew)); exact HO416.out⟩, ⟨by repeat (first | (with_reducible first | exact HB.out | apply below_alloc | apply pw_below_drewN | apply below_drew1) | exact HB.out)⟩⟩
  case round =>
    clear H'
    try clear p2
    obtain ⟨x5_1, x6_1, rfl, HA, HK1, HO_5, HB⟩ := hrel
    cases gk with
    | zero => exact absurd HA.out (by simp [spec_l2Alone.l0])
    | succ k1 =>
      have H := HA.out
      clear HA
      simp only [spec_l2Alone.l0] at H
      by_cases c5 : x6_1 < 60
      · rw [if_pos c5] at H
        have c5b0 : decide (x6_1 < 60) = true := decide_eq_true c5
        clear c5
        obtain ⟨y417, hy417⟩ : ∃ y_ : List Int, y_ = (([122, (wrap64 (48 + (wrap64 (Int.tdiv x6_1 10)))) % 256, (wrap64 (48 + (Int.tmod x6_1 10))) % 256] : List Int)) := ⟨_, rfl⟩
        replace H : (if x5_1.length < 8796093022208 then (spec_l2Alone.l0 k1 l0 a1 (x5_1 ++ [strOfNums y417]) (wrap64 (x6_1 + 1))) else (none)) = some r := by first | (rw [hy417]; with_reducible exact H) | (have H2_ := (Option.bind_some _ _).symm.trans H; rw [hy417]; with_reducible exact H2_) | (have H2_ := (Option.bind_some _ _).symm.trans H; with_reducible exact H2_) | with_reducible exact H | (rw [hy417]; exact H) | exact H
        have Ny417 := Aside0.mk hy417
        clear hy417
        by_cases c6 : x5_1.length < 8796093022208
        · rw [if_pos c6] at H
          have LMc6 := Aside0.mk c6
          clear c6
          obtain ⟨y420, hy420⟩ : ∃ y_ : List ByteArray, y_ = (x5_1 ++ [strOfNums y417]) := ⟨_, rfl⟩
          replace H : (spec_l2Alone.l0 k1 l0 a1 y420 (wrap64 (x6_1 + 1))) = some r := by first | (rw [hy420]; with_reducible exact H) | (have H2_ := (Option.bind_some _ _).symm.trans H; rw [hy420]; with_reducible exact H2_) | (have H2_ := (Option.bind_some _ _).symm.trans H; with_reducible exact H2_) | with_reducible exact H | (rw [hy420]; exact H) | exact H
          have Ny420 := Aside0.mk hy420
          clear hy420
          have H' := Aside0.mk H
          clear H
          go_wp2_with (first | ((with_reducible refine gate_dst (N := 26) rfl ?_); refine Kd.R_lit (Kd.int .u8) _ 5 ?hg (N := 26) ?hd (xs := ([122, (wrap64 (48 + (wrap64 (Int.tdiv x6_1 10)))) % 256, (wrap64 (48 + (Int.tmod x6_1 10))) % 256] : List Int)) (inner := [.int .u8 122, .int .u8 ((wrap64 (48 + (wrap64 (Int.tdiv x6_1 10)))) % 256), .int .u8 ((wrap64 (48 + (Int.tmod x6_1 10))) % 256)]) (ok := fun _ => True) (okp := fun _ => True) ?hr ?hp (fun _ hk => hk) trivial (Below.refl _ _) (Nat.le_refl _) (by simp) ?_; (case hd => rfl); (case hg => rfl); (case hr => first | (go_simp; done) | (go_simp; rfl)); (case hp => exact (Reps.one (show Kd.M (Kd.int .u8) _ _ _ 122 [.int .u8 122] from rfl) (Reps.one (show Kd.M (Kd.int .u8) _ _ _ ((wrap64 (48 + (wrap64 (Int.tdiv x6_1 10)))) % 256) [.int .u8 ((wrap64 (48 + (wrap64 (Int.tdiv x6_1 10)))) % 256)] from rfl) (Reps.one (show Kd.M (Kd.int .u8) _ _ _ ((wrap64 (48 + (Int.tmod x6_1 10))) % 256) [.int .u8 ((wrap64 (48 + (Int.tmod x6_1 10))) % 256)] from rfl) (Reps.none _ _))))); intro v418 w7 ho8 hb hg_ hnew_; clear hg_ hnew_; (first | rw [← Ny417.out] at ho8 | (simp only [Int.reduceToNat] at ho8; rw [← Ny417.out] at ho8)); have n0_ := Aside0.mk (Kd.R_below (by (with_reducible repeat (first | apply Kd.R_alloc | apply Kd.R_drewN | apply Kd.R_drew)); exact HO_5.out) hb); have n1_ := Aside0.mk (Kd.R_lower ho8 (below_size (by repeat (first | (with_reducible first | exact HB.out | apply below_alloc | apply pw_below_drewN | apply below_drew1) | exact HB.out)))); have n2_ := Aside0.mk (below_step (by repeat (first | (with_reducible first | exact HB.out | apply below_alloc | apply pw_below_drewN | apply below_drew1) | exact HB.out)) hb); clear HO_5; clear HB; have HO_5 := n0_; have HO419 := n1_; have HB := n2_; clear n0_ n1_ n2_; clear hb ho8; have hcv9 := own_string (P := Try.prog) Try.underlying45 Try.underlying5 Try.underlying9 (Kd.own_of_R HO419.out)) | ((with_reducible refine gate_builtin (b := .append) (xs := #[.tmp 17, .tmp 28]) rfl ?_); at_builtin; refine Kd.R_append Kd.string (w0 := w) w.heap.size rfl (.tmp 17) (.tmp 28) 50 9 (.string ⟨#[]⟩) 16 rfl Try.underlying50 info9 rfl (by decide) (by omega) u5 x5_1 (strOfNums y417) [.string (strOfNums y417)] (fun _ => True) (fun _ => False) rfl rfl ?aP (fun _ hk => hk.elim) ?aF ?aO ?aB ?aS ?aL ?_; (case aP => exact rfl); (case aB => exact (by repeat (first | (with_reducible first | exact HB.out | apply below_alloc | apply pw_below_drewN | apply below_drew1) | exact HB.out))); (case aF => exact (fun _ _ => trivial)); (case aO => exact (by (with_reducible repeat (first | apply Kd.R_alloc | apply Kd.R_drewN | apply Kd.R_drew)); exact HO_5.out)); (case aS => exact (below_size (by repeat (first | (with_reducible first | exact HB.out | apply below_alloc | apply pw_below_drewN | apply below_drew1) | exact HB.out)))); (case aL => have := LMc6.out; omega); intro v421 w10 ho hb hg hat; rw [← Ny420.out] at ho; have n0_ := Aside0.mk (Kd.R_over' (by (with_reducible repeat (first | apply Kd.R_alloc | apply Kd.R_drewN | apply Kd.R_drew)); exact HO419.out) (Kd.R_typed (by (with_reducible repeat (first | apply Kd.R_alloc | apply Kd.R_drewN | apply Kd.R_drew)); exact HO_5.out)) (by decide) hg); have n1_ := Aside0.mk (hb); have n2_ := Aside0.mk (ho); clear HO419; clear HB; clear HO_5; have HO419 := n0_; have HB := n1_; have HO422 := n2_; clear n0_ n1_ n2_; clear ho hb hg hat))
          go_roundg k1
          case measure => have := HK1.out; omega
          case rel => exact ⟨(y420), (wrap64 (x6_1 + 1)), (by first | rfl | (simp; done) | (simp [*]; done)), H', ⟨by have := HK1.out; omega⟩, ⟨by (with_reducible repeat (first | apply Kd.R_alloc | apply Kd.R_drewN | apply Kd.R_drew)); exact HO422.out⟩, ⟨by repeat (first | (with_reducible first | exact HB.out | apply below_alloc | apply pw_below_drewN | apply below_drew1) | exact HB.out)⟩⟩
        · rw [if_neg c6] at H
          exact absurd H (by simp)
      · rw [if_neg c5] at H
        have c5b0 : decide (x6_1 < 60) = false := decide_eq_false c5
        clear c5
        have H' := Aside0.mk H
        clear H
        go_wp2
        go_loopg [5, 7] k1 (fun kq v5 v7 w' => ∃ (x5_2 : List ByteArray) (x7_2 : Int), v7 = .int .i64 x7_2 ∧ Aside0 (spec_l2Alone.l1 kq l0 a1 x5_2 x7_2 = some r) ∧ Aside0 (kq ≤ k1) ∧ Aside0 (Kd.R Kd.string 9 w' w.heap.size (fun _ => True) v5 x5_2) ∧ Aside0 (Below w.heap.size w w'))
        case atStart => exact ⟨(x5_1), (0), (by first | rfl | (simp; done) | (simp [*]; done)), H', ⟨Nat.le_refl _⟩, ⟨by (with_reducible repeat (first | apply Kd.R_alloc | apply Kd.R_drewN | apply Kd.R_drew)); exact HO_5.out⟩, ⟨by repeat (first | (with_reducible first | exact HB.out | apply below_alloc | apply pw_below_drewN | apply below_drew1) | exact HB.out)⟩⟩
        case round =>
          clear H'
          try clear p2
          try clear c5
          try clear c5b0
          try clear c6
          try clear p6
          try clear hcv9
          try clear p2
          obtain ⟨x5_2, x7_2, rfl, HA, HK2, HO_5, HB⟩ := hrel
          cases gk with
          | zero => exact absurd HA.out (by simp [spec_l2Alone.l1])
          | succ k2 =>
            have H := HA.out
            clear HA
            simp only [spec_l2Alone.l1] at H
            by_cases c11 : x7_2 < (l0.length : Int)
            · rw [if_pos c11] at H
              have c11b0 : decide (x7_2 < (l0.length : Int)) = true := decide_eq_true c11
              clear c11
              by_cases c12 : 0 ≤ x7_2
              · rw [if_pos c12] at H
                have c12b0 : decide (0 ≤ x7_2) = true := decide_eq_true c12
                clear c12
                by_cases c13 : ((rd_T52 l0 x7_2).f1).toList = a1.toList
                · rw [if_pos c13] at H
                  have c13b0 : (((rd_T52 l0 x7_2).f1).toList == a1.toList) = true := beq_iff_eq.mpr c13
                  have c13b1 : (((rd_T52 l0 x7_2).f1).toList != a1.toList) = false := bne_eq_false_iff_eq.mpr c13
                  clear c13
                  by_cases c14 : x5_2.length + ((rd_T52 l0 x7_2).f2).length < 8796093022208
                  · rw [if_pos c14] at H
                    have LMc14 := Aside0.mk c14
                    clear c14
                    obtain ⟨y425, hy425⟩ : ∃ y_ : List ByteArray, y_ = (x5_2 ++ ((rd_T52 l0 x7_2).f2)) := ⟨_, rfl⟩
                    replace H : (spec_l2Alone.l1 k2 l0 a1 y425 (wrap64 (x7_2 + 1))) = some r := by first | (rw [hy425]; with_reducible exact H) | (have H2_ := (Option.bind_some _ _).symm.trans H; rw [hy425]; with_reducible exact H2_) | (have H2_ := (Option.bind_some _ _).symm.trans H; with_reducible exact H2_) | with_reducible exact H | (rw [hy425]; exact H) | exact H
                    have Ny425 := Aside0.mk hy425
                    clear hy425
                    have H' := Aside0.mk H
                    clear H
                    have p423 : 0 ≤ (x7_2 : Int) := of_decide_eq_true (by first | (with_reducible assumption) | assumption)
                    have q423 : x7_2 < (l0.length : Int) := of_decide_eq_true (by first | (with_reducible assumption) | assumption)
                    obtain ⟨ad423, A423_2, c423_2, e423, hx423_0, hx423_1, hx423_2, hl423_2, hi423_2⟩ := at_T52 HR0.out x7_2 p423 q423
                    cases e423
                    replace hx423_0 := (HB.out.cell (World.block_lt_of_cell? w _ hx423_0)).trans hx423_0
                    replace hx423_1 := (HB.out.cell (World.block_lt_of_cell? w _ hx423_1)).trans hx423_1
                    replace hx423_2 := (HB.out.cell (World.block_lt_of_cell? w _ hx423_2)).trans hx423_2
                    have HR423_2 := Aside0.mk hi423_2
                    have HC423_2 := Aside0.mk hl423_2
                    clear hi423_2 hl423_2
                    replace p423 := eq_true p423
                    replace q423 := eq_true q423
                    have p424 : 0 ≤ (x7_2 : Int) := of_decide_eq_true (by first | (with_reducible assumption) | assumption)
                    have q424 : x7_2 < (l0.length : Int) := of_decide_eq_true (by first | (with_reducible assumption) | assumption)
                    obtain ⟨ad424, A424_2, c424_2, e424, hx424_0, hx424_1, hx424_2, hl424_2, hi424_2⟩ := at_T52 HR0.out x7_2 p424 q424
                    obtain rfl : ad423 = ad424 := (by injection e424)
                    replace hx424_0 := (HB.out.cell (World.block_lt_of_cell? w _ hx424_0)).trans hx424_0
                    replace hx424_1 := (HB.out.cell (World.block_lt_of_cell? w _ hx424_1)).trans hx424_1
                    replace hx424_2 := (HB.out.cell (World.block_lt_of_cell? w _ hx424_2)).trans hx424_2
                    have HR424_2 := Aside0.mk hi424_2
                    have HC424_2 := Aside0.mk hl424_2
                    clear hi424_2 hl424_2
                    replace p424 := eq_true p424
                    replace q424 := eq_true q424
                    have ea_ := Option.some.inj (hx423_2.symm.trans hx424_2)
                    injection ea_ with ea_ en_ ec_
                    subst ea_
                    subst ec_
                    clear en_
                    go_wp2_with (first | ((with_reducible refine gate_builtin (b := .append) (xs := #[.tmp 43, .tmp 48]) rfl ?_); at_builtin; refine Kd.R_append_rows Kd.string (w0 := w) w.heap.size rfl (.tmp 43) (.tmp 48) 50 9 (.string ⟨#[]⟩) 16 rfl Try.underlying50 info9 rfl (by decide) (by omega) u5 x5_2 ((rd_T52 l0 x7_2).f2) _ _ _ (fun _ => True) (fun _ => False) rfl rfl ?aO ?aR (fun _ _ h => h) (fun _ h => h.elim) ?aF ?aB ?aS ?aL ?_; (case aR => repeat (first | exact (Kd.C_below HR424_2.out HB.out) | (with_reducible refine Kd.C_alloc ?_ _) | (with_reducible refine Kd.C_drewN ?_ _) | (with_reducible refine Kd.C_drew ?_))); (case aB => exact (by repeat (first | (with_reducible first | exact HB.out | apply below_alloc | apply pw_below_drewN | apply below_drew1) | exact HB.out))); (case aF => exact (fun _ _ => trivial)); (case aO => exact (by (with_reducible repeat (first | apply Kd.R_alloc | apply Kd.R_drewN | apply Kd.R_drew)); exact HO_5.out)); (case aS => exact (below_size (by repeat (first | (with_reducible first | exact HB.out | apply below_alloc | apply pw_below_drewN | apply below_drew1) | exact HB.out)))); (case aL => have := LMc14.out; omega); intro v426 w15 ho hb hg hat; rw [← Ny425.out] at ho; have n0_ := Aside0.mk (hb); have n1_ := Aside0.mk (ho); clear HB; clear HO_5; have HB := n0_; have HO427 := n1_; clear n0_ n1_; clear ho hb hg hat))
                    go_roundg k2
                    case measure => have := HK1.out; have := HK2.out; omega
                    case rel => exact ⟨(y425), (wrap64 (x7_2 + 1)), (by first | rfl | (simp; done) | (simp [*]; done)), H', ⟨by have := HK1.out; have := HK2.out; omega⟩, ⟨by (with_reducible repeat (first | apply Kd.R_alloc | apply Kd.R_drewN | apply Kd.R_drew)); exact HO427.out⟩, ⟨by repeat (first | (with_reducible first | exact HB.out | apply below_alloc | apply pw_below_drewN | apply below_drew1) | exact HB.out)⟩⟩
                  · rw [if_neg c14] at H
                    exact absurd H (by simp)
                · rw [if_neg c13] at H
                  have c13b0 : (((rd_T52 l0 x7_2).f1).toList == a1.toList) = false := beq_eq_false_iff_ne.mpr c13
                  have c13b1 : (((rd_T52 l0 x7_2).f1).toList != a1.toList) = true := bne_iff_ne.mpr c13
                  have H' := Aside0.mk H
                  clear H
                  have p423 : 0 ≤ (x7_2 : Int) := of_decide_eq_true (by first | (with_reducible assumption) | assumption)
                  have q423 : x7_2 < (l0.length : Int) := of_decide_eq_true (by first | (with_reducible assumption) | assumption)
                  obtain ⟨ad423, A423_2, c423_2, e423, hx423_0, hx423_1, hx423_2, hl423_2, hi423_2⟩ := at_T52 HR0.out x7_2 p423 q423
                  cases e423
                  replace hx423_0 := (HB.out.cell (World.block_lt_of_cell? w _ hx423_0)).trans hx423_0
                  replace hx423_1 := (HB.out.cell (World.block_lt_of_cell? w _ hx423_1)).trans hx423_1
                  replace hx423_2 := (HB.out.cell (World.block_lt_of_cell? w _ hx423_2)).trans hx423_2
                  have HR423_2 := Aside0.mk hi423_2
                  have HC423_2 := Aside0.mk hl423_2
                  clear hi423_2 hl423_2
                  replace p423 := eq_true p423
                  replace q423 := eq_true q423
                  go_wp2
                  go_roundg k2
                  case measure => have := HK1.out; have := HK2.out; omega
                  case rel => exact ⟨(x5_2), (wrap64 (x7_2 + 1)), (by first | rfl | (simp; done) | (simp [*]; done)), H', ⟨by have := HK1.out; have := HK2.out; omega⟩, ⟨by (with_reducible repeat (first | apply Kd.R_alloc | apply Kd.R_drewN | apply Kd.R_drew)); exact HO_5.out⟩, ⟨by repeat (first | (with_reducible first | exact HB.out | apply below_alloc | apply pw_below_drewN | apply below_drew1) | exact HB.out)⟩⟩
              · rw [if_neg c12] at H
                exact absurd H (by simp)
            · rw [if_neg c11] at H
              have c11b0 : decide (x7_2 < (l0.length : Int)) = false := decide_eq_false c11
              clear c11
              have H' := Aside0.mk H
              clear H
              go_wp2
              go_loopg [8] k2 (fun kq v8 w' => ∃ (x8_3 : Int), v8 = .int .i64 x8_3 ∧ Aside0 (spec_l2Alone.l2 kq l0 a1 x5_2 x8_3 = some r) ∧ Aside0 (kq ≤ k2) ∧ Aside0 (Kd.R Kd.string 9 w' w.heap.size (fun _ => True) u5 x5_2) ∧ Aside0 (Below w.heap.size w w'))
              case atStart => exact ⟨((-1)), (by first | rfl | (simp; done) | (simp [*]; done)), H', ⟨Nat.le_refl _⟩, ⟨by (with_reducible repeat (first | apply Kd.R_alloc | apply Kd.R_drewN | apply Kd.R_drew)); exact HO_5.out⟩, ⟨by repeat (first | (with_reducible first | exact HB.out | apply below_alloc | apply pw_below_drewN | apply below_drew1) | exact HB.out)⟩⟩
              case round =>
                clear H'
                try clear c1
                try clear p2
                try clear c4
                try clear p4
                try clear q4
                try clear hx4
                try clear c5
                try clear c5b0
                try clear c6
                try clear p6
                try clear hcv9
                try clear c11
                try clear c11b0
                try clear c12
                try clear c12b0
                try clear c13
                try clear c13b0
                try clear c13b1
                try clear c14
                try clear hx423_0
                try clear hx423_1
                try clear hx423_2
                try clear hx424_0
                try clear hx424_1
                try clear hx424_2
                try clear p2
                try clear p423
                try clear p424
                try clear p6
                try clear q423
                try clear q424
                obtain ⟨x8_3, rfl, HA, HK3, HO_5, HB⟩ := hrel
                cases gk with
                | zero => exact absurd HA.out (by simp [spec_l2Alone.l2])
                | succ k3 =>
                  have H := HA.out
                  clear HA
                  simp only [spec_l2Alone.l2] at H
                  by_cases c16 : x8_3 < (x5_2.length : Int)
                  · rw [if_pos c16] at H
                    have c16b0 : decide (x8_3 < (x5_2.length : Int)) = true := decide_eq_true c16
                    clear c16
                    have H' := Aside0.mk H
                    clear H
                    obtain ⟨Ao17, co17, eo17⟩ := Kd.R_slice HO_5.out
                    subst eo17
                    go_wp2
                    go_loopg [9, 10] k3 (fun kq v9 v10 w' => ∃ (x9_4 : Bool) (x10_4 : Int), v9 = .bool x9_4 ∧ v10 = .int .i64 x10_4 ∧ Aside0 (spec_l2Alone.l3 kq l0 a1 x5_2 x8_3 x9_4 x10_4 = some r) ∧ Aside0 (kq ≤ k3) ∧ Aside0 (Kd.R Kd.string 9 w' w.heap.size (fun _ => True) (.slice Ao17 x5_2.length co17) x5_2) ∧ Aside0 (Below w.heap.size w w'))
                    case atStart => exact ⟨(true), (0), (by first | rfl | (simp; done) | (simp [*]; done)), (by first | rfl | (simp; done) | (simp [*]; done)), H', ⟨Nat.le_refl _⟩, ⟨by (with_reducible repeat (first | apply Kd.R_alloc | apply Kd.R_drewN | apply Kd.R_drew)); exact HO_5.out⟩, ⟨by repeat (first | (with_reducible first | exact HB.out | apply below_alloc | apply pw_below_drewN | apply below_drew1) | exact HB.out)⟩⟩
                    case round =>
                      clear H'
                      try clear c1
                      try clear p2
                      try clear c4
                      try clear p4
                      try clear q4
                      try clear hx4
                      try clear c5
                      try clear c5b0
                      try clear c6
                      try clear p6
                      try clear hcv9
                      try clear c11
                      try clear c11b0
                      try clear c12
                      try clear c12b0
                      try clear c13
                      try clear c13b0
                      try clear c13b1
                      try clear c14
                      try clear c16
                      try clear c16b0
                      try clear hx423_0
                      try clear hx423_1
                      try clear hx423_2
                      try clear hx424_0
                      try clear hx424_1
                      try clear hx424_2
                      try clear p2
                      try clear p4
                      try clear p423
                      try clear p424
                      try clear p6
                      try clear q4
                      try clear q423
                      try clear q424
                      obtain ⟨x9_4, x10_4, rfl, rfl, HA, HK4, HO_5, HB⟩ := hrel
                      cases gk with
                      | zero => exact absurd HA.out (by simp [spec_l2Alone.l3])
                      | succ k4 =>
                        have H := HA.out
                        clear HA
                        simp only [spec_l2Alone.l3] at H
                        by_cases c18 : x10_4 < (l0.length : Int)
                        · rw [if_pos c18] at H
                          have c18b0 : decide (x10_4 < (l0.length : Int)) = true := decide_eq_true c18
                          clear c18
                          by_cases c19 : x8_3 ≥ 0
                          · rw [if_pos c19] at H
                            have c19b0 : decide (0 ≤ x8_3) = true := decide_eq_true c19
                            clear c19
                            by_cases c20 : 0 ≤ x8_3
                            · rw [if_pos c20] at H
                              have c20b0 : decide (0 ≤ x8_3) = true := decide_eq_true c20
                              clear c20
                              by_cases c21 : x8_3 < (x5_2.length : Int)
                              · rw [if_pos c21] at H
                                have c21b0 : decide (x8_3 < (x5_2.length : Int)) = true := decide_eq_true c21
                                clear c21
                                by_cases c22 : x9_4 = true
                                · subst c22
                                  have H1 : (if 0 ≤ x10_4 then (if ((rd_T52 l0 x10_4).f1).toList = a1.toList then ((spec_l2Holds.f k4 ((rd_T52 l0 x10_4).f0) ((rd_T52 l0 x10_4).f1) ((rd_T52 l0 x10_4).f2) (rdOf ByteArray.empty x5_2 x8_3) (decide (x8_3 ≥ 0))).bind fun t431 => (spec_l2Alone.l3 k4 l0 a1 x5_2 x8_3 t431 (wrap64 (x10_4 + 1)))) else (spec_l2Alone.l3 k4 l0 a1 x5_2 x8_3 true (wrap64 (x10_4 + 1)))) else (none)) = some r := by rw [if_pos rfl] at H; exact H
                                  clear H
                                  have H := H1
                                  clear H1
                                  by_cases c23 : 0 ≤ x10_4
                                  · rw [if_pos c23] at H
                                    have c23b0 : decide (0 ≤ x10_4) = true := decide_eq_true c23
                                    clear c23
                                    by_cases c24 : ((rd_T52 l0 x10_4).f1).toList = a1.toList
                                    · rw [if_pos c24] at H
                                      have c24b0 : (((rd_T52 l0 x10_4).f1).toList == a1.toList) = true := beq_iff_eq.mpr c24
                                      have c24b1 : (((rd_T52 l0 x10_4).f1).toList != a1.toList) = false := bne_eq_false_iff_eq.mpr c24
                                      clear c24
                                      replace H := Option.bind_eq_some_iff.mp H
                                      obtain ⟨t431, A250, H⟩ := H
                                      replace H : (spec_l2Alone.l3 k4 l0 a1 x5_2 x8_3 t431 (wrap64 (x10_4 + 1))) = some r := H
                                      have A25 := Aside0.mk A250
                                      clear A250
                                      have H' := Aside0.mk H
                                      clear H
                                      have p428 : 0 ≤ (x8_3 : Int) := of_decide_eq_true (by first | (with_reducible assumption) | assumption)
                                      have q428 : x8_3 < (x5_2.length : Int) := of_decide_eq_true (by first | (with_reducible assumption) | assumption)
                                      obtain ⟨ad428, e428, hx428_0⟩ := Kd.at_string (Kd.R_reads' HO_5.out).2.2 x8_3 p428 q428
                                      cases e428
                                      replace p428 := eq_true p428
                                      replace q428 := eq_true q428
                                      have p429 : 0 ≤ (x10_4 : Int) := of_decide_eq_true (by first | (with_reducible assumption) | assumption)
                                      have q429 : x10_4 < (l0.length : Int) := of_decide_eq_true (by first | (with_reducible assumption) | assumption)
                                      obtain ⟨ad429, A429_2, c429_2, e429, hx429_0, hx429_1, hx429_2, hl429_2, hi429_2⟩ := at_T52 HR0.out x10_4 p429 q429
                                      cases e429
                                      replace hx429_0 := (HB.out.cell (World.block_lt_of_cell? w _ hx429_0)).trans hx429_0
                                      replace hx429_1 := (HB.out.cell (World.block_lt_of_cell? w _ hx429_1)).trans hx429_1
                                      replace hx429_2 := (HB.out.cell (World.block_lt_of_cell? w _ hx429_2)).trans hx429_2
                                      have HR429_2 := Aside0.mk hi429_2
                                      have HC429_2 := Aside0.mk hl429_2
                                      clear hi429_2 hl429_2
                                      replace p429 := eq_true p429
                                      replace q429 := eq_true q429
                                      have p430 : 0 ≤ (x10_4 : Int) := of_decide_eq_true (by first | (with_reducible assumption) | assumption)
                                      have q430 : x10_4 < (l0.length : Int) := of_decide_eq_true (by first | (with_reducible assumption) | assumption)
                                      obtain ⟨ad430, A430_2, c430_2, e430, hx430_0, hx430_1, hx430_2, hl430_2, hi430_2⟩ := at_T52 HR0.out x10_4 p430 q430
                                      obtain rfl : ad429 = ad430 := (by injection e430)
                                      replace hx430_0 := (HB.out.cell (World.block_lt_of_cell? w _ hx430_0)).trans hx430_0
                                      replace hx430_1 := (HB.out.cell (World.block_lt_of_cell? w _ hx430_1)).trans hx430_1
                                      replace hx430_2 := (HB.out.cell (World.block_lt_of_cell? w _ hx430_2)).trans hx430_2
                                      have HR430_2 := Aside0.mk hi430_2
                                      have HC430_2 := Aside0.mk hl430_2
                                      clear hi430_2 hl430_2
                                      replace p430 := eq_true p430
                                      replace q430 := eq_true q430
                                      have ea_ := Option.some.inj (hx429_2.symm.trans hx430_2)
                                      injection ea_ with ea_ en_ ec_
                                      subst ea_
                                      subst ec_
                                      clear en_
                                      go_wp2_with (first | (go_at_call 64; (with_reducible refine (spec_l2Holds.calls k4 ((rd_T52 l0 x10_4).f0) ((rd_T52 l0 x10_4).f1) _ _ ((rd_T52 l0 x10_4).f2) (rdOf ByteArray.empty x5_2 x8_3) _ t431 _ ?side1 ?side2 (by have h_ := A25.out; first | exact h_ | (rw [show decide (x8_3 ≥ 0) = true from by assumption] at h_; exact h_) | (rw [show decide (x8_3 ≥ 0) = false from by assumption] at h_; exact h_))).mono ?_); (case side1 => repeat (first | exact (Kd.C_below HR430_2.out HB.out) | (with_reducible refine Kd.C_alloc ?_ _) | (with_reducible refine Kd.C_drewN ?_ _) | (with_reducible refine Kd.C_drew ?_))); (case side2 => exact HC430_2.out); rintro e w26 ⟨rfl, hb⟩; have n0_ := Aside0.mk (Kd.R_below (by (with_reducible repeat (first | apply Kd.R_alloc | apply Kd.R_drewN | apply Kd.R_drew)); exact HO_5.out) hb); have n1_ := Aside0.mk (below_step (by repeat (first | (with_reducible first | exact HB.out | apply below_alloc | apply pw_below_drewN | apply below_drew1) | exact HB.out)) hb); clear HO_5; clear HB; have HO_5 := n0_; have HB := n1_; clear n0_ n1_; (try clear hb); (try clear hb2); (try clear hk); (try clear hi)))
                                      go_roundg k4
                                      case measure => have := HK1.out; have := HK2.out; have := HK3.out; have := HK4.out; omega
                                      case rel => exact ⟨(t431), (wrap64 (x10_4 + 1)), (by first | rfl | (simp; done) | (simp [*]; done)), (by first | rfl | (simp; done) | (simp [*]; done)), H', ⟨by have := HK1.out; have := HK2.out; have := HK3.out; have := HK4.out; omega⟩, ⟨by (with_reducible repeat (first | apply Kd.R_alloc | apply Kd.R_drewN | apply Kd.R_drew)); exact HO_5.out⟩, ⟨by repeat (first | (with_reducible first | exact HB.out | apply below_alloc | apply pw_below_drewN | apply below_drew1) | exact HB.out)⟩⟩
                                    · rw [if_neg c24] at H
                                      have c24b0 : (((rd_T52 l0 x10_4).f1).toList == a1.toList) = false := beq_eq_false_iff_ne.mpr c24
                                      have c24b1 : (((rd_T52 l0 x10_4).f1).toList != a1.toList) = true := bne_iff_ne.mpr c24
                                      have H' := Aside0.mk H
                                      clear H
                                      have p428 : 0 ≤ (x8_3 : Int) := of_decide_eq_true (by first | (with_reducible assumption) | assumption)
                                      have q428 : x8_3 < (x5_2.length : Int) := of_decide_eq_true (by first | (with_reducible assumption) | assumption)
                                      obtain ⟨ad428, e428, hx428_0⟩ := Kd.at_string (Kd.R_reads' HO_5.out).2.2 x8_3 p428 q428
                                      cases e428
                                      replace p428 := eq_true p428
                                      replace q428 := eq_true q428
                                      have p429 : 0 ≤ (x10_4 : Int) := of_decide_eq_true (by first | (with_reducible assumption) | assumption)
                                      have q429 : x10_4 < (l0.length : Int) := of_decide_eq_true (by first | (with_reducible assumption) | assumption)
                                      obtain ⟨ad429, A429_2, c429_2, e429, hx429_0, hx429_1, hx429_2, hl429_2, hi429_2⟩ := at_T52 HR0.out x10_4 p429 q429
                                      cases e429
                                      replace hx429_0 := (HB.out.cell (World.block_lt_of_cell? w _ hx429_0)).trans hx429_0
                                      replace hx429_1 := (HB.out.cell (World.block_lt_of_cell? w _ hx429_1)).trans hx429_1
                                      replace hx429_2 := (HB.out.cell (World.block_lt_of_cell? w _ hx429_2)).trans hx429_2
                                      have HR429_2 := Aside0.mk hi429_2
                                      have HC429_2 := Aside0.mk hl429_2
                                      clear hi429_2 hl429_2
                                      replace p429 := eq_true p429
                                      replace q429 := eq_true q429
                                      go_wp2
                                      go_roundg k4
                                      case measure => have := HK1.out; have := HK2.out; have := HK3.out; have := HK4.out; omega
                                      case rel => exact ⟨(true), (wrap64 (x10_4 + 1)), (by first | rfl | (simp; done) | (simp [*]; done)), (by first | rfl | (simp; done) | (simp [*]; done)), H', ⟨by have := HK1.out; have := HK2.out; have := HK3.out; have := HK4.out; omega⟩, ⟨by (with_reducible repeat (first | apply Kd.R_alloc | apply Kd.R_drewN | apply Kd.R_drew)); exact HO_5.out⟩, ⟨by repeat (first | (with_reducible first | exact HB.out | apply below_alloc | apply pw_below_drewN | apply below_drew1) | exact HB.out)⟩⟩
                                  · rw [if_neg c23] at H
                                    exact absurd H (by simp)
                                · replace c22 := Bool.eq_false_iff.mpr c22
                                  subst c22
                                  have H1 : (spec_l2Alone.l3 k4 l0 a1 x5_2 x8_3 false (wrap64 (x10_4 + 1))) = some r := by rw [if_neg (show ¬ (false = true) by decide)] at H; exact H
                                  clear H
                                  have H := H1
                                  clear H1
                                  have H' := Aside0.mk H
                                  clear H
                                  have p428 : 0 ≤ (x8_3 : Int) := of_decide_eq_true (by first | (with_reducible assumption) | assumption)
                                  have q428 : x8_3 < (x5_2.length : Int) := of_decide_eq_true (by first | (with_reducible assumption) | assumption)
                                  obtain ⟨ad428, e428, hx428_0⟩ := Kd.at_string (Kd.R_reads' HO_5.out).2.2 x8_3 p428 q428
                                  cases e428
                                  replace p428 := eq_true p428
                                  replace q428 := eq_true q428
                                  go_wp2
                                  go_roundg k4
                                  case measure => have := HK1.out; have := HK2.out; have := HK3.out; have := HK4.out; omega
                                  case rel => exact ⟨(false), (wrap64 (x10_4 + 1)), (by first | rfl | (simp; done) | (simp [*]; done)), (by first | rfl | (simp; done) | (simp [*]; done)), H', ⟨by have := HK1.out; have := HK2.out; have := HK3.out; have := HK4.out; omega⟩, ⟨by (with_reducible repeat (first | apply Kd.R_alloc | apply Kd.R_drewN | apply Kd.R_drew)); exact HO_5.out⟩, ⟨by repeat (first | (with_reducible first | exact HB.out | apply below_alloc | apply pw_below_drewN | apply below_drew1) | exact HB.out)⟩⟩
                              · rw [if_neg c21] at H
                                exact absurd H (by simp)
                            · rw [if_neg c20] at H
                              exact absurd H (by simp)
                          · rw [if_neg c19] at H
                            have c19b0 : decide (0 ≤ x8_3) = false := decide_eq_false c19
                            clear c19
                            by_cases c27 : x9_4 = true
                            · subst c27
                              have H1 : (if 0 ≤ x10_4 then (if ((rd_T52 l0 x10_4).f1).toList = a1.toList then ((spec_l2Holds.f k4 ((rd_T52 l0 x10_4).f0) ((rd_T52 l0 x10_4).f1) ((rd_T52 l0 x10_4).f2) (⟨#[]⟩ : ByteArray) (decide (x8_3 ≥ 0))).bind fun t434 => (spec_l2Alone.l3 k4 l0 a1 x5_2 x8_3 t434 (wrap64 (x10_4 + 1)))) else (spec_l2Alone.l3 k4 l0 a1 x5_2 x8_3 true (wrap64 (x10_4 + 1)))) else (none)) = some r := by rw [if_pos rfl] at H; exact H
                              clear H
                              have H := H1
                              clear H1
                              by_cases c28 : 0 ≤ x10_4
                              · rw [if_pos c28] at H
                                have c28b0 : decide (0 ≤ x10_4) = true := decide_eq_true c28
                                clear c28
                                by_cases c29 : ((rd_T52 l0 x10_4).f1).toList = a1.toList
                                · rw [if_pos c29] at H
                                  have c29b0 : (((rd_T52 l0 x10_4).f1).toList == a1.toList) = true := beq_iff_eq.mpr c29
                                  have c29b1 : (((rd_T52 l0 x10_4).f1).toList != a1.toList) = false := bne_eq_false_iff_eq.mpr c29
                                  clear c29
                                  replace H := Option.bind_eq_some_iff.mp H
                                  obtain ⟨t434, A300, H⟩ := H
                                  replace H : (spec_l2Alone.l3 k4 l0 a1 x5_2 x8_3 t434 (wrap64 (x10_4 + 1))) = some r := H
                                  have A30 := Aside0.mk A300
                                  clear A300
                                  have H' := Aside0.mk H
                                  clear H
                                  have p432 : 0 ≤ (x10_4 : Int) := of_decide_eq_true (by first | (with_reducible assumption) | assumption)
                                  have q432 : x10_4 < (l0.length : Int) := of_decide_eq_true (by first | (with_reducible assumption) | assumption)
                                  obtain ⟨ad432, A432_2, c432_2, e432, hx432_0, hx432_1, hx432_2, hl432_2, hi432_2⟩ := at_T52 HR0.out x10_4 p432 q432
                                  cases e432
                                  replace hx432_0 := (HB.out.cell (World.block_lt_of_cell? w _ hx432_0)).trans hx432_0
                                  replace hx432_1 := (HB.out.cell (World.block_lt_of_cell? w _ hx432_1)).trans hx432_1
                                  replace hx432_2 := (HB.out.cell (World.block_lt_of_cell? w _ hx432_2)).trans hx432_2
                                  have HR432_2 := Aside0.mk hi432_2
                                  have HC432_2 := Aside0.mk hl432_2
                                  clear hi432_2 hl432_2
                                  replace p432 := eq_true p432
                                  replace q432 := eq_true q432
                                  have p433 : 0 ≤ (x10_4 : Int) := of_decide_eq_true (by first | (with_reducible assumption) | assumption)
                                  have q433 : x10_4 < (l0.length : Int) := of_decide_eq_true (by first | (with_reducible assumption) | assumption)
                                  obtain ⟨ad433, A433_2, c433_2, e433, hx433_0, hx433_1, hx433_2, hl433_2, hi433_2⟩ := at_T52 HR0.out x10_4 p433 q433
                                  obtain rfl : ad432 = ad433 := (by injection e433)
                                  replace hx433_0 := (HB.out.cell (World.block_lt_of_cell? w _ hx433_0)).trans hx433_0
                                  replace hx433_1 := (HB.out.cell (World.block_lt_of_cell? w _ hx433_1)).trans hx433_1
                                  replace hx433_2 := (HB.out.cell (World.block_lt_of_cell? w _ hx433_2)).trans hx433_2
                                  have HR433_2 := Aside0.mk hi433_2
                                  have HC433_2 := Aside0.mk hl433_2
                                  clear hi433_2 hl433_2
                                  replace p433 := eq_true p433
                                  replace q433 := eq_true q433
                                  have ea_ := Option.some.inj (hx432_2.symm.trans hx433_2)
                                  injection ea_ with ea_ en_ ec_
                                  subst ea_
                                  subst ec_
                                  clear en_
                                  go_wp2_with (first | (go_at_call 64; (with_reducible refine (spec_l2Holds.calls k4 ((rd_T52 l0 x10_4).f0) ((rd_T52 l0 x10_4).f1) _ _ ((rd_T52 l0 x10_4).f2) (⟨#[]⟩ : ByteArray) _ t434 _ ?side1 ?side2 (by have h_ := A30.out; first | exact h_ | (rw [show decide (x8_3 ≥ 0) = true from by assumption] at h_; exact h_) | (rw [show decide (x8_3 ≥ 0) = false from by assumption] at h_; exact h_))).mono ?_); (case side1 => repeat (first | exact (Kd.C_below HR433_2.out HB.out) | (with_reducible refine Kd.C_alloc ?_ _) | (with_reducible refine Kd.C_drewN ?_ _) | (with_reducible refine Kd.C_drew ?_))); (case side2 => exact HC433_2.out); rintro e w31 ⟨rfl, hb⟩; have n0_ := Aside0.mk (Kd.R_below (by (with_reducible repeat (first | apply Kd.R_alloc | apply Kd.R_drewN | apply Kd.R_drew)); exact HO_5.out) hb); have n1_ := Aside0.mk (below_step (by repeat (first | (with_reducible first | exact HB.out | apply below_alloc | apply pw_below_drewN | apply below_drew1) | exact HB.out)) hb); clear HO_5; clear HB; have HO_5 := n0_; have HB := n1_; clear n0_ n1_; (try clear hb); (try clear hb2); (try clear hk); (try clear hi)))
                                  go_roundg k4
                                  case measure => have := HK1.out; have := HK2.out; have := HK3.out; have := HK4.out; omega
                                  case rel => exact ⟨(t434), (wrap64 (x10_4 + 1)), (by first | rfl | (simp; done) | (simp [*]; done)), (by first | rfl | (simp; done) | (simp [*]; done)), H', ⟨by have := HK1.out; have := HK2.out; have := HK3.out; have := HK4.out; omega⟩, ⟨by (with_reducible repeat (first | apply Kd.R_alloc | apply Kd.R_drewN | apply Kd.R_drew)); exact HO_5.out⟩, ⟨by repeat (first | (with_reducible first | exact HB.out | apply below_alloc | apply pw_below_drewN | apply below_drew1) | exact HB.out)⟩⟩
                                · rw [if_neg c29] at H
                                  have c29b0 : (((rd_T52 l0 x10_4).f1).toList == a1.toList) = false := beq_eq_false_iff_ne.mpr c29
                                  have c29b1 : (((rd_T52 l0 x10_4).f1).toList != a1.toList) = true := bne_iff_ne.mpr c29
                                  have H' := Aside0.mk H
                                  clear H
                                  have p432 : 0 ≤ (x10_4 : Int) := of_decide_eq_true (by first | (with_reducible assumption) | assumption)
                                  have q432 : x10_4 < (l0.length : Int) := of_decide_eq_true (by first | (with_reducible assumption) | assumption)
                                  obtain ⟨ad432, A432_2, c432_2, e432, hx432_0, hx432_1, hx432_2, hl432_2, hi432_2⟩ := at_T52 HR0.out x10_4 p432 q432
                                  cases e432
                                  replace hx432_0 := (HB.out.cell (World.block_lt_of_cell? w _ hx432_0)).trans hx432_0
                                  replace hx432_1 := (HB.out.cell (World.block_lt_of_cell? w _ hx432_1)).trans hx432_1
                                  replace hx432_2 := (HB.out.cell (World.block_lt_of_cell? w _ hx432_2)).trans hx432_2
                                  have HR432_2 := Aside0.mk hi432_2
                                  have HC432_2 := Aside0.mk hl432_2
                                  clear hi432_2 hl432_2
                                  replace p432 := eq_true p432
                                  replace q432 := eq_true q432
                                  go_wp2
                                  go_roundg k4
                                  case measure => have := HK1.out; have := HK2.out; have := HK3.out; have := HK4.out; omega
                                  case rel => exact ⟨(true), (wrap64 (x10_4 + 1)), (by first | rfl | (simp; done) | (simp [*]; done)), (by first | rfl | (simp; done) | (simp [*]; done)), H', ⟨by have := HK1.out; have := HK2.out; have := HK3.out; have := HK4.out; omega⟩, ⟨by (with_reducible repeat (first | apply Kd.R_alloc | apply Kd.R_drewN | apply Kd.R_drew)); exact HO_5.out⟩, ⟨by repeat (first | (with_reducible first | exact HB.out | apply below_alloc | apply pw_below_drewN | apply below_drew1) | exact HB.out)⟩⟩
                              · rw [if_neg c28] at H
                                exact absurd H (by simp)
                            · replace c27 := Bool.eq_false_iff.mpr c27
                              subst c27
                              have H1 : (spec_l2Alone.l3 k4 l0 a1 x5_2 x8_3 false (wrap64 (x10_4 + 1))) = some r := by rw [if_neg (show ¬ (false = true) by decide)] at H; exact H
                              clear H
                              have H := H1
                              clear H1
                              have H' := Aside0.mk H
                              clear H
                              go_wp2
                              go_roundg k4
                              case measure => have := HK1.out; have := HK2.out; have := HK3.out; have := HK4.out; omega
                              case rel => exact ⟨(false), (wrap64 (x10_4 + 1)), (by first | rfl | (simp; done) | (simp [*]; done)), (by first | rfl | (simp; done) | (simp [*]; done)), H', ⟨by have := HK1.out; have := HK2.out; have := HK3.out; have := HK4.out; omega⟩, ⟨by (with_reducible repeat (first | apply Kd.R_alloc | apply Kd.R_drewN | apply Kd.R_drew)); exact HO_5.out⟩, ⟨by repeat (first | (with_reducible first | exact HB.out | apply below_alloc | apply pw_below_drewN | apply below_drew1) | exact HB.out)⟩⟩
                        · rw [if_neg c18] at H
                          have c18b0 : decide (x10_4 < (l0.length : Int)) = false := decide_eq_false c18
                          clear c18
                          by_cases c32 : x9_4 = true
                          · subst c32
                            have H1 : (some false) = some r := by rw [if_pos rfl] at H; exact H
                            clear H
                            have H := H1
                            clear H1
                            obtain rfl := Option.some.inj H
                            go_wp2
                            go_ret
                            exact ⟨by first | rfl | (simp [errW_none, errW_some] <;> rfl) | (simp [*, errW_none, errW_some] <;> rfl), by repeat (first | (with_reducible first | exact HB.out | apply below_alloc | apply pw_below_drewN | apply below_drew1) | exact HB.out)⟩
                          · replace c32 := Bool.eq_false_iff.mpr c32
                            subst c32
                            have H1 : (spec_l2Alone.l2 k4 l0 a1 x5_2 (wrap64 (x8_3 + 1))) = some r := by rw [if_neg (show ¬ (false = true) by decide)] at H; exact H
                            clear H
                            have H := H1
                            clear H1
                            have H' := Aside0.mk H
                            clear H
                            go_wp2
                            go_roundg k4
                            case measure => have := HK1.out; have := HK2.out; have := HK3.out; have := HK4.out; omega
                            case rel => exact ⟨(wrap64 (x8_3 + 1)), (by first | rfl | (simp; done) | (simp [*]; done)), H', ⟨by have := HK1.out; have := HK2.out; have := HK3.out; have := HK4.out; omega⟩, ⟨by (with_reducible repeat (first | apply Kd.R_alloc | apply Kd.R_drewN | apply Kd.R_drew)); exact HO_5.out⟩, ⟨by repeat (first | (with_reducible first | exact HB.out | apply below_alloc | apply pw_below_drewN | apply below_drew1) | exact HB.out)⟩⟩
                  · rw [if_neg c16] at H
                    have c16b0 : decide (x8_3 < (x5_2.length : Int)) = false := decide_eq_false c16
                    clear c16
                    obtain rfl := Option.some.inj H
                    obtain ⟨Ao33, co33, eo33⟩ := Kd.R_slice HO_5.out
                    subst eo33
                    go_wp2
                    go_ret
                    exact ⟨by first | rfl | (simp [errW_none, errW_some] <;> rfl) | (simp [*, errW_none, errW_some] <;> rfl), by repeat (first | (with_reducible first | exact HB.out | apply below_alloc | apply pw_below_drewN | apply below_drew1) | exact HB.out)⟩

end Go.Proofs.Ytpjpnppoejnafaa.G

/- G29 -/
-- Laid by wip/g/gprint.py out of the translation, by the kit's print program. Lean checks it.
namespace Go.Proofs.Ytpjpnppoejnafaa.G
open Go.RowKit Go.Proofs.YtpjpnppoejnafaaW.PrintWords Go.Proofs.YtpjpnppoejnafaaW.PrintLast Go.Proofs.YtpjpnppoejnafaaW.PrintMore
attribute [local go_sem] max2_int min2_int max_two min_two max_three min_three max_four min_four   -- for this text's walks alone
set_option linter.unusedVariables false
set_option linter.unusedSimpArgs false

/-! ### spec_Never: function 29 -/
mutual
def spec_Never.l0 : Nat → List (S52) → Int → Option (Bool)
  | 0, _, _ => none
  | k + 1, x0, x3 => if x3 < (x0.length : Int) then ((spec_SelectorOk.f k x0).bind fun t435 => (spec_Never.j1 k x0 x3 t435)) else (spec_Never.j1 k x0 x3 false)
def spec_Never.j1 : Nat → List (S52) → Int → Bool → Option (Bool)
  | 0, _, _, _ => none
  | k + 1, x0, x3, x11 => if x11 = true then (if 0 ≤ x3 then (if x3 < (x0.length : Int) then ((spec_l2Alone.f k x0 ((rd_T52 x0 x3).f1)).bind fun t437 => (if t437 = true then (some true) else (spec_Never.l0 k x0 (wrap64 (x3 + 1))))) else (none)) else (none)) else (some false)
end
def spec_Never.f (k : Nat) (l0 : List (S52)) : Option (Bool) := spec_Never.l0 k l0 0
set_option maxHeartbeats 8000000 in
set_option maxRecDepth 100000 in
theorem spec_Never.calls (k : Nat) (A0 : Option Addr) (c0 : Nat) (l0 : List (S52)) (r : Bool) (w : World) (hr0 : Kd.C k52 w A0 l0.length l0) (hc0 : l0.length ≤ c0) (h : spec_Never.f k l0 = some r) :
    Calls Try.prog 29 #[.slice A0 l0.length c0] w fun e w' => e = .returned (.bool r) ∧ Below w.heap.size w w' := by
  have HR0 := Aside0.mk hr0
  have HC0 := Aside0.mk hc0
  clear hr0 hc0
  have HB := Aside0.mk (Below.refl w.heap.size w)
  have H : (spec_Never.l0 k l0 0) = some r := h
  clear h
  have H' := Aside0.mk H
  clear H
  go_enter Try.func29, Try.ntmps29
  go_wp2
  go_loopg [3] k (fun kq v3 w' => ∃ (x3_1 : Int), v3 = .int .i64 x3_1 ∧ Aside0 (spec_Never.l0 kq l0 x3_1 = some r) ∧ Aside0 (kq ≤ k) ∧ Aside0 (Below w.heap.size w w'))
  case atStart => exact ⟨(0), (by first | rfl | (simp; done) | (simp [*]; done)), H', ⟨Nat.le_refl _⟩, ⟨by repeat (first | (with_reducible first | exact HB.out | apply below_alloc | apply pw_below_drewN | apply below_drew1) | exact HB.out)⟩⟩
  case round =>
    clear H'
    obtain ⟨x3_1, rfl, HA, HK1, HB⟩ := hrel
    cases gk with
    | zero => exact absurd HA.out (by simp [spec_Never.l0])
    | succ k1 =>
      have H := HA.out
      clear HA
      simp only [spec_Never.l0] at H
      have HC2 := Aside0.mk H
      clear H
      go_upto_region 2 with (fail)
      go_cut [11] (fun v11 wc => ∃ (kq : Nat) (x11_1 : Bool), v11 = .bool x11_1 ∧ Aside0 (spec_Never.j1 kq l0 x3_1 x11_1 = some r) ∧ Aside0 (kq ≤ k1) ∧ Aside0 (Below w.heap.size w wc))
      case first =>
        have H := HC2.out
        clear HC2
        by_cases c3 : x3_1 < (l0.length : Int)
        · rw [if_pos c3] at H
          have c3b0 : decide (x3_1 < (l0.length : Int)) = true := decide_eq_true c3
          clear c3
          (first | rw [c3b0] | (simp only [i64_w, i32_w]; rw [c3b0]) | skip)
          replace H := Option.bind_eq_some_iff.mp H
          obtain ⟨t435, A40, H⟩ := H
          replace H : (spec_Never.j1 k1 l0 x3_1 t435) = some r := H
          have A4 := Aside0.mk A40
          clear A40
          have H' := Aside0.mk H
          clear H
          go_wp2_with (first | (go_at_call 23; (with_reducible refine (spec_SelectorOk.calls k1 _ _ l0 t435 _ ?side1 ?side2 A4.out).mono ?_); (case side1 => repeat (first | exact (Kd.C_below HR0.out HB.out) | (with_reducible refine Kd.C_alloc ?_ _) | (with_reducible refine Kd.C_drewN ?_ _) | (with_reducible refine Kd.C_drew ?_))); (case side2 => exact HC0.out); rintro e w5 ⟨rfl, hb⟩; have n0_ := Aside0.mk (below_step (by repeat (first | (with_reducible first | exact HB.out | apply below_alloc | apply pw_below_drewN | apply below_drew1) | exact HB.out)) hb); clear HB; have HB := n0_; clear n0_; (try clear hb); (try clear hb2); (try clear hk); (try clear hi)))
          go_meet
          case rel => exact ⟨_, (t435), (by first | rfl | (simp; done) | (simp [*]; done)), H', ⟨by have := HK1.out; first | omega | exact Nat.le_refl _⟩, ⟨by repeat (first | (with_reducible first | exact HB.out | apply below_alloc | apply pw_below_drewN | apply below_drew1) | exact HB.out)⟩⟩
        · rw [if_neg c3] at H
          have c3b0 : decide (x3_1 < (l0.length : Int)) = false := decide_eq_false c3
          clear c3
          (first | rw [c3b0] | (simp only [i64_w, i32_w]; rw [c3b0]) | skip)
          have H' := Aside0.mk H
          clear H
          go_wp2
          go_meet
          case rel => exact ⟨_, (false), (by first | rfl | (simp; done) | (simp [*]; done)), H', ⟨by have := HK1.out; first | omega | exact Nat.le_refl _⟩, ⟨by repeat (first | (with_reducible first | exact HB.out | apply below_alloc | apply pw_below_drewN | apply below_drew1) | exact HB.out)⟩⟩
      case rest =>
        clear HC2
        try clear c2
        try clear p2
        try clear c3
        try clear c3b0
        obtain ⟨kq, x11_1, rfl, HA, HJ1, HB⟩ := hcut
        cases kq with
        | zero => exact absurd HA.out (by simp [spec_Never.j1])
        | succ kj1 =>
          have H := HA.out
          clear HA
          simp only [spec_Never.j1] at H
          by_cases c6 : x11_1 = true
          · subst c6
            have H1 : (if 0 ≤ x3_1 then (if x3_1 < (l0.length : Int) then ((spec_l2Alone.f kj1 l0 ((rd_T52 l0 x3_1).f1)).bind fun t437 => (if t437 = true then (some true) else (spec_Never.l0 kj1 l0 (wrap64 (x3_1 + 1))))) else (none)) else (none)) = some r := by rw [if_pos rfl] at H; exact H
            clear H
            have H := H1
            clear H1
            by_cases c7 : 0 ≤ x3_1
            · rw [if_pos c7] at H
              have c7b0 : decide (0 ≤ x3_1) = true := decide_eq_true c7
              clear c7
              by_cases c8 : x3_1 < (l0.length : Int)
              · rw [if_pos c8] at H
                have c8b0 : decide (x3_1 < (l0.length : Int)) = true := decide_eq_true c8
                clear c8
                replace H := Option.bind_eq_some_iff.mp H
                obtain ⟨t437, A90, H⟩ := H
                replace H : (if t437 = true then (some true) else (spec_Never.l0 kj1 l0 (wrap64 (x3_1 + 1)))) = some r := H
                have A9 := Aside0.mk A90
                clear A90
                by_cases c10 : t437 = true
                · subst c10
                  have H1 : (some true) = some r := by rw [if_pos rfl] at H; exact H
                  clear H
                  have H := H1
                  clear H1
                  obtain rfl := Option.some.inj H
                  have p436 : 0 ≤ (x3_1 : Int) := of_decide_eq_true (by first | (with_reducible assumption) | assumption)
                  have q436 : x3_1 < (l0.length : Int) := of_decide_eq_true (by first | (with_reducible assumption) | assumption)
                  obtain ⟨ad436, A436_2, c436_2, e436, hx436_0, hx436_1, hx436_2, hl436_2, hi436_2⟩ := at_T52 HR0.out x3_1 p436 q436
                  cases e436
                  replace hx436_0 := (HB.out.cell (World.block_lt_of_cell? w _ hx436_0)).trans hx436_0
                  replace hx436_1 := (HB.out.cell (World.block_lt_of_cell? w _ hx436_1)).trans hx436_1
                  replace hx436_2 := (HB.out.cell (World.block_lt_of_cell? w _ hx436_2)).trans hx436_2
                  have HR436_2 := Aside0.mk hi436_2
                  have HC436_2 := Aside0.mk hl436_2
                  clear hi436_2 hl436_2
                  replace p436 := eq_true p436
                  replace q436 := eq_true q436
                  go_wp2_with (first | ((with_reducible refine gate_callee (f := 61) rfl ?_); refine goesL_ (some 20) rfl rfl Try.func61 (by kernel_rfl) rfl #[.slice (some ad436) l0.length c0, .string ((rd_T52 l0 x3_1).f1)] rfl (by (try simp only [List.map_toArray, List.map_cons, List.map_nil]); first | done | rfl | (simp only [List.length_drop, List.length_take]; rfl)) ?_; (with_reducible refine (spec_l2Alone.calls kj1 _ _ l0 ((rd_T52 l0 x3_1).f1) true _ ?side1 ?side2 A9.out).mono ?_); (case side1 => repeat (first | exact (Kd.C_below HR0.out HB.out) | (with_reducible refine Kd.C_alloc ?_ _) | (with_reducible refine Kd.C_drewN ?_ _) | (with_reducible refine Kd.C_drew ?_))); (case side2 => exact HC0.out); rintro e w11 ⟨rfl, hb⟩; refine ⟨_, rfl, ?_⟩; have n0_ := Aside0.mk (below_step (by repeat (first | (with_reducible first | exact HB.out | apply below_alloc | apply pw_below_drewN | apply below_drew1) | exact HB.out)) hb); clear HB; have HB := n0_; clear n0_; (try clear hb); (try clear hb2); (try clear hk); (try clear hi)))
                  go_ret
                  exact ⟨by first | rfl | (simp [errW_none, errW_some] <;> rfl) | (simp [*, errW_none, errW_some] <;> rfl), by repeat (first | (with_reducible first | exact HB.out | apply below_alloc | apply pw_below_drewN | apply below_drew1) | exact HB.out)⟩
                · replace c10 := Bool.eq_false_iff.mpr c10
                  subst c10
                  have H1 : (spec_Never.l0 kj1 l0 (wrap64 (x3_1 + 1))) = some r := by rw [if_neg (show ¬ (false = true) by decide)] at H; exact H
                  clear H
                  have H := H1
                  clear H1
                  have H' := Aside0.mk H
                  clear H
                  have p436 : 0 ≤ (x3_1 : Int) := of_decide_eq_true (by first | (with_reducible assumption) | assumption)
                  have q436 : x3_1 < (l0.length : Int) := of_decide_eq_true (by first | (with_reducible assumption) | assumption)
                  obtain ⟨ad436, A436_2, c436_2, e436, hx436_0, hx436_1, hx436_2, hl436_2, hi436_2⟩ := at_T52 HR0.out x3_1 p436 q436
                  cases e436
                  replace hx436_0 := (HB.out.cell (World.block_lt_of_cell? w _ hx436_0)).trans hx436_0
                  replace hx436_1 := (HB.out.cell (World.block_lt_of_cell? w _ hx436_1)).trans hx436_1
                  replace hx436_2 := (HB.out.cell (World.block_lt_of_cell? w _ hx436_2)).trans hx436_2
                  have HR436_2 := Aside0.mk hi436_2
                  have HC436_2 := Aside0.mk hl436_2
                  clear hi436_2 hl436_2
                  replace p436 := eq_true p436
                  replace q436 := eq_true q436
                  go_wp2_with (first | ((with_reducible refine gate_callee (f := 61) rfl ?_); refine goesL_ (some 20) rfl rfl Try.func61 (by kernel_rfl) rfl #[.slice (some ad436) l0.length c0, .string ((rd_T52 l0 x3_1).f1)] rfl (by (try simp only [List.map_toArray, List.map_cons, List.map_nil]); first | done | rfl | (simp only [List.length_drop, List.length_take]; rfl)) ?_; (with_reducible refine (spec_l2Alone.calls kj1 _ _ l0 ((rd_T52 l0 x3_1).f1) false _ ?side1 ?side2 A9.out).mono ?_); (case side1 => repeat (first | exact (Kd.C_below HR0.out HB.out) | (with_reducible refine Kd.C_alloc ?_ _) | (with_reducible refine Kd.C_drewN ?_ _) | (with_reducible refine Kd.C_drew ?_))); (case side2 => exact HC0.out); rintro e w12 ⟨rfl, hb⟩; refine ⟨_, rfl, ?_⟩; have n0_ := Aside0.mk (below_step (by repeat (first | (with_reducible first | exact HB.out | apply below_alloc | apply pw_below_drewN | apply below_drew1) | exact HB.out)) hb); clear HB; have HB := n0_; clear n0_; (try clear hb); (try clear hb2); (try clear hk); (try clear hi)))
                  go_roundg kj1
                  case measure => have := HK1.out; have := HJ1.out; omega
                  case rel => exact ⟨(wrap64 (x3_1 + 1)), (by first | rfl | (simp; done) | (simp [*]; done)), H', ⟨by have := HK1.out; have := HJ1.out; omega⟩, ⟨by repeat (first | (with_reducible first | exact HB.out | apply below_alloc | apply pw_below_drewN | apply below_drew1) | exact HB.out)⟩⟩
              · rw [if_neg c8] at H
                exact absurd H (by simp)
            · rw [if_neg c7] at H
              exact absurd H (by simp)
          · replace c6 := Bool.eq_false_iff.mpr c6
            subst c6
            have H1 : (some false) = some r := by rw [if_neg (show ¬ (false = true) by decide)] at H; exact H
            clear H
            have H := H1
            clear H1
            obtain rfl := Option.some.inj H
            go_wp2
            go_ret
            exact ⟨by first | rfl | (simp [errW_none, errW_some] <;> rfl) | (simp [*, errW_none, errW_some] <;> rfl), by repeat (first | (with_reducible first | exact HB.out | apply below_alloc | apply pw_below_drewN | apply below_drew1) | exact HB.out)⟩

end Go.Proofs.Ytpjpnppoejnafaa.G

/- PNever -/
/-
  Never: the reference's and the program's come to one answer.
-/
namespace Go.Proofs.Ytpjpnppoejnafaa.G
open Go.RowKit Go.Proofs.YtpjpnppoejnafaaW.PrintWords Go.Proofs.YtpjpnppoejnafaaW.PrintLast Go.Proofs.YtpjpnppoejnafaaW.PrintMore
set_option linter.unusedVariables false
set_option linter.unusedSimpArgs false
/-! ### the reference's -/
theorem zAt_str (i : Nat) (h : i < 60) : strOfNums ([122, (wrap64 (48 + (wrap64 (Int.tdiv (i : Int) 10)))) % 256, (wrap64 (48 + (Int.tmod (i : Int) 10))) % 256] : List Int) = zAt i := by
  have e1 : Int.tdiv (i : Int) 10 = ((i / 10 : Nat) : Int) := by rw [Int.tdiv_eq_ediv_of_nonneg (by omega)]; omega
  have e2 : Int.tmod (i : Int) 10 = ((i % 10 : Nat) : Int) := by rw [Int.tmod_eq_emod_of_nonneg (by omega)]; omega
  have a1 : wrap64 ((i / 10 : Nat) : Int) = ((i / 10 : Nat) : Int) := w64 (by omega) (by omega)
  have a2 : wrap64 (48 + ((i / 10 : Nat) : Int)) = 48 + ((i / 10 : Nat) : Int) := w64 (by omega) (by omega)
  have a3 : wrap64 (48 + ((i % 10 : Nat) : Int)) = 48 + ((i % 10 : Nat) : Int) := w64 (by omega) (by omega)
  rw [e1, e2, a1, a2, a3]
  have e3 : ((48 : Int) + ((i / 10 : Nat) : Int)) % 256 = ((48 + i / 10 : Nat) : Int) := by omega
  have e4 : ((48 : Int) + ((i % 10 : Nat) : Int)) % 256 = ((48 + i % 10 : Nat) : Int) := by omega
  rw [e3, e4]
  rfl
def condB (key v : ByteArray) (has : Bool) (t : ITerm) : Bool := !decide (t.f1 = key) || holdB t.f0 has (amongB t.f2 v)
theorem okAt_all (key v : ByteArray) (has : Bool) (sel : List ITerm) : okAt (withKey key sel) v has = sel.all (condB key v has) := by
  unfold okAt withKey condB
  rw [List.all_filter]
theorem vals_drop (key : ByteArray) (sel : List ITerm) {j : Nat} (h : j < sel.length) : valsOf (withKey key (sel.take (j + 1))) = valsOf (withKey key (sel.take j)) ++ (if sel[j].f1 = key then sel[j].f2 else []) := by
  unfold valsOf withKey
  rw [List.take_succ_eq_append_getElem h, List.filter_append, List.flatMap_append]
  congr 1
  by_cases c : sel[j].f1 = key
  · rw [if_pos c]; simp [c]
  · rw [if_neg c]; simp [c]
section
variable (sel : List ITerm) (key : ByteArray) (h8 : sel.length ≤ 8) (h6 : ∀ t ∈ sel, t.f2.length ≤ 6)
include h8 h6
theorem alone_l3 (tries : List ByteArray) (x8 : Int) (v : ByteArray) (has : Bool) (hx : (x8 ≥ 0 ∧ has = true ∧ x8 < tries.length ∧ rdOf ByteArray.empty tries x8 = v) ∨ (¬ x8 ≥ 0 ∧ has = false ∧ v = ⟨#[]⟩)) (r : Bool) (hr : Ev (fun k => spec_l2Alone.l2 k sel key tries (wrap64 (x8 + 1))) r) :
    ∀ (d j : Nat) (acc : Bool), j + d = sel.length → Ev (fun k => spec_l2Alone.l3 k sel key tries x8 acc j) (if (acc && (sel.drop j).all (condB key v has)) = true then false else r)
  | 0, j, acc, hd => by
    rw [List.drop_of_length_le (by omega), List.all_nil, Bool.and_true]
    refine Ev.step (fun k => by rw [spec_l2Alone.l3]) (ev_if_neg (by omega) ?_)
    cases acc with
    | true => exact ev_rw (ev_if_pos rfl (Ev.now _)) (if_pos rfl).symm
    | false => exact ev_rw (ev_if_neg (by simp) hr) (if_neg (by simp)).symm
  | d + 1, j, acc, hd => by
    have hj : j < sel.length := by omega
    have hm := h6 _ (List.getElem_mem hj)
    have ih := fun acc => alone_l3 tries x8 v has hx r hr d (j + 1) acc (by omega)
    rw [List.drop_eq_getElem_cons hj, List.all_cons]
    refine Ev.step (fun k => by rw [spec_l2Alone.l3]) (ev_if_pos (by omega) ?_)
    simp only [wsucc hj (by omega : sel.length ≤ 9223372036854775807), rdIT hj]
    have hcase : Ev (fun k => if (sel[j].f1).toList = key.toList then (spec_l2Holds.f k sel[j].f0 sel[j].f1 sel[j].f2 v has).bind (fun t => spec_l2Alone.l3 k sel key tries x8 t ((j + 1 : Nat) : Int)) else spec_l2Alone.l3 k sel key tries x8 true ((j + 1 : Nat) : Int)) (if (true && (condB key v has sel[j] && (sel.drop (j + 1)).all (condB key v has))) = true then false else r) := by
      unfold condB
      by_cases c : sel[j].f1 = key
      · refine ev_if_pos (bl_eq.2 c) (Ev.bind (l2Holds_ev _ _ _ _ _ (by omega)) (ev_rw (ih _) ?_))
        simp [c, condB]
      · refine ev_if_neg (fun e => c (bl_eq.1 e)) (ev_rw (ih _) ?_)
        simp [c, condB]
    rcases hx with ⟨h0, rfl, h1, h2⟩ | ⟨h0, rfl, rfl⟩
    · refine ev_if_pos h0 (ev_if_pos h0 (ev_if_pos h1 ?_))
      have hd1 : decide (x8 ≥ 0) = true := decide_eq_true h0
      rw [h2, hd1]
      cases acc with
      | true => exact ev_if_pos rfl (ev_if_pos (by omega) hcase)
      | false => exact ev_if_neg (by simp) (ev_rw (ih false) (by simp))
    · refine ev_if_neg h0 ?_
      have hd1 : decide (x8 ≥ 0) = false := decide_eq_false h0
      rw [hd1]
      cases acc with
      | true => exact ev_if_pos rfl (ev_if_pos (by omega) hcase)
      | false => exact ev_if_neg (by simp) (ev_rw (ih false) (by simp))
theorem alone_l2 (tries : List ByteArray) (hl : tries.length ≤ 1000) : ∀ (d q : Nat), q + d = tries.length → Ev (fun k => spec_l2Alone.l2 k sel key tries (q : Int)) (!(tries.drop q).any (fun v => okAt (withKey key sel) v true))
  | 0, q, hd => by
    rw [List.drop_of_length_le (by omega)]
    exact Ev.step (fun k => by rw [spec_l2Alone.l2]) (ev_if_neg (by omega) (ev_some (by simp)))
  | d + 1, q, hd => by
    have hq : q < tries.length := by omega
    have ih := alone_l2 tries hl d (q + 1) (by omega)
    rw [List.drop_eq_getElem_cons hq, List.any_cons, okAt_all]
    refine Ev.step (fun k => by rw [spec_l2Alone.l2]) (ev_if_pos (by omega) ?_)
    have := alone_l3 sel key h8 h6 tries (q : Int) tries[q] true (.inl ⟨by omega, rfl, by omega, rdS hq⟩) _ (by rw [wsucc hq (by omega)]; exact ih) sel.length 0 true (by omega)
    refine ev_rw this ?_
    rw [List.drop_zero, Bool.true_and]
    cases sel.all (condB key tries[q] true) <;> simp
theorem alone_ev : Ev (fun k => spec_l2Alone.f k sel key) (!possB (withKey key sel)) := by
  have h8' : (withKey key sel).length ≤ 8 := Nat.le_trans (List.length_filter_le _ _) h8
  have h6' : ∀ t ∈ withKey key sel, t.f2.length ≤ 6 := fun t ht => h6 t (List.mem_filter.1 ht).1
  have hvl := vals_len h6'
  have hzl : zAll.length = 60 := by simp [zAll]
  have l2 : Ev (fun k => spec_l2Alone.l2 k sel key (zAll ++ valsOf (withKey key sel)) (-1)) (!possB (withKey key sel)) := by
    have hl : (zAll ++ valsOf (withKey key sel)).length ≤ 1000 := by rw [List.length_append]; omega
    have h0 := alone_l2 sel key h8 h6 _ hl _ 0 (Nat.zero_add _)
    rw [List.drop_zero] at h0
    refine Ev.step (fun k => by rw [spec_l2Alone.l2]) (ev_if_pos (by omega) ?_)
    have := alone_l3 sel key h8 h6 (zAll ++ valsOf (withKey key sel)) (-1) ⟨#[]⟩ false (.inr ⟨by omega, rfl, rfl⟩) _ (by rw [w64 (by omega) (by omega)]; exact h0) sel.length 0 true (by omega)
    refine ev_rw this ?_
    rw [List.drop_zero, Bool.true_and, ← possB_spec h8' h6', ← okAt_all, okAt_none _ ⟨#[]⟩ ByteArray.empty]
    cases okAt (withKey key sel) ByteArray.empty false <;> simp
  have l1 : ∀ (d j : Nat), j + d = sel.length → Ev (fun k => spec_l2Alone.l1 k sel key (zAll ++ valsOf (withKey key (sel.take j))) j) (!possB (withKey key sel)) := by
    intro d
    induction d with
    | zero =>
      intro j hd
      refine Ev.step (fun k => by rw [spec_l2Alone.l1]) (ev_if_neg (by omega) ?_)
      rw [List.take_of_length_le (by omega)]
      exact l2
    | succ d ih =>
      intro j hd
      have hj : j < sel.length := by omega
      have ih := ih (j + 1) (by omega)
      rw [vals_drop key sel hj] at ih
      refine Ev.step (fun k => by rw [spec_l2Alone.l1]) (ev_if_pos (by omega) (ev_if_pos (by omega) ?_))
      simp only [wsucc hj (by omega : sel.length ≤ 9223372036854775807), rdIT hj]
      have h6j : ∀ t ∈ withKey key (sel.take j), t.f2.length ≤ 6 := fun t ht => h6 t (List.mem_of_mem_take (List.mem_filter.1 ht).1)
      have hv := vals_len h6j
      have hw : (withKey key (sel.take j)).length ≤ 8 := Nat.le_trans (List.length_filter_le _ _) (by rw [List.length_take]; omega)
      have hm := h6 _ (List.getElem_mem hj)
      by_cases c : sel[j].f1 = key
      · rw [if_pos c, ← List.append_assoc] at ih
        refine ev_if_pos (bl_eq.2 c) (ev_if_pos (by rw [List.length_append]; omega) ?_)
        exact ih
      · rw [if_neg c, List.append_nil] at ih
        exact ev_if_neg (fun e => c (bl_eq.1 e)) ih
  have l0 : ∀ (d i : Nat), i + d = 60 → Ev (fun k => spec_l2Alone.l0 k sel key ((List.range i).map zAt) i) (!possB (withKey key sel)) := by
    intro d
    induction d with
    | zero =>
      intro i hd
      obtain rfl : i = 60 := by omega
      refine Ev.step (fun k => by rw [spec_l2Alone.l0]) (ev_if_neg (by omega) ?_)
      have := l1 sel.length 0 (by omega)
      simp only [List.take_zero, withKey, List.filter_nil, valsOf, List.flatMap_nil, List.append_nil] at this
      exact this
    | succ d ih =>
      intro i hd
      have ih := ih (i + 1) (by omega)
      rw [List.range_succ, List.map_append, List.map_singleton] at ih
      refine Ev.step (fun k => by rw [spec_l2Alone.l0]) (ev_if_pos (by omega) (ev_if_pos (by simp; omega) ?_))
      rw [zAt_str i (by omega), w64 (by omega) (by omega)]
      exact ih
  unfold spec_l2Alone.f
  exact l0 60 0 rfl
end
theorem selB_small {sel : List ITerm} (h : selB sel = true) : sel.length ≤ 8 ∧ ∀ t ∈ sel, termB t = true ∧ t.f2.length ≤ 6 := by
  simp only [selB, Bool.and_eq_true, decide_eq_true_eq] at h
  refine ⟨by omega, fun t ht => ?_⟩
  obtain ⟨i, hi, rfl⟩ := List.getElem_of_mem ht
  have h1 := allN_true.1 h.1 i hi
  rw [rdIT hi] at h1
  refine ⟨h1, ?_⟩
  simp only [termB, Bool.and_eq_true] at h1
  have := kindB_le h1.2.2
  omega
theorem specNever_ev (sel : List ITerm) (hw : wfITerms sel) : Ev (fun k => spec_Never.f k sel) (neverB sel) := by
  unfold spec_Never.f neverB
  cases hs : selB sel with
  | false =>
    rw [Bool.false_and]
    have hj : ∀ j : Int, Ev (fun k => spec_Never.j1 k sel j false) false := fun j => Ev.step (fun k => by rw [spec_Never.j1]) (ev_if_neg (by simp) (Ev.now _))
    refine Ev.step (fun k => by rw [spec_Never.l0]) (ev_if (fun _ => Ev.bind (specSelectorOk_ev sel hw) ?_) (fun _ => hj 0))
    rw [hs]; exact hj 0
  | true =>
    rw [Bool.true_and]
    obtain ⟨h8, ht⟩ := selB_small hs
    have key := loop_any (g := fun k i => spec_Never.l0 k sel i) sel.length (fun i => !possB (withKey (rd_T52 sel i).f1 sel)) ?_ ?_ ?_
    · refine ev_rw key ?_
      rw [Bool.eq_iff_iff, Bool.not_eq_true', ← Bool.not_eq_true, allN_true, List.any_eq_true]
      constructor
      · intro h
        refine Classical.byContradiction fun hn => h fun i hi => ?_
        rw [Bool.not_eq_true', ← Bool.not_eq_true]
        intro hh
        exact hn ⟨sel[i], List.getElem_mem hi, by rw [rdIT hi] at hh; exact hh⟩
      · rintro ⟨t, htm, hh⟩ hall
        obtain ⟨i, hi, rfl⟩ := List.getElem_of_mem htm
        have := hall i hi
        rw [rdIT hi, hh] at this
        cases this
    · intro i hi hok r hr
      refine Ev.step (fun k => by rw [spec_Never.l0]) (ev_if_pos (by omega) (Ev.bind (specSelectorOk_ev sel hw) ?_))
      rw [hs]
      refine Ev.step (fun k => by rw [spec_Never.j1]) (ev_if_pos rfl (ev_if_pos (by omega) (ev_if_pos (by omega) ?_)))
      refine Ev.bind (alone_ev sel _ h8 (fun t h => (ht t h).2)) ?_
      rw [wsucc hi (by omega)]
      exact ev_if_neg (by rw [hok]; simp) hr
    · intro i hi hok
      refine Ev.step (fun k => by rw [spec_Never.l0]) (ev_if_pos (by omega) (Ev.bind (specSelectorOk_ev sel hw) ?_))
      rw [hs]
      refine Ev.step (fun k => by rw [spec_Never.j1]) (ev_if_pos rfl (ev_if_pos (by omega) (ev_if_pos (by omega) ?_)))
      exact Ev.bind (alone_ev sel _ h8 (fun t h => (ht t h).2)) (ev_if_pos hok (Ev.now _))
    · refine Ev.step (fun k => by rw [spec_Never.l0]) (ev_if_neg (by omega) (Ev.step (fun k => by rw [spec_Never.j1]) (ev_if_neg (by simp) (Ev.now _))))
/-! ### the program's -/
theorem labGet_nil (key : ByteArray) : labGet [] key = (⟨#[]⟩, false) := rfl
theorem labGet_one (key v : ByteArray) : labGet [⟨key, v⟩] key = (v, true) := by
  have e : rd_T56 [(⟨key, v⟩ : ILab)] ((0 : Nat) : Int) = ⟨key, v⟩ := rfl
  have e0 : rd_T56 [(⟨key, v⟩ : ILab)] 0 = ⟨key, v⟩ := rfl
  simp [labGet, e, e0, List.range_succ]
theorem holdB_no (k : Int) (a b : Bool) : holdB k false a = holdB k false b := by unfold holdB; simp
theorem try_ev (ts : List ITerm) (ls : List ILab) (v : ByteArray) (has : Bool) (h6 : ∀ t ∈ ts, t.f2.length ≤ 6) (hl : ls.length ≤ 1)
    (hg : ∀ t ∈ ts, holdsB t ls = holdB t.f0 has (amongB t.f2 v)) : Ev (fun k => nvTry k ts ls) (okAt ts v has) := by
  unfold nvTry
  obtain ⟨r, hr, he⟩ := idxO_ev (p := fun k (x : ITerm) => (impl_holds.f k x.f0 x.f1 x.f2 ls).map (!·)) (q := fun x => !holdsB x ls) ts 0 (fun x hx =>
    ev_map (!·) (implHolds_ev x ls (by have := h6 x hx; omega) (by omega)))
  refine Ev.bind hr (ev_some ?_)
  rw [he]
  unfold okAt
  rw [Bool.eq_iff_iff, Bool.not_eq_true', List.any_eq_false, List.all_eq_true]
  constructor
  · intro h t ht; have := h t ht; rw [hg t ht] at this; simpa using this
  · intro h t ht; rw [hg t ht, h t ht]; simp
theorem withKey_nv (key : ByteArray) (sel : List ITerm) : nvTs key sel = withKey key sel := by
  unfold nvTs withKey
  refine List.filter_congr (fun t _ => ?_)
  rw [Bool.eq_iff_iff, beq_iff_eq, decide_eq_true_iff, bl_eq]
theorem nvOk_sel {sel : List ITerm} (h : selB sel = true) : nvOk sel = true := by
  obtain ⟨h8, ht⟩ := selB_small h
  simp only [nvOk, Bool.and_eq_true, decide_eq_true_eq, List.all_eq_true]
  refine ⟨h8, fun t htm => ⟨(ht t htm).2, fun s hs => ?_⟩⟩
  have h1 := (ht t htm).1
  simp only [termB, Bool.and_eq_true] at h1
  obtain ⟨i, hi, rfl⟩ := List.getElem_of_mem hs
  have h2 := namOk_name (allN_true.1 h1.1 i hi)
  rw [rdS hi] at h2
  simp only [nameB, Bool.and_eq_true] at h2
  have := inB_true h2.2.1; omega
theorem idxO_any {α : Type} {p : Nat → α → Option Bool} {q : α → Bool} (l : List α) (h : ∀ x ∈ l, Ev (fun k => p k x) (q x)) : ∃ r, Ev (fun k => idxO (p k) l 0) r ∧ decide (0 ≤ r) = l.any q := idxO_ev l 0 h
theorem all_ev (sel : List ITerm) (hs : selB sel = true) (x : ITerm) : Ev (fun k => nvAll k sel x) (!possB (withKey x.f1 sel)) := by
  obtain ⟨h8, ht⟩ := selB_small hs
  unfold nvAll
  rw [withKey_nv]
  have h6' : ∀ t ∈ withKey x.f1 sel, t.f2.length ≤ 6 := fun t h => (ht t (List.mem_filter.1 h).1).2
  have hkey : ∀ t ∈ withKey x.f1 sel, t.f1 = x.f1 := fun t h => by simpa using (List.mem_filter.1 h).2
  have hone : ∀ v, Ev (fun k => nvTry k (withKey x.f1 sel) [⟨x.f1, v⟩]) (okAt (withKey x.f1 sel) v true) := fun v =>
    try_ev _ _ v true h6' (by simp) (fun t h => by unfold holdsB; rw [hkey t h, labGet_one])
  have hnone : Ev (fun k => nvTry k (withKey x.f1 sel) []) (okAt (withKey x.f1 sel) ByteArray.empty false) :=
    try_ev _ _ _ false h6' (by simp) (fun t h => by unfold holdsB; rw [labGet_nil]; exact holdB_no _ _ _)
  obtain ⟨r, hr, he⟩ := idxO_any (p := fun k => nvTry k (withKey x.f1 sel)) (q := fun ls => match ls with | [] => okAt (withKey x.f1 sel) ByteArray.empty false | l :: _ => okAt (withKey x.f1 sel) l.f1 true) (nvTries (withKey x.f1 sel) x.f1) (fun ls hm => by
    unfold nvTries at hm
    simp only [List.cons_append, List.mem_cons, List.mem_append, List.mem_map, List.mem_singleton] at hm
    rcases hm with rfl | ⟨v, _, rfl⟩ | hm
    · exact hnone
    · exact hone v
    · rcases hm with rfl | hm
      · exact hone _
      · cases hm)
  refine ev_rw (ev_map (fun i => !decide (0 ≤ i)) hr) ?_
  rw [he, ← possB_impl]
  unfold nvTries
  rw [List.cons_append, List.any_cons, List.any_append, List.any_map, List.any_cons, List.any_nil, Bool.or_false]
  rfl
theorem implNever_ev (sel : List ITerm) (hw : wfITerms sel) : Ev (fun k => impl_Never.f k sel) (neverB sel) := by
  unfold impl_Never.f neverB
  refine Ev.bind (implSelectorOk_ev sel hw) ?_
  cases hs : selB sel with
  | false => rw [Bool.false_and]; exact ev_if_neg (by simp) (Ev.now _)
  | true =>
    rw [Bool.true_and]
    obtain ⟨r, hr, he⟩ := idxO_any (p := fun k => nvAll k sel) (q := fun t => !possB (withKey t.f1 sel)) sel (fun x hx => all_ev sel hs x)
    exact ev_if_pos rfl (ev_if_pos (nvOk_sel hs) (Ev.bind hr (ev_some he)))
end Go.Proofs.Ytpjpnppoejnafaa.G

/- G85 -/
-- Laid by wip/g/gprint.py out of the translation, by the kit's print program. Lean checks it.
namespace Go.Proofs.Ytpjpnppoejnafaa.G
open Go.RowKit Go.Proofs.YtpjpnppoejnafaaW.PrintWords Go.Proofs.YtpjpnppoejnafaaW.PrintLast Go.Proofs.YtpjpnppoejnafaaW.PrintMore
attribute [local go_sem] max2_int min2_int max_two min_two max_three min_three max_four min_four   -- for this text's walks alone
set_option linter.unusedVariables false
set_option linter.unusedSimpArgs false

/-! ### laws_eqStringS: function 85 -/
def laws_eqStringS.l0 : Nat → List ByteArray → List ByteArray → Int → Option (Bool)
  | 0, _, _, _ => none
  | k + 1, x0, x1, x5 => if x5 < (x0.length : Int) then (if 0 ≤ x5 then (if x5 < (x1.length : Int) then (if (rdOf ByteArray.empty x0 x5).toList = (rdOf ByteArray.empty x1 x5).toList then (laws_eqStringS.l0 k x0 x1 (wrap64 (x5 + 1))) else (some false)) else (none)) else (none)) else (some true)
def laws_eqStringS.f (k : Nat) (l0 : List ByteArray) (l1 : List ByteArray) : Option (Bool) := if (l0.length : Int) = (l1.length : Int) then (laws_eqStringS.l0 k l0 l1 0) else (some false)
set_option maxHeartbeats 8000000 in
set_option maxRecDepth 100000 in
theorem laws_eqStringS.calls (k : Nat) (A0 : Option Addr) (c0 : Nat) (l0 : List ByteArray) (A1 : Option Addr) (c1 : Nat) (l1 : List ByteArray) (r : Bool) (w : World) (hr0 : Kd.C Kd.string w A0 l0.length l0) (hc0 : l0.length ≤ c0) (hr1 : Kd.C Kd.string w A1 l1.length l1) (hc1 : l1.length ≤ c1) (h : laws_eqStringS.f k l0 l1 = some r) :
    Calls Try.prog 85 #[.slice A0 l0.length c0, .slice A1 l1.length c1] w fun e w' => e = .returned (.bool r) ∧ Drawn0 w w' := by
  have HR0 := Aside0.mk hr0
  have HC0 := Aside0.mk hc0
  clear hr0 hc0
  have HR1 := Aside0.mk hr1
  have HC1 := Aside0.mk hc1
  clear hr1 hc1
  have H : (if (l0.length : Int) = (l1.length : Int) then (laws_eqStringS.l0 k l0 l1 0) else (some false)) = some r := h
  clear h
  by_cases c3 : (l0.length : Int) = (l1.length : Int)
  · rw [if_pos c3] at H
    have c3b0 : ((l0.length : Int) == (l1.length : Int)) = true := beq_iff_eq.mpr c3
    have c3b1 : ((l0.length : Int) != (l1.length : Int)) = false := bne_eq_false_iff_eq.mpr c3
    have c3b2 : (l0.length == l1.length) = true := by first | simpa using c3 | (simp at c3 ⊢; omega)
    clear c3
    have H' := Aside0.mk H
    clear H
    go_enter Try.func85, Try.ntmps85
    go_wp2
    repeat (go_quiet (fail); try go_wp2)
    go_loopg [5] k (fun kq v5 w' => ∃ (x5_1 : Int), v5 = .int .i64 x5_1 ∧ Aside0 (laws_eqStringS.l0 kq l0 l1 x5_1 = some r) ∧ Aside0 (kq ≤ k) ∧ Drawn0 w w')
    case atStart => exact ⟨(0), (by first | rfl | (simp; done) | (simp [*]; done)), H', ⟨Nat.le_refl _⟩, by repeat (first | exact Drawn0.refl _ | apply Drawn0.step)⟩
    case round =>
      clear H'
      try clear c1
      try clear p2
      try clear c3
      try clear c3b0
      try clear c3b1
      try clear c3b2
      obtain ⟨x5_1, rfl, HA, HK1, ⟨m1, rfl⟩⟩ := hrel
      cases gk with
      | zero => exact absurd HA.out (by simp [laws_eqStringS.l0])
      | succ k1 =>
        have H := HA.out
        clear HA
        simp only [laws_eqStringS.l0] at H
        by_cases c4 : x5_1 < (l0.length : Int)
        · rw [if_pos c4] at H
          have c4b0 : decide (x5_1 < (l0.length : Int)) = true := decide_eq_true c4
          clear c4
          by_cases c5 : 0 ≤ x5_1
          · rw [if_pos c5] at H
            have c5b0 : decide (0 ≤ x5_1) = true := decide_eq_true c5
            clear c5
            by_cases c6 : x5_1 < (l1.length : Int)
            · rw [if_pos c6] at H
              have c6b0 : decide (x5_1 < (l1.length : Int)) = true := decide_eq_true c6
              clear c6
              by_cases c7 : (rdOf ByteArray.empty l0 x5_1).toList = (rdOf ByteArray.empty l1 x5_1).toList
              · rw [if_pos c7] at H
                have c7b0 : ((rdOf ByteArray.empty l0 x5_1).toList == (rdOf ByteArray.empty l1 x5_1).toList) = true := beq_iff_eq.mpr c7
                have c7b1 : ((rdOf ByteArray.empty l0 x5_1).toList != (rdOf ByteArray.empty l1 x5_1).toList) = false := bne_eq_false_iff_eq.mpr c7
                clear c7
                have H' := Aside0.mk H
                clear H
                have p343 : 0 ≤ (x5_1 : Int) := of_decide_eq_true (by first | (with_reducible assumption) | assumption)
                have q343 : x5_1 < (l0.length : Int) := of_decide_eq_true (by first | (with_reducible assumption) | assumption)
                obtain ⟨ad343, e343, hx343_0⟩ := Kd.at_string HR0.out x5_1 p343 q343
                cases e343
                replace p343 := eq_true p343
                replace q343 := eq_true q343
                have p344 : 0 ≤ (x5_1 : Int) := of_decide_eq_true (by first | (with_reducible assumption) | assumption)
                have q344 : x5_1 < (l1.length : Int) := of_decide_eq_true (by first | (with_reducible assumption) | assumption)
                obtain ⟨ad344, e344, hx344_0⟩ := Kd.at_string HR1.out x5_1 p344 q344
                cases e344
                replace p344 := eq_true p344
                replace q344 := eq_true q344
                go_wp2
                repeat (go_quiet (fail); try go_wp2)
                go_roundg k1
                case measure => have := HK1.out; omega
                case rel => exact ⟨(wrap64 (x5_1 + 1)), (by first | rfl | (simp; done) | (simp [*]; done)), H', ⟨by have := HK1.out; omega⟩, by repeat (first | exact Drawn0.refl _ | apply Drawn0.step)⟩
              · rw [if_neg c7] at H
                have c7b0 : ((rdOf ByteArray.empty l0 x5_1).toList == (rdOf ByteArray.empty l1 x5_1).toList) = false := beq_eq_false_iff_ne.mpr c7
                have c7b1 : ((rdOf ByteArray.empty l0 x5_1).toList != (rdOf ByteArray.empty l1 x5_1).toList) = true := bne_iff_ne.mpr c7
                obtain rfl := Option.some.inj H
                have p343 : 0 ≤ (x5_1 : Int) := of_decide_eq_true (by first | (with_reducible assumption) | assumption)
                have q343 : x5_1 < (l0.length : Int) := of_decide_eq_true (by first | (with_reducible assumption) | assumption)
                obtain ⟨ad343, e343, hx343_0⟩ := Kd.at_string HR0.out x5_1 p343 q343
                cases e343
                replace p343 := eq_true p343
                replace q343 := eq_true q343
                have p344 : 0 ≤ (x5_1 : Int) := of_decide_eq_true (by first | (with_reducible assumption) | assumption)
                have q344 : x5_1 < (l1.length : Int) := of_decide_eq_true (by first | (with_reducible assumption) | assumption)
                obtain ⟨ad344, e344, hx344_0⟩ := Kd.at_string HR1.out x5_1 p344 q344
                cases e344
                replace p344 := eq_true p344
                replace q344 := eq_true q344
                go_wp2
                repeat (go_quiet (fail); try go_wp2)
                go_ret
                exact ⟨by first | rfl | (simp; done) | (simp [*]; done), by repeat (first | exact Drawn0.refl _ | apply Drawn0.step)⟩
            · rw [if_neg c6] at H
              exact absurd H (by simp)
          · rw [if_neg c5] at H
            exact absurd H (by simp)
        · rw [if_neg c4] at H
          have c4b0 : decide (x5_1 < (l0.length : Int)) = false := decide_eq_false c4
          clear c4
          obtain rfl := Option.some.inj H
          go_wp2
          repeat (go_quiet (fail); try go_wp2)
          go_ret
          exact ⟨by first | rfl | (simp; done) | (simp [*]; done), by repeat (first | exact Drawn0.refl _ | apply Drawn0.step)⟩
  · rw [if_neg c3] at H
    have c3b0 : ((l0.length : Int) == (l1.length : Int)) = false := beq_eq_false_iff_ne.mpr c3
    have c3b1 : ((l0.length : Int) != (l1.length : Int)) = true := bne_iff_ne.mpr c3
    have c3b2 : (l0.length == l1.length) = false := by first | simpa using c3 | (simp at c3 ⊢; omega)
    obtain rfl := Option.some.inj H
    go_enter Try.func85, Try.ntmps85
    go_wp2
    repeat (go_quiet (fail); try go_wp2)
    go_ret
    exact ⟨by first | rfl | (simp; done) | (simp [*]; done), by repeat (first | exact Drawn0.refl _ | apply Drawn0.step)⟩

end Go.Proofs.Ytpjpnppoejnafaa.G
