import Derived.Test.YtpjpnppoejnafaaDoorMFnExactParseSelectorCard1
import Derived.Test.YtpjpnppoejnafaaDoorProg
import Derived.Shelf.Vars
import Derived.Test.YtpjpnppoejnafaaDoorShelf
import Derived.Lib.SplitLaws
import Derived.Test.YtpjpnppoejnafaaDoorMFnExactParseSelectorCard4
import Derived.Test.YtpjpnppoejnafaaDoorMFnExactParseSelectorCard3
import Derived.Lib.IndexLaws
/- G34 -/
-- Laid by wip/g/gprint.py out of the translation, by the kit's print program. Lean checks it.
namespace Go.Proofs.YtpjpnppoejnafaaDoor.G
open Go.RowKit Go.Proofs.YtpjpnppoejnafaaDoorW.PrintWords Go.Proofs.YtpjpnppoejnafaaDoorW.PrintLast Go.Proofs.YtpjpnppoejnafaaDoorW.PrintMore
attribute [local go_sem] max2_int min2_int max_two min_two max_three min_three max_four min_four   -- for this text's walks alone
set_option linter.unusedVariables false
set_option linter.unusedSimpArgs false

/-! ### spec_l1Split: function 34 -/
def spec_l1Split.l0 : Nat → ByteArray → Int → List ByteArray → Int → Int → Option (List ByteArray)
  | 0, _, _, _, _, _ => none
  | k + 1, x0, x1, x5, x6, x7 => if x7 ≤ (x0.size : Int) then (if x7 = (x0.size : Int) then (if 0 ≤ x6 then (if x6 ≤ x7 then (if x5.length < 8796093022208 then (spec_l1Split.l0 k x0 x1 (x5 ++ [x0.extract (x6 : Int).toNat (x7 : Int).toNat]) (wrap64 (x7 + 1)) (wrap64 (x7 + 1))) else (none)) else (none)) else (none)) else (if 0 ≤ x7 then (if x7 < (x0.size : Int) then (if (bt x0 x7) = x1 then (if 0 ≤ x6 then (if x6 ≤ x7 then (if x5.length < 8796093022208 then (spec_l1Split.l0 k x0 x1 (x5 ++ [x0.extract (x6 : Int).toNat (x7 : Int).toNat]) (wrap64 (x7 + 1)) (wrap64 (x7 + 1))) else (none)) else (none)) else (none)) else (spec_l1Split.l0 k x0 x1 x5 x6 (wrap64 (x7 + 1)))) else (none)) else (none))) else (some x5)
def spec_l1Split.f (k : Nat) (a0 : ByteArray) (a1 : Int) : Option (List ByteArray) := spec_l1Split.l0 k a0 a1 (([] : List ByteArray)) 0 0
set_option maxHeartbeats 8000000 in
set_option maxRecDepth 100000 in
theorem spec_l1Split.calls (k : Nat) (a0 : ByteArray) (a1 : Int) (r : List ByteArray) (w : World) (h : spec_l1Split.f k a0 a1 = some r) :
    Calls Tryd.prog 34 #[.string a0, .int .u8 a1] w fun e w' => ∃ v0_ : Value, e = .returned (v0_) ∧ Kd.R Kd.string 9 w' w.heap.size (fun _ => True) v0_ r ∧ Below w.heap.size w w' := by
  have HB := Aside0.mk (Below.refl w.heap.size w)
  have H : (spec_l1Split.l0 k a0 a1 (([] : List ByteArray)) 0 0) = some r := h
  clear h
  obtain ⟨y101, hy101⟩ : ∃ y_ : List ByteArray, y_ = (([] : List ByteArray)) := ⟨_, rfl⟩
  replace H : (spec_l1Split.l0 k a0 a1 y101 0 0) = some r := by first | (rw [hy101]; with_reducible exact H) | (have H2_ := (Option.bind_some _ _).symm.trans H; rw [hy101]; with_reducible exact H2_) | (have H2_ := (Option.bind_some _ _).symm.trans H; with_reducible exact H2_) | with_reducible exact H | (rw [hy101]; exact H) | exact H
  have Ny101 := Aside0.mk hy101
  clear hy101
  have H' := Aside0.mk H
  clear H
  go_enter Tryd.func34, Tryd.ntmps34
  go_wp2_with (first | ((with_reducible refine gate_dst (N := 8) rfl ?_); refine Kd.R_lit Kd.string _ 9 ?hg (N := 8) ?hd (xs := ([] : List ByteArray)) (inner := []) (ok := fun _ => True) (okp := fun _ => True) ?hr ?hp (fun _ hk => hk) trivial (Below.refl _ _) (Nat.le_refl _) (by simp) ?_; (case hd => rfl); (case hg => rfl); (case hr => first | (go_simp; done) | (go_simp; rfl)); (case hp => exact (Reps.none _ _)); intro v102 w3 ho4 hb hg_ hnew_; clear hg_ hnew_; (first | rw [← Ny101.out] at ho4 | (simp only [Int.reduceToNat] at ho4; rw [← Ny101.out] at ho4)); have n0_ := Aside0.mk (Kd.R_lower ho4 (below_size (by repeat (first | (with_reducible first | exact HB.out | apply below_alloc | apply pw_below_drewN | apply below_drew1) | exact HB.out)))); have n1_ := Aside0.mk (below_step (by repeat (first | (with_reducible first | exact HB.out | apply below_alloc | apply pw_below_drewN | apply below_drew1) | exact HB.out)) hb); clear HB; have HO103 := n0_; have HB := n1_; clear n0_ n1_; clear hb ho4))
  go_loopg [5, 6, 7] k (fun kq v5 v6 v7 w' => ∃ (x5_1 : List ByteArray) (x6_1 : Int) (x7_1 : Int), v6 = .int .i64 x6_1 ∧ v7 = .int .i64 x7_1 ∧ Aside0 (spec_l1Split.l0 kq a0 a1 x5_1 x6_1 x7_1 = some r) ∧ Aside0 (kq ≤ k) ∧ Aside0 (Kd.R Kd.string 9 w' w.heap.size (fun _ => True) v5 x5_1) ∧ Aside0 (Below w.heap.size w w'))
  case atStart => exact ⟨(y101), (0), (0), (by first | rfl | (simp; done) | (simp [*]; done)), (by first | rfl | (simp; done) | (simp [*]; done)), H', ⟨Nat.le_refl _⟩, ⟨by (with_reducible repeat (first | apply Kd.R_alloc | apply Kd.R_drewN | apply Kd.R_drew)); exact HO103.out⟩, ⟨by repeat (first | (with_reducible first | exact HB.out | apply below_alloc | apply pw_below_drewN | apply below_drew1) | exact HB.out)⟩⟩
  case round =>
    clear H'
    try clear p2
    try clear c3
    obtain ⟨x5_1, x6_1, x7_1, rfl, rfl, HA, HK1, HO_5, HB⟩ := hrel
    cases gk with
    | zero => exact absurd HA.out (by simp [spec_l1Split.l0])
    | succ k1 =>
      have H := HA.out
      clear HA
      simp only [spec_l1Split.l0] at H
      by_cases c5 : x7_1 ≤ (a0.size : Int)
      · rw [if_pos c5] at H
        have c5b0 : decide (x7_1 ≤ (a0.size : Int)) = true := decide_eq_true c5
        clear c5
        by_cases c6 : x7_1 = (a0.size : Int)
        · rw [if_pos c6] at H
          have c6b0 : (x7_1 == (a0.size : Int)) = true := beq_iff_eq.mpr c6
          have c6b1 : (x7_1 != (a0.size : Int)) = false := bne_eq_false_iff_eq.mpr c6
          clear c6
          by_cases c7 : 0 ≤ x6_1
          · rw [if_pos c7] at H
            have c7b0 := eq_true c7
            have c7b1 : decide (0 ≤ x6_1) = true := decide_eq_true c7
            clear c7
            by_cases c8 : x6_1 ≤ x7_1
            · rw [if_pos c8] at H
              have c8b0 := eq_true c8
              have c8b1 : decide (x6_1 ≤ x7_1) = true := decide_eq_true c8
              clear c8
              have c9b0 := eq_true (of_decide_eq_true (by first | (with_reducible assumption) | assumption) : x7_1 ≤ (a0.size : Int))
              by_cases c10 : x5_1.length < 8796093022208
              · rw [if_pos c10] at H
                have LMc10 := Aside0.mk c10
                clear c10
                obtain ⟨y104, hy104⟩ : ∃ y_ : List ByteArray, y_ = (x5_1 ++ [a0.extract (x6_1 : Int).toNat (x7_1 : Int).toNat]) := ⟨_, rfl⟩
                replace H : (spec_l1Split.l0 k1 a0 a1 y104 (wrap64 (x7_1 + 1)) (wrap64 (x7_1 + 1))) = some r := by first | (rw [hy104]; with_reducible exact H) | (have H2_ := (Option.bind_some _ _).symm.trans H; rw [hy104]; with_reducible exact H2_) | (have H2_ := (Option.bind_some _ _).symm.trans H; with_reducible exact H2_) | with_reducible exact H | (rw [hy104]; exact H) | exact H
                have Ny104 := Aside0.mk hy104
                clear hy104
                have H' := Aside0.mk H
                clear H
                go_wp2_with (first | ((with_reducible refine gate_builtin (b := .append) (xs := #[.tmp 26, .tmp 31]) rfl ?_); at_builtin; refine Kd.R_append Kd.string (w0 := w) w.heap.size rfl (.tmp 26) (.tmp 31) 51 9 (.string ⟨#[]⟩) 16 rfl Tryd.underlying51 info9 rfl (by decide) (by omega) u5 x5_1 (a0.extract (x6_1 : Int).toNat (x7_1 : Int).toNat) [.string (a0.extract (x6_1 : Int).toNat (x7_1 : Int).toNat)] (fun _ => True) (fun _ => False) rfl rfl ?aP (fun _ hk => hk.elim) ?aF ?aO ?aB ?aS ?aL ?_; (case aP => exact rfl); (case aB => exact (by repeat (first | (with_reducible first | exact HB.out | apply below_alloc | apply pw_below_drewN | apply below_drew1) | exact HB.out))); (case aF => exact (fun _ _ => trivial)); (case aO => exact (by (with_reducible repeat (first | apply Kd.R_alloc | apply Kd.R_drewN | apply Kd.R_drew)); exact HO_5.out)); (case aS => exact (below_size (by repeat (first | (with_reducible first | exact HB.out | apply below_alloc | apply pw_below_drewN | apply below_drew1) | exact HB.out)))); (case aL => have := LMc10.out; omega); intro v105 w11 ho hb hg hat; rw [← Ny104.out] at ho; have n0_ := Aside0.mk (hb); have n1_ := Aside0.mk (ho); clear HB; clear HO_5; have HB := n0_; have HO106 := n1_; clear n0_ n1_; clear ho hb hg hat))
                go_roundg k1
                case measure => have := HK1.out; omega
                case rel => exact ⟨(y104), (wrap64 (x7_1 + 1)), (wrap64 (x7_1 + 1)), (by first | rfl | (simp; done) | (simp [*]; done)), (by first | rfl | (simp; done) | (simp [*]; done)), H', ⟨by have := HK1.out; omega⟩, ⟨by (with_reducible repeat (first | apply Kd.R_alloc | apply Kd.R_drewN | apply Kd.R_drew)); exact HO106.out⟩, ⟨by repeat (first | (with_reducible first | exact HB.out | apply below_alloc | apply pw_below_drewN | apply below_drew1) | exact HB.out)⟩⟩
              · rw [if_neg c10] at H
                exact absurd H (by simp)
            · rw [if_neg c8] at H
              exact absurd H (by simp)
          · rw [if_neg c7] at H
            exact absurd H (by simp)
        · rw [if_neg c6] at H
          have c6b0 : (x7_1 == (a0.size : Int)) = false := beq_eq_false_iff_ne.mpr c6
          have c6b1 : (x7_1 != (a0.size : Int)) = true := bne_iff_ne.mpr c6
          by_cases c12 : 0 ≤ x7_1
          · rw [if_pos c12] at H
            have c12b0 : decide (0 ≤ x7_1) = true := decide_eq_true c12
            clear c12
            by_cases c13 : x7_1 < (a0.size : Int)
            · rw [if_pos c13] at H
              have c13b0 : decide (x7_1 < (a0.size : Int)) = true := decide_eq_true c13
              clear c13
              by_cases c15 : (bt a0 x7_1) = a1
              · rw [if_pos c15] at H
                have c15b0 : ((bt a0 x7_1) == a1) = true := beq_iff_eq.mpr c15
                have c15b1 : ((bt a0 x7_1) != a1) = false := bne_eq_false_iff_eq.mpr c15
                clear c15
                by_cases c16 : 0 ≤ x6_1
                · rw [if_pos c16] at H
                  have c16b0 := eq_true c16
                  have c16b1 : decide (0 ≤ x6_1) = true := decide_eq_true c16
                  clear c16
                  by_cases c17 : x6_1 ≤ x7_1
                  · rw [if_pos c17] at H
                    have c17b0 := eq_true c17
                    have c17b1 : decide (x6_1 ≤ x7_1) = true := decide_eq_true c17
                    clear c17
                    have c18b0 := eq_true (of_decide_eq_true (by first | (with_reducible assumption) | assumption) : x7_1 ≤ (a0.size : Int))
                    by_cases c19 : x5_1.length < 8796093022208
                    · rw [if_pos c19] at H
                      have LMc19 := Aside0.mk c19
                      clear c19
                      obtain ⟨y107, hy107⟩ : ∃ y_ : List ByteArray, y_ = (x5_1 ++ [a0.extract (x6_1 : Int).toNat (x7_1 : Int).toNat]) := ⟨_, rfl⟩
                      replace H : (spec_l1Split.l0 k1 a0 a1 y107 (wrap64 (x7_1 + 1)) (wrap64 (x7_1 + 1))) = some r := by first | (rw [hy107]; with_reducible exact H) | (have H2_ := (Option.bind_some _ _).symm.trans H; rw [hy107]; with_reducible exact H2_) | (have H2_ := (Option.bind_some _ _).symm.trans H; with_reducible exact H2_) | with_reducible exact H | (rw [hy107]; exact H) | exact H
                      have Ny107 := Aside0.mk hy107
                      clear hy107
                      have H' := Aside0.mk H
                      clear H
                      have p14 : 0 ≤ (x7_1 : Int) := of_decide_eq_true (by first | (with_reducible assumption) | assumption)
                      have q14 : x7_1 < (a0.size : Int) := of_decide_eq_true (by first | (with_reducible assumption) | assumption)
                      have hx14 := bt_at a0 x7_1
                      replace p14 := eq_true p14
                      replace q14 := eq_true q14
                      go_wp2_with (first | ((with_reducible refine gate_builtin (b := .append) (xs := #[.tmp 26, .tmp 31]) rfl ?_); at_builtin; refine Kd.R_append Kd.string (w0 := w) w.heap.size rfl (.tmp 26) (.tmp 31) 51 9 (.string ⟨#[]⟩) 16 rfl Tryd.underlying51 info9 rfl (by decide) (by omega) u5 x5_1 (a0.extract (x6_1 : Int).toNat (x7_1 : Int).toNat) [.string (a0.extract (x6_1 : Int).toNat (x7_1 : Int).toNat)] (fun _ => True) (fun _ => False) rfl rfl ?aP (fun _ hk => hk.elim) ?aF ?aO ?aB ?aS ?aL ?_; (case aP => exact rfl); (case aB => exact (by repeat (first | (with_reducible first | exact HB.out | apply below_alloc | apply pw_below_drewN | apply below_drew1) | exact HB.out))); (case aF => exact (fun _ _ => trivial)); (case aO => exact (by (with_reducible repeat (first | apply Kd.R_alloc | apply Kd.R_drewN | apply Kd.R_drew)); exact HO_5.out)); (case aS => exact (below_size (by repeat (first | (with_reducible first | exact HB.out | apply below_alloc | apply pw_below_drewN | apply below_drew1) | exact HB.out)))); (case aL => have := LMc19.out; omega); intro v108 w20 ho hb hg hat; rw [← Ny107.out] at ho; have n0_ := Aside0.mk (hb); have n1_ := Aside0.mk (ho); clear HB; clear HO_5; have HB := n0_; have HO109 := n1_; clear n0_ n1_; clear ho hb hg hat))
                      go_roundg k1
                      case measure => have := HK1.out; omega
                      case rel => exact ⟨(y107), (wrap64 (x7_1 + 1)), (wrap64 (x7_1 + 1)), (by first | rfl | (simp; done) | (simp [*]; done)), (by first | rfl | (simp; done) | (simp [*]; done)), H', ⟨by have := HK1.out; omega⟩, ⟨by (with_reducible repeat (first | apply Kd.R_alloc | apply Kd.R_drewN | apply Kd.R_drew)); exact HO109.out⟩, ⟨by repeat (first | (with_reducible first | exact HB.out | apply below_alloc | apply pw_below_drewN | apply below_drew1) | exact HB.out)⟩⟩
                    · rw [if_neg c19] at H
                      exact absurd H (by simp)
                  · rw [if_neg c17] at H
                    exact absurd H (by simp)
                · rw [if_neg c16] at H
                  exact absurd H (by simp)
              · rw [if_neg c15] at H
                have c15b0 : ((bt a0 x7_1) == a1) = false := beq_eq_false_iff_ne.mpr c15
                have c15b1 : ((bt a0 x7_1) != a1) = true := bne_iff_ne.mpr c15
                have H' := Aside0.mk H
                clear H
                have p14 : 0 ≤ (x7_1 : Int) := of_decide_eq_true (by first | (with_reducible assumption) | assumption)
                have q14 : x7_1 < (a0.size : Int) := of_decide_eq_true (by first | (with_reducible assumption) | assumption)
                have hx14 := bt_at a0 x7_1
                replace p14 := eq_true p14
                replace q14 := eq_true q14
                go_wp2
                go_roundg k1
                case measure => have := HK1.out; omega
                case rel => exact ⟨(x5_1), (x6_1), (wrap64 (x7_1 + 1)), (by first | rfl | (simp; done) | (simp [*]; done)), (by first | rfl | (simp; done) | (simp [*]; done)), H', ⟨by have := HK1.out; omega⟩, ⟨by (with_reducible repeat (first | apply Kd.R_alloc | apply Kd.R_drewN | apply Kd.R_drew)); exact HO_5.out⟩, ⟨by repeat (first | (with_reducible first | exact HB.out | apply below_alloc | apply pw_below_drewN | apply below_drew1) | exact HB.out)⟩⟩
            · rw [if_neg c13] at H
              exact absurd H (by simp)
          · rw [if_neg c12] at H
            exact absurd H (by simp)
      · rw [if_neg c5] at H
        have c5b0 : decide (x7_1 ≤ (a0.size : Int)) = false := decide_eq_false c5
        clear c5
        obtain rfl := Option.some.inj H
        go_wp2
        go_ret
        exact ⟨_, by first | rfl | (simp [errW_none, errW_some] <;> rfl) | (simp [*, errW_none, errW_some] <;> rfl), by (with_reducible repeat (first | apply Kd.R_alloc | apply Kd.R_drewN | apply Kd.R_drew)); exact HO_5.out, by repeat (first | (with_reducible first | exact HB.out | apply below_alloc | apply pw_below_drewN | apply below_drew1) | exact HB.out)⟩

end Go.Proofs.YtpjpnppoejnafaaDoor.G

/- GKMini -/
/-
  Short words for what printed texts say again and again: facts carried into a world that has only grown by boxes and orders.
-/
namespace Go.Proofs.YtpjpnppoejnafaaDoor.G
open Go.RowKit Go.Proofs.YtpjpnppoejnafaaDoorW.PrintWords Go.Proofs.YtpjpnppoejnafaaDoorW.PrintLast Go.Proofs.YtpjpnppoejnafaaDoorW.PrintMore
set_option linter.unusedVariables false
/-- The second world is the first one, and boxes and orders since. -/
class Gr (W W' : World) : Prop where
  out : Below W.heap.size W W'
instance Gr.refl (W : World) : Gr W W := ⟨Below.refl _ _⟩
instance Gr.alloc (W W' : World) (o : Obj) [g : Gr W W'] : Gr W (W'.alloc o) := ⟨below_then g.out g.out.size (below_alloc (Below.refl _ _) o)⟩
instance Gr.drewN (W W' : World) (n : Nat) [g : Gr W W'] : Gr W (W'.drewN n) := ⟨pw_below_drewN g.out n⟩
instance Gr.drew (W W' : World) [g : Gr W W'] : Gr W W'.drew := ⟨below_drew g.out⟩
section
variable {w W W' : World} {α : Type} {d : Kd α} {A : Option Addr} {n g gb e base : Nat} {xs : List α} {o : Obj} {v : Value} {ok : Nat → Prop}
end
section
variable {W : World} {g t : Nat} {a0 a1 a2 a3 a4 a5 a6 : Value}
end
end Go.Proofs.YtpjpnppoejnafaaDoor.G

/- GKShape -/
/-
  A variable of the library's own that some calls read: its cell holds some number.
-/
namespace Go.Proofs.YtpjpnppoejnafaaDoor.G
open Go.RowKit Go.Proofs.YtpjpnppoejnafaaDoorW.PrintWords Go.Proofs.YtpjpnppoejnafaaDoorW.PrintLast Go.Proofs.YtpjpnppoejnafaaDoorW.PrintMore
set_option linter.unusedVariables false
def SH (w : World) : Prop := ∃ m, w.cell? ⟨0, 0, none⟩ = some (.int .i64 m)
theorem SH.below {w W : World} (h : SH w) (hb : Below w.heap.size w W) : SH W := by
  obtain ⟨m, hm⟩ := h
  exact ⟨m, pw_cell_below hb hm⟩
theorem SH.of {w : World} (h : w.ShapedOpen Tryd.prog) : SH w :=
  cell_of_shapedOpen_int h (t := 3) (zero := #[.int .i64 0]) (of_decide_eq_true (by kernel_rfl)) (by kernel_rfl) rfl (by kernel_rfl) (by kernel_rfl) Tryd.underlying3
end Go.Proofs.YtpjpnppoejnafaaDoor.G

/- G36 -/
-- Laid by wip/g/gprint.py out of the translation, by the kit's print program. Lean checks it.
namespace Go.Proofs.YtpjpnppoejnafaaDoor.G
open Go.RowKit Go.Proofs.YtpjpnppoejnafaaDoorW.PrintWords Go.Proofs.YtpjpnppoejnafaaDoorW.PrintLast Go.Proofs.YtpjpnppoejnafaaDoorW.PrintMore
attribute [local go_sem] max2_int min2_int max_two min_two max_three min_three max_four min_four   -- for this text's walks alone
set_option linter.unusedVariables false
set_option linter.unusedSimpArgs false

/-! ### strings_Split: function 36 -/
--IMPORT Derived.Test.YtpjpnppoejnafaaDoorShelf
--IMPORT Derived.Test.YtpjpnppoejnafaaDoorGKShape
--IMPORT Derived.Lib.SplitLaws
def strings_Split.f (a0 : ByteArray) (a1 : ByteArray) : Option (List ByteArray) :=
  if a0.size < 4294967281 ∧ 1 ≤ a1.size then some (Lib.splitB a1 0 (Lib.countB a0 a1) a0) else none
theorem strings_Split.calls (a0 : ByteArray) (a1 : ByteArray) (r : List ByteArray) (w : World) (hsh_ : SH w) (h : strings_Split.f a0 a1 = some r) :
    Calls Tryd.prog 36 #[.string a0, .string a1] w fun e w' => ∃ v0_ : Value, e = .returned (v0_) ∧ Kd.R Kd.string 9 w' w.heap.size (fun _ => True) v0_ r ∧ Below w.heap.size w w' := by
  unfold strings_Split.f at h
  obtain ⟨m, hm⟩ := hsh_
  by_cases hl : a0.size < 4294967281 ∧ 1 ≤ a1.size
  · rw [if_pos hl] at h
    obtain rfl := Option.some.inj h
    refine (Tryd.strings_Split a0 a1 m w hl.1 hm hl.2).mono ?_
    rintro e w' ⟨rfl, rfl⟩
    have hlen := Lib.splitB_all a1 hl.2 0 _ a0 rfl
    have hcl := Lib.countB_le a1 hl.2 _ a0 (Nat.le_refl _)
    have ho := own_lit_of (enc := Value.string) w w.heap.size 9 (Lib.splitB a1 0 (Lib.countB a0 a1) a0) (Nat.le_refl _) (by omega)
    rw [hlen] at ho
    exact ⟨_, rfl, Kd.R_of_own (h1 := fun _ => rfl) (by rw [hlen]; exact ho) (fun _ _ => trivial), below_alloc (Below.refl _ _) _⟩
  · rw [if_neg hl] at h
    cases h

end Go.Proofs.YtpjpnppoejnafaaDoor.G

/- PSplit -/
/-
  A text split by a byte: the reference's way and the library's come to one list; its parts joined are the text again.
-/
namespace Go.Proofs.YtpjpnppoejnafaaDoor.G
open Go.RowKit Go.Proofs.YtpjpnppoejnafaaDoorW.PrintWords Go.Proofs.YtpjpnppoejnafaaDoorW.PrintLast Go.Proofs.YtpjpnppoejnafaaDoorW.PrintMore
set_option linter.unusedVariables false
set_option linter.unusedSimpArgs false
def spl (c : UInt8) : List UInt8 → List (List UInt8)
  | [] => [[]]
  | b :: t => if b = c then [] :: spl c t else match spl c t with
    | [] => [[b]]
    | x :: xs => (b :: x) :: xs
theorem spl_ne (c : UInt8) (l : List UInt8) : spl c l ≠ [] := by
  cases l with
  | nil => simp [spl]
  | cons b t =>
    rw [spl]
    split
    · simp
    · split <;> simp
/-- With something ahead of the first part. -/
def splP (c : UInt8) (pre : List UInt8) (l : List UInt8) : List (List UInt8) := match spl c l with
  | [] => [pre]
  | x :: xs => (pre ++ x) :: xs
theorem splP_nil (c : UInt8) (l : List UInt8) : splP c [] l = spl c l := by
  unfold splP
  split
  · rename_i h; exact absurd h (spl_ne c l)
  · rename_i h; rw [h]; rfl
theorem splP_hit (c : UInt8) (pre t : List UInt8) : splP c pre (c :: t) = pre :: spl c t := by
  unfold splP
  rw [spl, if_pos rfl]; simp
theorem splP_miss (c b : UInt8) (pre t : List UInt8) (h : b ≠ c) : splP c pre (b :: t) = splP c (pre ++ [b]) t := by
  unfold splP
  rw [spl, if_neg h]
  cases hs : spl c t with
  | nil => exact absurd hs (spl_ne c t)
  | cons x xs => simp
theorem splP_end (c : UInt8) (pre : List UInt8) : splP c pre [] = [pre] := by simp [splP, spl]
theorem spl_length (c : UInt8) : ∀ l : List UInt8, (spl c l).length ≤ l.length + 1
  | [] => by simp [spl]
  | b :: t => by
    have := spl_length c t
    rw [spl]
    split
    · simp; omega
    · split
      · simp
      · rename_i h; rw [h] at this; simp at this ⊢; omega
/-- A part is no longer than the text. -/
theorem spl_part (c : UInt8) : ∀ (l x : List UInt8), x ∈ spl c l → x.length ≤ l.length
  | [], x, h => by simp [spl] at h; simp [h]
  | b :: t, x, h => by
    have ih := spl_part c t
    rw [spl] at h
    split at h
    · rcases List.mem_cons.1 h with rfl | h
      · simp
      · have := ih x h; simp; omega
    · split at h
      · simp at h; simp [h]
      · rename_i y ys hy
        rcases List.mem_cons.1 h with rfl | h
        · have := ih y (by rw [hy]; simp); simp; omega
        · have := ih x (by rw [hy]; simp [h]); simp; omega
theorem spl_none (c : UInt8) : ∀ (l : List UInt8), c ∉ l → spl c l = [l]
  | [], _ => rfl
  | b :: t, h => by
    simp only [List.mem_cons, not_or] at h
    rw [spl, if_neg (fun e => h.1 e.symm), spl_none c t h.2]
theorem spl_app (c : UInt8) : ∀ (l t : List UInt8), c ∉ l → spl c (l ++ c :: t) = l :: spl c t
  | [], t, _ => by rw [List.nil_append, spl, if_pos rfl]
  | b :: l, t, h => by
    simp only [List.mem_cons, not_or] at h
    rw [List.cons_append, spl, if_neg (fun e => h.1 e.symm), spl_app c l t h.2]
theorem join_cons (x : List UInt8) (xs : List (List UInt8)) (s : List UInt8) (h : xs ≠ []) : Lib.join (x :: xs) s = x ++ s ++ Lib.join xs s := by
  cases xs with
  | nil => exact absurd rfl h
  | cons y ys => simp [Lib.join]
/-- Parts without the byte, joined by it, are found again. -/
theorem spl_join (c : UInt8) : ∀ (xs : List (List UInt8)), xs ≠ [] → (∀ x ∈ xs, c ∉ x) → spl c (Lib.join xs [c]) = xs
  | [], h, _ => absurd rfl h
  | [x], _, h => by
    rw [show Lib.join [x] [c] = x by simp [Lib.join]]
    exact spl_none c x (h x (by simp))
  | x :: y :: ys, _, h => by
    rw [join_cons _ _ _ (by simp), List.append_assoc, List.singleton_append, spl_app c x _ (h x (by simp)), spl_join c (y :: ys) (by simp) (fun z hz => h z (by simp [hz]))]
/-! ### the library's -/
theorem spl_index (c : UInt8) : ∀ (l : List UInt8), (Lib.index l [c] = -1 → spl c l = [l]) ∧ ∀ i : Nat, Lib.index l [c] = i → spl c l = l.take i :: spl c (l.drop (i + 1))
  | [] => by
    refine ⟨fun _ => rfl, fun i h => ?_⟩
    simp [Lib.index] at h
  | b :: t => by
    obtain ⟨h1, h2⟩ := spl_index c t
    rw [Lib.index]
    by_cases hb : b = c
    · subst hb
      have hp : List.isPrefixOf [b] (b :: t) = true := by simp [List.isPrefixOf]
      rw [if_pos hp]
      refine ⟨fun h => by omega, fun i h => ?_⟩
      obtain rfl : i = 0 := by omega
      rw [spl, if_pos rfl]; simp
    · have hp : ¬ List.isPrefixOf [c] (b :: t) = true := by
        simp [List.isPrefixOf]; exact fun e => hb e.symm
      rw [if_neg hp]
      by_cases hm : Lib.index t [c] = -1
      · rw [if_pos (beq_iff_eq.2 hm)]
        refine ⟨fun _ => ?_, fun i h => by omega⟩
        rw [spl, if_neg hb, h1 hm]
      · rw [if_neg (fun e => hm (beq_iff_eq.1 e))]
        obtain ⟨j, hj⟩ : ∃ j : Nat, Lib.index t [c] = j := by
          rcases Lib.index_spec t [c] with h | ⟨j, h, _⟩
          · exact absurd h.1 hm
          · exact ⟨j, h⟩
        refine ⟨fun h => by omega, fun i h => ?_⟩
        obtain rfl : i = j + 1 := by omega
        rw [spl, if_neg hb, h2 j hj]; simp
theorem splitK_spl (c : UInt8) : ∀ (k : Nat) (l : List UInt8), Lib.count l [c] = k → Lib.splitK [c] 0 k l = spl c l
  | 0, l, h => by
    rcases Lib.index_spec l [c] with hm | ⟨i, hi, _⟩
    · rw [Lib.splitK, (spl_index c l).1 hm.1]
    · rw [Lib.count_hit (by simp) hi] at h; omega
  | k + 1, l, h => by
    rw [Lib.splitK]
    rcases Lib.index_spec l [c] with hm | ⟨i, hi, _⟩
    · rw [if_pos (beq_iff_eq.2 hm.1), (spl_index c l).1 hm.1]
    · rw [Lib.count_hit (by simp) hi] at h
      have e : (Lib.index l [c]).toNat = i := by omega
      rw [if_neg (fun e => by have := beq_iff_eq.1 e; omega), (spl_index c l).2 i hi, e, List.length_singleton, Nat.add_zero, splitK_spl c k _ (by rw [List.length_singleton] at h; omega)]
theorem splitB_spl (c : UInt8) (s : ByteArray) : Lib.splitB ⟨#[c]⟩ 0 (Lib.countB s ⟨#[c]⟩) s = (spl c s.data.toList).map mkb := by
  have h := Lib.splitB_data ⟨#[c]⟩ 0 (Lib.countB s ⟨#[c]⟩) s
  have e : Lib.splitK [c] 0 (Lib.countB s ⟨#[c]⟩) s.data.toList = spl c s.data.toList := splitK_spl c _ _ rfl
  have h2 : (Lib.splitB ⟨#[c]⟩ 0 (Lib.countB s ⟨#[c]⟩) s).map (·.data.toList) = spl c s.data.toList := h.trans e
  rw [← h2, List.map_map]
  exact (List.map_id'' (fun x => mkb_of x) _).symm
theorem split_f (c : UInt8) (s : ByteArray) (h : s.size < 4294967281) : strings_Split.f s ⟨#[c]⟩ = some ((spl c s.data.toList).map mkb) := by
  unfold strings_Split.f
  rw [if_pos ⟨h, Nat.le_refl 1⟩, splitB_spl]
/-! ### the reference's -/
theorem l1Split_l0 (s : ByteArray) (c : UInt8) (hs : s.size ≤ 1099511627776) : ∀ (d i from_ : Nat) (ys : List ByteArray), i + d = s.size → from_ ≤ i → ys.length ≤ i →
    Ev (fun k => spec_l1Split.l0 k s (c.toNat : Int) ys from_ i) (ys ++ (splP c ((s.data.toList.drop from_).take (i - from_)) (s.data.toList.drop i)).map mkb)
  | 0, i, from_, ys, hd, hf, hy => by
    have hi : i = s.size := by omega
    refine Ev.step (fun k => by rw [spec_l1Split.l0]) (ev_if_pos (by omega) (ev_if_pos (by omega) (ev_if_pos (by omega) (ev_if_pos (by omega) (ev_if_pos (by omega) ?_)))))
    refine Ev.step (fun k => by rw [spec_l1Split.l0]) (ev_if_neg (by rw [w64 (by omega) (by omega)]; omega) (ev_some ?_))
    rw [List.drop_of_length_le (i := i) (by rw [← size_data]; omega), splP_end]
    simp only [Int.toNat_natCast, List.map_cons, List.map_nil]
    rw [← ext_data, mkb_of]
  | d + 1, i, from_, ys, hd, hf, hy => by
    have hi : i < s.data.toList.length := by rw [← size_data]; omega
    have e := List.drop_eq_getElem_cons hi
    by_cases hc : s.data.toList[i] = c
    · have ih := l1Split_l0 s c hs d (i + 1) (i + 1) (ys ++ [s.extract from_ i]) (by omega) (by omega) (by simp; omega)
      refine Ev.step (fun k => by rw [spec_l1Split.l0]) (ev_if_pos (by omega) (ev_if_neg (by omega) (ev_if_pos (by omega) (ev_if_pos (by omega) (ev_if_pos ((bt_byte s c hi).2 hc) (ev_if_pos (by omega) (ev_if_pos (by omega) (ev_if_pos (by omega) ?_))))))))
      rw [wsucc (n := s.size) (by omega) (by omega)]
      simp only [Int.toNat_natCast]
      refine ev_rw ih ?_
      rw [e, hc, splP_hit, Nat.sub_self, List.take_zero, splP_nil, List.map_cons, ← ext_data, mkb_of]
      simp
    · have ih := l1Split_l0 s c hs d (i + 1) from_ ys (by omega) (by omega) (by omega)
      refine Ev.step (fun k => by rw [spec_l1Split.l0]) (ev_if_pos (by omega) (ev_if_neg (by omega) (ev_if_pos (by omega) (ev_if_pos (by omega) (ev_if_neg (fun h => hc ((bt_byte s c hi).1 h)) ?_)))))
      rw [wsucc (n := s.size) (by omega) (by omega)]
      refine ev_rw ih ?_
      have e2 : (s.data.toList.drop from_).take (i + 1 - from_) = (s.data.toList.drop from_).take (i - from_) ++ [s.data.toList[i]] := by
        rw [show i + 1 - from_ = (i - from_) + 1 by omega, List.take_succ_eq_append_getElem (by rw [List.length_drop]; omega), List.getElem_drop]
        simp only [show from_ + (i - from_) = i by omega]
      rw [e, splP_miss c _ _ _ hc, e2]
theorem l1Split_ev (s : ByteArray) (c : UInt8) (hs : s.size ≤ 1099511627776) : Ev (fun k => spec_l1Split.f k s (c.toNat : Int)) ((spl c s.data.toList).map mkb) := by
  have h := l1Split_l0 s c hs s.size 0 0 [] (by omega) (by omega) (by simp)
  unfold spec_l1Split.f
  refine ev_rw h ?_
  simp only [Nat.sub_self, List.take_zero, List.drop_zero, List.nil_append]
  rw [splP_nil]
end Go.Proofs.YtpjpnppoejnafaaDoor.G

/- G39 -/
-- Laid by wip/g/gprint.py out of the translation, by the kit's print program. Lean checks it.
namespace Go.Proofs.YtpjpnppoejnafaaDoor.G
open Go.RowKit Go.Proofs.YtpjpnppoejnafaaDoorW.PrintWords Go.Proofs.YtpjpnppoejnafaaDoorW.PrintLast Go.Proofs.YtpjpnppoejnafaaDoorW.PrintMore
attribute [local go_sem] max2_int min2_int max_two min_two max_three min_three max_four min_four   -- for this text's walks alone
set_option linter.unusedVariables false
set_option linter.unusedSimpArgs false

/-! ### laws_markText: function 39 -/
def laws_markText.l0 : Nat → Int → ByteArray → Option (ByteArray)
  | 0, _, _ => none
  | k + 1, x0, x3 => if x0 > 0 then ((some (([(wrap64 (48 + (Int.tmod x0 10))) % 256] : List Int) : List Int)).bind fun y178 => (if (strOfNums y178).size + x3.size ≤ 9223372036854775807 then (laws_markText.l0 k (wrap64 (Int.tdiv x0 10)) ((strOfNums y178) ++ x3)) else (none))) else (if 1 + x3.size ≤ 9223372036854775807 then (some ((⟨#[109]⟩ : ByteArray) ++ x3)) else (none))
def laws_markText.f (k : Nat) (a0 : Int) : Option (ByteArray) := if a0 ≤ 0 then (some (⟨#[109, 48]⟩ : ByteArray)) else (laws_markText.l0 k a0 (⟨#[]⟩ : ByteArray))
set_option maxHeartbeats 8000000 in
set_option maxRecDepth 100000 in
theorem laws_markText.calls (k : Nat) (a0 : Int) (r : ByteArray) (w : World) (h : laws_markText.f k a0 = some r) :
    Calls Tryd.prog 39 #[.int .i64 a0] w fun e w' => e = .returned (.string r) ∧ Below w.heap.size w w' := by
  have HB := Aside0.mk (Below.refl w.heap.size w)
  have H : (if a0 ≤ 0 then (some (⟨#[109, 48]⟩ : ByteArray)) else (laws_markText.l0 k a0 (⟨#[]⟩ : ByteArray))) = some r := h
  clear h
  by_cases c2 : a0 ≤ 0
  · rw [if_pos c2] at H
    have c2b0 : decide (a0 ≤ 0) = true := decide_eq_true c2
    clear c2
    obtain rfl := Option.some.inj H
    go_enter Tryd.func39, Tryd.ntmps39
    go_wp2
    go_ret
    exact ⟨by first | rfl | (simp [errW_none, errW_some] <;> rfl) | (simp [*, errW_none, errW_some] <;> rfl), by repeat (first | (with_reducible first | exact HB.out | apply below_alloc | apply pw_below_drewN | apply below_drew1) | exact HB.out)⟩
  · rw [if_neg c2] at H
    have c2b0 : decide (a0 ≤ 0) = false := decide_eq_false c2
    clear c2
    have H' := Aside0.mk H
    clear H
    go_enter Tryd.func39, Tryd.ntmps39
    go_wp2
    go_loopg [0, 3] k (fun kq v0 v3 w' => ∃ (x0_1 : Int) (x3_1 : ByteArray), v0 = .int .i64 x0_1 ∧ v3 = .string x3_1 ∧ Aside0 (laws_markText.l0 kq x0_1 x3_1 = some r) ∧ Aside0 (kq ≤ k) ∧ Aside0 (Below w.heap.size w w'))
    case atStart => exact ⟨(a0), ((⟨#[]⟩ : ByteArray)), (by first | rfl | (simp; done) | (simp [*]; done)), (by first | rfl | (simp; done) | (simp [*]; done)), H', ⟨Nat.le_refl _⟩, ⟨by repeat (first | (with_reducible first | exact HB.out | apply below_alloc | apply pw_below_drewN | apply below_drew1) | exact HB.out)⟩⟩
    case round =>
      clear H'
      try clear c2
      try clear c2b0
      try clear p2
      obtain ⟨x0_1, x3_1, rfl, rfl, HA, HK1, HB⟩ := hrel
      cases gk with
      | zero => exact absurd HA.out (by simp [laws_markText.l0])
      | succ k1 =>
        have H := HA.out
        clear HA
        simp only [laws_markText.l0] at H
        by_cases c3 : x0_1 > 0
        · rw [if_pos c3] at H
          have c3b0 : decide (0 < x0_1) = true := decide_eq_true c3
          clear c3
          obtain ⟨y178, hy178⟩ : ∃ y_ : List Int, y_ = (([(wrap64 (48 + (Int.tmod x0_1 10))) % 256] : List Int)) := ⟨_, rfl⟩
          replace H : (if (strOfNums y178).size + x3_1.size ≤ 9223372036854775807 then (laws_markText.l0 k1 (wrap64 (Int.tdiv x0_1 10)) ((strOfNums y178) ++ x3_1)) else (none)) = some r := by first | (rw [hy178]; with_reducible exact H) | (have H2_ := (Option.bind_some _ _).symm.trans H; rw [hy178]; with_reducible exact H2_) | (have H2_ := (Option.bind_some _ _).symm.trans H; with_reducible exact H2_) | with_reducible exact H | (rw [hy178]; exact H) | exact H
          have Ny178 := Aside0.mk hy178
          clear hy178
          by_cases c4 : (strOfNums y178).size + x3_1.size ≤ 9223372036854775807
          · rw [if_pos c4] at H
            have c4b0 := eq_true c4
            have c4b1 : decide ((strOfNums y178).size + x3_1.size ≤ 9223372036854775807) = true := decide_eq_true c4
            try have c4b2 : (9223372036854775807 < (strOfNums y178).size + x3_1.size) = False := eq_false (Nat.not_lt.2 c4)
            have H' := Aside0.mk H
            clear H
            go_wp2_with (first | ((with_reducible refine gate_dst (N := 12) rfl ?_); refine Kd.R_lit (Kd.int .u8) _ 5 ?hg (N := 12) ?hd (xs := ([(wrap64 (48 + (Int.tmod x0_1 10))) % 256] : List Int)) (inner := [.int .u8 ((wrap64 (48 + (Int.tmod x0_1 10))) % 256)]) (ok := fun _ => True) (okp := fun _ => True) ?hr ?hp (fun _ hk => hk) trivial (Below.refl _ _) (Nat.le_refl _) (by simp) ?_; (case hd => rfl); (case hg => rfl); (case hr => first | (go_simp; done) | (go_simp; rfl)); (case hp => exact (Reps.one (show Kd.M (Kd.int .u8) _ _ _ ((wrap64 (48 + (Int.tmod x0_1 10))) % 256) [.int .u8 ((wrap64 (48 + (Int.tmod x0_1 10))) % 256)] from rfl) (Reps.none _ _))); intro v179 w5 ho6 hb hg_ hnew_; clear hg_ hnew_; (first | rw [← Ny178.out] at ho6 | (simp only [Int.reduceToNat] at ho6; rw [← Ny178.out] at ho6)); have n0_ := Aside0.mk (Kd.R_lower ho6 (below_size (by repeat (first | (with_reducible first | exact HB.out | apply below_alloc | apply pw_below_drewN | apply below_drew1) | exact HB.out)))); have n1_ := Aside0.mk (below_step (by repeat (first | (with_reducible first | exact HB.out | apply below_alloc | apply pw_below_drewN | apply below_drew1) | exact HB.out)) hb); clear HB; have HO180 := n0_; have HB := n1_; clear n0_ n1_; clear hb ho6; have hcv7 := own_string (P := Tryd.prog) Tryd.underlying33 Tryd.underlying5 Tryd.underlying9 (Kd.own_of_R HO180.out)))
            go_roundg k1
            case measure => have := HK1.out; omega
            case rel => exact ⟨(wrap64 (Int.tdiv x0_1 10)), ((strOfNums y178) ++ x3_1), (by first | rfl | (simp; done) | (simp [*]; done)), (by first | rfl | (simp; done) | (simp [*]; done)), H', ⟨by have := HK1.out; omega⟩, ⟨by repeat (first | (with_reducible first | exact HB.out | apply below_alloc | apply pw_below_drewN | apply below_drew1) | exact HB.out)⟩⟩
          · rw [if_neg c4] at H
            exact absurd H (by simp)
        · rw [if_neg c3] at H
          have c3b0 : decide (0 < x0_1) = false := decide_eq_false c3
          clear c3
          by_cases c8 : 1 + x3_1.size ≤ 9223372036854775807
          · rw [if_pos c8] at H
            have c8b0 := eq_true c8
            have c8b1 : decide (1 + x3_1.size ≤ 9223372036854775807) = true := decide_eq_true c8
            try have c8b2 : (9223372036854775807 < 1 + x3_1.size) = False := eq_false (Nat.not_lt.2 c8)
            obtain rfl := Option.some.inj H
            go_wp2
            go_ret
            exact ⟨by first | rfl | (simp [errW_none, errW_some] <;> rfl) | (simp [*, errW_none, errW_some] <;> rfl), by repeat (first | (with_reducible first | exact HB.out | apply below_alloc | apply pw_below_drewN | apply below_drew1) | exact HB.out)⟩
          · rw [if_neg c8] at H
            exact absurd H (by simp)

end Go.Proofs.YtpjpnppoejnafaaDoor.G

/- PMark -/
/-
  Marks: a number's own text.
-/
namespace Go.Proofs.YtpjpnppoejnafaaDoor.G
open Go.RowKit Go.Proofs.YtpjpnppoejnafaaDoorW.PrintWords Go.Proofs.YtpjpnppoejnafaaDoorW.PrintLast Go.Proofs.YtpjpnppoejnafaaDoorW.PrintMore
set_option linter.unusedVariables false
set_option linter.unusedSimpArgs false

/-! ### markText -/
theorem digit_size (x : Int) : (strOfNums [x]).size = 1 := by simp [strOfNums, ByteArray.size]
theorem markText_l0 : ∀ (d : Nat) (n : Int) (s : ByteArray), 0 ≤ n → n.toNat ≤ d → s.size + d ≤ 4611686018427387904 → ∃ r, Ev (fun k => laws_markText.l0 k n s) r
  | 0, n, s, h0, hd, hs => by
    obtain rfl : n = 0 := by omega
    exact ⟨_, Ev.step (f := fun _ => some ((⟨#[109]⟩ : ByteArray) ++ s)) (fun k => by rw [laws_markText.l0, if_neg (by omega), if_pos (by omega)]) (Ev.now _)⟩
  | d + 1, n, s, h0, hd, hs => by
    by_cases hn : n > 0
    · have hq : Int.tdiv n 10 = n / 10 := Int.tdiv_eq_ediv_of_nonneg h0
      obtain ⟨r, hr⟩ := markText_l0 d (n / 10) (strOfNums [(wrap64 (48 + Int.tmod n 10)) % 256] ++ s) (by omega) (by omega) (by rw [ByteArray.size_append, digit_size]; omega)
      refine ⟨r, Ev.step (f := fun k => laws_markText.l0 k (n / 10) (strOfNums [(wrap64 (48 + Int.tmod n 10)) % 256] ++ s)) (fun k => ?_) hr⟩
      rw [laws_markText.l0, if_pos hn, Option.bind_some, if_pos (by rw [digit_size]; omega), hq]
      by_cases hb : n ≤ 9223372036854775807
      · rw [w64 (by omega) (by omega)]
      · omega
    · obtain rfl : n = 0 := by omega
      exact ⟨_, Ev.step (f := fun _ => some ((⟨#[109]⟩ : ByteArray) ++ s)) (fun k => by rw [laws_markText.l0, if_neg (by omega), if_pos (by omega)]) (Ev.now _)⟩
theorem markText_ex (n : Int) (h0 : 0 ≤ n) (h1 : n ≤ 1099511627776) : ∃ r, Ev (fun k => laws_markText.f k n) r := by
  by_cases hn : n ≤ 0
  · exact ⟨_, Ev.congr (f := fun _ => some (⟨#[109, 48]⟩ : ByteArray)) (fun k => by rw [laws_markText.f, if_pos hn]) (Ev.now _)⟩
  · obtain ⟨r, hr⟩ := markText_l0 n.toNat n ⟨#[]⟩ h0 (Nat.le_refl _) (by simp [ByteArray.size]; omega)
    exact ⟨r, Ev.congr (fun k => by rw [laws_markText.f, if_neg hn]) hr⟩
open Classical in
noncomputable def mt (n : Int) : ByteArray := if h : ∃ r, Ev (fun k => laws_markText.f k n) r then h.choose else ⟨#[]⟩
theorem mt_ev (n : Int) (h0 : 0 ≤ n) (h1 : n ≤ 1099511627776) : Ev (fun k => laws_markText.f k n) (mt n) := by
  have h := markText_ex n h0 h1
  unfold mt
  rw [dif_pos h]
  exact h.choose_spec
end Go.Proofs.YtpjpnppoejnafaaDoor.G

/- G38 -/
-- Laid by wip/g/gprint.py out of the translation, by the kit's print program. Lean checks it.
namespace Go.Proofs.YtpjpnppoejnafaaDoor.G
open Go.RowKit Go.Proofs.YtpjpnppoejnafaaDoorW.PrintWords Go.Proofs.YtpjpnppoejnafaaDoorW.PrintLast Go.Proofs.YtpjpnppoejnafaaDoorW.PrintMore
attribute [local go_sem] max2_int min2_int max_two min_two max_three min_three max_four min_four   -- for this text's walks alone
set_option linter.unusedVariables false
set_option linter.unusedSimpArgs false

/-! ### laws_eqLabel: function 38 -/
end Go.Proofs.YtpjpnppoejnafaaDoor.G

/- G9 -/
-- Laid by wip/g/gprint.py out of the translation, by the kit's print program. Lean checks it.
namespace Go.Proofs.YtpjpnppoejnafaaDoor.G
open Go.RowKit Go.Proofs.YtpjpnppoejnafaaDoorW.PrintWords Go.Proofs.YtpjpnppoejnafaaDoorW.PrintLast Go.Proofs.YtpjpnppoejnafaaDoorW.PrintMore
attribute [local go_sem] max2_int min2_int max_two min_two max_three min_three max_four min_four   -- for this text's walks alone
set_option linter.unusedVariables false
set_option linter.unusedSimpArgs false

/-! ### laws_eqLabelS: function 9 -/
end Go.Proofs.YtpjpnppoejnafaaDoor.G

/- G10 -/
-- Laid by wip/g/gprint.py out of the translation, by the kit's print program. Lean checks it.
namespace Go.Proofs.YtpjpnppoejnafaaDoor.G
open Go.RowKit Go.Proofs.YtpjpnppoejnafaaDoorW.PrintWords Go.Proofs.YtpjpnppoejnafaaDoorW.PrintLast Go.Proofs.YtpjpnppoejnafaaDoorW.PrintMore
attribute [local go_sem] max2_int min2_int max_two min_two max_three min_three max_four min_four   -- for this text's walks alone
set_option linter.unusedVariables false
set_option linter.unusedSimpArgs false

/-! ### laws_markLabelS: function 10 -/
end Go.Proofs.YtpjpnppoejnafaaDoor.G

/- G11 -/
-- Laid by wip/g/gprint.py out of the translation, by the kit's print program. Lean checks it.
namespace Go.Proofs.YtpjpnppoejnafaaDoor.G
open Go.RowKit Go.Proofs.YtpjpnppoejnafaaDoorW.PrintWords Go.Proofs.YtpjpnppoejnafaaDoorW.PrintLast Go.Proofs.YtpjpnppoejnafaaDoorW.PrintMore
attribute [local go_sem] max2_int min2_int max_two min_two max_three min_three max_four min_four   -- for this text's walks alone
set_option linter.unusedVariables false
set_option linter.unusedSimpArgs false

/-! ### laws_heldLabelS: function 11 -/
end Go.Proofs.YtpjpnppoejnafaaDoor.G

/- PLab0 -/
/-
  Labels (the program's): read, compared, marked.
-/
namespace Go.Proofs.YtpjpnppoejnafaaDoor.G
open Go.RowKit Go.Proofs.YtpjpnppoejnafaaDoorW.PrintWords Go.Proofs.YtpjpnppoejnafaaDoorW.PrintLast Go.Proofs.YtpjpnppoejnafaaDoorW.PrintMore
set_option linter.unusedVariables false
set_option linter.unusedSimpArgs false
end Go.Proofs.YtpjpnppoejnafaaDoor.G

/- G24 -/
-- Laid by wip/g/gprint.py out of the translation, by the kit's print program. Lean checks it.
namespace Go.Proofs.YtpjpnppoejnafaaDoor.G
open Go.RowKit Go.Proofs.YtpjpnppoejnafaaDoorW.PrintWords Go.Proofs.YtpjpnppoejnafaaDoorW.PrintLast Go.Proofs.YtpjpnppoejnafaaDoorW.PrintMore
attribute [local go_sem] max2_int min2_int max_two min_two max_three min_three max_four min_four   -- for this text's walks alone
set_option linter.unusedVariables false
set_option linter.unusedSimpArgs false

/-! ### impl_LabelsOk: function 24 -/
end Go.Proofs.YtpjpnppoejnafaaDoor.G

/- G35 -/
-- Laid by wip/g/gprint.py out of the translation, by the kit's print program. Lean checks it.
namespace Go.Proofs.YtpjpnppoejnafaaDoor.G
open Go.RowKit Go.Proofs.YtpjpnppoejnafaaDoorW.PrintWords Go.Proofs.YtpjpnppoejnafaaDoorW.PrintLast Go.Proofs.YtpjpnppoejnafaaDoorW.PrintMore
attribute [local go_sem] max2_int min2_int max_two min_two max_three min_three max_four min_four   -- for this text's walks alone
set_option linter.unusedVariables false
set_option linter.unusedSimpArgs false

/-! ### spec_LabelsOk: function 35 -/
end Go.Proofs.YtpjpnppoejnafaaDoor.G

/- G54 -/
-- Laid by wip/g/gprint.py out of the translation, by the kit's print program. Lean checks it.
namespace Go.Proofs.YtpjpnppoejnafaaDoor.G
open Go.RowKit Go.Proofs.YtpjpnppoejnafaaDoorW.PrintWords Go.Proofs.YtpjpnppoejnafaaDoorW.PrintLast Go.Proofs.YtpjpnppoejnafaaDoorW.PrintMore
attribute [local go_sem] max2_int min2_int max_two min_two max_three min_three max_four min_four   -- for this text's walks alone
set_option linter.unusedVariables false
set_option linter.unusedSimpArgs false

/-! ### spec_LabelGet: function 54 -/
end Go.Proofs.YtpjpnppoejnafaaDoor.G

/- G21 -/
-- Laid by wip/g/gprint.py out of the translation, by the kit's print program. Lean checks it.
namespace Go.Proofs.YtpjpnppoejnafaaDoor.G
open Go.RowKit Go.Proofs.YtpjpnppoejnafaaDoorW.PrintWords Go.Proofs.YtpjpnppoejnafaaDoorW.PrintLast Go.Proofs.YtpjpnppoejnafaaDoorW.PrintMore
attribute [local go_sem] max2_int min2_int max_two min_two max_three min_three max_four min_four   -- for this text's walks alone
set_option linter.unusedVariables false
set_option linter.unusedSimpArgs false

/-! ### impl_LabelGet: function 21 -/
end Go.Proofs.YtpjpnppoejnafaaDoor.G

/- PLabOk -/
/-
  Labels that are right; the value of a key.
-/
namespace Go.Proofs.YtpjpnppoejnafaaDoor.G
open Go.RowKit Go.Proofs.YtpjpnppoejnafaaDoorW.PrintWords Go.Proofs.YtpjpnppoejnafaaDoorW.PrintLast Go.Proofs.YtpjpnppoejnafaaDoorW.PrintMore
set_option linter.unusedVariables false
set_option linter.unusedSimpArgs false
end Go.Proofs.YtpjpnppoejnafaaDoor.G

/- G23 -/
-- Laid by wip/g/gprint.py out of the translation, by the kit's print program. Lean checks it.
namespace Go.Proofs.YtpjpnppoejnafaaDoor.G
open Go.RowKit Go.Proofs.YtpjpnppoejnafaaDoorW.PrintWords Go.Proofs.YtpjpnppoejnafaaDoorW.PrintLast Go.Proofs.YtpjpnppoejnafaaDoorW.PrintMore
attribute [local go_sem] max2_int min2_int max_two min_two max_three min_three max_four min_four   -- for this text's walks alone
set_option linter.unusedVariables false
set_option linter.unusedSimpArgs false

/-! ### impl_LabelsText: function 23 -/
end Go.Proofs.YtpjpnppoejnafaaDoor.G

/- PLabText -/
/-
  LabelsText, the program's: labels that are right as one text.
-/
namespace Go.Proofs.YtpjpnppoejnafaaDoor.G
open Go.RowKit Go.Proofs.YtpjpnppoejnafaaDoorW.PrintWords Go.Proofs.YtpjpnppoejnafaaDoorW.PrintLast Go.Proofs.YtpjpnppoejnafaaDoorW.PrintMore
set_option linter.unusedVariables false
set_option linter.unusedSimpArgs false
end Go.Proofs.YtpjpnppoejnafaaDoor.G

/- G37 -/
-- Laid by wip/g/gprint.py out of the translation, by the kit's print program. Lean checks it.
namespace Go.Proofs.YtpjpnppoejnafaaDoor.G
open Go.RowKit Go.Proofs.YtpjpnppoejnafaaDoorW.PrintWords Go.Proofs.YtpjpnppoejnafaaDoorW.PrintLast Go.Proofs.YtpjpnppoejnafaaDoorW.PrintMore
attribute [local go_sem] max2_int min2_int max_two min_two max_three min_three max_four min_four   -- for this text's walks alone
set_option linter.unusedVariables false
set_option linter.unusedSimpArgs false

/-! ### strings_Cut: function 37 -/
--IMPORT Derived.Test.YtpjpnppoejnafaaDoorShelf
--IMPORT Derived.Test.YtpjpnppoejnafaaDoorGKShape
def strings_Cut.f (a0 : ByteArray) (a1 : ByteArray) : Option (ByteArray × ByteArray × Bool) :=
  if a0.size < 4294967281 then some (⟨(Lib.cut a0.data.toList a1.data.toList).1.toArray⟩, ⟨(Lib.cut a0.data.toList a1.data.toList).2.1.toArray⟩, (Lib.cut a0.data.toList a1.data.toList).2.2) else none
theorem strings_Cut.calls (a0 : ByteArray) (a1 : ByteArray) (r1 : ByteArray) (r2 : ByteArray) (r3 : Bool) (w : World) (hsh_ : SH w) (h : strings_Cut.f a0 a1 = some (r1, r2, r3)) :
    Calls Tryd.prog 37 #[.string a0, .string a1] w fun e w' => e = .returned (.tuple #[.string r1, .string r2, .bool r3]) ∧ Drawn0 w w' := by
  unfold strings_Cut.f at h
  obtain ⟨m, hm⟩ := hsh_
  by_cases hl : a0.size < 4294967281
  · rw [if_pos hl] at h
    cases h
    refine (Tryd.strings_Cut a0 a1 m w hl hm).mono ?_
    rintro e w' ⟨rfl, hd⟩
    exact ⟨rfl, ⟨hd⟩⟩
  · rw [if_neg hl] at h
    cases h

end Go.Proofs.YtpjpnppoejnafaaDoor.G

/- G8 -/
-- Laid by wip/g/gprint.py out of the translation, by the kit's print program. Lean checks it.
namespace Go.Proofs.YtpjpnppoejnafaaDoor.G
open Go.RowKit Go.Proofs.YtpjpnppoejnafaaDoorW.PrintWords Go.Proofs.YtpjpnppoejnafaaDoorW.PrintLast Go.Proofs.YtpjpnppoejnafaaDoorW.PrintMore
attribute [local go_sem] max2_int min2_int max_two min_two max_three min_three max_four min_four   -- for this text's walks alone
set_option linter.unusedVariables false
set_option linter.unusedSimpArgs false

--IMPORT Derived.Test.YtpjpnppoejnafaaDoorGKShape
/-! ### impl_ParseLabels: function 8 -/
end Go.Proofs.YtpjpnppoejnafaaDoor.G

/- G7 -/
-- Laid by wip/g/gprint.py out of the translation, by the kit's print program. Lean checks it.
namespace Go.Proofs.YtpjpnppoejnafaaDoor.G
open Go.RowKit Go.Proofs.YtpjpnppoejnafaaDoorW.PrintWords Go.Proofs.YtpjpnppoejnafaaDoorW.PrintLast Go.Proofs.YtpjpnppoejnafaaDoorW.PrintMore
attribute [local go_sem] max2_int min2_int max_two min_two max_three min_three max_four min_four   -- for this text's walks alone
set_option linter.unusedVariables false
set_option linter.unusedSimpArgs false

/-! ### spec_ParseLabels: function 7 -/
end Go.Proofs.YtpjpnppoejnafaaDoor.G

/- PParseLab -/
/-
  ParseLabels: the program's and the reference's come to one answer; what LabelsText wrote is read again.
-/
namespace Go.Proofs.YtpjpnppoejnafaaDoor.G
open Go.RowKit Go.Proofs.YtpjpnppoejnafaaDoorW.PrintWords Go.Proofs.YtpjpnppoejnafaaDoorW.PrintLast Go.Proofs.YtpjpnppoejnafaaDoorW.PrintMore
set_option linter.unusedVariables false
set_option linter.unusedSimpArgs false
theorem tl_eq {a b : ByteArray} : a.toList = b.toList ↔ a = b := by
  constructor
  · intro h
    rw [ByteArray.toList_eq, ByteArray.toList_eq] at h
    exact ba_eq h
  · rintro rfl; rfl
theorem tl_nil {a : ByteArray} : a.toList = [] ↔ a.data.toList = [] := by rw [ByteArray.toList_eq]
theorem nameB_no {s : ByteArray} (h : nameB s = true) (c : UInt8) (hc : chB c.toNat = false) : c ∉ s.data.toList := by
  intro hm
  obtain ⟨i, hi, he⟩ := List.getElem_of_mem hm
  simp only [nameB, Bool.and_eq_true] at h
  have := allN_true.1 h.1 i (by rw [size_data]; exact hi)
  rw [(bt_byte s c hi).2 he, hc] at this
  cases this
/-! ### a part, cut -/
theorem mkb_size (l : List UInt8) : (mkb l).size = l.length := by rw [size_data, mkb_data]
theorem jn_data (xs : List ByteArray) (c : UInt8) : (jn xs ⟨#[c]⟩).data.toList = Lib.join (xs.map (·.data.toList)) [c] := rfl
theorem parts_len {s : ByteArray} (hs : s.size ≤ 1048576) : (spl 44 s.data.toList).length ≤ 1048577 := by
  have := spl_length 44 s.data.toList
  rw [← size_data] at this; omega
theorem part_len {s : ByteArray} (hs : s.size ≤ 1048576) {p : List UInt8} (h : p ∈ spl 44 s.data.toList) : p.length ≤ 1048576 := by
  have := spl_part 44 _ p h
  rw [← size_data] at this; omega
/-! ### the program's -/
/-! ### the reference's -/
end Go.Proofs.YtpjpnppoejnafaaDoor.G

/- PReadTerm -/
/-
  A term read out of its text: the program's way and the reference's; both come back to the term.
-/
namespace Go.Proofs.YtpjpnppoejnafaaDoor.G
open Go.RowKit Go.Proofs.YtpjpnppoejnafaaDoorW.PrintWords Go.Proofs.YtpjpnppoejnafaaDoorW.PrintLast Go.Proofs.YtpjpnppoejnafaaDoorW.PrintMore
set_option linter.unusedVariables false
set_option linter.unusedSimpArgs false
theorem pre_mem {sub p : List UInt8} (h : sub.isPrefixOf p = true) {b : UInt8} (hb : b ∈ sub) : b ∈ p := by
  obtain ⟨t, rfl⟩ := List.isPrefixOf_iff_prefix.1 h
  exact List.mem_append_left _ hb
theorem idx_none {p sub : List UInt8} {b : UInt8} (hb : b ∈ sub) (h : b ∉ p) : Lib.index p sub = -1 := by
  rcases Lib.index_spec p sub with hm | ⟨i, _, _, ho, _⟩
  · exact hm.1
  · exact absurd (List.mem_of_mem_drop (pre_mem ho hb)) h
theorem idx_at {a rest tl : List UInt8} {c : UInt8} (h : c ∉ a) (hp : (c :: tl).isPrefixOf rest = true) : Lib.index (a ++ rest) (c :: tl) = a.length := by
  refine Lib.index_first (by simp) ?_ (fun j hj => ?_)
  · unfold Lib.occAt; rw [List.drop_left]; exact hp
  · unfold Lib.occAt
    rw [List.drop_append_of_le_length (by omega), List.drop_eq_getElem_cons hj, ← Bool.not_eq_true]
    intro hh
    simp only [List.cons_append, List.isPrefixOf, Bool.and_eq_true, beq_iff_eq] at hh
    exact h (hh.1 ▸ List.getElem_mem hj)
theorem idx_at' {a rest sub tl : List UInt8} {c : UInt8} (e : sub = c :: tl) (h : c ∉ a) : Lib.index (a ++ (sub ++ rest)) sub = a.length := by
  subst e
  exact idx_at h (List.isPrefixOf_iff_prefix.2 (List.prefix_append _ _))
def sIn : List UInt8 := [32, 105, 110, 32, 40]
def cutA (sep p : List UInt8) : List UInt8 := p.take (Lib.index p sep).toNat
def cutB (sep p : List UInt8) : List UInt8 := p.drop ((Lib.index p sep).toNat + sep.length)
theorem cut_ab (sep p : List UInt8) : Lib.cut p sep = if 0 ≤ Lib.index p sep then (cutA sep p, cutB sep p, true) else (p, [], false) := rfl
/-- The program's way. -/
def readI (p : List UInt8) : ITerm :=
  if 0 ≤ Lib.index p [33, 61] then ⟨2, mkb (cutA [33, 61] p), [mkb (cutB [33, 61] p)]⟩
  else if 0 ≤ Lib.index p [61] then ⟨1, mkb (cutA [61] p), [mkb (cutB [61] p)]⟩
  else if 0 ≤ Lib.index p sIn then ⟨3, mkb (cutA sIn p), (spl 32 (Lib.trimSuffix (cutB sIn p) [41])).map mkb⟩
  else if Lib.hasPrefix p [33] = true then ⟨5, mkb (p.drop 1), []⟩ else ⟨4, mkb p, []⟩
/-- The reference's. -/
def readS (p : List UInt8) : ITerm :=
  if 0 ≤ Lib.index p sIn ∧ p.getLast? = some 41 then ⟨3, mkb (cutA sIn p), (spl 32 ((cutB sIn p).take ((cutB sIn p).length - 1))).map mkb⟩
  else if 0 ≤ Lib.index p [33, 61] then ⟨2, mkb (cutA [33, 61] p), [mkb (cutB [33, 61] p)]⟩
  else if 0 ≤ Lib.index p [61] then ⟨1, mkb (cutA [61] p), [mkb (cutB [61] p)]⟩
  else if p.head? = some 33 then ⟨5, mkb (p.drop 1), []⟩ else ⟨4, mkb p, []⟩
theorem cut_at {a rest sub tl : List UInt8} {c : UInt8} (e : sub = c :: tl) (h : c ∉ a) : cutA sub (a ++ (sub ++ rest)) = a ∧ cutB sub (a ++ (sub ++ rest)) = rest := by
  have hi := idx_at' (rest := rest) e h
  unfold cutA cutB
  rw [hi, Int.toNat_natCast]
  refine ⟨by rw [List.take_left], ?_⟩
  rw [← List.append_assoc, List.drop_left' (by simp)]
theorem nams_each {xs : List ByteArray} (h : namsB xs = true) {x : ByteArray} (hx : x ∈ xs) : nameB x = true := by
  obtain ⟨i, hi, rfl⟩ := List.getElem_of_mem hx
  have := namOk_name (allN_true.1 h i hi)
  rwa [rdS hi] at this
theorem mkb_map (xs : List ByteArray) : (xs.map (·.data.toList)).map mkb = xs := by
  rw [List.map_map]
  exact List.map_id'' (fun x => mkb_of x) _
theorem read_back {x : ITerm} (h : termB x = true) : readI (termTxt x).data.toList = x ∧ readS (termTxt x).data.toList = x := by
  obtain ⟨kd, key, vs⟩ := x
  simp only [termB, Bool.and_eq_true] at h
  obtain ⟨hv, hk, hkd⟩ := h
  have no := fun c hc => nameB_no hk c hc
  have nov := fun v (hv' : v ∈ vs) c hc => nameB_no (nams_each hv hv') c hc
  have n33 := no 33 (by decide)
  have n61 := no 61 (by decide)
  have n32 := no 32 (by decide)
  have n40 := no 40 (by decide)
  have n41 := no 41 (by decide)
  rcases kindB_cases hkd with ⟨rfl | rfl, hl⟩ | rfl | rfl | rfl
  · obtain ⟨v, rfl⟩ := List.length_eq_one_iff.1 (by omega : vs.length = 1)
    have e : (termTxt ⟨1, key, [v]⟩).data.toList = key.data.toList ++ ([61] ++ v.data.toList) := by
      simp [termTxt, jn_one, ByteArray.data_append]
    rw [e]
    have m33 : (33 : UInt8) ∉ key.data.toList ++ ([61] ++ v.data.toList) := by
      simp only [List.mem_append, List.mem_singleton, not_or]
      exact ⟨n33, by decide, nov v (by simp) 33 (by decide)⟩
    have m40 : (40 : UInt8) ∉ key.data.toList ++ ([61] ++ v.data.toList) := by
      simp only [List.mem_append, List.mem_singleton, not_or]
      exact ⟨n40, by decide, nov v (by simp) 40 (by decide)⟩
    have i2 := idx_none (sub := [33, 61]) (b := 33) (by simp) m33
    have i3 := idx_none (sub := sIn) (b := 40) (by simp [sIn]) m40
    have i1 := idx_at' (sub := [61]) (rest := v.data.toList) rfl n61
    obtain ⟨c1, c2⟩ := cut_at (sub := [61]) (rest := v.data.toList) rfl n61
    constructor
    · unfold readI
      rw [if_neg (by omega), if_pos (by omega), c1, c2, mkb_of, mkb_of]
    · unfold readS
      rw [if_neg (by rw [i3]; intro h; omega), if_neg (by omega), if_pos (by omega), c1, c2, mkb_of, mkb_of]
  · obtain ⟨v, rfl⟩ := List.length_eq_one_iff.1 (by omega : vs.length = 1)
    have e : (termTxt ⟨2, key, [v]⟩).data.toList = key.data.toList ++ ([33, 61] ++ v.data.toList) := by
      simp [termTxt, jn_one, ByteArray.data_append]
    rw [e]
    have m40 : (40 : UInt8) ∉ key.data.toList ++ ([33, 61] ++ v.data.toList) := by
      simp only [List.mem_append, List.mem_cons, List.not_mem_nil, or_false, not_or]
      exact ⟨n40, ⟨by decide, by decide⟩, nov v (by simp) 40 (by decide)⟩
    have i3 := idx_none (sub := sIn) (b := 40) (by simp [sIn]) m40
    have i1 := idx_at' (sub := [33, 61]) (rest := v.data.toList) rfl n33
    obtain ⟨c1, c2⟩ := cut_at (sub := [33, 61]) (rest := v.data.toList) rfl n33
    constructor
    · unfold readI
      rw [if_pos (by omega), c1, c2, mkb_of, mkb_of]
    · unfold readS
      rw [if_neg (by rw [i3]; intro h; omega), if_pos (by omega), c1, c2, mkb_of, mkb_of]
  · have hne : vs ≠ [] := by
      rw [kindB_3 rfl] at hkd
      have := inB_true hkd
      intro h0; rw [h0] at this; simp at this
    have e : (termTxt ⟨3, key, vs⟩).data.toList = key.data.toList ++ (sIn ++ (Lib.join (vs.map (fun x : ByteArray => x.data.toList)) [32] ++ [41])) := by
      simp [termTxt, ByteArray.data_append, jn, sIn]
    rw [e]
    have hj : ∀ c : UInt8, chB c.toNat = false → c ≠ 32 → c ∉ Lib.join (vs.map (fun x : ByteArray => x.data.toList)) [32] := by
      intro c hc h32 hm
      have : ∀ (l : List ByteArray), (∀ v ∈ l, v ∈ vs) → c ∉ Lib.join (l.map (fun x : ByteArray => x.data.toList)) [32] := by
        intro l
        induction l with
        | nil => intro _ hm; simp [Lib.join] at hm
        | cons y ys ih =>
          intro hl hm
          cases ys with
          | nil =>
            simp [Lib.join] at hm
            exact nov y (hl y (by simp)) c hc (by simpa using hm)
          | cons z zs =>
            rw [List.map_cons, join_cons _ _ _ (by simp)] at hm
            simp only [List.mem_append, List.mem_singleton] at hm
            rcases hm with (hm | hm) | hm
            · exact nov y (hl y (by simp)) c hc hm
            · exact h32 hm
            · exact ih (fun v hv => hl v (by simp [hv])) hm
      exact this vs (fun v hv => hv) hm
    have m61 : (61 : UInt8) ∉ key.data.toList ++ (sIn ++ (Lib.join (vs.map (fun x : ByteArray => x.data.toList)) [32] ++ [41])) := by
      simp only [List.mem_append, List.mem_singleton, not_or]
      exact ⟨n61, by decide, hj 61 (by decide) (by decide), by decide⟩
    have i2 := idx_none (sub := [33, 61]) (b := 61) (by simp) m61
    have i1 := idx_none (sub := [61]) (b := 61) (by simp) m61
    have i3 := idx_at' (sub := sIn) (rest := Lib.join (vs.map (fun x : ByteArray => x.data.toList)) [32] ++ [41]) (c := 32) (tl := [105, 110, 32, 40]) rfl n32
    obtain ⟨c1, c2⟩ := cut_at (sub := sIn) (rest := Lib.join (vs.map (fun x : ByteArray => x.data.toList)) [32] ++ [41]) (c := 32) (tl := [105, 110, 32, 40]) rfl n32
    have hs := spl_join 32 (vs.map (fun x : ByteArray => x.data.toList)) (by simpa using hne) (fun y hy => by
      obtain ⟨v, hv', rfl⟩ := List.mem_map.1 hy
      exact nov v hv' 32 (by decide))
    constructor
    · unfold readI
      rw [if_neg (by omega), if_neg (by omega), if_pos (by omega), c1, c2]
      have ht : Lib.trimSuffix (Lib.join (vs.map (fun x : ByteArray => x.data.toList)) [32] ++ [41]) [41] = Lib.join (vs.map (fun x : ByteArray => x.data.toList)) [32] := by
        unfold Lib.trimSuffix Lib.hasSuffix
        rw [if_pos (by rw [List.isSuffixOf_iff_suffix]; exact List.suffix_append _ _)]
        simp
      rw [ht, hs, mkb_of, mkb_map]
    · unfold readS
      rw [if_pos ⟨by omega, by simp⟩, c1, c2]
      have ht : (Lib.join (vs.map (fun x : ByteArray => x.data.toList)) [32] ++ [41]).take ((Lib.join (vs.map (fun x : ByteArray => x.data.toList)) [32] ++ [(41 : UInt8)]).length - 1) = Lib.join (vs.map (fun x : ByteArray => x.data.toList)) [32] := by simp
      rw [ht, hs, mkb_of, mkb_map]
  · have h0 : vs = [] := by
      rw [kindB_45 (.inl rfl)] at hkd
      exact List.eq_nil_of_length_eq_zero (by simpa using hkd)
    subst h0
    have e : (termTxt ⟨4, key, []⟩).data.toList = key.data.toList := by simp [termTxt]
    rw [e]
    have i2 := idx_none (sub := [33, 61]) (b := 61) (by simp) n61
    have i1 := idx_none (sub := [61]) (b := 61) (by simp) n61
    have i3 := idx_none (sub := sIn) (b := 40) (by simp [sIn]) n40
    have hh : key.data.toList.head? ≠ some 33 := fun hh => n33 (List.mem_of_head? hh)
    constructor
    · unfold readI
      rw [if_neg (by omega), if_neg (by omega), if_neg (by omega), if_neg ?_, mkb_of]
      intro hp
      exact n33 (pre_mem hp (by simp))
    · unfold readS
      rw [if_neg (by rw [i3]; intro h; omega), if_neg (by omega), if_neg (by omega), if_neg hh, mkb_of]
  · have h0 : vs = [] := by
      rw [kindB_45 (.inr rfl)] at hkd
      exact List.eq_nil_of_length_eq_zero (by simpa using hkd)
    subst h0
    have e : (termTxt ⟨5, key, []⟩).data.toList = 33 :: key.data.toList := by simp [termTxt, ByteArray.data_append]
    rw [e]
    have m61 : (61 : UInt8) ∉ 33 :: key.data.toList := by
      simp only [List.mem_cons, not_or]; exact ⟨by decide, n61⟩
    have m40 : (40 : UInt8) ∉ 33 :: key.data.toList := by
      simp only [List.mem_cons, not_or]; exact ⟨by decide, n40⟩
    have i2 := idx_none (sub := [33, 61]) (b := 61) (by simp) m61
    have i1 := idx_none (sub := [61]) (b := 61) (by simp) m61
    have i3 := idx_none (sub := sIn) (b := 40) (by simp [sIn]) m40
    constructor
    · unfold readI
      rw [if_neg (by omega), if_neg (by omega), if_neg (by omega), if_pos (by simp [Lib.hasPrefix, List.isPrefixOf]), List.drop_one, List.tail_cons, mkb_of]
    · unfold readS
      rw [if_neg (by rw [i3]; intro h; omega), if_neg (by omega), if_neg (by omega), if_pos (by rfl), List.drop_one, List.tail_cons, mkb_of]
/-! ### whole selectors -/
theorem termTxt_free {x : ITerm} (h : termB x = true) : (44 : UInt8) ∉ (termTxt x).data.toList := by
  obtain ⟨kd, key, vs⟩ := x
  have hh := h
  simp only [termB, Bool.and_eq_true] at h
  obtain ⟨hv, hk, hkd⟩ := h
  have nk := nameB_no hk 44 (by decide)
  have hj : (44 : UInt8) ∉ Lib.join (vs.map (fun x : ByteArray => x.data.toList)) [32] := by
    have : ∀ (l : List ByteArray), (∀ v ∈ l, v ∈ vs) → (44 : UInt8) ∉ Lib.join (l.map (fun x : ByteArray => x.data.toList)) [32] := by
      intro l
      induction l with
      | nil => intro _ hm; simp [Lib.join] at hm
      | cons y ys ih =>
        intro hl hm
        cases ys with
        | nil =>
          simp [Lib.join] at hm
          exact nameB_no (nams_each hv (hl y (by simp))) 44 (by decide) (by simpa using hm)
        | cons z zs =>
          rw [List.map_cons, join_cons _ _ _ (by simp)] at hm
          simp only [List.mem_append, List.mem_singleton] at hm
          rcases hm with (hm | hm) | hm
          · exact nameB_no (nams_each hv (hl y (by simp))) 44 (by decide) hm
          · exact absurd hm (by decide)
          · exact ih (fun v hv => hl v (by simp [hv])) hm
    exact this vs (fun v hv => hv)
  have hj2 : (44 : UInt8) ∉ (jn vs ⟨#[32]⟩).data.toList := hj
  unfold termTxt
  simp only
  repeat' split
  all_goals try simp only [ByteArray.data_append, Array.toList_append, List.mem_append, not_or]
  · exact ⟨nk, by decide, hj2⟩
  · exact ⟨nk, by decide, hj2⟩
  · exact ⟨nk, ⟨by decide, hj2⟩, by decide⟩
  · exact ⟨by decide, nk⟩
  · exact nk
theorem sel_texts {ys : List ITerm} {L : List UInt8} (hL : L ≠ []) (h : selTxt ys = mkb L) : selB ys = true ∧ spl 44 L = ys.map (fun x => (termTxt x).data.toList) := by
  unfold selTxt at h
  by_cases c : selB ys = true
  · refine ⟨c, ?_⟩
    rw [if_pos c] at h
    obtain ⟨h8, ht⟩ := selB_parts c
    have h2 : Lib.join (ys.map (fun x => (termTxt x).data.toList)) [44] = L := by
      have := congrArg (fun s : ByteArray => s.data.toList) h
      simp only [jn_data, mkb_data, List.map_map] at this
      exact this
    have hne : ys.map (fun x => (termTxt x).data.toList) ≠ [] := by
      intro h0; rw [h0] at h2; exact hL h2.symm
    rw [← h2]
    exact spl_join 44 _ hne (fun y hy => by
      obtain ⟨x, hx, rfl⟩ := List.mem_map.1 hy
      obtain ⟨i, hi, rfl⟩ := List.getElem_of_mem hx
      exact termTxt_free (ht i hi))
  · rw [if_neg c] at h
    have := congrArg (fun s : ByteArray => s.data.toList) h
    exact absurd this.symm hL
theorem sel_read {ys : List ITerm} {L : List UInt8} (hL : L ≠ []) (h : selTxt ys = mkb L) : (spl 44 L).map readI = ys ∧ (spl 44 L).map readS = ys := by
  obtain ⟨hb, hs⟩ := sel_texts hL h
  obtain ⟨_, ht⟩ := selB_parts hb
  rw [hs, List.map_map, List.map_map]
  have each : ∀ x ∈ ys, termB x = true := fun x hx => by
    obtain ⟨i, hi, rfl⟩ := List.getElem_of_mem hx
    exact ht i hi
  exact ⟨(List.map_congr_left (fun x hx => (read_back (each x hx)).1)).trans (List.map_id _), (List.map_congr_left (fun x hx => (read_back (each x hx)).2)).trans (List.map_id _)⟩
theorem par_same {L : List UInt8} (hL : L ≠ []) : (selB ((spl 44 L).map readS) = true ∧ selTxt ((spl 44 L).map readS) = mkb L) ↔ selTxt ((spl 44 L).map readI) = mkb L := by
  constructor
  · rintro ⟨_, h⟩
    obtain ⟨h1, h2⟩ := sel_read hL h
    rw [h1]; exact h
  · intro h
    obtain ⟨h1, h2⟩ := sel_read hL h
    rw [h1] at h
    rw [h2]
    exact ⟨(sel_texts hL h).1, h⟩
end Go.Proofs.YtpjpnppoejnafaaDoor.G

/- G124 -/
-- Laid by wip/g/gprint.py out of the translation, by the kit's print program. Lean checks it.
namespace Go.Proofs.YtpjpnppoejnafaaDoor.G
open Go.RowKit Go.Proofs.YtpjpnppoejnafaaDoorW.PrintWords Go.Proofs.YtpjpnppoejnafaaDoorW.PrintLast Go.Proofs.YtpjpnppoejnafaaDoorW.PrintMore
attribute [local go_sem] max2_int min2_int max_two min_two max_three min_three max_four min_four   -- for this text's walks alone
set_option linter.unusedVariables false
set_option linter.unusedSimpArgs false

/-! ### stringslite_HasSuffix: function 124 -/
def stringslite_HasSuffix.f (a0 : ByteArray) (a1 : ByteArray) : Option (Bool) := if (a0.size : Int) ≥ (a1.size : Int) then (if 0 ≤ (wrap64 ((a0.size : Int) - (a1.size : Int))) then (if (wrap64 ((a0.size : Int) - (a1.size : Int))) ≤ (a0.size : Int) then (some ((a0.extract ((wrap64 ((a0.size : Int) - (a1.size : Int))) : Int).toNat a0.size).toList == a1.toList)) else (none)) else (none)) else (some false)
set_option maxHeartbeats 8000000 in
set_option maxRecDepth 100000 in
theorem stringslite_HasSuffix.calls (a0 : ByteArray) (a1 : ByteArray) (r : Bool) (w : World) (h : stringslite_HasSuffix.f a0 a1 = some r) :
    Calls Tryd.prog 124 #[.string a0, .string a1] w fun e w' => e = .returned (.bool r) ∧ Drawn0 w w' := by
  have H : (if (a0.size : Int) ≥ (a1.size : Int) then (if 0 ≤ (wrap64 ((a0.size : Int) - (a1.size : Int))) then (if (wrap64 ((a0.size : Int) - (a1.size : Int))) ≤ (a0.size : Int) then (some ((a0.extract ((wrap64 ((a0.size : Int) - (a1.size : Int))) : Int).toNat a0.size).toList == a1.toList)) else (none)) else (none)) else (some false)) = some r := h
  clear h
  by_cases c3 : (a0.size : Int) ≥ (a1.size : Int)
  · rw [if_pos c3] at H
    have c3b0 : decide ((a1.size : Int) ≤ (a0.size : Int)) = true := decide_eq_true c3
    have c3b1 : decide (a1.size ≤ a0.size) = true := decide_eq_true (Int.ofNat_le.mp c3)
    clear c3
    obtain ⟨ji4, hji4⟩ : ∃ j_ : Int, (wrap64 ((a0.size : Int) - (a1.size : Int))) = j_ := ⟨_, rfl⟩
    replace H : (if 0 ≤ (ji4) then (if (ji4) ≤ (a0.size : Int) then (some ((a0.extract ((ji4) : Int).toNat a0.size).toList == a1.toList)) else (none)) else (none)) = some r := by first | (rw [hji4] at H; exact H) | (simp only [hji4] at H ⊢; exact H)
    have hji4w : (IntKind.i64.wrap ((a0.size : Int) - (a1.size : Int))) = ji4 := (i64_w _).trans hji4
    by_cases c5 : 0 ≤ (ji4)
    · rw [if_pos c5] at H
      have c5b0 := eq_true c5
      have c5b1 : decide (0 ≤ (ji4)) = true := decide_eq_true c5
      clear c5
      by_cases c6 : (ji4) ≤ (a0.size : Int)
      · rw [if_pos c6] at H
        have c6b0 := eq_true c6
        have c6b1 : decide ((ji4) ≤ (a0.size : Int)) = true := decide_eq_true c6
        clear c6
        obtain rfl := Option.some.inj H
        go_enter Tryd.func124, Tryd.ntmps124
        go_wp2
        go_ret
        exact ⟨by first | rfl | (simp; done) | (simp only [← hji4] <;> (first | rfl | simp)) | (simp [*]; done), by repeat (first | exact Drawn0.refl _ | apply Drawn0.step)⟩
      · rw [if_neg c6] at H
        exact absurd H (by simp)
    · rw [if_neg c5] at H
      exact absurd H (by simp)
  · rw [if_neg c3] at H
    have c3b0 : decide ((a1.size : Int) ≤ (a0.size : Int)) = false := decide_eq_false c3
    have c3b1 : decide (a1.size ≤ a0.size) = false := decide_eq_false (fun h => c3 (Int.ofNat_le.mpr h))
    clear c3
    obtain rfl := Option.some.inj H
    go_enter Tryd.func124, Tryd.ntmps124
    go_wp2
    go_ret
    exact ⟨by first | rfl | (simp; done) | (simp [*]; done), by repeat (first | exact Drawn0.refl _ | apply Drawn0.step)⟩

end Go.Proofs.YtpjpnppoejnafaaDoor.G

/- G108 -/
-- Laid by wip/g/gprint.py out of the translation, by the kit's print program. Lean checks it.
namespace Go.Proofs.YtpjpnppoejnafaaDoor.G
open Go.RowKit Go.Proofs.YtpjpnppoejnafaaDoorW.PrintWords Go.Proofs.YtpjpnppoejnafaaDoorW.PrintLast Go.Proofs.YtpjpnppoejnafaaDoorW.PrintMore
attribute [local go_sem] max2_int min2_int max_two min_two max_three min_three max_four min_four   -- for this text's walks alone
set_option linter.unusedVariables false
set_option linter.unusedSimpArgs false

/-! ### stringslite_TrimSuffix: function 108 -/
def stringslite_TrimSuffix.f (a0 : ByteArray) (a1 : ByteArray) : Option (ByteArray) := (stringslite_HasSuffix.f a0 a1).bind fun t299 => (if t299 = true then (if 0 ≤ (wrap64 ((a0.size : Int) - (a1.size : Int))) then (if (wrap64 ((a0.size : Int) - (a1.size : Int))) ≤ (a0.size : Int) then (some (a0.extract 0 ((wrap64 ((a0.size : Int) - (a1.size : Int))) : Int).toNat)) else (none)) else (none)) else (some a0))
set_option maxHeartbeats 8000000 in
set_option maxRecDepth 100000 in
theorem stringslite_TrimSuffix.calls (a0 : ByteArray) (a1 : ByteArray) (r : ByteArray) (w : World) (h : stringslite_TrimSuffix.f a0 a1 = some r) :
    Calls Tryd.prog 108 #[.string a0, .string a1] w fun e w' => e = .returned (.string r) ∧ Drawn0 w w' := by
  have H : ((stringslite_HasSuffix.f a0 a1).bind fun t299 => (if t299 = true then (if 0 ≤ (wrap64 ((a0.size : Int) - (a1.size : Int))) then (if (wrap64 ((a0.size : Int) - (a1.size : Int))) ≤ (a0.size : Int) then (some (a0.extract 0 ((wrap64 ((a0.size : Int) - (a1.size : Int))) : Int).toNat)) else (none)) else (none)) else (some a0))) = some r := h
  clear h
  replace H := Option.bind_eq_some_iff.mp H
  obtain ⟨t299, A30, H⟩ := H
  replace H : (if t299 = true then (if 0 ≤ (wrap64 ((a0.size : Int) - (a1.size : Int))) then (if (wrap64 ((a0.size : Int) - (a1.size : Int))) ≤ (a0.size : Int) then (some (a0.extract 0 ((wrap64 ((a0.size : Int) - (a1.size : Int))) : Int).toNat)) else (none)) else (none)) else (some a0)) = some r := H
  have A3 := Aside0.mk A30
  clear A30
  by_cases c4 : t299 = true
  · subst c4
    have H1 : (if 0 ≤ (wrap64 ((a0.size : Int) - (a1.size : Int))) then (if (wrap64 ((a0.size : Int) - (a1.size : Int))) ≤ (a0.size : Int) then (some (a0.extract 0 ((wrap64 ((a0.size : Int) - (a1.size : Int))) : Int).toNat)) else (none)) else (none)) = some r := by rw [if_pos rfl] at H; exact H
    clear H
    have H := H1
    clear H1
    obtain ⟨ji5, hji5⟩ : ∃ j_ : Int, (wrap64 ((a0.size : Int) - (a1.size : Int))) = j_ := ⟨_, rfl⟩
    replace H : (if 0 ≤ (ji5) then (if (ji5) ≤ (a0.size : Int) then (some (a0.extract 0 ((ji5) : Int).toNat)) else (none)) else (none)) = some r := by first | (rw [hji5] at H; exact H) | (simp only [hji5] at H ⊢; exact H)
    (try rw [hji5] at A3)
    have hji5w : (IntKind.i64.wrap ((a0.size : Int) - (a1.size : Int))) = ji5 := (i64_w _).trans hji5
    by_cases c6 : 0 ≤ (ji5)
    · rw [if_pos c6] at H
      have c6b0 := eq_true c6
      have c6b1 : decide (0 ≤ (ji5)) = true := decide_eq_true c6
      clear c6
      by_cases c7 : (ji5) ≤ (a0.size : Int)
      · rw [if_pos c7] at H
        have c7b0 := eq_true c7
        have c7b1 : decide ((ji5) ≤ (a0.size : Int)) = true := decide_eq_true c7
        clear c7
        obtain rfl := Option.some.inj H
        go_enter Tryd.func108, Tryd.ntmps108
        go_wp2_with (first | ((with_reducible refine gate_callee (f := 124) rfl ?_); refine goesL_ (some 7) rfl rfl Tryd.func124 (by kernel_rfl) rfl #[.string a0, .string a1] rfl (by (try simp only [List.map_toArray, List.map_cons, List.map_nil]); first | done | rfl | (simp only [List.length_drop, List.length_take]; rfl)) ?_; (with_reducible refine (stringslite_HasSuffix.calls a0 a1 true _ A3.out).mono ?_); rintro e w' ⟨rfl, ⟨nd, rfl⟩⟩; refine ⟨_, rfl, ?_⟩))
        go_ret
        exact ⟨by first | rfl | (simp; done) | (simp only [← hji5] <;> (first | rfl | simp)) | (simp [*]; done), by repeat (first | exact Drawn0.refl _ | apply Drawn0.step)⟩
      · rw [if_neg c7] at H
        exact absurd H (by simp)
    · rw [if_neg c6] at H
      exact absurd H (by simp)
  · replace c4 := Bool.eq_false_iff.mpr c4
    subst c4
    have H1 : (some a0) = some r := by rw [if_neg (show ¬ (false = true) by decide)] at H; exact H
    clear H
    have H := H1
    clear H1
    obtain rfl := Option.some.inj H
    go_enter Tryd.func108, Tryd.ntmps108
    go_wp2_with (first | ((with_reducible refine gate_callee (f := 124) rfl ?_); refine goesL_ (some 7) rfl rfl Tryd.func124 (by kernel_rfl) rfl #[.string a0, .string a1] rfl (by (try simp only [List.map_toArray, List.map_cons, List.map_nil]); first | done | rfl | (simp only [List.length_drop, List.length_take]; rfl)) ?_; (with_reducible refine (stringslite_HasSuffix.calls a0 a1 false _ A3.out).mono ?_); rintro e w' ⟨rfl, ⟨nd, rfl⟩⟩; refine ⟨_, rfl, ?_⟩))
    go_ret
    exact ⟨by first | rfl | (simp; done) | (simp [*]; done), by repeat (first | exact Drawn0.refl _ | apply Drawn0.step)⟩

end Go.Proofs.YtpjpnppoejnafaaDoor.G

/- G80 -/
-- Laid by wip/g/gprint.py out of the translation, by the kit's print program. Lean checks it.
namespace Go.Proofs.YtpjpnppoejnafaaDoor.G
open Go.RowKit Go.Proofs.YtpjpnppoejnafaaDoorW.PrintWords Go.Proofs.YtpjpnppoejnafaaDoorW.PrintLast Go.Proofs.YtpjpnppoejnafaaDoorW.PrintMore
attribute [local go_sem] max2_int min2_int max_two min_two max_three min_three max_four min_four   -- for this text's walks alone
set_option linter.unusedVariables false
set_option linter.unusedSimpArgs false

/-! ### strings_TrimSuffix: function 80 -/
def strings_TrimSuffix.f (a0 : ByteArray) (a1 : ByteArray) : Option (ByteArray) := (stringslite_TrimSuffix.f a0 a1).bind fun t300 => (some t300)
set_option maxHeartbeats 8000000 in
set_option maxRecDepth 100000 in
theorem strings_TrimSuffix.calls (a0 : ByteArray) (a1 : ByteArray) (r : ByteArray) (w : World) (h : strings_TrimSuffix.f a0 a1 = some r) :
    Calls Tryd.prog 80 #[.string a0, .string a1] w fun e w' => e = .returned (.string r) ∧ Drawn0 w w' := by
  have H : ((stringslite_TrimSuffix.f a0 a1).bind fun t300 => (some t300)) = some r := h
  clear h
  replace H := Option.bind_eq_some_iff.mp H
  obtain ⟨t300, A30, H⟩ := H
  replace H : (some t300) = some r := H
  have A3 := Aside0.mk A30
  clear A30
  obtain rfl := Option.some.inj H
  go_enter Tryd.func80, Tryd.ntmps80
  go_wp2_with (first | ((with_reducible refine gate_callee (f := 108) rfl ?_); refine goesL_ (some 7) rfl rfl Tryd.func108 (by kernel_rfl) rfl #[.string a0, .string a1] rfl (by (try simp only [List.map_toArray, List.map_cons, List.map_nil]); first | done | rfl | (simp only [List.length_drop, List.length_take]; rfl)) ?_; (with_reducible refine (stringslite_TrimSuffix.calls a0 a1 t300 _ A3.out).mono ?_); rintro e w' ⟨rfl, ⟨nd, rfl⟩⟩; refine ⟨_, rfl, ?_⟩))
  go_ret
  exact ⟨by first | rfl | (simp; done) | (simp [*]; done), by repeat (first | exact Drawn0.refl _ | apply Drawn0.step)⟩

end Go.Proofs.YtpjpnppoejnafaaDoor.G

/- G81 -/
-- Laid by wip/g/gprint.py out of the translation, by the kit's print program. Lean checks it.
namespace Go.Proofs.YtpjpnppoejnafaaDoor.G
open Go.RowKit Go.Proofs.YtpjpnppoejnafaaDoorW.PrintWords Go.Proofs.YtpjpnppoejnafaaDoorW.PrintLast Go.Proofs.YtpjpnppoejnafaaDoorW.PrintMore
attribute [local go_sem] max2_int min2_int max_two min_two max_three min_three max_four min_four   -- for this text's walks alone
set_option linter.unusedVariables false
set_option linter.unusedSimpArgs false

/-! ### strings_CutPrefix: function 81 -/
--IMPORT Derived.Test.YtpjpnppoejnafaaDoorShelf
def strings_CutPrefix.f (a0 : ByteArray) (a1 : ByteArray) : Option (ByteArray × Bool) :=
  some (⟨(Lib.trimPrefix a0.data.toList a1.data.toList).toArray⟩, Lib.hasPrefix a0.data.toList a1.data.toList)
theorem strings_CutPrefix.calls (a0 : ByteArray) (a1 : ByteArray) (r1 : ByteArray) (r2 : Bool) (w : World) (h : strings_CutPrefix.f a0 a1 = some (r1, r2)) :
    Calls Tryd.prog 81 #[.string a0, .string a1] w fun e w' => e = .returned (.tuple #[.string r1, .bool r2]) ∧ Drawn0 w w' := by
  cases h
  refine (Tryd.strings_CutPrefix a0 a1 w).mono ?_
  rintro e w' ⟨rfl, rfl⟩
  exact ⟨rfl, Drawn0.refl _⟩

end Go.Proofs.YtpjpnppoejnafaaDoor.G
