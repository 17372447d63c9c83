import Derived.Test.YtgcgkcchoghkaaaDoorMFnExactPatchTextCard1
import Derived.Test.YtgcgkcchoghkaaaDoorMFnExactPatchTextCard14
import Derived.Test.YtgcgkcchoghkaaaDoorMFnExactPatchTextCard10
import Derived.Test.YtgcgkcchoghkaaaDoorMFnExactPatchTextCard12
import Derived.Test.YtgcgkcchoghkaaaDoorMFnExactPatchTextCard15
import Derived.Test.YtgcgkcchoghkaaaDoorMFnExactPatchTextCard13
import Derived.Test.YtgcgkcchoghkaaaDoorMFnExactPatchTextCard11
import Derived.Handed
import Derived.Test.YtgcgkcchoghkaaaDoorProg
import Derived.Test.YtgcgkcchoghkaaaDoorRows
import Derived.Test.YtgcgkcchoghkaaaDoorMFnExactPatchTextCard2
import Derived.WalkKit
import Derived.ProofKit
import Derived.OpenShut
import Derived.ShutString
import Derived.ChangeOld
import Derived.Carry
import Derived.Below
import Derived.Test.YtgcgkcchoghkaaaDoorCards
import Derived.Test.YtgcgkcchoghkaaaDoorTie
import Derived.Lay
import Derived.LaidMore
import Derived.SevenTiedAt
import Derived.Stop.Joined
/- G5 -/
-- Laid by wip/g/gprint.py out of the translation, by the kit's print program. Lean checks it.
namespace Go.Proofs.YtgcgkcchoghkaaaDoor.G
open Go.RowKit Go.Proofs.YtgcgkcchoghkaaaDoorW.PrintWords Go.Proofs.YtgcgkcchoghkaaaDoorW.PrintLast Go.Proofs.YtgcgkcchoghkaaaDoorW.PrintMore
attribute [local go_sem] max2_int min2_int max_two min_two max_three min_three max_four min_four   -- for this text's walks alone
set_option linter.unusedVariables false
set_option linter.unusedSimpArgs false

/-! ### spec_PatchText: function 5 -/
mutual
def spec_PatchText.l0 : Nat → List (S41) → List ByteArray → ByteArray → Int → Option (ByteArray)
 | 0, _, _, _, _ => none
 | k + 1, x0, x3, x4, x5 => if x5 < (x0.length : Int) then (if 0 ≤ x5 then (if 0 ≤ ((rd_T41 x0 x5).f0) then (if ((rd_T41 x0 x5).f0) < (x3.length : Int) then (if x4.size + (rdOf ByteArray.empty x3 ((rd_T41 x0 x5).f0)).size ≤ 9223372036854775807 then (spec_PatchText.l1 k x0 x3 (x4 ++ (rdOf ByteArray.empty x3 ((rd_T41 x0 x5).f0))) x5 0) else (none)) else (none)) else (none)) else (none)) else (some x4)
def spec_PatchText.l1 : Nat → List (S41) → List ByteArray → ByteArray → Int → Int → Option (ByteArray)
 | 0, _, _, _, _, _ => none
 | k + 1, x0, x3, x4, x5, x6 => if 0 ≤ x5 then (if x5 < (x0.length : Int) then (if x6 < (((rd_T41 x0 x5).f1).length : Int) then (if x6 > 0 then (if x4.size + 1 ≤ 9223372036854775807 then (if 0 ≤ x6 then (if (x4 ++ (⟨#[47]⟩ : ByteArray)).size + (rdOf ByteArray.empty ((rd_T41 x0 x5).f1) x6).size ≤ 9223372036854775807 then (spec_PatchText.l1 k x0 x3 ((x4 ++ (⟨#[47]⟩ : ByteArray)) ++ (rdOf ByteArray.empty ((rd_T41 x0 x5).f1) x6)) x5 (wrap64 (x6 + 1))) else (none)) else (none)) else (none)) else (if 0 ≤ x6 then (if x4.size + (rdOf ByteArray.empty ((rd_T41 x0 x5).f1) x6).size ≤ 9223372036854775807 then (spec_PatchText.l1 k x0 x3 (x4 ++ (rdOf ByteArray.empty ((rd_T41 x0 x5).f1) x6)) x5 (wrap64 (x6 + 1))) else (none)) else (none))) else (if ((rd_T41 x0 x5).f0) = 2 then (if x4.size + 1 ≤ 9223372036854775807 then (spec_PatchText.l0 k x0 x3 (x4 ++ (⟨#[10]⟩ : ByteArray)) (wrap64 (x5 + 1))) else (none)) else (if x4.size + 1 ≤ 9223372036854775807 then ((spec_l4Print.f k ((rd_T41 x0 x5).f2.f0) ((rd_T41 x0 x5).f2.f1) ((rd_T41 x0 x5).f2.f2) ((rd_T41 x0 x5).f2.f3) ((rd_T41 x0 x5).f2.f4)).bind fun t196 => (if (x4 ++ (⟨#[32]⟩ : ByteArray)).size + t196.size ≤ 9223372036854775807 then (if ((x4 ++ (⟨#[32]⟩ : ByteArray)) ++ t196).size + 1 ≤ 9223372036854775807 then (spec_PatchText.l0 k x0 x3 (((x4 ++ (⟨#[32]⟩ : ByteArray)) ++ t196) ++ (⟨#[10]⟩ : ByteArray)) (wrap64 (x5 + 1))) else (none)) else (none))) else (none)))) else (none)) else (none)
end
def spec_PatchText.f (k : Nat) (l0 : List (S41)) : Option (ByteArray) := (spec_PatchOk.f k l0).bind fun t183 => (if t183 = true then (spec_PatchText.l0 k l0 (([(⟨#[]⟩ : ByteArray), (⟨#[115, 101, 116, 32]⟩ : ByteArray), (⟨#[100, 114, 111, 112, 32]⟩ : ByteArray), (⟨#[110, 101, 101, 100, 32]⟩ : ByteArray)] : List ByteArray)) (⟨#[]⟩ : ByteArray) 0) else (some (⟨#[]⟩ : ByteArray)))
set_option maxHeartbeats 8000000 in
set_option maxRecDepth 100000 in
theorem spec_PatchText.calls (k : Nat) (A0 : Option Addr) (c0 : Nat) (l0 : List (S41)) (r : ByteArray) (w : World) (hr0 : Kd.C k41 w A0 l0.length l0) (hc0 : l0.length ≤ c0) (h : spec_PatchText.f k l0 = some r) :
  Calls Tryd.prog 5 #[.slice A0 l0.length c0] w fun e w' => e = .returned (.string r) ∧ Below w.heap.size w w' := by
 have hu39 := Tryd.underlying39
 have HR0 := Aside0.mk hr0
 have HC0 := Aside0.mk hc0
 clear hr0 hc0
 have HB := Aside0.mk (Below.refl w.heap.size w)
 unfold spec_PatchText.f at h; have H := h
 clear h
 replace H := Option.bind_eq_some_iff.mp H
 obtain ⟨t183, A20, H⟩ := H
 try dsimp only at H
 have A2 := Aside0.mk A20
 clear A20
 by_cases c3 : t183 = true
 ·subst c3
  have H1 : (spec_PatchText.l0 k l0 (([(⟨#[]⟩ : ByteArray), (⟨#[115, 101, 116, 32]⟩ : ByteArray), (⟨#[100, 114, 111, 112, 32]⟩ : ByteArray), (⟨#[110, 101, 101, 100, 32]⟩ : ByteArray)] : List ByteArray)) (⟨#[]⟩ : ByteArray) 0) = some r := by rw [if_pos rfl] at H; exact H
  clear H
  have H := H1
  clear H1
  obtain ⟨y184, hy184⟩ : ∃ y_ : List ByteArray, y_ = (([(⟨#[]⟩ : ByteArray), (⟨#[115, 101, 116, 32]⟩ : ByteArray), (⟨#[100, 114, 111, 112, 32]⟩ : ByteArray), (⟨#[110, 101, 101, 100, 32]⟩ : ByteArray)] : List ByteArray)) := ⟨_, rfl⟩
  replace H : (spec_PatchText.l0 k l0 y184 (⟨#[]⟩ : ByteArray) 0) = some r := by first | (rw [hy184]; with_reducible exact H) | (have H2_ := (Option.bind_some _ _).symm.trans H; rw [hy184]; with_reducible exact H2_) | (have H2_ := (Option.bind_some _ _).symm.trans H; with_reducible exact H2_) | with_reducible exact H | (rw [hy184]; exact H) | exact H
  have Ny184 := Aside0.mk hy184
  clear hy184
  have H' := Aside0.mk H
  clear H
  go_enter Tryd.func5, Tryd.ntmps5
  go_wp2_with (first | ((with_reducible refine gate_callee (f := 10) rfl ?_); refine goesL_ (some 8) rfl rfl Tryd.func10 (by kernel_rfl) rfl #[.slice A0 l0.length c0] rfl (by (try simp only [List.map_toArray, List.map_cons, List.map_nil]); first | done | rfl | (simp only [List.length_drop, List.length_take]; rfl)) ?_; (with_reducible refine (spec_PatchOk.calls k _ _ l0 true _ (qC0 HR0) HC0.out A2.out).mono ?_); rintro e w4 ⟨rfl, hb⟩; refine ⟨_, rfl, ?_⟩; have n0_ := Aside0.mk (below_step (qB HB) hb); clear HB; have HB := n0_; clear n0_; (try clear hb); (try clear hb2); (try clear hk); (try clear hi)) | ((with_reducible refine gate_dst (N := 10) rfl ?_); refine Kd.R_lit Kd.string _ 9 ?hg (N := 10) ?hd (xs := ([(⟨#[]⟩ : ByteArray), (⟨#[115, 101, 116, 32]⟩ : ByteArray), (⟨#[100, 114, 111, 112, 32]⟩ : ByteArray), (⟨#[110, 101, 101, 100, 32]⟩ : ByteArray)] : List ByteArray)) (inner := [.string (⟨#[]⟩ : ByteArray), .string (⟨#[115, 101, 116, 32]⟩ : ByteArray), .string (⟨#[100, 114, 111, 112, 32]⟩ : ByteArray), .string (⟨#[110, 101, 101, 100, 32]⟩ : ByteArray)]) (ok := fun _ => True) (okp := fun _ => True) ?hr ?hp (fun _ hk => hk) trivial (Below.refl _ _) (Nat.le_refl _) (by simp) ?_; (case hd => rfl); (case hg => rfl); (case hr => go_simp); (case hp => exact (Reps.one (show Kd.M Kd.string _ _ _ (⟨#[]⟩ : ByteArray) [.string (⟨#[]⟩ : ByteArray)] from rfl) (Reps.one (show Kd.M Kd.string _ _ _ (⟨#[115, 101, 116, 32]⟩ : ByteArray) [.string (⟨#[115, 101, 116, 32]⟩ : ByteArray)] from rfl) (Reps.one (show Kd.M Kd.string _ _ _ (⟨#[100, 114, 111, 112, 32]⟩ : ByteArray) [.string (⟨#[100, 114, 111, 112, 32]⟩ : ByteArray)] from rfl) (Reps.one (show Kd.M Kd.string _ _ _ (⟨#[110, 101, 101, 100, 32]⟩ : ByteArray) [.string (⟨#[110, 101, 101, 100, 32]⟩ : ByteArray)] from rfl) (Reps.none _ _)))))); intro v185 w5 ho6 hb hg_ hnew_; clear hg_ hnew_; (first | rw [← Ny184.out] at ho6 | (simp only [Int.reduceToNat] at ho6; rw [← Ny184.out] at ho6)); have n0_ := Aside0.mk (Kd.R_lower ho6 (below_size (qB HB))); have n1_ := Aside0.mk (below_step (qB HB) hb); clear HB; have HO186 := n0_; have HB := n1_; clear n0_ n1_; clear hb ho6))
  go_loopg [4, 5] k (fun kq v4 v5 w' => ∃ (x4_1 : ByteArray) (x5_1 : Int), v4 = .string x4_1 ∧ v5 = .int .i64 x5_1 ∧ Aside0 (spec_PatchText.l0 kq l0 y184 x4_1 x5_1 = some r) ∧ Aside0 (kq ≤ k) ∧ Aside0 (Kd.R Kd.string 9 w' w.heap.size (fun _ => True) v185 y184) ∧ Aside0 (Below w.heap.size w w'))
  case atStart => exact ⟨((⟨#[]⟩ : ByteArray)), (0), (by first | rfl | (simp; done) | (simp [*]; done)), (by first | rfl | (simp; done) | (simp [*]; done)), H', ⟨Nat.le_refl _⟩, ⟨by (with_reducible repeat (first | apply Kd.R_alloc | apply Kd.R_drewN | apply Kd.R_drew)); exact HO186.out⟩, ⟨qB HB⟩⟩
  case round =>
   clear H'
   try clear c1
   try clear p2
   try clear c3
   try clear c5
   obtain ⟨x4_1, x5_1, rfl, rfl, HA, HK1, HO_3, HB⟩ := hrel
   cases gk with
   | zero => exact absurd HA.out (by simp [spec_PatchText.l0])
   | succ k1 =>
    have H := HA.out
    clear HA
    simp only [spec_PatchText.l0] at H
    by_cases c7 : x5_1 < (l0.length : Int)
    ·rw [if_pos c7] at H
     have c7b0 : decide (x5_1 < (l0.length : Int)) = true := decide_eq_true c7
     clear c7
     by_cases c8 : 0 ≤ x5_1
     ·rw [if_pos c8] at H
      have c8b0 : decide (0 ≤ x5_1) = true := decide_eq_true c8
      clear c8
      by_cases c9 : 0 ≤ ((rd_T41 l0 x5_1).f0)
      ·rw [if_pos c9] at H
       have c9b0 : decide (0 ≤ ((rd_T41 l0 x5_1).f0)) = true := decide_eq_true c9
       clear c9
       by_cases c10 : ((rd_T41 l0 x5_1).f0) < (y184.length : Int)
       ·rw [if_pos c10] at H
        have c10b0 : decide (((rd_T41 l0 x5_1).f0) < (y184.length : Int)) = true := decide_eq_true c10
        clear c10
        by_cases c11 : x4_1.size + (rdOf ByteArray.empty y184 ((rd_T41 l0 x5_1).f0)).size ≤ 9223372036854775807
        ·rw [if_pos c11] at H
         have c11b0 := eq_true c11
         have c11b1 : decide (x4_1.size + (rdOf ByteArray.empty y184 ((rd_T41 l0 x5_1).f0)).size ≤ 9223372036854775807) = true := decide_eq_true c11
         try have c11b2 : (9223372036854775807 < x4_1.size + (rdOf ByteArray.empty y184 ((rd_T41 l0 x5_1).f0)).size) = False := eq_false (Nat.not_lt.2 c11)
         have H' := Aside0.mk H
         clear H
         have p187 : 0 ≤ (x5_1 : Int) := of_decide_eq_true (by first | (with_reducible assumption) | assumption)
         have q187 : x5_1 < (l0.length : Int) := of_decide_eq_true (by first | (with_reducible assumption) | assumption)
         obtain ⟨ad187, A187_1, c187_1, A187_5, c187_5, A187_6, c187_6, e187, hx187_0, hx187_1, hx187_2, hx187_3, hx187_4, hx187_5, hx187_6, hl187_1, hi187_1, hl187_5, hi187_5, hl187_6, hi187_6⟩ := at_T41 HR0.out x5_1 p187 q187
         cases e187
         replace hx187_0 := (HB.out.cell (World.block_lt_of_cell? w _ hx187_0)).trans hx187_0
         replace hx187_1 := (HB.out.cell (World.block_lt_of_cell? w _ hx187_1)).trans hx187_1
         replace hx187_2 := (HB.out.cell (World.block_lt_of_cell? w _ hx187_2)).trans hx187_2
         replace hx187_3 := (HB.out.cell (World.block_lt_of_cell? w _ hx187_3)).trans hx187_3
         replace hx187_4 := (HB.out.cell (World.block_lt_of_cell? w _ hx187_4)).trans hx187_4
         replace hx187_5 := (HB.out.cell (World.block_lt_of_cell? w _ hx187_5)).trans hx187_5
         replace hx187_6 := (HB.out.cell (World.block_lt_of_cell? w _ hx187_6)).trans hx187_6
         have HR187_1 := Aside0.mk hi187_1
         have HC187_1 := Aside0.mk hl187_1
         clear hi187_1 hl187_1
         have HR187_5 := Aside0.mk hi187_5
         have HC187_5 := Aside0.mk hl187_5
         clear hi187_5 hl187_5
         have HR187_6 := Aside0.mk hi187_6
         have HC187_6 := Aside0.mk hl187_6
         clear hi187_6 hl187_6
         replace p187 := eq_true p187
         replace q187 := eq_true q187
         obtain ⟨Ao12, co12, eo12⟩ := Kd.R_slice HO_3.out
         subst eo12
         have p188 : 0 ≤ (((rd_T41 l0 x5_1).f0) : Int) := of_decide_eq_true (by first | (with_reducible assumption) | assumption)
         have q188 : ((rd_T41 l0 x5_1).f0) < (y184.length : Int) := of_decide_eq_true (by first | (with_reducible assumption) | assumption)
         obtain ⟨ad188, e188, hx188_0⟩ := Kd.at_string (Kd.R_reads' HO_3.out).2.2 ((rd_T41 l0 x5_1).f0) p188 q188
         cases e188
         replace p188 := eq_true p188
         replace q188 := eq_true q188
         go_wp2
         go_loopg [4, 6] k1 (fun kq v4 v6 w' => ∃ (x4_2 : ByteArray) (x6_2 : Int), v4 = .string x4_2 ∧ v6 = .int .i64 x6_2 ∧ Aside0 (spec_PatchText.l1 kq l0 y184 x4_2 x5_1 x6_2 = some r) ∧ Aside0 (kq ≤ k1) ∧ Aside0 (Kd.R Kd.string 9 w' w.heap.size (fun _ => True) (.slice (some ad188) y184.length co12) y184) ∧ Aside0 (Below w.heap.size w w'))
         case atStart => exact ⟨(x4_1 ++ (rdOf ByteArray.empty y184 ((rd_T41 l0 x5_1).f0))), (0), (by first | rfl | (simp; done) | (simp [*]; done)), (by first | rfl | (simp; done) | (simp [*]; done)), H', ⟨Nat.le_refl _⟩, ⟨by (with_reducible repeat (first | apply Kd.R_alloc | apply Kd.R_drewN | apply Kd.R_drew)); exact HO_3.out⟩, ⟨qB HB⟩⟩
         case round =>
          clear H'
          try clear c1
          try clear p1
          try clear q1
          try clear hx1
          try clear p2
          try clear c3
          try clear c5
          try clear c7
          try clear c7b0
          try clear c8
          try clear c8b0
          try clear c9
          try clear c9b0
          try clear c10
          try clear c10b0
          try clear c11
          try clear c11b0
          try clear c11b1
          try clear c11b2
          try clear hx187_0
          try clear hx187_1
          try clear hx187_2
          try clear hx187_3
          try clear hx187_4
          try clear hx187_5
          try clear hx187_6
          try clear hx188_0
          try clear p187
          try clear p188
          try clear p2
          try clear q187
          try clear q188
          obtain ⟨x4_2, x6_2, rfl, rfl, HA, HK2, HO_3, HB⟩ := hrel
          cases gk with
          | zero => exact absurd HA.out (by simp [spec_PatchText.l1])
          | succ k2 =>
           have H := HA.out
           clear HA
           simp only [spec_PatchText.l1] at H
           by_cases c13 : 0 ≤ x5_1
           ·rw [if_pos c13] at H
            have c13b0 : decide (0 ≤ x5_1) = true := decide_eq_true c13
            clear c13
            by_cases c14 : x5_1 < (l0.length : Int)
            ·rw [if_pos c14] at H
             have c14b0 : decide (x5_1 < (l0.length : Int)) = true := decide_eq_true c14
             clear c14
             by_cases c15 : x6_2 < (((rd_T41 l0 x5_1).f1).length : Int)
             ·rw [if_pos c15] at H
              have c15b0 : decide (x6_2 < (((rd_T41 l0 x5_1).f1).length : Int)) = true := decide_eq_true c15
              clear c15
              by_cases c16 : x6_2 > 0
              ·rw [if_pos c16] at H
               have c16b0 : decide (0 < x6_2) = true := decide_eq_true c16
               clear c16
               by_cases c17 : x4_2.size + 1 ≤ 9223372036854775807
               ·rw [if_pos c17] at H
                have c17b0 := eq_true c17
                have c17b1 : decide (x4_2.size + 1 ≤ 9223372036854775807) = true := decide_eq_true c17
                try have c17b2 : (9223372036854775807 < x4_2.size + 1) = False := eq_false (Nat.not_lt.2 c17)
                by_cases c18 : 0 ≤ x6_2
                ·rw [if_pos c18] at H
                 have c18b0 : decide (0 ≤ x6_2) = true := decide_eq_true c18
                 clear c18
                 by_cases c19 : (x4_2 ++ (⟨#[47]⟩ : ByteArray)).size + (rdOf ByteArray.empty ((rd_T41 l0 x5_1).f1) x6_2).size ≤ 9223372036854775807
                 ·rw [if_pos c19] at H
                  have c19b0 := eq_true c19
                  have c19b1 : decide ((x4_2 ++ (⟨#[47]⟩ : ByteArray)).size + (rdOf ByteArray.empty ((rd_T41 l0 x5_1).f1) x6_2).size ≤ 9223372036854775807) = true := decide_eq_true c19
                  try have c19b2 : (9223372036854775807 < (x4_2 ++ (⟨#[47]⟩ : ByteArray)).size + (rdOf ByteArray.empty ((rd_T41 l0 x5_1).f1) x6_2).size) = False := eq_false (Nat.not_lt.2 c19)
                  have c19m : x4_2.size + 1 + (rdOf ByteArray.empty ((rd_T41 l0 x5_1).f1) x6_2).size ≤ 9223372036854775807 := by have h_ := c19; simp only [ByteArray.size_append] at h_; exact h_
                  have c19m0 := eq_true c19m
                  have c19m1 : decide (x4_2.size + 1 + (rdOf ByteArray.empty ((rd_T41 l0 x5_1).f1) x6_2).size ≤ 9223372036854775807) = true := decide_eq_true c19m
                  have c19m2 : (9223372036854775807 < x4_2.size + 1 + (rdOf ByteArray.empty ((rd_T41 l0 x5_1).f1) x6_2).size) = False := eq_false (Nat.not_lt.2 c19m)
                  have H' := Aside0.mk H
                  clear H
                  have p189 : 0 ≤ (x5_1 : Int) := of_decide_eq_true (by first | (with_reducible assumption) | assumption)
                  have q189 : x5_1 < (l0.length : Int) := of_decide_eq_true (by first | (with_reducible assumption) | assumption)
                  obtain ⟨ad189, A189_1, c189_1, A189_5, c189_5, A189_6, c189_6, e189, hx189_0, hx189_1, hx189_2, hx189_3, hx189_4, hx189_5, hx189_6, hl189_1, hi189_1, hl189_5, hi189_5, hl189_6, hi189_6⟩ := at_T41 HR0.out x5_1 p189 q189
                  obtain rfl : ad187 = ad189 := (by injection e189)
                  replace hx189_0 := (HB.out.cell (World.block_lt_of_cell? w _ hx189_0)).trans hx189_0
                  replace hx189_1 := (HB.out.cell (World.block_lt_of_cell? w _ hx189_1)).trans hx189_1
                  replace hx189_2 := (HB.out.cell (World.block_lt_of_cell? w _ hx189_2)).trans hx189_2
                  replace hx189_3 := (HB.out.cell (World.block_lt_of_cell? w _ hx189_3)).trans hx189_3
                  replace hx189_4 := (HB.out.cell (World.block_lt_of_cell? w _ hx189_4)).trans hx189_4
                  replace hx189_5 := (HB.out.cell (World.block_lt_of_cell? w _ hx189_5)).trans hx189_5
                  replace hx189_6 := (HB.out.cell (World.block_lt_of_cell? w _ hx189_6)).trans hx189_6
                  have HR189_1 := Aside0.mk hi189_1
                  have HC189_1 := Aside0.mk hl189_1
                  clear hi189_1 hl189_1
                  have HR189_5 := Aside0.mk hi189_5
                  have HC189_5 := Aside0.mk hl189_5
                  clear hi189_5 hl189_5
                  have HR189_6 := Aside0.mk hi189_6
                  have HC189_6 := Aside0.mk hl189_6
                  clear hi189_6 hl189_6
                  replace p189 := eq_true p189
                  replace q189 := eq_true q189
                  have p190 : 0 ≤ (x5_1 : Int) := of_decide_eq_true (by first | (with_reducible assumption) | assumption)
                  have q190 : x5_1 < (l0.length : Int) := of_decide_eq_true (by first | (with_reducible assumption) | assumption)
                  obtain ⟨ad190, A190_1, c190_1, A190_5, c190_5, A190_6, c190_6, e190, hx190_0, hx190_1, hx190_2, hx190_3, hx190_4, hx190_5, hx190_6, hl190_1, hi190_1, hl190_5, hi190_5, hl190_6, hi190_6⟩ := at_T41 HR0.out x5_1 p190 q190
                  obtain rfl : ad187 = ad190 := (by injection e190)
                  replace hx190_0 := (HB.out.cell (World.block_lt_of_cell? w _ hx190_0)).trans hx190_0
                  replace hx190_1 := (HB.out.cell (World.block_lt_of_cell? w _ hx190_1)).trans hx190_1
                  replace hx190_2 := (HB.out.cell (World.block_lt_of_cell? w _ hx190_2)).trans hx190_2
                  replace hx190_3 := (HB.out.cell (World.block_lt_of_cell? w _ hx190_3)).trans hx190_3
                  replace hx190_4 := (HB.out.cell (World.block_lt_of_cell? w _ hx190_4)).trans hx190_4
                  replace hx190_5 := (HB.out.cell (World.block_lt_of_cell? w _ hx190_5)).trans hx190_5
                  replace hx190_6 := (HB.out.cell (World.block_lt_of_cell? w _ hx190_6)).trans hx190_6
                  have HR190_1 := Aside0.mk hi190_1
                  have HC190_1 := Aside0.mk hl190_1
                  clear hi190_1 hl190_1
                  have HR190_5 := Aside0.mk hi190_5
                  have HC190_5 := Aside0.mk hl190_5
                  clear hi190_5 hl190_5
                  have HR190_6 := Aside0.mk hi190_6
                  have HC190_6 := Aside0.mk hl190_6
                  clear hi190_6 hl190_6
                  replace p190 := eq_true p190
                  replace q190 := eq_true q190
                  have ea_ := Option.some.inj (hx189_1.symm.trans hx190_1)
                  injection ea_ with ea_ en_ ec_
                  subst ea_
                  subst ec_
                  clear en_
                  have ea_ := Option.some.inj (hx189_5.symm.trans hx190_5)
                  injection ea_ with ea_ en_ ec_
                  subst ea_
                  subst ec_
                  clear en_
                  have ea_ := Option.some.inj (hx189_6.symm.trans hx190_6)
                  injection ea_ with ea_ en_ ec_
                  subst ea_
                  subst ec_
                  clear en_
                  have p191 : 0 ≤ (x6_2 : Int) := of_decide_eq_true (by first | (with_reducible assumption) | assumption)
                  have q191 : x6_2 < (((rd_T41 l0 x5_1).f1).length : Int) := of_decide_eq_true (by first | (with_reducible assumption) | assumption)
                  obtain ⟨ad191, e191, hx191_0⟩ := Kd.at_string HR190_1.out x6_2 p191 q191
                  cases e191
                  replace hx191_0 := (HB.out.cell (World.block_lt_of_cell? w _ hx191_0)).trans hx191_0
                  replace p191 := eq_true p191
                  replace q191 := eq_true q191
                  go_wp2
                  go_roundg k2
                  case measure => have := HK1.out; have := HK2.out; omega
                  case rel => exact ⟨((x4_2 ++ (⟨#[47]⟩ : ByteArray)) ++ (rdOf ByteArray.empty ((rd_T41 l0 x5_1).f1) x6_2)), (wrap64 (x6_2 + 1)), (by first | rfl | (simp; done) | (simp [*]; done)), (by first | rfl | (simp; done) | (simp [*]; done)), H', ⟨by have := HK1.out; have := HK2.out; omega⟩, ⟨by (with_reducible repeat (first | apply Kd.R_alloc | apply Kd.R_drewN | apply Kd.R_drew)); exact HO_3.out⟩, ⟨qB HB⟩⟩
                 ·rw [if_neg c19] at H
                  exact absurd H (by simp)
                ·rw [if_neg c18] at H
                 exact absurd H (by simp)
               ·rw [if_neg c17] at H
                exact absurd H (by simp)
              ·rw [if_neg c16] at H
               have c16b0 : decide (0 < x6_2) = false := decide_eq_false c16
               clear c16
               by_cases c20 : 0 ≤ x6_2
               ·rw [if_pos c20] at H
                have c20b0 : decide (0 ≤ x6_2) = true := decide_eq_true c20
                clear c20
                by_cases c21 : x4_2.size + (rdOf ByteArray.empty ((rd_T41 l0 x5_1).f1) x6_2).size ≤ 9223372036854775807
                ·rw [if_pos c21] at H
                 have c21b0 := eq_true c21
                 have c21b1 : decide (x4_2.size + (rdOf ByteArray.empty ((rd_T41 l0 x5_1).f1) x6_2).size ≤ 9223372036854775807) = true := decide_eq_true c21
                 try have c21b2 : (9223372036854775807 < x4_2.size + (rdOf ByteArray.empty ((rd_T41 l0 x5_1).f1) x6_2).size) = False := eq_false (Nat.not_lt.2 c21)
                 have H' := Aside0.mk H
                 clear H
                 have p189 : 0 ≤ (x5_1 : Int) := of_decide_eq_true (by first | (with_reducible assumption) | assumption)
                 have q189 : x5_1 < (l0.length : Int) := of_decide_eq_true (by first | (with_reducible assumption) | assumption)
                 obtain ⟨ad189, A189_1, c189_1, A189_5, c189_5, A189_6, c189_6, e189, hx189_0, hx189_1, hx189_2, hx189_3, hx189_4, hx189_5, hx189_6, hl189_1, hi189_1, hl189_5, hi189_5, hl189_6, hi189_6⟩ := at_T41 HR0.out x5_1 p189 q189
                 obtain rfl : ad187 = ad189 := (by injection e189)
                 replace hx189_0 := (HB.out.cell (World.block_lt_of_cell? w _ hx189_0)).trans hx189_0
                 replace hx189_1 := (HB.out.cell (World.block_lt_of_cell? w _ hx189_1)).trans hx189_1
                 replace hx189_2 := (HB.out.cell (World.block_lt_of_cell? w _ hx189_2)).trans hx189_2
                 replace hx189_3 := (HB.out.cell (World.block_lt_of_cell? w _ hx189_3)).trans hx189_3
                 replace hx189_4 := (HB.out.cell (World.block_lt_of_cell? w _ hx189_4)).trans hx189_4
                 replace hx189_5 := (HB.out.cell (World.block_lt_of_cell? w _ hx189_5)).trans hx189_5
                 replace hx189_6 := (HB.out.cell (World.block_lt_of_cell? w _ hx189_6)).trans hx189_6
                 have HR189_1 := Aside0.mk hi189_1
                 have HC189_1 := Aside0.mk hl189_1
                 clear hi189_1 hl189_1
                 have HR189_5 := Aside0.mk hi189_5
                 have HC189_5 := Aside0.mk hl189_5
                 clear hi189_5 hl189_5
                 have HR189_6 := Aside0.mk hi189_6
                 have HC189_6 := Aside0.mk hl189_6
                 clear hi189_6 hl189_6
                 replace p189 := eq_true p189
                 replace q189 := eq_true q189
                 have p192 : 0 ≤ (x5_1 : Int) := of_decide_eq_true (by first | (with_reducible assumption) | assumption)
                 have q192 : x5_1 < (l0.length : Int) := of_decide_eq_true (by first | (with_reducible assumption) | assumption)
                 obtain ⟨ad192, A192_1, c192_1, A192_5, c192_5, A192_6, c192_6, e192, hx192_0, hx192_1, hx192_2, hx192_3, hx192_4, hx192_5, hx192_6, hl192_1, hi192_1, hl192_5, hi192_5, hl192_6, hi192_6⟩ := at_T41 HR0.out x5_1 p192 q192
                 obtain rfl : ad187 = ad192 := (by injection e192)
                 replace hx192_0 := (HB.out.cell (World.block_lt_of_cell? w _ hx192_0)).trans hx192_0
                 replace hx192_1 := (HB.out.cell (World.block_lt_of_cell? w _ hx192_1)).trans hx192_1
                 replace hx192_2 := (HB.out.cell (World.block_lt_of_cell? w _ hx192_2)).trans hx192_2
                 replace hx192_3 := (HB.out.cell (World.block_lt_of_cell? w _ hx192_3)).trans hx192_3
                 replace hx192_4 := (HB.out.cell (World.block_lt_of_cell? w _ hx192_4)).trans hx192_4
                 replace hx192_5 := (HB.out.cell (World.block_lt_of_cell? w _ hx192_5)).trans hx192_5
                 replace hx192_6 := (HB.out.cell (World.block_lt_of_cell? w _ hx192_6)).trans hx192_6
                 have HR192_1 := Aside0.mk hi192_1
                 have HC192_1 := Aside0.mk hl192_1
                 clear hi192_1 hl192_1
                 have HR192_5 := Aside0.mk hi192_5
                 have HC192_5 := Aside0.mk hl192_5
                 clear hi192_5 hl192_5
                 have HR192_6 := Aside0.mk hi192_6
                 have HC192_6 := Aside0.mk hl192_6
                 clear hi192_6 hl192_6
                 replace p192 := eq_true p192
                 replace q192 := eq_true q192
                 have ea_ := Option.some.inj (hx189_1.symm.trans hx192_1)
                 injection ea_ with ea_ en_ ec_
                 subst ea_
                 subst ec_
                 clear en_
                 have ea_ := Option.some.inj (hx189_5.symm.trans hx192_5)
                 injection ea_ with ea_ en_ ec_
                 subst ea_
                 subst ec_
                 clear en_
                 have ea_ := Option.some.inj (hx189_6.symm.trans hx192_6)
                 injection ea_ with ea_ en_ ec_
                 subst ea_
                 subst ec_
                 clear en_
                 have p193 : 0 ≤ (x6_2 : Int) := of_decide_eq_true (by first | (with_reducible assumption) | assumption)
                 have q193 : x6_2 < (((rd_T41 l0 x5_1).f1).length : Int) := of_decide_eq_true (by first | (with_reducible assumption) | assumption)
                 obtain ⟨ad193, e193, hx193_0⟩ := Kd.at_string HR192_1.out x6_2 p193 q193
                 cases e193
                 replace hx193_0 := (HB.out.cell (World.block_lt_of_cell? w _ hx193_0)).trans hx193_0
                 replace p193 := eq_true p193
                 replace q193 := eq_true q193
                 go_wp2
                 go_roundg k2
                 case measure => have := HK1.out; have := HK2.out; omega
                 case rel => exact ⟨(x4_2 ++ (rdOf ByteArray.empty ((rd_T41 l0 x5_1).f1) x6_2)), (wrap64 (x6_2 + 1)), (by first | rfl | (simp; done) | (simp [*]; done)), (by first | rfl | (simp; done) | (simp [*]; done)), H', ⟨by have := HK1.out; have := HK2.out; omega⟩, ⟨by (with_reducible repeat (first | apply Kd.R_alloc | apply Kd.R_drewN | apply Kd.R_drew)); exact HO_3.out⟩, ⟨qB HB⟩⟩
                ·rw [if_neg c21] at H
                 exact absurd H (by simp)
               ·rw [if_neg c20] at H
                exact absurd H (by simp)
             ·rw [if_neg c15] at H
              have c15b0 : decide (x6_2 < (((rd_T41 l0 x5_1).f1).length : Int)) = false := decide_eq_false c15
              clear c15
              by_cases c22 : ((rd_T41 l0 x5_1).f0) = 2
              ·rw [if_pos c22] at H
               have c22b0 : (((rd_T41 l0 x5_1).f0) == 2) = true := beq_iff_eq.mpr c22
               have c22b1 : (((rd_T41 l0 x5_1).f0) != 2) = false := bne_eq_false_iff_eq.mpr c22
               clear c22
               by_cases c23 : x4_2.size + 1 ≤ 9223372036854775807
               ·rw [if_pos c23] at H
                have c23b0 := eq_true c23
                have c23b1 : decide (x4_2.size + 1 ≤ 9223372036854775807) = true := decide_eq_true c23
                try have c23b2 : (9223372036854775807 < x4_2.size + 1) = False := eq_false (Nat.not_lt.2 c23)
                have H' := Aside0.mk H
                clear H
                have p189 : 0 ≤ (x5_1 : Int) := of_decide_eq_true (by first | (with_reducible assumption) | assumption)
                have q189 : x5_1 < (l0.length : Int) := of_decide_eq_true (by first | (with_reducible assumption) | assumption)
                obtain ⟨ad189, A189_1, c189_1, A189_5, c189_5, A189_6, c189_6, e189, hx189_0, hx189_1, hx189_2, hx189_3, hx189_4, hx189_5, hx189_6, hl189_1, hi189_1, hl189_5, hi189_5, hl189_6, hi189_6⟩ := at_T41 HR0.out x5_1 p189 q189
                obtain rfl : ad187 = ad189 := (by injection e189)
                replace hx189_0 := (HB.out.cell (World.block_lt_of_cell? w _ hx189_0)).trans hx189_0
                replace hx189_1 := (HB.out.cell (World.block_lt_of_cell? w _ hx189_1)).trans hx189_1
                replace hx189_2 := (HB.out.cell (World.block_lt_of_cell? w _ hx189_2)).trans hx189_2
                replace hx189_3 := (HB.out.cell (World.block_lt_of_cell? w _ hx189_3)).trans hx189_3
                replace hx189_4 := (HB.out.cell (World.block_lt_of_cell? w _ hx189_4)).trans hx189_4
                replace hx189_5 := (HB.out.cell (World.block_lt_of_cell? w _ hx189_5)).trans hx189_5
                replace hx189_6 := (HB.out.cell (World.block_lt_of_cell? w _ hx189_6)).trans hx189_6
                have HR189_1 := Aside0.mk hi189_1
                have HC189_1 := Aside0.mk hl189_1
                clear hi189_1 hl189_1
                have HR189_5 := Aside0.mk hi189_5
                have HC189_5 := Aside0.mk hl189_5
                clear hi189_5 hl189_5
                have HR189_6 := Aside0.mk hi189_6
                have HC189_6 := Aside0.mk hl189_6
                clear hi189_6 hl189_6
                replace p189 := eq_true p189
                replace q189 := eq_true q189
                have p194 : 0 ≤ (x5_1 : Int) := of_decide_eq_true (by first | (with_reducible assumption) | assumption)
                have q194 : x5_1 < (l0.length : Int) := of_decide_eq_true (by first | (with_reducible assumption) | assumption)
                obtain ⟨ad194, A194_1, c194_1, A194_5, c194_5, A194_6, c194_6, e194, hx194_0, hx194_1, hx194_2, hx194_3, hx194_4, hx194_5, hx194_6, hl194_1, hi194_1, hl194_5, hi194_5, hl194_6, hi194_6⟩ := at_T41 HR0.out x5_1 p194 q194
                obtain rfl : ad187 = ad194 := (by injection e194)
                replace hx194_0 := (HB.out.cell (World.block_lt_of_cell? w _ hx194_0)).trans hx194_0
                replace hx194_1 := (HB.out.cell (World.block_lt_of_cell? w _ hx194_1)).trans hx194_1
                replace hx194_2 := (HB.out.cell (World.block_lt_of_cell? w _ hx194_2)).trans hx194_2
                replace hx194_3 := (HB.out.cell (World.block_lt_of_cell? w _ hx194_3)).trans hx194_3
                replace hx194_4 := (HB.out.cell (World.block_lt_of_cell? w _ hx194_4)).trans hx194_4
                replace hx194_5 := (HB.out.cell (World.block_lt_of_cell? w _ hx194_5)).trans hx194_5
                replace hx194_6 := (HB.out.cell (World.block_lt_of_cell? w _ hx194_6)).trans hx194_6
                have HR194_1 := Aside0.mk hi194_1
                have HC194_1 := Aside0.mk hl194_1
                clear hi194_1 hl194_1
                have HR194_5 := Aside0.mk hi194_5
                have HC194_5 := Aside0.mk hl194_5
                clear hi194_5 hl194_5
                have HR194_6 := Aside0.mk hi194_6
                have HC194_6 := Aside0.mk hl194_6
                clear hi194_6 hl194_6
                replace p194 := eq_true p194
                replace q194 := eq_true q194
                have ea_ := Option.some.inj (hx189_1.symm.trans hx194_1)
                injection ea_ with ea_ en_ ec_
                subst ea_
                subst ec_
                clear en_
                have ea_ := Option.some.inj (hx189_5.symm.trans hx194_5)
                injection ea_ with ea_ en_ ec_
                subst ea_
                subst ec_
                clear en_
                have ea_ := Option.some.inj (hx189_6.symm.trans hx194_6)
                injection ea_ with ea_ en_ ec_
                subst ea_
                subst ec_
                clear en_
                go_wp2
                go_roundg k2
                case measure => have := HK1.out; have := HK2.out; omega
                case rel => exact ⟨(x4_2 ++ (⟨#[10]⟩ : ByteArray)), (wrap64 (x5_1 + 1)), (by first | rfl | (simp; done) | (simp [*]; done)), (by first | rfl | (simp; done) | (simp [*]; done)), H', ⟨by have := HK1.out; have := HK2.out; omega⟩, ⟨by (with_reducible repeat (first | apply Kd.R_alloc | apply Kd.R_drewN | apply Kd.R_drew)); exact HO_3.out⟩, ⟨qB HB⟩⟩
               ·rw [if_neg c23] at H
                exact absurd H (by simp)
              ·rw [if_neg c22] at H
               have c22b0 : (((rd_T41 l0 x5_1).f0) == 2) = false := beq_eq_false_iff_ne.mpr c22
               have c22b1 : (((rd_T41 l0 x5_1).f0) != 2) = true := bne_iff_ne.mpr c22
               by_cases c24 : x4_2.size + 1 ≤ 9223372036854775807
               ·rw [if_pos c24] at H
                have c24b0 := eq_true c24
                have c24b1 : decide (x4_2.size + 1 ≤ 9223372036854775807) = true := decide_eq_true c24
                try have c24b2 : (9223372036854775807 < x4_2.size + 1) = False := eq_false (Nat.not_lt.2 c24)
                replace H := Option.bind_eq_some_iff.mp H
                obtain ⟨t196, A250, H⟩ := H
                try dsimp only at H
                have A25 := Aside0.mk A250
                clear A250
                by_cases c26 : (x4_2 ++ (⟨#[32]⟩ : ByteArray)).size + t196.size ≤ 9223372036854775807
                ·rw [if_pos c26] at H
                 have c26b0 := eq_true c26
                 have c26b1 : decide ((x4_2 ++ (⟨#[32]⟩ : ByteArray)).size + t196.size ≤ 9223372036854775807) = true := decide_eq_true c26
                 try have c26b2 : (9223372036854775807 < (x4_2 ++ (⟨#[32]⟩ : ByteArray)).size + t196.size) = False := eq_false (Nat.not_lt.2 c26)
                 have c26m : x4_2.size + 1 + t196.size ≤ 9223372036854775807 := by have h_ := c26; simp only [ByteArray.size_append] at h_; exact h_
                 have c26m0 := eq_true c26m
                 have c26m1 : decide (x4_2.size + 1 + t196.size ≤ 9223372036854775807) = true := decide_eq_true c26m
                 have c26m2 : (9223372036854775807 < x4_2.size + 1 + t196.size) = False := eq_false (Nat.not_lt.2 c26m)
                 by_cases c27 : ((x4_2 ++ (⟨#[32]⟩ : ByteArray)) ++ t196).size + 1 ≤ 9223372036854775807
                 ·rw [if_pos c27] at H
                  have c27b0 := eq_true c27
                  have c27b1 : decide (((x4_2 ++ (⟨#[32]⟩ : ByteArray)) ++ t196).size + 1 ≤ 9223372036854775807) = true := decide_eq_true c27
                  try have c27b2 : (9223372036854775807 < ((x4_2 ++ (⟨#[32]⟩ : ByteArray)) ++ t196).size + 1) = False := eq_false (Nat.not_lt.2 c27)
                  have c27z0 : ((x4_2 ++ (⟨#[32]⟩ : ByteArray)) ++ t196).size < 9223372036854775807 := by have h_ := c27; simp only [ByteArray.size_append] at h_ ⊢; first | omega | (simp only [ByteArray.size] at h_ ⊢; simp at h_ ⊢; omega)
                  have c27z0a := eq_true c27z0
                  have c27z0b := decide_eq_true c27z0
                  have c27z0c : (9223372036854775807 ≤ ((x4_2 ++ (⟨#[32]⟩ : ByteArray)) ++ t196).size) = False := eq_false (by omega)
                  have c27z1 : x4_2.size + 1 + t196.size < 9223372036854775807 := by have h_ := c27; simp only [ByteArray.size_append] at h_ ⊢; first | omega | (simp only [ByteArray.size] at h_ ⊢; simp at h_ ⊢; omega)
                  have c27z1a := eq_true c27z1
                  have c27z1b := decide_eq_true c27z1
                  have c27z1c : (9223372036854775807 ≤ x4_2.size + 1 + t196.size) = False := eq_false (by omega)
                  have c27z2 : x4_2.size + 1 + t196.size + 1 ≤ 9223372036854775807 := by have h_ := c27; simp only [ByteArray.size_append] at h_ ⊢; first | omega | (simp only [ByteArray.size] at h_ ⊢; simp at h_ ⊢; omega)
                  have c27z2a := eq_true c27z2
                  have c27z2b := decide_eq_true c27z2
                  have c27z2c : (9223372036854775807 < x4_2.size + 1 + t196.size + 1) = False := eq_false (by omega)
                  have c27m : x4_2.size + 1 + t196.size + 1 ≤ 9223372036854775807 := by have h_ := c27; simp only [ByteArray.size_append] at h_; exact h_
                  have c27m0 := eq_true c27m
                  have c27m1 : decide (x4_2.size + 1 + t196.size + 1 ≤ 9223372036854775807) = true := decide_eq_true c27m
                  have c27m2 : (9223372036854775807 < x4_2.size + 1 + t196.size + 1) = False := eq_false (Nat.not_lt.2 c27m)
                  have H' := Aside0.mk H
                  clear H
                  have p189 : 0 ≤ (x5_1 : Int) := of_decide_eq_true (by first | (with_reducible assumption) | assumption)
                  have q189 : x5_1 < (l0.length : Int) := of_decide_eq_true (by first | (with_reducible assumption) | assumption)
                  obtain ⟨ad189, A189_1, c189_1, A189_5, c189_5, A189_6, c189_6, e189, hx189_0, hx189_1, hx189_2, hx189_3, hx189_4, hx189_5, hx189_6, hl189_1, hi189_1, hl189_5, hi189_5, hl189_6, hi189_6⟩ := at_T41 HR0.out x5_1 p189 q189
                  obtain rfl : ad187 = ad189 := (by injection e189)
                  replace hx189_0 := (HB.out.cell (World.block_lt_of_cell? w _ hx189_0)).trans hx189_0
                  replace hx189_1 := (HB.out.cell (World.block_lt_of_cell? w _ hx189_1)).trans hx189_1
                  replace hx189_2 := (HB.out.cell (World.block_lt_of_cell? w _ hx189_2)).trans hx189_2
                  replace hx189_3 := (HB.out.cell (World.block_lt_of_cell? w _ hx189_3)).trans hx189_3
                  replace hx189_4 := (HB.out.cell (World.block_lt_of_cell? w _ hx189_4)).trans hx189_4
                  replace hx189_5 := (HB.out.cell (World.block_lt_of_cell? w _ hx189_5)).trans hx189_5
                  replace hx189_6 := (HB.out.cell (World.block_lt_of_cell? w _ hx189_6)).trans hx189_6
                  have HR189_1 := Aside0.mk hi189_1
                  have HC189_1 := Aside0.mk hl189_1
                  clear hi189_1 hl189_1
                  have HR189_5 := Aside0.mk hi189_5
                  have HC189_5 := Aside0.mk hl189_5
                  clear hi189_5 hl189_5
                  have HR189_6 := Aside0.mk hi189_6
                  have HC189_6 := Aside0.mk hl189_6
                  clear hi189_6 hl189_6
                  replace p189 := eq_true p189
                  replace q189 := eq_true q189
                  have p194 : 0 ≤ (x5_1 : Int) := of_decide_eq_true (by first | (with_reducible assumption) | assumption)
                  have q194 : x5_1 < (l0.length : Int) := of_decide_eq_true (by first | (with_reducible assumption) | assumption)
                  obtain ⟨ad194, A194_1, c194_1, A194_5, c194_5, A194_6, c194_6, e194, hx194_0, hx194_1, hx194_2, hx194_3, hx194_4, hx194_5, hx194_6, hl194_1, hi194_1, hl194_5, hi194_5, hl194_6, hi194_6⟩ := at_T41 HR0.out x5_1 p194 q194
                  obtain rfl : ad187 = ad194 := (by injection e194)
                  replace hx194_0 := (HB.out.cell (World.block_lt_of_cell? w _ hx194_0)).trans hx194_0
                  replace hx194_1 := (HB.out.cell (World.block_lt_of_cell? w _ hx194_1)).trans hx194_1
                  replace hx194_2 := (HB.out.cell (World.block_lt_of_cell? w _ hx194_2)).trans hx194_2
                  replace hx194_3 := (HB.out.cell (World.block_lt_of_cell? w _ hx194_3)).trans hx194_3
                  replace hx194_4 := (HB.out.cell (World.block_lt_of_cell? w _ hx194_4)).trans hx194_4
                  replace hx194_5 := (HB.out.cell (World.block_lt_of_cell? w _ hx194_5)).trans hx194_5
                  replace hx194_6 := (HB.out.cell (World.block_lt_of_cell? w _ hx194_6)).trans hx194_6
                  have HR194_1 := Aside0.mk hi194_1
                  have HC194_1 := Aside0.mk hl194_1
                  clear hi194_1 hl194_1
                  have HR194_5 := Aside0.mk hi194_5
                  have HC194_5 := Aside0.mk hl194_5
                  clear hi194_5 hl194_5
                  have HR194_6 := Aside0.mk hi194_6
                  have HC194_6 := Aside0.mk hl194_6
                  clear hi194_6 hl194_6
                  replace p194 := eq_true p194
                  replace q194 := eq_true q194
                  have ea_ := Option.some.inj (hx189_1.symm.trans hx194_1)
                  injection ea_ with ea_ en_ ec_
                  subst ea_
                  subst ec_
                  clear en_
                  have ea_ := Option.some.inj (hx189_5.symm.trans hx194_5)
                  injection ea_ with ea_ en_ ec_
                  subst ea_
                  subst ec_
                  clear en_
                  have ea_ := Option.some.inj (hx189_6.symm.trans hx194_6)
                  injection ea_ with ea_ en_ ec_
                  subst ea_
                  subst ec_
                  clear en_
                  have p195 : 0 ≤ (x5_1 : Int) := of_decide_eq_true (by first | (with_reducible assumption) | assumption)
                  have q195 : x5_1 < (l0.length : Int) := of_decide_eq_true (by first | (with_reducible assumption) | assumption)
                  obtain ⟨ad195, A195_1, c195_1, A195_5, c195_5, A195_6, c195_6, e195, hx195_0, hx195_1, hx195_2, hx195_3, hx195_4, hx195_5, hx195_6, hl195_1, hi195_1, hl195_5, hi195_5, hl195_6, hi195_6⟩ := at_T41 HR0.out x5_1 p195 q195
                  obtain rfl : ad187 = ad195 := (by injection e195)
                  replace hx195_0 := (HB.out.cell (World.block_lt_of_cell? w _ hx195_0)).trans hx195_0
                  replace hx195_1 := (HB.out.cell (World.block_lt_of_cell? w _ hx195_1)).trans hx195_1
                  replace hx195_2 := (HB.out.cell (World.block_lt_of_cell? w _ hx195_2)).trans hx195_2
                  replace hx195_3 := (HB.out.cell (World.block_lt_of_cell? w _ hx195_3)).trans hx195_3
                  replace hx195_4 := (HB.out.cell (World.block_lt_of_cell? w _ hx195_4)).trans hx195_4
                  replace hx195_5 := (HB.out.cell (World.block_lt_of_cell? w _ hx195_5)).trans hx195_5
                  replace hx195_6 := (HB.out.cell (World.block_lt_of_cell? w _ hx195_6)).trans hx195_6
                  have HR195_1 := Aside0.mk hi195_1
                  have HC195_1 := Aside0.mk hl195_1
                  clear hi195_1 hl195_1
                  have HR195_5 := Aside0.mk hi195_5
                  have HC195_5 := Aside0.mk hl195_5
                  clear hi195_5 hl195_5
                  have HR195_6 := Aside0.mk hi195_6
                  have HC195_6 := Aside0.mk hl195_6
                  clear hi195_6 hl195_6
                  replace p195 := eq_true p195
                  replace q195 := eq_true q195
                  have ea_ := Option.some.inj (hx189_1.symm.trans hx195_1)
                  injection ea_ with ea_ en_ ec_
                  subst ea_
                  subst ec_
                  clear en_
                  have ea_ := Option.some.inj (hx189_5.symm.trans hx195_5)
                  injection ea_ with ea_ en_ ec_
                  subst ea_
                  subst ec_
                  clear en_
                  have ea_ := Option.some.inj (hx189_6.symm.trans hx195_6)
                  injection ea_ with ea_ en_ ec_
                  subst ea_
                  subst ec_
                  clear en_
                  go_wp2_with (first | ((with_reducible refine gate_callee (f := 11) rfl ?_); refine goesL_ (some 64) rfl rfl Tryd.func11 (by kernel_rfl) rfl #[.agg #[.int .i64 ((rd_T41 l0 x5_1).f2.f0), .string ((rd_T41 l0 x5_1).f2.f1), .int .i64 ((rd_T41 l0 x5_1).f2.f2), .slice A189_5 ((rd_T41 l0 x5_1).f2.f3).length c189_5, .slice A189_6 ((rd_T41 l0 x5_1).f2.f4).length c189_6]] rfl (by (try simp only [List.map_toArray, List.map_cons, List.map_nil]); first | done | rfl | (simp only [List.length_drop, List.length_take]; rfl)) ?_; (with_reducible refine (spec_l4Print.calls k2 ((rd_T41 l0 x5_1).f2.f0) ((rd_T41 l0 x5_1).f2.f1) ((rd_T41 l0 x5_1).f2.f2) _ _ ((rd_T41 l0 x5_1).f2.f3) _ _ ((rd_T41 l0 x5_1).f2.f4) t196 _ (qC HR195_5 HB) HC195_5.out (qC HR195_6 HB) HC195_6.out A25.out).mono ?_); rintro e w28 ⟨rfl, hb⟩; refine ⟨_, rfl, ?_⟩; have n0_ := Aside0.mk (Kd.R_below (by (with_reducible repeat (first | apply Kd.R_alloc | apply Kd.R_drewN | apply Kd.R_drew)); exact HO_3.out) hb); have n1_ := Aside0.mk (below_step (qB HB) hb); clear HO_3; clear HB; have HO_3 := n0_; have HB := n1_; clear n0_ n1_; (try clear hb); (try clear hb2); (try clear hk); (try clear hi)))
                  go_roundg k2
                  case measure => have := HK1.out; have := HK2.out; omega
                  case rel => exact ⟨(((x4_2 ++ (⟨#[32]⟩ : ByteArray)) ++ t196) ++ (⟨#[10]⟩ : ByteArray)), (wrap64 (x5_1 + 1)), (by first | rfl | (simp; done) | (simp [*]; done)), (by first | rfl | (simp; done) | (simp [*]; done)), H', ⟨by have := HK1.out; have := HK2.out; omega⟩, ⟨by (with_reducible repeat (first | apply Kd.R_alloc | apply Kd.R_drewN | apply Kd.R_drew)); exact HO_3.out⟩, ⟨qB HB⟩⟩
                 ·rw [if_neg c27] at H
                  exact absurd H (by simp)
                ·rw [if_neg c26] at H
                 exact absurd H (by simp)
               ·rw [if_neg c24] at H
                exact absurd H (by simp)
            ·rw [if_neg c14] at H
             exact absurd H (by simp)
           ·rw [if_neg c13] at H
            exact absurd H (by simp)
        ·rw [if_neg c11] at H
         exact absurd H (by simp)
       ·rw [if_neg c10] at H
        exact absurd H (by simp)
      ·rw [if_neg c9] at H
       exact absurd H (by simp)
     ·rw [if_neg c8] at H
      exact absurd H (by simp)
    ·rw [if_neg c7] at H
     have c7b0 : decide (x5_1 < (l0.length : Int)) = false := decide_eq_false c7
     clear c7
     obtain rfl := Option.some.inj H
     go_wp2
     go_ret
     exact ⟨by first | rfl | (simp [errW_none, errW_some] <;> rfl) | (simp [*, errW_none, errW_some] <;> rfl), by repeat (first | (with_reducible first | exact HB.out | apply below_alloc | apply pw_below_drewN | apply below_drew1) | exact HB.out)⟩
 ·replace c3 := Bool.eq_false_iff.mpr c3
  subst c3
  have H1 : (some (⟨#[]⟩ : ByteArray)) = some r := by rw [if_neg (show ¬ (false = true) by decide)] at H; exact H
  clear H
  have H := H1
  clear H1
  obtain rfl := Option.some.inj H
  go_enter Tryd.func5, Tryd.ntmps5
  go_wp2_with (first | ((with_reducible refine gate_callee (f := 10) rfl ?_); refine goesL_ (some 8) rfl rfl Tryd.func10 (by kernel_rfl) rfl #[.slice A0 l0.length c0] rfl (by (try simp only [List.map_toArray, List.map_cons, List.map_nil]); first | done | rfl | (simp only [List.length_drop, List.length_take]; rfl)) ?_; (with_reducible refine (spec_PatchOk.calls k _ _ l0 false _ (qC0 HR0) HC0.out A2.out).mono ?_); rintro e w29 ⟨rfl, hb⟩; refine ⟨_, rfl, ?_⟩; have n0_ := Aside0.mk (below_step (qB HB) hb); clear HB; have HB := n0_; clear n0_; (try clear hb); (try clear hb2); (try clear hk); (try clear hi)))
  go_ret
  exact ⟨by first | rfl | (simp [errW_none, errW_some] <;> rfl) | (simp [*, errW_none, errW_some] <;> rfl), by repeat (first | (with_reducible first | exact HB.out | apply below_alloc | apply pw_below_drewN | apply below_drew1) | exact HB.out)⟩

end Go.Proofs.YtgcgkcchoghkaaaDoor.G

/- G3 -/
-- Laid by wip/g/gprint.py out of the translation, by the kit's print program. Lean checks it.
namespace Go.Proofs.YtgcgkcchoghkaaaDoor.G
open Go.RowKit Go.Proofs.YtgcgkcchoghkaaaDoorW.PrintWords Go.Proofs.YtgcgkcchoghkaaaDoorW.PrintLast Go.Proofs.YtgcgkcchoghkaaaDoorW.PrintMore
attribute [local go_sem] max2_int min2_int max_two min_two max_three min_three max_four min_four   -- for this text's walks alone
set_option linter.unusedVariables false
set_option linter.unusedSimpArgs false

--IMPORT Derived.Test.YtgcgkcchoghkaaaDoorGKShape
/-! ### laws_FnExactPatchText: function 3 -/
def laws_FnExactPatchText.f (k : Nat) (l0 : List (S35)) : Option (Bool) := (laws_szOpS.f k l0 1048576).bind fun t338 => (if t338 < 0 then (some true) else ((laws_toOpS.f k l0).bind fun t339 => ((spec_PatchText.f k t339).bind fun t342 => ((laws_toOpS.f k l0).bind fun t343 => ((impl_PatchText.f k t343).bind fun t346 => (if t346.toList = t342.toList then ((laws_toOpS.f k l0).bind fun t347 => ((laws_eqOpS.f k t343 t347).bind fun t350 => (if t350 = true then (some true) else (some false)))) else (some false)))))))
set_option maxHeartbeats 8000000 in
set_option maxRecDepth 100000 in
theorem laws_FnExactPatchText.calls (k : Nat) (A0 : Option Addr) (c0 : Nat) (l0 : List (S35)) (r : Bool) (w : World) (hr0 : Kd.C k35 w A0 l0.length l0) (hc0 : l0.length ≤ c0) (hsh_ : SH w) (h : laws_FnExactPatchText.f k l0 = some r) :
  Calls Tryd.prog 3 #[.slice A0 l0.length c0] w fun e w' => e = .returned (.bool r) ∧ Below w.heap.size w w' := by
 have HR0 := Aside0.mk hr0
 have HC0 := Aside0.mk hc0
 clear hr0 hc0
 have HB := Aside0.mk (Below.refl w.heap.size w)
 unfold laws_FnExactPatchText.f at h; have H := h
 clear h
 replace H := Option.bind_eq_some_iff.mp H
 obtain ⟨t338, A20, H⟩ := H
 try dsimp only at H
 have A2 := Aside0.mk A20
 clear A20
 by_cases c3 : t338 < 0
 ·rw [if_pos c3] at H
  have c3b0 : decide (t338 < 0) = true := decide_eq_true c3
  clear c3
  obtain rfl := Option.some.inj H
  go_enter Tryd.func3, Tryd.ntmps3
  go_wp2_with (first | ((with_reducible refine gate_callee (f := 4) rfl ?_); refine goesL_ (some 9) rfl rfl Tryd.func4 (by kernel_rfl) rfl #[.slice A0 l0.length c0, .int .i64 1048576] rfl (by (try simp only [List.map_toArray, List.map_cons, List.map_nil]); first | done | rfl | (simp only [List.length_drop, List.length_take]; rfl)) ?_; (with_reducible refine (laws_szOpS.calls k _ _ l0 1048576 t338 _ (qC0 HR0) HC0.out A2.out).mono ?_); rintro e w4 ⟨rfl, hb⟩; refine ⟨_, rfl, ?_⟩; have n0_ := Aside0.mk (below_step (qB HB) hb); clear HB; have HB := n0_; clear n0_; (try clear hb); (try clear hb2); (try clear hk); (try clear hi)))
  go_ret
  exact ⟨by first | rfl | (simp [errW_none, errW_some] <;> rfl) | (simp [*, errW_none, errW_some] <;> rfl), by repeat (first | (with_reducible first | exact HB.out | apply below_alloc | apply pw_below_drewN | apply below_drew1) | exact HB.out)⟩
 ·rw [if_neg c3] at H
  have c3b0 : decide (t338 < 0) = false := decide_eq_false c3
  clear c3
  replace H := Option.bind_eq_some_iff.mp H
  obtain ⟨t339, A50, H⟩ := H
  try dsimp only at H
  have A5 := Aside0.mk A50
  clear A50
  replace H := Option.bind_eq_some_iff.mp H
  obtain ⟨t342, A60, H⟩ := H
  try dsimp only at H
  have A6 := Aside0.mk A60
  clear A60
  replace H := Option.bind_eq_some_iff.mp H
  obtain ⟨t343, A70, H⟩ := H
  try dsimp only at H
  have A7 := Aside0.mk A70
  clear A70
  replace H := Option.bind_eq_some_iff.mp H
  obtain ⟨t346, A80, H⟩ := H
  try dsimp only at H
  have A8 := Aside0.mk A80
  clear A80
  by_cases c9 : t346.toList = t342.toList
  ·rw [if_pos c9] at H
   have c9b0 : (t346.toList == t342.toList) = true := beq_iff_eq.mpr c9
   have c9b1 : (t346.toList != t342.toList) = false := bne_eq_false_iff_eq.mpr c9
   clear c9
   replace H := Option.bind_eq_some_iff.mp H
   obtain ⟨t347, A100, H⟩ := H
   try dsimp only at H
   have A10 := Aside0.mk A100
   clear A100
   replace H := Option.bind_eq_some_iff.mp H
   obtain ⟨t350, A110, H⟩ := H
   try dsimp only at H
   have A11 := Aside0.mk A110
   clear A110
   by_cases c12 : t350 = true
   ·subst c12
    have H1 : (some true) = some r := by rw [if_pos rfl] at H; exact H
    clear H
    have H := H1
    clear H1
    obtain rfl := Option.some.inj H
    go_enter Tryd.func3, Tryd.ntmps3
    go_wp2_with (first | ((with_reducible refine gate_callee (f := 4) rfl ?_); refine goesL_ (some 9) rfl rfl Tryd.func4 (by kernel_rfl) rfl #[.slice A0 l0.length c0, .int .i64 1048576] rfl (by (try simp only [List.map_toArray, List.map_cons, List.map_nil]); first | done | rfl | (simp only [List.length_drop, List.length_take]; rfl)) ?_; (with_reducible refine (laws_szOpS.calls k _ _ l0 1048576 t338 _ (qC0 HR0) HC0.out A2.out).mono ?_); rintro e w13 ⟨rfl, hb⟩; refine ⟨_, rfl, ?_⟩; have n0_ := Aside0.mk (below_step (qB HB) hb); clear HB; have HB := n0_; clear n0_; (try clear hb); (try clear hb2); (try clear hk); (try clear hi)) | ((with_reducible refine gate_callee (f := 6) rfl ?_); refine goesL_ (some 13) rfl rfl Tryd.func6 (by kernel_rfl) rfl #[.slice A0 l0.length c0] rfl (by (try simp only [List.map_toArray, List.map_cons, List.map_nil]); first | done | rfl | (simp only [List.length_drop, List.length_take]; rfl)) ?_; (with_reducible refine (laws_toOpS.calls k _ _ l0 t339 _ (qC HR0 HB) HC0.out A5.out).mono ?_); rintro e w14 ⟨v340, rfl, ho0, hb⟩; refine ⟨_, rfl, ?_⟩; have n0_ := Aside0.mk (Kd.R_lower ho0 (below_size (qB HB))); have n1_ := Aside0.mk (below_step (qB HB) hb); clear HB; have HO341 := n0_; have HB := n1_; clear n0_ n1_; (try clear hb); (try clear hb2); (try clear hk); (try clear hi); (try clear ho0); obtain ⟨Ao15, co15, eo15⟩ := Kd.R_slice HO341.out; subst eo15) | ((with_reducible refine gate_callee (f := 5) rfl ?_); refine goesL_ (some 14) rfl rfl Tryd.func5 (by kernel_rfl) rfl #[.slice Ao15 t339.length co15] rfl (by (try simp only [List.map_toArray, List.map_cons, List.map_nil]); first | done | rfl | (simp only [List.length_drop, List.length_take]; rfl)) ?_; (with_reducible refine (spec_PatchText.calls k _ _ t339 t342 _ ?side1 ?side2 A6.out).mono ?_); (case side1 => repeat (first | exact (Kd.R_reads' HO341.out).2.2 | (with_reducible refine Kd.C_alloc ?_ _) | (with_reducible refine Kd.C_drewN ?_ _) | (with_reducible refine Kd.C_drew ?_))); (case side2 => exact (Kd.R_reads' HO341.out).2.1); rintro e w16 ⟨rfl, hb⟩; refine ⟨_, rfl, ?_⟩; have n0_ := Aside0.mk (Kd.R_below (by (with_reducible repeat (first | apply Kd.R_alloc | apply Kd.R_drewN | apply Kd.R_drew)); exact HO341.out) hb); have n1_ := Aside0.mk (below_step (qB HB) hb); clear HO341; clear HB; have HO341 := n0_; have HB := n1_; clear n0_ n1_; (try clear hb); (try clear hb2); (try clear hk); (try clear hi)) | ((with_reducible refine gate_callee (f := 6) rfl ?_); refine goesL_ (some 16) rfl rfl Tryd.func6 (by kernel_rfl) rfl #[.slice A0 l0.length c0] rfl (by (try simp only [List.map_toArray, List.map_cons, List.map_nil]); first | done | rfl | (simp only [List.length_drop, List.length_take]; rfl)) ?_; (with_reducible refine (laws_toOpS.calls k _ _ l0 t343 _ (qC HR0 HB) HC0.out A7.out).mono ?_); rintro e w17 ⟨v344, rfl, ho0, hb⟩; refine ⟨_, rfl, ?_⟩; have n0_ := Aside0.mk (Kd.R_elder' (by (with_reducible repeat (first | apply Kd.R_alloc | apply Kd.R_drewN | apply Kd.R_drew)); exact HO341.out) (Kd.R_base ho0) hb); have n1_ := Aside0.mk (Kd.R_lower (Kd.R_new' ho0 (Kd.R_lt (by (with_reducible repeat (first | apply Kd.R_alloc | apply Kd.R_drewN | apply Kd.R_drew)); exact HO341.out))) (below_size (qB HB))); have n2_ := Aside0.mk (below_step (qB HB) hb); clear HO341; clear HB; have HO341 := n0_; have HO345 := n1_; have HB := n2_; clear n0_ n1_ n2_; (try clear hb); (try clear hb2); (try clear hk); (try clear hi); (try clear ho0); obtain ⟨Ao18, co18, eo18⟩ := Kd.R_slice HO345.out; subst eo18) | ((with_reducible refine gate_callee (f := 7) rfl ?_); refine goesL_ (some 18) rfl rfl Tryd.func7 (by kernel_rfl) rfl #[.slice Ao18 t343.length co18] rfl (by (try simp only [List.map_toArray, List.map_cons, List.map_nil]); first | done | rfl | (simp only [List.length_drop, List.length_take]; rfl)) ?_; (with_reducible refine (impl_PatchText.calls k _ _ t343 t346 _ ?side1 ?side2 (SH.mv hsh_ HB) A8.out).mono ?_); (case side1 => repeat (first | exact (Kd.R_reads' HO345.out).2.2 | (with_reducible refine Kd.C_alloc ?_ _) | (with_reducible refine Kd.C_drewN ?_ _) | (with_reducible refine Kd.C_drew ?_))); (case side2 => exact (Kd.R_reads' HO345.out).2.1); rintro e w19 ⟨rfl, hb⟩; refine ⟨_, rfl, ?_⟩; have n0_ := Aside0.mk (Kd.R_below (by (with_reducible repeat (first | apply Kd.R_alloc | apply Kd.R_drewN | apply Kd.R_drew)); exact HO341.out) hb); have n1_ := Aside0.mk (Kd.R_below (by (with_reducible repeat (first | apply Kd.R_alloc | apply Kd.R_drewN | apply Kd.R_drew)); exact HO345.out) hb); have n2_ := Aside0.mk (below_step (qB HB) hb); clear HO341; clear HO345; clear HB; have HO341 := n0_; have HO345 := n1_; have HB := n2_; clear n0_ n1_ n2_; (try clear hb); (try clear hb2); (try clear hk); (try clear hi)) | ((with_reducible refine gate_callee (f := 6) rfl ?_); refine goesL_ (some 24) rfl rfl Tryd.func6 (by kernel_rfl) rfl #[.slice A0 l0.length c0] rfl (by (try simp only [List.map_toArray, List.map_cons, List.map_nil]); first | done | rfl | (simp only [List.length_drop, List.length_take]; rfl)) ?_; (with_reducible refine (laws_toOpS.calls k _ _ l0 t347 _ (qC HR0 HB) HC0.out A10.out).mono ?_); rintro e w20 ⟨v348, rfl, ho0, hb⟩; refine ⟨_, rfl, ?_⟩; have n0_ := Aside0.mk (Kd.R_elder' (by (with_reducible repeat (first | apply Kd.R_alloc | apply Kd.R_drewN | apply Kd.R_drew)); exact HO341.out) (Kd.R_base ho0) hb); have n1_ := Aside0.mk (Kd.R_elder' (by (with_reducible repeat (first | apply Kd.R_alloc | apply Kd.R_drewN | apply Kd.R_drew)); exact HO345.out) (Kd.R_base ho0) hb); have n2_ := Aside0.mk (Kd.R_lower (Kd.R_new' (Kd.R_new' ho0 (Kd.R_lt (by (with_reducible repeat (first | apply Kd.R_alloc | apply Kd.R_drewN | apply Kd.R_drew)); exact HO341.out))) (Kd.R_lt (by (with_reducible repeat (first | apply Kd.R_alloc | apply Kd.R_drewN | apply Kd.R_drew)); exact HO345.out))) (below_size (qB HB))); have n3_ := Aside0.mk (below_step (qB HB) hb); clear HO341; clear HO345; clear HB; have HO341 := n0_; have HO345 := n1_; have HO349 := n2_; have HB := n3_; clear n0_ n1_ n2_ n3_; (try clear hb); (try clear hb2); (try clear hk); (try clear hi); (try clear ho0); obtain ⟨Ao21, co21, eo21⟩ := Kd.R_slice HO349.out; subst eo21) | ((with_reducible refine gate_callee (f := 8) rfl ?_); refine goesL_ (some 25) rfl rfl Tryd.func8 (by kernel_rfl) rfl #[.slice Ao18 t343.length co18, .slice Ao21 t347.length co21] rfl (by (try simp only [List.map_toArray, List.map_cons, List.map_nil]); first | done | rfl | (simp only [List.length_drop, List.length_take]; rfl)) ?_; (with_reducible refine (laws_eqOpS.calls k _ _ t343 _ _ t347 true _ ?side1 ?side2 ?side3 ?side4 A11.out).mono ?_); (case side1 => repeat (first | exact (Kd.R_reads' HO345.out).2.2 | (with_reducible refine Kd.C_alloc ?_ _) | (with_reducible refine Kd.C_drewN ?_ _) | (with_reducible refine Kd.C_drew ?_))); (case side2 => exact (Kd.R_reads' HO345.out).2.1); (case side3 => repeat (first | exact (Kd.R_reads' HO349.out).2.2 | (with_reducible refine Kd.C_alloc ?_ _) | (with_reducible refine Kd.C_drewN ?_ _) | (with_reducible refine Kd.C_drew ?_))); (case side4 => exact (Kd.R_reads' HO349.out).2.1); rintro e w22 ⟨rfl, hb⟩; refine ⟨_, rfl, ?_⟩; have n0_ := Aside0.mk (Kd.R_below (by (with_reducible repeat (first | apply Kd.R_alloc | apply Kd.R_drewN | apply Kd.R_drew)); exact HO341.out) hb); have n1_ := Aside0.mk (Kd.R_below (by (with_reducible repeat (first | apply Kd.R_alloc | apply Kd.R_drewN | apply Kd.R_drew)); exact HO345.out) hb); have n2_ := Aside0.mk (Kd.R_below (by (with_reducible repeat (first | apply Kd.R_alloc | apply Kd.R_drewN | apply Kd.R_drew)); exact HO349.out) hb); have n3_ := Aside0.mk (below_step (qB HB) hb); clear HO341; clear HO345; clear HO349; clear HB; have HO341 := n0_; have HO345 := n1_; have HO349 := n2_; have HB := n3_; clear n0_ n1_ n2_ n3_; (try clear hb); (try clear hb2); (try clear hk); (try clear hi)))
    go_ret
    exact ⟨by first | rfl | (simp [errW_none, errW_some] <;> rfl) | (simp [*, errW_none, errW_some] <;> rfl), by repeat (first | (with_reducible first | exact HB.out | apply below_alloc | apply pw_below_drewN | apply below_drew1) | exact HB.out)⟩
   ·replace c12 := Bool.eq_false_iff.mpr c12
    subst c12
    have H1 : (some false) = some r := by rw [if_neg (show ¬ (false = true) by decide)] at H; exact H
    clear H
    have H := H1
    clear H1
    obtain rfl := Option.some.inj H
    go_enter Tryd.func3, Tryd.ntmps3
    go_wp2_with (first | ((with_reducible refine gate_callee (f := 4) rfl ?_); refine goesL_ (some 9) rfl rfl Tryd.func4 (by kernel_rfl) rfl #[.slice A0 l0.length c0, .int .i64 1048576] rfl (by (try simp only [List.map_toArray, List.map_cons, List.map_nil]); first | done | rfl | (simp only [List.length_drop, List.length_take]; rfl)) ?_; (with_reducible refine (laws_szOpS.calls k _ _ l0 1048576 t338 _ (qC0 HR0) HC0.out A2.out).mono ?_); rintro e w23 ⟨rfl, hb⟩; refine ⟨_, rfl, ?_⟩; have n0_ := Aside0.mk (below_step (qB HB) hb); clear HB; have HB := n0_; clear n0_; (try clear hb); (try clear hb2); (try clear hk); (try clear hi)) | ((with_reducible refine gate_callee (f := 6) rfl ?_); refine goesL_ (some 13) rfl rfl Tryd.func6 (by kernel_rfl) rfl #[.slice A0 l0.length c0] rfl (by (try simp only [List.map_toArray, List.map_cons, List.map_nil]); first | done | rfl | (simp only [List.length_drop, List.length_take]; rfl)) ?_; (with_reducible refine (laws_toOpS.calls k _ _ l0 t339 _ (qC HR0 HB) HC0.out A5.out).mono ?_); rintro e w24 ⟨v340, rfl, ho0, hb⟩; refine ⟨_, rfl, ?_⟩; have n0_ := Aside0.mk (Kd.R_lower ho0 (below_size (qB HB))); have n1_ := Aside0.mk (below_step (qB HB) hb); clear HB; have HO341 := n0_; have HB := n1_; clear n0_ n1_; (try clear hb); (try clear hb2); (try clear hk); (try clear hi); (try clear ho0); obtain ⟨Ao25, co25, eo25⟩ := Kd.R_slice HO341.out; subst eo25) | ((with_reducible refine gate_callee (f := 5) rfl ?_); refine goesL_ (some 14) rfl rfl Tryd.func5 (by kernel_rfl) rfl #[.slice Ao25 t339.length co25] rfl (by (try simp only [List.map_toArray, List.map_cons, List.map_nil]); first | done | rfl | (simp only [List.length_drop, List.length_take]; rfl)) ?_; (with_reducible refine (spec_PatchText.calls k _ _ t339 t342 _ ?side1 ?side2 A6.out).mono ?_); (case side1 => repeat (first | exact (Kd.R_reads' HO341.out).2.2 | (with_reducible refine Kd.C_alloc ?_ _) | (with_reducible refine Kd.C_drewN ?_ _) | (with_reducible refine Kd.C_drew ?_))); (case side2 => exact (Kd.R_reads' HO341.out).2.1); rintro e w26 ⟨rfl, hb⟩; refine ⟨_, rfl, ?_⟩; have n0_ := Aside0.mk (Kd.R_below (by (with_reducible repeat (first | apply Kd.R_alloc | apply Kd.R_drewN | apply Kd.R_drew)); exact HO341.out) hb); have n1_ := Aside0.mk (below_step (qB HB) hb); clear HO341; clear HB; have HO341 := n0_; have HB := n1_; clear n0_ n1_; (try clear hb); (try clear hb2); (try clear hk); (try clear hi)) | ((with_reducible refine gate_callee (f := 6) rfl ?_); refine goesL_ (some 16) rfl rfl Tryd.func6 (by kernel_rfl) rfl #[.slice A0 l0.length c0] rfl (by (try simp only [List.map_toArray, List.map_cons, List.map_nil]); first | done | rfl | (simp only [List.length_drop, List.length_take]; rfl)) ?_; (with_reducible refine (laws_toOpS.calls k _ _ l0 t343 _ (qC HR0 HB) HC0.out A7.out).mono ?_); rintro e w27 ⟨v344, rfl, ho0, hb⟩; refine ⟨_, rfl, ?_⟩; have n0_ := Aside0.mk (Kd.R_elder' (by (with_reducible repeat (first | apply Kd.R_alloc | apply Kd.R_drewN | apply Kd.R_drew)); exact HO341.out) (Kd.R_base ho0) hb); have n1_ := Aside0.mk (Kd.R_lower (Kd.R_new' ho0 (Kd.R_lt (by (with_reducible repeat (first | apply Kd.R_alloc | apply Kd.R_drewN | apply Kd.R_drew)); exact HO341.out))) (below_size (qB HB))); have n2_ := Aside0.mk (below_step (qB HB) hb); clear HO341; clear HB; have HO341 := n0_; have HO345 := n1_; have HB := n2_; clear n0_ n1_ n2_; (try clear hb); (try clear hb2); (try clear hk); (try clear hi); (try clear ho0); obtain ⟨Ao28, co28, eo28⟩ := Kd.R_slice HO345.out; subst eo28) | ((with_reducible refine gate_callee (f := 7) rfl ?_); refine goesL_ (some 18) rfl rfl Tryd.func7 (by kernel_rfl) rfl #[.slice Ao28 t343.length co28] rfl (by (try simp only [List.map_toArray, List.map_cons, List.map_nil]); first | done | rfl | (simp only [List.length_drop, List.length_take]; rfl)) ?_; (with_reducible refine (impl_PatchText.calls k _ _ t343 t346 _ ?side1 ?side2 (SH.mv hsh_ HB) A8.out).mono ?_); (case side1 => repeat (first | exact (Kd.R_reads' HO345.out).2.2 | (with_reducible refine Kd.C_alloc ?_ _) | (with_reducible refine Kd.C_drewN ?_ _) | (with_reducible refine Kd.C_drew ?_))); (case side2 => exact (Kd.R_reads' HO345.out).2.1); rintro e w29 ⟨rfl, hb⟩; refine ⟨_, rfl, ?_⟩; have n0_ := Aside0.mk (Kd.R_below (by (with_reducible repeat (first | apply Kd.R_alloc | apply Kd.R_drewN | apply Kd.R_drew)); exact HO341.out) hb); have n1_ := Aside0.mk (Kd.R_below (by (with_reducible repeat (first | apply Kd.R_alloc | apply Kd.R_drewN | apply Kd.R_drew)); exact HO345.out) hb); have n2_ := Aside0.mk (below_step (qB HB) hb); clear HO341; clear HO345; clear HB; have HO341 := n0_; have HO345 := n1_; have HB := n2_; clear n0_ n1_ n2_; (try clear hb); (try clear hb2); (try clear hk); (try clear hi)) | ((with_reducible refine gate_callee (f := 6) rfl ?_); refine goesL_ (some 24) rfl rfl Tryd.func6 (by kernel_rfl) rfl #[.slice A0 l0.length c0] rfl (by (try simp only [List.map_toArray, List.map_cons, List.map_nil]); first | done | rfl | (simp only [List.length_drop, List.length_take]; rfl)) ?_; (with_reducible refine (laws_toOpS.calls k _ _ l0 t347 _ (qC HR0 HB) HC0.out A10.out).mono ?_); rintro e w30 ⟨v348, rfl, ho0, hb⟩; refine ⟨_, rfl, ?_⟩; have n0_ := Aside0.mk (Kd.R_elder' (by (with_reducible repeat (first | apply Kd.R_alloc | apply Kd.R_drewN | apply Kd.R_drew)); exact HO341.out) (Kd.R_base ho0) hb); have n1_ := Aside0.mk (Kd.R_elder' (by (with_reducible repeat (first | apply Kd.R_alloc | apply Kd.R_drewN | apply Kd.R_drew)); exact HO345.out) (Kd.R_base ho0) hb); have n2_ := Aside0.mk (Kd.R_lower (Kd.R_new' (Kd.R_new' ho0 (Kd.R_lt (by (with_reducible repeat (first | apply Kd.R_alloc | apply Kd.R_drewN | apply Kd.R_drew)); exact HO341.out))) (Kd.R_lt (by (with_reducible repeat (first | apply Kd.R_alloc | apply Kd.R_drewN | apply Kd.R_drew)); exact HO345.out))) (below_size (qB HB))); have n3_ := Aside0.mk (below_step (qB HB) hb); clear HO341; clear HO345; clear HB; have HO341 := n0_; have HO345 := n1_; have HO349 := n2_; have HB := n3_; clear n0_ n1_ n2_ n3_; (try clear hb); (try clear hb2); (try clear hk); (try clear hi); (try clear ho0); obtain ⟨Ao31, co31, eo31⟩ := Kd.R_slice HO349.out; subst eo31) | ((with_reducible refine gate_callee (f := 8) rfl ?_); refine goesL_ (some 25) rfl rfl Tryd.func8 (by kernel_rfl) rfl #[.slice Ao28 t343.length co28, .slice Ao31 t347.length co31] rfl (by (try simp only [List.map_toArray, List.map_cons, List.map_nil]); first | done | rfl | (simp only [List.length_drop, List.length_take]; rfl)) ?_; (with_reducible refine (laws_eqOpS.calls k _ _ t343 _ _ t347 false _ ?side1 ?side2 ?side3 ?side4 A11.out).mono ?_); (case side1 => repeat (first | exact (Kd.R_reads' HO345.out).2.2 | (with_reducible refine Kd.C_alloc ?_ _) | (with_reducible refine Kd.C_drewN ?_ _) | (with_reducible refine Kd.C_drew ?_))); (case side2 => exact (Kd.R_reads' HO345.out).2.1); (case side3 => repeat (first | exact (Kd.R_reads' HO349.out).2.2 | (with_reducible refine Kd.C_alloc ?_ _) | (with_reducible refine Kd.C_drewN ?_ _) | (with_reducible refine Kd.C_drew ?_))); (case side4 => exact (Kd.R_reads' HO349.out).2.1); rintro e w32 ⟨rfl, hb⟩; refine ⟨_, rfl, ?_⟩; have n0_ := Aside0.mk (Kd.R_below (by (with_reducible repeat (first | apply Kd.R_alloc | apply Kd.R_drewN | apply Kd.R_drew)); exact HO341.out) hb); have n1_ := Aside0.mk (Kd.R_below (by (with_reducible repeat (first | apply Kd.R_alloc | apply Kd.R_drewN | apply Kd.R_drew)); exact HO345.out) hb); have n2_ := Aside0.mk (Kd.R_below (by (with_reducible repeat (first | apply Kd.R_alloc | apply Kd.R_drewN | apply Kd.R_drew)); exact HO349.out) hb); have n3_ := Aside0.mk (below_step (qB HB) hb); clear HO341; clear HO345; clear HO349; clear HB; have HO341 := n0_; have HO345 := n1_; have HO349 := n2_; have HB := n3_; clear n0_ n1_ n2_ n3_; (try clear hb); (try clear hb2); (try clear hk); (try clear hi)))
    go_ret
    exact ⟨by first | rfl | (simp [errW_none, errW_some] <;> rfl) | (simp [*, errW_none, errW_some] <;> rfl), by repeat (first | (with_reducible first | exact HB.out | apply below_alloc | apply pw_below_drewN | apply below_drew1) | exact HB.out)⟩
  ·rw [if_neg c9] at H
   have c9b0 : (t346.toList == t342.toList) = false := beq_eq_false_iff_ne.mpr c9
   have c9b1 : (t346.toList != t342.toList) = true := bne_iff_ne.mpr c9
   obtain rfl := Option.some.inj H
   go_enter Tryd.func3, Tryd.ntmps3
   go_wp2_with (first | ((with_reducible refine gate_callee (f := 4) rfl ?_); refine goesL_ (some 9) rfl rfl Tryd.func4 (by kernel_rfl) rfl #[.slice A0 l0.length c0, .int .i64 1048576] rfl (by (try simp only [List.map_toArray, List.map_cons, List.map_nil]); first | done | rfl | (simp only [List.length_drop, List.length_take]; rfl)) ?_; (with_reducible refine (laws_szOpS.calls k _ _ l0 1048576 t338 _ (qC0 HR0) HC0.out A2.out).mono ?_); rintro e w33 ⟨rfl, hb⟩; refine ⟨_, rfl, ?_⟩; have n0_ := Aside0.mk (below_step (qB HB) hb); clear HB; have HB := n0_; clear n0_; (try clear hb); (try clear hb2); (try clear hk); (try clear hi)) | ((with_reducible refine gate_callee (f := 6) rfl ?_); refine goesL_ (some 13) rfl rfl Tryd.func6 (by kernel_rfl) rfl #[.slice A0 l0.length c0] rfl (by (try simp only [List.map_toArray, List.map_cons, List.map_nil]); first | done | rfl | (simp only [List.length_drop, List.length_take]; rfl)) ?_; (with_reducible refine (laws_toOpS.calls k _ _ l0 t339 _ (qC HR0 HB) HC0.out A5.out).mono ?_); rintro e w34 ⟨v340, rfl, ho0, hb⟩; refine ⟨_, rfl, ?_⟩; have n0_ := Aside0.mk (Kd.R_lower ho0 (below_size (qB HB))); have n1_ := Aside0.mk (below_step (qB HB) hb); clear HB; have HO341 := n0_; have HB := n1_; clear n0_ n1_; (try clear hb); (try clear hb2); (try clear hk); (try clear hi); (try clear ho0); obtain ⟨Ao35, co35, eo35⟩ := Kd.R_slice HO341.out; subst eo35) | ((with_reducible refine gate_callee (f := 5) rfl ?_); refine goesL_ (some 14) rfl rfl Tryd.func5 (by kernel_rfl) rfl #[.slice Ao35 t339.length co35] rfl (by (try simp only [List.map_toArray, List.map_cons, List.map_nil]); first | done | rfl | (simp only [List.length_drop, List.length_take]; rfl)) ?_; (with_reducible refine (spec_PatchText.calls k _ _ t339 t342 _ ?side1 ?side2 A6.out).mono ?_); (case side1 => repeat (first | exact (Kd.R_reads' HO341.out).2.2 | (with_reducible refine Kd.C_alloc ?_ _) | (with_reducible refine Kd.C_drewN ?_ _) | (with_reducible refine Kd.C_drew ?_))); (case side2 => exact (Kd.R_reads' HO341.out).2.1); rintro e w36 ⟨rfl, hb⟩; refine ⟨_, rfl, ?_⟩; have n0_ := Aside0.mk (Kd.R_below (by (with_reducible repeat (first | apply Kd.R_alloc | apply Kd.R_drewN | apply Kd.R_drew)); exact HO341.out) hb); have n1_ := Aside0.mk (below_step (qB HB) hb); clear HO341; clear HB; have HO341 := n0_; have HB := n1_; clear n0_ n1_; (try clear hb); (try clear hb2); (try clear hk); (try clear hi)) | ((with_reducible refine gate_callee (f := 6) rfl ?_); refine goesL_ (some 16) rfl rfl Tryd.func6 (by kernel_rfl) rfl #[.slice A0 l0.length c0] rfl (by (try simp only [List.map_toArray, List.map_cons, List.map_nil]); first | done | rfl | (simp only [List.length_drop, List.length_take]; rfl)) ?_; (with_reducible refine (laws_toOpS.calls k _ _ l0 t343 _ (qC HR0 HB) HC0.out A7.out).mono ?_); rintro e w37 ⟨v344, rfl, ho0, hb⟩; refine ⟨_, rfl, ?_⟩; have n0_ := Aside0.mk (Kd.R_elder' (by (with_reducible repeat (first | apply Kd.R_alloc | apply Kd.R_drewN | apply Kd.R_drew)); exact HO341.out) (Kd.R_base ho0) hb); have n1_ := Aside0.mk (Kd.R_lower (Kd.R_new' ho0 (Kd.R_lt (by (with_reducible repeat (first | apply Kd.R_alloc | apply Kd.R_drewN | apply Kd.R_drew)); exact HO341.out))) (below_size (qB HB))); have n2_ := Aside0.mk (below_step (qB HB) hb); clear HO341; clear HB; have HO341 := n0_; have HO345 := n1_; have HB := n2_; clear n0_ n1_ n2_; (try clear hb); (try clear hb2); (try clear hk); (try clear hi); (try clear ho0); obtain ⟨Ao38, co38, eo38⟩ := Kd.R_slice HO345.out; subst eo38) | ((with_reducible refine gate_callee (f := 7) rfl ?_); refine goesL_ (some 18) rfl rfl Tryd.func7 (by kernel_rfl) rfl #[.slice Ao38 t343.length co38] rfl (by (try simp only [List.map_toArray, List.map_cons, List.map_nil]); first | done | rfl | (simp only [List.length_drop, List.length_take]; rfl)) ?_; (with_reducible refine (impl_PatchText.calls k _ _ t343 t346 _ ?side1 ?side2 (SH.mv hsh_ HB) A8.out).mono ?_); (case side1 => repeat (first | exact (Kd.R_reads' HO345.out).2.2 | (with_reducible refine Kd.C_alloc ?_ _) | (with_reducible refine Kd.C_drewN ?_ _) | (with_reducible refine Kd.C_drew ?_))); (case side2 => exact (Kd.R_reads' HO345.out).2.1); rintro e w39 ⟨rfl, hb⟩; refine ⟨_, rfl, ?_⟩; have n0_ := Aside0.mk (Kd.R_below (by (with_reducible repeat (first | apply Kd.R_alloc | apply Kd.R_drewN | apply Kd.R_drew)); exact HO341.out) hb); have n1_ := Aside0.mk (Kd.R_below (by (with_reducible repeat (first | apply Kd.R_alloc | apply Kd.R_drewN | apply Kd.R_drew)); exact HO345.out) hb); have n2_ := Aside0.mk (below_step (qB HB) hb); clear HO341; clear HO345; clear HB; have HO341 := n0_; have HO345 := n1_; have HB := n2_; clear n0_ n1_ n2_; (try clear hb); (try clear hb2); (try clear hk); (try clear hi)))
   go_ret
   exact ⟨by first | rfl | (simp [errW_none, errW_some] <;> rfl) | (simp [*, errW_none, errW_some] <;> rfl), by repeat (first | (with_reducible first | exact HB.out | apply below_alloc | apply pw_below_drewN | apply below_drew1) | exact HB.out)⟩

end Go.Proofs.YtgcgkcchoghkaaaDoor.G

/- PPatText -/
/-
  The law of PatchText: it is answered true.
-/
namespace Go.Proofs.YtgcgkcchoghkaaaDoor.G
open Go.RowKit Go.Proofs.YtgcgkcchoghkaaaDoorW.PrintWords Go.Proofs.YtgcgkcchoghkaaaDoorW.PrintLast Go.Proofs.YtgcgkcchoghkaaaDoorW.PrintMore
set_option linter.unusedVariables false
set_option linter.unusedSimpArgs false
def wordK (k : Int) : ByteArray := if k = 1 then ⟨#[115, 101, 116, 32]⟩ else if k = 2 then ⟨#[100, 114, 111, 112, 32]⟩ else ⟨#[110, 101, 101, 100, 32]⟩
def headT (x : IOp) : ByteArray := wordK x.f0 ++ jn x.f1 ⟨#[47]⟩
def addT (s : ByteArray) (x : IOp) : ByteArray := if x.f0 = 2 then (s ++ headT x) ++ ⟨#[10]⟩ else ((s ++ headT x) ++ (⟨#[32]⟩ ++ txtN 6 x.f2)) ++ ⟨#[10]⟩
def allT (xs : List IOp) : ByteArray := xs.foldl addT ⟨#[]⟩
theorem wordK_size (k : Int) : (wordK k).size ≤ 5 := by unfold wordK; split <;> (try split) <;> decide
theorem word_size {s : ByteArray} (h : wordB s = true) : s.size ≤ 20 := by
  unfold wordB at h
  rcases Bool.or_eq_true _ _ ▸ h with h | h
  · simp only [nameB, Bool.and_eq_true] at h
    have := inB_true h.2.1; omega
  · simp only [numB, Bool.and_eq_true] at h
    have := inB_true h.1; omega
theorem op_parts {x : IOp} (h : opB x = true) : (x.f0 = 1 ∨ x.f0 = 2 ∨ x.f0 = 3) ∧ x.f1.length ≤ 5 ∧ (∀ w ∈ x.f1, w.size ≤ 20) ∧ (x.f0 ≠ 2 → valB x.f2 = true) := by
  simp only [opB, Bool.and_eq_true, pathB] at h
  obtain ⟨h1, ⟨h2, h3⟩, h4⟩ := h
  have h1 := inB_true h1
  have h2 := inB_true h2
  refine ⟨by omega, by omega, fun w hw => ?_, fun hne => by rw [if_neg hne] at h4; exact h4⟩
  obtain ⟨i, hi, rfl⟩ := List.getElem_of_mem hw
  have := allN_true.1 h3 i hi
  rw [rdS hi] at this
  exact word_size this
theorem path_sum {x : IOp} (h : opB x = true) (i : Nat) : (jn (x.f1.take i) ⟨#[47]⟩).size ≤ 105 := by
  obtain ⟨_, hl, hw, _⟩ := op_parts h
  have := jn_size ⟨#[47]⟩ 1 (by decide) (x.f1.take i) 20 (fun y hy => hw y (List.mem_of_mem_take hy))
  have hl2 : (x.f1.take i).length ≤ 5 := by rw [List.length_take]; omega
  omega
theorem txt6_size {x : IVal} {n : Nat} (hs : SmI n x) (h : valB x = true) : (txtN 6 x).size ≤ 90000 := by
  have h0 : 0 < lookN 6 x := of_decide_eq_true h
  have := txt_size 6 n x hs h0
  have := lookN_le 6 x
  omega
theorem head_size {x : IOp} (h : opB x = true) : (headT x).size ≤ 110 := by
  have h1 := path_sum h x.f1.length
  rw [List.take_length] at h1
  have h2 := wordK_size x.f0
  unfold headT
  rw [ByteArray.size_append]; omega
theorem addT_size {x : IOp} (s : ByteArray) (h : opB x = true) (hs : smOpI x) : (addT s x).size ≤ s.size + 90200 := by
  obtain ⟨_, n, hn⟩ := hs
  have h1 := head_size h
  unfold addT
  by_cases c : x.f0 = 2
  · rw [if_pos c, ByteArray.size_append, ByteArray.size_append, sb1]; omega
  · rw [if_neg c]
    have := txt6_size hn ((op_parts h).2.2.2 c)
    simp only [ByteArray.size_append, sb1]; omega
theorem pat_parts {xs : List IOp} (h : patB xs = true) : xs.length ≤ 20 ∧ ∀ i (hi : i < xs.length), opB xs[i] = true := by
  simp only [patB, Bool.and_eq_true, decide_eq_true_eq] at h
  refine ⟨by omega, fun i hi => ?_⟩
  have := allN_true.1 h.1 i hi
  rw [rdIO hi] at this; exact this
theorem allT_size (xs : List IOp) (h : patB xs = true) (hs : ∀ x ∈ xs, smOpI x) : ∀ i, i ≤ xs.length → (allT (xs.take i)).size ≤ i * 90200
  | 0, _ => by simp [allT, ByteArray.size]
  | i + 1, hi => by
    have hi' : i < xs.length := by omega
    have ih := allT_size xs h hs i (by omega)
    unfold allT at ih ⊢
    rw [List.take_succ_eq_append_getElem hi', List.foldl_append, List.foldl_cons, List.foldl_nil]
    have := addT_size (List.foldl addT ⟨#[]⟩ (xs.take i)) ((pat_parts h).2 i hi') (hs _ (List.getElem_mem hi'))
    omega
open Classical in
noncomputable def patT (xs : List IOp) : ByteArray := if patB xs = true then allT xs else ⟨#[]⟩
theorem allT_succ (xs : List IOp) {i : Nat} (hi : i < xs.length) : allT (xs.take (i + 1)) = addT (allT (xs.take i)) xs[i] := by
  unfold allT
  rw [List.take_succ_eq_append_getElem hi, List.foldl_append, List.foldl_cons, List.foldl_nil]
theorem implPatText_l0 (xs : List IOp) (h : patB xs = true) (hs : ∀ x ∈ xs, smOpI x) : ∀ (d i : Nat), i + d = xs.length → Ev (fun k => impl_PatchText.l0 k (allT (xs.take i)) xs xs.length i) (allT xs)
  | 0, i, hd => by
    refine Ev.step (fun k => by rw [impl_PatchText.l0]) (ev_if_neg (by omega) (ev_some ?_))
    rw [List.take_of_length_le (by omega)]
  | d + 1, i, hd => by
    have hi : i < xs.length := by omega
    obtain ⟨h20, hops⟩ := pat_parts h
    have ho := hops i hi
    obtain ⟨hk, hl5, hw20, hv⟩ := op_parts ho
    have hsz := allT_size xs h hs i (by omega)
    have hhd := head_size ho
    have hjn := path_sum ho xs[i].f1.length
    rw [List.take_length] at hjn
    have ih := implPatText_l0 xs h hs d (i + 1) (by omega)
    rw [allT_succ xs hi] at ih
    obtain ⟨hsm, n, hn⟩ := hs _ (List.getElem_mem hi)
    refine Ev.step (fun k => by rw [impl_PatchText.l0]) (ev_if_pos (by omega) (ev_if_pos (by omega) (ev_if_pos (by omega) ?_)))
    rw [wsucc (n := xs.length) hi (by omega), rdIO hi]
    have hwd : wrap64 (xs[i].f0 - 1) = xs[i].f0 - 1 := w64 (by omega) (by omega)
    have hword : rdOf ByteArray.empty [(⟨#[115, 101, 116, 32]⟩ : ByteArray), ⟨#[100, 114, 111, 112, 32]⟩, ⟨#[110, 101, 101, 100, 32]⟩] (xs[i].f0 - 1) = wordK xs[i].f0 := by
      rcases hk with c | c | c <;> (rw [c]; rfl)
    refine Ev.bind (Ev.now _) ?_
    rw [hwd]
    refine ev_if_pos (by omega) (ev_if_pos (by show xs[i].f0 - 1 < 3; omega) (Ev.bind (ev_now (join_f _ _ (by omega) (by omega))) ?_))
    rw [hword]
    have e1 : wordK xs[i].f0 ++ jn xs[i].f1 ⟨#[47]⟩ = headT xs[i] := rfl
    have hws := wordK_size xs[i].f0
    rw [e1]
    refine ev_if_pos (by omega) (ev_if_pos (by omega) ?_)
    by_cases c : xs[i].f0 = 2
    · unfold addT at ih
      rw [if_pos c] at ih
      exact ev_if_pos c (ev_if_pos (by rw [ByteArray.size_append]; omega) ih)
    · unfold addT at ih
      rw [if_neg c] at ih
      have ht := txt6_size hn (hv c)
      have hval := implValueText_ev xs[i].f2 hn
      unfold valTxt at hval
      rw [if_pos (hv c)] at hval
      exact ev_if_neg c (Ev.bind hval (ev_if_pos (by omega) (ev_if_pos (by simp only [ByteArray.size_append, sb1]; omega) (ev_if_pos (by simp only [ByteArray.size_append, sb1]; omega) ih))))
theorem implPatText_ev (xs : List IOp) (hl : xs.length ≤ 1048576) (hs : ∀ x ∈ xs, smOpI x) : Ev (fun k => impl_PatchText.f k xs) (patT xs) := by
  unfold impl_PatchText.f patT
  refine Ev.bind (implPatchOk_ev xs hl hs) ?_
  by_cases c : patB xs = true
  · rw [if_pos c]
    exact ev_if_pos c (implPatText_l0 xs c hs xs.length 0 (by omega))
  · rw [if_neg c]
    exact ev_if_neg c (Ev.now _)
abbrev words4 : List ByteArray := [(⟨#[]⟩ : ByteArray), (⟨#[115, 101, 116, 32]⟩ : ByteArray), (⟨#[100, 114, 111, 112, 32]⟩ : ByteArray), (⟨#[110, 101, 101, 100, 32]⟩ : ByteArray)]
theorem specPatText_l1 (xs : List IOp) (i : Nat) (hi : i < xs.length) (hl : xs.length ≤ 20) (ho : opB xs[i] = true) (hs : smOpI xs[i]) (s r : ByteArray) (hsz : s.size ≤ 1900000) (next : Ev (fun k => spec_PatchText.l0 k xs words4 (addT s xs[i]) ((i + 1 : Nat) : Int)) r) :
    ∀ (d j : Nat), j + d = xs[i].f1.length → Ev (fun k => spec_PatchText.l1 k xs words4 ((s ++ wordK xs[i].f0) ++ jn (xs[i].f1.take j) ⟨#[47]⟩) i j) r
  | 0, j, hd => by
    obtain ⟨hk, hl5, hw20, hv⟩ := op_parts ho
    obtain ⟨hsm, n, hn⟩ := hs
    have hws := wordK_size xs[i].f0
    have hjn := path_sum ho j
    refine Ev.step (fun k => by rw [spec_PatchText.l1]) (ev_if_pos (by omega) (ev_if_pos (by omega) ?_))
    rw [wsucc (n := xs.length) hi (by omega), rdIO hi]
    refine ev_if_neg (by omega) ?_
    rw [List.take_of_length_le (by omega)] at hjn ⊢
    have e1 : (s ++ wordK xs[i].f0) ++ jn xs[i].f1 ⟨#[47]⟩ = s ++ headT xs[i] := ByteArray.append_assoc
    have hhd := head_size ho
    rw [e1]
    by_cases c : xs[i].f0 = 2
    · unfold addT at next
      rw [if_pos c] at next
      exact ev_if_pos c (ev_if_pos (by rw [ByteArray.size_append]; omega) next)
    · unfold addT at next
      rw [if_neg c] at next
      have ht := txt6_size hn (hv c)
      refine ev_if_neg c (ev_if_pos (by rw [ByteArray.size_append]; omega) (Ev.bind (l4Print_ev 6 n _ hn (of_decide_eq_true (hv c))) (ev_if_pos (by simp only [ByteArray.size_append, sb1]; omega) (ev_if_pos (by simp only [ByteArray.size_append, sb1]; omega) ?_))))
      rw [← ByteArray.append_assoc] at next
      exact next
  | d + 1, j, hd => by
    obtain ⟨hk, hl5, hw20, hv⟩ := op_parts ho
    have hj : j < xs[i].f1.length := by omega
    have hws := wordK_size xs[i].f0
    have hjn := path_sum ho j
    have hw := hw20 _ (List.getElem_mem hj)
    have ih := specPatText_l1 xs i hi hl ho hs s r hsz next d (j + 1) (by omega)
    rw [jn_take_succ _ _ _ hj] at ih
    have hsw : (s ++ wordK xs[i].f0 ++ jn (xs[i].f1.take j) ⟨#[47]⟩).size ≤ 2000000 := by simp only [ByteArray.size_append]; omega
    refine Ev.step (fun k => by rw [spec_PatchText.l1]) (ev_if_pos (by omega) (ev_if_pos (by omega) ?_))
    simp only [wsucc (n := xs[i].f1.length) hj (by omega), rdIO hi, rdS hj]
    refine ev_if_pos (by omega) ?_
    by_cases c : 0 < j
    · rw [if_pos c] at ih
      exact ev_if_pos (by omega) (ev_if_pos (by omega) (ev_if_pos (by omega) (ev_if_pos (by rw [ByteArray.size_append, sb1]; omega) ih)))
    · rw [if_neg c] at ih
      obtain rfl : j = 0 := by omega
      have e0 : (s ++ wordK xs[i].f0 ++ jn (xs[i].f1.take 0) ⟨#[47]⟩ : ByteArray) = s ++ wordK xs[i].f0 := by rw [List.take_zero, jn_nil]; exact ByteArray.append_empty
      rw [e0] at hsw ⊢
      exact ev_if_neg (by omega) (ev_if_pos (by omega) (ev_if_pos (by omega) ih))
theorem specPatText_l0 (xs : List IOp) (h : patB xs = true) (hs : ∀ x ∈ xs, smOpI x) : ∀ (d i : Nat), i + d = xs.length → Ev (fun k => spec_PatchText.l0 k xs words4 (allT (xs.take i)) i) (allT xs)
  | 0, i, hd => by
    refine Ev.step (fun k => by rw [spec_PatchText.l0]) (ev_if_neg (by omega) (ev_some ?_))
    rw [List.take_of_length_le (by omega)]
  | d + 1, i, hd => by
    have hi : i < xs.length := by omega
    obtain ⟨h20, hops⟩ := pat_parts h
    have ho := hops i hi
    obtain ⟨hk, hl5, hw20, hv⟩ := op_parts ho
    have hsz := allT_size xs h hs i (by omega)
    have ih := specPatText_l0 xs h hs d (i + 1) (by omega)
    rw [allT_succ xs hi] at ih
    have l1 := specPatText_l1 xs i hi h20 ho (hs _ (List.getElem_mem hi)) (allT (xs.take i)) _ (by omega) ih xs[i].f1.length 0 (by omega)
    have e0 : (allT (xs.take i) ++ wordK xs[i].f0 ++ jn (xs[i].f1.take 0) ⟨#[47]⟩ : ByteArray) = allT (xs.take i) ++ wordK xs[i].f0 := by rw [List.take_zero, jn_nil]; exact ByteArray.append_empty
    rw [e0] at l1
    have hword : rdOf ByteArray.empty words4 xs[i].f0 = wordK xs[i].f0 := by
      rcases hk with c | c | c <;> (rw [c]; rfl)
    have hws := wordK_size xs[i].f0
    refine Ev.step (fun k => by rw [spec_PatchText.l0]) (ev_if_pos (by omega) (ev_if_pos (by omega) ?_))
    rw [rdIO hi, hword]
    exact ev_if_pos (by omega) (ev_if_pos (by show xs[i].f0 < 4; omega) (ev_if_pos (by omega) l1))
theorem specPatText_ev (xs : List IOp) (hl : xs.length ≤ 1048576) (hs : ∀ x ∈ xs, smOpI x) : Ev (fun k => spec_PatchText.f k xs) (patT xs) := by
  unfold spec_PatchText.f patT
  refine Ev.bind (specPatchOk_ev xs hl hs) ?_
  by_cases c : patB xs = true
  · rw [if_pos c]
    exact ev_if_pos c (specPatText_l0 xs c hs xs.length 0 (by omega))
  · rw [if_neg c]
    exact ev_if_neg c (Ev.now _)
theorem FnExactPatchText_pure (l0 : List LOp) (hw : l0.length ≤ 9223372036854775807 ∧ ∀ x ∈ l0, wfOp x) : ∃ k, laws_FnExactPatchText.f k l0 = some true := by
  refine Ev.rounds ?_
  unfold laws_FnExactPatchText.f
  obtain ⟨r, hr, hL⟩ := szOpS_tot l0 1048576 hw.1 hw.2 (by omega) (by omega)
  refine Ev.bind hr ?_
  rcases hL with hneg | ⟨hp, _, hl, hs⟩
  · exact ev_if_pos hneg (Ev.now _)
  obtain ⟨ys, hy, hyl, hys⟩ := toOpS_tot l0 hl hs
  exact ev_if_neg (by omega) (Ev.bind hy (Ev.bind (specPatText_ev ys (by omega) hys) (Ev.bind hy (Ev.bind (implPatText_ev ys (by omega) hys) (ev_if_pos rfl (Ev.bind hy (Ev.bind (eqOpS_ev ys (by omega) hys) (ev_if_pos rfl (Ev.now _)))))))))
end Go.Proofs.YtgcgkcchoghkaaaDoor.G

/- GKRow -/
/-
  The row's wrap over listed variables, the world's shape kept.
-/
namespace Go.Proofs.YtgcgkcchoghkaaaDoor.G
open Go Go.Proofs

theorem change_and_shaped {H : Type} {enc : TypeId × Value → H} {a : Assume} {C : Checked} {os : Os} {f : FuncId} {fn : Func} {s : ChangeSpec} {conds : List PathCond} {apart fresh handsOn again : Bool} {X : World → Array Value → Prop}
    (hX : ∀ (w w' : World) (args : Array Value), w.heap = w'.heap → X w args → X w' args)
    (own : ownKnob C.prog.godebug = none) (started : os.Started) (noInit : C.prog.inits.idxOf? f = none) (hfn : C.prog.funcs[f]? = some fn)
    (witness : ∃ (w : World) (tape : Tape) (i : Input), w.os = os ∧ (w.forCall tape i).Shaped C.prog ∧ i.vars = [] ∧ Input.okWide C.prog (w.forCall tape i) .any w.heap.size f i ∧
      ((s.pre enc C.prog fn conds apart (w.forCall tape i).memory i.args ∧ X (w.forCall tape i).memory i.args) ∧ sizedMet enc C.prog fn (OpenSpec.ofChange s) apart (w.forCall tape i).memory i.args) ∧ a.holds C.prog (lone (Frame.enter C.prog f i.args .normal) [] (w.forCall tape i)))
    (contract : ∀ (W : World) (base : Nat) (args : Array Value) (ds gs : List (DataW H)) (before : List MemPlace),
      (∀ (j : Nat) t v, fn.params[j]? = some t → args[j]? = some v → Value.okWide C.prog W .any base t v) →
      DataW.Whole enc C.prog fn.params.toList s.vars apart W args.toList ds gs before →
      conds.all (PathCond.test C.prog ⟨fn.params.toList, ds, s.plain.varTypes C.prog, gs⟩) = true →
      (DataW.weightsEach C.prog (fn.params.toList ++ s.plain.varTypes C.prog) (ds ++ gs)).all (· ≤ reachBytes) = true → X W args → W.ShapedOpen C.prog →
      a.holds C.prog (lone (Frame.enter C.prog f args .normal) [] W) →
      Calls C.prog f args W fun e W' => ∃ v, e = .returned v ∧ s.post enc C.prog fn apart fresh handsOn again W args v W') :
    ReturnsInHanded a C os f .any (fun w args => (s.pre enc C.prog fn conds apart w args ∧ X w args) ∧ sizedMet enc C.prog fn (OpenSpec.ofChange s) apart w args) (s.post enc C.prog fn apart fresh handsOn again) := by
  refine returnsInHanded_of_calls own started noInit witness ?_
  intro w tape i _ hsh _ hok hpre hholds
  obtain ⟨_, _, _, fn', hfn', _, _, _, _, hval⟩ := hok
  have e : fn' = fn := Option.some.inj (hfn'.symm.trans hfn)
  subst e
  obtain ⟨⟨⟨ds, gs, before, hw, hc⟩, hx⟩, hz⟩ := hpre
  have hw' := DataW.Whole.of_heap (w' := w.forCall tape i) (by rfl) hw
  refine (contract (w.forCall tape i) w.heap.size i.args ds gs before hval hw' hc (hz.weights hw) (hX _ _ _ (by rfl) hx) hsh hholds).mono fun e W' ⟨v, he, hp⟩ => ?_
  subst he
  exact ChangeSpec.post_blind hp
end Go.Proofs.YtgcgkcchoghkaaaDoor.G

/- RowFnExactPatchTextCard -/
/- The law 'FnExactPatchText' holds for every input: it returns true, and each argument reads behind the call as it read before. No condition. -/
namespace Go.Proofs.YtgcgkcchoghkaaaDoor.fnExactPatchText
open Go.ChangeShapes Go.WideShapes Go.ChangeAt Go.RowKit
set_option linter.unusedVariables false
theorem own : ownKnob Tryd.prog.godebug = none := by kernel_rfl
theorem laidOut : laidOutB Tryd.prog = true := by kernel_rfl
set_option maxRecDepth 100000 in
theorem lifted (os : Os) (started : os.Started) (H : Type) (enc : TypeId × Value → H) :
    ReturnsInHanded {} Tryd.checked os 3 .any (fun w args => (Rows.fnExactPatchTextSpec.pre enc Tryd.prog Tryd.f3 Rows.fnExactPatchTextRow.domain false w args ∧ laidMetH Tryd.prog Rows.fnExactPatchTextRow.laid w) ∧ sizedMet enc Tryd.prog Tryd.f3 (OpenSpec.ofChange Rows.fnExactPatchTextSpec) false w args) (Rows.fnExactPatchTextSpec.post enc Tryd.prog Tryd.f3 false true false false) := by
  refine G.change_and_shaped (C := Tryd.checked) (X := fun w _ => laidMetH Tryd.prog Rows.fnExactPatchTextRow.laid w) (fun _ _ _ hh h => h.of_heap hh) own started (by kernel_rfl) Tryd.func3
    (ChangeSpec.witness_shaped (enc := enc) (C := Tryd.checked) (os := os) (X := fun w _ => laidMetH Tryd.prog Rows.fnExactPatchTextRow.laid w) false (World.laidAll Tryd.prog os Rows.fnExactPatchTextRow.laid) #[.slice none 0 0] 8 (World.laidAll_os _ _ _)
      (World.shaped_of_ZipB (by kernel_rfl) (by kernel_rfl)) (by kernel_rfl) (by kernel_rfl) (by kernel_rfl)
      (by rw [MakeChecks.laidMetH_plain _ _ _ (by kernel_rfl)]; exact laidMet_laidAll _ (by kernel_rfl) (by kernel_rfl))) ?_
  intro W base args ds gs before hval0 hW hcnd _ hL hshape _
  have hval : ∀ (j : Nat) t v, Tryd.f3.params[j]? = some t → args[j]? = some v → Value.okWide Tryd.prog W .any base t v := hval0
  have hW' := hW
  obtain ⟨p, q, hA0, hV, rfl, hfz, hnd⟩ := hW
  have hA : DataW.TrodAll enc Tryd.prog W 0 (fun _ => true) true Tryd.f3.params.toList args.toList ds p := hA0
  rw [Tryd.params3] at hA hval
  obtain ⟨v0, vs0, d0, ds0, p0, q0, hargs0, rfl, rfl, h0, r0x⟩ := trodAll_cons hA
  obtain ⟨rfl, rfl, rfl⟩ := trodAll_nil r0x
  obtain rfl : args = #[v0] := by cases args; simp_all
  obtain ⟨rfl, rfl⟩ := trodVars_none hV
  have hlt := hW'.lt
  have hk0 := h0
  obtain ⟨x0, A0, c0, rfl, w0, l0, q0⟩ := G.kopen_ops (hval 0 22 v0 rfl rfl) h0
  clear hA0 hval0
  obtain ⟨k, hk⟩ := G.FnExactPatchText_pure x0 w0
  refine (G.laws_FnExactPatchText.calls k A0 c0 x0 true W q0 l0 (G.SH.of hshape) hk).mono fun e W' ⟨he, bel⟩ => ?_
  subst he
  exact ⟨_, rfl, _, _, _, [], _, [], hW', trodAll_mk1 (shut_bool Tryd.underlying4 _), (trodAll_cons_mk (Below.trod laidOut (by kernel_rfl) (of_decide_eq_true (by kernel_rfl)) hk0 bel (fun x hx => hlt x (by simp [hx]))) trodAll_mk0), rfl, bel.frame _, fun h => by cases h⟩
theorem over : Rows.fnExactPatchTextRow.holds Tryd.pinned (OpenSpec.ofChange Rows.fnExactPatchTextSpec) :=
  OpenClaim.holds_of_wide 3 Tryd.f3 rfl rfl rfl rfl rfl rfl rfl ⟨rfl, rfl, rfl, rfl, rfl⟩ rfl rfl rfl rfl rfl (by kernel_rfl) Tryd.func3 (by kernel_rfl)
    (of_decide_eq_true (by kernel_rfl)) (by unfold Func.isWrapper; first | (rw [if_pos (by decide +kernel)]; kernel_rfl) | (rw [if_neg (by decide +kernel)]; exact ⟨rfl, rfl⟩))
    (fun os started H enc _ => lifted os started H enc)
theorem proved : Rows.FnExactPatchTextSaid := over
#print axioms proved
end Go.Proofs.YtgcgkcchoghkaaaDoor.fnExactPatchText
namespace Go.Proofs.YtgcgkcchoghkaaaDoor
theorem fnExactPatchTextCard_holds : Rows.FnExactPatchTextCardSaid :=
  Claim7.holds_tied_plain_at .later [] [.data, .pinned] true (true, "6348727e3366b7eff20e36f7d63c68f79bb9b55c5cd1a3045ad5fbae6149d030") false fnExactPatchText.proved (fun _ h => by cases h) (by kernel_rfl) (fun _ h => by cases h) fnExactPatchText_row_tie rfl ⟨rfl, rfl⟩ (by kernel_rfl) rfl
    (fun f fn hf hfn => by
      obtain rfl : f = 3 := Option.some.inj ((show Tryd.prog.funcNamed "loop.example/g00119/laws.FnExactPatchText" = some 3 by kernel_rfl).symm.trans hf) |>.symm
      obtain rfl : fn = Tryd.f3 := (Option.some.inj (Tryd.func3.symm.trans hfn)).symm
      exact ⟨by kernel_rfl, fun j t ht => by
        rw [Tryd.params3] at ht
        have hm : t ∈ [22] := by simpa using Array.mem_of_getElem? ht
        have hall : ([22].all fun u => !Tryd.prog.wantsStandIn u) = true := by kernel_rfl
        exact (show Tryd.prog.wantsStandIn t = false by simpa using List.all_eq_true.1 hall t hm)⟩)
    (by kernel_rfl)
end Go.Proofs.YtgcgkcchoghkaaaDoor
