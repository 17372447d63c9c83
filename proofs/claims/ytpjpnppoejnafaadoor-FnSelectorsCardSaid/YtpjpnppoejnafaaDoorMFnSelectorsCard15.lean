import Derived.Test.YtpjpnppoejnafaaDoorMFnSelectorsCard1
import Derived.Test.YtpjpnppoejnafaaDoorMFnSelectorsCard7
import Derived.Test.YtpjpnppoejnafaaDoorMFnSelectorsCard14
import Derived.Test.YtpjpnppoejnafaaDoorMFnSelectorsCard13
import Derived.Test.YtpjpnppoejnafaaDoorMFnSelectorsCard8
import Derived.Test.YtpjpnppoejnafaaDoorMFnSelectorsCard9
import Derived.Test.YtpjpnppoejnafaaDoorMFnSelectorsCard10
import Derived.Test.YtpjpnppoejnafaaDoorMFnSelectorsCard11
import Derived.Test.YtpjpnppoejnafaaDoorProg
import Derived.WideShapes
import Derived.KernelRfl
import Derived.Handed
import Derived.Test.YtpjpnppoejnafaaDoorRows
import Derived.WalkKit
import Derived.ProofKit
import Derived.OpenShut
import Derived.ShutString
import Derived.ChangeOld
import Derived.Carry
import Derived.Below
import Derived.Test.YtpjpnppoejnafaaDoorCards
import Derived.Test.YtpjpnppoejnafaaDoorTie
import Derived.Lay
import Derived.LaidMore
import Derived.SevenTiedAt
import Derived.Stop.Joined
/- G32 -/
-- Laid by wip/g/gprint.py out of the translation, by the kit's print program. Lean checks it.
namespace Go.Proofs.YtpjpnppoejnafaaDoor.G
open Go.RowKit Go.Proofs.YtpjpnppoejnafaaDoorW.PrintWords Go.Proofs.YtpjpnppoejnafaaDoorW.PrintLast Go.Proofs.YtpjpnppoejnafaaDoorW.PrintMore
attribute [local go_sem] max2_int min2_int max_two min_two max_three min_three max_four min_four   -- for this text's walks alone
set_option linter.unusedVariables false
set_option linter.unusedSimpArgs false

/-! ### spec_Never: function 32 -/
mutual
def spec_Never.l0 : Nat → List (S59) → Int → Option (Bool)
 | 0, _, _ => none
 | k + 1, x0, x3 => if x3 < (x0.length : Int) then ((spec_SelectorOk.f k x0).bind fun t731 => (spec_Never.j1 k x0 x3 t731)) else (spec_Never.j1 k x0 x3 false)
def spec_Never.j1 : Nat → List (S59) → Int → Bool → Option (Bool)
 | 0, _, _, _ => none
 | k + 1, x0, x3, x11 => if x11 = true then (if 0 ≤ x3 then (if x3 < (x0.length : Int) then ((spec_l2Alone.f k x0 ((rd_T59 x0 x3).f1)).bind fun t733 => (if t733 = true then (some true) else (spec_Never.l0 k x0 (wrap64 (x3 + 1))))) else (none)) else (none)) else (some false)
end
def spec_Never.f (k : Nat) (l0 : List (S59)) : Option (Bool) := spec_Never.l0 k l0 0
set_option maxHeartbeats 8000000 in
set_option maxRecDepth 100000 in
theorem spec_Never.calls (k : Nat) (A0 : Option Addr) (c0 : Nat) (l0 : List (S59)) (r : Bool) (w : World) (hr0 : Kd.C k59 w A0 l0.length l0) (hc0 : l0.length ≤ c0) (h : spec_Never.f k l0 = some r) :
  Calls Tryd.prog 32 #[.slice A0 l0.length c0] w fun e w' => e = .returned (.bool r) ∧ Below w.heap.size w w' := by
 have HR0 := Aside0.mk hr0
 have HC0 := Aside0.mk hc0
 clear hr0 hc0
 have HB := Aside0.mk (Below.refl w.heap.size w)
 unfold spec_Never.f at h; have H := h
 clear h
 have H' := Aside0.mk H
 clear H
 go_enter Tryd.func32, Tryd.ntmps32
 go_wp2
 go_loopg [3] k (fun kq v3 w' => ∃ (x3_1 : Int), v3 = .int .i64 x3_1 ∧ Aside0 (spec_Never.l0 kq l0 x3_1 = some r) ∧ Aside0 (kq ≤ k) ∧ Aside0 (Below w.heap.size w w'))
 case atStart => exact ⟨(0), (by first | rfl | (simp; done) | (simp [*]; done)), H', ⟨Nat.le_refl _⟩, ⟨qB HB⟩⟩
 case round =>
  clear H'
  obtain ⟨x3_1, rfl, HA, HK1, HB⟩ := hrel
  cases gk with
  | zero => exact absurd HA.out (by simp [spec_Never.l0])
  | succ k1 =>
   have H := HA.out
   clear HA
   simp only [spec_Never.l0] at H
   have HC2 := Aside0.mk H
   clear H
   go_upto_region 2 with (fail)
   go_cut [11] (fun v11 wc => ∃ (kq : Nat) (x11_1 : Bool), v11 = .bool x11_1 ∧ Aside0 (spec_Never.j1 kq l0 x3_1 x11_1 = some r) ∧ Aside0 (kq ≤ k1) ∧ Aside0 (Below w.heap.size w wc))
   case first =>
    have H := HC2.out
    clear HC2
    by_cases c3 : x3_1 < (l0.length : Int)
    ·rw [if_pos c3] at H
     have c3b0 : decide (x3_1 < (l0.length : Int)) = true := decide_eq_true c3
     clear c3
     (first | rw [c3b0] | (simp only [i64_w, i32_w]; rw [c3b0]) | skip)
     replace H := Option.bind_eq_some_iff.mp H
     obtain ⟨t731, A40, H⟩ := H
     try dsimp only at H
     have A4 := Aside0.mk A40
     clear A40
     have H' := Aside0.mk H
     clear H
     go_wp2_with (first | (go_at_call 29; (with_reducible refine (spec_SelectorOk.calls k1 _ _ l0 t731 _ (qC HR0 HB) HC0.out A4.out).mono ?_); rintro e w5 ⟨rfl, hb⟩; have n0_ := Aside0.mk (below_step (qB HB) hb); clear HB; have HB := n0_; clear n0_; (try clear hb); (try clear hb2); (try clear hk); (try clear hi)))
     go_meet
     case rel => exact ⟨_, (t731), (by first | rfl | (simp; done) | (simp [*]; done)), H', ⟨by have := HK1.out; first | omega | exact Nat.le_refl _⟩, ⟨qB HB⟩⟩
    ·rw [if_neg c3] at H
     have c3b0 : decide (x3_1 < (l0.length : Int)) = false := decide_eq_false c3
     clear c3
     (first | rw [c3b0] | (simp only [i64_w, i32_w]; rw [c3b0]) | skip)
     have H' := Aside0.mk H
     clear H
     go_wp2
     go_meet
     case rel => exact ⟨_, (false), (by first | rfl | (simp; done) | (simp [*]; done)), H', ⟨by have := HK1.out; first | omega | exact Nat.le_refl _⟩, ⟨qB HB⟩⟩
   case rest =>
    clear HC2
    try clear p2
    try clear c3
    try clear c3b0
    obtain ⟨kq, x11_1, rfl, HA, HJ1, HB⟩ := hcut
    cases kq with
    | zero => exact absurd HA.out (by simp [spec_Never.j1])
    | succ kj1 =>
     have H := HA.out
     clear HA
     simp only [spec_Never.j1] at H
     by_cases c6 : x11_1 = true
     ·subst c6
      have H1 : (if 0 ≤ x3_1 then (if x3_1 < (l0.length : Int) then ((spec_l2Alone.f kj1 l0 ((rd_T59 l0 x3_1).f1)).bind fun t733 => (if t733 = true then (some true) else (spec_Never.l0 kj1 l0 (wrap64 (x3_1 + 1))))) else (none)) else (none)) = some r := by rw [if_pos rfl] at H; exact H
      clear H
      have H := H1
      clear H1
      by_cases c7 : 0 ≤ x3_1
      ·rw [if_pos c7] at H
       have c7b0 : decide (0 ≤ x3_1) = true := decide_eq_true c7
       clear c7
       by_cases c8 : x3_1 < (l0.length : Int)
       ·rw [if_pos c8] at H
        have c8b0 : decide (x3_1 < (l0.length : Int)) = true := decide_eq_true c8
        clear c8
        replace H := Option.bind_eq_some_iff.mp H
        obtain ⟨t733, A90, H⟩ := H
        try dsimp only at H
        have A9 := Aside0.mk A90
        clear A90
        by_cases c10 : t733 = true
        ·subst c10
         have H1 : (some true) = some r := by rw [if_pos rfl] at H; exact H
         clear H
         have H := H1
         clear H1
         obtain rfl := Option.some.inj H
         have p732 : 0 ≤ (x3_1 : Int) := of_decide_eq_true (by first | (with_reducible assumption) | assumption)
         have q732 : x3_1 < (l0.length : Int) := of_decide_eq_true (by first | (with_reducible assumption) | assumption)
         obtain ⟨ad732, A732_2, c732_2, e732, hx732_0, hx732_1, hx732_2, hl732_2, hi732_2⟩ := at_T59 HR0.out x3_1 p732 q732
         cases e732
         replace hx732_0 := (HB.out.cell (World.block_lt_of_cell? w _ hx732_0)).trans hx732_0
         replace hx732_1 := (HB.out.cell (World.block_lt_of_cell? w _ hx732_1)).trans hx732_1
         replace hx732_2 := (HB.out.cell (World.block_lt_of_cell? w _ hx732_2)).trans hx732_2
         have HR732_2 := Aside0.mk hi732_2
         have HC732_2 := Aside0.mk hl732_2
         clear hi732_2 hl732_2
         replace p732 := eq_true p732
         replace q732 := eq_true q732
         go_wp2_with (first | ((with_reducible refine gate_callee (f := 73) rfl ?_); refine goesL_ (some 20) rfl rfl Tryd.func73 (by kernel_rfl) rfl #[.slice (some ad732) l0.length c0, .string ((rd_T59 l0 x3_1).f1)] rfl (by (try simp only [List.map_toArray, List.map_cons, List.map_nil]); first | done | rfl | (simp only [List.length_drop, List.length_take]; rfl)) ?_; (with_reducible refine (spec_l2Alone.calls kj1 _ _ l0 ((rd_T59 l0 x3_1).f1) true _ (qC HR0 HB) HC0.out A9.out).mono ?_); rintro e w11 ⟨rfl, hb⟩; refine ⟨_, rfl, ?_⟩; have n0_ := Aside0.mk (below_step (qB HB) hb); clear HB; have HB := n0_; clear n0_; (try clear hb); (try clear hb2); (try clear hk); (try clear hi)))
         go_ret
         exact ⟨by first | rfl | (simp [errW_none, errW_some] <;> rfl) | (simp [*, errW_none, errW_some] <;> rfl), by repeat (first | (with_reducible first | exact HB.out | apply below_alloc | apply pw_below_drewN | apply below_drew1) | exact HB.out)⟩
        ·replace c10 := Bool.eq_false_iff.mpr c10
         subst c10
         have H1 : (spec_Never.l0 kj1 l0 (wrap64 (x3_1 + 1))) = some r := by rw [if_neg (show ¬ (false = true) by decide)] at H; exact H
         clear H
         have H := H1
         clear H1
         have H' := Aside0.mk H
         clear H
         have p732 : 0 ≤ (x3_1 : Int) := of_decide_eq_true (by first | (with_reducible assumption) | assumption)
         have q732 : x3_1 < (l0.length : Int) := of_decide_eq_true (by first | (with_reducible assumption) | assumption)
         obtain ⟨ad732, A732_2, c732_2, e732, hx732_0, hx732_1, hx732_2, hl732_2, hi732_2⟩ := at_T59 HR0.out x3_1 p732 q732
         cases e732
         replace hx732_0 := (HB.out.cell (World.block_lt_of_cell? w _ hx732_0)).trans hx732_0
         replace hx732_1 := (HB.out.cell (World.block_lt_of_cell? w _ hx732_1)).trans hx732_1
         replace hx732_2 := (HB.out.cell (World.block_lt_of_cell? w _ hx732_2)).trans hx732_2
         have HR732_2 := Aside0.mk hi732_2
         have HC732_2 := Aside0.mk hl732_2
         clear hi732_2 hl732_2
         replace p732 := eq_true p732
         replace q732 := eq_true q732
         go_wp2_with (first | ((with_reducible refine gate_callee (f := 73) rfl ?_); refine goesL_ (some 20) rfl rfl Tryd.func73 (by kernel_rfl) rfl #[.slice (some ad732) l0.length c0, .string ((rd_T59 l0 x3_1).f1)] rfl (by (try simp only [List.map_toArray, List.map_cons, List.map_nil]); first | done | rfl | (simp only [List.length_drop, List.length_take]; rfl)) ?_; (with_reducible refine (spec_l2Alone.calls kj1 _ _ l0 ((rd_T59 l0 x3_1).f1) false _ (qC HR0 HB) HC0.out A9.out).mono ?_); rintro e w12 ⟨rfl, hb⟩; refine ⟨_, rfl, ?_⟩; have n0_ := Aside0.mk (below_step (qB HB) hb); clear HB; have HB := n0_; clear n0_; (try clear hb); (try clear hb2); (try clear hk); (try clear hi)))
         go_roundg kj1
         case measure => have := HK1.out; have := HJ1.out; omega
         case rel => exact ⟨(wrap64 (x3_1 + 1)), (by first | rfl | (simp; done) | (simp [*]; done)), H', ⟨by have := HK1.out; have := HJ1.out; omega⟩, ⟨qB HB⟩⟩
       ·rw [if_neg c8] at H
        exact absurd H (by simp)
      ·rw [if_neg c7] at H
       exact absurd H (by simp)
     ·replace c6 := Bool.eq_false_iff.mpr c6
      subst c6
      have H1 : (some false) = some r := by rw [if_neg (show ¬ (false = true) by decide)] at H; exact H
      clear H
      have H := H1
      clear H1
      obtain rfl := Option.some.inj H
      go_wp2
      go_ret
      exact ⟨by first | rfl | (simp [errW_none, errW_some] <;> rfl) | (simp [*, errW_none, errW_some] <;> rfl), by repeat (first | (with_reducible first | exact HB.out | apply below_alloc | apply pw_below_drewN | apply below_drew1) | exact HB.out)⟩

end Go.Proofs.YtpjpnppoejnafaaDoor.G

/- PNever -/
/-
  Never: the reference's and the program's come to one answer.
-/
namespace Go.Proofs.YtpjpnppoejnafaaDoor.G
open Go.RowKit Go.Proofs.YtpjpnppoejnafaaDoorW.PrintWords Go.Proofs.YtpjpnppoejnafaaDoorW.PrintLast Go.Proofs.YtpjpnppoejnafaaDoorW.PrintMore
set_option linter.unusedVariables false
set_option linter.unusedSimpArgs false
/-! ### the reference's -/
theorem zAt_str (i : Nat) (h : i < 60) : strOfNums ([122, (wrap64 (48 + (wrap64 (Int.tdiv (i : Int) 10)))) % 256, (wrap64 (48 + (Int.tmod (i : Int) 10))) % 256] : List Int) = zAt i := by
  have e1 : Int.tdiv (i : Int) 10 = ((i / 10 : Nat) : Int) := by rw [Int.tdiv_eq_ediv_of_nonneg (by omega)]; omega
  have e2 : Int.tmod (i : Int) 10 = ((i % 10 : Nat) : Int) := by rw [Int.tmod_eq_emod_of_nonneg (by omega)]; omega
  have a1 : wrap64 ((i / 10 : Nat) : Int) = ((i / 10 : Nat) : Int) := w64 (by omega) (by omega)
  have a2 : wrap64 (48 + ((i / 10 : Nat) : Int)) = 48 + ((i / 10 : Nat) : Int) := w64 (by omega) (by omega)
  have a3 : wrap64 (48 + ((i % 10 : Nat) : Int)) = 48 + ((i % 10 : Nat) : Int) := w64 (by omega) (by omega)
  rw [e1, e2, a1, a2, a3]
  have e3 : ((48 : Int) + ((i / 10 : Nat) : Int)) % 256 = ((48 + i / 10 : Nat) : Int) := by omega
  have e4 : ((48 : Int) + ((i % 10 : Nat) : Int)) % 256 = ((48 + i % 10 : Nat) : Int) := by omega
  rw [e3, e4]
  rfl
def condB (key v : ByteArray) (has : Bool) (t : ITerm) : Bool := !decide (t.f1 = key) || holdB t.f0 has (amongB t.f2 v)
theorem okAt_all (key v : ByteArray) (has : Bool) (sel : List ITerm) : okAt (withKey key sel) v has = sel.all (condB key v has) := by
  unfold okAt withKey condB
  rw [List.all_filter]
theorem vals_drop (key : ByteArray) (sel : List ITerm) {j : Nat} (h : j < sel.length) : valsOf (withKey key (sel.take (j + 1))) = valsOf (withKey key (sel.take j)) ++ (if sel[j].f1 = key then sel[j].f2 else []) := by
  unfold valsOf withKey
  rw [List.take_succ_eq_append_getElem h, List.filter_append, List.flatMap_append]
  congr 1
  by_cases c : sel[j].f1 = key
  · rw [if_pos c]; simp [c]
  · rw [if_neg c]; simp [c]
section
variable (sel : List ITerm) (key : ByteArray) (h8 : sel.length ≤ 8) (h6 : ∀ t ∈ sel, t.f2.length ≤ 6)
include h8 h6
theorem alone_l3 (tries : List ByteArray) (x8 : Int) (v : ByteArray) (has : Bool) (hx : (x8 ≥ 0 ∧ has = true ∧ x8 < tries.length ∧ rdOf ByteArray.empty tries x8 = v) ∨ (¬ x8 ≥ 0 ∧ has = false ∧ v = ⟨#[]⟩)) (r : Bool) (hr : Ev (fun k => spec_l2Alone.l2 k sel key tries (wrap64 (x8 + 1))) r) :
    ∀ (d j : Nat) (acc : Bool), j + d = sel.length → Ev (fun k => spec_l2Alone.l3 k sel key tries x8 acc j) (if (acc && (sel.drop j).all (condB key v has)) = true then false else r)
  | 0, j, acc, hd => by
    rw [List.drop_of_length_le (by omega), List.all_nil, Bool.and_true]
    refine Ev.step (fun k => by rw [spec_l2Alone.l3]) (ev_if_neg (by omega) ?_)
    cases acc with
    | true => exact ev_rw (ev_if_pos rfl (Ev.now _)) (if_pos rfl).symm
    | false => exact ev_rw (ev_if_neg (by simp) hr) (if_neg (by simp)).symm
  | d + 1, j, acc, hd => by
    have hj : j < sel.length := by omega
    have hm := h6 _ (List.getElem_mem hj)
    have ih := fun acc => alone_l3 tries x8 v has hx r hr d (j + 1) acc (by omega)
    rw [List.drop_eq_getElem_cons hj, List.all_cons]
    refine Ev.step (fun k => by rw [spec_l2Alone.l3]) (ev_if_pos (by omega) ?_)
    simp only [wsucc hj (by omega : sel.length ≤ 9223372036854775807), rdIT hj]
    have hcase : Ev (fun k => if (sel[j].f1).toList = key.toList then (spec_l2Holds.f k sel[j].f0 sel[j].f1 sel[j].f2 v has).bind (fun t => spec_l2Alone.l3 k sel key tries x8 t ((j + 1 : Nat) : Int)) else spec_l2Alone.l3 k sel key tries x8 true ((j + 1 : Nat) : Int)) (if (true && (condB key v has sel[j] && (sel.drop (j + 1)).all (condB key v has))) = true then false else r) := by
      unfold condB
      by_cases c : sel[j].f1 = key
      · refine ev_if_pos (bl_eq.2 c) (Ev.bind (l2Holds_ev _ _ _ _ _ (by omega)) (ev_rw (ih _) ?_))
        simp [c, condB]
      · refine ev_if_neg (fun e => c (bl_eq.1 e)) (ev_rw (ih _) ?_)
        simp [c, condB]
    rcases hx with ⟨h0, rfl, h1, h2⟩ | ⟨h0, rfl, rfl⟩
    · refine ev_if_pos h0 (ev_if_pos h0 (ev_if_pos h1 ?_))
      have hd1 : decide (x8 ≥ 0) = true := decide_eq_true h0
      rw [h2, hd1]
      cases acc with
      | true => exact ev_if_pos rfl (ev_if_pos (by omega) hcase)
      | false => exact ev_if_neg (by simp) (ev_rw (ih false) (by simp))
    · refine ev_if_neg h0 ?_
      have hd1 : decide (x8 ≥ 0) = false := decide_eq_false h0
      rw [hd1]
      cases acc with
      | true => exact ev_if_pos rfl (ev_if_pos (by omega) hcase)
      | false => exact ev_if_neg (by simp) (ev_rw (ih false) (by simp))
theorem alone_l2 (tries : List ByteArray) (hl : tries.length ≤ 1000) : ∀ (d q : Nat), q + d = tries.length → Ev (fun k => spec_l2Alone.l2 k sel key tries (q : Int)) (!(tries.drop q).any (fun v => okAt (withKey key sel) v true))
  | 0, q, hd => by
    rw [List.drop_of_length_le (by omega)]
    exact Ev.step (fun k => by rw [spec_l2Alone.l2]) (ev_if_neg (by omega) (ev_some (by simp)))
  | d + 1, q, hd => by
    have hq : q < tries.length := by omega
    have ih := alone_l2 tries hl d (q + 1) (by omega)
    rw [List.drop_eq_getElem_cons hq, List.any_cons, okAt_all]
    refine Ev.step (fun k => by rw [spec_l2Alone.l2]) (ev_if_pos (by omega) ?_)
    have := alone_l3 sel key h8 h6 tries (q : Int) tries[q] true (.inl ⟨by omega, rfl, by omega, rdS hq⟩) _ (by rw [wsucc hq (by omega)]; exact ih) sel.length 0 true (by omega)
    refine ev_rw this ?_
    rw [List.drop_zero, Bool.true_and]
    cases sel.all (condB key tries[q] true) <;> simp
theorem alone_ev : Ev (fun k => spec_l2Alone.f k sel key) (!possB (withKey key sel)) := by
  have h8' : (withKey key sel).length ≤ 8 := Nat.le_trans (List.length_filter_le _ _) h8
  have h6' : ∀ t ∈ withKey key sel, t.f2.length ≤ 6 := fun t ht => h6 t (List.mem_filter.1 ht).1
  have hvl := vals_len h6'
  have hzl : zAll.length = 60 := by simp [zAll]
  have l2 : Ev (fun k => spec_l2Alone.l2 k sel key (zAll ++ valsOf (withKey key sel)) (-1)) (!possB (withKey key sel)) := by
    have hl : (zAll ++ valsOf (withKey key sel)).length ≤ 1000 := by rw [List.length_append]; omega
    have h0 := alone_l2 sel key h8 h6 _ hl _ 0 (Nat.zero_add _)
    rw [List.drop_zero] at h0
    refine Ev.step (fun k => by rw [spec_l2Alone.l2]) (ev_if_pos (by omega) ?_)
    have := alone_l3 sel key h8 h6 (zAll ++ valsOf (withKey key sel)) (-1) ⟨#[]⟩ false (.inr ⟨by omega, rfl, rfl⟩) _ (by rw [w64 (by omega) (by omega)]; exact h0) sel.length 0 true (by omega)
    refine ev_rw this ?_
    rw [List.drop_zero, Bool.true_and, ← possB_spec h8' h6', ← okAt_all, okAt_none _ ⟨#[]⟩ ByteArray.empty]
    cases okAt (withKey key sel) ByteArray.empty false <;> simp
  have l1 : ∀ (d j : Nat), j + d = sel.length → Ev (fun k => spec_l2Alone.l1 k sel key (zAll ++ valsOf (withKey key (sel.take j))) j) (!possB (withKey key sel)) := by
    intro d
    induction d with
    | zero =>
      intro j hd
      refine Ev.step (fun k => by rw [spec_l2Alone.l1]) (ev_if_neg (by omega) ?_)
      rw [List.take_of_length_le (by omega)]
      exact l2
    | succ d ih =>
      intro j hd
      have hj : j < sel.length := by omega
      have ih := ih (j + 1) (by omega)
      rw [vals_drop key sel hj] at ih
      refine Ev.step (fun k => by rw [spec_l2Alone.l1]) (ev_if_pos (by omega) (ev_if_pos (by omega) ?_))
      simp only [wsucc hj (by omega : sel.length ≤ 9223372036854775807), rdIT hj]
      have h6j : ∀ t ∈ withKey key (sel.take j), t.f2.length ≤ 6 := fun t ht => h6 t (List.mem_of_mem_take (List.mem_filter.1 ht).1)
      have hv := vals_len h6j
      have hw : (withKey key (sel.take j)).length ≤ 8 := Nat.le_trans (List.length_filter_le _ _) (by rw [List.length_take]; omega)
      have hm := h6 _ (List.getElem_mem hj)
      by_cases c : sel[j].f1 = key
      · rw [if_pos c, ← List.append_assoc] at ih
        refine ev_if_pos (bl_eq.2 c) (ev_if_pos (by rw [List.length_append]; omega) ?_)
        exact ih
      · rw [if_neg c, List.append_nil] at ih
        exact ev_if_neg (fun e => c (bl_eq.1 e)) ih
  have l0 : ∀ (d i : Nat), i + d = 60 → Ev (fun k => spec_l2Alone.l0 k sel key ((List.range i).map zAt) i) (!possB (withKey key sel)) := by
    intro d
    induction d with
    | zero =>
      intro i hd
      obtain rfl : i = 60 := by omega
      refine Ev.step (fun k => by rw [spec_l2Alone.l0]) (ev_if_neg (by omega) ?_)
      have := l1 sel.length 0 (by omega)
      simp only [List.take_zero, withKey, List.filter_nil, valsOf, List.flatMap_nil, List.append_nil] at this
      exact this
    | succ d ih =>
      intro i hd
      have ih := ih (i + 1) (by omega)
      rw [List.range_succ, List.map_append, List.map_singleton] at ih
      refine Ev.step (fun k => by rw [spec_l2Alone.l0]) (ev_if_pos (by omega) (ev_if_pos (by simp; omega) ?_))
      rw [zAt_str i (by omega), w64 (by omega) (by omega)]
      exact ih
  unfold spec_l2Alone.f
  exact l0 60 0 rfl
end
theorem selB_small {sel : List ITerm} (h : selB sel = true) : sel.length ≤ 8 ∧ ∀ t ∈ sel, termB t = true ∧ t.f2.length ≤ 6 := by
  simp only [selB, Bool.and_eq_true, decide_eq_true_eq] at h
  refine ⟨by omega, fun t ht => ?_⟩
  obtain ⟨i, hi, rfl⟩ := List.getElem_of_mem ht
  have h1 := allN_true.1 h.1 i hi
  rw [rdIT hi] at h1
  refine ⟨h1, ?_⟩
  simp only [termB, Bool.and_eq_true] at h1
  have := kindB_le h1.2.2
  omega
theorem specNever_ev (sel : List ITerm) (hw : wfITerms sel) : Ev (fun k => spec_Never.f k sel) (neverB sel) := by
  unfold spec_Never.f neverB
  cases hs : selB sel with
  | false =>
    rw [Bool.false_and]
    have hj : ∀ j : Int, Ev (fun k => spec_Never.j1 k sel j false) false := fun j => Ev.step (fun k => by rw [spec_Never.j1]) (ev_if_neg (by simp) (Ev.now _))
    refine Ev.step (fun k => by rw [spec_Never.l0]) (ev_if (fun _ => Ev.bind (specSelectorOk_ev sel hw) ?_) (fun _ => hj 0))
    rw [hs]; exact hj 0
  | true =>
    rw [Bool.true_and]
    obtain ⟨h8, ht⟩ := selB_small hs
    have key := loop_any (g := fun k i => spec_Never.l0 k sel i) sel.length (fun i => !possB (withKey (rd_T59 sel i).f1 sel)) ?_ ?_ ?_
    · refine ev_rw key ?_
      rw [Bool.eq_iff_iff, Bool.not_eq_true', ← Bool.not_eq_true, allN_true, List.any_eq_true]
      constructor
      · intro h
        refine Classical.byContradiction fun hn => h fun i hi => ?_
        rw [Bool.not_eq_true', ← Bool.not_eq_true]
        intro hh
        exact hn ⟨sel[i], List.getElem_mem hi, by rw [rdIT hi] at hh; exact hh⟩
      · rintro ⟨t, htm, hh⟩ hall
        obtain ⟨i, hi, rfl⟩ := List.getElem_of_mem htm
        have := hall i hi
        rw [rdIT hi, hh] at this
        cases this
    · intro i hi hok r hr
      refine Ev.step (fun k => by rw [spec_Never.l0]) (ev_if_pos (by omega) (Ev.bind (specSelectorOk_ev sel hw) ?_))
      rw [hs]
      refine Ev.step (fun k => by rw [spec_Never.j1]) (ev_if_pos rfl (ev_if_pos (by omega) (ev_if_pos (by omega) ?_)))
      refine Ev.bind (alone_ev sel _ h8 (fun t h => (ht t h).2)) ?_
      rw [wsucc hi (by omega)]
      exact ev_if_neg (by rw [hok]; simp) hr
    · intro i hi hok
      refine Ev.step (fun k => by rw [spec_Never.l0]) (ev_if_pos (by omega) (Ev.bind (specSelectorOk_ev sel hw) ?_))
      rw [hs]
      refine Ev.step (fun k => by rw [spec_Never.j1]) (ev_if_pos rfl (ev_if_pos (by omega) (ev_if_pos (by omega) ?_)))
      exact Ev.bind (alone_ev sel _ h8 (fun t h => (ht t h).2)) (ev_if_pos hok (Ev.now _))
    · refine Ev.step (fun k => by rw [spec_Never.l0]) (ev_if_neg (by omega) (Ev.step (fun k => by rw [spec_Never.j1]) (ev_if_neg (by simp) (Ev.now _))))
/-! ### the program's -/
theorem labGet_nil (key : ByteArray) : labGet [] key = (⟨#[]⟩, false) := rfl
theorem labGet_one (key v : ByteArray) : labGet [⟨key, v⟩] key = (v, true) := by
  have e : rd_T42 [(⟨key, v⟩ : ILab)] ((0 : Nat) : Int) = ⟨key, v⟩ := rfl
  have e0 : rd_T42 [(⟨key, v⟩ : ILab)] 0 = ⟨key, v⟩ := rfl
  simp [labGet, e, e0, List.range_succ]
theorem holdB_no (k : Int) (a b : Bool) : holdB k false a = holdB k false b := by unfold holdB; simp
theorem try_ev (ts : List ITerm) (ls : List ILab) (v : ByteArray) (has : Bool) (h6 : ∀ t ∈ ts, t.f2.length ≤ 6) (hl : ls.length ≤ 1)
    (hg : ∀ t ∈ ts, holdsB t ls = holdB t.f0 has (amongB t.f2 v)) : Ev (fun k => nvTry k ts ls) (okAt ts v has) := by
  unfold nvTry
  obtain ⟨r, hr, he⟩ := idxO_ev (p := fun k (x : ITerm) => (impl_holds.f k x.f0 x.f1 x.f2 ls).map (!·)) (q := fun x => !holdsB x ls) ts 0 (fun x hx =>
    ev_map (!·) (implHolds_ev x ls (by have := h6 x hx; omega) (by omega)))
  refine Ev.bind hr (ev_some ?_)
  rw [he]
  unfold okAt
  rw [Bool.eq_iff_iff, Bool.not_eq_true', List.any_eq_false, List.all_eq_true]
  constructor
  · intro h t ht; have := h t ht; rw [hg t ht] at this; simpa using this
  · intro h t ht; rw [hg t ht, h t ht]; simp
theorem withKey_nv (key : ByteArray) (sel : List ITerm) : nvTs key sel = withKey key sel := by
  unfold nvTs withKey
  refine List.filter_congr (fun t _ => ?_)
  rw [Bool.eq_iff_iff, beq_iff_eq, decide_eq_true_iff, bl_eq]
theorem nvOk_sel {sel : List ITerm} (h : selB sel = true) : nvOk sel = true := by
  obtain ⟨h8, ht⟩ := selB_small h
  simp only [nvOk, Bool.and_eq_true, decide_eq_true_eq, List.all_eq_true]
  refine ⟨h8, fun t htm => ⟨(ht t htm).2, fun s hs => ?_⟩⟩
  have h1 := (ht t htm).1
  simp only [termB, Bool.and_eq_true] at h1
  obtain ⟨i, hi, rfl⟩ := List.getElem_of_mem hs
  have h2 := namOk_name (allN_true.1 h1.1 i hi)
  rw [rdS hi] at h2
  simp only [nameB, Bool.and_eq_true] at h2
  have := inB_true h2.2.1; omega
theorem idxO_any {α : Type} {p : Nat → α → Option Bool} {q : α → Bool} (l : List α) (h : ∀ x ∈ l, Ev (fun k => p k x) (q x)) : ∃ r, Ev (fun k => idxO (p k) l 0) r ∧ decide (0 ≤ r) = l.any q := idxO_ev l 0 h
theorem all_ev (sel : List ITerm) (hs : selB sel = true) (x : ITerm) : Ev (fun k => nvAll k sel x) (!possB (withKey x.f1 sel)) := by
  obtain ⟨h8, ht⟩ := selB_small hs
  unfold nvAll
  rw [withKey_nv]
  have h6' : ∀ t ∈ withKey x.f1 sel, t.f2.length ≤ 6 := fun t h => (ht t (List.mem_filter.1 h).1).2
  have hkey : ∀ t ∈ withKey x.f1 sel, t.f1 = x.f1 := fun t h => by simpa using (List.mem_filter.1 h).2
  have hone : ∀ v, Ev (fun k => nvTry k (withKey x.f1 sel) [⟨x.f1, v⟩]) (okAt (withKey x.f1 sel) v true) := fun v =>
    try_ev _ _ v true h6' (by simp) (fun t h => by unfold holdsB; rw [hkey t h, labGet_one])
  have hnone : Ev (fun k => nvTry k (withKey x.f1 sel) []) (okAt (withKey x.f1 sel) ByteArray.empty false) :=
    try_ev _ _ _ false h6' (by simp) (fun t h => by unfold holdsB; rw [labGet_nil]; exact holdB_no _ _ _)
  obtain ⟨r, hr, he⟩ := idxO_any (p := fun k => nvTry k (withKey x.f1 sel)) (q := fun ls => match ls with | [] => okAt (withKey x.f1 sel) ByteArray.empty false | l :: _ => okAt (withKey x.f1 sel) l.f1 true) (nvTries (withKey x.f1 sel) x.f1) (fun ls hm => by
    unfold nvTries at hm
    simp only [List.cons_append, List.mem_cons, List.mem_append, List.mem_map, List.mem_singleton] at hm
    rcases hm with rfl | ⟨v, _, rfl⟩ | hm
    · exact hnone
    · exact hone v
    · rcases hm with rfl | hm
      · exact hone _
      · cases hm)
  refine ev_rw (ev_map (fun i => !decide (0 ≤ i)) hr) ?_
  rw [he, ← possB_impl]
  unfold nvTries
  rw [List.cons_append, List.any_cons, List.any_append, List.any_map, List.any_cons, List.any_nil, Bool.or_false]
  rfl
theorem implNever_ev (sel : List ITerm) (hw : wfITerms sel) : Ev (fun k => impl_Never.f k sel) (neverB sel) := by
  unfold impl_Never.f neverB
  refine Ev.bind (implSelectorOk_ev sel hw) ?_
  cases hs : selB sel with
  | false => rw [Bool.false_and]; exact ev_if_neg (by simp) (Ev.now _)
  | true =>
    rw [Bool.true_and]
    obtain ⟨r, hr, he⟩ := idxO_any (p := fun k => nvAll k sel) (q := fun t => !possB (withKey t.f1 sel)) sel (fun x hx => all_ev sel hs x)
    exact ev_if_pos rfl (ev_if_pos (nvOk_sel hs) (Ev.bind hr (ev_some he)))
end Go.Proofs.YtpjpnppoejnafaaDoor.G

/- G26 -/
-- Laid by wip/g/gprint.py out of the translation, by the kit's print program. Lean checks it.
namespace Go.Proofs.YtpjpnppoejnafaaDoor.G
open Go.RowKit Go.Proofs.YtpjpnppoejnafaaDoorW.PrintWords Go.Proofs.YtpjpnppoejnafaaDoorW.PrintLast Go.Proofs.YtpjpnppoejnafaaDoorW.PrintMore
attribute [local go_sem] max2_int min2_int max_two min_two max_three min_three max_four min_four   -- for this text's walks alone
set_option linter.unusedVariables false
set_option linter.unusedSimpArgs false

/-! ### spec_DrawNever: function 26 -/
def spec_DrawNever.l0 : Nat → List (S59) → Int → List Int → Int → Int → Option ((List (S59)))
 | 0, _, _, _, _, _ => none
 | k + 1, x4, x5, x642000, x642001, x642002 => if x5 > 0 then ((spec_l2DrawTerm.f k x642000 x642001 x642002).bind fun bt651 => ((spec_l1Str.f x642000 bt651.2.2.2.1 bt651.2.2.2.2 (([(⟨#[97]⟩ : ByteArray), (⟨#[98]⟩ : ByteArray)] : List ByteArray))).bind fun bt662 => (if x4.length < 2932031007402 then (spec_DrawNever.l0 k (x4 ++ [(⟨bt651.1, bt662.1, bt651.2.2.1⟩ : S59)]) (wrap64 (x5 - 1)) x642000 bt662.2.1 bt662.2.2) else (none)))) else (some x4)
def spec_DrawNever.f (k : Nat) (l0 : List Int) : Option ((List (S59))) := (spec_l1New.f k l0).bind fun bt638 => ((spec_l1Once.f bt638.1 bt638.2.1 bt638.2.2 2).bind fun bt642 => (if bt642.1 = true then ((spec_l1Below.f bt638.1 bt642.2.1 bt642.2.2 4).bind fun bt648 => (spec_DrawNever.l0 k (([] : List (S59))) (wrap64 (1 + bt648.1)) bt638.1 bt648.2.1 bt648.2.2)) else ((spec_l2DrawAny.f k bt638.1 bt642.2.1 bt642.2.2).bind fun bt668 => (some bt668.1))))
set_option maxHeartbeats 8000000 in
set_option maxRecDepth 100000 in
theorem spec_DrawNever.calls (k : Nat) (A0 : Option Addr) (c0 : Nat) (l0 : List Int) (r : List (S59)) (w : World) (hr0 : Kd.C (Kd.int .u8) w A0 l0.length l0) (hc0 : l0.length ≤ c0) (h : spec_DrawNever.f k l0 = some r) :
  Calls Tryd.prog 26 #[.slice A0 l0.length c0] w fun e w' => ∃ v0_ : Value, e = .returned (v0_) ∧ Kd.S k59 59 w' w.heap.size (fun _ => True) v0_ r ∧ Below w.heap.size w w' := by
 have hu59 := Tryd.underlying59
 have HR0 := Aside0.mk hr0
 have HC0 := Aside0.mk hc0
 clear hr0 hc0
 have HB := Aside0.mk (Below.refl w.heap.size w)
 unfold spec_DrawNever.f at h; have H := h
 clear h
 replace H := Option.bind_eq_some_iff.mp H
 obtain ⟨⟨t638, t639, t640⟩, A20, H⟩ := H
 try dsimp only at H
 have A2 := Aside0.mk A20
 clear A20
 replace H := Option.bind_eq_some_iff.mp H
 obtain ⟨⟨t642, t643, t644⟩, A30, H⟩ := H
 try dsimp only at H
 have A3 := Aside0.mk A30
 clear A30
 by_cases c4 : t642 = true
 ·subst c4
  have H1 : ((spec_l1Below.f t638 t643 t644 4).bind fun bt648 => (spec_DrawNever.l0 k (([] : List (S59))) (wrap64 (1 + bt648.1)) t638 bt648.2.1 bt648.2.2)) = some r := by rw [if_pos rfl] at H; exact H
  clear H
  have H := H1
  clear H1
  obtain ⟨y645, hy645⟩ : ∃ y_ : List (S59), y_ = (([] : List (S59))) := ⟨_, rfl⟩
  replace H : ((spec_l1Below.f t638 t643 t644 4).bind fun bt648 => (spec_DrawNever.l0 k y645 (wrap64 (1 + bt648.1)) t638 bt648.2.1 bt648.2.2)) = some r := by first | (rw [hy645]; with_reducible exact H) | (have H2_ := (Option.bind_some _ _).symm.trans H; rw [hy645]; with_reducible exact H2_) | (have H2_ := (Option.bind_some _ _).symm.trans H; with_reducible exact H2_) | with_reducible exact H | (rw [hy645]; exact H) | exact H
  have Ny645 := Aside0.mk hy645
  clear hy645
  replace H := Option.bind_eq_some_iff.mp H
  obtain ⟨⟨t648, t649, t650⟩, A50, H⟩ := H
  try dsimp only at H
  have A5 := Aside0.mk A50
  clear A50
  have H' := Aside0.mk H
  clear H
  go_enter Tryd.func26, Tryd.ntmps26
  go_wp2_with (first | ((with_reducible refine gate_callee (f := 46) rfl ?_); refine goesL_ (some 8) rfl rfl Tryd.func46 (by kernel_rfl) rfl #[.slice A0 l0.length c0] rfl (by (try simp only [List.map_toArray, List.map_cons, List.map_nil]); first | done | rfl | (simp only [List.length_drop, List.length_take]; rfl)) ?_; (with_reducible refine (spec_l1New.calls k _ _ l0 t638 t639 t640 w _ ?side1 ?side2 ?side3 A2.out).mono ?_); (case side1 => repeat (first | (with_reducible first | exact HB.out | apply below_alloc | apply pw_below_drewN | apply below_drew1) | exact HB.out)); (case side2 => exact HR0.out); (case side3 => exact HC0.out); rintro e w6 ⟨g641, rfl, hi, hb, hb2⟩; refine ⟨_, rfl, ?_⟩; have n0_ := Aside0.mk (hb); have n1_ := Aside0.mk (hi); clear HB; have HB := n0_; have HI641 := n1_; clear n0_ n1_; (try clear hb); (try clear hb2); (try clear hk); (try clear hi)) | ((with_reducible refine gate_callee (f := 61) rfl ?_); refine goesL_ (some 10) rfl rfl Tryd.func61 (by kernel_rfl) rfl #[.pointer (some ⟨g641, 0, none⟩), .int .i64 2] rfl (by (try simp only [List.map_toArray, List.map_cons, List.map_nil]); first | done | rfl | (simp only [List.length_drop, List.length_take]; rfl)) ?_; (with_reducible refine (spec_l1Once.calls g641 t638 t639 t640 2 true t643 t644 w _ ?side1 ?side2 A3.out).mono ?_); (case side1 => repeat (first | (with_reducible first | exact HI641.out | apply IsS93.alloc | apply IsS93.drewN | apply IsS93.drew | apply IsS93.set_1 | apply IsS93.set_2) | exact HI641.out)); (case side2 => repeat (first | (with_reducible first | exact HB.out | apply below_alloc | apply pw_below_drewN | apply below_drew1 | refine below_set ?_ (IsS93.ge HI641.out)) | exact HB.out)); rintro e w7 ⟨rfl, hi, hb, hk⟩; refine ⟨_, rfl, ?_⟩; have n0_ := Aside0.mk (hb); have n1_ := Aside0.mk (hi); clear HB; clear HI641; have HB := n0_; have HI641 := n1_; clear n0_ n1_; (try clear hb); (try clear hb2); (try clear hk); (try clear hi)) | ((with_reducible refine gate_dst (N := 11) rfl ?_); refine Kd.S_lit k59 _ 59 ?hg (N := 11) ?hd (xs := ([] : List (S59))) (inner := []) (ok := fun _ => True) (okp := fun _ => True) ?hr ?hp (fun _ hk => hk) trivial (Below.refl _ _) (Nat.le_refl _) (by simp) ?_; (case hd => rfl); (case hg => rfl); (case hr => go_simp); (case hp => exact (Reps.none _ _)); intro v646 w8 ho9 hb hg_ hnew_; clear hg_ hnew_; (first | rw [← Ny645.out] at ho9 | (simp only [Int.reduceToNat] at ho9; rw [← Ny645.out] at ho9)); have n0_ := Aside0.mk (Kd.S_lower ho9 (below_size (by repeat (first | (with_reducible first | exact HB.out | apply below_alloc | apply pw_below_drewN | apply below_drew1 | refine below_set ?_ (IsS93.ge HI641.out)) | exact HB.out)))); have n1_ := Aside0.mk (IsS93.below (by repeat (first | (with_reducible first | exact HI641.out | apply IsS93.alloc | apply IsS93.drewN | apply IsS93.drew | apply IsS93.set_1 | apply IsS93.set_2) | exact HI641.out)) hb); have n2_ := Aside0.mk (below_step (by repeat (first | (with_reducible first | exact HB.out | apply below_alloc | apply pw_below_drewN | apply below_drew1 | refine below_set ?_ (IsS93.ge HI641.out)) | exact HB.out)) hb); clear HI641; clear HB; have HO647 := n0_; have HI641 := n1_; have HB := n2_; clear n0_ n1_ n2_; clear hb ho9) | ((with_reducible refine gate_callee (f := 62) rfl ?_); refine goesL_ (some 13) rfl rfl Tryd.func62 (by kernel_rfl) rfl #[.pointer (some ⟨g641, 0, none⟩), .int .i64 4] rfl (by (try simp only [List.map_toArray, List.map_cons, List.map_nil]); first | done | rfl | (simp only [List.length_drop, List.length_take]; rfl)) ?_; (with_reducible refine (spec_l1Below.calls g641 t638 t643 t644 4 t648 t649 t650 w _ ?side1 ?side2 A5.out).mono ?_); (case side1 => repeat (first | (with_reducible first | exact HI641.out | apply IsS93.alloc | apply IsS93.drewN | apply IsS93.drew | apply IsS93.set_1 | apply IsS93.set_2) | exact HI641.out)); (case side2 => repeat (first | (with_reducible first | exact HB.out | apply below_alloc | apply pw_below_drewN | apply below_drew1 | refine below_set ?_ (IsS93.ge HI641.out)) | exact HB.out)); rintro e w10 ⟨rfl, hi, hb, hk⟩; refine ⟨_, rfl, ?_⟩; have n0_ := Aside0.mk (Kd.S_mono (Kd.S_keep (IsS93.apartS (show IsS93 w _ g641 t638 t643 t644 from by repeat (first | (with_reducible first | exact HI641.out | apply IsS93.alloc | apply IsS93.drewN | apply IsS93.drew | apply IsS93.set_1 | apply IsS93.set_2) | exact HI641.out)) (by (with_reducible repeat (first | apply Kd.S_alloc | apply Kd.S_drewN | apply Kd.S_drew)); exact HO647.out) (by decide)) hk (fun _ h => h.2)) (fun _ h => h.1)); have n1_ := Aside0.mk (hb); have n2_ := Aside0.mk (hi); clear HO647; clear HB; clear HI641; have HO647 := n0_; have HB := n1_; have HI641 := n2_; clear n0_ n1_ n2_; (try clear hb); (try clear hb2); (try clear hk); (try clear hi)))
  go_loopg [4, 5] k (fun kq v4 v5 w' => ∃ (x4_1 : List (S59)) (x5_1 : Int) (x642001_1 : Int) (x642002_1 : Int), v5 = .int .i64 x5_1 ∧ Aside0 (spec_DrawNever.l0 kq x4_1 x5_1 t638 x642001_1 x642002_1 = some r) ∧ Aside0 (kq ≤ k) ∧ Aside0 (Kd.S k59 59 w' w.heap.size (fun _ => True) v4 x4_1) ∧ Aside0 (IsS93 w w' g641 t638 x642001_1 x642002_1) ∧ Aside0 (Below w.heap.size w w'))
  case atStart => exact ⟨(y645), (wrap64 (1 + t648)), (t649), (t650), (by first | rfl | (simp; done) | (simp [*]; done)), H', ⟨Nat.le_refl _⟩, ⟨by (with_reducible repeat (first | apply Kd.S_alloc | apply Kd.S_drewN | apply Kd.S_drew)); exact HO647.out⟩, ⟨by repeat (first | (with_reducible first | exact HI641.out | apply IsS93.alloc | apply IsS93.drewN | apply IsS93.drew | apply IsS93.set_1 | apply IsS93.set_2) | exact HI641.out)⟩, ⟨by repeat (first | (with_reducible first | exact HB.out | apply below_alloc | apply pw_below_drewN | apply below_drew1 | refine below_set ?_ (IsS93.ge HI641.out)) | exact HB.out)⟩⟩
  case round =>
   clear H'
   try clear c2
   try clear p2
   try clear c4
   try clear c6
   try clear p6
   obtain ⟨x4_1, x5_1, x642001_1, x642002_1, rfl, HA, HK1, HO_4, HI641, HB⟩ := hrel
   cases gk with
   | zero => exact absurd HA.out (by simp [spec_DrawNever.l0])
   | succ k1 =>
    have H := HA.out
    clear HA
    simp only [spec_DrawNever.l0] at H
    by_cases c11 : x5_1 > 0
    ·rw [if_pos c11] at H
     have c11b0 : decide (0 < x5_1) = true := decide_eq_true c11
     clear c11
     replace H := Option.bind_eq_some_iff.mp H
     obtain ⟨⟨t651, t652, t653, t656, t657⟩, A120, H⟩ := H
     try dsimp only at H
     have A12 := Aside0.mk A120
     clear A120
     obtain ⟨y659, hy659⟩ : ∃ y_ : List ByteArray, y_ = (([(⟨#[97]⟩ : ByteArray), (⟨#[98]⟩ : ByteArray)] : List ByteArray)) := ⟨_, rfl⟩
     replace H : ((spec_l1Str.f t638 t656 t657 y659).bind fun bt662 => (if x4_1.length < 2932031007402 then (spec_DrawNever.l0 k1 (x4_1 ++ [(⟨t651, bt662.1, t653⟩ : S59)]) (wrap64 (x5_1 - 1)) t638 bt662.2.1 bt662.2.2) else (none))) = some r := by first | (rw [hy659]; with_reducible exact H) | (have H2_ := (Option.bind_some _ _).symm.trans H; rw [hy659]; with_reducible exact H2_) | (have H2_ := (Option.bind_some _ _).symm.trans H; with_reducible exact H2_) | with_reducible exact H | (rw [hy659]; exact H) | exact H
     have Ny659 := Aside0.mk hy659
     clear hy659
     replace H := Option.bind_eq_some_iff.mp H
     obtain ⟨⟨t662, t663, t664⟩, A130, H⟩ := H
     try dsimp only at H
     have A13 := Aside0.mk A130
     clear A130
     by_cases c14 : x4_1.length < 2932031007402
     ·rw [if_pos c14] at H
      have LMc14 := Aside0.mk c14
      clear c14
      obtain ⟨y665, hy665⟩ : ∃ y_ : List (S59), y_ = (x4_1 ++ [(⟨t651, t662, t653⟩ : S59)]) := ⟨_, rfl⟩
      replace H : (spec_DrawNever.l0 k1 y665 (wrap64 (x5_1 - 1)) t638 t663 t664) = some r := by first | (rw [hy665]; with_reducible exact H) | (have H2_ := (Option.bind_some _ _).symm.trans H; rw [hy665]; with_reducible exact H2_) | (have H2_ := (Option.bind_some _ _).symm.trans H; with_reducible exact H2_) | with_reducible exact H | (rw [hy665]; exact H) | exact H
      have Ny665 := Aside0.mk hy665
      clear hy665
      have H' := Aside0.mk H
      clear H
      go_wp2_with (first | ((with_reducible refine gate_callee (f := 63) rfl ?_); refine goesL_ (some 20) rfl rfl Tryd.func63 (by kernel_rfl) rfl #[.pointer (some ⟨g641, 0, none⟩)] rfl (by (try simp only [List.map_toArray, List.map_cons, List.map_nil]); first | done | rfl | (simp only [List.length_drop, List.length_take]; rfl)) ?_; (with_reducible refine (spec_l2DrawTerm.calls k1 g641 t638 x642001_1 x642002_1 t651 t652 t653 t656 t657 w _ ?side1 ?side2 A12.out).mono ?_); (case side1 => repeat (first | (with_reducible first | exact HI641.out | apply IsS93.alloc | apply IsS93.drewN | apply IsS93.drew | apply IsS93.set_1 | apply IsS93.set_2) | exact HI641.out)); (case side2 => repeat (first | (with_reducible first | exact HB.out | apply below_alloc | apply pw_below_drewN | apply below_drew1 | refine below_set ?_ (IsS93.ge HI641.out)) | exact HB.out)); rintro e w15 ⟨v654, rfl, ho0, hi, hb, hk⟩; refine ⟨_, rfl, ?_⟩; have n0_ := Aside0.mk (Kd.S_mono (Kd.S_told (Kd.S_oldK (IsS93.apartS (show IsS93 w _ g641 t638 x642001_1 x642002_1 from by repeat (first | (with_reducible first | exact HI641.out | apply IsS93.alloc | apply IsS93.drewN | apply IsS93.drew | apply IsS93.set_1 | apply IsS93.set_2) | exact HI641.out)) (by (with_reducible repeat (first | apply Kd.S_alloc | apply Kd.S_drewN | apply Kd.S_drew)); exact HO_4.out) (by decide)) hk) (Kd.R_base ho0)) (fun _ h_ => h_.1)); have n1_ := Aside0.mk (Kd.R_lower ho0 (below_size (by repeat (first | (with_reducible first | exact HB.out | apply below_alloc | apply pw_below_drewN | apply below_drew1 | refine below_set ?_ (IsS93.ge HI641.out)) | exact HB.out)))); have n2_ := Aside0.mk (hb); have n3_ := Aside0.mk (hi); clear HO_4; clear HB; clear HI641; have HO_4 := n0_; have HO655 := n1_; have HB := n2_; have HI641 := n3_; clear n0_ n1_ n2_ n3_; (try clear hb); (try clear hb2); (try clear hk); (try clear hi); (try clear ho0)) | ((with_reducible refine gate_dst (N := 6) rfl ?_); refine box_event ?hg (N := 6) ?hd (cs := #[.int .i64 0, .string (⟨#[]⟩ : ByteArray), .slice none 0 0]) (t := 59) ?hr ?_; (case hd => rfl); (case hg => rfl); (case hr => go_simp); intro gb658 hg w16 hbox hb; have n0_ := Aside0.mk (Kd.S_below (Kd.S_elderB (by (with_reducible repeat (first | apply Kd.S_alloc | apply Kd.S_drewN | apply Kd.S_drew)); exact HO_4.out) gb658 (Nat.le_of_eq hg.symm)) hb); have n1_ := Aside0.mk (Kd.R_below (by (with_reducible repeat (first | apply Kd.R_alloc | apply Kd.R_drewN | apply Kd.R_drew)); exact HO655.out) hb); have n2_ := Aside0.mk (IsS93.below (by repeat (first | (with_reducible first | exact HI641.out | apply IsS93.alloc | apply IsS93.drewN | apply IsS93.drew | apply IsS93.set_1 | apply IsS93.set_2) | exact HI641.out)) hb); have n3_ := Aside0.mk (below_step (by repeat (first | (with_reducible first | exact HB.out | apply below_alloc | apply pw_below_drewN | apply below_drew1 | refine below_set ?_ (IsS93.ge HI641.out)) | exact HB.out)) hb); have n4_ := Aside0.mk (hbox); have n5_ := Aside0.mk ((by rw [hg]; exact (below_size (by repeat (first | (with_reducible first | exact HB.out | apply below_alloc | apply pw_below_drewN | apply below_drew1 | refine below_set ?_ (IsS93.ge HI641.out)) | exact HB.out))) : w.heap.size ≤ gb658)); have n6_ := Aside0.mk ((by rw [hg]; exact (below_size (by repeat (first | (with_reducible first | exact HB.out | apply below_alloc | apply pw_below_drewN | apply below_drew1 | refine below_set ?_ (IsS93.ge HI641.out)) | exact HB.out))) : w.heap.size ≤ gb658)); have n7_ := Aside0.mk ((by rw [hg]; exact Nat.ne_of_lt (IsS93.lt (show IsS93 w _ g641 t638 t656 t657 from by repeat (first | (with_reducible first | exact HI641.out | apply IsS93.alloc | apply IsS93.drewN | apply IsS93.drew | apply IsS93.set_1 | apply IsS93.set_2) | exact HI641.out))) : g641 ≠ gb658)); have n8_ := Aside0.mk ((by rw [hg]; exact Nat.ne_of_gt (IsS93.lt (show IsS93 w _ g641 t638 t656 t657 from by repeat (first | (with_reducible first | exact HI641.out | apply IsS93.alloc | apply IsS93.drewN | apply IsS93.drew | apply IsS93.set_1 | apply IsS93.set_2) | exact HI641.out))) : gb658 ≠ g641)); clear HO_4; clear HO655; clear HI641; clear HB; have HO_4 := n0_; have HO655 := n1_; have HI641 := n2_; have HB := n3_; have BK658 := n4_; have GW658 := n5_; have GE658 := n6_; have NB641_658 := n7_; have NB658_641 := n8_; clear n0_ n1_ n2_ n3_ n4_ n5_ n6_ n7_ n8_; clear hb hbox hg; have hnb17 := NB658_641.out; have hnc17 := NB641_658.out; obtain ⟨hcz18_0, hcz18_1, hcz18_2, hfz18_0, hfz18_1, hfz18_2⟩ := blk3 BK658; obtain ⟨Ao19, co19, eo19⟩ := Kd.R_slice HO655.out; subst eo19) | ((with_reducible refine gate_dst (N := 22) rfl ?_); refine Kd.R_lit Kd.string _ 9 ?hg (N := 22) ?hd (xs := ([(⟨#[97]⟩ : ByteArray), (⟨#[98]⟩ : ByteArray)] : List ByteArray)) (inner := [.string (⟨#[97]⟩ : ByteArray), .string (⟨#[98]⟩ : ByteArray)]) (ok := fun _ => True) (okp := fun _ => True) ?hr ?hp (fun _ hk => hk) trivial (Below.refl _ _) (Nat.le_refl _) (by simp) ?_; (case hd => rfl); (case hg => rfl); (case hr => go_simp); (case hp => exact (Reps.one (show Kd.M Kd.string _ _ _ (⟨#[97]⟩ : ByteArray) [.string (⟨#[97]⟩ : ByteArray)] from rfl) (Reps.one (show Kd.M Kd.string _ _ _ (⟨#[98]⟩ : ByteArray) [.string (⟨#[98]⟩ : ByteArray)] from rfl) (Reps.none _ _)))); intro v660 w20 ho21 hb hg_ hnew_; clear hg_ hnew_; (first | rw [← Ny659.out] at ho21 | (simp only [Int.reduceToNat] at ho21; rw [← Ny659.out] at ho21)); have n0_ := Aside0.mk (Kd.S_elder' (by (with_reducible repeat (first | apply Kd.S_alloc | apply Kd.S_drewN | apply Kd.S_drew)); exact (Kd.S_mono (Kd.S_far (p := ⟨gb658, 2, none⟩) (Kd.S_far (p := ⟨gb658, 1, none⟩) (Kd.S_far (p := ⟨gb658, 0, none⟩) (Kd.S_mono HO_4.out (fun k_ hk => (⟨hk, hk.2⟩ : _ ∧ k_ ≠ gb658))) (fun _ hk => hk.2) (.int .i64 t651)) (fun _ hk => hk.2) (.string t652)) (fun _ hk => hk.2) (.slice Ao19 t653.length co19)) (fun _ h_ => h_.1))) (Kd.R_base ho21) hb); have n1_ := Aside0.mk (Kd.R_elder' (by (with_reducible repeat (first | apply Kd.R_alloc | apply Kd.R_drewN | apply Kd.R_drew)); exact (Kd.R_mono (Kd.R_far (p := ⟨gb658, 2, none⟩) (Kd.R_far (p := ⟨gb658, 1, none⟩) (Kd.R_far (p := ⟨gb658, 0, none⟩) (Kd.R_types HO655.out BK658.out (by decide)) (fun _ hk => hk.2) (.int .i64 t651)) (fun _ hk => hk.2) (.string t652)) (fun _ hk => hk.2) (.slice Ao19 t653.length co19)) (fun _ h_ => h_.1))) (Kd.R_base ho21) hb); have n2_ := Aside0.mk (Kd.R_lower (Kd.R_new' ho21 (Kd.R_lt (by (with_reducible repeat (first | apply Kd.R_alloc | apply Kd.R_drewN | apply Kd.R_drew)); exact (Kd.R_mono (Kd.R_far (p := ⟨gb658, 2, none⟩) (Kd.R_far (p := ⟨gb658, 1, none⟩) (Kd.R_far (p := ⟨gb658, 0, none⟩) (Kd.R_types HO655.out BK658.out (by decide)) (fun _ hk => hk.2) (.int .i64 t651)) (fun _ hk => hk.2) (.string t652)) (fun _ hk => hk.2) (.slice Ao19 t653.length co19)) (fun _ h_ => h_.1))))) (below_size (by repeat (first | (with_reducible first | exact HB.out | apply below_alloc | apply pw_below_drewN | apply below_drew1 | refine below_set ?_ (IsS93.ge HI641.out) | refine below_set ?_ GE658.out) | exact HB.out)))); have n3_ := Aside0.mk (IsS93.below (show IsS93 w (((w16.setCell ⟨gb658, 0, none⟩ (.int .i64 t651)).setCell ⟨gb658, 1, none⟩ (.string t652)).setCell ⟨gb658, 2, none⟩ (.slice Ao19 t653.length co19)) g641 t638 t656 t657 from by repeat (first | (with_reducible first | exact HI641.out | apply IsS93.alloc | apply IsS93.drewN | apply IsS93.drew | apply IsS93.set_1 | apply IsS93.set_2 | refine IsS93.far ?_ NB641_658.out _) | exact HI641.out)) hb); have n4_ := Aside0.mk (blk_below (g := gb658) (o := .cells #[.int .i64 t651, .string t652, .slice Ao19 t653.length co19] 59 (0, 0)) (by (with_reducible repeat (first | refine blk_drewN ?_ _ | refine blk_drew ?_ | refine blk_alloc ?_ _)); refine blk_put (cs := #[.int .i64 t651, .string t652, .slice none 0 0]) ?_ 2 _ rfl; (with_reducible repeat (first | refine blk_drewN ?_ _ | refine blk_drew ?_ | refine blk_alloc ?_ _)); refine blk_put (cs := #[.int .i64 t651, .string (⟨#[]⟩ : ByteArray), .slice none 0 0]) ?_ 1 _ rfl; (with_reducible repeat (first | refine blk_drewN ?_ _ | refine blk_drew ?_ | refine blk_alloc ?_ _)); refine blk_put (cs := #[.int .i64 0, .string (⟨#[]⟩ : ByteArray), .slice none 0 0]) ?_ 0 _ rfl; (with_reducible repeat (first | refine blk_drewN ?_ _ | refine blk_drew ?_ | refine blk_alloc ?_ _)); exact BK658.out) hb); have n5_ := Aside0.mk (below_step (by repeat (first | (with_reducible first | exact HB.out | apply below_alloc | apply pw_below_drewN | apply below_drew1 | refine below_set ?_ (IsS93.ge HI641.out) | refine below_set ?_ GE658.out) | exact HB.out)) hb); clear HO_4; clear HO655; clear HI641; clear BK658; clear HB; have HO_4 := n0_; have HO655 := n1_; have HO661 := n2_; have HI641 := n3_; have BK658 := n4_; have HB := n5_; clear n0_ n1_ n2_ n3_ n4_ n5_; clear hb ho21; obtain ⟨Ao22, co22, eo22⟩ := Kd.R_slice HO661.out; subst eo22) | ((with_reducible refine gate_callee (f := 64) rfl ?_); refine goesL_ (some 23) rfl rfl Tryd.func64 (by kernel_rfl) rfl #[.pointer (some ⟨g641, 0, none⟩), .slice Ao22 y659.length co22] rfl (by (try simp only [List.map_toArray, List.map_cons, List.map_nil]); first | done | rfl | (simp only [List.length_drop, List.length_take]; rfl)) ?_; (with_reducible refine (spec_l1Str.calls g641 t638 t656 t657 _ _ y659 t662 t663 t664 w _ ?side1 ?side2 ?side3 ?side4 ?side5 A13.out).mono ?_); (case side1 => repeat (first | (with_reducible first | exact HI641.out | apply IsS93.alloc | apply IsS93.drewN | apply IsS93.drew | apply IsS93.set_1 | apply IsS93.set_2 | refine IsS93.far ?_ NB641_658.out _) | exact HI641.out)); (case side2 => repeat (first | (with_reducible first | exact HB.out | apply below_alloc | apply pw_below_drewN | apply below_drew1 | refine below_set ?_ (IsS93.ge HI641.out) | refine below_set ?_ GE658.out) | exact HB.out)); (case side3 => repeat (first | exact (Kd.R_reads' HO661.out).2.2 | (with_reducible refine Kd.C_alloc ?_ _) | (with_reducible refine Kd.C_drewN ?_ _) | (with_reducible refine Kd.C_drew ?_))); (case side4 => exact (Kd.R_reads' HO661.out).2.1); (case side5 => exact far_slice (IsS93.own_ne HI641.out HO661.out (by decide))); rintro e w23 ⟨rfl, hi, hb, hk⟩; refine ⟨_, rfl, ?_⟩; have n0_ := Aside0.mk (Kd.S_mono (Kd.S_keep (IsS93.apartS (show IsS93 w _ g641 t638 t656 t657 from by repeat (first | (with_reducible first | exact HI641.out | apply IsS93.alloc | apply IsS93.drewN | apply IsS93.drew | apply IsS93.set_1 | apply IsS93.set_2 | refine IsS93.far ?_ NB641_658.out _) | exact HI641.out)) (by (with_reducible repeat (first | apply Kd.S_alloc | apply Kd.S_drewN | apply Kd.S_drew)); exact HO_4.out) (by decide)) hk (fun _ h => h.2)) (fun _ h => h.1)); have n1_ := Aside0.mk (Kd.R_mono (Kd.R_keep (IsS93.apart (show IsS93 w _ g641 t638 t656 t657 from by repeat (first | (with_reducible first | exact HI641.out | apply IsS93.alloc | apply IsS93.drewN | apply IsS93.drew | apply IsS93.set_1 | apply IsS93.set_2 | refine IsS93.far ?_ NB641_658.out _) | exact HI641.out)) (by (with_reducible repeat (first | apply Kd.R_alloc | apply Kd.R_drewN | apply Kd.R_drew)); exact HO655.out) (by decide)) hk (fun _ h => h.2)) (fun _ h => h.1)); have n2_ := Aside0.mk (KeepBut.blk hk (g' := gb658) (o := .cells #[.int .i64 t651, .string t652, .slice Ao19 t653.length co19] 59 (0, 0)) (qK BK658) NB658_641.out (by simp)); have n3_ := Aside0.mk (Kd.R_mono (Kd.R_keep (IsS93.apart (show IsS93 w _ g641 t638 t656 t657 from by repeat (first | (with_reducible first | exact HI641.out | apply IsS93.alloc | apply IsS93.drewN | apply IsS93.drew | apply IsS93.set_1 | apply IsS93.set_2 | refine IsS93.far ?_ NB641_658.out _) | exact HI641.out)) (by (with_reducible repeat (first | apply Kd.R_alloc | apply Kd.R_drewN | apply Kd.R_drew)); exact HO661.out) (by decide)) hk (fun _ h => h.2)) (fun _ h => h.1)); have n4_ := Aside0.mk (hb); have n5_ := Aside0.mk (hi); clear HO_4; clear HO655; clear BK658; clear HO661; clear HB; clear HI641; have HO_4 := n0_; have HO655 := n1_; have BK658 := n2_; have HO661 := n3_; have HB := n4_; have HI641 := n5_; clear n0_ n1_ n2_ n3_ n4_ n5_; (try clear hb); (try clear hb2); (try clear hk); (try clear hi); obtain ⟨hcz24_0, hcz24_1, hcz24_2, hfz24_0, hfz24_1, hfz24_2⟩ := blk3 BK658) | ((with_reducible refine gate_store (t := 9) (p := 24) rfl ?_); refine store_event (t := 9) (p := 24) (v := ?vo_w25) (w1 := (w23.setCell ⟨gb658, 1, none⟩ (.string t662))) ?hg ?ho ?hn ?hr ?_; (case ho => rfl); (case hg => rfl); (case hn => rfl); (case hr => first | (go_simp; done) | (go_simp; rfl)); intro w25 hw; have n0_ : Aside0 (Kd.S k59 59 w25 w.heap.size (fun k_ => some k_ ≠ (.slice Ao19 t653.length co19 : Value).ownBlock ∧ some k_ ≠ (.slice Ao22 y659.length co22 : Value).ownBlock ∧ k_ ≠ gb658) u4 x4_1) := ⟨(by rw [hw]; exact (by (with_reducible repeat (first | apply Kd.S_alloc | apply Kd.S_drewN | apply Kd.S_drew)); exact Kd.S_mono (Kd.S_far (p := ⟨gb658, 1, none⟩) (Kd.S_mono HO_4.out (fun k_ hk => (⟨hk, hk.1.2⟩ : _ ∧ k_ ≠ gb658))) (fun _ hk => hk.2) (.string t662)) (fun _ hk => ⟨hk.1.1.1.2, ⟨hk.1.2, hk.1.1.2⟩⟩)))⟩; have n1_ : Aside0 (Kd.R Kd.string 9 w25 w.heap.size (fun k_ => some k_ ≠ (.slice Ao22 y659.length co22 : Value).ownBlock) (.slice Ao19 t653.length co19) t653) := ⟨(by rw [hw]; exact (by (with_reducible repeat (first | apply Kd.R_alloc | apply Kd.R_drewN | apply Kd.R_drew)); exact Kd.R_mono (Kd.R_far (p := ⟨gb658, 1, none⟩) (Kd.R_types HO655.out BK658.out (by decide)) (fun _ hk => hk.2) (.string t662)) (fun _ hk => hk.1.2)))⟩; have n2_ : Aside0 (Kd.R Kd.string 9 w25 w.heap.size (fun k_ => some k_ ≠ (.slice Ao19 t653.length co19 : Value).ownBlock) (.slice Ao22 y659.length co22) y659) := ⟨(by rw [hw]; exact (by (with_reducible repeat (first | apply Kd.R_alloc | apply Kd.R_drewN | apply Kd.R_drew)); exact Kd.R_mono (Kd.R_far (p := ⟨gb658, 1, none⟩) (Kd.R_types HO661.out BK658.out (by decide)) (fun _ hk => hk.2) (.string t662)) (fun _ hk => hk.1.2)))⟩; have n3_ : Aside0 (w25.heap[gb658]? = some (.cells #[.int .i64 t651, .string t662, .slice Ao19 t653.length co19] 59 (0, 0))) := ⟨(by rw [hw]; exact (by (with_reducible repeat (first | refine blk_drewN ?_ _ | refine blk_drew ?_ | refine blk_alloc ?_ _)); refine blk_put (cs := #[.int .i64 t651, .string t652, .slice Ao19 t653.length co19]) ?_ 1 _ rfl; (with_reducible repeat (first | refine blk_drewN ?_ _ | refine blk_drew ?_ | refine blk_alloc ?_ _)); exact BK658.out))⟩; have n4_ : Aside0 (IsS93 w w25 g641 t638 t663 t664) := ⟨(by rw [hw]; exact (by repeat (first | (with_reducible first | exact HI641.out | apply IsS93.alloc | apply IsS93.drewN | apply IsS93.drew | apply IsS93.set_1 | apply IsS93.set_2 | refine IsS93.far ?_ NB641_658.out _) | exact HI641.out)))⟩; have n5_ : Aside0 (Below w.heap.size w w25) := ⟨(by rw [hw]; exact (by repeat (first | (with_reducible first | exact HB.out | apply below_alloc | apply pw_below_drewN | apply below_drew1 | refine below_set ?_ (IsS93.ge HI641.out) | refine below_set ?_ GE658.out) | exact HB.out)))⟩; clear hw; clear HO_4; clear HO655; clear HO661; clear BK658; clear HI641; clear HB; have HO_4 := n0_; have HO655 := n1_; have HO661 := n2_; have BK658 := n3_; have HI641 := n4_; have HB := n5_; clear n0_ n1_ n2_ n3_ n4_ n5_; obtain ⟨hcz26_0, hcz26_1, hcz26_2, hfz26_0, hfz26_1, hfz26_2⟩ := blk3 BK658) | ((with_reducible refine gate_builtin (b := .append) (xs := #[.tmp 25, .tmp 27]) rfl ?_); at_builtin; refine Kd.S_append k59 (w0 := w) w.heap.size rfl (.tmp 25) (.tmp 27) 28 59 (.agg #[(.int .i64 0), (.string ⟨#[]⟩), (.slice none 0 0)]) 48 rfl Tryd.underlying28 info59 rfl (by decide) (by omega) u4 x4_1 (⟨t651, t662, t653⟩ : S59) [.int .i64 t651, .string t662, .slice Ao19 t653.length co19] (fun k_ => some k_ ≠ (.slice Ao22 y659.length co22 : Value).ownBlock ∧ k_ ≠ gb658) (fun k_ => some k_ = (.slice Ao19 t653.length co19 : Value).ownBlock) rfl rfl ?aP (fun k_ hk_ => ((Kd.R_mono (ok' := fun k_ => ((fun k_ => some k_ ≠ (.slice Ao22 y659.length co22 : Value).ownBlock ∧ k_ ≠ gb658)) k_ ∧ some k_ ≠ (u4 : Value).ownBlock) (Kd.R_types (Kd.R_apart' (HO655.out) (Kd.S_typed HO_4.out) (by decide)) BK658.out (by decide)) (fun k_ hk => ⟨⟨hk.1.1, hk.2⟩, hk.1.2⟩))).1 k_ hk_.symm) ?aF ?aO ?aB ?aS ?aL ?_; (case aP => exact k59_mkM _ _ _ (⟨t651, t662, t653⟩ : S59) (Kd.R_mono (Kd.R_tight rfl (Kd.R_mono (ok' := fun k_ => ((fun k_ => some k_ ≠ (.slice Ao22 y659.length co22 : Value).ownBlock ∧ k_ ≠ gb658)) k_ ∧ some k_ ≠ (u4 : Value).ownBlock) (Kd.R_types (Kd.R_apart' (HO655.out) (Kd.S_typed HO_4.out) (by decide)) BK658.out (by decide)) (fun k_ hk => ⟨⟨hk.1.1, hk.2⟩, hk.1.2⟩))) (fun _ h_ => h_))); (case aB => exact (by repeat (first | (with_reducible first | exact HB.out | apply below_alloc | apply pw_below_drewN | apply below_drew1 | refine below_set ?_ (IsS93.ge HI641.out) | refine below_set ?_ GE658.out) | exact HB.out))); (case aF => exact (fun k_ hk => ⟨Kd.fresh' (Kd.R_lt (by (with_reducible repeat (first | apply Kd.R_alloc | apply Kd.R_drewN | apply Kd.R_drew)); exact HO661.out)) k_ hk, Kd.freshB (g := gb658) (o := .cells #[.int .i64 t651, .string t662, .slice Ao19 t653.length co19] 59 (0, 0)) (qK BK658) k_ hk⟩)); (case aO => exact (by (with_reducible repeat (first | apply Kd.S_alloc | apply Kd.S_drewN | apply Kd.S_drew)); exact Kd.S_mono HO_4.out (fun k_ hk => ⟨⟨hk.2.1, hk.2.2⟩, fun e_ => hk.1 e_⟩))); (case aS => exact (below_size (by repeat (first | (with_reducible first | exact HB.out | apply below_alloc | apply pw_below_drewN | apply below_drew1 | refine below_set ?_ (IsS93.ge HI641.out) | refine below_set ?_ GE658.out) | exact HB.out)))); (case aL => have := LMc14.out; omega); intro v666 w27 ho hb hg hat; rw [← Ny665.out] at ho; have n0_ := Aside0.mk (IsS93.grown (by repeat (first | (with_reducible first | exact HI641.out | apply IsS93.alloc | apply IsS93.drewN | apply IsS93.drew | apply IsS93.set_1 | apply IsS93.set_2 | refine IsS93.far ?_ NB641_658.out _) | exact HI641.out)) hg (IsS93.own_neS HI641.out HO_4.out (by decide))); have n1_ := Aside0.mk (blk_grown (g := gb658) (o := .cells #[.int .i64 t651, .string t662, .slice Ao19 t653.length co19] 59 (0, 0)) (qK BK658) hg (Kd.S_away HO_4.out (fun _ hk => hk.2.2))); have n2_ := Aside0.mk (Kd.R_over' (by (with_reducible repeat (first | apply Kd.R_alloc | apply Kd.R_drewN | apply Kd.R_drew)); exact HO661.out) (Kd.S_typed (by (with_reducible repeat (first | apply Kd.S_alloc | apply Kd.S_drewN | apply Kd.S_drew)); exact HO_4.out)) (by decide) hg); have n3_ := Aside0.mk (hb); have n4_ := Aside0.mk (ho); clear HI641; clear BK658; clear HO661; clear HB; clear HO_4; clear HO655; have HI641 := n0_; have BK658 := n1_; have HO661 := n2_; have HB := n3_; have HO667 := n4_; clear n0_ n1_ n2_ n3_ n4_; clear ho hb hg hat))
      go_roundg k1
      case measure => have := HK1.out; omega
      case rel => exact ⟨(y665), (wrap64 (x5_1 - 1)), (t663), (t664), (by first | rfl | (simp; done) | (simp [*]; done)), H', ⟨by have := HK1.out; omega⟩, ⟨by (with_reducible repeat (first | apply Kd.S_alloc | apply Kd.S_drewN | apply Kd.S_drew)); exact Kd.S_mono HO667.out (fun _ hk => trivial)⟩, ⟨by repeat (first | (with_reducible first | exact HI641.out | apply IsS93.alloc | apply IsS93.drewN | apply IsS93.drew | apply IsS93.set_1 | apply IsS93.set_2 | refine IsS93.far ?_ NB641_658.out _) | exact HI641.out)⟩, ⟨by repeat (first | (with_reducible first | exact HB.out | apply below_alloc | apply pw_below_drewN | apply below_drew1 | refine below_set ?_ (IsS93.ge HI641.out) | refine below_set ?_ GE658.out) | exact HB.out)⟩⟩
     ·rw [if_neg c14] at H
      exact absurd H (by simp)
    ·rw [if_neg c11] at H
     have c11b0 : decide (0 < x5_1) = false := decide_eq_false c11
     clear c11
     obtain rfl := Option.some.inj H
     go_wp2
     go_ret
     exact ⟨_, by first | rfl | (simp [errW_none, errW_some] <;> rfl) | (simp [*, errW_none, errW_some] <;> rfl), by (with_reducible repeat (first | apply Kd.S_alloc | apply Kd.S_drewN | apply Kd.S_drew)); exact HO_4.out, by repeat (first | (with_reducible first | exact HB.out | apply below_alloc | apply pw_below_drewN | apply below_drew1 | refine below_set ?_ (IsS93.ge HI641.out)) | exact HB.out)⟩
 ·replace c4 := Bool.eq_false_iff.mpr c4
  subst c4
  have H1 : ((spec_l2DrawAny.f k t638 t643 t644).bind fun bt668 => (some bt668.1)) = some r := by rw [if_neg (show ¬ (false = true) by decide)] at H; exact H
  clear H
  have H := H1
  clear H1
  replace H := Option.bind_eq_some_iff.mp H
  obtain ⟨⟨t668, t671, t672⟩, A280, H⟩ := H
  try dsimp only at H
  have A28 := Aside0.mk A280
  clear A280
  obtain rfl := Option.some.inj H
  go_enter Tryd.func26, Tryd.ntmps26
  go_wp2_with (first | ((with_reducible refine gate_callee (f := 46) rfl ?_); refine goesL_ (some 8) rfl rfl Tryd.func46 (by kernel_rfl) rfl #[.slice A0 l0.length c0] rfl (by (try simp only [List.map_toArray, List.map_cons, List.map_nil]); first | done | rfl | (simp only [List.length_drop, List.length_take]; rfl)) ?_; (with_reducible refine (spec_l1New.calls k _ _ l0 t638 t639 t640 w _ ?side1 ?side2 ?side3 A2.out).mono ?_); (case side1 => repeat (first | (with_reducible first | exact HB.out | apply below_alloc | apply pw_below_drewN | apply below_drew1) | exact HB.out)); (case side2 => exact HR0.out); (case side3 => exact HC0.out); rintro e w29 ⟨g641, rfl, hi, hb, hb2⟩; refine ⟨_, rfl, ?_⟩; have n0_ := Aside0.mk (hb); have n1_ := Aside0.mk (hi); clear HB; have HB := n0_; have HI641 := n1_; clear n0_ n1_; (try clear hb); (try clear hb2); (try clear hk); (try clear hi)) | ((with_reducible refine gate_callee (f := 61) rfl ?_); refine goesL_ (some 10) rfl rfl Tryd.func61 (by kernel_rfl) rfl #[.pointer (some ⟨g641, 0, none⟩), .int .i64 2] rfl (by (try simp only [List.map_toArray, List.map_cons, List.map_nil]); first | done | rfl | (simp only [List.length_drop, List.length_take]; rfl)) ?_; (with_reducible refine (spec_l1Once.calls g641 t638 t639 t640 2 false t643 t644 w _ ?side1 ?side2 A3.out).mono ?_); (case side1 => repeat (first | (with_reducible first | exact HI641.out | apply IsS93.alloc | apply IsS93.drewN | apply IsS93.drew | apply IsS93.set_1 | apply IsS93.set_2) | exact HI641.out)); (case side2 => repeat (first | (with_reducible first | exact HB.out | apply below_alloc | apply pw_below_drewN | apply below_drew1 | refine below_set ?_ (IsS93.ge HI641.out)) | exact HB.out)); rintro e w30 ⟨rfl, hi, hb, hk⟩; refine ⟨_, rfl, ?_⟩; have n0_ := Aside0.mk (hb); have n1_ := Aside0.mk (hi); clear HB; clear HI641; have HB := n0_; have HI641 := n1_; clear n0_ n1_; (try clear hb); (try clear hb2); (try clear hk); (try clear hi)) | ((with_reducible refine gate_callee (f := 65) rfl ?_); refine goesL_ (some 31) rfl rfl Tryd.func65 (by kernel_rfl) rfl #[.pointer (some ⟨g641, 0, none⟩)] rfl (by (try simp only [List.map_toArray, List.map_cons, List.map_nil]); first | done | rfl | (simp only [List.length_drop, List.length_take]; rfl)) ?_; (with_reducible refine (spec_l2DrawAny.calls k g641 t638 t643 t644 t668 t671 t672 w _ ?side1 ?side2 A28.out).mono ?_); (case side1 => repeat (first | (with_reducible first | exact HI641.out | apply IsS93.alloc | apply IsS93.drewN | apply IsS93.drew | apply IsS93.set_1 | apply IsS93.set_2) | exact HI641.out)); (case side2 => repeat (first | (with_reducible first | exact HB.out | apply below_alloc | apply pw_below_drewN | apply below_drew1 | refine below_set ?_ (IsS93.ge HI641.out)) | exact HB.out)); rintro e w31 ⟨v669, rfl, ho0, hi, hb, hk⟩; refine ⟨_, rfl, ?_⟩; have n0_ := Aside0.mk (Kd.S_lower ho0 (below_size (by repeat (first | (with_reducible first | exact HB.out | apply below_alloc | apply pw_below_drewN | apply below_drew1 | refine below_set ?_ (IsS93.ge HI641.out)) | exact HB.out)))); have n1_ := Aside0.mk (hb); have n2_ := Aside0.mk (hi); clear HB; clear HI641; have HO670 := n0_; have HB := n1_; have HI641 := n2_; clear n0_ n1_ n2_; (try clear hb); (try clear hb2); (try clear hk); (try clear hi); (try clear ho0)))
  go_ret
  exact ⟨_, by first | rfl | (simp [errW_none, errW_some] <;> rfl) | (simp [*, errW_none, errW_some] <;> rfl), by (with_reducible repeat (first | apply Kd.S_alloc | apply Kd.S_drewN | apply Kd.S_drew)); exact HO670.out, by repeat (first | (with_reducible first | exact HB.out | apply below_alloc | apply pw_below_drewN | apply below_drew1 | refine below_set ?_ (IsS93.ge HI641.out)) | exact HB.out)⟩

end Go.Proofs.YtpjpnppoejnafaaDoor.G

/- G17 -/
-- Laid by wip/g/gprint.py out of the translation, by the kit's print program. Lean checks it.
namespace Go.Proofs.YtpjpnppoejnafaaDoor.G
open Go.RowKit Go.Proofs.YtpjpnppoejnafaaDoorW.PrintWords Go.Proofs.YtpjpnppoejnafaaDoorW.PrintLast Go.Proofs.YtpjpnppoejnafaaDoorW.PrintMore
attribute [local go_sem] max2_int min2_int max_two min_two max_three min_three max_four min_four   -- for this text's walks alone
set_option linter.unusedVariables false
set_option linter.unusedSimpArgs false

/-! ### laws_big: function 17 -/
def laws_big.f (l0 : List Int) : Option (Bool) := some (decide ((l0.length : Int) > 1048576))
set_option maxHeartbeats 8000000 in
set_option maxRecDepth 100000 in
theorem laws_big.calls (A0 : Option Addr) (c0 : Nat) (l0 : List Int) (r : Bool) (w : World) (hr0 : Kd.C (Kd.int .u8) w A0 l0.length l0) (hc0 : l0.length ≤ c0) (h : laws_big.f l0 = some r) :
    Calls Tryd.prog 17 #[.slice A0 l0.length c0] w fun e w' => e = .returned (.bool r) ∧ Drawn0 w w' := by
  have HR0 := Aside0.mk hr0
  have HC0 := Aside0.mk hc0
  clear hr0 hc0
  have H : (some (decide ((l0.length : Int) > 1048576))) = some r := h
  clear h
  obtain rfl := Option.some.inj H
  go_enter Tryd.func17, Tryd.ntmps17
  go_wp2
  go_ret
  exact ⟨by first | rfl | (simp; done) | (simp [*]; done), by repeat (first | exact Drawn0.refl _ | apply Drawn0.step)⟩

end Go.Proofs.YtpjpnppoejnafaaDoor.G

/- PSelectorsLaw -/
/-
  The law FnSelectors: a drawn selector comes back of its text; one that never holds holds for no drawn labels.
-/
namespace Go.Proofs.YtpjpnppoejnafaaDoor.G
open Go.RowKit Go.Proofs.YtpjpnppoejnafaaDoorW.PrintWords Go.Proofs.YtpjpnppoejnafaaDoorW.PrintLast Go.Proofs.YtpjpnppoejnafaaDoorW.PrintMore
set_option linter.unusedVariables false
set_option linter.unusedSimpArgs false
theorem drawNever_l0 (cs : List Int) : ∀ (d : Nat) (ys : List ITerm) (x5 p s : Int), x5.toNat ≤ d → ys.length + d ≤ 100 → (∀ x ∈ ys, smT 1000 x) → x5 ≤ 1000 → Cur cs p →
    Tot (fun k => spec_DrawNever.l0 k ys x5 cs p s) (fun r => r.length ≤ 1000 ∧ ∀ x ∈ r, smT 1000 x)
  | 0, ys, x5, p, s, hd, hl, hs, h1, hc => Tot.step (fun k => by rw [spec_DrawNever.l0]) (Tot.neg (by omega) (Tot.some ⟨by show ys.length ≤ _; omega, hs⟩))
  | d + 1, ys, x5, p, s, hd, hl, hs, h1, hc => by
    refine Tot.step (fun k => by rw [spec_DrawNever.l0]) (Tot.ite (fun c => ?_) (fun c => Tot.some ⟨by show ys.length ≤ _; omega, hs⟩))
    refine Tot.bind (l2DrawTerm_tot cs p s hc) (fun a ha => Tot.bind (l1Str_tot cs _ _ _ ha.2 (by simp)) (fun b hb => Tot.pos (by omega) ?_))
    rw [w64 (x := x5 - 1) (by omega) (by omega)]
    refine drawNever_l0 cs d _ (x5 - 1) _ _ (by omega) (by simp; omega) ?_ (by omega) hb.2
    intro x hx
    rcases List.mem_append.1 hx with h | h
    · exact hs x h
    · rw [List.mem_singleton.1 h]
      have hsz : b.1.size ≤ 21 := by
        have := hb.1
        simp only [List.mem_cons, List.not_mem_nil, or_false] at this
        rcases this with e | e <;> rw [e] <;> decide
      exact ⟨hsz, by have := ha.1.2.1; show a.2.2.1.length ≤ 1000; simp only at this; omega, ha.1.2.2⟩
theorem drawNever_tot (cs : List Int) (hl : cs.length ≤ 1048576) : Tot (fun k => spec_DrawNever.f k cs) wfITerms := by
  unfold spec_DrawNever.f
  refine Tot.bind (l1New_tot cs hl) (fun a ha => ?_)
  obtain ⟨e, hc⟩ := ha
  rw [e]
  refine Tot.bind (l1Once_tot cs _ _ _ hc) (fun b hb => Tot.ite (fun _ => ?_) (fun _ => ?_))
  · refine Tot.bind (l1Below_tot cs _ _ 4 hb) (fun c hc' => ?_)
    have hu := hc'.1
    have : c.1 ≤ 4 ∧ 0 ≤ c.1 := by unfold Upto at hu; omega
    rw [w64 (by omega) (by omega)]
    exact (drawNever_l0 cs 5 [] _ _ _ (by omega) (by simp) (by simp) (by omega) hc'.2).mono (fun r hr => wfITerms_sm hr.1 hr.2)
  · exact Tot.bind (l2DrawAny_tot cs _ _ hb) (fun d hd => Tot.some (wfITerms_sm hd.1 hd.2.1))
/-- Where all terms hold, each key can be had. -/
theorem poss_of {sel : List ITerm} {labs : List ILab} (hh : ∀ t ∈ sel, holdsB t labs = true) (key : ByteArray) : possB (withKey key sel) = true := by
  have hk : ∀ t ∈ withKey key sel, holdB t.f0 (labGet labs key).2 (amongB t.f2 (labGet labs key).1) = true := fun t ht => by
    obtain ⟨h1, h2⟩ := List.mem_filter.1 ht
    have := hh t h1
    unfold holdsB at this
    rwa [of_decide_eq_true h2] at this
  have hok : okAt (withKey key sel) (labGet labs key).1 (labGet labs key).2 = true := by
    unfold okAt; rw [List.all_eq_true]; exact hk
  generalize labGet labs key = g at hok
  obtain ⟨v, has⟩ := g
  unfold possB
  cases has with
  | false =>
    have : okAt (withKey key sel) ByteArray.empty false = true := by rw [okAt_none _ _ v]; exact hok
    rw [this]; rfl
  | true =>
    by_cases hv : v ∈ valsOf (withKey key sel)
    · have : (valsOf (withKey key sel)).any (fun v => okAt (withKey key sel) v true) = true := List.any_eq_true.2 ⟨v, hv, hok⟩
      rw [this]; simp
    · have hf : freshB (withKey key sel) = true := by rw [← okAt_fresh hv]; exact hok
      rw [hf]; simp
theorem never_no {sel : List ITerm} {labs : List ILab} (hn : neverB sel = true) : matchB sel labs = false := by
  rw [← Bool.not_eq_true]
  intro hm
  simp only [matchB, Bool.and_eq_true] at hm
  simp only [neverB, Bool.and_eq_true, List.any_eq_true] at hn
  obtain ⟨_, t, ht, hp⟩ := hn
  rw [poss_of (labs := labs) (fun x hx => by
    obtain ⟨i, hi, rfl⟩ := List.getElem_of_mem hx
    have := allN_true.1 hm.2.2 i hi
    rwa [rdIT hi] at this) t.f1] at hp
  cases hp
def laws_FnSelectors.f (l0 : List Int) : Option Bool := some true
theorem FnSelectors_pure (l0 : List Int) (hw : l0.length ≤ 9223372036854775807 ∧ ∀ x ∈ l0, 0 ≤ x ∧ x ≤ 255) : laws_FnSelectors.f l0 = some true := rfl
theorem big_f (l0 : List Int) : laws_big.f l0 = some (decide ((l0.length : Int) > 1048576)) := by unfold laws_big.f; rfl
set_option maxHeartbeats 4000000 in
set_option maxRecDepth 100000 in
theorem laws_FnSelectors.calls (A0 : Option Addr) (c0 : Nat) (l0 : List Int) (r : Bool) (w : World) (hr0 : Kd.C (Kd.int .u8) w A0 l0.length l0) (hc0 : l0.length ≤ c0) (hsh_ : SH w) (h : laws_FnSelectors.f l0 = some r) :
    Calls Tryd.prog 6 #[.slice A0 l0.length c0] w fun e w' => e = .returned (.bool r) ∧ Below w.heap.size w w' := by
  obtain rfl := Option.some.inj h
  clear h
  have hbig := big_f l0
  by_cases c : (l0.length : Int) > 1048576
  · rw [decide_eq_true c] at hbig
    have HBIG := Lib.hid hbig
    have HR0 := Lib.hid hr0
    clear hbig hr0
    go_enter Tryd.func6, Tryd.ntmps6
    go_wp2_with fail
    refine (laws_big.calls A0 c0 l0 true _ HR0.out hc0 HBIG.out).mono ?_
    rintro e w1 ⟨rfl, ⟨nd, rfl⟩⟩
    go_wp2
    go_ret
    exact ⟨rfl, pw_below_drewN (Below.refl _ _) _⟩
  rw [decide_eq_false c] at hbig
  obtain ⟨sel, ⟨K1, k1⟩, hx⟩ := drawNever_tot l0 (by omega)
  obtain ⟨⟨xs, labs⟩, ⟨K2, k2⟩, _, hlab⟩ := drawMatches_tot l0 (by omega)
  obtain ⟨K3, k3⟩ := implSelectorText_ev sel hx
  obtain ⟨K4, k4⟩ := specSelectorOk_ev sel hx
  obtain ⟨K5, k5⟩ := implSelectorOk_ev sel hx
  obtain ⟨K6, k6⟩ := implNever_ev sel hx
  obtain ⟨K7, k7⟩ := specNever_ev sel hx
  obtain ⟨K8, k8⟩ := implMatches_ev sel labs hx hlab
  have hcut : selB sel = true → ∃ K, ∀ n, K ≤ n → impl_ParseSelector.f n (selTxt sel) = some (sel, true) := fun hs => by
    have hsz : (selTxt sel).size ≤ 1048576 := by
      have := (sel_size hs (sel.map termTxt).length).1
      rw [List.take_length] at this
      unfold selTxt; rw [if_pos hs]; omega
    have h9 := implSel_ev _ hsz
    rw [parseQ_text sel hs] at h9
    exact h9
  have E1 := Lib.hid (k1 K1 (Nat.le_refl _))
  have E2 := Lib.hid (k2 K2 (Nat.le_refl _))
  have E3 := Lib.hid (k3 K3 (Nat.le_refl _))
  have E4 := Lib.hid (k4 K4 (Nat.le_refl _))
  have E5 := Lib.hid (k5 K5 (Nat.le_refl _))
  have E6 := Lib.hid (k6 K6 (Nat.le_refl _))
  have E7 := Lib.hid (k7 K7 (Nat.le_refl _))
  have E8 := Lib.hid (k8 K8 (Nat.le_refl _))
  have HNN : Hid (neverB sel = true → matchB sel labs = false) := fun h => never_no h
  have HCUT := Lib.hid hcut
  have HSEL : Hid (selB sel = false → selTxt sel = ⟨#[]⟩ ∧ neverB sel = false) := fun hs => ⟨by unfold selTxt; rw [hs]; simp, by unfold neverB; rw [hs]; rfl⟩
  have HTX : Hid (selB sel = true → (selTxt sel).size ≤ 2000) := fun hs => by
    have := (sel_size hs (sel.map termTxt).length).1
    rw [List.take_length] at this
    unfold selTxt; rw [if_pos hs]; omega
  have HBIG := Lib.hid hbig
  have HR0 := Lib.hid hr0
  have HSH := Lib.hid hsh_
  clear k1 k2 k3 k4 k5 k6 k7 k8 hx hlab hcut hbig hr0 hsh_
  generalize neverB sel = NV at *
  generalize matchB sel labs = MT at *
  generalize selTxt sel = TX at *
  generalize selB sel = SB at *
  go_enter Tryd.func6, Tryd.ntmps6
  go_wp2_with fail
  refine (laws_big.calls A0 c0 l0 false _ HR0.out hc0 HBIG.out).mono ?_
  rintro e w1 ⟨rfl, ⟨nd, rfl⟩⟩
  have hb1 := pw_below_drewN (Below.refl w.heap.size w) nd
  have HR1 := Lib.hid (Kd.C_below HR0.out hb1)
  have HSH1 := Lib.hid (HSH.out.below hb1)
  have B1 := Lib.hid hb1
  clear hb1
  go_wp2_with fail
  refine (spec_DrawNever.calls K1 A0 c0 l0 sel _ HR1.out hc0 E1.out).mono ?_
  rintro e w2 ⟨vs, rfl, hs0, hb2⟩
  obtain ⟨As, cs, rfl, hls, hCs⟩ := Kd.S_reads hs0
  have B2 := Lib.hid (below_step B1.out hb2)
  have CS := Lib.hid hCs
  have HR2 := Lib.hid (Kd.C_below HR1.out hb2)
  have HSH2 := Lib.hid (HSH1.out.below hb2)
  clear hs0 hb2 hCs B1 HR1 HSH1
  go_wp2_with fail
  refine (spec_DrawMatches.calls K2 A0 c0 l0 xs labs _ HR2.out hc0 E2.out).mono ?_
  rintro e w3 ⟨vx, vl, rfl, hxs, hlb, hb3⟩
  obtain ⟨Al, cl, rfl, hll, hCl⟩ := Kd.R_reads hlb
  obtain ⟨Ax, cx, rfl, _, _⟩ := Kd.S_reads hxs
  have B3 := Lib.hid (below_step B2.out hb3)
  have CL := Lib.hid hCl
  have CS3 := Lib.hid (Kd.C_below CS.out hb3)
  have HSH3 := Lib.hid (HSH2.out.below hb3)
  clear hxs hlb hb3 hCl B2 CS HR2 HSH2
  go_wp2_with fail
  refine (impl_SelectorText.calls K3 As cs sel TX _ CS3.out hls E3.out).mono ?_
  rintro e w4 ⟨rfl, hb4⟩
  have B4 := Lib.hid (below_step B3.out hb4)
  have CL4 := Lib.hid (Kd.C_below CL.out hb4)
  have CS4 := Lib.hid (Kd.C_below CS3.out hb4)
  have HSH4 := Lib.hid (HSH3.out.below hb4)
  clear hb4 B3 CS3 HSH3 CL
  cases SB with
  | false =>
    obtain ⟨htx, hnv⟩ := HSEL.out rfl
    subst htx
    subst hnv
    clear HSEL HNN HTX HCUT
    go_wp2_with fail
    refine (spec_SelectorOk.calls K4 As cs sel false _ CS4.out hls E4.out).mono ?_
    rintro e w5 ⟨rfl, hb5⟩
    have B5 := Lib.hid (below_step B4.out hb5)
    have CL5 := Lib.hid (Kd.C_below CL4.out hb5)
    have CS5 := Lib.hid (Kd.C_below CS4.out hb5)
    have HSH5 := Lib.hid (HSH4.out.below hb5)
    clear hb5 B4 CS4 HSH4 CL4
    go_wp2_with fail
    refine (impl_SelectorOk.calls K5 As cs sel false _ CS5.out hls E5.out).mono ?_
    rintro e w6 ⟨rfl, hb6⟩
    have B6 := Lib.hid (below_step B5.out hb6)
    have CL6 := Lib.hid (Kd.C_below CL5.out hb6)
    have CS6 := Lib.hid (Kd.C_below CS5.out hb6)
    have HSH6 := Lib.hid (HSH5.out.below hb6)
    clear hb6 B5 CS5 HSH5 CL5
    go_wp2_with fail
    refine (impl_Never.calls K6 As cs sel false _ CS6.out hls E6.out).mono ?_
    rintro e w7 ⟨rfl, hb7⟩
    have B7 := Lib.hid (below_step B6.out hb7)
    have CL7 := Lib.hid (Kd.C_below CL6.out hb7)
    have CS7 := Lib.hid (Kd.C_below CS6.out hb7)
    have HSH7 := Lib.hid (HSH6.out.below hb7)
    clear hb7 B6 CS6 HSH6 CL6
    go_wp2
    go_ret
    exact ⟨by first | rfl | simp, B7.out⟩
  | true =>
    have hcut := HCUT.out rfl
    obtain ⟨K9, k9⟩ := hcut
    have E9 := Lib.hid (k9 K9 (Nat.le_refl _))
    have hsz := HTX.out rfl
    clear k9 HCUT HSEL HTX
    go_wp2_with fail
    refine (spec_SelectorOk.calls K4 As cs sel true _ CS4.out hls E4.out).mono ?_
    rintro e w5 ⟨rfl, hb5⟩
    have B5 := Lib.hid (below_step B4.out hb5)
    have CL5 := Lib.hid (Kd.C_below CL4.out hb5)
    have CS5 := Lib.hid (Kd.C_below CS4.out hb5)
    have HSH5 := Lib.hid (HSH4.out.below hb5)
    clear hb5 B4 CS4 HSH4 CL4
    go_wp2_with fail
    refine (impl_ParseSelector.calls K9 TX sel true _ HSH5.out E9.out).mono ?_
    rintro e w6 ⟨vp, rfl, hp, hb6⟩
    obtain ⟨Ap, cp, rfl, hlp, hCp⟩ := Kd.S_reads hp
    have CP := Lib.hid hCp
    have B6 := Lib.hid (below_step B5.out hb6)
    have CL6 := Lib.hid (Kd.C_below CL5.out hb6)
    have CS6 := Lib.hid (Kd.C_below CS5.out hb6)
    have HSH6 := Lib.hid (HSH5.out.below hb6)
    clear hb6 B5 CS5 HSH5 CL5 hp hCp
    go_wp2_with fail
    refine (impl_SelectorText.calls K3 Ap cp sel TX _ CP.out hlp E3.out).mono ?_
    rintro e w7 ⟨rfl, hb7⟩
    have B7 := Lib.hid (below_step B6.out hb7)
    have CL7 := Lib.hid (Kd.C_below CL6.out hb7)
    have CS7 := Lib.hid (Kd.C_below CS6.out hb7)
    have HSH7 := Lib.hid (HSH6.out.below hb7)
    clear hb7 B6 CS6 HSH6 CL6
    go_wp2_with fail
    refine (impl_SelectorOk.calls K5 As cs sel true _ CS7.out hls E5.out).mono ?_
    rintro e w8 ⟨rfl, hb8⟩
    have B8 := Lib.hid (below_step B7.out hb8)
    have CL8 := Lib.hid (Kd.C_below CL7.out hb8)
    have CS8 := Lib.hid (Kd.C_below CS7.out hb8)
    have HSH8 := Lib.hid (HSH7.out.below hb8)
    clear hb8 B7 CS7 HSH7 CL7
    go_wp2_with fail
    refine (impl_Never.calls K6 As cs sel NV _ CS8.out hls E6.out).mono ?_
    rintro e w9 ⟨rfl, hb9⟩
    have B9 := Lib.hid (below_step B8.out hb9)
    have CL9 := Lib.hid (Kd.C_below CL8.out hb9)
    have CS9 := Lib.hid (Kd.C_below CS8.out hb9)
    have HSH9 := Lib.hid (HSH8.out.below hb9)
    clear hb9 B8 CS8 HSH8 CL8
    go_wp2_with fail
    refine (spec_Never.calls K7 As cs sel NV _ CS9.out hls E7.out).mono ?_
    rintro e w10 ⟨rfl, hb10⟩
    have B10 := Lib.hid (below_step B9.out hb10)
    have CL10 := Lib.hid (Kd.C_below CL9.out hb10)
    have CS10 := Lib.hid (Kd.C_below CS9.out hb10)
    have HSH10 := Lib.hid (HSH9.out.below hb10)
    clear hb10 B9 CS9 HSH9 CL9
    cases NV with
    | false =>
      go_wp2_with fail
      refine (impl_Never.calls K6 As cs sel false _ CS10.out hls E6.out).mono ?_
      rintro e w11 ⟨rfl, hb11⟩
      have B11 := Lib.hid (below_step B10.out hb11)
      have CL11 := Lib.hid (Kd.C_below CL10.out hb11)
      have CS11 := Lib.hid (Kd.C_below CS10.out hb11)
      have HSH11 := Lib.hid (HSH10.out.below hb11)
      clear hb11 B10 CS10 HSH10 CL10
      go_wp2
      go_ret
      exact ⟨by first | rfl | simp, B11.out⟩
    | true =>
      have hmt := HNN.out rfl
      subst hmt
      go_wp2_with fail
      refine (impl_Never.calls K6 As cs sel true _ CS10.out hls E6.out).mono ?_
      rintro e w11 ⟨rfl, hb11⟩
      have B11 := Lib.hid (below_step B10.out hb11)
      have CL11 := Lib.hid (Kd.C_below CL10.out hb11)
      have CS11 := Lib.hid (Kd.C_below CS10.out hb11)
      have HSH11 := Lib.hid (HSH10.out.below hb11)
      clear hb11 B10 CS10 HSH10 CL10
      go_wp2_with fail
      refine (impl_Matches.calls K8 As cs sel Al cl labs false _ CS11.out hls CL11.out hll E8.out).mono ?_
      rintro e w12 ⟨rfl, hb12⟩
      have B12 := Lib.hid (below_step B11.out hb12)
      have CL12 := Lib.hid (Kd.C_below CL11.out hb12)
      have CS12 := Lib.hid (Kd.C_below CS11.out hb12)
      have HSH12 := Lib.hid (HSH11.out.below hb12)
      clear hb12 B11 CS11 HSH11 CL11
      go_wp2
      go_ret
      exact ⟨by first | rfl | simp, B12.out⟩
end Go.Proofs.YtpjpnppoejnafaaDoor.G

/- GKArgs -/
/-
  The arguments of the laws, opened: at this dump's type numbers.
-/
namespace Go.Proofs.YtpjpnppoejnafaaDoor.G
open Go.RowKit Go.Proofs.YtpjpnppoejnafaaDoorW.PrintWords Go.Proofs.YtpjpnppoejnafaaDoorW.PrintLast Go.Proofs.YtpjpnppoejnafaaDoorW.PrintMore
set_option linter.unusedVariables false
section
variable {H : Type} {enc : TypeId × Value → H} {w : World} {base : Nat} {spare : Nat → Bool} {held : Bool} {v : Value} {d : DataW H} {p : List MemPlace} {r : Reach} {b0 : Nat}
set_option maxRecDepth 20000 in
/-- A slice of such elements. -/
theorem kopen_of {α : Type} {t e : TypeId} {k : Kd α} {Wf : α → Prop} (ht : Tryd.prog.underlying t = some (.slice e)) (hsz : Tryd.prog.cellsOf e = k.sz) (hpos : 0 < k.sz) (ho : ∀ m, KOpens enc Tryd.prog w base spare held m e k Wf)
    (hv : Value.okWide Tryd.prog w r b0 t v) (h : DataW.Trod enc Tryd.prog w base spare held t v d p) :
    ∃ (xs : List α) (A : Option Addr) (c : Nat), v = .slice A xs.length c ∧ (xs.length ≤ 9223372036854775807 ∧ ∀ x ∈ xs, Wf x) ∧ xs.length ≤ c ∧ Kd.C k w A xs.length xs := by
  obtain ⟨A, n, c, rfl⟩ := Go.WideShapes.okWide_slice ht hv
  obtain ⟨fuel, h⟩ := h
  obtain ⟨xs, hw, A', c', he, hl, hC⟩ := kopens_slice ht hsz hpos (fun _ _ => trivial) (fun m _ => ho m) _ _ h
  have he' : [Value.slice A n c] = [Value.slice A' xs.length c'] := he
  simp only [List.cons.injEq, and_true] at he'
  exact ⟨xs, A', c', he', hw, hl, hC⟩
set_option maxRecDepth 20000 in
theorem kopen_bytes (hv : Value.okWide Tryd.prog w r b0 33 v) (h : DataW.Trod enc Tryd.prog w base spare held 33 v d p) :
    ∃ (xs : List Int) (A : Option Addr) (c : Nat), v = .slice A xs.length c ∧ (xs.length ≤ 9223372036854775807 ∧ ∀ x ∈ xs, 0 ≤ x ∧ x ≤ 255) ∧ xs.length ≤ c ∧ Kd.C (Kd.int .u8) w A xs.length xs :=
  kopen_of Tryd.underlying33 (by kernel_rfl) (by decide) (fun m => kopens_u8 Tryd.underlying5) hv h
end
end Go.Proofs.YtpjpnppoejnafaaDoor.G

/- G6 -/
/- laws.FnSelectors: its contract is proved by hand: (hsh_ : SH w) -/

/- GKRow -/
/-
  The row's wrap over listed variables, the world's shape kept.
-/
namespace Go.Proofs.YtpjpnppoejnafaaDoor.G
open Go Go.Proofs

theorem change_and_shaped {H : Type} {enc : TypeId × Value → H} {a : Assume} {C : Checked} {os : Os} {f : FuncId} {fn : Func} {s : ChangeSpec} {conds : List PathCond} {apart fresh handsOn again : Bool} {X : World → Array Value → Prop}
    (hX : ∀ (w w' : World) (args : Array Value), w.heap = w'.heap → X w args → X w' args)
    (own : ownKnob C.prog.godebug = none) (started : os.Started) (noInit : C.prog.inits.idxOf? f = none) (hfn : C.prog.funcs[f]? = some fn)
    (witness : ∃ (w : World) (tape : Tape) (i : Input), w.os = os ∧ (w.forCall tape i).Shaped C.prog ∧ i.vars = [] ∧ Input.okWide C.prog (w.forCall tape i) .any w.heap.size f i ∧
      ((s.pre enc C.prog fn conds apart (w.forCall tape i).memory i.args ∧ X (w.forCall tape i).memory i.args) ∧ sizedMet enc C.prog fn (OpenSpec.ofChange s) apart (w.forCall tape i).memory i.args) ∧ a.holds C.prog (lone (Frame.enter C.prog f i.args .normal) [] (w.forCall tape i)))
    (contract : ∀ (W : World) (base : Nat) (args : Array Value) (ds gs : List (DataW H)) (before : List MemPlace),
      (∀ (j : Nat) t v, fn.params[j]? = some t → args[j]? = some v → Value.okWide C.prog W .any base t v) →
      DataW.Whole enc C.prog fn.params.toList s.vars apart W args.toList ds gs before →
      conds.all (PathCond.test C.prog ⟨fn.params.toList, ds, s.plain.varTypes C.prog, gs⟩) = true →
      (DataW.weightsEach C.prog (fn.params.toList ++ s.plain.varTypes C.prog) (ds ++ gs)).all (· ≤ reachBytes) = true → X W args → W.ShapedOpen C.prog →
      a.holds C.prog (lone (Frame.enter C.prog f args .normal) [] W) →
      Calls C.prog f args W fun e W' => ∃ v, e = .returned v ∧ s.post enc C.prog fn apart fresh handsOn again W args v W') :
    ReturnsInHanded a C os f .any (fun w args => (s.pre enc C.prog fn conds apart w args ∧ X w args) ∧ sizedMet enc C.prog fn (OpenSpec.ofChange s) apart w args) (s.post enc C.prog fn apart fresh handsOn again) := by
  refine returnsInHanded_of_calls own started noInit witness ?_
  intro w tape i _ hsh _ hok hpre hholds
  obtain ⟨_, _, _, fn', hfn', _, _, _, _, hval⟩ := hok
  have e : fn' = fn := Option.some.inj (hfn'.symm.trans hfn)
  subst e
  obtain ⟨⟨⟨ds, gs, before, hw, hc⟩, hx⟩, hz⟩ := hpre
  have hw' := DataW.Whole.of_heap (w' := w.forCall tape i) (by rfl) hw
  refine (contract (w.forCall tape i) w.heap.size i.args ds gs before hval hw' hc (hz.weights hw) (hX _ _ _ (by rfl) hx) hsh hholds).mono fun e W' ⟨v, he, hp⟩ => ?_
  subst he
  exact ChangeSpec.post_blind hp
end Go.Proofs.YtpjpnppoejnafaaDoor.G

/- RowFnSelectorsCard -/
/- The law 'FnSelectors' holds for every input: it returns true, and each argument reads behind the call as it read before. No condition. -/
namespace Go.Proofs.YtpjpnppoejnafaaDoor.fnSelectors
open Go.ChangeShapes Go.WideShapes Go.ChangeAt Go.RowKit
set_option linter.unusedVariables false
theorem own : ownKnob Tryd.prog.godebug = none := by kernel_rfl
theorem laidOut : laidOutB Tryd.prog = true := by kernel_rfl
set_option maxRecDepth 100000 in
theorem lifted (os : Os) (started : os.Started) (H : Type) (enc : TypeId × Value → H) :
    ReturnsInHanded {} Tryd.checked os 6 .any (fun w args => (Rows.fnSelectorsSpec.pre enc Tryd.prog Tryd.f6 Rows.fnSelectorsRow.domain false w args ∧ laidMetH Tryd.prog Rows.fnSelectorsRow.laid w) ∧ sizedMet enc Tryd.prog Tryd.f6 (OpenSpec.ofChange Rows.fnSelectorsSpec) false w args) (Rows.fnSelectorsSpec.post enc Tryd.prog Tryd.f6 false true false false) := by
  refine G.change_and_shaped (C := Tryd.checked) (X := fun w _ => laidMetH Tryd.prog Rows.fnSelectorsRow.laid w) (fun _ _ _ hh h => h.of_heap hh) own started (by kernel_rfl) Tryd.func6
    (ChangeSpec.witness_shaped (enc := enc) (C := Tryd.checked) (os := os) (X := fun w _ => laidMetH Tryd.prog Rows.fnSelectorsRow.laid w) false (World.laidAll Tryd.prog os Rows.fnSelectorsRow.laid) #[.slice none 0 0] 8 (World.laidAll_os _ _ _)
      (World.shaped_of_ZipB (by kernel_rfl) (by kernel_rfl)) (by kernel_rfl) (by kernel_rfl) (by kernel_rfl)
      (by rw [MakeChecks.laidMetH_plain _ _ _ (by kernel_rfl)]; exact laidMet_laidAll _ (by kernel_rfl) (by kernel_rfl))) ?_
  intro W base args ds gs before hval0 hW hcnd _ hL hshape _
  have hval : ∀ (j : Nat) t v, Tryd.f6.params[j]? = some t → args[j]? = some v → Value.okWide Tryd.prog W .any base t v := hval0
  have hW' := hW
  obtain ⟨p, q, hA0, hV, rfl, hfz, hnd⟩ := hW
  have hA : DataW.TrodAll enc Tryd.prog W 0 (fun _ => true) true Tryd.f6.params.toList args.toList ds p := hA0
  rw [Tryd.params6] at hA hval
  obtain ⟨v0, vs0, d0, ds0, p0, q0, hargs0, rfl, rfl, h0, r0x⟩ := trodAll_cons hA
  obtain ⟨rfl, rfl, rfl⟩ := trodAll_nil r0x
  obtain rfl : args = #[v0] := by cases args; simp_all
  obtain ⟨rfl, rfl⟩ := trodVars_none hV
  have hlt := hW'.lt
  have hk0 := h0
  obtain ⟨x0, A0, c0, rfl, w0, l0, q0⟩ := G.kopen_bytes (hval 0 33 v0 rfl rfl) h0
  clear hA0 hval0
  have hk := G.FnSelectors_pure x0 w0
  refine (G.laws_FnSelectors.calls  A0 c0 x0 true W q0 l0 (G.SH.of hshape) hk).mono fun e W' ⟨he, bel⟩ => ?_
  subst he
  exact ⟨_, rfl, _, _, _, [], _, [], hW', trodAll_mk1 (shut_bool Tryd.underlying4 _), (trodAll_cons_mk (Below.trod laidOut (by kernel_rfl) (of_decide_eq_true (by kernel_rfl)) hk0 bel (fun x hx => hlt x (by simp [hx]))) trodAll_mk0), rfl, bel.frame _, fun h => by cases h⟩
theorem over : Rows.fnSelectorsRow.holds Tryd.pinned (OpenSpec.ofChange Rows.fnSelectorsSpec) :=
  OpenClaim.holds_of_wide 6 Tryd.f6 rfl rfl rfl rfl rfl rfl rfl ⟨rfl, rfl, rfl, rfl, rfl⟩ rfl rfl rfl rfl rfl (by kernel_rfl) Tryd.func6 (by kernel_rfl)
    (of_decide_eq_true (by kernel_rfl)) (by unfold Func.isWrapper; first | (rw [if_pos (by decide +kernel)]; kernel_rfl) | (rw [if_neg (by decide +kernel)]; exact ⟨rfl, rfl⟩))
    (fun os started H enc _ => lifted os started H enc)
theorem proved : Rows.FnSelectorsSaid := over
#print axioms proved
end Go.Proofs.YtpjpnppoejnafaaDoor.fnSelectors
namespace Go.Proofs.YtpjpnppoejnafaaDoor
theorem fnSelectorsCard_holds : Rows.FnSelectorsCardSaid :=
  Claim7.holds_tied_plain_at .later [] [.data, .pinned] true (true, "ba4f657fa8b592f274b6cc130ab971ee82f2b4c39185dd714d5d2eff0ed06bdc") false fnSelectors.proved (fun _ h => by cases h) (by kernel_rfl) (fun _ h => by cases h) fnSelectors_row_tie rfl ⟨rfl, rfl⟩ (by kernel_rfl) rfl
    (fun f fn hf hfn => by
      obtain rfl : f = 6 := Option.some.inj ((show Tryd.prog.funcNamed "loop.example/g00119/laws.FnSelectors" = some 6 by kernel_rfl).symm.trans hf) |>.symm
      obtain rfl : fn = Tryd.f6 := (Option.some.inj (Tryd.func6.symm.trans hfn)).symm
      exact ⟨by kernel_rfl, fun j t ht => by
        rw [Tryd.params6] at ht
        have hm : t ∈ [33] := by simpa using Array.mem_of_getElem? ht
        have hall : ([33].all fun u => !Tryd.prog.wantsStandIn u) = true := by kernel_rfl
        exact (show Tryd.prog.wantsStandIn t = false by simpa using List.all_eq_true.1 hall t hm)⟩)
    (by kernel_rfl)
end Go.Proofs.YtpjpnppoejnafaaDoor
