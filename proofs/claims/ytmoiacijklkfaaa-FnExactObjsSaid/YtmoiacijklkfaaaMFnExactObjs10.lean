import Derived.Test.YtmoiacijklkfaaaMFnExactObjs8
import Derived.Test.YtmoiacijklkfaaaMFnExactObjs3
import Derived.Test.YtmoiacijklkfaaaMFnExactObjs9
import Derived.Test.YtmoiacijklkfaaaMFnExactObjs5
import Derived.Test.YtmoiacijklkfaaaMFnExactObjs1
import Derived.Test.YtmoiacijklkfaaaMFnExactObjs7
import Derived.Test.YtmoiacijklkfaaaMFnExactObjs6
/- PHeldV -/
/-
  Marks are found again: values.
-/
namespace Go.Proofs.Ytmoiacijklkfaaa.G
open Go.RowKit Go.Proofs.YtmoiacijklkfaaaW.PrintWords Go.Proofs.YtmoiacijklkfaaaW.PrintLast Go.Proofs.YtmoiacijklkfaaaW.PrintMore
set_option linter.unusedVariables false
set_option linter.unusedSimpArgs false
theorem heldVals : ∀ (n : Nat) (xs : List IVal) (a : Int), (∀ x ∈ xs, SmI n x) → xs.length ≤ 1048576 → 0 ≤ a → (mkL (mkV n) xs a).2 ≤ 1099511627776 → Ev (fun k => laws_heldValueS.f k (mkL (mkV n) xs a).1 a) (mkL (mkV n) xs a).2
  | 0, xs, a, hs, _, _, _ => by
    have h0 : xs = [] := by
      cases xs with
      | nil => rfl
      | cons x xs => have := hs x (by simp); rw [SmI] at this; exact this.elim
    subst h0
    have e : mkL (mkV 0) ([] : List IVal) a = ([], a) := rfl
    rw [e]
    refine Ev.step (fun k => by rw [laws_heldValueS.f]) ?_
    refine Ev.step (fun k => by rw [laws_heldValueS.l0]) ?_
    exact ev_if_neg (by simp) (ev_some rfl)
  | n + 1, xs, a, hs, hl, h0, h1 => by
    have loop : ∀ (d i : Nat), i + d = xs.length → Ev (fun k => laws_heldValueS.l0 k (mkL (mkV (n + 1)) xs a).1 (mkL (mkV (n + 1)) (xs.take i) a).2 i) (mkL (mkV (n + 1)) xs a).2 := by
      intro d
      induction d with
      | zero =>
        intro i hd
        refine Ev.step (fun k => by rw [laws_heldValueS.l0]) (ev_if_neg (by rw [mkL_len]; omega) (ev_some ?_))
        rw [List.take_of_length_le (by omega)]
      | succ d ih =>
        intro i hd
        have hi : i < xs.length := by omega
        have hi2 : i < (mkL (mkV (n + 1)) xs a).1.length := by rw [mkL_len]; exact hi
        have hle := mkL_take_le (mkV_mono (n + 1)) xs (i + 1) a
        have hk0 := mkL_mono (mkV_mono (n + 1)) (xs.take i) a
        have ih := ih (i + 1) (by omega)
        rw [mkL_next _ _ _ _ hi] at ih hle
        generalize hn : (mkL (mkV (n + 1)) (xs.take i) a).2 = m at *
        have hx := hs _ (List.getElem_mem hi)
        rw [SmI] at hx
        obtain ⟨_, _, hx3, hx4, hxk⟩ := hx
        have hm1 := mkL_mono mkS_mono xs[i].f3 (m + 3)
        have hm2 := mkL_mono (mkV_mono n) xs[i].f4 (mkL mkS xs[i].f3 (m + 3)).2
        have hcnt := mkS_count xs[i].f3 (m + 3)
        have hle2 : (mkL (mkV n) xs[i].f4 (mkL mkS xs[i].f3 (m + 3)).2).2 ≤ (mkL (mkV (n + 1)) xs a).2 := hle
        have hh := heldStrs_ev xs[i].f3 (m + 3) (by omega) (by omega)
        have hv := heldVals n xs[i].f4 (mkL mkS xs[i].f3 (m + 3)).2 hxk hx4 (by omega) (by omega)
        refine Ev.step (fun k => by rw [laws_heldValueS.l0]) (ev_if_pos (by rw [mkL_len]; omega) (ev_if_pos (by omega) ?_))
        rw [rdIV hi2, mkL_get _ _ _ _ hi, hn, wsucc (n := xs.length) hi (by omega)]
        have a1 : wrap64 (m + 1) = m + 1 := w64 (by omega) (by omega)
        have a2 : wrap64 (m + 1 + 1) = m + 2 := by rw [w64 (by omega) (by omega)]; omega
        have a3 : wrap64 (m + 2 + 1) = m + 3 := by rw [w64 (by omega) (by omega)]; omega
        rw [a1, a2, a3]
        refine ev_if_pos rfl (Ev.bind (mt_ev _ (by omega) (by omega)) (ev_if_pos rfl (ev_if_pos rfl (Ev.bind hh (ev_if_neg (by omega) (Ev.bind hv (ev_if_neg (by omega) ?_)))))))
        exact ih
    have h00 := loop xs.length 0 (by omega)
    have e0 : (mkL (mkV (n + 1)) (xs.take 0) a).2 = a := by rw [List.take_zero]; rfl
    rw [e0] at h00
    exact Ev.step (fun k => by rw [laws_heldValueS.f]; rfl) h00
end Go.Proofs.Ytmoiacijklkfaaa.G

/- GKObjMark -/
/-
  An object handed; its marks, and that they are found again; the marks of a base.
-/
namespace Go.Proofs.Ytmoiacijklkfaaa.G
open Go.RowKit Go.Proofs.YtmoiacijklkfaaaW.PrintWords Go.Proofs.YtmoiacijklkfaaaW.PrintLast Go.Proofs.YtmoiacijklkfaaaW.PrintMore
attribute [local go_sem] max2_int min2_int max_two min_two max_three min_three max_four min_four
set_option linter.unusedVariables false
set_option linter.unusedSimpArgs false
section
variable {n b : Nat} {w w1 : World} {x : IObj} {A6 : Option Addr} {c6 : Nat} {A10 : Option Addr} {c10 : Nat} {A11 : Option Addr} {c11 : Nat} {A15 : Option Addr} {c15 : Nat} {A16 : Option Addr} {c16 : Nat} {f6 f10 f11 f15 f16 : List Nat}
end
theorem heldS (xs : List ByteArray) (Q : Option Addr) (q : Nat) (a : Int) (w : World) (h0 : 0 ≤ a) (h1 : a + xs.length ≤ 1099511627776) (C : Kd.C Kd.string w Q xs.length (mkL mkS xs a).1) (l : xs.length ≤ q) :
    Calls Try.prog 78 #[.slice Q xs.length q, .int .i64 a] w fun e w' => e = .returned (.int .i64 (mkL mkS xs a).2) ∧ Below w.heap.size w w' := by
  obtain ⟨K, hK⟩ := heldStrs_ev xs a h0 h1
  have L : (mkL mkS xs a).1.length = xs.length := mkL_len _ _ _
  have hk := laws_heldStringS.calls K Q q (mkL mkS xs a).1 a _ w (by rw [L]; exact C) (by rw [L]; exact l) (hK K (Nat.le_refl _))
  rw [L] at hk
  exact hk
set_option maxHeartbeats 16000000 in
set_option maxRecDepth 100000 in
theorem markB_calls (n b : Nat) (y : IBase) (A0 : Option Addr) (c0 : Nat) (A3 : Option Addr) (c3 : Nat) (fp : List Nat) (k0 : Int) (w0 w : World) (hB : Below w0.heap.size w0 w) (hT : BT (n + 1) b w y A0 c0 A3 c3 fp) (hb : w0.heap.size ≤ b) (h0 : 0 ≤ k0) (h1 : (mkL (mkC n) y.f3 (mkL (mkO n) y.f0 k0).2).2 ≤ 1099511627776) :
    Calls Try.prog 18 #[.agg #[.slice A0 y.f0.length c0, .int .i64 y.f1, .int .i64 y.f2, .slice A3 y.f3.length c3], .int .i64 k0] w fun e w' => e = .returned (.int .i64 (mkL (mkC n) y.f3 (mkL (mkO n) y.f0 k0).2).2) ∧ (∃ f0 f3, fp = f0 ++ f3 ∧ (tO (n + 1)).Row 46 w' (.slice A0 y.f0.length c0) (mkL (mkO n) y.f0 k0).1 f0 ∧ (tC (n + 1)).Row 90 w' (.slice A3 y.f3.length c3) (mkL (mkC n) y.f3 (mkL (mkO n) y.f0 k0).2).1 f3) ∧ Below w0.heap.size w0 w' ∧ Kept w w' (fun k => k ∈ fp) := by
  obtain ⟨_, ⟨f0, f3, rfl, r0, r3⟩, hn, hf⟩ := hT
  rw [List.nodup_append] at hn
  obtain ⟨n0, n3, n03⟩ := hn
  have hm1 := mkL_mono (mkO_mono n) y.f0 k0
  have hm2 := mkL_mono (mkC_mono n) y.f3 (mkL (mkO n) y.f0 k0).2
  obtain ⟨W1, hW1⟩ : ∃ W1, w.alloc (.cells #[.slice A0 y.f0.length c0, .int .i64 y.f1, .int .i64 y.f2, .slice A3 y.f3.length c3] 30) = W1 := ⟨_, rfl⟩
  have hbA := below_alloc (Below.refl w.heap.size w) (.cells #[.slice A0 y.f0.length c0, .int .i64 y.f1, .int .i64 y.f2, .slice A3 y.f3.length c3] 30)
  have hb0 := blk_new w (.cells #[.slice A0 y.f0.length c0, .int .i64 y.f1, .int .i64 y.f2, .slice A3 y.f3.length c3] 30)
  rw [hW1] at hbA hb0
  have HW1 := Lib.hid hW1
  have HBA := Lib.hid hbA
  have B1 := Lib.hid (below_then hB hB.size hbA)
  have Q1 := Lib.hid hb0
  have R0 := Lib.hid (Td.Row_below r0 hbA)
  have R3 := Lib.hid (Td.Row_below r3 hbA)
  have HF := Lib.hid hf
  have N0 := Lib.hid n0
  have N3 := Lib.hid n3
  have N03 := Lib.hid n03
  clear hB r0 r3 hf n0 n3 n03 hW1 hbA hb0
  go_enter Try.func18, Try.ntmps18
  go_wp2_with fail
  rw [HW1.out]
  (with_reducible refine (markOs_calls n y.f0 _ f0 k0 w0 W1 B1.out R0.out N0.out (fun k hk => Nat.le_trans hb (HF.out k (List.mem_append_left _ hk)).1) h0 (by omega)).mono ?_)
  rintro e w2 ⟨rfl, hr0, hb2, hk2⟩
  have Q2 := Lib.hid ((hk2.2 _ (blk_lt Q1.out) (fun hm => by have := (HF.out _ (List.mem_append_left _ hm)).2; omega)).trans Q1.out)
  have S0 := Lib.hid hr0
  have S3 := Lib.hid (Td.Row_move R3.out (fun k hk => hk2.2 k (Td.Row_lt R3.out k hk) (fun hm => N03.out k hm k hk rfl)))
  have B2 := Lib.hid hb2
  have K2 := Lib.hid (kept_trans (Kept.of_below HBA.out (fun k => k ∈ f0 ++ f3)) hk2 (fun k hk => .inl (List.mem_append_left _ hk)))
  clear hr0 hb2 hk2 R0 R3 Q1 HW1
  obtain ⟨b0, b1, b2, b3⟩ := cells4 Q2.out
  go_wp2_with fail
  clear b0 b1 b2 b3
  (with_reducible refine (markCs_calls n y.f3 _ f3 (mkL (mkO n) y.f0 k0).2 w0 w2 B2.out S3.out N3.out (fun k hk => Nat.le_trans hb (HF.out k (List.mem_append_right _ hk)).1) (by omega) h1).mono ?_)
  rintro e w3 ⟨rfl, hr3, hb3, hk3⟩
  have T0 := Lib.hid (Td.Row_move S0.out (fun k hk => hk3.2 k (Td.Row_lt S0.out k hk) (fun hm => N03.out k hk k hm rfl)))
  have T3 := Lib.hid hr3
  have B3 := Lib.hid hb3
  have K3 := Lib.hid (kept_trans K2.out hk3 (fun k hk => .inl (List.mem_append_right _ hk)))
  clear hr3 hb3 hk3 S0 S3 Q2 K2
  go_wp2
  go_ret
  exact ⟨rfl, ⟨f0, f3, rfl, T0.out, T3.out⟩, B3.out, K3.out⟩
/-! ### how many marks a base takes -/
theorem mcI_up : ∀ {n : Nat} {y : IVal}, SmI n y → mcI (n + 1) y = mcI n y
  | 0, y, h => by rw [SmI] at h; exact h.elim
  | n + 1, y, h => by
    rw [SmI] at h
    rw [mcI, mcI]
    congr 2
    exact List.map_congr_left (fun z hz => by rw [mcI_up (h.2.2.2.2 z hz)])
theorem mkO_cnt (n : Nat) (x : IObj) (k : Int) : (mkO n x k).2 ≤ k + ((12 + (x.f6.length + (mcI (n + 1) x.f7 + mcI (n + 1) x.f8)) : Nat) : Int) := by
  have h1 := mkS_count x.f6 (k + 6)
  have h2 := mkV_cnt (n + 1) x.f7 (mkL mkS x.f6 (k + 6)).2
  have h3 := mkV_cnt (n + 1) x.f8 (mkV (n + 1) x.f7 (mkL mkS x.f6 (k + 6)).2).2
  show (mkV (n + 1) x.f8 (mkV (n + 1) x.f7 (mkL mkS x.f6 (k + 6)).2).2).2 ≤ _
  omega
theorem mkC_cnt (n : Nat) (x : IChg) (k : Int) : (mkC n x k).2 ≤ k + ((14 + (x.f2.f6.length + (mcI (n + 1) x.f2.f7 + mcI (n + 1) x.f2.f8)) : Nat) : Int) := by
  have h1 := mkO_cnt n x.f2 (k + 2)
  show (mkO n x.f2 (k + 2)).2 ≤ _
  omega
theorem mc_obj {m : Nat} {x : LObj} (hw : wfLON (m + 1) x) (hs : SmLO (m + 1) x) : (cOb (m + 1) x).f6.length + (mcI (m + 2) (cOb (m + 1) x).f7 + mcI (m + 2) (cOb (m + 1) x).f8) = mcLO (m + 1) x := by
  have h7 := mcI_up (cVN_sm _ _ hw.2.2.1 hs.2.1)
  have h8 := mcI_up (cVN_sm _ _ hw.2.2.2 hs.2.2)
  show x.f6.length + (mcI (m + 2) (cVN (m + 1) x.f7) + mcI (m + 2) (cVN (m + 1) x.f8)) = _
  rw [h7, h8, mc_c, mc_c]; rfl
theorem sum_add {α : Type} (c : Nat) (f : α → Nat) : ∀ l : List α, (l.map (fun x => c + f x)).sum = c * l.length + (l.map f).sum
  | [] => by simp
  | x :: l => by rw [List.map_cons, List.sum_cons, sum_add c f l, List.map_cons, List.sum_cons, List.length_cons, Nat.mul_succ]; omega
theorem sum_map_congr {α β : Type} (g : α → β) (f : β → Nat) (h : α → Nat) : ∀ l : List α, (∀ x ∈ l, f (g x) = h x) → ((l.map g).map f).sum = (l.map h).sum
  | [], _ => rfl
  | x :: l, hx => by rw [List.map_cons, List.map_cons, List.sum_cons, List.map_cons, List.sum_cons, hx x (by simp), sum_map_congr g f h l (fun y hy => hx y (by simp [hy]))]
theorem base_marks {m : Nat} {s : LBase} {r : Int} (hw : ∀ x ∈ s.f0, wfLON (m + 1) x) (hw3 : ∀ x ∈ s.f3, wfLON (m + 1) x.f2) (hs : SmLB (m + 1) s.f0 s.f3) (hm : ((s.f0.map (mcLO (m + 1))).sum : Int) + ((s.f3.map (fun x => mcLO (m + 1) x.f2)).sum : Int) ≤ 4 * (1048576 - r)) (hr : 0 ≤ r) (k : Int) (hk : k ≤ 1000000) :
    (mkL (mkC (m + 1)) (cB m s).f3 (mkL (mkO (m + 1)) (cB m s).f0 k).2).2 ≤ 1099511627776 := by
  have h1 := mkL_sum (mkO (m + 1)) (fun x => 12 + (x.f6.length + (mcI (m + 2) x.f7 + mcI (m + 2) x.f8))) (cB m s).f0 (fun x _ k => mkO_cnt (m + 1) x k) k
  have h2 := mkL_sum (mkC (m + 1)) (fun x => 14 + (x.f2.f6.length + (mcI (m + 2) x.f2.f7 + mcI (m + 2) x.f2.f8))) (cB m s).f3 (fun x _ k => mkC_cnt (m + 1) x k) (mkL (mkO (m + 1)) (cB m s).f0 k).2
  rw [sum_add] at h1 h2
  have e1 : ((cB m s).f0.map (fun x => x.f6.length + (mcI (m + 2) x.f7 + mcI (m + 2) x.f8))).sum = (s.f0.map (mcLO (m + 1))).sum := sum_map_congr (cOb (m + 1)) _ _ s.f0 (fun x hx => mc_obj (hw x hx) (hs.1.2 x hx))
  have e2 : ((cB m s).f3.map (fun x => x.f2.f6.length + (mcI (m + 2) x.f2.f7 + mcI (m + 2) x.f2.f8))).sum = (s.f3.map (fun x => mcLO (m + 1) x.f2)).sum := sum_map_congr (cCh (m + 1)) _ _ s.f3 (fun x hx => mc_obj (hw3 x hx) (hs.2.2 x hx))
  rw [e1] at h1
  rw [e2] at h2
  have l1 : (cB m s).f0.length = s.f0.length := by simp [cB]
  have l2 : (cB m s).f3.length = s.f3.length := by simp [cB]
  have b1 := hs.1.1
  have b2 := hs.2.1
  rw [l1] at h1
  rw [l2] at h2
  omega
end Go.Proofs.Ytmoiacijklkfaaa.G

/- G29 -/
-- Laid by wip/g/gprint.py out of the translation, by the kit's print program. Lean checks it.
namespace Go.Proofs.Ytmoiacijklkfaaa.G
open Go.RowKit Go.Proofs.YtmoiacijklkfaaaW.PrintWords Go.Proofs.YtmoiacijklkfaaaW.PrintLast Go.Proofs.YtmoiacijklkfaaaW.PrintMore
attribute [local go_sem] max2_int min2_int max_two min_two max_three min_three max_four min_four   -- for this text's walks alone
set_option linter.unusedVariables false
set_option linter.unusedSimpArgs false

/-! ### spec_Objs: function 29 -/
def spec_Objs.l0 : Nat → Int → List (S46) → Int → List (S46) → Int → Int → List (S90) → Option ((List (S46)))
  | 0, _, _, _, _, _, _, _ => none
  | k + 1, x1, x5, x6, x1273000, x1273001, x1273002, x1273003 => if x6 < (x1273000.length : Int) then (if 0 ≤ x6 then (if ((rd_T46 x1273000 x6).f0) = x1 then ((spec_l7Copy.f k ((rd_T46 x1273000 x6).f0) ((rd_T46 x1273000 x6).f1) ((rd_T46 x1273000 x6).f2) ((rd_T46 x1273000 x6).f3) ((rd_T46 x1273000 x6).f4) ((rd_T46 x1273000 x6).f5) ((rd_T46 x1273000 x6).f6) ((rd_T46 x1273000 x6).f7.f0) ((rd_T46 x1273000 x6).f7.f1) ((rd_T46 x1273000 x6).f7.f2) ((rd_T46 x1273000 x6).f7.f3) ((rd_T46 x1273000 x6).f7.f4) ((rd_T46 x1273000 x6).f8.f0) ((rd_T46 x1273000 x6).f8.f1) ((rd_T46 x1273000 x6).f8.f2) ((rd_T46 x1273000 x6).f8.f3) ((rd_T46 x1273000 x6).f8.f4)).bind fun bt1278 => (if x5.length < 586406201480 then (spec_Objs.l0 k x1 (x5 ++ [(⟨bt1278.1, bt1278.2.1, bt1278.2.2.1, bt1278.2.2.2.1, bt1278.2.2.2.2.1, bt1278.2.2.2.2.2.1, bt1278.2.2.2.2.2.2.1, (⟨bt1278.2.2.2.2.2.2.2.1, bt1278.2.2.2.2.2.2.2.2.1, bt1278.2.2.2.2.2.2.2.2.2.1, bt1278.2.2.2.2.2.2.2.2.2.2.1, bt1278.2.2.2.2.2.2.2.2.2.2.2.1⟩ : S44), (⟨bt1278.2.2.2.2.2.2.2.2.2.2.2.2.1, bt1278.2.2.2.2.2.2.2.2.2.2.2.2.2.1, bt1278.2.2.2.2.2.2.2.2.2.2.2.2.2.2.1, bt1278.2.2.2.2.2.2.2.2.2.2.2.2.2.2.2.1, bt1278.2.2.2.2.2.2.2.2.2.2.2.2.2.2.2.2⟩ : S44)⟩ : S46)]) (wrap64 (x6 + 1)) x1273000 x1273001 x1273002 x1273003) else (none))) else (spec_Objs.l0 k x1 x5 (wrap64 (x6 + 1)) x1273000 x1273001 x1273002 x1273003)) else (none)) else (some x5)
def spec_Objs.f (k : Nat) (l0_0 : List (S46)) (a0_1 : Int) (a0_2 : Int) (l0_3 : List (S90)) (a1 : Int) : Option ((List (S46))) := spec_Objs.l0 k a1 (([] : List (S46))) 0 l0_0 a0_1 a0_2 l0_3
set_option maxHeartbeats 8000000 in
set_option maxRecDepth 100000 in
theorem spec_Objs.calls (k : Nat) (A0_0 : Option Addr) (c0_0 : Nat) (l0_0 : List (S46)) (a0_1 : Int) (a0_2 : Int) (A0_3 : Option Addr) (c0_3 : Nat) (l0_3 : List (S90)) (a1 : Int) (r : List (S46)) (w : World) (hr0_0 : Kd.C k46 w A0_0 l0_0.length l0_0) (hc0_0 : l0_0.length ≤ c0_0) (hr0_3 : Kd.C k90 w A0_3 l0_3.length l0_3) (hc0_3 : l0_3.length ≤ c0_3) (h : spec_Objs.f k l0_0 a0_1 a0_2 l0_3 a1 = some r) :
    Calls Try.prog 29 #[.agg #[.slice A0_0 l0_0.length c0_0, .int .i64 a0_1, .int .i64 a0_2, .slice A0_3 l0_3.length c0_3], .int .i64 a1] w fun e w' => ∃ v0_ : Value, e = .returned (v0_) ∧ Kd.R k46 46 w' w.heap.size (fun _ => True) v0_ r ∧ Below w.heap.size w w' := by
  have hu30 := Try.underlying30
  have hu46 := Try.underlying46
  have HR0_0 := Aside0.mk hr0_0
  have HC0_0 := Aside0.mk hc0_0
  clear hr0_0 hc0_0
  have HR0_3 := Aside0.mk hr0_3
  have HC0_3 := Aside0.mk hc0_3
  clear hr0_3 hc0_3
  have HB := Aside0.mk (Below.refl w.heap.size w)
  have H : (spec_Objs.l0 k a1 (([] : List (S46))) 0 l0_0 a0_1 a0_2 l0_3) = some r := h
  clear h
  obtain ⟨y1273, hy1273⟩ : ∃ y_ : List (S46), y_ = (([] : List (S46))) := ⟨_, rfl⟩
  replace H : (spec_Objs.l0 k a1 y1273 0 l0_0 a0_1 a0_2 l0_3) = some r := by first | (rw [hy1273]; with_reducible exact H) | (have H2_ := (Option.bind_some _ _).symm.trans H; rw [hy1273]; with_reducible exact H2_) | (have H2_ := (Option.bind_some _ _).symm.trans H; with_reducible exact H2_) | with_reducible exact H | (rw [hy1273]; exact H) | exact H
  have Ny1273 := Aside0.mk hy1273
  clear hy1273
  have H' := Aside0.mk H
  clear H
  go_enter Try.func29, Try.ntmps29
  go_wp2_with (first | ((with_reducible refine gate_dst (N := 2) rfl ?_); refine box_event ?hg (N := 2) ?hd (cs := #[.slice A0_0 l0_0.length c0_0, .int .i64 a0_1, .int .i64 a0_2, .slice A0_3 l0_3.length c0_3]) (t := 30) ?hr ?_; (case hd => rfl); (case hg => rfl); (case hr => first | (go_simp; done) | (go_simp; rfl)); intro gb1272 hg w3 hbox hb; have n0_ := Aside0.mk (below_step (by repeat (first | (with_reducible first | exact HB.out | apply below_alloc | apply pw_below_drewN | apply below_drew1) | exact HB.out)) hb); have n1_ := Aside0.mk (hbox); have n2_ := Aside0.mk ((by rw [hg]; exact (below_size (by repeat (first | (with_reducible first | exact HB.out | apply below_alloc | apply pw_below_drewN | apply below_drew1) | exact HB.out))) : w.heap.size ≤ gb1272)); have n3_ := Aside0.mk ((by rw [hg]; exact (below_size (by repeat (first | (with_reducible first | exact HB.out | apply below_alloc | apply pw_below_drewN | apply below_drew1) | exact HB.out))) : w.heap.size ≤ gb1272)); clear HB; have HB := n0_; have BK1272 := n1_; have GW1272 := n2_; have GE1272 := n3_; clear n0_ n1_ n2_ n3_; clear hb hbox hg) | ((with_reducible refine gate_dst (N := 7) rfl ?_); refine Kd.R_lit k46 _ 46 ?hg (N := 7) ?hd (xs := ([] : List (S46))) (inner := []) (ok := fun _ => True) (okp := fun _ => True) ?hr ?hp (fun _ hk => hk) trivial (Below.refl _ _) (Nat.le_refl _) (by simp) ?_; (case hd => rfl); (case hg => rfl); (case hr => first | (go_simp; done) | (go_simp; rfl)); (case hp => exact (Reps.none _ _)); intro v1274 w4 ho5 hb hg_ hnew_; clear hg_ hnew_; (first | rw [← Ny1273.out] at ho5 | (simp only [Int.reduceToNat] at ho5; rw [← Ny1273.out] at ho5)); have n0_ := Aside0.mk (Kd.R_lower ho5 (below_size (by repeat (first | (with_reducible first | exact HB.out | apply below_alloc | apply pw_below_drewN | apply below_drew1 | refine below_set ?_ GE1272.out) | exact HB.out)))); have n1_ := Aside0.mk (blk_below (g := gb1272) (o := .cells #[.slice A0_0 l0_0.length c0_0, .int .i64 a0_1, .int .i64 a0_2, .slice A0_3 l0_3.length c0_3] 30 (0, 0)) (by (with_reducible repeat (first | refine blk_drewN ?_ _ | refine blk_drew ?_ | refine blk_alloc ?_ _)); exact BK1272.out) hb); have n2_ := Aside0.mk (below_step (by repeat (first | (with_reducible first | exact HB.out | apply below_alloc | apply pw_below_drewN | apply below_drew1 | refine below_set ?_ GE1272.out) | exact HB.out)) hb); clear BK1272; clear HB; have HO1275 := n0_; have BK1272 := n1_; have HB := n2_; clear n0_ n1_ n2_; clear hb ho5))
  go_loopg [5, 6] k (fun kq v5 v6 w' => ∃ (x5_1 : List (S46)) (x6_1 : Int), v6 = .int .i64 x6_1 ∧ Aside0 (spec_Objs.l0 kq a1 x5_1 x6_1 l0_0 a0_1 a0_2 l0_3 = some r) ∧ Aside0 (kq ≤ k) ∧ Aside0 (Kd.R k46 46 w' w.heap.size (fun _ => True) v5 x5_1) ∧ Aside0 (w'.heap[gb1272]? = some (.cells #[(.slice A0_0 l0_0.length c0_0), .int .i64 a0_1, .int .i64 a0_2, (.slice A0_3 l0_3.length c0_3)] 30 (0, 0))) ∧ Aside0 (Below w.heap.size w w'))
  case atStart => exact ⟨(y1273), (0), (by first | rfl | (simp; done) | (simp [*]; done)), H', ⟨Nat.le_refl _⟩, ⟨by (with_reducible repeat (first | apply Kd.R_alloc | apply Kd.R_drewN | apply Kd.R_drew)); exact HO1275.out⟩, ⟨by (with_reducible repeat (first | refine blk_drewN ?_ _ | refine blk_drew ?_ | refine blk_alloc ?_ _)); exact BK1272.out⟩, ⟨by repeat (first | (with_reducible first | exact HB.out | apply below_alloc | apply pw_below_drewN | apply below_drew1 | refine below_set ?_ GE1272.out) | exact HB.out)⟩⟩
  case round =>
    clear H'
    try clear c2
    try clear p2
    obtain ⟨x5_1, x6_1, rfl, HA, HK1, HO_5, BK1272, HB⟩ := hrel
    cases gk with
    | zero => exact absurd HA.out (by simp [spec_Objs.l0])
    | succ k1 =>
      have H := HA.out
      clear HA
      simp only [spec_Objs.l0] at H
      by_cases c6 : x6_1 < (l0_0.length : Int)
      · rw [if_pos c6] at H
        have c6b0 : decide (x6_1 < (l0_0.length : Int)) = true := decide_eq_true c6
        clear c6
        by_cases c7 : 0 ≤ x6_1
        · rw [if_pos c7] at H
          have c7b0 : decide (0 ≤ x6_1) = true := decide_eq_true c7
          clear c7
          by_cases c8 : ((rd_T46 l0_0 x6_1).f0) = a1
          · rw [if_pos c8] at H
            have c8b0 : (((rd_T46 l0_0 x6_1).f0) == a1) = true := beq_iff_eq.mpr c8
            have c8b1 : (((rd_T46 l0_0 x6_1).f0) != a1) = false := bne_eq_false_iff_eq.mpr c8
            clear c8
            replace H := Option.bind_eq_some_iff.mp H
            obtain ⟨⟨t1278, t1279, t1280, t1281, t1282, t1283, t1284, t1287, t1288, t1289, t1290, t1293, t1296, t1297, t1298, t1299, t1302⟩, A90, H⟩ := H
            replace H : (if x5_1.length < 586406201480 then (spec_Objs.l0 k1 a1 (x5_1 ++ [(⟨t1278, t1279, t1280, t1281, t1282, t1283, t1284, (⟨t1287, t1288, t1289, t1290, t1293⟩ : S44), (⟨t1296, t1297, t1298, t1299, t1302⟩ : S44)⟩ : S46)]) (wrap64 (x6_1 + 1)) l0_0 a0_1 a0_2 l0_3) else (none)) = some r := H
            have A9 := Aside0.mk A90
            clear A90
            by_cases c10 : x5_1.length < 586406201480
            · rw [if_pos c10] at H
              have LMc10 := Aside0.mk c10
              clear c10
              obtain ⟨y1305, hy1305⟩ : ∃ y_ : List (S46), y_ = (x5_1 ++ [(⟨t1278, t1279, t1280, t1281, t1282, t1283, t1284, (⟨t1287, t1288, t1289, t1290, t1293⟩ : S44), (⟨t1296, t1297, t1298, t1299, t1302⟩ : S44)⟩ : S46)]) := ⟨_, rfl⟩
              replace H : (spec_Objs.l0 k1 a1 y1305 (wrap64 (x6_1 + 1)) l0_0 a0_1 a0_2 l0_3) = some r := by first | (rw [hy1305]; with_reducible exact H) | (have H2_ := (Option.bind_some _ _).symm.trans H; rw [hy1305]; with_reducible exact H2_) | (have H2_ := (Option.bind_some _ _).symm.trans H; with_reducible exact H2_) | with_reducible exact H | (rw [hy1305]; exact H) | exact H
              have Ny1305 := Aside0.mk hy1305
              clear hy1305
              have H' := Aside0.mk H
              clear H
              have hcz11_0 : wr.cell? ⟨gb1272, 0, none⟩ = some (.slice A0_0 l0_0.length c0_0) := (blk_cell BK1272.out 0).trans rfl
              have hcz11_1 : wr.cell? ⟨gb1272, 1, none⟩ = some (.int .i64 a0_1) := (blk_cell BK1272.out 1).trans rfl
              have hcz11_2 : wr.cell? ⟨gb1272, 2, none⟩ = some (.int .i64 a0_2) := (blk_cell BK1272.out 2).trans rfl
              have hcz11_3 : wr.cell? ⟨gb1272, 3, none⟩ = some (.slice A0_3 l0_3.length c0_3) := (blk_cell BK1272.out 3).trans rfl
              have hfz11_0 := blk_frozen BK1272.out 0
              have hfz11_1 := blk_frozen BK1272.out 1
              have hfz11_2 := blk_frozen BK1272.out 2
              have hfz11_3 := blk_frozen BK1272.out 3
              have p1276 : 0 ≤ (x6_1 : Int) := of_decide_eq_true (by first | (with_reducible assumption) | assumption)
              have q1276 : x6_1 < (l0_0.length : Int) := of_decide_eq_true (by first | (with_reducible assumption) | assumption)
              obtain ⟨ad1276, A1276_6, c1276_6, A1276_10, c1276_10, A1276_11, c1276_11, A1276_15, c1276_15, A1276_16, c1276_16, e1276, hx1276_0, hx1276_1, hx1276_2, hx1276_3, hx1276_4, hx1276_5, hx1276_6, hx1276_7, hx1276_8, hx1276_9, hx1276_10, hx1276_11, hx1276_12, hx1276_13, hx1276_14, hx1276_15, hx1276_16, hl1276_6, hi1276_6, hl1276_10, hi1276_10, hl1276_11, hi1276_11, hl1276_15, hi1276_15, hl1276_16, hi1276_16⟩ := at_T46 HR0_0.out x6_1 p1276 q1276
              cases e1276
              replace hx1276_0 := (HB.out.cell (World.block_lt_of_cell? w _ hx1276_0)).trans hx1276_0
              replace hx1276_1 := (HB.out.cell (World.block_lt_of_cell? w _ hx1276_1)).trans hx1276_1
              replace hx1276_2 := (HB.out.cell (World.block_lt_of_cell? w _ hx1276_2)).trans hx1276_2
              replace hx1276_3 := (HB.out.cell (World.block_lt_of_cell? w _ hx1276_3)).trans hx1276_3
              replace hx1276_4 := (HB.out.cell (World.block_lt_of_cell? w _ hx1276_4)).trans hx1276_4
              replace hx1276_5 := (HB.out.cell (World.block_lt_of_cell? w _ hx1276_5)).trans hx1276_5
              replace hx1276_6 := (HB.out.cell (World.block_lt_of_cell? w _ hx1276_6)).trans hx1276_6
              replace hx1276_7 := (HB.out.cell (World.block_lt_of_cell? w _ hx1276_7)).trans hx1276_7
              replace hx1276_8 := (HB.out.cell (World.block_lt_of_cell? w _ hx1276_8)).trans hx1276_8
              replace hx1276_9 := (HB.out.cell (World.block_lt_of_cell? w _ hx1276_9)).trans hx1276_9
              replace hx1276_10 := (HB.out.cell (World.block_lt_of_cell? w _ hx1276_10)).trans hx1276_10
              replace hx1276_11 := (HB.out.cell (World.block_lt_of_cell? w _ hx1276_11)).trans hx1276_11
              replace hx1276_12 := (HB.out.cell (World.block_lt_of_cell? w _ hx1276_12)).trans hx1276_12
              replace hx1276_13 := (HB.out.cell (World.block_lt_of_cell? w _ hx1276_13)).trans hx1276_13
              replace hx1276_14 := (HB.out.cell (World.block_lt_of_cell? w _ hx1276_14)).trans hx1276_14
              replace hx1276_15 := (HB.out.cell (World.block_lt_of_cell? w _ hx1276_15)).trans hx1276_15
              replace hx1276_16 := (HB.out.cell (World.block_lt_of_cell? w _ hx1276_16)).trans hx1276_16
              have HR1276_6 := Aside0.mk hi1276_6
              have HC1276_6 := Aside0.mk hl1276_6
              clear hi1276_6 hl1276_6
              have HR1276_10 := Aside0.mk hi1276_10
              have HC1276_10 := Aside0.mk hl1276_10
              clear hi1276_10 hl1276_10
              have HR1276_11 := Aside0.mk hi1276_11
              have HC1276_11 := Aside0.mk hl1276_11
              clear hi1276_11 hl1276_11
              have HR1276_15 := Aside0.mk hi1276_15
              have HC1276_15 := Aside0.mk hl1276_15
              clear hi1276_15 hl1276_15
              have HR1276_16 := Aside0.mk hi1276_16
              have HC1276_16 := Aside0.mk hl1276_16
              clear hi1276_16 hl1276_16
              replace p1276 := eq_true p1276
              replace q1276 := eq_true q1276
              have p1277 : 0 ≤ (x6_1 : Int) := of_decide_eq_true (by first | (with_reducible assumption) | assumption)
              have q1277 : x6_1 < (l0_0.length : Int) := of_decide_eq_true (by first | (with_reducible assumption) | assumption)
              obtain ⟨ad1277, A1277_6, c1277_6, A1277_10, c1277_10, A1277_11, c1277_11, A1277_15, c1277_15, A1277_16, c1277_16, e1277, hx1277_0, hx1277_1, hx1277_2, hx1277_3, hx1277_4, hx1277_5, hx1277_6, hx1277_7, hx1277_8, hx1277_9, hx1277_10, hx1277_11, hx1277_12, hx1277_13, hx1277_14, hx1277_15, hx1277_16, hl1277_6, hi1277_6, hl1277_10, hi1277_10, hl1277_11, hi1277_11, hl1277_15, hi1277_15, hl1277_16, hi1277_16⟩ := at_T46 HR0_0.out x6_1 p1277 q1277
              obtain rfl : ad1276 = ad1277 := (by injection e1277)
              replace hx1277_0 := (HB.out.cell (World.block_lt_of_cell? w _ hx1277_0)).trans hx1277_0
              replace hx1277_1 := (HB.out.cell (World.block_lt_of_cell? w _ hx1277_1)).trans hx1277_1
              replace hx1277_2 := (HB.out.cell (World.block_lt_of_cell? w _ hx1277_2)).trans hx1277_2
              replace hx1277_3 := (HB.out.cell (World.block_lt_of_cell? w _ hx1277_3)).trans hx1277_3
              replace hx1277_4 := (HB.out.cell (World.block_lt_of_cell? w _ hx1277_4)).trans hx1277_4
              replace hx1277_5 := (HB.out.cell (World.block_lt_of_cell? w _ hx1277_5)).trans hx1277_5
              replace hx1277_6 := (HB.out.cell (World.block_lt_of_cell? w _ hx1277_6)).trans hx1277_6
              replace hx1277_7 := (HB.out.cell (World.block_lt_of_cell? w _ hx1277_7)).trans hx1277_7
              replace hx1277_8 := (HB.out.cell (World.block_lt_of_cell? w _ hx1277_8)).trans hx1277_8
              replace hx1277_9 := (HB.out.cell (World.block_lt_of_cell? w _ hx1277_9)).trans hx1277_9
              replace hx1277_10 := (HB.out.cell (World.block_lt_of_cell? w _ hx1277_10)).trans hx1277_10
              replace hx1277_11 := (HB.out.cell (World.block_lt_of_cell? w _ hx1277_11)).trans hx1277_11
              replace hx1277_12 := (HB.out.cell (World.block_lt_of_cell? w _ hx1277_12)).trans hx1277_12
              replace hx1277_13 := (HB.out.cell (World.block_lt_of_cell? w _ hx1277_13)).trans hx1277_13
              replace hx1277_14 := (HB.out.cell (World.block_lt_of_cell? w _ hx1277_14)).trans hx1277_14
              replace hx1277_15 := (HB.out.cell (World.block_lt_of_cell? w _ hx1277_15)).trans hx1277_15
              replace hx1277_16 := (HB.out.cell (World.block_lt_of_cell? w _ hx1277_16)).trans hx1277_16
              have HR1277_6 := Aside0.mk hi1277_6
              have HC1277_6 := Aside0.mk hl1277_6
              clear hi1277_6 hl1277_6
              have HR1277_10 := Aside0.mk hi1277_10
              have HC1277_10 := Aside0.mk hl1277_10
              clear hi1277_10 hl1277_10
              have HR1277_11 := Aside0.mk hi1277_11
              have HC1277_11 := Aside0.mk hl1277_11
              clear hi1277_11 hl1277_11
              have HR1277_15 := Aside0.mk hi1277_15
              have HC1277_15 := Aside0.mk hl1277_15
              clear hi1277_15 hl1277_15
              have HR1277_16 := Aside0.mk hi1277_16
              have HC1277_16 := Aside0.mk hl1277_16
              clear hi1277_16 hl1277_16
              replace p1277 := eq_true p1277
              replace q1277 := eq_true q1277
              have ea_ := Option.some.inj (hx1276_6.symm.trans hx1277_6)
              injection ea_ with ea_ en_ ec_
              subst ea_
              subst ec_
              clear en_
              have ea_ := Option.some.inj (hx1276_10.symm.trans hx1277_10)
              injection ea_ with ea_ en_ ec_
              subst ea_
              subst ec_
              clear en_
              have ea_ := Option.some.inj (hx1276_11.symm.trans hx1277_11)
              injection ea_ with ea_ en_ ec_
              subst ea_
              subst ec_
              clear en_
              have ea_ := Option.some.inj (hx1276_15.symm.trans hx1277_15)
              injection ea_ with ea_ en_ ec_
              subst ea_
              subst ec_
              clear en_
              have ea_ := Option.some.inj (hx1276_16.symm.trans hx1277_16)
              injection ea_ with ea_ en_ ec_
              subst ea_
              subst ec_
              clear en_
              go_wp2_with (first | ((with_reducible refine gate_callee (f := 75) rfl ?_); refine goesL_ (some 29) rfl rfl Try.func75 (by kernel_rfl) rfl #[.agg #[.int .i64 ((rd_T46 l0_0 x6_1).f0), .string ((rd_T46 l0_0 x6_1).f1), .int .i64 ((rd_T46 l0_0 x6_1).f2), .int .i64 ((rd_T46 l0_0 x6_1).f3), .int .i64 ((rd_T46 l0_0 x6_1).f4), .bool ((rd_T46 l0_0 x6_1).f5), .slice A1276_6 ((rd_T46 l0_0 x6_1).f6).length c1276_6, .int .i64 ((rd_T46 l0_0 x6_1).f7.f0), .string ((rd_T46 l0_0 x6_1).f7.f1), .int .i64 ((rd_T46 l0_0 x6_1).f7.f2), .slice A1276_10 ((rd_T46 l0_0 x6_1).f7.f3).length c1276_10, .slice A1276_11 ((rd_T46 l0_0 x6_1).f7.f4).length c1276_11, .int .i64 ((rd_T46 l0_0 x6_1).f8.f0), .string ((rd_T46 l0_0 x6_1).f8.f1), .int .i64 ((rd_T46 l0_0 x6_1).f8.f2), .slice A1276_15 ((rd_T46 l0_0 x6_1).f8.f3).length c1276_15, .slice A1276_16 ((rd_T46 l0_0 x6_1).f8.f4).length c1276_16]] rfl (by (try simp only [List.map_toArray, List.map_cons, List.map_nil]); first | done | rfl | (simp only [List.length_drop, List.length_take]; rfl)) ?_; (with_reducible refine (spec_l7Copy.calls k1 ((rd_T46 l0_0 x6_1).f0) ((rd_T46 l0_0 x6_1).f1) ((rd_T46 l0_0 x6_1).f2) ((rd_T46 l0_0 x6_1).f3) ((rd_T46 l0_0 x6_1).f4) ((rd_T46 l0_0 x6_1).f5) _ _ ((rd_T46 l0_0 x6_1).f6) ((rd_T46 l0_0 x6_1).f7.f0) ((rd_T46 l0_0 x6_1).f7.f1) ((rd_T46 l0_0 x6_1).f7.f2) _ _ ((rd_T46 l0_0 x6_1).f7.f3) _ _ ((rd_T46 l0_0 x6_1).f7.f4) ((rd_T46 l0_0 x6_1).f8.f0) ((rd_T46 l0_0 x6_1).f8.f1) ((rd_T46 l0_0 x6_1).f8.f2) _ _ ((rd_T46 l0_0 x6_1).f8.f3) _ _ ((rd_T46 l0_0 x6_1).f8.f4) t1278 t1279 t1280 t1281 t1282 t1283 t1284 t1287 t1288 t1289 t1290 t1293 t1296 t1297 t1298 t1299 t1302 _ ?side1 ?side2 ?side3 ?side4 ?side5 ?side6 ?side7 ?side8 ?side9 ?side10 A9.out).mono ?_); (case side1 => repeat (first | exact (Kd.C_below HR1277_6.out HB.out) | (with_reducible refine Kd.C_alloc ?_ _) | (with_reducible refine Kd.C_drewN ?_ _) | (with_reducible refine Kd.C_drew ?_))); (case side2 => exact HC1277_6.out); (case side3 => repeat (first | exact (Kd.C_below HR1277_10.out HB.out) | (with_reducible refine Kd.C_alloc ?_ _) | (with_reducible refine Kd.C_drewN ?_ _) | (with_reducible refine Kd.C_drew ?_))); (case side4 => exact HC1277_10.out); (case side5 => repeat (first | exact (Kd.C_below HR1277_11.out HB.out) | (with_reducible refine Kd.C_alloc ?_ _) | (with_reducible refine Kd.C_drewN ?_ _) | (with_reducible refine Kd.C_drew ?_))); (case side6 => exact HC1277_11.out); (case side7 => repeat (first | exact (Kd.C_below HR1277_15.out HB.out) | (with_reducible refine Kd.C_alloc ?_ _) | (with_reducible refine Kd.C_drewN ?_ _) | (with_reducible refine Kd.C_drew ?_))); (case side8 => exact HC1277_15.out); (case side9 => repeat (first | exact (Kd.C_below HR1277_16.out HB.out) | (with_reducible refine Kd.C_alloc ?_ _) | (with_reducible refine Kd.C_drewN ?_ _) | (with_reducible refine Kd.C_drew ?_))); (case side10 => exact HC1277_16.out); rintro e w12 ⟨v1285, v1291, v1294, v1300, v1303, rfl, ho0, ho1, ho2, ho3, ho4, hb⟩; refine ⟨_, rfl, ?_⟩; have n0_ := Aside0.mk (Kd.R_mono (Kd.R_told (Kd.R_told (Kd.R_told (Kd.R_told (Kd.R_told (Kd.R_old (by (with_reducible repeat (first | apply Kd.R_alloc | apply Kd.R_drewN | apply Kd.R_drew)); exact HO_5.out) hb) (Kd.R_base ho0)) (Kd.R_base ho1)) (Kd.R_base ho2)) (Kd.R_base ho3)) (Kd.R_base ho4)) (fun _ h_ => h_.1)); have n1_ := Aside0.mk (Kd.R_lower ho0 (below_size (by repeat (first | (with_reducible first | exact HB.out | apply below_alloc | apply pw_below_drewN | apply below_drew1 | refine below_set ?_ GE1272.out) | exact HB.out)))); have n2_ := Aside0.mk (Kd.R_lower ho1 (below_size (by repeat (first | (with_reducible first | exact HB.out | apply below_alloc | apply pw_below_drewN | apply below_drew1 | refine below_set ?_ GE1272.out) | exact HB.out)))); have n3_ := Aside0.mk (Kd.R_lower ho2 (below_size (by repeat (first | (with_reducible first | exact HB.out | apply below_alloc | apply pw_below_drewN | apply below_drew1 | refine below_set ?_ GE1272.out) | exact HB.out)))); have n4_ := Aside0.mk (Kd.R_lower ho3 (below_size (by repeat (first | (with_reducible first | exact HB.out | apply below_alloc | apply pw_below_drewN | apply below_drew1 | refine below_set ?_ GE1272.out) | exact HB.out)))); have n5_ := Aside0.mk (Kd.R_lower ho4 (below_size (by repeat (first | (with_reducible first | exact HB.out | apply below_alloc | apply pw_below_drewN | apply below_drew1 | refine below_set ?_ GE1272.out) | exact HB.out)))); have n6_ := Aside0.mk (blk_below (g := gb1272) (o := .cells #[.slice (some ad1276) l0_0.length c0_0, .int .i64 a0_1, .int .i64 a0_2, .slice A0_3 l0_3.length c0_3] 30 (0, 0)) (by (with_reducible repeat (first | refine blk_drewN ?_ _ | refine blk_drew ?_ | refine blk_alloc ?_ _)); exact BK1272.out) hb); have n7_ := Aside0.mk (below_step (by repeat (first | (with_reducible first | exact HB.out | apply below_alloc | apply pw_below_drewN | apply below_drew1 | refine below_set ?_ GE1272.out) | exact HB.out)) hb); clear HO_5; clear BK1272; clear HB; have HO_5 := n0_; have HO1286 := n1_; have HO1292 := n2_; have HO1295 := n3_; have HO1301 := n4_; have HO1304 := n5_; have BK1272 := n6_; have HB := n7_; clear n0_ n1_ n2_ n3_ n4_ n5_ n6_ n7_; (try clear hb); (try clear hb2); (try clear hk); (try clear hi); (try clear ho0); (try clear ho1); (try clear ho2); (try clear ho3); (try clear ho4); obtain ⟨Ao14, co14, eo14⟩ := Kd.R_slice HO1286.out; subst eo14; obtain ⟨Ao15, co15, eo15⟩ := Kd.R_slice HO1292.out; subst eo15; obtain ⟨Ao16, co16, eo16⟩ := Kd.R_slice HO1295.out; subst eo16; obtain ⟨Ao17, co17, eo17⟩ := Kd.R_slice HO1301.out; subst eo17; obtain ⟨Ao18, co18, eo18⟩ := Kd.R_slice HO1304.out; subst eo18) | ((with_reducible refine gate_builtin (b := .append) (xs := #[.tmp 23, .tmp 30]) rfl ?_); at_builtin; refine Kd.R_append k46 (w0 := w) w.heap.size rfl (.tmp 23) (.tmp 30) 27 46 (.agg #[(.int .i64 0), (.string ⟨#[]⟩), (.int .i64 0), (.int .i64 0), (.int .i64 0), (.bool false), (.slice none 0 0), (.int .i64 0), (.string ⟨#[]⟩), (.int .i64 0), (.slice none 0 0), (.slice none 0 0), (.int .i64 0), (.string ⟨#[]⟩), (.int .i64 0), (.slice none 0 0), (.slice none 0 0)]) 240 rfl Try.underlying27 info46 rfl (by decide) (by omega) u5 x5_1 (⟨t1278, t1279, t1280, t1281, t1282, t1283, t1284, (⟨t1287, t1288, t1289, t1290, t1293⟩ : S44), (⟨t1296, t1297, t1298, t1299, t1302⟩ : S44)⟩ : S46) [.int .i64 t1278, .string t1279, .int .i64 t1280, .int .i64 t1281, .int .i64 t1282, .bool t1283, .slice Ao14 t1284.length co14, .int .i64 t1287, .string t1288, .int .i64 t1289, .slice Ao15 t1290.length co15, .slice Ao16 t1293.length co16, .int .i64 t1296, .string t1297, .int .i64 t1298, .slice Ao17 t1299.length co17, .slice Ao18 t1302.length co18] (fun _ => True) (fun k_ => ((fun _ => True)) k_ ∧ some k_ ≠ (u5 : Value).ownBlock) rfl rfl ?aP (fun _ hk => hk) ?aF ?aO ?aB ?aS ?aL ?_; (case aP => exact k46_mkM _ _ _ (⟨t1278, t1279, t1280, t1281, t1282, t1283, t1284, (⟨t1287, t1288, t1289, t1290, t1293⟩ : S44), (⟨t1296, t1297, t1298, t1299, t1302⟩ : S44)⟩ : S46) (Kd.R_mono (Kd.R_apart' (HO1286.out) (Kd.R_typed HO_5.out) (by decide)) (fun k_ hk => ⟨trivial, hk.2⟩)) (Kd.R_mono (Kd.R_apart' (HO1292.out) (Kd.R_typed HO_5.out) (by decide)) (fun k_ hk => ⟨trivial, hk.2⟩)) (Kd.R_mono (Kd.R_apart' (HO1295.out) (Kd.R_typed HO_5.out) (by decide)) (fun k_ hk => ⟨trivial, hk.2⟩)) (Kd.R_mono (Kd.R_apart' (HO1301.out) (Kd.R_typed HO_5.out) (by decide)) (fun k_ hk => ⟨trivial, hk.2⟩)) (Kd.R_mono (Kd.R_apart' (HO1304.out) (Kd.R_typed HO_5.out) (by decide)) (fun k_ hk => ⟨trivial, hk.2⟩))); (case aB => exact (by repeat (first | (with_reducible first | exact HB.out | apply below_alloc | apply pw_below_drewN | apply below_drew1 | refine below_set ?_ GE1272.out) | exact HB.out))); (case aF => exact (fun _ _ => trivial)); (case aO => exact (by (with_reducible repeat (first | apply Kd.R_alloc | apply Kd.R_drewN | apply Kd.R_drew)); exact Kd.R_mono HO_5.out (fun _ hk => trivial))); (case aS => exact (below_size (by repeat (first | (with_reducible first | exact HB.out | apply below_alloc | apply pw_below_drewN | apply below_drew1 | refine below_set ?_ GE1272.out) | exact HB.out)))); (case aL => have := LMc10.out; omega); intro v1306 w13 ho hb hg hat; rw [← Ny1305.out] at ho; have n0_ := Aside0.mk (blk_grown (g := gb1272) (o := .cells #[.slice (some ad1276) l0_0.length c0_0, .int .i64 a0_1, .int .i64 a0_2, .slice A0_3 l0_3.length c0_3] 30 (0, 0)) (by (with_reducible repeat (first | refine blk_drewN ?_ _ | refine blk_drew ?_ | refine blk_alloc ?_ _)); exact BK1272.out) hg (Kd.R_ne HO_5.out BK1272.out (by decide))); have n1_ := Aside0.mk (hb); have n2_ := Aside0.mk (ho); clear BK1272; clear HB; clear HO_5; clear HO1286; clear HO1292; clear HO1295; clear HO1301; clear HO1304; have BK1272 := n0_; have HB := n1_; have HO1307 := n2_; clear n0_ n1_ n2_; clear ho hb hg hat))
              go_roundg k1
              case measure => have := HK1.out; omega
              case rel => exact ⟨(y1305), (wrap64 (x6_1 + 1)), (by first | rfl | (simp; done) | (simp [*]; done)), H', ⟨by have := HK1.out; omega⟩, ⟨by (with_reducible repeat (first | apply Kd.R_alloc | apply Kd.R_drewN | apply Kd.R_drew)); exact HO1307.out⟩, ⟨by (with_reducible repeat (first | refine blk_drewN ?_ _ | refine blk_drew ?_ | refine blk_alloc ?_ _)); exact BK1272.out⟩, ⟨by repeat (first | (with_reducible first | exact HB.out | apply below_alloc | apply pw_below_drewN | apply below_drew1 | refine below_set ?_ GE1272.out) | exact HB.out)⟩⟩
            · rw [if_neg c10] at H
              exact absurd H (by simp)
          · rw [if_neg c8] at H
            have c8b0 : (((rd_T46 l0_0 x6_1).f0) == a1) = false := beq_eq_false_iff_ne.mpr c8
            have c8b1 : (((rd_T46 l0_0 x6_1).f0) != a1) = true := bne_iff_ne.mpr c8
            have H' := Aside0.mk H
            clear H
            have hcz19_0 : wr.cell? ⟨gb1272, 0, none⟩ = some (.slice A0_0 l0_0.length c0_0) := (blk_cell BK1272.out 0).trans rfl
            have hcz19_1 : wr.cell? ⟨gb1272, 1, none⟩ = some (.int .i64 a0_1) := (blk_cell BK1272.out 1).trans rfl
            have hcz19_2 : wr.cell? ⟨gb1272, 2, none⟩ = some (.int .i64 a0_2) := (blk_cell BK1272.out 2).trans rfl
            have hcz19_3 : wr.cell? ⟨gb1272, 3, none⟩ = some (.slice A0_3 l0_3.length c0_3) := (blk_cell BK1272.out 3).trans rfl
            have hfz19_0 := blk_frozen BK1272.out 0
            have hfz19_1 := blk_frozen BK1272.out 1
            have hfz19_2 := blk_frozen BK1272.out 2
            have hfz19_3 := blk_frozen BK1272.out 3
            have p1276 : 0 ≤ (x6_1 : Int) := of_decide_eq_true (by first | (with_reducible assumption) | assumption)
            have q1276 : x6_1 < (l0_0.length : Int) := of_decide_eq_true (by first | (with_reducible assumption) | assumption)
            obtain ⟨ad1276, A1276_6, c1276_6, A1276_10, c1276_10, A1276_11, c1276_11, A1276_15, c1276_15, A1276_16, c1276_16, e1276, hx1276_0, hx1276_1, hx1276_2, hx1276_3, hx1276_4, hx1276_5, hx1276_6, hx1276_7, hx1276_8, hx1276_9, hx1276_10, hx1276_11, hx1276_12, hx1276_13, hx1276_14, hx1276_15, hx1276_16, hl1276_6, hi1276_6, hl1276_10, hi1276_10, hl1276_11, hi1276_11, hl1276_15, hi1276_15, hl1276_16, hi1276_16⟩ := at_T46 HR0_0.out x6_1 p1276 q1276
            cases e1276
            replace hx1276_0 := (HB.out.cell (World.block_lt_of_cell? w _ hx1276_0)).trans hx1276_0
            replace hx1276_1 := (HB.out.cell (World.block_lt_of_cell? w _ hx1276_1)).trans hx1276_1
            replace hx1276_2 := (HB.out.cell (World.block_lt_of_cell? w _ hx1276_2)).trans hx1276_2
            replace hx1276_3 := (HB.out.cell (World.block_lt_of_cell? w _ hx1276_3)).trans hx1276_3
            replace hx1276_4 := (HB.out.cell (World.block_lt_of_cell? w _ hx1276_4)).trans hx1276_4
            replace hx1276_5 := (HB.out.cell (World.block_lt_of_cell? w _ hx1276_5)).trans hx1276_5
            replace hx1276_6 := (HB.out.cell (World.block_lt_of_cell? w _ hx1276_6)).trans hx1276_6
            replace hx1276_7 := (HB.out.cell (World.block_lt_of_cell? w _ hx1276_7)).trans hx1276_7
            replace hx1276_8 := (HB.out.cell (World.block_lt_of_cell? w _ hx1276_8)).trans hx1276_8
            replace hx1276_9 := (HB.out.cell (World.block_lt_of_cell? w _ hx1276_9)).trans hx1276_9
            replace hx1276_10 := (HB.out.cell (World.block_lt_of_cell? w _ hx1276_10)).trans hx1276_10
            replace hx1276_11 := (HB.out.cell (World.block_lt_of_cell? w _ hx1276_11)).trans hx1276_11
            replace hx1276_12 := (HB.out.cell (World.block_lt_of_cell? w _ hx1276_12)).trans hx1276_12
            replace hx1276_13 := (HB.out.cell (World.block_lt_of_cell? w _ hx1276_13)).trans hx1276_13
            replace hx1276_14 := (HB.out.cell (World.block_lt_of_cell? w _ hx1276_14)).trans hx1276_14
            replace hx1276_15 := (HB.out.cell (World.block_lt_of_cell? w _ hx1276_15)).trans hx1276_15
            replace hx1276_16 := (HB.out.cell (World.block_lt_of_cell? w _ hx1276_16)).trans hx1276_16
            have HR1276_6 := Aside0.mk hi1276_6
            have HC1276_6 := Aside0.mk hl1276_6
            clear hi1276_6 hl1276_6
            have HR1276_10 := Aside0.mk hi1276_10
            have HC1276_10 := Aside0.mk hl1276_10
            clear hi1276_10 hl1276_10
            have HR1276_11 := Aside0.mk hi1276_11
            have HC1276_11 := Aside0.mk hl1276_11
            clear hi1276_11 hl1276_11
            have HR1276_15 := Aside0.mk hi1276_15
            have HC1276_15 := Aside0.mk hl1276_15
            clear hi1276_15 hl1276_15
            have HR1276_16 := Aside0.mk hi1276_16
            have HC1276_16 := Aside0.mk hl1276_16
            clear hi1276_16 hl1276_16
            replace p1276 := eq_true p1276
            replace q1276 := eq_true q1276
            go_wp2
            go_roundg k1
            case measure => have := HK1.out; omega
            case rel => exact ⟨(x5_1), (wrap64 (x6_1 + 1)), (by first | rfl | (simp; done) | (simp [*]; done)), H', ⟨by have := HK1.out; omega⟩, ⟨by (with_reducible repeat (first | apply Kd.R_alloc | apply Kd.R_drewN | apply Kd.R_drew)); exact HO_5.out⟩, ⟨by (with_reducible repeat (first | refine blk_drewN ?_ _ | refine blk_drew ?_ | refine blk_alloc ?_ _)); exact BK1272.out⟩, ⟨by repeat (first | (with_reducible first | exact HB.out | apply below_alloc | apply pw_below_drewN | apply below_drew1 | refine below_set ?_ GE1272.out) | exact HB.out)⟩⟩
        · rw [if_neg c7] at H
          exact absurd H (by simp)
      · rw [if_neg c6] at H
        have c6b0 : decide (x6_1 < (l0_0.length : Int)) = false := decide_eq_false c6
        clear c6
        obtain rfl := Option.some.inj H
        have hcz20_0 : wr.cell? ⟨gb1272, 0, none⟩ = some (.slice A0_0 l0_0.length c0_0) := (blk_cell BK1272.out 0).trans rfl
        have hcz20_1 : wr.cell? ⟨gb1272, 1, none⟩ = some (.int .i64 a0_1) := (blk_cell BK1272.out 1).trans rfl
        have hcz20_2 : wr.cell? ⟨gb1272, 2, none⟩ = some (.int .i64 a0_2) := (blk_cell BK1272.out 2).trans rfl
        have hcz20_3 : wr.cell? ⟨gb1272, 3, none⟩ = some (.slice A0_3 l0_3.length c0_3) := (blk_cell BK1272.out 3).trans rfl
        have hfz20_0 := blk_frozen BK1272.out 0
        have hfz20_1 := blk_frozen BK1272.out 1
        have hfz20_2 := blk_frozen BK1272.out 2
        have hfz20_3 := blk_frozen BK1272.out 3
        go_wp2
        go_ret
        exact ⟨_, by first | rfl | (simp [errW_none, errW_some] <;> rfl) | (simp [*, errW_none, errW_some] <;> rfl), by (with_reducible repeat (first | apply Kd.R_alloc | apply Kd.R_drewN | apply Kd.R_drew)); exact HO_5.out, by repeat (first | (with_reducible first | exact HB.out | apply below_alloc | apply pw_below_drewN | apply below_drew1 | refine below_set ?_ GE1272.out) | exact HB.out)⟩

end Go.Proofs.Ytmoiacijklkfaaa.G

/- GKDelO -/
/-
  DeleteFunc over objects, walked: an element is loaded and stored whole.
-/
namespace Go.Proofs.Ytmoiacijklkfaaa.G
open Go.RowKit Go.Proofs.YtmoiacijklkfaaaW.PrintWords Go.Proofs.YtmoiacijklkfaaaW.PrintLast Go.Proofs.YtmoiacijklkfaaaW.PrintMore
attribute [local go_sem] max2_int min2_int max_two min_two max_three min_three max_four min_four
set_option linter.unusedVariables false
set_option linter.unusedSimpArgs false
section
variable {P : Program} {ops : Array Oper} {rest : List Oper} {op : Oper} {a : Act} {Q : Exit → Act → World → Prop} {w : World}
theorem row_store_event (hgd : op.guard = none) (hdst : op.dst = none) {ty : TypeId} {p v : Operand} (ho : op.op = .store ty p v) {g off t : Nat} {cur : Array Value} (hg : w.heap[g]? = some (.cells cur t (0, 0))) (hp : a.eval p = .pointer (some ⟨g, off, none⟩)) {cs : Array Value} (hv : a.eval v = .agg cs)
    (hs : off + cs.size ≤ cur.size) (hi : (P.info? ty).map (·.size) = some cs.size) (h1 : ∀ u ∈ cs.toList, u.oneCell' = true) (h : ∀ w1 : World, w1 = w.setCells g off cs.toList → wpList P ops Q rest a w1) : wpList P ops Q (op :: rest) a w := by
  refine wpList_store_mid hgd ty p v ho g off cs hp hv (fun j hj => ?_) hi (Array.all_eq_true_iff_forall_mem.2 (fun u hu => h1 u (by simpa using hu))) ?_
  · rw [blk_cell hg]
    exact ⟨by rw [Array.getElem?_eq_getElem (by omega)]; rfl, blk_frozen hg _⟩
  · have e : a.put op.dst undef = a := by rw [hdst]; rfl
    rw [e]
    exact h _ rfl
end
set_option maxHeartbeats 1000000 in
set_option maxRecDepth 100000 in
theorem delObjs_calls {α : Type} (d : Kd α) (hd : d.sz = 17) (kf : Nat) (hkf : ∀ (zs : Array Value) (W : World), (callFunc kf zs).run Try.prog W = .ok (.enter kf zs) W) (caps : Array Value) (p : α → Option Bool) (u : Value) (l0 r : List α) (ok : Nat → Prop) (w0 w : World) (hB : Below w0.heap.size w0 w) (hR : d.R 46 w w0.heap.size ok u l0)
    (hf : ∀ (x : α) (cs : List Value) (b : Bool) (W : World), x ∈ l0 → p x = some b → d.K W x cs → Kept w W (fun k => some k = u.ownBlock) → Calls Try.prog kf (#[(.agg (cs).toArray)] ++ caps) W fun e w' => e = .returned (.bool b) ∧ Below W.heap.size W w') (h : delO p l0 = some r) :
    Calls Try.prog 80 #[u, .func (.func kf) #[] caps] w fun e w' => ∃ v, e = .returned v ∧ d.R 46 w' w0.heap.size ok v r ∧ Below w0.heap.size w0 w' ∧ Kept w w' (fun k => some k = u.ownBlock) ∧ (v.ownBlock = none ∨ v.ownBlock = u.ownBlock) := by
  obtain ⟨i, hi, hcase⟩ := delO_idx l0 0 r h
  obtain ⟨A0, c, rfl, hle, hC⟩ := Kd.R_reads hR
  have hm : l0.length ≤ 9223372036854775807 := hC.2.1
  have HC := Lib.hid hC
  have HR := Lib.hid hR
  have HF := Lib.hid hf
  have HI := Lib.hid hi
  have HD := Lib.hid hd
  have HB0 := Lib.hid hB
  have HL := Lib.hid hle
  clear hR hf h hi hd hB hC
  rcases hcase with ⟨rfl, rfl⟩ | ⟨m, rfl, hml, r2, h2, rfl⟩
  · go_enter Try.func80, Try.ntmps80
    go_wp2_with fail
    refine (slices_IndexFunc_simpl_Obj_impl_Obj.calls d HD.out kf hkf caps p A0 c r _ _ HC.out HL.out (fun x cs b W hx hp hk hb => HF.out x cs b W hx hp hk (Kept.of_below hb _)) HI.out).mono ?_
    rintro e w1 ⟨rfl, hb1⟩
    have HB1 := Lib.hid hb1
    clear hb1
    go_wp2
    go_ret
    exact ⟨_, rfl, Kd.R_below HR.out HB1.out, below_then HB0.out HB0.out.size HB1.out, Kept.of_below HB1.out _, .inr rfl⟩
  · obtain ⟨g, cur, rfl, _, hg, hh, _, hcm, hs, hok, hreps⟩ := R_block HR.out (by omega)
    simp only [Nat.zero_add] at HI
    have hcle : c ≤ 9223372036854775807 := by unfold maxLen at hcm; omega
    have HH := Lib.hid hh
    have HS := Lib.hid hs
    have HG := Lib.hid hg
    have HOK := Lib.hid hok
    have HRP := Lib.hid hreps
    have H2 := Lib.hid h2
    have HCM := Lib.hid hcm
    clear hh hs hg hok hreps h2 hcm
    have hnm : ((m : Int) == -1) = false := by rw [beq_eq_false_iff_ne]; omega
    go_enter Try.func80, Try.ntmps80
    go_wp2_with fail
    refine (slices_IndexFunc_simpl_Obj_impl_Obj.calls d HD.out kf hkf caps p _ c l0 _ _ HC.out HL.out (fun x cs b W hx hp hk hb => HF.out x cs b W hx hp hk (Kept.of_below hb _)) HI.out).mono ?_
    rintro e w1 ⟨rfl, hb1⟩
    have HST := Lib.hid (del_start HG.out HH.out HRP.out HB0.out hb1 hml H2.out rfl)
    clear hb1
    go_wp2
    go_loopw [5, 6] (fun i j wr => ∃ a k : Nat, i = .int .i64 a ∧ j = .int .i64 k ∧ a < k ∧ k ≤ l0.length ∧ Hid (DelSt d 46 p l0 (l0.take m ++ r2) ok w0 w g cur a k wr)) (fun _ j _ => l0.length - (intOf j).toNat)
    case atStart => exact ⟨m, m + 1, rfl, by go_num, by omega, by omega, HST⟩
    case round =>
      obtain ⟨a, k, rfl, rfl, hak, hkl, HE⟩ := hrel
      by_cases hlt : k < l0.length
      · obtain ⟨cs, b, hcs, hp, hM, hcell, hfz, hsome⟩ := del_read HH.out HS.out HL.out HRP.out HE.out hlt
        have HM := Lib.hid hM
        have HONE := Lib.hid (d.K_one (d.K_of_M hM))
        have HP := Lib.hid hp
        have HLEN := Lib.hid hcs
        rw [HD.out] at hcs hcell
        have HCS := Lib.hid hcs
        have HCELL : Hid (∀ t u, cs[t]? = some u → wr.cell? ((⟨g, k * 17, none⟩ : Addr).add t) = some u) := Lib.hid (fun t u h => by rw [Addr.add_mid]; exact hcell t u h)
        have hal : a < l0.length := by omega
        clear hM hp hcs hcell hfz hsome
        go_wp2_with (first | ((with_reducible refine gate_dst (N := 25) rfl ?_); refine load_event rfl (N := 25) rfl 46 (.tmp 24) rfl ⟨g, k * 17, none⟩ ?hx cs HCELL.out Try.underlying46 rfl ?hi ?_; (case hi => rw [HCS.out]; kernel_rfl); (case hx => first | rfl | (go_simp; done) | (go_simp; rfl))) | ((with_reducible refine gate_store (p := 7) rfl ?_); refine store_event rfl rfl rfl (blk_new wr _) rfl rfl ?hs ?hi ?h1 ?_; (case hs => first | (simp [HCS.out]; done) | (simp [HCS.out]; rfl)); (case hi => simp only [List.size_toArray, HCS.out]; kernel_rfl); (case h1 => simpa using HONE.out); intro w3 hz hs_ hfar_ hB_; have HZ3 := Lib.hid hz; have HB3 := Lib.hid (hB_ wr (Nat.le_refl _) (below_alloc (Below.refl _ _) _)); clear hz hs_ hfar_ hB_) | ((with_reducible refine gate_dst (N := 27) rfl ?_); refine load_event rfl (N := 27) rfl 46 (.tmp 7) rfl ⟨wr.heap.size, 0, none⟩ rfl cs (blk_row' HZ3.out) Try.underlying46 rfl ?hi ?_; (case hi => rw [HCS.out]; kernel_rfl)))
        refine (HF.out l0[k] cs b w3 (List.getElem_mem hlt) HP.out (d.K_of_M (Kd.M_below HM.out HB3.out)) ((HE.out.kept.below HB3.out).mono (fun k hk => by rw [hk]; rfl))).mono ?_
        rintro e w4 ⟨rfl, hb4⟩
        have HB4 := Lib.hid (below_then HB3.out HB3.out.size hb4)
        have HZ4 := Lib.hid ((hb4.block _ (blk_lt HZ3.out)).trans HZ3.out)
        obtain ⟨cur4, ys4, r4, _, hh4, hs4, _⟩ := HE.out.st
        have H4 := Lib.hid ((HB4.out.block g (blk_lt hh4)).trans hh4)
        have H4S : Hid (a * 17 + 17 ≤ cur4.size) := Lib.hid (by
          have e1 := HS.out
          rw [HD.out] at e1
          have e2 := HL.out
          have e3 : a * 17 + 17 ≤ c * 17 := by omega
          omega)
        clear hb4 hh4 hs4
        cases b
        · have hn := del_keep HG.out HS.out HL.out HE.out hlt HP.out HB4.out HLEN.out HM.out
          rw [HD.out] at hn
          have HN := Lib.hid hn
          clear hn
          go_wp2_with (first | ((with_reducible refine gate_dst (N := 32) rfl ?_); refine load_event rfl (N := 32) rfl 46 (.tmp 7) rfl ⟨wr.heap.size, 0, none⟩ rfl cs (blk_row' HZ4.out) Try.underlying46 rfl ?hi ?_; (case hi => rw [HCS.out]; kernel_rfl)) | ((with_reducible refine gate_store (p := 33) rfl ?_); refine row_store_event rfl rfl rfl H4.out (off := a * 17) ?hp rfl ?hf ?hi ?h1 ?_; (case hp => first | rfl | (go_simp; done) | (go_simp; rfl)); (case hf => have := H4S.out; have := HCS.out; simp only [List.size_toArray]; omega); (case hi => simp only [List.size_toArray, HCS.out]; kernel_rfl); (case h1 => simpa using HONE.out); intro w5 hw5; have HN5 : Hid (DelSt d 46 p l0 (l0.take m ++ r2) ok w0 w g cur (a + 1) (k + 1) w5) := Lib.hid (by rw [hw5]; exact HN.out); clear hw5))
          go_roundw
          case rel => exact ⟨a + 1, k + 1, by go_num, by go_num, by omega, by omega, HN5⟩
          case measure => simp [intOf]; omega
        · have HN := Lib.hid (del_skip HE.out hlt HP.out HB4.out)
          go_wp2
          go_roundw
          case rel => exact ⟨a, k + 1, rfl, by go_num, by omega, by omega, HN⟩
          case measure => simp [intOf]; omega
      · obtain rfl : k = l0.length := by omega
        have hcl : l0.length ≤ c := HL.out
        have hca : ¬ c = a := by omega
        obtain ⟨cur2, ys, r3, _, hh2, hs2, _⟩ := HE.out.st
        have hs3 : cur2.size = c * 17 := by rw [hs2, HS.out, HD.out]
        have hcz : (Value.cells (.agg #[(.int .i64 0), (.string ⟨#[]⟩), (.int .i64 0), (.int .i64 0), (.int .i64 0), (.bool false), (.slice none 0 0), (.int .i64 0), (.string ⟨#[]⟩), (.int .i64 0), (.slice none 0 0), (.slice none 0 0), (.int .i64 0), (.string ⟨#[]⟩), (.int .i64 0), (.slice none 0 0), (.slice none 0 0)])).size = 17 := rfl
        have hclr := fun ty => run_clear_cells (P := Try.prog) wr 27 46 ty (.agg #[(.int .i64 0), (.string ⟨#[]⟩), (.int .i64 0), (.int .i64 0), (.int .i64 0), (.bool false), (.slice none 0 0), (.int .i64 0), (.string ⟨#[]⟩), (.int .i64 0), (.slice none 0 0), (.slice none 0 0), (.int .i64 0), (.string ⟨#[]⟩), (.int .i64 0), (.slice none 0 0), (.slice none 0 0)]) Try.underlying27 (fun w => by kernel_rfl) (by decide) g (a * 17) (l0.length - a) (c - a) (by omega) (fun j hj => by rw [hcz] at hj; rw [blk_cell hh2, Array.getElem?_eq_getElem (by omega)]; rfl) (fun j => blk_frozen hh2 j)
        have HEND := Lib.hid (del_end HG.out HS.out HCM.out HL.out HOK.out HE.out (zs := (Builtin.zeroCells (Value.cells (.agg #[(.int .i64 0), (.string ⟨#[]⟩), (.int .i64 0), (.int .i64 0), (.int .i64 0), (.bool false), (.slice none 0 0), (.int .i64 0), (.string ⟨#[]⟩), (.int .i64 0), (.slice none 0 0), (.slice none 0 0), (.int .i64 0), (.string ⟨#[]⟩), (.int .i64 0), (.slice none 0 0), (.slice none 0 0)])) (l0.length - a)).toList) (by simp only [Builtin.zeroCells, Array.length_toList, Array.size_map, Array.size_range]; rw [HD.out, hcz]; omega))
        rw [HD.out] at HEND
        clear hh2 hs2 hs3
        generalize (Builtin.zeroCells (Value.cells (.agg #[(.int .i64 0), (.string ⟨#[]⟩), (.int .i64 0), (.int .i64 0), (.int .i64 0), (.bool false), (.slice none 0 0), (.int .i64 0), (.string ⟨#[]⟩), (.int .i64 0), (.slice none 0 0), (.slice none 0 0), (.int .i64 0), (.string ⟨#[]⟩), (.int .i64 0), (.slice none 0 0), (.slice none 0 0)])) (l0.length - a)).toList = zs at hclr HEND
        go_wp2
        go_ret
        exact ⟨_, rfl, HEND.out.1, HEND.out.2.1, HEND.out.2.2.mono (fun k hk => by rw [hk]; rfl), .inr rfl⟩

end Go.Proofs.Ytmoiacijklkfaaa.G

/- GKObjs -/
/-
  The objects of a kind: the reference and the program.
-/
namespace Go.Proofs.Ytmoiacijklkfaaa.G
open Go.RowKit Go.Proofs.YtmoiacijklkfaaaW.PrintWords Go.Proofs.YtmoiacijklkfaaaW.PrintLast Go.Proofs.YtmoiacijklkfaaaW.PrintMore
attribute [local go_sem] max2_int min2_int max_two min_two max_three min_three max_four min_four
set_option linter.unusedVariables false
set_option linter.unusedSimpArgs false
/-- The objects of a kind. -/
def kindO (l : List IObj) (a : Int) : List IObj := l.filter (fun x => !(x.f0 != a))
theorem delO_filter {α : Type} (q : α → Bool) : ∀ l : List α, delO (fun x => some (q x)) l = some (l.filter (fun x => !q x))
  | [] => rfl
  | x :: l => by
    rw [delO, delO_filter q l, List.filter_cons]
    cases hq : q x <;> simp
theorem oEta (x : IObj) : (⟨x.f0, x.f1, x.f2, x.f3, x.f4, x.f5, x.f6, ⟨x.f7.f0, x.f7.f1, x.f7.f2, x.f7.f3, x.f7.f4⟩, ⟨x.f8.f0, x.f8.f1, x.f8.f2, x.f8.f3, x.f8.f4⟩⟩ : IObj) = x := by
  rw [sEta, sEta]
theorem specObjs_l0 (n : Nat) (l : List IObj) (a1 a2 : Int) (l3 : List IChg) (a : Int) (hl : l.length ≤ 1048576) (hs : ∀ x ∈ l, SmX n x ∧ x.f6.length ≤ 1048576) : ∀ (d i : Nat), i + d = l.length → Ev (fun k => spec_Objs.l0 k a (kindO (l.take i) a) i l a1 a2 l3) (kindO l a)
  | 0, i, hd => by
    refine Ev.step (fun k => by rw [spec_Objs.l0]) (ev_if_neg (by omega) (ev_some ?_))
    rw [List.take_of_length_le (by omega)]
  | d + 1, i, hd => by
    have hi : i < l.length := by omega
    have ih := specObjs_l0 n l a1 a2 l3 a hl hs d (i + 1) (by omega)
    have hle : (kindO (l.take i) a).length ≤ i := by
      refine Nat.le_trans (List.length_filter_le _ _) ?_
      rw [List.length_take]; omega
    have htk : kindO (l.take (i + 1)) a = kindO (l.take i) a ++ (if l[i].f0 = a then [l[i]] else []) := by
      unfold kindO
      rw [List.take_succ_eq_append_getElem hi, List.filter_append, List.filter_cons]
      by_cases h : l[i].f0 = a
      · rw [if_pos h, if_pos (by rw [h]; simp)]; rfl
      · rw [if_neg h, if_neg (by simpa using h)]; rfl
    rw [htk] at ih
    obtain ⟨⟨_, _, h7, h8⟩, h6⟩ := hs _ (List.getElem_mem hi)
    refine Ev.step (fun k => by rw [spec_Objs.l0]) (ev_if_pos (by omega) (ev_if_pos (by omega) ?_))
    rw [rdIO hi, wsucc hi (by omega)]
    by_cases h : l[i].f0 = a
    · rw [if_pos h] at ih
      refine ev_if_pos h (Ev.bind (l7Copy_ev n l[i] h6 h7 h8) (ev_if_pos (by omega) ?_))
      dsimp only
      rw [oEta]
      exact ih
    · rw [if_neg h, List.append_nil] at ih
      exact ev_if_neg h ih
theorem specObjs_ev (n : Nat) (l : List IObj) (a1 a2 : Int) (l3 : List IChg) (a : Int) (hl : l.length ≤ 1048576) (hs : ∀ x ∈ l, SmX n x ∧ x.f6.length ≤ 1048576) : Ev (fun k => spec_Objs.f k l a1 a2 l3 a) (kindO l a) := by
  have h := specObjs_l0 n l a1 a2 l3 a hl hs l.length 0 (by omega)
  unfold spec_Objs.f
  exact h
theorem specObjs_calls (n : Nat) (y : IBase) (a : Int) (A0 : Option Addr) (c0 : Nat) (A3 : Option Addr) (c3 : Nat) (w : World) (hr : BR w y A0 c0 A3 c3) (hs : SmB n y) :
    Calls Try.prog 29 #[.agg #[.slice A0 y.f0.length c0, .int .i64 y.f1, .int .i64 y.f2, .slice A3 y.f3.length c3], .int .i64 a] w fun e w' => ∃ A c, e = .returned (.slice A (kindO y.f0 a).length c) ∧ (kindO y.f0 a).length ≤ c ∧ Kd.C k46 w' A (kindO y.f0 a).length (kindO y.f0 a) ∧ Below w.heap.size w w' := by
  obtain ⟨K, hK⟩ := specObjs_ev n y.f0 y.f1 y.f2 y.f3 a hs.1.1 hs.1.2
  refine (spec_Objs.calls K A0 c0 y.f0 y.f1 y.f2 A3 c3 y.f3 a _ w hr.2.1 hr.1 hr.2.2.2 hr.2.2.1 (hK K (Nat.le_refl _))).mono ?_
  rintro e w' ⟨v, rfl, hR, hb⟩
  obtain ⟨A, c, rfl, hl, hC⟩ := Kd.R_reads hR
  exact ⟨A, c, rfl, hl, hC, hb⟩
set_option maxHeartbeats 16000000 in
set_option maxRecDepth 100000 in
theorem objs1_calls (x : IObj) (cs : List Value) (g : Nat) (a : Int) (W : World) (hk : k46.K W x cs) (hg : W.heap[g]? = some (.cells #[.int .i64 a] 3 (0, 0))) :
    Calls Try.prog 82 (#[.agg cs.toArray] ++ #[.pointer (some ⟨g, 0, none⟩)]) W fun e w' => e = .returned (.bool (x.f0 != a)) ∧ Below W.heap.size W w' := by
  obtain ⟨A6, c6, A10, c10, A11, c11, A15, c15, A16, c16, rfl, _⟩ := k46_open hk
  have n1 := blk_lt hg
  have d1 := blk_cell hg 0
  simp only [List.getElem?_toArray, List.getElem?_cons_zero] at d1
  have HB := Lib.hid (below_alloc (Below.refl W.heap.size W) (.cells #[.int .i64 x.f0, .string x.f1, .int .i64 x.f2, .int .i64 x.f3, .int .i64 x.f4, .bool x.f5, .slice A6 x.f6.length c6, .int .i64 x.f7.f0, .string x.f7.f1, .int .i64 x.f7.f2, .slice A10 x.f7.f3.length c10, .slice A11 x.f7.f4.length c11, .int .i64 x.f8.f0, .string x.f8.f1, .int .i64 x.f8.f2, .slice A15 x.f8.f3.length c15, .slice A16 x.f8.f4.length c16] 46))
  clear hk hg
  go_enter Try.func82, Try.ntmps82
  go_wp2
  go_ret
  exact ⟨rfl, HB.out⟩
theorem sub_flatMap {α β : Type} (f : α → List β) : ∀ {l1 l2 : List α}, l1.Sublist l2 → (l1.flatMap f).Sublist (l2.flatMap f)
  | _, _, .slnil => List.Sublist.refl _
  | _, _, .cons a h => by rw [List.flatMap_cons]; exact (sub_flatMap f h).trans (List.sublist_append_right _ _)
  | _, _, .cons_cons a h => by rw [List.flatMap_cons, List.flatMap_cons]; exact (List.Sublist.refl _).append (sub_flatMap f h)
/-- Of a row of trees some are kept. -/
theorem Row_kept {t : Td IObj} {e b : Nat} {w' : World} {ok : Nat → Prop} {u v : Value} {ps : List (IObj × List Nat)} {fp : List Nat} {q : IObj × List Nat → Bool} (hf : Td.foot u ps = fp) (hn : fp.Nodup) (hR : t.kd.R e w' b ok v (ps.filter q)) (hv : v.ownBlock = none ∨ v.ownBlock = u.ownBlock) :
    t.Row e w' v ((ps.filter q).map (·.1)) (Td.foot v (ps.filter q)) ∧ (Td.foot v (ps.filter q)).Nodup ∧ ∀ k ∈ Td.foot v (ps.filter q), k ∈ fp := by
  have hsub : ((ps.filter q).flatMap (·.2)).Sublist (ps.flatMap (·.2)) := by
    exact sub_flatMap _ List.filter_sublist
  have hown : v.ownBlock.toList.Sublist u.ownBlock.toList := by
    rcases hv with h | h
    · rw [h]; simp
    · rw [h]; exact List.Sublist.refl _
  have hs : (Td.foot v (ps.filter q)).Sublist fp := by
    rw [← hf]
    exact hown.append hsub
  exact ⟨Td.Row_of hR, hs.nodup hn, fun k hk => hs.subset hk⟩
set_option maxHeartbeats 16000000 in
set_option maxRecDepth 100000 in
theorem implObjs_calls (n : Nat) (y : IBase) (a : Int) (A0 : Option Addr) (c0 : Nat) (A3 : Option Addr) (c3 : Nat) (w : World) (hr : BR w y A0 c0 A3 c3) (hs : SmB n y) :
    Calls Try.prog 30 #[.agg #[.slice A0 y.f0.length c0, .int .i64 y.f1, .int .i64 y.f2, .slice A3 y.f3.length c3], .int .i64 a] w fun e w' => ∃ A c fp, e = .returned (.slice A (kindO y.f0 a).length c) ∧ (tO n).Row 46 w' (.slice A (kindO y.f0 a).length c) (kindO y.f0 a) fp ∧ fp.Nodup ∧ (∀ k ∈ fp, w.heap.size ≤ k) ∧ Below w.heap.size w w' := by
  obtain ⟨l0, g0, l3, g3⟩ := hr
  obtain ⟨W1, hW1⟩ : ∃ W1, (w.alloc (.cells #[.slice A0 y.f0.length c0, .int .i64 y.f1, .int .i64 y.f2, .slice A3 y.f3.length c3] 30)).alloc (.cells #[.int .i64 a] 3) = W1 := ⟨_, rfl⟩
  have hbA := below_alloc (below_alloc (Below.refl w.heap.size w) (.cells #[.slice A0 y.f0.length c0, .int .i64 y.f1, .int .i64 y.f2, .slice A3 y.f3.length c3] 30)) (.cells #[.int .i64 a] 3)
  obtain ⟨hb0, hb1, hsz⟩ := alloc2 w (.cells #[.slice A0 y.f0.length c0, .int .i64 y.f1, .int .i64 y.f2, .slice A3 y.f3.length c3] 30) (.cells #[.int .i64 a] 3)
  rw [hW1] at hb0 hb1 hsz hbA
  have HW1 := Lib.hid hW1
  have HBA := Lib.hid hbA
  have Q1 := Lib.hid hb1
  have HSZ := Lib.hid hsz
  have G0 := Lib.hid (Kd.C_below g0 hbA)
  have HS := Lib.hid hs
  clear g0 g3 hbA hb0 hb1 hW1 hs hsz
  go_enter Try.func30, Try.ntmps30
  go_wp2_with fail
  rw [HW1.out]
  refine (copyObjs_calls n y.f0 A0 c0 W1 G0.out l0 HS.out.1.1 (fun x hx => ⟨(HS.out.1.2 x hx).2, (HS.out.1.2 x hx).1.2.2.1, (HS.out.1.2 x hx).1.2.2.2⟩)).mono ?_
  rintro e w2 ⟨u, fp, rfl, hrow, hn, hfb, hb2⟩
  obtain ⟨ps, hp1, hp2, hR⟩ := Td.Row_base hrow hfb
  have hdel := delO_filter (fun x : IObj × List Nat => x.1.f0 != a) ps
  have P1 := Lib.hid ((hb2.block _ (blk_lt Q1.out)).trans Q1.out)
  have N2 := Lib.hid hb2
  have HP1 := Lib.hid hp1
  have HP2 := Lib.hid hp2
  have HN := Lib.hid hn
  have HFB := Lib.hid hfb
  have HU : Hid (∀ k, u.ownBlock = some k → W1.heap.size ≤ k) := Lib.hid (fun k hk => hfb k (hR.1 k hk))
  have HCF := Lib.hid (delObjs_calls (tO n).kd tO_sz 82 (fun _ _ => by kernel_rfl) #[.pointer (some ⟨w.heap.size + 1, 0, none⟩)] (fun x : IObj × List Nat => some (x.1.f0 != a)) u ps _ (fun k => k ∈ fp) W1 w2 hb2 hR (fun x cs b W hx hq hk hkept => by
    obtain rfl := Option.some.inj hq
    exact objs1_calls x.1 cs _ a W (tO_K hk) ((hkept.2 _ (blk_lt P1.out) (fun h => by have h1 := HU.out _ h.symm; have h2 := blk_lt Q1.out; omega)).trans P1.out)) hdel)
  clear hrow hn hfb hb2 hp1 hp2 hR hdel HW1 P1
  go_wp2_with fail
  refine HCF.out.mono ?_
  rintro e w3 ⟨v, rfl, hR3, hb3, _, hv⟩
  obtain ⟨hrow, hnd, hin⟩ := Row_kept HP2.out HN.out hR3 hv
  have hm : (ps.filter (fun x => !(x.1.f0 != a))).map (·.1) = kindO y.f0 a := by
    unfold kindO
    rw [← HP1.out, List.filter_map]
    rfl
  rw [hm] at hrow
  obtain ⟨A, c, rfl⟩ := Td.Row_slice hrow
  have HRW := Lib.hid hrow
  have HND := Lib.hid hnd
  have HIN := Lib.hid hin
  have N3 := Lib.hid hb3
  clear HCF hR3 hb3 hv hrow hnd hin hm
  go_wp2
  go_ret
  exact ⟨A, c, _, rfl, HRW.out, HND.out, fun k hk => by have h1 := HFB.out k (HIN.out k hk); have h2 := HSZ.out; omega, below_step HBA.out N3.out⟩
end Go.Proofs.Ytmoiacijklkfaaa.G

/- GKHeldO -/
/-
  heldObjS, heldChangeS: the marks are found again.
-/
namespace Go.Proofs.Ytmoiacijklkfaaa.G
open Go.RowKit Go.Proofs.YtmoiacijklkfaaaW.PrintWords Go.Proofs.YtmoiacijklkfaaaW.PrintLast Go.Proofs.YtmoiacijklkfaaaW.PrintMore
set_option linter.unusedVariables false
set_option linter.unusedSimpArgs false
theorem cells_at {W : World} {a : Addr} {cs : List Value} (hc : ∀ j v, cs[j]? = some v → W.cell? (a.add j) = some v) (j : Nat) (hj : 0 < j) {v : Value} (hv : cs[j]? = some v) : W.cell? ⟨a.block, a.off + j, none⟩ = some v := by
  rw [← add_fld a j hj]; exact hc j v hv
theorem cells_at0 {W : World} {a : Addr} {cs : List Value} (hc : ∀ j v, cs[j]? = some v → W.cell? (a.add j) = some v) {v : Value} (hv : cs[0]? = some v) : W.cell? a = some v := by
  have := hc 0 v hv
  rwa [show a.add 0 = a from by unfold Addr.add; simp] at this
theorem heldVs (n : Nat) (xs : List IVal) (Q : Option Addr) (q : Nat) (a : Int) (w : World) (hs : ∀ x ∈ xs, SmI n x) (hl : xs.length ≤ 1048576) (h0 : 0 ≤ a) (h1 : (mkL (mkV n) xs a).2 ≤ 1099511627776) (C : Kd.C k44 w Q xs.length (mkL (mkV n) xs a).1) (l : xs.length ≤ q) :
    Calls Try.prog 85 #[.slice Q xs.length q, .int .i64 a] w fun e w' => e = .returned (.int .i64 (mkL (mkV n) xs a).2) ∧ Below w.heap.size w w' := by
  obtain ⟨K, hK⟩ := heldVals n xs a hs hl h0 h1
  have L : (mkL (mkV n) xs a).1.length = xs.length := mkL_len _ _ _
  have hk := laws_heldValueS.calls K Q q (mkL (mkV n) xs a).1 a _ w (by rw [L]; exact C) (by rw [L]; exact l) (hK K (Nat.le_refl _))
  rw [L] at hk
  exact hk
def T_laws_heldObjS_7 : Bool × List (List Nat × List Nat) := (true, [([], []), ([], []), ([0, 1], [0, 1]), ([2], [2]), ([3], [3]), ([], []), ([5], [5]), ([4, 6], [4, 6])])
def B_laws_heldObjS_7 : List Nat := [0, 0, 3, 7, 15, 0, 32, 127]
theorem t_laws_heldObjS_7 : rtab .any (opsOf Try.f33 7) = T_laws_heldObjS_7 := by kernel_rfl
theorem b_laws_heldObjS_7 : waitsOk T_laws_heldObjS_7.2 B_laws_heldObjS_7 = true := by kernel_rfl
def T_laws_heldObjS_28 : Bool × List (List Nat × List Nat) := (true, [([], []), ([], []), ([0, 1], [0, 1]), ([2], [2]), ([3], [3]), ([4], [4]), ([], []), ([6], [6]), ([5, 7], [5, 7])])
def B_laws_heldObjS_28 : List Nat := [0, 0, 3, 7, 15, 31, 0, 64, 255]
theorem t_laws_heldObjS_28 : rtab .any (opsOf Try.f33 28) = T_laws_heldObjS_28 := by kernel_rfl
theorem b_laws_heldObjS_28 : waitsOk T_laws_heldObjS_28.2 B_laws_heldObjS_28 = true := by kernel_rfl
def T_laws_heldObjS_43 : Bool × List (List Nat × List Nat) := (true, [([], []), ([], []), ([0, 1], [0, 1]), ([2], [2]), ([3], [3]), ([4], [4]), ([], []), ([6], [6]), ([5, 7], [5, 7])])
def B_laws_heldObjS_43 : List Nat := [0, 0, 3, 7, 15, 31, 0, 64, 255]
theorem t_laws_heldObjS_43 : rtab .any (opsOf Try.f33 43) = T_laws_heldObjS_43 := by kernel_rfl
theorem b_laws_heldObjS_43 : waitsOk T_laws_heldObjS_43.2 B_laws_heldObjS_43 = true := by kernel_rfl
set_option maxHeartbeats 16000000 in
set_option maxRecDepth 100000 in
theorem heldOs_calls (n : Nat) (xs : List IObj) (A : Option Addr) (c : Nat) (k0 : Int) (w : World) (hr : Kd.C k46 w A xs.length (mkL (mkO n) xs k0).1) (hc : xs.length ≤ c) (hs : ∀ x ∈ xs, SmX (n + 1) x) (h0 : 0 ≤ k0) (h1 : (mkL (mkO n) xs k0).2 ≤ 1099511627776) :
    Calls Try.prog 33 #[.slice A xs.length c, .int .i64 k0] w fun e w' => e = .returned (.int .i64 (mkL (mkO n) xs k0).2) ∧ Below w.heap.size w w' := by
  have hlen := hr.2.1
  have hL : (mkL (mkO n) xs k0).1.length = xs.length := mkL_len _ _ _
  have HR := Lib.hid hr
  have HS := Lib.hid hs
  have HL := Lib.hid hL
  clear hr hs hL
  go_enter Try.func33, Try.ntmps33
  go_wp2
  go_loopw [1, 5] (fun vk vi wr => ∃ i : Nat, i ≤ xs.length ∧ vk = .int .i64 (mkL (mkO n) (xs.take i) k0).2 ∧ vi = .int .i64 i ∧ Hid (Below w.heap.size w wr)) (fun _ vi _ => xs.length - (intOf vi).toNat)
  case atStart => exact ⟨0, by omega, rfl, rfl, Below.refl _ _⟩
  case round =>
    obtain ⟨i, hi, rfl, rfl, HB⟩ := hrel
    by_cases hlt : i < xs.length
    · have hi2 : i < (mkL (mkO n) xs k0).1.length := by rw [HL.out]; exact hlt
      have hget := mkL_get (mkO n) xs k0 i hlt hi2
      have hnext := mkL_next (mkO n) xs k0 i hlt
      have hle := mkL_take_le (mkO_mono n) xs (i + 1) k0
      have hk0 := mkL_mono (mkO_mono n) (xs.take i) k0
      have hrow := HR.out
      rw [← HL.out] at hrow
      obtain ⟨ad, cs, rfl, hcs, hK, hcell⟩ := row_at hrow i hi2
      have hsz : (k46 : Kd IObj).sz = 17 := rfl
      rw [hsz] at hcs hcell
      obtain ⟨K, hKe⟩ : ∃ K, (mkL (mkO n) (xs.take i) k0).2 = K := ⟨_, rfl⟩
      rw [hget, hKe] at hK
      rw [hKe] at hnext hk0 ⊢
      rw [hnext] at hle
      clear hget hrow hcs hsz hi2
      obtain ⟨K1, hK1⟩ : ∃ K1, (mkL mkS xs[i].f6 (K + 6)).2 = K1 := ⟨_, rfl⟩
      obtain ⟨K2, hK2⟩ : ∃ K2, (mkL mkS xs[i].f7.f3 (K1 + 3)).2 = K2 := ⟨_, rfl⟩
      obtain ⟨K3, hK3⟩ : ∃ K3, (mkL (mkV n) xs[i].f7.f4 K2).2 = K3 := ⟨_, rfl⟩
      obtain ⟨K4, hK4⟩ : ∃ K4, (mkL mkS xs[i].f8.f3 (K3 + 3)).2 = K4 := ⟨_, rfl⟩
      obtain ⟨K5, hK5⟩ : ∃ K5, (mkL (mkV n) xs[i].f8.f4 K4).2 = K5 := ⟨_, rfl⟩
      have hmk : mkO n xs[i] K = (⟨K, mt (K + 1), K + 2, K + 3, K + 4, ((K + 5) % 3 == 0), (mkL mkS xs[i].f6 (K + 6)).1, ⟨K1, mt (K1 + 1), K1 + 2, (mkL mkS xs[i].f7.f3 (K1 + 3)).1, (mkL (mkV n) xs[i].f7.f4 K2).1⟩, ⟨K3, mt (K3 + 1), K3 + 2, (mkL mkS xs[i].f8.f3 (K3 + 3)).1, (mkL (mkV n) xs[i].f8.f4 K4).1⟩⟩, K5) := by
        subst hK5 hK4 hK3 hK2 hK1
        rfl
      have b1 : (K1 : Int) = K + 6 + xs[i].f6.length := by rw [← hK1]; exact mkS_count _ _
      have b2 : (K2 : Int) = K1 + 3 + xs[i].f7.f3.length := by rw [← hK2]; exact mkS_count _ _
      have b3 : K2 ≤ K3 := by rw [← hK3]; exact mkL_mono (mkV_mono n) _ _
      have b4 : (K4 : Int) = K3 + 3 + xs[i].f8.f3.length := by rw [← hK4]; exact mkS_count _ _
      have b5 : K4 ≤ K5 := by rw [← hK5]; exact mkL_mono (mkV_mono n) _ _
      rw [hmk] at hnext hle hK
      have b6 : K5 ≤ 1099511627776 := Int.le_trans hle h1
      obtain ⟨A6, c6, A10, c10, A11, c11, A15, c15, A16, c16, rfl, l6, g6, l10, g10, l11, g11, l15, g15, l16, g16⟩ := k46_open hK
      simp only [mkL_len] at l6 g6 l10 g10 l11 g11 l15 g15 l16 g16 hcell
      obtain ⟨_, s6, s7, s8⟩ := HS.out _ (List.getElem_mem hlt)
      rw [SmI] at s7 s8
      have HC : Hid (∀ W, Below w.heap.size w W → ∀ j v, ([.int .i64 (K), .string (mt (K + 1)), .int .i64 (K + 2), .int .i64 (K + 3), .int .i64 (K + 4), .bool ((K + 5) % 3 == 0), .slice A6 xs[i].f6.length c6, .int .i64 K1, .string (mt (K1 + 1)), .int .i64 (K1 + 2), .slice A10 xs[i].f7.f3.length c10, .slice A11 xs[i].f7.f4.length c11, .int .i64 K3, .string (mt (K3 + 1)), .int .i64 (K3 + 2), .slice A15 xs[i].f8.f3.length c15, .slice A16 xs[i].f8.f4.length c16] : List Value)[j]? = some v → W.cell? ((ad.add (i * 17)).add j) = some v) := Lib.hid hcell
      have G6 := Lib.hid (fun W (h : Below w.heap.size w W) => Kd.C_below g6 h)
      have G10 := Lib.hid (fun W (h : Below w.heap.size w W) => Kd.C_below g10 h)
      have G11 := Lib.hid (fun W (h : Below w.heap.size w W) => Kd.C_below g11 h)
      have G15 := Lib.hid (fun W (h : Below w.heap.size w W) => Kd.C_below g15 h)
      have G16 := Lib.hid (fun W (h : Below w.heap.size w W) => Kd.C_below g16 h)
      have S7 := Lib.hid s7
      have S8 := Lib.hid s8
      have E1 := Lib.hid hK1
      have E2 := Lib.hid hK2
      have E3 := Lib.hid hK3
      have E4 := Lib.hid hK4
      have E5 := Lib.hid hK5
      have HNX := Lib.hid hnext
      have B1 := Lib.hid b1
      have B2 := Lib.hid b2
      have B3 := Lib.hid b3
      have B4 := Lib.hid b4
      have B5 := Lib.hid b5
      have B6 := Lib.hid b6
      have hKle : K + 6 ≤ 1099511627776 := by omega
      have hK1le : K1 + 3 ≤ 1099511627776 := by omega
      have hK3le : K3 + 3 ≤ 1099511627776 := by omega
      have hK10 : 0 ≤ K1 := by omega
      have hK20 : 0 ≤ K2 := by omega
      have hK30 : 0 ≤ K3 := by omega
      have hK40 : 0 ≤ K4 := by omega
      have hK50 : 0 ≤ K5 := by omega
      have hK0 : 0 ≤ K := by omega
      clear hcell hK g6 g10 g11 g15 g16 s6 s7 s8 hmk b1 b2 b3 b4 b5 b6 hK1 hK2 hK3 hK4 hK5 hnext hle hk0 hKe
      obtain ⟨q1, hq1⟩ := mt_ev (K + 1) (by omega) (by omega)
      obtain ⟨q2, hq2⟩ := mt_ev (K1 + 1) (by omega) (by omega)
      obtain ⟨q3, hq3⟩ := mt_ev (K3 + 1) (by omega) (by omega)
      have HQ1 := Lib.hid (hq1 q1 (Nat.le_refl _))
      have HQ2 := Lib.hid (hq2 q2 (Nat.le_refl _))
      have HQ3 := Lib.hid (hq3 q3 (Nat.le_refl _))
      clear hq1 hq2 hq3
      have zz0 : ((K + 2 : Int) != K + 1 + 1) = false := by rw [show (K + 2 : Int) = K + 1 + 1 by omega]; exact bne_self_eq_false _
      have zz1 : ((K + 3 : Int) != K + 1 + 1 + 1) = false := by rw [show (K + 3 : Int) = K + 1 + 1 + 1 by omega]; exact bne_self_eq_false _
      have zz2 : ((K + 4 : Int) != K + 1 + 1 + 1 + 1) = false := by rw [show (K + 4 : Int) = K + 1 + 1 + 1 + 1 by omega]; exact bne_self_eq_false _
      have zzb : (!(((K + 5 : Int) % 3 == 0) == ((K + 1 + 1 + 1 + 1 + 1) % 3 == 0))) = false := by rw [show (K + 1 + 1 + 1 + 1 + 1 : Int) = K + 5 by omega, beq_self_eq_true]; rfl
      have zz4 : ((K1 + 2 : Int) != K1 + 1 + 1) = false := by rw [show (K1 + 2 : Int) = K1 + 1 + 1 by omega]; exact bne_self_eq_false _
      have zz5 : ((K3 + 2 : Int) != K3 + 1 + 1) = false := by rw [show (K3 + 2 : Int) = K3 + 1 + 1 by omega]; exact bne_self_eq_false _
      have y0 := cells_at0 (HC.out wr HB.out) rfl
      go_wp2_with fail
      try simp only [Int.add_assoc, Int.reduceAdd]
      clear y0
      refine start_ (n := 8) (S := fun w' => Below w.heap.size w w') (ds := []) #[false, false, false, false, false, false, false, false] (by kernel_rfl) rfl rfl (below_drew HB.out) (fun hHeld => ?_)
      refine with_tabW t_laws_heldObjS_7 b_laws_heldObjS_7 (fun HT_ HW_ => ?_)
      generalize wr.drew = wa1 at hHeld ⊢
      repeat (apply takeA_ HT_.out HW_.out [0, 1, 2, 3, 4, 5]; (case hn => exact rfl); (case hi0 => exact rfl); (case hl => simp only [List.setIfInBounds_toArray, List.set_cons_zero, List.set_cons_succ]; rfl); (case hQ => exact fun _ _ _ h => h); (case hy => first | exact Or.inr ⟨by rfl, rfl⟩ | (refine Or.inl ⟨by rfl, ?_⟩; intro w_ hS_; have z_ := cells_at (HC.out w_ hS_) 1 (by decide) rfl; go_simp; with_reducible rfl) | (refine Or.inl ⟨by rfl, ?_⟩; intro w_ hS_; go_simp; with_reducible rfl)); (case hS => exact hHeld); (case ha => simp only [Act.put, List.setIfInBounds_toArray, List.set_cons_zero, List.set_cons_succ, i64_w, i32_w]; rfl))
      refine callA_ (i := 6) (l' := ?_) HT_.out rfl rfl ?_ (by decide) Try.func83 (by kernel_rfl) rfl (by rfl) rfl (by (try simp only [List.map_toArray, List.map_cons, List.map_nil]); first | done | rfl) (laws_markText.calls q1 (K + 1) (mt (K + 1)) wa1 HQ1.out) ?_
      rotate_left
      · simp only [List.setIfInBounds_toArray, List.set_cons_zero, List.set_cons_succ]; rfl
      rintro e wb1 ⟨rfl, hb_⟩
      have hHeld2 := below_step hHeld hb_
      refine ⟨_, rfl, hHeld2, ?_⟩
      refine norm_ (a' := ?_) ?_ ?_
      rotate_left
      · simp only [Act.put, List.setIfInBounds_toArray, List.set_cons_zero, List.set_cons_succ, i64_w, i32_w]; rfl
      repeat (apply takeA_ HT_.out HW_.out [7]; (case hn => exact rfl); (case hi0 => exact rfl); (case hl => simp only [List.setIfInBounds_toArray, List.set_cons_zero, List.set_cons_succ]; rfl); (case hQ => exact fun _ _ _ h => h); (case hy => first | exact Or.inr ⟨by rfl, rfl⟩ | (refine Or.inl ⟨by rfl, ?_⟩; intro w_ hS_; go_simp; with_reducible rfl)); (case hS => exact hHeld2); (case ha => simp only [Act.put, List.setIfInBounds_toArray, List.set_cons_zero, List.set_cons_succ, i64_w, i32_w]; rfl))
      refine done_ (done_of HT_.out (by kernel_rfl)) ?_
      have HT1 := Lib.hid hHeld2
      clear hHeld hHeld2 hb_ HT_ HW_
      have y2 := cells_at (HC.out wb1 HT1.out) 2 (by decide) rfl
      have y3 := cells_at (HC.out wb1 HT1.out) 3 (by decide) rfl
      have y4 := cells_at (HC.out wb1 HT1.out) 4 (by decide) rfl
      have y5 := cells_at (HC.out wb1 HT1.out) 5 (by decide) rfl
      have y6 := cells_at (HC.out wb1 HT1.out) 6 (by decide) rfl
      go_wp2_with fail
      try simp only [Int.add_assoc, Int.reduceAdd]
      clear y2 y3 y4 y5 y6
      (with_reducible refine (heldS xs[i].f6 A6 c6 (K + 6) wb1 (by omega) (by have := B1.out; omega) (G6.out _ HT1.out) l6).mono ?_)
      rintro e wc2 ⟨rfl, hb_⟩
      rw [E1.out]
      have HT2 := Lib.hid (below_step HT1.out hb_)
      clear hb_
      have y7 := cells_at (HC.out wc2 HT2.out) 7 (by decide) rfl
      go_wp2_with fail
      try simp only [Int.add_assoc, Int.reduceAdd]
      clear y7
      refine start_ (n := 9) (S := fun w' => Below w.heap.size w w') (ds := []) #[false, false, false, false, false, false, false, false, false] (by kernel_rfl) rfl rfl (below_drew HT2.out) (fun hHeld => ?_)
      refine with_tabW t_laws_heldObjS_28 b_laws_heldObjS_28 (fun HT_ HW_ => ?_)
      generalize wc2.drew = wa3 at hHeld ⊢
      repeat (apply takeA_ HT_.out HW_.out [0, 1, 2, 3, 4, 5, 6]; (case hn => exact rfl); (case hi0 => exact rfl); (case hl => simp only [List.setIfInBounds_toArray, List.set_cons_zero, List.set_cons_succ]; rfl); (case hQ => exact fun _ _ _ h => h); (case hy => first | exact Or.inr ⟨by rfl, rfl⟩ | (refine Or.inl ⟨by rfl, ?_⟩; intro w_ hS_; have z_ := cells_at (HC.out w_ hS_) 8 (by decide) rfl; go_simp; with_reducible rfl) | (refine Or.inl ⟨by rfl, ?_⟩; intro w_ hS_; go_simp; with_reducible rfl)); (case hS => exact hHeld); (case ha => simp only [Act.put, List.setIfInBounds_toArray, List.set_cons_zero, List.set_cons_succ, i64_w, i32_w]; rfl))
      refine callA_ (i := 7) (l' := ?_) HT_.out rfl rfl ?_ (by decide) Try.func83 (by kernel_rfl) rfl (by rfl) rfl (by (try simp only [List.map_toArray, List.map_cons, List.map_nil]); first | done | rfl) (laws_markText.calls q2 (K1 + 1) (mt (K1 + 1)) wa3 HQ2.out) ?_
      rotate_left
      · simp only [List.setIfInBounds_toArray, List.set_cons_zero, List.set_cons_succ]; rfl
      rintro e wb3 ⟨rfl, hb_⟩
      have hHeld2 := below_step hHeld hb_
      refine ⟨_, rfl, hHeld2, ?_⟩
      refine norm_ (a' := ?_) ?_ ?_
      rotate_left
      · simp only [Act.put, List.setIfInBounds_toArray, List.set_cons_zero, List.set_cons_succ, i64_w, i32_w]; rfl
      repeat (apply takeA_ HT_.out HW_.out [8]; (case hn => exact rfl); (case hi0 => exact rfl); (case hl => simp only [List.setIfInBounds_toArray, List.set_cons_zero, List.set_cons_succ]; rfl); (case hQ => exact fun _ _ _ h => h); (case hy => first | exact Or.inr ⟨by rfl, rfl⟩ | (refine Or.inl ⟨by rfl, ?_⟩; intro w_ hS_; go_simp; with_reducible rfl)); (case hS => exact hHeld2); (case ha => simp only [Act.put, List.setIfInBounds_toArray, List.set_cons_zero, List.set_cons_succ, i64_w, i32_w]; rfl))
      refine done_ (done_of HT_.out (by kernel_rfl)) ?_
      have HT3 := Lib.hid hHeld2
      clear hHeld hHeld2 hb_ HT_ HW_
      have y9 := cells_at (HC.out wb3 HT3.out) 9 (by decide) rfl
      have y10 := cells_at (HC.out wb3 HT3.out) 10 (by decide) rfl
      go_wp2_with fail
      try simp only [Int.add_assoc, Int.reduceAdd]
      clear y9 y10
      (with_reducible refine (heldS xs[i].f7.f3 A10 c10 (K1 + 3) wb3 (by omega) (by have h2 := B2.out; have h3 := B3.out; have h4 := B4.out; have h5 := B5.out; have h6 := B6.out; omega) (G10.out _ HT3.out) l10).mono ?_)
      rintro e wc4 ⟨rfl, hb_⟩
      rw [E2.out]
      have HT4 := Lib.hid (below_step HT3.out hb_)
      clear hb_
      have y11 := cells_at (HC.out wc4 HT4.out) 11 (by decide) rfl
      go_wp2_with fail
      clear y11
      (with_reducible refine (heldVs n xs[i].f7.f4 A11 c11 K2 wc4 S7.out.2.2.2.2 S7.out.2.2.2.1 (by omega) (by rw [E3.out]; have h3 := B3.out; have h4 := B4.out; have h5 := B5.out; have h6 := B6.out; omega) (G11.out _ HT4.out) l11).mono ?_)
      rintro e wc5 ⟨rfl, hb_⟩
      rw [E3.out]
      have HT5 := Lib.hid (below_step HT4.out hb_)
      clear hb_
      have y12 := cells_at (HC.out wc5 HT5.out) 12 (by decide) rfl
      go_wp2_with fail
      try simp only [Int.add_assoc, Int.reduceAdd]
      clear y12
      refine start_ (n := 9) (S := fun w' => Below w.heap.size w w') (ds := []) #[false, false, false, false, false, false, false, false, false] (by kernel_rfl) rfl rfl (below_drew HT5.out) (fun hHeld => ?_)
      refine with_tabW t_laws_heldObjS_43 b_laws_heldObjS_43 (fun HT_ HW_ => ?_)
      generalize wc5.drew = wa6 at hHeld ⊢
      repeat (apply takeA_ HT_.out HW_.out [0, 1, 2, 3, 4, 5, 6]; (case hn => exact rfl); (case hi0 => exact rfl); (case hl => simp only [List.setIfInBounds_toArray, List.set_cons_zero, List.set_cons_succ]; rfl); (case hQ => exact fun _ _ _ h => h); (case hy => first | exact Or.inr ⟨by rfl, rfl⟩ | (refine Or.inl ⟨by rfl, ?_⟩; intro w_ hS_; have z_ := cells_at (HC.out w_ hS_) 13 (by decide) rfl; go_simp; with_reducible rfl) | (refine Or.inl ⟨by rfl, ?_⟩; intro w_ hS_; go_simp; with_reducible rfl)); (case hS => exact hHeld); (case ha => simp only [Act.put, List.setIfInBounds_toArray, List.set_cons_zero, List.set_cons_succ, i64_w, i32_w]; rfl))
      refine callA_ (i := 7) (l' := ?_) HT_.out rfl rfl ?_ (by decide) Try.func83 (by kernel_rfl) rfl (by rfl) rfl (by (try simp only [List.map_toArray, List.map_cons, List.map_nil]); first | done | rfl) (laws_markText.calls q3 (K3 + 1) (mt (K3 + 1)) wa6 HQ3.out) ?_
      rotate_left
      · simp only [List.setIfInBounds_toArray, List.set_cons_zero, List.set_cons_succ]; rfl
      rintro e wb6 ⟨rfl, hb_⟩
      have hHeld2 := below_step hHeld hb_
      refine ⟨_, rfl, hHeld2, ?_⟩
      refine norm_ (a' := ?_) ?_ ?_
      rotate_left
      · simp only [Act.put, List.setIfInBounds_toArray, List.set_cons_zero, List.set_cons_succ, i64_w, i32_w]; rfl
      repeat (apply takeA_ HT_.out HW_.out [8]; (case hn => exact rfl); (case hi0 => exact rfl); (case hl => simp only [List.setIfInBounds_toArray, List.set_cons_zero, List.set_cons_succ]; rfl); (case hQ => exact fun _ _ _ h => h); (case hy => first | exact Or.inr ⟨by rfl, rfl⟩ | (refine Or.inl ⟨by rfl, ?_⟩; intro w_ hS_; go_simp; with_reducible rfl)); (case hS => exact hHeld2); (case ha => simp only [Act.put, List.setIfInBounds_toArray, List.set_cons_zero, List.set_cons_succ, i64_w, i32_w]; rfl))
      refine done_ (done_of HT_.out (by kernel_rfl)) ?_
      have HT6 := Lib.hid hHeld2
      clear hHeld hHeld2 hb_ HT_ HW_
      have y14 := cells_at (HC.out wb6 HT6.out) 14 (by decide) rfl
      have y15 := cells_at (HC.out wb6 HT6.out) 15 (by decide) rfl
      go_wp2_with fail
      try simp only [Int.add_assoc, Int.reduceAdd]
      clear y14 y15
      (with_reducible refine (heldS xs[i].f8.f3 A15 c15 (K3 + 3) wb6 (by omega) (by have h2 := B2.out; have h3 := B3.out; have h4 := B4.out; have h5 := B5.out; have h6 := B6.out; omega) (G15.out _ HT6.out) l15).mono ?_)
      rintro e wc7 ⟨rfl, hb_⟩
      rw [E4.out]
      have HT7 := Lib.hid (below_step HT6.out hb_)
      clear hb_
      have y16 := cells_at (HC.out wc7 HT7.out) 16 (by decide) rfl
      go_wp2_with fail
      clear y16
      (with_reducible refine (heldVs n xs[i].f8.f4 A16 c16 K4 wc7 S8.out.2.2.2.2 S8.out.2.2.2.1 (by omega) (by rw [E5.out]; have h3 := B3.out; have h4 := B4.out; have h5 := B5.out; have h6 := B6.out; omega) (G16.out _ HT7.out) l16).mono ?_)
      rintro e wc8 ⟨rfl, hb_⟩
      rw [E5.out]
      have HT8 := Lib.hid (below_step HT7.out hb_)
      clear hb_
      go_wp2
      go_roundw
      case rel => exact ⟨i + 1, by omega, by rw [HNX.out], by go_num, HT8⟩
      case measure => simp [intOf]; omega
    · obtain rfl : i = xs.length := by omega
      go_wp2
      go_ret
      exact ⟨by rw [List.take_length]; rfl, HB.out⟩
end Go.Proofs.Ytmoiacijklkfaaa.G
