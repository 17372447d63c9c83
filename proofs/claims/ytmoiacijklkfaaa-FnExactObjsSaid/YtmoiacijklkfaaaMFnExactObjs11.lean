import Derived.Test.YtmoiacijklkfaaaMFnExactObjs10
import Derived.Test.YtmoiacijklkfaaaRows
import Derived.Test.YtmoiacijklkfaaaMFnExactObjs1
import Derived.WalkKit
import Derived.ProofKit
import Derived.OpenShut
import Derived.ShutString
import Derived.ChangeOld
import Derived.Carry
import Derived.Below
import Derived.Handed
/- PObjsLaw -/
/-
  The law of Objs, walked: it is answered true.
-/
namespace Go.Proofs.Ytmoiacijklkfaaa.G
open Go.RowKit Go.Proofs.YtmoiacijklkfaaaW.PrintWords Go.Proofs.YtmoiacijklkfaaaW.PrintLast Go.Proofs.YtmoiacijklkfaaaW.PrintMore
attribute [local go_sem] max2_int min2_int max_two min_two max_three min_three max_four min_four
set_option linter.unusedVariables false
set_option linter.unusedSimpArgs false
open Classical in
noncomputable def laws_FnExactObjs.f (l0 : List LObj) (a1 a2 : Int) (l3 : List LChg) (k : Int) : Option Bool := if wfBase ⟨l0, a1, a2, l3⟩ then some true else none
theorem FnExactObjs_pure (s : LBase) (k : Int) (hw : wfBase s) (hk : -9223372036854775808 ≤ k ∧ k ≤ 9223372036854775807) : laws_FnExactObjs.f s.f0 s.f1 s.f2 s.f3 k = some true := by
  unfold laws_FnExactObjs.f
  exact if_pos hw
theorem sum_filter_le {α : Type} (p : α → Bool) (c : α → Nat) : ∀ l : List α, ((l.filter p).map c).sum ≤ (l.map c).sum
  | [] => Nat.le_refl _
  | x :: l => by
    have ih := sum_filter_le p c l
    rw [List.filter_cons, List.map_cons, List.sum_cons]
    split
    · rw [List.map_cons, List.sum_cons]; omega
    · omega
theorem kind_marks {m : Nat} {s : LBase} {r : Int} (hs : SmLB (m + 1) s.f0 s.f3) (hm : ((s.f0.map (mcLO (m + 1))).sum : Int) + ((s.f3.map (fun x => mcLO (m + 1) x.f2)).sum : Int) ≤ 4 * (1048576 - r)) (hr : 0 ≤ r) (a : Int) :
    (mkL (mkO m) (kindO (cB m s).f0 a) 1).2 ≤ 1099511627776 := by
  have h1 := mkL_sum (mkO m) (fun x => 12 + (x.f6.length + (mcI (m + 1) x.f7 + mcI (m + 1) x.f8))) (kindO (cB m s).f0 a) (fun x _ k => mkO_cnt m x k) 1
  have h2 := sum_filter_le (fun x : IObj => !(x.f0 != a)) (fun x => 12 + (x.f6.length + (mcI (m + 1) x.f7 + mcI (m + 1) x.f8))) (cB m s).f0
  rw [sum_add 12 (fun x : IObj => x.f6.length + (mcI (m + 1) x.f7 + mcI (m + 1) x.f8)) (cB m s).f0] at h2
  have e1 : ((cB m s).f0.map (fun x => x.f6.length + (mcI (m + 1) x.f7 + mcI (m + 1) x.f8))).sum = (s.f0.map (mcLO (m + 1))).sum := sum_map_congr (cOb (m + 1)) _ _ s.f0 (fun x hx => by
    show x.f6.length + (mcI (m + 1) (cVN (m + 1) x.f7) + mcI (m + 1) (cVN (m + 1) x.f8)) = _
    rw [mc_c, mc_c]; rfl)
  have l1 : (cB m s).f0.length = s.f0.length := by simp [cB]
  have b1 := hs.1.1
  have h3 : (0 : Int) ≤ ((s.f3.map (fun x => mcLO (m + 1) x.f2)).sum : Int) := Int.natCast_nonneg _
  rw [e1, l1] at h2
  unfold kindO at h1 ⊢
  omega
theorem kindO_sm {n : Nat} {y : IBase} (hs : SmB n y) (a : Int) : ∀ x ∈ kindO y.f0 a, SmX n x := fun x hx => (hs.1.2 x (List.mem_filter.1 hx).1).1
def T_laws_FnExactObjs_10 : Bool × List (List Nat × List Nat) := (true, [([], []), ([], []), ([1], [1]), ([0, 2, 2], [0, 2]), ([3], [3])])
def B_laws_FnExactObjs_10 : List Nat := [0, 0, 2, 7, 15]
theorem t_laws_FnExactObjs_10 : rtab .any (opsOf Try.f7 10) = T_laws_FnExactObjs_10 := by kernel_rfl
theorem b_laws_FnExactObjs_10 : waitsOk T_laws_FnExactObjs_10.2 B_laws_FnExactObjs_10 = true := by kernel_rfl
set_option maxHeartbeats 16000000 in
set_option maxRecDepth 100000 in
theorem objs_law (s : LBase) (ak : Int) (A0 : Option Addr) (c0 : Nat) (A3 : Option Addr) (c3 : Nat) (w : World) (g0 : Kd.C k121 w A0 s.f0.length s.f0) (l0 : s.f0.length ≤ c0) (g3 : Kd.C k124 w A3 s.f3.length s.f3) (l3 : s.f3.length ≤ c3) (hw : wfBase s) :
    Calls Try.prog 7 #[.agg #[.slice A0 s.f0.length c0, .int .i64 s.f1, .int .i64 s.f2, .slice A3 s.f3.length c3], .int .i64 ak] w fun e w' => e = .returned (.bool true) ∧ Below w.heap.size w w' := by
  obtain ⟨m, hwo, hwc⟩ := wfBase_of hw
  obtain ⟨W1, hW1⟩ : ∃ W1, w.alloc (.cells #[.slice A0 s.f0.length c0, .int .i64 s.f1, .int .i64 s.f2, .slice A3 s.f3.length c3] 25) = W1 := ⟨_, rfl⟩
  have hbA := below_alloc (Below.refl w.heap.size w) (.cells #[.slice A0 s.f0.length c0, .int .i64 s.f1, .int .i64 s.f2, .slice A3 s.f3.length c3] 25)
  have hb0 := blk_new w (.cells #[.slice A0 s.f0.length c0, .int .i64 s.f1, .int .i64 s.f2, .slice A3 s.f3.length c3] 25)
  rw [hW1] at hbA hb0
  have HW1 := Lib.hid hW1
  have HBA := Lib.hid hbA
  have Q1 := Lib.hid hb0
  have G0 := Lib.hid (Kd.C_below g0 hbA)
  have G3 := Lib.hid (Kd.C_below g3 hbA)
  have HWO := Lib.hid hwo
  have HWC := Lib.hid hwc
  clear g0 g3 hW1 hbA hb0 hw hwo hwc
  go_enter Try.func7, Try.ntmps7
  go_wp2_with fail
  rw [HW1.out]
  refine (szB_calls (m + 1) s.f0 s.f1 s.f2 s.f3 A0 c0 A3 c3 1048576 W1 G0.out l0 G3.out l3 HWO.out HWC.out (by decide) (by decide)).mono ?_
  rintro e w2 ⟨r, rfl, hL, hb2⟩
  have N2 := Lib.hid hb2
  have HL := Lib.hid hL
  clear hb2 hL HW1
  by_cases c2 : r < 0
  · go_wp2
    go_ret
    exact ⟨rfl, below_step HBA.out N2.out⟩
  obtain ⟨hp, hle, hsm, hm⟩ : 0 ≤ r ∧ r ≤ 1048576 ∧ SmLB (m + 1) s.f0 s.f3 ∧ _ := by
    rcases HL.out with h | h
    · omega
    · exact ⟨h.1, h.2.1, h.2.2.1, h.2.2.2⟩
  have HK := Lib.hid (base_marks HWO.out HWC.out hsm hm hp 1 (by decide))
  have HMO := Lib.hid (kind_marks hsm hm hp ak)
  obtain ⟨y, hy⟩ : ∃ y, cB m s = y := ⟨_, rfl⟩
  have hsy := smB_of HWO.out HWC.out hsm
  rw [hy] at hsy HK HMO
  have HSX := Lib.hid (kindO_sm hsy ak)
  obtain ⟨L, hLe⟩ : ∃ L, kindO y.f0 ak = L := ⟨_, rfl⟩
  rw [hLe] at HMO HSX
  have HLE := Lib.hid hLe
  have HY := Lib.hid hy
  have HSY := Lib.hid hsy
  have HSM := Lib.hid hsm
  have HMG : Hid (¬ (mkL (mkO m) L 1).2 < 0) := Lib.hid (by have := mkL_mono (mkO_mono m) L 1; omega)
  have HKG : Hid (¬ (mkL (mkC (m + 1)) y.f3 (mkL (mkO (m + 1)) y.f0 1).2).2 < 0) := Lib.hid (by
    have h1 := mkL_mono (mkO_mono (m + 1)) y.f0 1
    have h2 := mkL_mono (mkC_mono (m + 1)) y.f3 (mkL (mkO (m + 1)) y.f0 1).2
    omega)
  have HSO : Hid (∀ x ∈ L, SmOO (m + 1) x) := Lib.hid (fun x hx => smX_oo (HSX.out x hx))
  clear hsm hm hy hsy HL hLe
  have Q1c : Hid (∀ W, Below W1.heap.size W1 W → W.cell? ⟨w.heap.size, 0, none⟩ = some (.slice A0 s.f0.length c0) ∧ W.cell? ⟨w.heap.size, 1, none⟩ = some (.int .i64 s.f1) ∧ W.cell? ⟨w.heap.size, 2, none⟩ = some (.int .i64 s.f2) ∧ W.cell? ⟨w.heap.size, 3, none⟩ = some (.slice A3 s.f3.length c3)) := Lib.hid (fun W h => cells4 ((h.block _ (blk_lt Q1.out)).trans Q1.out))
  -- w0
  obtain ⟨b0, b1, b2, b3⟩ := Q1c.out _ N2.out
  go_wp2_with fail
  clear b0 b1 b2 b3
  refine (toBY m s y HY.out A0 c0 A3 c3 w2 (Kd.C_below G0.out N2.out) l0 (Kd.C_below G3.out N2.out) l3 HSM.out).mono ?_
  rintro e w3 ⟨B0, d0, B3, d3, fp, rfl, hT, hb3⟩
  have N3 := Lib.hid (below_step N2.out hb3)
  have HT := Lib.hid hT
  clear hb3 hT
  go_wp2_with fail
  have hso := specObjs_calls (m + 1) y ak B0 d0 B3 d3 w3 HT.out.1 HSY.out
  rw [HLE.out] at hso
  refine hso.mono ?_
  rintro e w5 ⟨AW, cw, rfl, hlw, hcw, hb4⟩
  have N5 := Lib.hid (below_step N3.out hb4)
  have HCW := Lib.hid hcw
  clear hb4 HT hcw hso N3 N2
  -- x0
  obtain ⟨b0, b1, b2, b3⟩ := Q1c.out _ N5.out
  go_wp2_with fail
  clear b0 b1 b2 b3
  refine (toBY m s y HY.out A0 c0 A3 c3 w5 (Kd.C_below G0.out N5.out) l0 (Kd.C_below G3.out N5.out) l3 HSM.out).mono ?_
  rintro e w6 ⟨E0, e0, E3, e3, fpx, rfl, hT, hb6⟩
  have M6 := Lib.hid hb6
  have HT := Lib.hid hT
  clear hb6 hT
  obtain ⟨W7, hW7⟩ : ∃ W, w6.alloc (.cells #[.slice E0 y.f0.length e0, .int .i64 y.f1, .int .i64 y.f2, .slice E3 y.f3.length e3] 30) = W := ⟨_, rfl⟩
  have n7 := below_alloc (Below.refl w6.heap.size w6) (.cells #[.slice E0 y.f0.length e0, .int .i64 y.f1, .int .i64 y.f2, .slice E3 y.f3.length e3] 30)
  have q7 := blk_new w6 (.cells #[.slice E0 y.f0.length e0, .int .i64 y.f1, .int .i64 y.f2, .slice E3 y.f3.length e3] 30)
  have z7 : (w6.alloc (.cells #[.slice E0 y.f0.length e0, .int .i64 y.f1, .int .i64 y.f2, .slice E3 y.f3.length e3] 30)).heap.size = w6.heap.size + 1 := by simp
  rw [hW7] at n7 q7 z7
  have HW7 := Lib.hid hW7
  have M7 := Lib.hid (below_step M6.out n7)
  have QX := Lib.hid q7
  have Z7 := Lib.hid z7
  have HT7 := Lib.hid (BT_below HT.out n7)
  have FX := Lib.hid (fun k hk => (HT.out.2.2.2 k hk).2)
  have L57 : Hid (w5.heap.size ≤ W7.heap.size) := Lib.hid M7.out.size
  clear hW7 n7 q7 z7 HT M6
  go_wp2_with fail
  rw [HW7.out]
  have hio := implObjs_calls (m + 1) y ak E0 e0 E3 e3 W7 HT7.out.1 HSY.out
  rw [HLE.out] at hio
  refine hio.mono ?_
  rintro e w8 ⟨AG, cg, fpg, rfl, hrow, hn, hfb, hb8⟩
  have M8 := Lib.hid (below_step M7.out hb8)
  have QX8 := Lib.hid ((hb8.block _ (blk_lt QX.out)).trans QX.out)
  have HT8 := Lib.hid (BT_below HT7.out hb8)
  have RG8 := Lib.hid hrow
  have HNG := Lib.hid hn
  have HFG := Lib.hid hfb
  clear hb8 hrow hn hfb hio HW7 HT7 QX M7
  have CW : Hid (∀ W, Below w5.heap.size w5 W → Kd.C k46 W AW L.length L) := Lib.hid (fun W h => Kd.C_below HCW.out h)
  clear HCW
  obtain ⟨_, _, eg, hlg, hcg⟩ := tO_C RG8.out
  cases eg
  have HCG := Lib.hid hcg
  clear hcg
  go_wp2_with fail
  (with_reducible refine (eqOs_calls (m + 1) L AG AW cg cw w8 HCG.out hlg (CW.out _ M8.out) hlw HSO.out).mono ?_)
  rintro e w10 ⟨rfl, hb10⟩
  have M10 := Lib.hid (below_step M8.out hb10)
  have RG10 := Lib.hid (Td.Row_below RG8.out hb10)
  have HT10 := Lib.hid (BT_below HT8.out hb10)
  have QX10 := Lib.hid ((hb10.block _ (blk_lt QX8.out)).trans QX8.out)
  clear hb10 HT8 QX8 M8 RG8 HCG
  go_wp2_with fail
  refine start_ (n := 5) (S := fun w' => Below w10.heap.size w10 w') (ds := []) #[false, false, false, false, false] (by kernel_rfl) rfl rfl (below_drew (Below.refl w10.heap.size w10)) (fun hHeld => ?_)
  refine with_tabW t_laws_FnExactObjs_10 b_laws_FnExactObjs_10 (fun HT_ HW_ => ?_)
  generalize w10.drew = w11 at hHeld ⊢
  repeat (apply takeA_ HT_.out HW_.out [0, 1]; (case hn => exact rfl); (case hi0 => exact rfl); (case hl => simp only [List.setIfInBounds_toArray, List.set_cons_zero, List.set_cons_succ]; rfl); (case hQ => exact fun _ _ _ h => h); (case hy => first | exact Or.inr ⟨by rfl, rfl⟩ | (exact yield_row (ad := ⟨w6.heap.size, 0, none⟩) (cs := (#[.slice E0 y.f0.length e0, .int .i64 y.f1, .int .i64 y.f2, .slice E3 y.f3.length e3] : Array Value).toList) (by rfl) rfl rfl (fun w_ hS_ => blk_row ((hS_.block _ (blk_lt QX10.out)).trans QX10.out)) Try.underlying30 rfl (by kernel_rfl)) | (exact yield_row (ad := ⟨w.heap.size, 0, none⟩) (cs := (#[.slice A0 s.f0.length c0, .int .i64 s.f1, .int .i64 s.f2, .slice A3 s.f3.length c3] : Array Value).toList) (by rfl) rfl rfl (fun w_ hS_ => blk_row (((below_step (below_step N5.out M10.out) hS_).block _ (blk_lt Q1.out)).trans Q1.out)) Try.underlying25 rfl (by kernel_rfl)) | (refine Or.inl ⟨by rfl, ?_⟩; intro w_ hS_; go_simp; with_reducible rfl)); (case hS => exact hHeld); (case ha => simp only [Act.put, List.setIfInBounds_toArray, List.set_cons_zero, List.set_cons_succ, i64_w, i32_w]; rfl))
  have HB11 := Lib.hid hHeld
  refine callA_ (i := 2) (l' := ?_) HT_.out rfl rfl ?_ (by decide) Try.func15 (by kernel_rfl) rfl (by rfl) rfl (by (try simp only [List.map_toArray, List.map_cons, List.map_nil]); first | done | rfl) (toBY m s y HY.out A0 c0 A3 c3 w11 (Kd.C_below G0.out (below_step (below_step N5.out M10.out) hHeld)) l0 (Kd.C_below G3.out (below_step (below_step N5.out M10.out) hHeld)) l3 HSM.out) ?_
  rotate_left
  · simp only [List.setIfInBounds_toArray, List.set_cons_zero, List.set_cons_succ]; rfl
  rintro e w12 ⟨F0, z0, F3, z3, fr, rfl, hT12, hb12⟩
  have hHeld2 := below_step HB11.out hb12
  refine ⟨_, rfl, hHeld2, ?_⟩
  have HB12 := Lib.hid hHeld2
  have HT12 := Lib.hid hT12
  clear hb12 hHeld HB11 hT12
  refine norm_ (a' := ?_) ?_ ?_
  rotate_left
  · simp only [Act.put, List.setIfInBounds_toArray, List.set_cons_zero, List.set_cons_succ, i64_w, i32_w]; rfl
  refine callA_ (i := 3) (l' := ?_) HT_.out rfl rfl ?_ (by decide) Try.func17 (by kernel_rfl) rfl (by rfl) rfl (by (try simp only [List.map_toArray, List.map_cons, List.map_nil]); first | done | rfl) (eqB_calls (m + 1) y E0 e0 E3 e3 F0 z0 F3 z3 w12 (BR_below HT10.out.1 hHeld2) HT12.out.1 HSY.out) ?_
  rotate_left
  · simp only [List.setIfInBounds_toArray, List.set_cons_zero, List.set_cons_succ]; rfl
  rintro e w13 ⟨rfl, hb13⟩
  have hHeld3 := below_step HB12.out hb13
  refine ⟨_, rfl, hHeld3, ?_⟩
  have HB13 := Lib.hid hHeld3
  clear hb13 hHeld2
  refine norm_ (a' := ?_) ?_ ?_
  rotate_left
  · simp only [Act.put, List.setIfInBounds_toArray, List.set_cons_zero, List.set_cons_succ, i64_w, i32_w]; rfl
  repeat (apply takeA_ HT_.out HW_.out [4]; (case hn => exact rfl); (case hi0 => exact rfl); (case hl => simp only [List.setIfInBounds_toArray, List.set_cons_zero, List.set_cons_succ]; rfl); (case hQ => exact fun _ _ _ h => h); (case hy => first | exact Or.inr ⟨by rfl, rfl⟩ | (refine Or.inl ⟨by rfl, ?_⟩; intro w_ hS_; go_simp; with_reducible rfl)); (case hS => exact hHeld3); (case ha => simp only [Act.put, List.setIfInBounds_toArray, List.set_cons_zero, List.set_cons_succ, i64_w, i32_w]; rfl))
  refine done_ (done_of HT_.out (by kernel_rfl)) ?_
  have M13 := Lib.hid (below_step M10.out HB13.out)
  have RG13 := Lib.hid (Td.Row_below RG10.out HB13.out)
  have HT13 := Lib.hid (BT_below HT10.out HB13.out)
  have QX13 := Lib.hid ((HB13.out.block _ (blk_lt QX10.out)).trans QX10.out)
  clear hHeld3 HT_ HW_ HB12 HB13 HT12 RG10 HT10 QX10 M10
  -- the marks of x0
  obtain ⟨b0, b1, b2, b3⟩ := cells4 QX13.out
  go_wp2_with fail
  clear b0 b1 b2 b3
  (with_reducible refine (markB_calls (m + 1) w5.heap.size y E0 e0 E3 e3 fpx 1 w5 w13 M13.out HT13.out (Nat.le_refl _) (by decide) HK.out).mono ?_)
  rintro e w14 ⟨rfl, _, hb14, hk14⟩
  have z7 := Z7.out
  have M14 := Lib.hid hb14
  have RG14 := Lib.hid (Td.Row_move RG13.out (fun k hk => hk14.2 k (Td.Row_lt RG13.out k hk) (fun hm => by have h1 := FX.out _ hm; have h2 := HFG.out k hk; omega)))
  clear hb14 hk14 RG13 HT13 QX13 M13
  obtain ⟨kx, hkx⟩ : ∃ kx, (mkL (mkC (m + 1)) y.f3 (mkL (mkO (m + 1)) y.f0 1).2).2 = kx := ⟨_, rfl⟩
  rw [hkx] at HKG ⊢
  have hkg := HKG.out
  clear hkx
  obtain ⟨_, _, eg, _, hcg⟩ := tO_C RG14.out
  cases eg
  have HCG := Lib.hid hcg
  clear hcg
  go_wp2_with fail
  (with_reducible refine (eqOs_calls (m + 1) L AG AW cg cw w14 HCG.out hlg (CW.out _ M14.out) hlw HSO.out).mono ?_)
  rintro e w15 ⟨rfl, hb15⟩
  have M15 := Lib.hid (below_step M14.out hb15)
  have RG15 := Lib.hid (Td.Row_below RG14.out hb15)
  clear hb15 RG14 M14 HCG
  -- the marks of g0
  go_wp2_with fail
  (with_reducible refine (markOs_calls m L _ fpg 1 w5 w15 M15.out RG15.out HNG.out (fun k hk => Nat.le_trans L57.out (HFG.out k hk)) (by decide) HMO.out).mono ?_)
  rintro e w16 ⟨rfl, hM16, hb16, _⟩
  have M16 := Lib.hid hb16
  have hlm : (mkL (mkO m) L 1).1.length = L.length := mkL_len _ _ _
  obtain ⟨_, _, eg, _, hcg⟩ := tO_C hM16
  rw [hlm] at eg hcg
  cases eg
  have OM16 := Lib.hid hcg
  clear hM16 hb16 RG15 M15 hcg hlm
  have HELD0 : Hid (∀ W, Below w16.heap.size w16 W → Calls Try.prog 33 #[.slice AG L.length cg, .int .i64 1] W fun e w' => e = .returned (.int .i64 (mkL (mkO m) L 1).2) ∧ Below W.heap.size W w') := Lib.hid (fun W h => heldOs_calls m L AG cg 1 W (Kd.C_below OM16.out h) hlg HSX.out (by decide) HMO.out)
  obtain ⟨ko, hko⟩ : ∃ ko, (mkL (mkO m) L 1).2 = ko := ⟨_, rfl⟩
  rw [hko] at HMG HELD0 ⊢
  have HELD := HELD0
  have hkg2 := HMG.out
  clear hko OM16 HELD0
  go_wp2_with fail
  (with_reducible refine (HELD.out w16 (Below.refl _ _)).mono ?_)
  rintro e w17 ⟨rfl, hb17⟩
  have T17 := Lib.hid hb17
  have M17 := Lib.hid (below_step M16.out hb17)
  clear hb17 M16
  -- h0
  obtain ⟨b0, b1, b2, b3⟩ := Q1c.out _ (below_step N5.out M17.out)
  go_wp2_with fail
  clear b0 b1 b2 b3
  refine (toBY m s y HY.out A0 c0 A3 c3 w17 (Kd.C_below G0.out (below_step N5.out M17.out)) l0 (Kd.C_below G3.out (below_step N5.out M17.out)) l3 HSM.out).mono ?_
  rintro e w18 ⟨H0, t0, H3, t3, fh, rfl, hT18, hb18⟩
  have M18 := Lib.hid (below_step M17.out hb18)
  have T18 := Lib.hid (below_step T17.out hb18)
  have HT18 := Lib.hid hT18
  clear hb18 hT18 M17 T17
  go_wp2_with fail
  have hio := implObjs_calls (m + 1) y ak H0 t0 H3 t3 w18 HT18.out.1 HSY.out
  rw [HLE.out] at hio
  refine hio.mono ?_
  rintro e w19 ⟨AH, ch, fph, rfl, hrow, _, _, hb19⟩
  have M19 := Lib.hid (below_step M18.out hb19)
  have T19 := Lib.hid (below_step T18.out hb19)
  obtain ⟨_, _, eg, hlh, hch⟩ := tO_C hrow
  cases eg
  have HCH := Lib.hid hch
  clear hb19 hrow hch hio HT18 M18 T18
  go_wp2_with fail
  (with_reducible refine (eqOs_calls (m + 1) L AH AW ch cw w19 HCH.out hlh (CW.out _ M19.out) hlw HSO.out).mono ?_)
  rintro e w21 ⟨rfl, hb21⟩
  have M21 := Lib.hid (below_step M19.out hb21)
  have T21 := Lib.hid (below_step T19.out hb21)
  clear hb21 HCH M19 T19
  go_wp2_with fail
  (with_reducible refine (HELD.out w21 T21.out).mono ?_)
  rintro e w22 ⟨rfl, hb22⟩
  have M22 := Lib.hid (below_step M21.out hb22)
  clear hb22 HELD
  go_wp2
  go_ret
  exact ⟨rfl, below_step HBA.out (below_step N5.out M22.out)⟩
theorem laws_FnExactObjs.calls (A0 : Option Addr) (c0 : Nat) (l0 : List LObj) (a1 a2 : Int) (A3 : Option Addr) (c3 : Nat) (l3 : List LChg) (ak : Int) (r : Bool) (w : World) (hr0 : Kd.C k121 w A0 l0.length l0) (hc0 : l0.length ≤ c0) (hr3 : Kd.C k124 w A3 l3.length l3) (hc3 : l3.length ≤ c3) (h : laws_FnExactObjs.f l0 a1 a2 l3 ak = some r) :
    Calls Try.prog 7 #[.agg #[.slice A0 l0.length c0, .int .i64 a1, .int .i64 a2, .slice A3 l3.length c3], .int .i64 ak] w fun e w' => e = .returned (.bool r) ∧ Below w.heap.size w w' := by
  unfold laws_FnExactObjs.f at h
  split at h
  case isTrue hc =>
    obtain rfl := Option.some.inj h
    exact objs_law ⟨l0, a1, a2, l3⟩ ak A0 c0 A3 c3 w hr0 hc0 hr3 hc3 hc
  case isFalse => cases h
end Go.Proofs.Ytmoiacijklkfaaa.G

/- G7 -/
-- the law, walked by hand

/- RowFnExactObjs -/
/- The law 'FnExactObjs' holds for every input: it returns true, and each argument reads behind the call as it read before. No condition. -/
namespace Go.Proofs.Ytmoiacijklkfaaa.fnExactObjs
open Go.ChangeShapes Go.WideShapes Go.ChangeAt Go.RowKit
set_option linter.unusedVariables false
theorem own : ownKnob Try.prog.godebug = none := by kernel_rfl
theorem laidOut : laidOutB Try.prog = true := by kernel_rfl
set_option maxRecDepth 100000 in
theorem lifted (os : Os) (started : os.Started) (H : Type) (enc : TypeId × Value → H) :
    ReturnsInHanded {} Try.checked os 7 .any (Rows.fnExactObjsSpec.pre6 enc Try.prog Try.f7 Rows.fnExactObjsRow.domain false) (Rows.fnExactObjsSpec.post enc Try.prog Try.f7 false true false false) := by
  refine returnsInHanded_of_change (C := Try.checked) own started (by kernel_rfl) Try.func7
    (ChangeSpec.witness6 (enc := enc) (C := Try.checked) false ⟨#[], #[.agg #[.slice none 0 0, .int .i64 0, .int .i64 0, .slice none 0 0], .int .i64 0], []⟩ 8 (by kernel_rfl) (by kernel_rfl) (by kernel_rfl) (by kernel_rfl)) ?_
  intro W base args ds gs before hval0 hW hcnd _
  have hval : ∀ (j : Nat) t v, Try.f7.params[j]? = some t → args[j]? = some v → Value.okWide Try.prog W .any base t v := hval0
  have hW' := hW
  obtain ⟨p, q, hA0, hV, rfl, hfz, hnd⟩ := hW
  have hA : DataW.TrodAll enc Try.prog W 0 (fun _ => true) true Try.f7.params.toList args.toList ds p := hA0
  rw [Try.params7] at hA hval
  obtain ⟨v0, vs0, d0, ds0, p0, q0, hargs0, rfl, rfl, h0, r0x⟩ := trodAll_cons hA
  obtain ⟨v1, vs1, d1, ds1, p1, q1, hargs1, rfl, rfl, h1, r1x⟩ := trodAll_cons r0x
  obtain ⟨rfl, rfl, rfl⟩ := trodAll_nil r1x
  obtain rfl : args = #[v0, v1] := by cases args; simp_all
  obtain ⟨rfl, rfl⟩ := trodVars_none hV
  have hlt := hW'.lt
  have hk0 := h0
  have hk1 := h1
  obtain ⟨s0, A0_0, c0_0, A0_3, c0_3, rfl, w0, l0_0, q0_0, l0_3, q0_3⟩ := G.kopen_base (hval 0 25 v0 rfl rfl) h0
  obtain ⟨s1, rfl, _, _, y1⟩ := open_int Try.underlying3 (hval 1 3 v1 rfl rfl) h1
  clear hA0 hval0
  have hk := G.FnExactObjs_pure s0 s1 w0 (G.int_wf y1)
  refine (G.laws_FnExactObjs.calls  A0_0 c0_0 s0.f0 s0.f1 s0.f2 A0_3 c0_3 s0.f3 s1 true W q0_0 l0_0 q0_3 l0_3  hk).mono fun e W' ⟨he, bel⟩ => ?_
  subst he
  exact ⟨_, rfl, _, _, _, [], _, [], hW', trodAll_mk1 (shut_bool Try.underlying4 _), (trodAll_cons_mk (Below.trod laidOut (by kernel_rfl) (of_decide_eq_true (by kernel_rfl)) hk0 bel (fun x hx => hlt x (by simp [hx]))) (trodAll_cons_mk (Below.trod laidOut (by kernel_rfl) (of_decide_eq_true (by kernel_rfl)) hk1 bel (fun x hx => hlt x (by simp [hx]))) trodAll_mk0)), rfl, bel.frame _, fun h => by cases h⟩
theorem over : Rows.fnExactObjsRow.holds Try.pinned (OpenSpec.ofChange Rows.fnExactObjsSpec) :=
  OpenClaim.holds_of_wide 7 Try.f7 rfl rfl rfl rfl rfl rfl rfl ⟨rfl, rfl, rfl, rfl, rfl⟩ rfl rfl rfl rfl rfl (by kernel_rfl) Try.func7 (by kernel_rfl)
    (of_decide_eq_true (by kernel_rfl)) (by unfold Func.isWrapper; first | (rw [if_pos (by decide +kernel)]; kernel_rfl) | (rw [if_neg (by decide +kernel)]; exact ⟨rfl, rfl⟩))
    (fun os started H enc _ => lifted os started H enc)
theorem proved : Rows.FnExactObjsSaid := over
#print axioms proved
end Go.Proofs.Ytmoiacijklkfaaa.fnExactObjs
namespace Go.Proofs.Ytmoiacijklkfaaa
theorem fnExactObjs_holds : Rows.FnExactObjsSaid := fnExactObjs.proved
end Go.Proofs.Ytmoiacijklkfaaa
