import Derived.Test.YtchhognpijobcaaMFnExactReach1
import Derived.Test.YtchhognpijobcaaMFnExactReach3
import Derived.Test.YtchhognpijobcaaMFnExactReach2
/- GKMarkV -/
/-
  Marks: a tree of values whose rows lie apart is marked in place, each text and number with its own mark.
-/
namespace Go.Proofs.Ytchhognpijobcaa.G
open Go.RowKit Go.Proofs.YtchhognpijobcaaW.PrintWords Go.Proofs.YtchhognpijobcaaW.PrintLast Go.Proofs.YtchhognpijobcaaW.PrintMore
set_option linter.unusedVariables false
set_option linter.unusedSimpArgs false
/-! ### values -/
noncomputable def mkV : Nat → TVal → Int → TVal × Int
  | 0, x, k => (x, k)
  | n + 1, x, k => (⟨k, mt (k + 1), k + 2, (mkL mkS x.f3 (k + 3)).1, (mkL (mkV n) x.f4 (mkL mkS x.f3 (k + 3)).2).1⟩, (mkL (mkV n) x.f4 (mkL mkS x.f3 (k + 3)).2).2)
theorem mkV_mono : ∀ (n : Nat) (x : TVal) (k : Int), k ≤ (mkV n x k).2
  | 0, x, k => Int.le_refl _
  | n + 1, x, k => by
    have h1 := mkL_mono mkS_mono x.f3 (k + 3)
    have h2 := mkL_mono (mkV_mono n) x.f4 (mkL mkS x.f3 (k + 3)).2
    rw [mkV]
    show k ≤ (mkL (mkV n) x.f4 (mkL mkS x.f3 (k + 3)).2).2
    omega
end Go.Proofs.Ytchhognpijobcaa.G

/- PValCnt -/
/-
  How many marks a value takes: no more than four times its size.
-/
namespace Go.Proofs.Ytchhognpijobcaa.G
open Go.RowKit Go.Proofs.YtchhognpijobcaaW.PrintWords Go.Proofs.YtchhognpijobcaaW.PrintLast Go.Proofs.YtchhognpijobcaaW.PrintMore
set_option linter.unusedVariables false
set_option linter.unusedSimpArgs false
/-- The program's value of a law's value, n deep. -/
def cVN : Nat → LVal → IVal
  | 0, x => ⟨x.f0, x.f1, x.f2, x.f3, []⟩
  | n + 1, x => ⟨x.f0, x.f1, x.f2, x.f3, x.f4.map (cVN n)⟩
theorem cVN_sm : ∀ (n : Nat) (x : LVal), wfValN n x → SmL n x → SmI n (cVN n x)
  | 0, x, _, h => by rw [SmL] at h; exact h.elim
  | n + 1, x, hw, h => by
    rw [wfValN] at hw
    rw [SmL] at h
    rw [SmI, cVN]
    refine ⟨hw.2.2.1, h.1, h.2.1, by simpa using h.2.2.1, fun y hy => ?_⟩
    obtain ⟨z, hz, rfl⟩ := List.mem_map.1 hy
    exact cVN_sm n z (hw.2.2.2.2.2 z hz) (h.2.2.2 z hz)
/-- The marks of a value's keys and kids. -/
def mcI : Nat → IVal → Nat
  | 0, x => x.f3.length
  | n + 1, x => x.f3.length + (x.f4.map (fun y => 3 + mcI n y)).sum
def mcL : Nat → LVal → Nat
  | 0, x => x.f3.length
  | n + 1, x => x.f3.length + (x.f4.map (fun y => 3 + mcL n y)).sum
theorem mc_c : ∀ (n : Nat) (x : LVal), mcI n (cVN n x) = mcL n x
  | 0, x => rfl
  | n + 1, x => by
    rw [mcL, mcI, cVN]
    simp only [List.map_map]
    congr 2
    refine List.map_congr_left (fun y _ => ?_)
    show 3 + mcI n (cVN n y) = _
    rw [mc_c n y]
theorem mkL_sum {α : Type} (f : α → Int → α × Int) (c : α → Nat) : ∀ (xs : List α), (∀ x ∈ xs, ∀ k, (f x k).2 ≤ k + c x) → ∀ k, (mkL f xs k).2 ≤ k + (xs.map c).sum
  | [], _, k => by simp [mkL]
  | x :: xs, h, k => by
    have h1 := h x (by simp) k
    have h2 := mkL_sum f c xs (fun y hy => h y (by simp [hy])) (f x k).2
    rw [mkL, List.map_cons, List.sum_cons]
    show (mkL f xs (f x k).2).2 ≤ _
    omega
theorem mkV_cnt : ∀ (n : Nat) (x : IVal) (k : Int), (mkV n x k).2 ≤ k + ((3 + mcI n x : Nat) : Int)
  | 0, x, k => by show k ≤ _; omega
  | n + 1, x, k => by
    have h1 := mkS_count x.f3 (k + 3)
    have h2 : (mkL (mkV n) x.f4 (mkL mkS x.f3 (k + 3)).2).2 ≤ (mkL mkS x.f3 (k + 3)).2 + (((x.f4.map (fun y => 3 + mcI n y)).sum : Nat) : Int) := mkL_sum (mkV n) (fun y => 3 + mcI n y) x.f4 (fun y _ k => mkV_cnt n y k) _
    have h3 : mcI (n + 1) x = x.f3.length + (x.f4.map (fun y => 3 + mcI n y)).sum := rfl
    rw [h3]
    show (mkL (mkV n) x.f4 (mkL mkS x.f3 (k + 3)).2).2 ≤ _
    omega
/-- All marks of a value from k on. -/
theorem marks_cnt (n : Nat) (x : IVal) (k : Int) : (mkL (mkV n) x.f4 (mkL mkS x.f3 k).2).2 ≤ k + mcI (n + 1) x := by
  have h1 := mkS_count x.f3 k
  have h2 : (mkL (mkV n) x.f4 (mkL mkS x.f3 k).2).2 ≤ (mkL mkS x.f3 k).2 + (((x.f4.map (fun y => 3 + mcI n y)).sum : Nat) : Int) := mkL_sum (mkV n) (fun y => 3 + mcI n y) x.f4 (fun y _ k => mkV_cnt n y k) _
  have h3 : mcI (n + 1) x = x.f3.length + (x.f4.map (fun y => 3 + mcI n y)).sum := rfl
  rw [h3]; omega
theorem szValue_cnt : ∀ (n : Nat) (x : LVal) (left : Int), wfValN n x → 0 ≤ left → left ≤ 1048576 → ∃ r, Ev (fun k => laws_szValue.f k x.f0 x.f1 x.f2 x.f3 x.f4 left) r ∧ Left left (SmL n x ∧ (mcL n x : Int) ≤ 4 * (left - r)) r
  | 0, x, left, hw, _, _ => by rw [wfValN] at hw; exact hw.elim
  | n + 1, x, left, hw, h0, h1 => by
    rw [wfValN] at hw
    obtain ⟨_, ht, _, hk, hl, hkids⟩ := hw
    unfold wfStr at ht
    have loop : ∀ (d i : Nat) (left : Int), i + d = x.f4.length → 0 ≤ left → left ≤ 1048576 → ∃ r, Ev (fun k => laws_szValueS.l0 k x.f4 left i) r ∧ Left left ((∀ y ∈ x.f4.drop i, SmL n y) ∧ (((x.f4.drop i).map (mcL n)).sum : Int) ≤ 4 * (left - r)) r := by
      intro d
      induction d with
      | zero =>
        intro i left hi h0 h1
        refine ⟨left, Ev.step (fun k => by rw [laws_szValueS.l0]) (ev_if_neg (by omega) (Ev.now _)), .inr ⟨h0, Int.le_refl _, ?_⟩⟩
        rw [List.drop_of_length_le (by omega)]
        exact ⟨fun y hy => (by cases hy), by simp⟩
      | succ d ih =>
        intro i left hid h0 h1
        have hi : i < x.f4.length := by omega
        obtain ⟨r, hr, hL⟩ := szValue_cnt n x.f4[i] left (hkids _ (List.getElem_mem hi)) h0 h1
        rcases hL with hneg | ⟨hp, hle, hs⟩
        · refine ⟨-1, Ev.step (fun k => by rw [laws_szValueS.l0]) (ev_if_pos (by omega) (ev_if_pos (by omega) ?_)), .inl (by omega)⟩
          simp only [rdLV hi]
          exact Ev.bind hr (ev_if_pos hneg (Ev.now _))
        · obtain ⟨r2, hr2, hL2⟩ := ih (i + 1) r (by omega) hp (by omega)
          refine ⟨r2, Ev.step (fun k => by rw [laws_szValueS.l0]) (ev_if_pos (by omega) (ev_if_pos (by omega) ?_)), ?_⟩
          · simp only [rdLV hi, wsucc hi hl]
            exact Ev.bind hr (ev_if_neg (by omega) hr2)
          · rcases hL2 with h | ⟨a, b, c, c2⟩
            · exact .inl h
            · refine .inr ⟨a, by omega, ?_, ?_⟩
              · rw [List.drop_eq_getElem_cons hi]
                intro y hy
                rcases List.mem_cons.1 hy with rfl | hy
                · exact hs.1
                · exact c y hy
              · rw [List.drop_eq_getElem_cons hi, List.map_cons, List.sum_cons]
                have := hs.2
                omega
    have hsum : ((x.f4.map (fun y => 3 + mcL n y)).sum : Nat) = 3 * x.f4.length + (x.f4.map (mcL n)).sum := by
      have : ∀ l : List LVal, ((l.map (fun y => 3 + mcL n y)).sum : Nat) = 3 * l.length + (l.map (mcL n)).sum := by
        intro l
        induction l with
        | nil => simp
        | cons y l ih => rw [List.map_cons, List.sum_cons, ih, List.map_cons, List.sum_cons, List.length_cons]; omega
      exact this _
    by_cases c1 : left - (x.f1.size : Int) < 0
    · exact ⟨-1, Ev.step (fun k => by rw [laws_szValue.f]) (ev_if_pos (by rw [w64 (by omega) (by omega)]; exact c1) (Ev.now _)), .inl (by omega)⟩
    · have hz := szStringS_ev x.f3 (left - (x.f1.size : Int)) ⟨hk.1, hk.2⟩ (by omega) (by omega)
      have hle := szR_le (by omega : 0 ≤ left - (x.f1.size : Int)) (totStrs x.f3)
      by_cases c2 : szR (left - (x.f1.size : Int)) (totStrs x.f3) < 0
      · refine ⟨-1, Ev.step (fun k => by rw [laws_szValue.f]) ?_, .inl (by omega)⟩
        rw [w64 (by omega) (by omega)]
        exact ev_if_neg c1 (Ev.bind hz (ev_if_pos c2 (Ev.now _)))
      · have hsm := strs_small (by omega) (by omega : 0 ≤ szR (left - (x.f1.size : Int)) (totStrs x.f3))
        have hpos := szR_nonneg (by omega : 0 ≤ szR (left - (x.f1.size : Int)) (totStrs x.f3))
        have hqv := szR_pos hpos
        have htl : x.f3.length ≤ totStrs x.f3 := by unfold totStrs; omega
        generalize hq : szR (left - (x.f1.size : Int)) (totStrs x.f3) = q at hz hle c2 hsm hqv
        by_cases c3 : q - (x.f4.length : Int) < 0
        · refine ⟨-1, Ev.step (fun k => by rw [laws_szValue.f]) ?_, .inl (by omega)⟩
          rw [w64 (by omega) (by omega)]
          refine ev_if_neg c1 (Ev.bind hz (ev_if_neg c2 (Ev.bind (a := -1) (Ev.step (fun k => by rw [laws_szValueS.f]) ?_) (ev_if_pos (by omega) (Ev.now _)))))
          rw [w64 (by omega) (by omega)]
          exact ev_if_pos c3 (Ev.now _)
        · obtain ⟨r, hr, hL⟩ := loop x.f4.length 0 (q - (x.f4.length : Int)) (by omega) (by omega) (by omega)
          have hkid : Ev (fun k => laws_szValueS.f k x.f4 q) r := by
            refine Ev.step (fun k => by rw [laws_szValueS.f]) ?_
            rw [w64 (by omega) (by omega)]
            exact ev_if_neg c3 hr
          rcases hL with hneg | ⟨hp, hle2, hs, hs2⟩
          · refine ⟨-1, Ev.step (fun k => by rw [laws_szValue.f]) ?_, .inl (by omega)⟩
            rw [w64 (by omega) (by omega)]
            exact ev_if_neg c1 (Ev.bind hz (ev_if_neg c2 (Ev.bind hkid (ev_if_pos hneg (Ev.now _)))))
          · refine ⟨r, Ev.step (fun k => by rw [laws_szValue.f]) ?_, .inr ⟨hp, by omega, ?_, ?_⟩⟩
            · rw [w64 (by omega) (by omega)]
              exact ev_if_neg c1 (Ev.bind hz (ev_if_neg c2 (Ev.bind hkid (ev_if_neg (by omega) (Ev.now _)))))
            · rw [SmL]
              exact ⟨by omega, hsm, by omega, fun y hy => hs y (by rw [List.drop_zero]; exact hy)⟩
            · rw [mcL, hsum]
              rw [List.drop_zero] at hs2
              omega
end Go.Proofs.Ytchhognpijobcaa.G

/- GKValTo -/
/-
  A law's value made the program's, in rows of its own.
-/
namespace Go.Proofs.Ytchhognpijobcaa.G
open Go.RowKit Go.Proofs.YtchhognpijobcaaW.PrintWords Go.Proofs.YtchhognpijobcaaW.PrintLast Go.Proofs.YtchhognpijobcaaW.PrintMore
attribute [local go_sem] max2_int min2_int max_two min_two max_three min_three max_four min_four
set_option linter.unusedVariables false
set_option linter.unusedSimpArgs false
def zV : TVal := ⟨0, ⟨#[]⟩, 0, [], []⟩
theorem zV_T (n : Nat) (w : World) : (tV (n + 1)).T w zV [.int .i64 0, .string ⟨#[]⟩, .int .i64 0, .slice none 0 0, .slice none 0 0] [] :=
  tV_mk (x := zV) (f3 := []) (f4 := []) (Td.Row_nil _ _ _) (Td.Row_nil _ _ _)
/-- What a call of toValue leaves. -/
def ToV (n : Nat) : Prop := ∀ (x : LVal) (A3 : Option Addr) (c3 : Nat) (A4 : Option Addr) (c4 : Nat) (w : World), Kd.C Kd.string w A3 x.f3.length x.f3 → x.f3.length ≤ c3 → Kd.C k25 w A4 x.f4.length x.f4 → x.f4.length ≤ c4 → SmL n x →
  Calls Try.prog 14 #[.agg #[.int .i64 x.f0, .string x.f1, .int .i64 x.f2, .slice A3 x.f3.length c3, .slice A4 x.f4.length c4]] w fun e w' => ∃ (v3 v4 : Value) (fp : List Nat), e = .returned (.agg #[.int .i64 x.f0, .string x.f1, .int .i64 x.f2, v3, v4]) ∧
    (tV (n + 1)).T w' (cVN n x) [.int .i64 x.f0, .string x.f1, .int .i64 x.f2, v3, v4] fp ∧ fp.Nodup ∧ (∀ k ∈ fp, w.heap.size ≤ k) ∧ Below w.heap.size w w'
def ToS (n : Nat) : Prop := ∀ (xs : List LVal) (A : Option Addr) (c : Nat) (w : World), Kd.C k25 w A xs.length xs → xs.length ≤ c → xs.length ≤ 1048576 → (∀ x ∈ xs, SmL n x) →
  Calls Try.prog 50 #[.slice A xs.length c] w fun e w' => ∃ (v : Value) (fp : List Nat), e = .returned v ∧ (tV (n + 1)).Row 30 w' v (xs.map (cVN n)) fp ∧ fp.Nodup ∧ (∀ k ∈ fp, w.heap.size ≤ k) ∧ Below w.heap.size w w'
set_option maxHeartbeats 4000000 in
set_option maxRecDepth 100000 in
theorem toS_of (n : Nat) (h : ToV n) : ToS n := by
  intro xs A c w hC hc hl hs
  have HC := Lib.hid hC
  have HV := Lib.hid h
  have HSM := Lib.hid hs
  clear hC h hs
  go_enter Try.func50, Try.ntmps50
  go_wp2_with ((with_reducible refine gate_dst (N := 7) rfl ?_); refine Td.Row_make (tV (n + 1)) (w0 := w) 30 rfl (N := 7) rfl 28 _ _ rfl (xs.length : Int) rfl rfl Try.underlying28 (.agg #[(.int .i64 0), (.string ⟨#[]⟩), (.int .i64 0), (.slice none 0 0), (.slice none 0 0)]) 80 info30 rfl (show 0 < 5 by decide) (by omega) zV (zV_T n _) (by omega) (by omega) (Below.refl _ _) ?_; intro v7 w4 fp hrow hn hf hb hg_; clear hg_; have HRW := Lib.hid hrow; have HN := Lib.hid hn; have HF := Lib.hid hf; have HB := Lib.hid hb; clear hrow hn hf hb)
  go_loopw [4] (fun vi wr => ∃ (i : Nat) (fq : List Nat), i ≤ xs.length ∧ vi = .int .i64 i ∧ Hid ((tV (n + 1)).Row 30 wr v7 ((xs.take i).map (cVN n) ++ List.replicate (xs.length - i) zV) fq) ∧ Hid fq.Nodup ∧ Hid (∀ k ∈ fq, w.heap.size ≤ k) ∧ Hid (Below w.heap.size w wr)) (fun vi _ => xs.length - (intOf vi).toNat)
  case atStart =>
    refine ⟨0, fp, by omega, rfl, ?_, HN, HF, HB⟩
    have h_ := HRW.out
    rw [Int.toNat_natCast] at h_
    rw [List.take_zero, List.map_nil, List.nil_append, Nat.sub_zero]
    exact h_
  case round =>
    clear HRW HN HF HB
    obtain ⟨i, fq, hi, rfl, HR, HN, HF, HB⟩ := hrel
    by_cases hil : i < xs.length
    · obtain ⟨ad, cs, rfl, hcs, hK, hcell⟩ := Kd.C_get HC.out xs[i] (i : Int) (by omega) (by omega)
      simp only [Int.toNat_natCast, getD_at hil] at hK hcell
      obtain ⟨A3, c3, A4, c4, rfl, l3, g3, l4, g4⟩ := k25_open hK
      have d0 := pw_cell_below HB.out (hcell 0 _ rfl)
      have d1 := pw_cell_below HB.out (hcell 1 _ rfl)
      have d2 := pw_cell_below HB.out (hcell 2 _ rfl)
      have d3 := pw_cell_below HB.out (hcell 3 _ rfl)
      have d4 := pw_cell_below HB.out (hcell 4 _ rfl)
      have HV1 := Lib.hid (HV.out xs[i] A3 c3 A4 c4 wr (Kd.C_below g3 HB.out) l3 (Kd.C_below g4 HB.out) l4 (HSM.out _ (List.getElem_mem hil)))
      rw [show k25.sz = 5 from rfl] at d0 d1 d2 d3 d4
      simp only [Nat.add_zero] at d0
      rw [add_field _ _ 1 (by omega)] at d1
      rw [add_field _ _ 2 (by omega)] at d2
      rw [add_field _ _ 3 (by omega)] at d3
      rw [add_field _ _ 4 (by omega)] at d4
      clear hcs hcell hK l3 g3 l4 g4
      have hP : ((xs.take i).map (cVN n)).length = i := by rw [List.length_map, List.length_take]; omega
      have hrep : List.replicate (xs.length - i) zV = zV :: List.replicate (xs.length - (i + 1)) zV := by
        rw [show xs.length - i = (xs.length - (i + 1)) + 1 by omega, List.replicate_succ]
      have HRL := HR.out
      rw [hrep] at HRL
      have hlen : ((xs.take i).map (cVN n) ++ zV :: List.replicate (xs.length - (i + 1)) zV).length = xs.length := by
        rw [List.length_append, List.length_cons, List.length_replicate, hP]; omega
      have HR1 := Lib.hid HRL
      have HPL := Lib.hid hP
      have HLN := Lib.hid hlen
      have hfl : Hid (∀ k ∈ fq, k < wr.heap.size) := Lib.hid (Td.Row_lt HRL)
      clear HR HRL hP hrep hlen
      go_wp2_with fail
      (with_reducible refine HV1.out.mono ?_)
      rintro e w2 ⟨v3, v4, fv, rfl, hT, hvn, hvb, hb2⟩
      obtain ⟨u3, u4, g3, g4, hu, _, hr3, hr4⟩ := tV_open hT
      simp only [List.cons.injEq, true_and, and_true] at hu
      obtain ⟨q0, q1, q2, rfl, rfl⟩ := hu
      clear q0 q1 q2
      obtain ⟨B3, e3, rfl⟩ := Td.Row_slice hr3
      obtain ⟨B4, e4, rfl⟩ := Td.Row_slice hr4
      obtain ⟨g, cap, cs, fq', hv, hcl, hcc, hfz, hg, hglt, hrow', hn', hin'⟩ := Td.Row_put (Td.Row_below HR1.out hb2) HN.out (i := i) (by rw [HLN.out]; exact hil) hT hvn (fun k hk hm => by have h1 := hvb k hk; have h2 := hfl.out k hm; omega)
      have hgw := HF.out g hg
      rw [HLN.out] at hv
      subst hv
      rw [show (tV (n + 1)).sz = 5 from rfl] at hcl hcc hrow'
      obtain ⟨y0, y1, y2, y3, y4, rfl⟩ : ∃ y0 y1 y2 y3 y4, cs = [y0, y1, y2, y3, y4] := by match cs, hcl with | [y0, y1, y2, y3, y4], _ => exact ⟨y0, y1, y2, y3, y4, rfl⟩
      have e0 := hcc 0 y0 rfl
      have e1 := hcc 1 y1 rfl
      have e2 := hcc 2 y2 rfl
      have e3' := hcc 3 y3 rfl
      have e4' := hcc 4 y4 rfl
      have f0 := hfz (i * 5)
      have f1 := hfz (i * 5 + 1)
      have f2 := hfz (i * 5 + 2)
      have f3 := hfz (i * 5 + 3)
      have f4 := hfz (i * 5 + 4)
      simp only [Nat.add_zero] at e0
      have hbw := below_step HB.out hb2
      rw [set_at _ _ _ _ HPL.out] at hrow'
      simp only [World.setCells, Nat.add_assoc, Nat.reduceAdd] at hrow'
      have HRN := Lib.hid hrow'
      have HNN := Lib.hid hn'
      have HFN : Hid (∀ k ∈ fq', w.heap.size ≤ k) := Lib.hid (fun k hk => by
        rcases hin' k hk with h | h
        · exact HF.out k h
        · exact Nat.le_trans HB.out.size (hvb k h))
      have HBN := Lib.hid (below_set (j := i * 5 + 4) (v := .slice (some ⟨0, 0, none⟩) 0 0) hbw hgw)
      have HB2 := Lib.hid hbw
      clear hrow' hn' hin' hcc hfz hcl hT hr3 hr4 hvn hvb hb2 HV1 HR1 d0 d1 d2 d3 d4 hbw HBN
      go_wp2
      go_roundw
      case rel =>
        refine ⟨i + 1, fq', by omega, by go_num, ?_, HNN, HFN, ?_⟩
        · have h_ := HRN.out
          unfold Hid
          rw [List.take_succ_eq_append_getElem hil, List.map_append, List.append_assoc, List.map_cons, List.map_nil, List.singleton_append]
          exact h_
        · exact below_set (below_set (below_set (below_set (below_set HB2.out hgw) hgw) hgw) hgw) hgw
      case measure => simp [intOf]; omega
    · obtain rfl : i = xs.length := by omega
      go_wp2
      go_ret
      have h_ := HR.out
      rw [List.take_length, Nat.sub_self, List.replicate_zero, List.append_nil] at h_
      exact ⟨_, _, rfl, h_, HN.out, HF.out, HB.out⟩
/-- Five cells of one block stored: the others stand. -/
theorem heap5 (w : World) (g : Nat) (a0 a1 a2 a3 a4 : Value) (k : Nat) (h : k ≠ g) : (((((w.setCell ⟨g, 0, none⟩ a0).setCell ⟨g, 1, none⟩ a1).setCell ⟨g, 2, none⟩ a2).setCell ⟨g, 3, none⟩ a3).setCell ⟨g, 4, none⟩ a4).heap[k]? = w.heap[k]? := by
  rw [Below.heap_setCell _ _ _ _ h, Below.heap_setCell _ _ _ _ h, Below.heap_setCell _ _ _ _ h, Below.heap_setCell _ _ _ _ h, Below.heap_setCell _ _ _ _ h]
theorem alloc3 (w : World) (a b c : Obj) : (((w.alloc a).alloc b).alloc c).heap[w.heap.size]? = some a ∧ (((w.alloc a).alloc b).alloc c).heap[w.heap.size + 1]? = some b ∧ (((w.alloc a).alloc b).alloc c).heap[w.heap.size + 1 + 1]? = some c ∧ (((w.alloc a).alloc b).alloc c).heap.size = w.heap.size + 1 + 1 + 1 := by
  have s1 : (w.alloc a).heap.size = w.heap.size + 1 := by simp
  have s2 : ((w.alloc a).alloc b).heap.size = w.heap.size + 1 + 1 := by simp
  have s3 : (((w.alloc a).alloc b).alloc c).heap.size = w.heap.size + 1 + 1 + 1 := by simp
  have h1 := heap_alloc_new w a
  have h2 := heap_alloc_new (w.alloc a) b
  have h3 := heap_alloc_new ((w.alloc a).alloc b) c
  have b2 := below_alloc (Below.refl (w.alloc a).heap.size (w.alloc a)) b
  have b3 := below_alloc (Below.refl ((w.alloc a).alloc b).heap.size ((w.alloc a).alloc b)) c
  rw [s1] at h2
  rw [s2] at h3
  refine ⟨?_, ?_, h3, s3⟩
  · exact (b3.block _ (by omega)).trans ((b2.block _ (by omega)).trans h1)
  · exact (b3.block _ (by omega)).trans h2
theorem blk5 {w : World} {g ty : Nat} {a0 a1 a2 a3 a4 : Value} (h : w.heap[g]? = some (.cells #[a0, a1, a2, a3, a4] ty (0, 0))) (b0 b1 b2 b3 b4 : Value) :
    (((((w.setCell ⟨g, 0, none⟩ b0).setCell ⟨g, 1, none⟩ b1).setCell ⟨g, 2, none⟩ b2).setCell ⟨g, 3, none⟩ b3).setCell ⟨g, 4, none⟩ b4).heap[g]? = some (.cells #[b0, b1, b2, b3, b4] ty (0, 0)) := by
  have h5 := blk_set (blk_set (blk_set (blk_set (blk_set h 0 b0) 1 b1) 2 b2) 3 b3) 4 b4
  simpa using h5
theorem cells5 {w : World} {g ty : Nat} {a0 a1 a2 a3 a4 : Value} (h : w.heap[g]? = some (.cells #[a0, a1, a2, a3, a4] ty (0, 0))) :
    w.cell? ⟨g, 0, none⟩ = some a0 ∧ w.cell? ⟨g, 1, none⟩ = some a1 ∧ w.cell? ⟨g, 2, none⟩ = some a2 ∧ w.cell? ⟨g, 3, none⟩ = some a3 ∧ w.cell? ⟨g, 4, none⟩ = some a4 :=
  ⟨blk_cell h 0, blk_cell h 1, blk_cell h 2, blk_cell h 3, blk_cell h 4⟩
set_option maxHeartbeats 4000000 in
set_option maxRecDepth 100000 in
theorem toV_of (n : Nat) (h : ToS n) : ToV (n + 1) := by
  intro x A3 c3 A4 c4 w g3 l3 g4 l4 hs
  rw [SmL] at hs
  obtain ⟨hs1, hs3, hs4, hsk⟩ := hs
  have hk3 := toStringS_ev x.f3 hs3.1
  obtain ⟨K, hK⟩ := hk3
  have HK := Lib.hid (hK K (Nat.le_refl _))
  obtain ⟨W1, hW1⟩ : ∃ W1, ((w.alloc (.cells #[.int .i64 x.f0, .string x.f1, .int .i64 x.f2, .slice A3 x.f3.length c3, .slice A4 x.f4.length c4] 25)).alloc (.cells #[.int .i64 0, .string ⟨#[]⟩, .int .i64 0, .slice none 0 0, .slice none 0 0] 30)).alloc (.cells #[.int .i64 x.f0, .string x.f1, .int .i64 x.f2, .slice none 0 0, .slice none 0 0] 30) = W1 := ⟨_, rfl⟩
  have hbA := below_alloc (below_alloc (below_alloc (Below.refl w.heap.size w) (.cells #[.int .i64 x.f0, .string x.f1, .int .i64 x.f2, .slice A3 x.f3.length c3, .slice A4 x.f4.length c4] 25)) (.cells #[.int .i64 0, .string ⟨#[]⟩, .int .i64 0, .slice none 0 0, .slice none 0 0] 30)) (.cells #[.int .i64 x.f0, .string x.f1, .int .i64 x.f2, .slice none 0 0, .slice none 0 0] 30)
  obtain ⟨hb0, hb1, hb2, hsz⟩ := alloc3 w (.cells #[.int .i64 x.f0, .string x.f1, .int .i64 x.f2, .slice A3 x.f3.length c3, .slice A4 x.f4.length c4] 25) (.cells #[.int .i64 0, .string ⟨#[]⟩, .int .i64 0, .slice none 0 0, .slice none 0 0] 30) (.cells #[.int .i64 x.f0, .string x.f1, .int .i64 x.f2, .slice none 0 0, .slice none 0 0] 30)
  rw [hW1] at hb0 hb1 hb2 hsz
  rw [hW1] at hbA
  have HW1 := Lib.hid hW1
  have HBA := Lib.hid hbA
  have HSZ := Lib.hid hsz
  have HB0 := Lib.hid hb0
  have HB1 := Lib.hid hb1
  have HB2 := Lib.hid hb2
  have HS := Lib.hid h
  have G3 := Lib.hid (Kd.C_below g3 hbA)
  have G4 := Lib.hid g4
  have HSK := Lib.hid hsk
  clear hK g3 g4 h hsk hs3 hs1 hW1 hbA hsz hb0 hb1 hb2
  go_enter Try.func14, Try.ntmps14
  go_wp2_with fail
  rw [HW1.out]
  refine (laws_toStringS.calls K A3 c3 x.f3 x.f3 W1 G3.out l3 HK.out).mono ?_
  rintro e w2 ⟨v3, rfl, hr3, hc2⟩
  have hr3' := Td.Row_of_R hr3
  have hr3b := Kd.R_base hr3
  obtain ⟨B3, e3, rfl⟩ := Kd.R_slice hr3
  have z0 := (hc2.block _ (blk_lt HB0.out)).trans HB0.out
  have z1 := (hc2.block _ (blk_lt HB1.out)).trans HB1.out
  have z2 := (hc2.block _ (blk_lt HB2.out)).trans HB2.out
  obtain ⟨_, _, _, _, d4⟩ := cells5 z0
  obtain ⟨_, _, _, c3', _⟩ := cells5 z2
  have f3 := blk_frozen z2 3
  obtain ⟨W2, hW2⟩ : ∃ W2, w2.setCell ⟨w.heap.size + 1 + 1, 3, none⟩ (.slice B3 x.f3.length e3) = W2 := ⟨_, rfl⟩
  have hs1 := HSZ.out
  have q1 := blk_far z1 (p := ⟨w.heap.size + 1 + 1, 3, none⟩) (by simp) (.slice B3 x.f3.length e3)
  have q2 := blk_set z2 3 (.slice B3 x.f3.length e3)
  have cb := below_step HBA.out hc2
  have cb2 := below_set (j := 3) (v := .slice B3 x.f3.length e3) cb (show w.heap.size ≤ w.heap.size + 1 + 1 by omega)
  have hrw : Td.string.Row 9 (w2.setCell ⟨w.heap.size + 1 + 1, 3, none⟩ (.slice B3 x.f3.length e3)) (.slice B3 x.f3.length e3) x.f3 (Value.slice B3 x.f3.length e3).ownBlock.toList :=
    Td.Row_move hr3' (fun k hk => Below.heap_setCell _ _ _ _ (by have := hr3b k (by simpa using hk); show k ≠ w.heap.size + 1 + 1; omega))
  rw [hW2] at q1 q2 cb2 hrw
  have HW2 := Lib.hid hW2
  have Q1 := Lib.hid q1
  have Q2 := Lib.hid q2
  have CB := Lib.hid cb2
  have R3 := Lib.hid hrw
  have R3B := Lib.hid hr3b
  have HSV := Lib.hid (HS.out x.f4 A4 c4 W2 (Kd.C_below G4.out cb2) l4 hs4 HSK.out)
  have HSZ2 : Hid (W1.heap.size = w.heap.size + 1 + 1 + 1) := hs1
  have HW2S : Hid (w.heap.size + 1 + 1 + 1 ≤ W2.heap.size) := Lib.hid (by
    have h1 := hc2.size
    have h2 : W2.heap.size = w2.heap.size := by rw [← hW2]; simp [World.setCell]
    omega)
  clear hr3 hr3' hr3b hc2 z0 z1 z2 HB0 HB1 HB2 G4 G3 hW2 q1 q2 cb cb2 hrw hs1 HSZ
  go_wp2_with fail
  rw [HW2.out]
  (with_reducible refine HSV.out.mono ?_)
  rintro e w3 ⟨v4, fp4, rfl, hr4, hn4, hb4, hc3⟩
  have z1 := (hc3.block _ (blk_lt Q1.out)).trans Q1.out
  have z2 := (hc3.block _ (blk_lt Q2.out)).trans Q2.out
  obtain ⟨B4, e4, rfl⟩ := Td.Row_slice hr4
  simp only [List.setIfInBounds_toArray, List.set_cons_succ, List.set_cons_zero] at z2
  obtain ⟨a0, a1, a2, a3, a4⟩ := cells5 z1
  obtain ⟨b0, b1, b2, b3, b4⟩ := cells5 z2
  have f0 := blk_frozen z1 0
  have f1 := blk_frozen z1 1
  have f2 := blk_frozen z1 2
  have f3' := blk_frozen z1 3
  have f4 := blk_frozen z1 4
  have f24 := blk_frozen z2 4
  have R4 := Lib.hid hr4
  have N4 := Lib.hid hn4
  have F4 := Lib.hid hb4
  have C3 := Lib.hid (below_step CB.out hc3)
  have R33 := Lib.hid (Td.Row_below R3.out hc3)
  have L3 := Lib.hid (Td.Row_lt R3.out)
  have Z1 := Lib.hid (blk5 (blk_far z1 (p := ⟨w.heap.size + 1 + 1, 4, none⟩) (by simp) (.slice B4 x.f4.length e4)) (.int .i64 x.f0) (.string x.f1) (.int .i64 x.f2) (.slice B3 x.f3.length e3) (.slice B4 x.f4.length e4))
  clear hr4 hn4 hb4 hc3 z1 z2 Q1 Q2 R3 CB HSV d4 f3 c3'
  go_wp2
  refine bodyPost_ret (results_cell_row rfl _ _ (w.heap.size + 1) 30 #[.int .i64 x.f0, .string x.f1, .int .i64 x.f2, .slice B3 x.f3.length e3, .slice B4 x.f4.length e4] (0, 0) _ rfl Z1.out Try.underlying30 rfl (by kernel_rfl)) rfl ?_
  have hw2 := HW2S.out
  have l3' : ∀ k ∈ (Value.slice B3 x.f3.length e3).ownBlock.toList, w.heap.size + 1 + 1 + 1 ≤ k ∧ k < W2.heap.size := fun k hk => by
    have h1 := R3B.out k (by simpa using hk)
    have h2 := L3.out k hk
    have h3 := HSZ2.out
    omega
  have l4' : ∀ k ∈ fp4, W2.heap.size ≤ k := F4.out
  have mv : ∀ k, w.heap.size + 1 + 1 + 1 ≤ k → ((((((w3.setCell ⟨w.heap.size + 1 + 1, 4, none⟩ (.slice B4 x.f4.length e4)).setCell ⟨w.heap.size + 1, 0, none⟩ (.int .i64 x.f0)).setCell ⟨w.heap.size + 1, 1, none⟩ (.string x.f1)).setCell ⟨w.heap.size + 1, 2, none⟩ (.int .i64 x.f2)).setCell ⟨w.heap.size + 1, 3, none⟩ (.slice B3 x.f3.length e3)).setCell ⟨w.heap.size + 1, 4, none⟩ (.slice B4 x.f4.length e4)).heap[k]? = w3.heap[k]? := fun k hk => by
    rw [heap5 _ _ _ _ _ _ _ k (by omega), Below.heap_setCell _ _ _ _ (show k ≠ w.heap.size + 1 + 1 by omega)]
  have r4 := R4.out
  simp only [List.length_map] at r4
  have hb := C3.out
  refine ⟨_, _, (Value.slice B3 x.f3.length e3).ownBlock.toList ++ fp4, rfl, tV_mk (x := cVN (n + 1) x) (Td.Row_move R33.out (fun k hk => mv k (l3' k hk).1)) (Td.Row_move r4 (fun k hk => mv k (by have := l4' k hk; omega))), ?_, ?_, ?_⟩
  · rw [List.nodup_append]
    refine ⟨by cases (Value.slice B3 x.f3.length e3).ownBlock <;> simp, N4.out, fun a ha b hb2 hab => ?_⟩
    have h1 := (l3' a ha).2
    have h2 := l4' b hb2
    omega
  · intro k hk
    rcases List.mem_append.1 hk with hk | hk
    · have := (l3' k hk).1; omega
    · have := l4' k hk; omega
  · exact below_set (below_set (below_set (below_set (below_set (below_set hb (by omega)) (by omega)) (by omega)) (by omega)) (by omega)) (by omega)
theorem toV_all : ∀ n, ToV n
  | 0 => fun x A3 c3 A4 c4 w g3 l3 g4 l4 hs => by rw [SmL] at hs; exact hs.elim
  | n + 1 => toV_of n (toS_of n (toV_all n))
end Go.Proofs.Ytchhognpijobcaa.G

/- G104 -/
-- Laid by wip/g/gprint.py out of the translation, by the kit's print program. Lean checks it.
namespace Go.Proofs.Ytchhognpijobcaa.G
open Go.RowKit Go.Proofs.YtchhognpijobcaaW.PrintWords Go.Proofs.YtchhognpijobcaaW.PrintLast Go.Proofs.YtchhognpijobcaaW.PrintMore
attribute [local go_sem] max2_int min2_int max_two min_two max_three min_three max_four min_four   -- for this text's walks alone
set_option linter.unusedVariables false
set_option linter.unusedSimpArgs false

/-! ### slices_Clone_sstring_string: function 104 -/
def slices_Clone_sstring_string.f (l0 : List ByteArray) : Option (List ByteArray) := if l0.length < 8796093022208 then some l0 else none
set_option maxHeartbeats 4000000 in
theorem slices_Clone_sstring_string.calls (A0 : Option Addr) (c0 : Nat) (l0 : List ByteArray) (r : List ByteArray) (w : World) (hr0 : Kd.C Kd.string w A0 l0.length l0) (hc0 : l0.length ≤ c0) (h : slices_Clone_sstring_string.f l0 = some r) :
    Calls Try.prog 104 #[.slice A0 l0.length c0] w fun e w' => ∃ v0_ : Value, e = .returned (v0_) ∧ Kd.R Kd.string 9 w' w.heap.size (fun _ => True) v0_ r ∧ Below w.heap.size w w' := by
  unfold slices_Clone_sstring_string.f at h
  by_cases hl : l0.length < 8796093022208
  · rw [if_pos hl] at h
    obtain rfl := Option.some.inj h
    clear h
    cases A0 with
    | none =>
      have h0 : l0 = [] := by
        rcases Nat.eq_zero_or_pos l0.length with h | h
        · exact List.eq_nil_of_length_eq_zero h
        · obtain ⟨ad, e, _⟩ := hr0.2.2 h
          cases e
      subst h0
      have hne := fun W => Lib.run_eql_slice_nil (P := Try.prog) W 22 9 none 0 c0 0 0 Try.underlying22
      simp only [List.length_nil]
      go_enter Try.func104, Try.ntmps104
      go_wp2
      go_ret
      exact ⟨_, rfl, Kd.R_nil _ _ _ _ _, Below.refl _ _⟩
    | some ad =>
      have hne := fun W => Lib.run_eql_slice_nil (P := Try.prog) W 22 9 (some ad) l0.length c0 0 0 Try.underlying22
      have HR0 := Aside0.mk hr0
      have HL := Aside0.mk hl
      have HB := Aside0.mk (Below.refl w.heap.size w)
      clear hr0 hl
      go_enter Try.func104, Try.ntmps104
      go_wp2_with (first | ((with_reducible refine gate_dst (N := 5) rfl ?_); refine Kd.R_lit Kd.string _ 9 ?hg (N := 5) ?hd (xs := ([] : List ByteArray)) (inner := []) (ok := fun _ => True) (okp := fun _ => True) ?hr ?hp (fun _ hk => hk) trivial (Below.refl _ _) (Nat.le_refl _) (by simp) ?_; (case hd => rfl); (case hg => rfl); (case hr => first | (go_simp; done) | (go_simp; rfl)); (case hp => exact (Reps.none _ _)); intro v189 w3 ho4 hb hg_ hnew_; clear hg_ hnew_; have n0_ := Aside0.mk (Kd.R_lower ho4 (below_size (by repeat (first | (with_reducible first | exact HB.out | apply below_alloc | apply pw_below_drewN | apply below_drew1) | exact HB.out)))); have n1_ := Aside0.mk (below_step (by repeat (first | (with_reducible first | exact HB.out | apply below_alloc | apply pw_below_drewN | apply below_drew1) | exact HB.out)) hb); clear HB; have HO190 := n0_; have HB := n1_; clear n0_ n1_; clear hb ho4) | ((with_reducible refine gate_builtin (b := .append) (xs := #[.tmp 5, .tmp 6]) rfl ?_); at_builtin; refine Kd.R_append_rows Kd.string (w0 := w) w.heap.size rfl (.tmp 5) (.tmp 6) 22 9 (.string ⟨#[]⟩) 16 rfl Try.underlying22 info9 rfl (by decide) (by omega) v189 ([] : List ByteArray) l0 _ _ _ (fun _ => True) (fun _ => False) rfl rfl ?aO ?aR (fun _ _ h => h) (fun _ h => h.elim) ?aF ?aB ?aS ?aL ?_; (case aR => repeat (first | exact (Kd.C_below HR0.out HB.out) | (with_reducible refine Kd.C_alloc ?_ _) | (with_reducible refine Kd.C_drewN ?_ _) | (with_reducible refine Kd.C_drew ?_))); (case aB => exact (by repeat (first | (with_reducible first | exact HB.out | apply below_alloc | apply pw_below_drewN | apply below_drew1) | exact HB.out))); (case aF => exact (fun _ _ => trivial)); (case aO => exact (by (with_reducible repeat (first | apply Kd.R_alloc | apply Kd.R_drewN | apply Kd.R_drew)); exact HO190.out)); (case aS => exact (below_size (by repeat (first | (with_reducible first | exact HB.out | apply below_alloc | apply pw_below_drewN | apply below_drew1) | exact HB.out)))); (case aL => have := HL.out; simp only [List.length_nil]; omega); intro v192 w5 ho hb hg hat; rw [List.nil_append] at ho; have n0_ := Aside0.mk (hb); have n1_ := Aside0.mk (ho); clear HB; clear HO190; have HB := n0_; have HO193 := n1_; clear n0_ n1_; clear ho hb hg hat))
      go_ret
      exact ⟨_, rfl, by (with_reducible repeat (first | apply Kd.R_alloc | apply Kd.R_drewN | apply Kd.R_drew)); exact HO193.out, (by repeat (first | (with_reducible first | exact HB.out | apply below_alloc | apply pw_below_drewN | apply below_drew1) | exact HB.out))⟩
  · rw [if_neg hl] at h
    cases h

end Go.Proofs.Ytchhognpijobcaa.G

/- GKValCopy -/
/-
  copyValue: a copy in rows of its own.
-/
namespace Go.Proofs.Ytchhognpijobcaa.G
open Go.RowKit Go.Proofs.YtchhognpijobcaaW.PrintWords Go.Proofs.YtchhognpijobcaaW.PrintLast Go.Proofs.YtchhognpijobcaaW.PrintMore
attribute [local go_sem] max2_int min2_int max_two min_two max_three min_three max_four min_four
set_option linter.unusedVariables false
set_option linter.unusedSimpArgs false
theorem alloc2 (w : World) (a b : Obj) : ((w.alloc a).alloc b).heap[w.heap.size]? = some a ∧ ((w.alloc a).alloc b).heap[w.heap.size + 1]? = some b ∧ ((w.alloc a).alloc b).heap.size = w.heap.size + 1 + 1 := by
  have s1 : (w.alloc a).heap.size = w.heap.size + 1 := by simp
  have s2 : ((w.alloc a).alloc b).heap.size = w.heap.size + 1 + 1 := by simp
  have h1 := heap_alloc_new w a
  have h2 := heap_alloc_new (w.alloc a) b
  have b2 := below_alloc (Below.refl (w.alloc a).heap.size (w.alloc a)) b
  rw [s1] at h2
  exact ⟨(b2.block _ (by omega)).trans h1, h2, s2⟩
theorem tV_open' : ∀ {n : Nat} {w : World} {x : TVal} {a0 a1 a2 v3 v4 : Value} {fp : List Nat}, (tV n).T w x [a0, a1, a2, v3, v4] fp → ∃ u3 u4 f3 f4, (v3 = u3 ∧ v4 = u4) ∧ fp = f3 ++ f4 ∧ Td.string.Row 9 w u3 x.f3 f3 ∧ (tV (n - 1)).Row 30 w u4 x.f4 f4
  | 0, _, _, _, _, _, _, _, _, h => h.elim
  | n + 1, _, _, _, _, _, _, _, _, h => by
    obtain ⟨u3, u4, f3, f4, hu, hf, h3, h4⟩ := tV_open h
    simp only [List.cons.injEq, and_true] at hu
    exact ⟨u3, u4, f3, f4, ⟨hu.2.2.2.1, hu.2.2.2.2⟩, hf, h3, h4⟩
/-- What a call of copyValue leaves. -/
def CpV (n : Nat) : Prop := ∀ (x : TVal) (A3 : Option Addr) (c3 : Nat) (A4 : Option Addr) (c4 : Nat) (w : World), Kd.C Kd.string w A3 x.f3.length x.f3 → x.f3.length ≤ c3 → Kd.C k30 w A4 x.f4.length x.f4 → x.f4.length ≤ c4 → SmI n x →
  Calls Try.prog 72 #[.agg #[.int .i64 x.f0, .string x.f1, .int .i64 x.f2, .slice A3 x.f3.length c3, .slice A4 x.f4.length c4]] w fun e w' => ∃ (v3 v4 : Value) (fp : List Nat), e = .returned (.agg #[.int .i64 x.f0, .string x.f1, .int .i64 x.f2, v3, v4]) ∧
    (tV n).T w' x [.int .i64 x.f0, .string x.f1, .int .i64 x.f2, v3, v4] fp ∧ fp.Nodup ∧ (∀ k ∈ fp, w.heap.size ≤ k) ∧ Below w.heap.size w w'
set_option maxHeartbeats 8000000 in
set_option maxRecDepth 100000 in
theorem cpV_of (n : Nat) (h : CpV n) : CpV (n + 1) := by
  intro x A3 c3 A4 c4 w g3 l3 g4 l4 hs
  rw [SmI] at hs
  obtain ⟨_, hs1, hs3, hs4, hsk⟩ := hs
  have hk3 : slices_Clone_sstring_string.f x.f3 = some x.f3 := by unfold slices_Clone_sstring_string.f; rw [if_pos (by omega)]
  have HK := Lib.hid hk3
  obtain ⟨W1, hW1⟩ : ∃ W1, (w.alloc (.cells #[.int .i64 x.f0, .string x.f1, .int .i64 x.f2, .slice A3 x.f3.length c3, .slice A4 x.f4.length c4] 30)).alloc (.cells #[.int .i64 0, .string ⟨#[]⟩, .int .i64 0, .slice none 0 0, .slice none 0 0] 30) = W1 := ⟨_, rfl⟩
  have hbA := below_alloc (below_alloc (Below.refl w.heap.size w) (.cells #[.int .i64 x.f0, .string x.f1, .int .i64 x.f2, .slice A3 x.f3.length c3, .slice A4 x.f4.length c4] 30)) (.cells #[.int .i64 0, .string ⟨#[]⟩, .int .i64 0, .slice none 0 0, .slice none 0 0] 30)
  obtain ⟨hb0, hb1, hsz⟩ := alloc2 w (.cells #[.int .i64 x.f0, .string x.f1, .int .i64 x.f2, .slice A3 x.f3.length c3, .slice A4 x.f4.length c4] 30) (.cells #[.int .i64 0, .string ⟨#[]⟩, .int .i64 0, .slice none 0 0, .slice none 0 0] 30)
  rw [hW1] at hb0 hb1 hsz hbA
  have HW1 := Lib.hid hW1
  have HBA := Lib.hid hbA
  have HSZ := Lib.hid hsz
  have HB0 := Lib.hid hb0
  have HB1 := Lib.hid hb1
  have HV := Lib.hid h
  have G3 := Lib.hid (Kd.C_below g3 hbA)
  have G4 := Lib.hid g4
  have HSK := Lib.hid hsk
  clear hk3 g3 g4 h hsk hs1 hW1 hbA hsz hb0 hb1
  go_enter Try.func72, Try.ntmps72
  go_wp2_with fail
  rw [HW1.out]
  refine (slices_Clone_sstring_string.calls A3 c3 x.f3 x.f3 W1 G3.out l3 HK.out).mono ?_
  rintro e w2 ⟨v3, rfl, hr3, hc2⟩
  have hr3' := Td.Row_of_R hr3
  have hr3b := Kd.R_base hr3
  obtain ⟨B3, e3, rfl⟩ := Kd.R_slice hr3
  have z0 := (hc2.block _ (blk_lt HB0.out)).trans HB0.out
  have z1 := (hc2.block _ (blk_lt HB1.out)).trans HB1.out
  obtain ⟨_, _, _, d3, d4⟩ := cells5 z0
  have f3 := blk_frozen z0 3
  obtain ⟨W2, hW2⟩ : ∃ W2, w2.setCell ⟨w.heap.size, 3, none⟩ (.slice B3 x.f3.length e3) = W2 := ⟨_, rfl⟩
  have hs1 := HSZ.out
  have q1 := blk_far z1 (p := ⟨w.heap.size, 3, none⟩) (by simp) (.slice B3 x.f3.length e3)
  have q0 := blk_set z0 3 (.slice B3 x.f3.length e3)
  simp only [List.setIfInBounds_toArray, List.set_cons_succ, List.set_cons_zero] at q0
  have cb := below_step HBA.out hc2
  have cb2 := below_set (j := 3) (v := .slice B3 x.f3.length e3) cb (Nat.le_refl _)
  have hrw : Td.string.Row 9 (w2.setCell ⟨w.heap.size, 3, none⟩ (.slice B3 x.f3.length e3)) (.slice B3 x.f3.length e3) x.f3 (Value.slice B3 x.f3.length e3).ownBlock.toList :=
    Td.Row_move hr3' (fun k hk => Below.heap_setCell _ _ _ _ (by have := hr3b k (by simpa using hk); show k ≠ w.heap.size; omega))
  rw [hW2] at q1 q0 cb2 hrw
  have hw2s : w.heap.size + 1 + 1 ≤ W2.heap.size := by
    have h1 := hc2.size
    have h2 : W2.heap.size = w2.heap.size := by rw [← hW2]; simp [World.setCell]
    omega
  have HW2 := Lib.hid hW2
  have Q1 := Lib.hid q1
  have Q0 := Lib.hid q0
  have CB := Lib.hid cb2
  have R3 := Lib.hid hrw
  have HW2S := Lib.hid hw2s
  have R3B : Hid (∀ k ∈ (Value.slice B3 x.f3.length e3).ownBlock.toList, w.heap.size + 1 + 1 ≤ k ∧ k < W2.heap.size) := Lib.hid (fun k hk => by
    have h1 := hr3b k (by simpa using hk)
    have h2 := Td.Row_lt hrw k hk
    omega)
  have G42 := Lib.hid (Kd.C_below G4.out cb2)
  have hd4 := (cells5 q0).2.2.2.2
  rw [← hW2] at hd4
  have D4 := Lib.hid hd4
  clear hr3 hr3' hr3b hc2 z0 z1 HB0 HB1 G4 G3 hW2 q1 q0 cb cb2 hrw hs1 hw2s hd4
  go_wp2_with ((with_reducible refine gate_dst (N := 10) rfl ?_); rw [HW2.out]; refine Td.Row_lit0 (tV n) (w0 := W2) 30 ?hg (N := 10) ?hd ?hr (Below.refl _ _) ?_; (case hd => rfl); (case hg => rfl); (case hr => first | (go_simp; done) | (go_simp; rfl)); intro v10 w10 fp hrow hn hf hb hg_; have d4b := pw_cell_below hb ((cells5 Q0.out).2.2.2.2); have HRW := Lib.hid hrow; have HN := Lib.hid hn; have HF := Lib.hid hf; have HB := Lib.hid hb; clear hrow hn hf hb hg_)
  go_loopw [3, 14] (fun vk vi wr => ∃ (i : Nat) (fq : List Nat), i ≤ x.f4.length ∧ vi = .int .i64 i ∧ Hid ((tV n).Row 30 wr vk (x.f4.take i) fq) ∧ Hid fq.Nodup ∧ Hid (∀ k ∈ fq, W2.heap.size ≤ k) ∧ Hid (Below W2.heap.size W2 wr)) (fun _ vi _ => x.f4.length - (intOf vi).toNat)
  case atStart => exact ⟨0, fp, by omega, rfl, HRW, HN, HF, HB⟩
  case round =>
    clear HRW HN HF HB d4b
    obtain ⟨i, fq, hi, rfl, HR, HN, HF, HB⟩ := hrel
    by_cases hil : i < x.f4.length
    · obtain ⟨ad, cs, rfl, hcs, hK, hcell⟩ := Kd.C_get G42.out x.f4[i] (i : Int) (by omega) (by omega)
      simp only [Int.toNat_natCast, getD_at hil] at hK hcell
      obtain ⟨A5, c5, A6, c6, rfl, l5, g5, l6, g6⟩ := k30_open hK
      have d0 := pw_cell_below HB.out (hcell 0 _ rfl)
      have d1 := pw_cell_below HB.out (hcell 1 _ rfl)
      have d2 := pw_cell_below HB.out (hcell 2 _ rfl)
      have d3' := pw_cell_below HB.out (hcell 3 _ rfl)
      have d4' := pw_cell_below HB.out (hcell 4 _ rfl)
      rw [show k30.sz = 5 from rfl] at d0 d1 d2 d3' d4'
      simp only [Nat.add_zero] at d0
      rw [add_field _ _ 1 (by omega)] at d1
      rw [add_field _ _ 2 (by omega)] at d2
      rw [add_field _ _ 3 (by omega)] at d3'
      rw [add_field _ _ 4 (by omega)] at d4'
      have hbx := below_alloc HB.out (.cells #[.int .i64 x.f4[i].f0, .string x.f4[i].f1, .int .i64 x.f4[i].f2, .slice A5 x.f4[i].f3.length c5, .slice A6 x.f4[i].f4.length c6] 30)
      have HV1 := Lib.hid (HV.out x.f4[i] A5 c5 A6 c6 _ (Kd.C_below g5 hbx) l5 (Kd.C_below g6 hbx) l6 (HSK.out _ (List.getElem_mem hil)))
      have HRA := Lib.hid (Td.Row_below HR.out (below_alloc (Below.refl wr.heap.size wr) (.cells #[.int .i64 x.f4[i].f0, .string x.f4[i].f1, .int .i64 x.f4[i].f2, .slice A5 x.f4[i].f3.length c5, .slice A6 x.f4[i].f4.length c6] 30)))
      have HBXX := Lib.hid hbx
      have HLQ := Lib.hid (Td.Row_lt HR.out)
      have hasz : Hid ((wr.alloc (.cells #[.int .i64 x.f4[i].f0, .string x.f4[i].f1, .int .i64 x.f4[i].f2, .slice A5 x.f4[i].f3.length c5, .slice A6 x.f4[i].f4.length c6] 30)).heap.size = wr.heap.size + 1) := by unfold Hid; simp
      clear hcs hcell hK l5 g5 l6 g6 hbx HR
      go_wp2_with fail
      (with_reducible refine HV1.out.mono ?_)
      rintro e w5 ⟨u3, u4, fk, rfl, hT, hkn, hkb, hc5⟩
      obtain ⟨u3', u4', g3, g4, hu, _, hr3, hr4⟩ := tV_open' hT
      obtain ⟨rfl, rfl⟩ := hu
      obtain ⟨B5, e5, rfl⟩ := Td.Row_slice hr3
      obtain ⟨B6, e6, rfl⟩ := Td.Row_slice hr4
      have HT := Lib.hid hT
      have HKN := Lib.hid hkn
      have HKB := Lib.hid hkb
      have HR5 := Lib.hid (Td.Row_below HRA.out hc5)
      have HB5 := Lib.hid (below_step HBXX.out hc5)
      clear hT hkn hkb hc5 hr3 hr4 HV1 HRA d0 d1 d2 d3' d4'
      go_wp2_with ((with_reducible refine gate_builtin (b := .append) (xs := #[.tmp 18, .tmp 21]) rfl ?_); at_builtin; refine Td.Row_append (tV n) (w0 := W2) rfl (.tmp 18) (.tmp 21) 28 30 (.agg #[(.int .i64 0), (.string ⟨#[]⟩), (.int .i64 0), (.slice none 0 0), (.slice none 0 0)]) 80 rfl Try.underlying28 (by rw [tV_sz]; exact info30) (by rw [tV_sz]; rfl) (by rw [tV_sz]; decide) (by omega) _ (x.f4.take i) x.f4[i] [.int .i64 x.f4[i].f0, .string x.f4[i].f1, .int .i64 x.f4[i].f2, .slice B5 x.f4[i].f3.length e5, .slice B6 x.f4[i].f4.length e6] fq fk rfl rfl HT.out HKN.out ?afb ?afd HR5.out HN.out HF.out HB5.out ?al ?_; (case afb => exact fun k hk => Nat.le_trans HB.out.size (Nat.le_trans (by have := hasz.out; omega) (HKB.out k hk))); (case afd => exact fun k hk hm => by have h1 := HKB.out k hk; have h2 := HLQ.out k hm; have h3 := hasz.out; omega); (case al => rw [List.length_take]; omega); intro v6 w6 fp1 hrow hn1 hin1 hb1 hg1; have HRN := Lib.hid hrow; have HNN := Lib.hid hn1; have HIN := Lib.hid hin1; have HBN := Lib.hid hb1; clear hrow hn1 hin1 hb1 hg1)
      go_roundw
      case rel =>
        refine ⟨i + 1, fp1, by omega, by go_num, ?_, HNN, ?_, HBN⟩
        · have h_ := HRN.out
          unfold Hid
          rw [List.take_succ_eq_append_getElem hil]
          exact h_
        · exact fun k hk => by
            have hsz5 := HB5.out.size
            have h3 := hasz.out
            have hsw := HB.out.size
            rcases HIN.out k hk with h | h | h
            · exact HF.out k h
            · have := HKB.out k h; omega
            · omega
      case measure => simp [intOf]; omega
    · obtain rfl : i = x.f4.length := by omega
      rw [List.take_length] at HR
      obtain ⟨B4, e4, rfl⟩ := Td.Row_slice HR.out
      have z0 := (HB.out.block _ (blk_lt Q0.out)).trans Q0.out
      have z1 := (HB.out.block _ (blk_lt Q1.out)).trans Q1.out
      obtain ⟨a0, a1, a2, a3, a4⟩ := cells5 z1
      obtain ⟨b0, b1, b2, b3, b4⟩ := cells5 z0
      have f0 := blk_frozen z1 0
      have f1 := blk_frozen z1 1
      have f2 := blk_frozen z1 2
      have f3' := blk_frozen z1 3
      have f4 := blk_frozen z1 4
      have f04 := blk_frozen z0 4
      have Z1 := Lib.hid (blk5 (blk_far z1 (p := ⟨w.heap.size, 4, none⟩) (by simp) (.slice B4 x.f4.length e4)) (.int .i64 x.f0) (.string x.f1) (.int .i64 x.f2) (.slice B3 x.f3.length e3) (.slice B4 x.f4.length e4))
      have C3 := Lib.hid (below_step CB.out HB.out)
      have R33 := Lib.hid (Td.Row_below R3.out HB.out)
      clear z0 z1 Q0 Q1 R3 CB HB d3 d4 f3
      go_wp2
      refine bodyPost_ret (results_cell_row rfl _ _ (w.heap.size + 1) 30 #[.int .i64 x.f0, .string x.f1, .int .i64 x.f2, .slice B3 x.f3.length e3, .slice B4 x.f4.length e4] (0, 0) _ rfl Z1.out Try.underlying30 rfl (by kernel_rfl)) rfl ?_
      have hw2 := HW2S.out
      have l3' := R3B.out
      have l4' := HF.out
      have mv : ∀ k, w.heap.size + 1 + 1 ≤ k → ((((((wr.setCell ⟨w.heap.size, 4, none⟩ (.slice B4 x.f4.length e4)).setCell ⟨w.heap.size + 1, 0, none⟩ (.int .i64 x.f0)).setCell ⟨w.heap.size + 1, 1, none⟩ (.string x.f1)).setCell ⟨w.heap.size + 1, 2, none⟩ (.int .i64 x.f2)).setCell ⟨w.heap.size + 1, 3, none⟩ (.slice B3 x.f3.length e3)).setCell ⟨w.heap.size + 1, 4, none⟩ (.slice B4 x.f4.length e4)).heap[k]? = wr.heap[k]? := fun k hk => by
        rw [heap5 _ _ _ _ _ _ _ k (by omega), Below.heap_setCell _ _ _ _ (show k ≠ w.heap.size by omega)]
      have hb := C3.out
      refine ⟨_, _, (Value.slice B3 x.f3.length e3).ownBlock.toList ++ fq, rfl, tV_mk (Td.Row_move R33.out (fun k hk => mv k (l3' k hk).1)) (Td.Row_move HR.out (fun k hk => mv k (by have := l4' k hk; omega))), ?_, ?_, ?_⟩
      · rw [List.nodup_append]
        refine ⟨by cases (Value.slice B3 x.f3.length e3).ownBlock <;> simp, HN.out, fun a ha b hb2 hab => ?_⟩
        have h1 := (l3' a ha).2
        have h2 := l4' b hb2
        omega
      · intro k hk
        rcases List.mem_append.1 hk with hk | hk
        · have := (l3' k hk).1; omega
        · have := l4' k hk; omega
      · exact below_set (below_set (below_set (below_set (below_set (below_set hb (by omega)) (by omega)) (by omega)) (by omega)) (by omega)) (by omega)
theorem cpV_all : ∀ n, CpV n
  | 0 => fun x A3 c3 A4 c4 w g3 l3 g4 l4 hs => by rw [SmI] at hs; exact hs.elim
  | n + 1 => cpV_of n (cpV_all n)
end Go.Proofs.Ytchhognpijobcaa.G

/- G82 -/
-- Laid by wip/g/gprint.py out of the translation, by the kit's print program. Lean checks it.
namespace Go.Proofs.Ytchhognpijobcaa.G
open Go.RowKit Go.Proofs.YtchhognpijobcaaW.PrintWords Go.Proofs.YtchhognpijobcaaW.PrintLast Go.Proofs.YtchhognpijobcaaW.PrintMore
attribute [local go_sem] max2_int min2_int max_two min_two max_three min_three max_four min_four   -- for this text's walks alone
set_option linter.unusedVariables false
set_option linter.unusedSimpArgs false

/-! ### impl_within: function 82 -/
def impl_within.f (a0 : Int) (a1 : Int) (a2 : Int) : Option (Bool) := if a0 ≥ a1 then (some (decide (a0 ≤ a2))) else (some false)
set_option maxHeartbeats 8000000 in
set_option maxRecDepth 100000 in
theorem impl_within.calls (a0 : Int) (a1 : Int) (a2 : Int) (r : Bool) (w : World) (h : impl_within.f a0 a1 a2 = some r) :
    Calls Try.prog 82 #[.int .i64 a0, .int .i64 a1, .int .i64 a2] w fun e w' => e = .returned (.bool r) ∧ Drawn0 w w' := by
  have H : (if a0 ≥ a1 then (some (decide (a0 ≤ a2))) else (some false)) = some r := h
  clear h
  by_cases c4 : a0 ≥ a1
  · rw [if_pos c4] at H
    have c4b0 : decide (a1 ≤ a0) = true := decide_eq_true c4
    clear c4
    obtain rfl := Option.some.inj H
    go_enter Try.func82, Try.ntmps82
    go_wp2
    go_ret
    exact ⟨by first | rfl | (simp; done) | (simp [*]; done), by repeat (first | exact Drawn0.refl _ | apply Drawn0.step)⟩
  · rw [if_neg c4] at H
    have c4b0 : decide (a1 ≤ a0) = false := decide_eq_false c4
    clear c4
    obtain rfl := Option.some.inj H
    go_enter Try.func82, Try.ntmps82
    go_wp2
    go_ret
    exact ⟨by first | rfl | (simp; done) | (simp [*]; done), by repeat (first | exact Drawn0.refl _ | apply Drawn0.step)⟩

end Go.Proofs.Ytchhognpijobcaa.G

/- G99 -/
-- Laid by wip/g/gprint.py out of the translation, by the kit's print program. Lean checks it.
namespace Go.Proofs.Ytchhognpijobcaa.G
open Go.RowKit Go.Proofs.YtchhognpijobcaaW.PrintWords Go.Proofs.YtchhognpijobcaaW.PrintLast Go.Proofs.YtchhognpijobcaaW.PrintMore
attribute [local go_sem] max2_int min2_int max_two min_two max_three min_three max_four min_four   -- for this text's walks alone
set_option linter.unusedVariables false
set_option linter.unusedSimpArgs false

/-! ### impl_NameOk: function 99 -/
def impl_NameOk.l0 : Nat → ByteArray → Int → Int → Option (Bool)
  | 0, _, _, _ => none
  | k + 1, x0, x6, x7 => if x7 < x6 then (if 0 ≤ x7 then (if x7 < (x0.size : Int) then (if (bt x0 x7) < 97 then (if (bt x0 x7) < 48 then (if (bt x0 x7) = 45 then (impl_NameOk.l0 k x0 x6 (wrap64 (x7 + 1))) else (some false)) else (if (bt x0 x7) > 57 then (if (bt x0 x7) = 45 then (impl_NameOk.l0 k x0 x6 (wrap64 (x7 + 1))) else (some false)) else (impl_NameOk.l0 k x0 x6 (wrap64 (x7 + 1))))) else (if (bt x0 x7) > 122 then (if (bt x0 x7) < 48 then (if (bt x0 x7) = 45 then (impl_NameOk.l0 k x0 x6 (wrap64 (x7 + 1))) else (some false)) else (if (bt x0 x7) > 57 then (if (bt x0 x7) = 45 then (impl_NameOk.l0 k x0 x6 (wrap64 (x7 + 1))) else (some false)) else (impl_NameOk.l0 k x0 x6 (wrap64 (x7 + 1))))) else (impl_NameOk.l0 k x0 x6 (wrap64 (x7 + 1))))) else (none)) else (none)) else ((impl_within.f (x0.size : Int) 1 20).bind fun t234 => (if t234 = true then (if 0 < (x0.size : Int) then (if (bt x0 0) = 45 then (some false) else (if 0 ≤ (wrap64 ((x0.size : Int) - 1)) then (if (wrap64 ((x0.size : Int) - 1)) < (x0.size : Int) then (some ((bt x0 (wrap64 ((x0.size : Int) - 1))) != 45)) else (none)) else (none))) else (none)) else (some false)))
def impl_NameOk.f (k : Nat) (a0 : ByteArray) : Option (Bool) := impl_NameOk.l0 k a0 (a0.size : Int) 0
set_option maxHeartbeats 8000000 in
set_option maxRecDepth 100000 in
theorem impl_NameOk.calls (k : Nat) (a0 : ByteArray) (r : Bool) (w : World) (h : impl_NameOk.f k a0 = some r) :
    Calls Try.prog 99 #[.string a0] w fun e w' => e = .returned (.bool r) ∧ Drawn0 w w' := by
  have H : (impl_NameOk.l0 k a0 (a0.size : Int) 0) = some r := h
  clear h
  have H' := Aside0.mk H
  clear H
  go_enter Try.func99, Try.ntmps99
  go_wp2
  go_loopg [7] k (fun kq v7 w' => ∃ (x7_1 : Int), v7 = .int .i64 x7_1 ∧ Aside0 (impl_NameOk.l0 kq a0 (a0.size : Int) x7_1 = some r) ∧ Aside0 (kq ≤ k) ∧ Drawn0 w w')
  case atStart => exact ⟨(0), (by first | rfl | (simp; done) | (simp [*]; done)), H', ⟨Nat.le_refl _⟩, by repeat (first | exact Drawn0.refl _ | apply Drawn0.step)⟩
  case round =>
    clear H'
    obtain ⟨x7_1, rfl, HA, HK1, ⟨m1, rfl⟩⟩ := hrel
    cases gk with
    | zero => exact absurd HA.out (by simp [impl_NameOk.l0])
    | succ k1 =>
      have H := HA.out
      clear HA
      simp only [impl_NameOk.l0] at H
      by_cases c2 : x7_1 < (a0.size : Int)
      · rw [if_pos c2] at H
        have c2b0 : decide (x7_1 < (a0.size : Int)) = true := decide_eq_true c2
        clear c2
        by_cases c3 : 0 ≤ x7_1
        · rw [if_pos c3] at H
          have c3b0 : decide (0 ≤ x7_1) = true := decide_eq_true c3
          clear c3
          by_cases c4 : x7_1 < (a0.size : Int)
          · rw [if_pos c4] at H
            have c4b0 : decide (x7_1 < (a0.size : Int)) = true := decide_eq_true c4
            clear c4
            by_cases c6 : (bt a0 x7_1) < 97
            · rw [if_pos c6] at H
              have c6b0 : decide ((bt a0 x7_1) < 97) = true := decide_eq_true c6
              clear c6
              by_cases c7 : (bt a0 x7_1) < 48
              · rw [if_pos c7] at H
                have c7b0 : decide ((bt a0 x7_1) < 48) = true := decide_eq_true c7
                clear c7
                by_cases c8 : (bt a0 x7_1) = 45
                · rw [if_pos c8] at H
                  have c8b0 : ((bt a0 x7_1) == 45) = true := beq_iff_eq.mpr c8
                  have c8b1 : ((bt a0 x7_1) != 45) = false := bne_eq_false_iff_eq.mpr c8
                  clear c8
                  have H' := Aside0.mk H
                  clear H
                  have p5 : 0 ≤ (x7_1 : Int) := of_decide_eq_true (by first | (with_reducible assumption) | assumption)
                  have q5 : x7_1 < (a0.size : Int) := of_decide_eq_true (by first | (with_reducible assumption) | assumption)
                  have hx5 := bt_at a0 x7_1
                  replace p5 := eq_true p5
                  replace q5 := eq_true q5
                  go_wp2
                  go_roundg k1
                  case measure => have := HK1.out; omega
                  case rel => exact ⟨(wrap64 (x7_1 + 1)), (by first | rfl | (simp; done) | (simp [*]; done)), H', ⟨by have := HK1.out; omega⟩, by repeat (first | exact Drawn0.refl _ | apply Drawn0.step)⟩
                · rw [if_neg c8] at H
                  have c8b0 : ((bt a0 x7_1) == 45) = false := beq_eq_false_iff_ne.mpr c8
                  have c8b1 : ((bt a0 x7_1) != 45) = true := bne_iff_ne.mpr c8
                  obtain rfl := Option.some.inj H
                  have p5 : 0 ≤ (x7_1 : Int) := of_decide_eq_true (by first | (with_reducible assumption) | assumption)
                  have q5 : x7_1 < (a0.size : Int) := of_decide_eq_true (by first | (with_reducible assumption) | assumption)
                  have hx5 := bt_at a0 x7_1
                  replace p5 := eq_true p5
                  replace q5 := eq_true q5
                  go_wp2
                  go_ret
                  exact ⟨by first | rfl | (simp; done) | (simp [*]; done), by repeat (first | exact Drawn0.refl _ | apply Drawn0.step)⟩
              · rw [if_neg c7] at H
                have c7b0 : decide ((bt a0 x7_1) < 48) = false := decide_eq_false c7
                clear c7
                by_cases c9 : (bt a0 x7_1) > 57
                · rw [if_pos c9] at H
                  have c9b0 : decide (57 < (bt a0 x7_1)) = true := decide_eq_true c9
                  clear c9
                  by_cases c10 : (bt a0 x7_1) = 45
                  · rw [if_pos c10] at H
                    have c10b0 : ((bt a0 x7_1) == 45) = true := beq_iff_eq.mpr c10
                    have c10b1 : ((bt a0 x7_1) != 45) = false := bne_eq_false_iff_eq.mpr c10
                    clear c10
                    have H' := Aside0.mk H
                    clear H
                    have p5 : 0 ≤ (x7_1 : Int) := of_decide_eq_true (by first | (with_reducible assumption) | assumption)
                    have q5 : x7_1 < (a0.size : Int) := of_decide_eq_true (by first | (with_reducible assumption) | assumption)
                    have hx5 := bt_at a0 x7_1
                    replace p5 := eq_true p5
                    replace q5 := eq_true q5
                    go_wp2
                    go_roundg k1
                    case measure => have := HK1.out; omega
                    case rel => exact ⟨(wrap64 (x7_1 + 1)), (by first | rfl | (simp; done) | (simp [*]; done)), H', ⟨by have := HK1.out; omega⟩, by repeat (first | exact Drawn0.refl _ | apply Drawn0.step)⟩
                  · rw [if_neg c10] at H
                    have c10b0 : ((bt a0 x7_1) == 45) = false := beq_eq_false_iff_ne.mpr c10
                    have c10b1 : ((bt a0 x7_1) != 45) = true := bne_iff_ne.mpr c10
                    obtain rfl := Option.some.inj H
                    have p5 : 0 ≤ (x7_1 : Int) := of_decide_eq_true (by first | (with_reducible assumption) | assumption)
                    have q5 : x7_1 < (a0.size : Int) := of_decide_eq_true (by first | (with_reducible assumption) | assumption)
                    have hx5 := bt_at a0 x7_1
                    replace p5 := eq_true p5
                    replace q5 := eq_true q5
                    go_wp2
                    go_ret
                    exact ⟨by first | rfl | (simp; done) | (simp [*]; done), by repeat (first | exact Drawn0.refl _ | apply Drawn0.step)⟩
                · rw [if_neg c9] at H
                  have c9b0 : decide (57 < (bt a0 x7_1)) = false := decide_eq_false c9
                  clear c9
                  have H' := Aside0.mk H
                  clear H
                  have p5 : 0 ≤ (x7_1 : Int) := of_decide_eq_true (by first | (with_reducible assumption) | assumption)
                  have q5 : x7_1 < (a0.size : Int) := of_decide_eq_true (by first | (with_reducible assumption) | assumption)
                  have hx5 := bt_at a0 x7_1
                  replace p5 := eq_true p5
                  replace q5 := eq_true q5
                  go_wp2
                  go_roundg k1
                  case measure => have := HK1.out; omega
                  case rel => exact ⟨(wrap64 (x7_1 + 1)), (by first | rfl | (simp; done) | (simp [*]; done)), H', ⟨by have := HK1.out; omega⟩, by repeat (first | exact Drawn0.refl _ | apply Drawn0.step)⟩
            · rw [if_neg c6] at H
              have c6b0 : decide ((bt a0 x7_1) < 97) = false := decide_eq_false c6
              clear c6
              by_cases c11 : (bt a0 x7_1) > 122
              · rw [if_pos c11] at H
                have c11b0 : decide (122 < (bt a0 x7_1)) = true := decide_eq_true c11
                clear c11
                by_cases c12 : (bt a0 x7_1) < 48
                · rw [if_pos c12] at H
                  have c12b0 : decide ((bt a0 x7_1) < 48) = true := decide_eq_true c12
                  clear c12
                  by_cases c13 : (bt a0 x7_1) = 45
                  · rw [if_pos c13] at H
                    have c13b0 : ((bt a0 x7_1) == 45) = true := beq_iff_eq.mpr c13
                    have c13b1 : ((bt a0 x7_1) != 45) = false := bne_eq_false_iff_eq.mpr c13
                    clear c13
                    have H' := Aside0.mk H
                    clear H
                    have p5 : 0 ≤ (x7_1 : Int) := of_decide_eq_true (by first | (with_reducible assumption) | assumption)
                    have q5 : x7_1 < (a0.size : Int) := of_decide_eq_true (by first | (with_reducible assumption) | assumption)
                    have hx5 := bt_at a0 x7_1
                    replace p5 := eq_true p5
                    replace q5 := eq_true q5
                    go_wp2
                    go_roundg k1
                    case measure => have := HK1.out; omega
                    case rel => exact ⟨(wrap64 (x7_1 + 1)), (by first | rfl | (simp; done) | (simp [*]; done)), H', ⟨by have := HK1.out; omega⟩, by repeat (first | exact Drawn0.refl _ | apply Drawn0.step)⟩
                  · rw [if_neg c13] at H
                    have c13b0 : ((bt a0 x7_1) == 45) = false := beq_eq_false_iff_ne.mpr c13
                    have c13b1 : ((bt a0 x7_1) != 45) = true := bne_iff_ne.mpr c13
                    obtain rfl := Option.some.inj H
                    have p5 : 0 ≤ (x7_1 : Int) := of_decide_eq_true (by first | (with_reducible assumption) | assumption)
                    have q5 : x7_1 < (a0.size : Int) := of_decide_eq_true (by first | (with_reducible assumption) | assumption)
                    have hx5 := bt_at a0 x7_1
                    replace p5 := eq_true p5
                    replace q5 := eq_true q5
                    go_wp2
                    go_ret
                    exact ⟨by first | rfl | (simp; done) | (simp [*]; done), by repeat (first | exact Drawn0.refl _ | apply Drawn0.step)⟩
                · rw [if_neg c12] at H
                  have c12b0 : decide ((bt a0 x7_1) < 48) = false := decide_eq_false c12
                  clear c12
                  by_cases c14 : (bt a0 x7_1) > 57
                  · rw [if_pos c14] at H
                    have c14b0 : decide (57 < (bt a0 x7_1)) = true := decide_eq_true c14
                    clear c14
                    by_cases c15 : (bt a0 x7_1) = 45
                    · rw [if_pos c15] at H
                      have c15b0 : ((bt a0 x7_1) == 45) = true := beq_iff_eq.mpr c15
                      have c15b1 : ((bt a0 x7_1) != 45) = false := bne_eq_false_iff_eq.mpr c15
                      clear c15
                      have H' := Aside0.mk H
                      clear H
                      have p5 : 0 ≤ (x7_1 : Int) := of_decide_eq_true (by first | (with_reducible assumption) | assumption)
                      have q5 : x7_1 < (a0.size : Int) := of_decide_eq_true (by first | (with_reducible assumption) | assumption)
                      have hx5 := bt_at a0 x7_1
                      replace p5 := eq_true p5
                      replace q5 := eq_true q5
                      go_wp2
                      go_roundg k1
                      case measure => have := HK1.out; omega
                      case rel => exact ⟨(wrap64 (x7_1 + 1)), (by first | rfl | (simp; done) | (simp [*]; done)), H', ⟨by have := HK1.out; omega⟩, by repeat (first | exact Drawn0.refl _ | apply Drawn0.step)⟩
                    · rw [if_neg c15] at H
                      have c15b0 : ((bt a0 x7_1) == 45) = false := beq_eq_false_iff_ne.mpr c15
                      have c15b1 : ((bt a0 x7_1) != 45) = true := bne_iff_ne.mpr c15
                      obtain rfl := Option.some.inj H
                      have p5 : 0 ≤ (x7_1 : Int) := of_decide_eq_true (by first | (with_reducible assumption) | assumption)
                      have q5 : x7_1 < (a0.size : Int) := of_decide_eq_true (by first | (with_reducible assumption) | assumption)
                      have hx5 := bt_at a0 x7_1
                      replace p5 := eq_true p5
                      replace q5 := eq_true q5
                      go_wp2
                      go_ret
                      exact ⟨by first | rfl | (simp; done) | (simp [*]; done), by repeat (first | exact Drawn0.refl _ | apply Drawn0.step)⟩
                  · rw [if_neg c14] at H
                    have c14b0 : decide (57 < (bt a0 x7_1)) = false := decide_eq_false c14
                    clear c14
                    have H' := Aside0.mk H
                    clear H
                    have p5 : 0 ≤ (x7_1 : Int) := of_decide_eq_true (by first | (with_reducible assumption) | assumption)
                    have q5 : x7_1 < (a0.size : Int) := of_decide_eq_true (by first | (with_reducible assumption) | assumption)
                    have hx5 := bt_at a0 x7_1
                    replace p5 := eq_true p5
                    replace q5 := eq_true q5
                    go_wp2
                    go_roundg k1
                    case measure => have := HK1.out; omega
                    case rel => exact ⟨(wrap64 (x7_1 + 1)), (by first | rfl | (simp; done) | (simp [*]; done)), H', ⟨by have := HK1.out; omega⟩, by repeat (first | exact Drawn0.refl _ | apply Drawn0.step)⟩
              · rw [if_neg c11] at H
                have c11b0 : decide (122 < (bt a0 x7_1)) = false := decide_eq_false c11
                clear c11
                have H' := Aside0.mk H
                clear H
                have p5 : 0 ≤ (x7_1 : Int) := of_decide_eq_true (by first | (with_reducible assumption) | assumption)
                have q5 : x7_1 < (a0.size : Int) := of_decide_eq_true (by first | (with_reducible assumption) | assumption)
                have hx5 := bt_at a0 x7_1
                replace p5 := eq_true p5
                replace q5 := eq_true q5
                go_wp2
                go_roundg k1
                case measure => have := HK1.out; omega
                case rel => exact ⟨(wrap64 (x7_1 + 1)), (by first | rfl | (simp; done) | (simp [*]; done)), H', ⟨by have := HK1.out; omega⟩, by repeat (first | exact Drawn0.refl _ | apply Drawn0.step)⟩
          · rw [if_neg c4] at H
            exact absurd H (by simp)
        · rw [if_neg c3] at H
          exact absurd H (by simp)
      · rw [if_neg c2] at H
        have c2b0 : decide (x7_1 < (a0.size : Int)) = false := decide_eq_false c2
        clear c2
        replace H := Option.bind_eq_some_iff.mp H
        obtain ⟨t234, A160, H⟩ := H
        replace H : (if t234 = true then (if 0 < (a0.size : Int) then (if (bt a0 0) = 45 then (some false) else (if 0 ≤ (wrap64 ((a0.size : Int) - 1)) then (if (wrap64 ((a0.size : Int) - 1)) < (a0.size : Int) then (some ((bt a0 (wrap64 ((a0.size : Int) - 1))) != 45)) else (none)) else (none))) else (none)) else (some false)) = some r := H
        have A16 := Aside0.mk A160
        clear A160
        by_cases c17 : t234 = true
        · subst c17
          have H1 : (if 0 < (a0.size : Int) then (if (bt a0 0) = 45 then (some false) else (if 0 ≤ (wrap64 ((a0.size : Int) - 1)) then (if (wrap64 ((a0.size : Int) - 1)) < (a0.size : Int) then (some ((bt a0 (wrap64 ((a0.size : Int) - 1))) != 45)) else (none)) else (none))) else (none)) = some r := by rw [if_pos rfl] at H; exact H
          clear H
          have H := H1
          clear H1
          by_cases c18 : 0 < (a0.size : Int)
          · rw [if_pos c18] at H
            have c18b0 : decide (0 < (a0.size : Int)) = true := decide_eq_true c18
            have c18b1 : decide (0 < a0.size) = true := decide_eq_true (by omega)
            clear c18
            by_cases c20 : (bt a0 0) = 45
            · rw [if_pos c20] at H
              have c20b0 : ((bt a0 0) == 45) = true := beq_iff_eq.mpr c20
              have c20b1 : ((bt a0 0) != 45) = false := bne_eq_false_iff_eq.mpr c20
              clear c20
              obtain rfl := Option.some.inj H
              go_wp2_with (first | ((with_reducible refine gate_callee (f := 82) rfl ?_); refine goesL_ (some 34) rfl rfl Try.func82 (by kernel_rfl) rfl #[.int .i64 (a0.size : Int), .int .i64 1, .int .i64 20] rfl (by (try simp only [List.map_toArray, List.map_cons, List.map_nil]); first | done | rfl | (simp only [List.length_drop, List.length_take]; rfl)) ?_; (with_reducible refine (impl_within.calls (a0.size : Int) 1 20 true _ A16.out).mono ?_); rintro e w' ⟨rfl, ⟨nd, rfl⟩⟩; refine ⟨_, rfl, ?_⟩; have p19 : 0 ≤ (0 : Int) := (by omega); have q19 : 0 < a0.size := (by have : (0 : Int) < (a0.size : Int) := of_decide_eq_true (by first | (with_reducible assumption) | assumption); omega); have hx19 : ∀ h : 0 < a0.size, ((a0[0]'h).toNat : Int) = bt a0 0 := bt_at a0 0; clear p19; have qi19 : (0 < (a0.size : Int)) = True := eq_true (of_decide_eq_true (by first | (with_reducible assumption) | assumption)); replace q19 := eq_true q19))
              go_ret
              exact ⟨by first | rfl | (simp; done) | (simp [*]; done), by repeat (first | exact Drawn0.refl _ | apply Drawn0.step)⟩
            · rw [if_neg c20] at H
              have c20b0 : ((bt a0 0) == 45) = false := beq_eq_false_iff_ne.mpr c20
              have c20b1 : ((bt a0 0) != 45) = true := bne_iff_ne.mpr c20
              obtain ⟨ji21, hji21⟩ : ∃ j_ : Int, (wrap64 ((a0.size : Int) - 1)) = j_ := ⟨_, rfl⟩
              replace H : (if 0 ≤ (ji21) then (if (ji21) < (a0.size : Int) then (some ((bt a0 (ji21)) != 45)) else (none)) else (none)) = some r := by first | (rw [hji21] at H; exact H) | (simp only [hji21] at H ⊢; exact H)
              (try rw [hji21] at A16)
              have hji21w : (IntKind.i64.wrap ((a0.size : Int) - 1)) = ji21 := (i64_w _).trans hji21
              by_cases c22 : 0 ≤ (ji21)
              · rw [if_pos c22] at H
                have c22b0 : decide (0 ≤ (ji21)) = true := decide_eq_true c22
                clear c22
                by_cases c23 : (ji21) < (a0.size : Int)
                · rw [if_pos c23] at H
                  have c23b0 : decide ((ji21) < (a0.size : Int)) = true := decide_eq_true c23
                  clear c23
                  obtain rfl := Option.some.inj H
                  go_wp2_with (first | ((with_reducible refine gate_callee (f := 82) rfl ?_); refine goesL_ (some 34) rfl rfl Try.func82 (by kernel_rfl) rfl #[.int .i64 (a0.size : Int), .int .i64 1, .int .i64 20] rfl (by (try simp only [List.map_toArray, List.map_cons, List.map_nil]); first | done | rfl | (simp only [List.length_drop, List.length_take]; rfl)) ?_; (with_reducible refine (impl_within.calls (a0.size : Int) 1 20 true _ A16.out).mono ?_); rintro e w' ⟨rfl, ⟨nd, rfl⟩⟩; refine ⟨_, rfl, ?_⟩; have p19 : 0 ≤ (0 : Int) := (by omega); have q19 : 0 < a0.size := (by have : (0 : Int) < (a0.size : Int) := of_decide_eq_true (by first | (with_reducible assumption) | assumption); omega); have hx19 : ∀ h : 0 < a0.size, ((a0[0]'h).toNat : Int) = bt a0 0 := bt_at a0 0; clear p19; have qi19 : (0 < (a0.size : Int)) = True := eq_true (of_decide_eq_true (by first | (with_reducible assumption) | assumption)); replace q19 := eq_true q19; have p24 : 0 ≤ ((ji21) : Int) := of_decide_eq_true (by first | (with_reducible assumption) | assumption); have q24 : (ji21) < (a0.size : Int) := of_decide_eq_true (by first | (with_reducible assumption) | assumption); have hx24 := bt_at a0 (ji21); replace p24 := eq_true p24; replace q24 := eq_true q24))
                  go_ret
                  exact ⟨by first | rfl | (simp; done) | (simp only [← hji21] <;> (first | rfl | simp)) | (simp [*]; done), by repeat (first | exact Drawn0.refl _ | apply Drawn0.step)⟩
                · rw [if_neg c23] at H
                  exact absurd H (by simp)
              · rw [if_neg c22] at H
                exact absurd H (by simp)
          · rw [if_neg c18] at H
            exact absurd H (by simp)
        · replace c17 := Bool.eq_false_iff.mpr c17
          subst c17
          have H1 : (some false) = some r := by rw [if_neg (show ¬ (false = true) by decide)] at H; exact H
          clear H
          have H := H1
          clear H1
          obtain rfl := Option.some.inj H
          go_wp2_with (first | ((with_reducible refine gate_callee (f := 82) rfl ?_); refine goesL_ (some 34) rfl rfl Try.func82 (by kernel_rfl) rfl #[.int .i64 (a0.size : Int), .int .i64 1, .int .i64 20] rfl (by (try simp only [List.map_toArray, List.map_cons, List.map_nil]); first | done | rfl | (simp only [List.length_drop, List.length_take]; rfl)) ?_; (with_reducible refine (impl_within.calls (a0.size : Int) 1 20 false _ A16.out).mono ?_); rintro e w' ⟨rfl, ⟨nd, rfl⟩⟩; refine ⟨_, rfl, ?_⟩))
          go_ret
          exact ⟨by first | rfl | (simp; done) | (simp [*]; done), by repeat (first | exact Drawn0.refl _ | apply Drawn0.step)⟩

end Go.Proofs.Ytchhognpijobcaa.G

/- G61 -/
-- Laid by wip/g/gprint.py out of the translation, by the kit's print program. Lean checks it.
namespace Go.Proofs.Ytchhognpijobcaa.G
open Go.RowKit Go.Proofs.YtchhognpijobcaaW.PrintWords Go.Proofs.YtchhognpijobcaaW.PrintLast Go.Proofs.YtchhognpijobcaaW.PrintMore
attribute [local go_sem] max2_int min2_int max_two min_two max_three min_three max_four min_four   -- for this text's walks alone
set_option linter.unusedVariables false
set_option linter.unusedSimpArgs false

/-! ### spec_l1In: function 61 -/
def spec_l1In.f (a0 : Int) (a1 : Int) (a2 : Int) : Option (Bool) := if a0 ≥ a1 then (some (decide (a0 ≤ a2))) else (some false)
set_option maxHeartbeats 8000000 in
set_option maxRecDepth 100000 in
theorem spec_l1In.calls (a0 : Int) (a1 : Int) (a2 : Int) (r : Bool) (w : World) (h : spec_l1In.f a0 a1 a2 = some r) :
    Calls Try.prog 61 #[.int .i64 a0, .int .i64 a1, .int .i64 a2] w fun e w' => e = .returned (.bool r) ∧ Drawn0 w w' := by
  have H : (if a0 ≥ a1 then (some (decide (a0 ≤ a2))) else (some false)) = some r := h
  clear h
  by_cases c4 : a0 ≥ a1
  · rw [if_pos c4] at H
    have c4b0 : decide (a1 ≤ a0) = true := decide_eq_true c4
    clear c4
    obtain rfl := Option.some.inj H
    go_enter Try.func61, Try.ntmps61
    go_wp2
    go_ret
    exact ⟨by first | rfl | (simp; done) | (simp [*]; done), by repeat (first | exact Drawn0.refl _ | apply Drawn0.step)⟩
  · rw [if_neg c4] at H
    have c4b0 : decide (a1 ≤ a0) = false := decide_eq_false c4
    clear c4
    obtain rfl := Option.some.inj H
    go_enter Try.func61, Try.ntmps61
    go_wp2
    go_ret
    exact ⟨by first | rfl | (simp; done) | (simp [*]; done), by repeat (first | exact Drawn0.refl _ | apply Drawn0.step)⟩

end Go.Proofs.Ytchhognpijobcaa.G

/- G94 -/
-- Laid by wip/g/gprint.py out of the translation, by the kit's print program. Lean checks it.
namespace Go.Proofs.Ytchhognpijobcaa.G
open Go.RowKit Go.Proofs.YtchhognpijobcaaW.PrintWords Go.Proofs.YtchhognpijobcaaW.PrintLast Go.Proofs.YtchhognpijobcaaW.PrintMore
attribute [local go_sem] max2_int min2_int max_two min_two max_three min_three max_four min_four   -- for this text's walks alone
set_option linter.unusedVariables false
set_option linter.unusedSimpArgs false

/-! ### spec_NameOk: function 94 -/
def spec_NameOk.l0 : Nat → ByteArray → Int → Option (Bool)
  | 0, _, _ => none
  | k + 1, x0, x3 => if x3 < (x0.size : Int) then (if 0 ≤ x3 then ((spec_l1In.f (wrap64 (bt x0 x3)) 97 122).bind fun t219 => (if t219 = true then (spec_NameOk.l0 k x0 (wrap64 (x3 + 1))) else ((spec_l1In.f (wrap64 (bt x0 x3)) 48 57).bind fun t220 => (if t220 = true then (spec_NameOk.l0 k x0 (wrap64 (x3 + 1))) else (if (bt x0 x3) = 45 then (spec_NameOk.l0 k x0 (wrap64 (x3 + 1))) else (some false)))))) else (none)) else ((spec_l1In.f (x0.size : Int) 1 20).bind fun t218 => (if t218 = true then (if 0 < (x0.size : Int) then (if (bt x0 0) = 45 then (some false) else (if 0 ≤ (wrap64 ((x0.size : Int) - 1)) then (if (wrap64 ((x0.size : Int) - 1)) < (x0.size : Int) then (some ((bt x0 (wrap64 ((x0.size : Int) - 1))) != 45)) else (none)) else (none))) else (none)) else (some false)))
def spec_NameOk.f (k : Nat) (a0 : ByteArray) : Option (Bool) := spec_NameOk.l0 k a0 0
set_option maxHeartbeats 8000000 in
set_option maxRecDepth 100000 in
theorem spec_NameOk.calls (k : Nat) (a0 : ByteArray) (r : Bool) (w : World) (h : spec_NameOk.f k a0 = some r) :
    Calls Try.prog 94 #[.string a0] w fun e w' => e = .returned (.bool r) ∧ Drawn0 w w' := by
  have H : (spec_NameOk.l0 k a0 0) = some r := h
  clear h
  have H' := Aside0.mk H
  clear H
  go_enter Try.func94, Try.ntmps94
  go_wp2
  go_loopg [3] k (fun kq v3 w' => ∃ (x3_1 : Int), v3 = .int .i64 x3_1 ∧ Aside0 (spec_NameOk.l0 kq a0 x3_1 = some r) ∧ Aside0 (kq ≤ k) ∧ Drawn0 w w')
  case atStart => exact ⟨(0), (by first | rfl | (simp; done) | (simp [*]; done)), H', ⟨Nat.le_refl _⟩, by repeat (first | exact Drawn0.refl _ | apply Drawn0.step)⟩
  case round =>
    clear H'
    obtain ⟨x3_1, rfl, HA, HK1, ⟨m1, rfl⟩⟩ := hrel
    cases gk with
    | zero => exact absurd HA.out (by simp [spec_NameOk.l0])
    | succ k1 =>
      have H := HA.out
      clear HA
      simp only [spec_NameOk.l0] at H
      by_cases c2 : x3_1 < (a0.size : Int)
      · rw [if_pos c2] at H
        have c2b0 : decide (x3_1 < (a0.size : Int)) = true := decide_eq_true c2
        clear c2
        by_cases c3 : 0 ≤ x3_1
        · rw [if_pos c3] at H
          have c3b0 : decide (0 ≤ x3_1) = true := decide_eq_true c3
          clear c3
          replace H := Option.bind_eq_some_iff.mp H
          obtain ⟨t219, A50, H⟩ := H
          replace H : (if t219 = true then (spec_NameOk.l0 k1 a0 (wrap64 (x3_1 + 1))) else ((spec_l1In.f (wrap64 (bt a0 x3_1)) 48 57).bind fun t220 => (if t220 = true then (spec_NameOk.l0 k1 a0 (wrap64 (x3_1 + 1))) else (if (bt a0 x3_1) = 45 then (spec_NameOk.l0 k1 a0 (wrap64 (x3_1 + 1))) else (some false))))) = some r := H
          have A5 := Aside0.mk A50
          clear A50
          by_cases c6 : t219 = true
          · subst c6
            have H1 : (spec_NameOk.l0 k1 a0 (wrap64 (x3_1 + 1))) = some r := by rw [if_pos rfl] at H; exact H
            clear H
            have H := H1
            clear H1
            have H' := Aside0.mk H
            clear H
            have p4 : 0 ≤ (x3_1 : Int) := of_decide_eq_true (by first | (with_reducible assumption) | assumption)
            have q4 : x3_1 < (a0.size : Int) := of_decide_eq_true (by first | (with_reducible assumption) | assumption)
            have hx4 := bt_at a0 x3_1
            replace p4 := eq_true p4
            replace q4 := eq_true q4
            go_wp2_with (first | ((with_reducible refine gate_callee (f := 61) rfl ?_); refine goesL_ (some 14) rfl rfl Try.func61 (by kernel_rfl) rfl #[.int .i64 (wrap64 (bt a0 x3_1)), .int .i64 97, .int .i64 122] rfl (by (try simp only [List.map_toArray, List.map_cons, List.map_nil]); first | done | rfl | (simp only [List.length_drop, List.length_take]; rfl)) ?_; (with_reducible refine (spec_l1In.calls (wrap64 (bt a0 x3_1)) 97 122 true _ A5.out).mono ?_); rintro e w' ⟨rfl, ⟨nd, rfl⟩⟩; refine ⟨_, rfl, ?_⟩))
            go_roundg k1
            case measure => have := HK1.out; omega
            case rel => exact ⟨(wrap64 (x3_1 + 1)), (by first | rfl | (simp; done) | (simp [*]; done)), H', ⟨by have := HK1.out; omega⟩, by repeat (first | exact Drawn0.refl _ | apply Drawn0.step)⟩
          · replace c6 := Bool.eq_false_iff.mpr c6
            subst c6
            have H1 : ((spec_l1In.f (wrap64 (bt a0 x3_1)) 48 57).bind fun t220 => (if t220 = true then (spec_NameOk.l0 k1 a0 (wrap64 (x3_1 + 1))) else (if (bt a0 x3_1) = 45 then (spec_NameOk.l0 k1 a0 (wrap64 (x3_1 + 1))) else (some false)))) = some r := by rw [if_neg (show ¬ (false = true) by decide)] at H; exact H
            clear H
            have H := H1
            clear H1
            replace H := Option.bind_eq_some_iff.mp H
            obtain ⟨t220, A80, H⟩ := H
            replace H : (if t220 = true then (spec_NameOk.l0 k1 a0 (wrap64 (x3_1 + 1))) else (if (bt a0 x3_1) = 45 then (spec_NameOk.l0 k1 a0 (wrap64 (x3_1 + 1))) else (some false))) = some r := H
            have A8 := Aside0.mk A80
            clear A80
            by_cases c9 : t220 = true
            · subst c9
              have H1 : (spec_NameOk.l0 k1 a0 (wrap64 (x3_1 + 1))) = some r := by rw [if_pos rfl] at H; exact H
              clear H
              have H := H1
              clear H1
              have H' := Aside0.mk H
              clear H
              have p4 : 0 ≤ (x3_1 : Int) := of_decide_eq_true (by first | (with_reducible assumption) | assumption)
              have q4 : x3_1 < (a0.size : Int) := of_decide_eq_true (by first | (with_reducible assumption) | assumption)
              have hx4 := bt_at a0 x3_1
              replace p4 := eq_true p4
              replace q4 := eq_true q4
              go_wp2_with (first | ((with_reducible refine gate_callee (f := 61) rfl ?_); refine goesL_ (some 14) rfl rfl Try.func61 (by kernel_rfl) rfl #[.int .i64 (wrap64 (bt a0 x3_1)), .int .i64 97, .int .i64 122] rfl (by (try simp only [List.map_toArray, List.map_cons, List.map_nil]); first | done | rfl | (simp only [List.length_drop, List.length_take]; rfl)) ?_; (with_reducible refine (spec_l1In.calls (wrap64 (bt a0 x3_1)) 97 122 false _ A5.out).mono ?_); rintro e w' ⟨rfl, ⟨nd, rfl⟩⟩; refine ⟨_, rfl, ?_⟩; have p7 : 0 ≤ (x3_1 : Int) := of_decide_eq_true (by first | (with_reducible assumption) | assumption); have q7 : x3_1 < (a0.size : Int) := of_decide_eq_true (by first | (with_reducible assumption) | assumption); have hx7 := bt_at a0 x3_1; replace p7 := eq_true p7; replace q7 := eq_true q7) | (go_at_call 61; (with_reducible refine (spec_l1In.calls (wrap64 (bt a0 x3_1)) 48 57 true _ A8.out).mono ?_); rintro e w' ⟨rfl, ⟨nd, rfl⟩⟩))
              go_roundg k1
              case measure => have := HK1.out; omega
              case rel => exact ⟨(wrap64 (x3_1 + 1)), (by first | rfl | (simp; done) | (simp [*]; done)), H', ⟨by have := HK1.out; omega⟩, by repeat (first | exact Drawn0.refl _ | apply Drawn0.step)⟩
            · replace c9 := Bool.eq_false_iff.mpr c9
              subst c9
              have H1 : (if (bt a0 x3_1) = 45 then (spec_NameOk.l0 k1 a0 (wrap64 (x3_1 + 1))) else (some false)) = some r := by rw [if_neg (show ¬ (false = true) by decide)] at H; exact H
              clear H
              have H := H1
              clear H1
              by_cases c11 : (bt a0 x3_1) = 45
              · rw [if_pos c11] at H
                have c11b0 : ((bt a0 x3_1) == 45) = true := beq_iff_eq.mpr c11
                have c11b1 : ((bt a0 x3_1) != 45) = false := bne_eq_false_iff_eq.mpr c11
                clear c11
                have H' := Aside0.mk H
                clear H
                have p4 : 0 ≤ (x3_1 : Int) := of_decide_eq_true (by first | (with_reducible assumption) | assumption)
                have q4 : x3_1 < (a0.size : Int) := of_decide_eq_true (by first | (with_reducible assumption) | assumption)
                have hx4 := bt_at a0 x3_1
                replace p4 := eq_true p4
                replace q4 := eq_true q4
                go_wp2_with (first | ((with_reducible refine gate_callee (f := 61) rfl ?_); refine goesL_ (some 14) rfl rfl Try.func61 (by kernel_rfl) rfl #[.int .i64 (wrap64 (bt a0 x3_1)), .int .i64 97, .int .i64 122] rfl (by (try simp only [List.map_toArray, List.map_cons, List.map_nil]); first | done | rfl | (simp only [List.length_drop, List.length_take]; rfl)) ?_; (with_reducible refine (spec_l1In.calls (wrap64 (bt a0 x3_1)) 97 122 false _ A5.out).mono ?_); rintro e w' ⟨rfl, ⟨nd, rfl⟩⟩; refine ⟨_, rfl, ?_⟩; have p7 : 0 ≤ (x3_1 : Int) := of_decide_eq_true (by first | (with_reducible assumption) | assumption); have q7 : x3_1 < (a0.size : Int) := of_decide_eq_true (by first | (with_reducible assumption) | assumption); have hx7 := bt_at a0 x3_1; replace p7 := eq_true p7; replace q7 := eq_true q7) | (go_at_call 61; (with_reducible refine (spec_l1In.calls (wrap64 (bt a0 x3_1)) 48 57 false _ A8.out).mono ?_); rintro e w' ⟨rfl, ⟨nd, rfl⟩⟩; have p10 : 0 ≤ (x3_1 : Int) := of_decide_eq_true (by first | (with_reducible assumption) | assumption); have q10 : x3_1 < (a0.size : Int) := of_decide_eq_true (by first | (with_reducible assumption) | assumption); have hx10 := bt_at a0 x3_1; replace p10 := eq_true p10; replace q10 := eq_true q10))
                go_roundg k1
                case measure => have := HK1.out; omega
                case rel => exact ⟨(wrap64 (x3_1 + 1)), (by first | rfl | (simp; done) | (simp [*]; done)), H', ⟨by have := HK1.out; omega⟩, by repeat (first | exact Drawn0.refl _ | apply Drawn0.step)⟩
              · rw [if_neg c11] at H
                have c11b0 : ((bt a0 x3_1) == 45) = false := beq_eq_false_iff_ne.mpr c11
                have c11b1 : ((bt a0 x3_1) != 45) = true := bne_iff_ne.mpr c11
                obtain rfl := Option.some.inj H
                have p4 : 0 ≤ (x3_1 : Int) := of_decide_eq_true (by first | (with_reducible assumption) | assumption)
                have q4 : x3_1 < (a0.size : Int) := of_decide_eq_true (by first | (with_reducible assumption) | assumption)
                have hx4 := bt_at a0 x3_1
                replace p4 := eq_true p4
                replace q4 := eq_true q4
                go_wp2_with (first | ((with_reducible refine gate_callee (f := 61) rfl ?_); refine goesL_ (some 14) rfl rfl Try.func61 (by kernel_rfl) rfl #[.int .i64 (wrap64 (bt a0 x3_1)), .int .i64 97, .int .i64 122] rfl (by (try simp only [List.map_toArray, List.map_cons, List.map_nil]); first | done | rfl | (simp only [List.length_drop, List.length_take]; rfl)) ?_; (with_reducible refine (spec_l1In.calls (wrap64 (bt a0 x3_1)) 97 122 false _ A5.out).mono ?_); rintro e w' ⟨rfl, ⟨nd, rfl⟩⟩; refine ⟨_, rfl, ?_⟩; have p7 : 0 ≤ (x3_1 : Int) := of_decide_eq_true (by first | (with_reducible assumption) | assumption); have q7 : x3_1 < (a0.size : Int) := of_decide_eq_true (by first | (with_reducible assumption) | assumption); have hx7 := bt_at a0 x3_1; replace p7 := eq_true p7; replace q7 := eq_true q7) | (go_at_call 61; (with_reducible refine (spec_l1In.calls (wrap64 (bt a0 x3_1)) 48 57 false _ A8.out).mono ?_); rintro e w' ⟨rfl, ⟨nd, rfl⟩⟩; have p10 : 0 ≤ (x3_1 : Int) := of_decide_eq_true (by first | (with_reducible assumption) | assumption); have q10 : x3_1 < (a0.size : Int) := of_decide_eq_true (by first | (with_reducible assumption) | assumption); have hx10 := bt_at a0 x3_1; replace p10 := eq_true p10; replace q10 := eq_true q10))
                go_ret
                exact ⟨by first | rfl | (simp; done) | (simp [*]; done), by repeat (first | exact Drawn0.refl _ | apply Drawn0.step)⟩
        · rw [if_neg c3] at H
          exact absurd H (by simp)
      · rw [if_neg c2] at H
        have c2b0 : decide (x3_1 < (a0.size : Int)) = false := decide_eq_false c2
        clear c2
        replace H := Option.bind_eq_some_iff.mp H
        obtain ⟨t218, A120, H⟩ := H
        replace H : (if t218 = true then (if 0 < (a0.size : Int) then (if (bt a0 0) = 45 then (some false) else (if 0 ≤ (wrap64 ((a0.size : Int) - 1)) then (if (wrap64 ((a0.size : Int) - 1)) < (a0.size : Int) then (some ((bt a0 (wrap64 ((a0.size : Int) - 1))) != 45)) else (none)) else (none))) else (none)) else (some false)) = some r := H
        have A12 := Aside0.mk A120
        clear A120
        by_cases c13 : t218 = true
        · subst c13
          have H1 : (if 0 < (a0.size : Int) then (if (bt a0 0) = 45 then (some false) else (if 0 ≤ (wrap64 ((a0.size : Int) - 1)) then (if (wrap64 ((a0.size : Int) - 1)) < (a0.size : Int) then (some ((bt a0 (wrap64 ((a0.size : Int) - 1))) != 45)) else (none)) else (none))) else (none)) = some r := by rw [if_pos rfl] at H; exact H
          clear H
          have H := H1
          clear H1
          by_cases c14 : 0 < (a0.size : Int)
          · rw [if_pos c14] at H
            have c14b0 : decide (0 < (a0.size : Int)) = true := decide_eq_true c14
            have c14b1 : decide (0 < a0.size) = true := decide_eq_true (by omega)
            clear c14
            by_cases c16 : (bt a0 0) = 45
            · rw [if_pos c16] at H
              have c16b0 : ((bt a0 0) == 45) = true := beq_iff_eq.mpr c16
              have c16b1 : ((bt a0 0) != 45) = false := bne_eq_false_iff_eq.mpr c16
              clear c16
              obtain rfl := Option.some.inj H
              go_wp2_with (first | ((with_reducible refine gate_callee (f := 61) rfl ?_); refine goesL_ (some 32) rfl rfl Try.func61 (by kernel_rfl) rfl #[.int .i64 (a0.size : Int), .int .i64 1, .int .i64 20] rfl (by (try simp only [List.map_toArray, List.map_cons, List.map_nil]); first | done | rfl | (simp only [List.length_drop, List.length_take]; rfl)) ?_; (with_reducible refine (spec_l1In.calls (a0.size : Int) 1 20 true _ A12.out).mono ?_); rintro e w' ⟨rfl, ⟨nd, rfl⟩⟩; refine ⟨_, rfl, ?_⟩; have p15 : 0 ≤ (0 : Int) := (by omega); have q15 : 0 < a0.size := (by have : (0 : Int) < (a0.size : Int) := of_decide_eq_true (by first | (with_reducible assumption) | assumption); omega); have hx15 : ∀ h : 0 < a0.size, ((a0[0]'h).toNat : Int) = bt a0 0 := bt_at a0 0; clear p15; have qi15 : (0 < (a0.size : Int)) = True := eq_true (of_decide_eq_true (by first | (with_reducible assumption) | assumption)); replace q15 := eq_true q15))
              go_ret
              exact ⟨by first | rfl | (simp; done) | (simp [*]; done), by repeat (first | exact Drawn0.refl _ | apply Drawn0.step)⟩
            · rw [if_neg c16] at H
              have c16b0 : ((bt a0 0) == 45) = false := beq_eq_false_iff_ne.mpr c16
              have c16b1 : ((bt a0 0) != 45) = true := bne_iff_ne.mpr c16
              obtain ⟨ji17, hji17⟩ : ∃ j_ : Int, (wrap64 ((a0.size : Int) - 1)) = j_ := ⟨_, rfl⟩
              replace H : (if 0 ≤ (ji17) then (if (ji17) < (a0.size : Int) then (some ((bt a0 (ji17)) != 45)) else (none)) else (none)) = some r := by first | (rw [hji17] at H; exact H) | (simp only [hji17] at H ⊢; exact H)
              (try rw [hji17] at A12)
              have hji17w : (IntKind.i64.wrap ((a0.size : Int) - 1)) = ji17 := (i64_w _).trans hji17
              by_cases c18 : 0 ≤ (ji17)
              · rw [if_pos c18] at H
                have c18b0 : decide (0 ≤ (ji17)) = true := decide_eq_true c18
                clear c18
                by_cases c19 : (ji17) < (a0.size : Int)
                · rw [if_pos c19] at H
                  have c19b0 : decide ((ji17) < (a0.size : Int)) = true := decide_eq_true c19
                  clear c19
                  obtain rfl := Option.some.inj H
                  go_wp2_with (first | ((with_reducible refine gate_callee (f := 61) rfl ?_); refine goesL_ (some 32) rfl rfl Try.func61 (by kernel_rfl) rfl #[.int .i64 (a0.size : Int), .int .i64 1, .int .i64 20] rfl (by (try simp only [List.map_toArray, List.map_cons, List.map_nil]); first | done | rfl | (simp only [List.length_drop, List.length_take]; rfl)) ?_; (with_reducible refine (spec_l1In.calls (a0.size : Int) 1 20 true _ A12.out).mono ?_); rintro e w' ⟨rfl, ⟨nd, rfl⟩⟩; refine ⟨_, rfl, ?_⟩; have p15 : 0 ≤ (0 : Int) := (by omega); have q15 : 0 < a0.size := (by have : (0 : Int) < (a0.size : Int) := of_decide_eq_true (by first | (with_reducible assumption) | assumption); omega); have hx15 : ∀ h : 0 < a0.size, ((a0[0]'h).toNat : Int) = bt a0 0 := bt_at a0 0; clear p15; have qi15 : (0 < (a0.size : Int)) = True := eq_true (of_decide_eq_true (by first | (with_reducible assumption) | assumption)); replace q15 := eq_true q15; have p20 : 0 ≤ ((ji17) : Int) := of_decide_eq_true (by first | (with_reducible assumption) | assumption); have q20 : (ji17) < (a0.size : Int) := of_decide_eq_true (by first | (with_reducible assumption) | assumption); have hx20 := bt_at a0 (ji17); replace p20 := eq_true p20; replace q20 := eq_true q20))
                  go_ret
                  exact ⟨by first | rfl | (simp; done) | (simp only [← hji17] <;> (first | rfl | simp)) | (simp [*]; done), by repeat (first | exact Drawn0.refl _ | apply Drawn0.step)⟩
                · rw [if_neg c19] at H
                  exact absurd H (by simp)
              · rw [if_neg c18] at H
                exact absurd H (by simp)
          · rw [if_neg c14] at H
            exact absurd H (by simp)
        · replace c13 := Bool.eq_false_iff.mpr c13
          subst c13
          have H1 : (some false) = some r := by rw [if_neg (show ¬ (false = true) by decide)] at H; exact H
          clear H
          have H := H1
          clear H1
          obtain rfl := Option.some.inj H
          go_wp2_with (first | ((with_reducible refine gate_callee (f := 61) rfl ?_); refine goesL_ (some 32) rfl rfl Try.func61 (by kernel_rfl) rfl #[.int .i64 (a0.size : Int), .int .i64 1, .int .i64 20] rfl (by (try simp only [List.map_toArray, List.map_cons, List.map_nil]); first | done | rfl | (simp only [List.length_drop, List.length_take]; rfl)) ?_; (with_reducible refine (spec_l1In.calls (a0.size : Int) 1 20 false _ A12.out).mono ?_); rintro e w' ⟨rfl, ⟨nd, rfl⟩⟩; refine ⟨_, rfl, ?_⟩))
          go_ret
          exact ⟨by first | rfl | (simp; done) | (simp [*]; done), by repeat (first | exact Drawn0.refl _ | apply Drawn0.step)⟩

end Go.Proofs.Ytchhognpijobcaa.G
