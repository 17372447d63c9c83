import Derived.Test.YtpjpnppoejnafaaMFnExactLabelSet6
import Derived.Test.YtpjpnppoejnafaaMFnExactLabelSet1
/- PLabSet -/
/-
  A label is set: the reference's answer.
-/
namespace Go.Proofs.Ytpjpnppoejnafaa.G
open Go.RowKit Go.Proofs.YtpjpnppoejnafaaW.PrintWords Go.Proofs.YtpjpnppoejnafaaW.PrintLast Go.Proofs.YtpjpnppoejnafaaW.PrintMore
set_option linter.unusedVariables false
set_option linter.unusedSimpArgs false
/-- Ahead of the first that is not less, in place of those of the same key. -/
def insB (key v : ByteArray) : Bool → List ILab → List ILab
  | done, [] => if done then [] else [⟨key, v⟩]
  | done, y :: ys =>
    if !done && !(Op.bytesLess y.f0.toList key.toList) then ⟨key, v⟩ :: (if y.f0.toList = key.toList then insB key v true ys else y :: insB key v true ys)
    else if y.f0.toList = key.toList then insB key v done ys else y :: insB key v done ys
theorem insB_len (key v : ByteArray) : ∀ (done : Bool) (l : List ILab), (insB key v done l).length ≤ l.length + 1
  | done, [] => by rw [insB]; cases done <;> simp
  | done, y :: ys => by
    have h1 := insB_len key v true ys
    have h2 := insB_len key v done ys
    have h3 : (insB key v true ys).length ≤ ys.length := by
      have key2 : ∀ l : List ILab, (insB key v true l).length ≤ l.length := by
        intro l
        induction l with
        | nil => simp [insB]
        | cons z zs ih => rw [insB]; simp only [Bool.not_true, Bool.false_and, Bool.false_eq_true, if_false]; split <;> simp <;> omega
      exact key2 ys
    rw [insB]
    split
    · split <;> simp <;> omega
    · split <;> simp <;> omega
theorem insB_mem (key v : ByteArray) : ∀ (done : Bool) (l : List ILab) (x : ILab), x ∈ insB key v done l → x ∈ l ∨ x = ⟨key, v⟩
  | done, [], x, h => by rw [insB] at h; cases done <;> simp at h; exact .inr h
  | done, y :: ys, x, h => by
    rw [insB] at h
    have go : ∀ d, x ∈ insB key v d ys → x ∈ y :: ys ∨ x = ⟨key, v⟩ := fun d hx => (insB_mem key v d ys x hx).imp_left (fun h => by simp [h])
    split at h
    · rcases List.mem_cons.1 h with h | h
      · exact .inr h
      · split at h
        · exact go _ h
        · rcases List.mem_cons.1 h with h | h
          · exact .inl (by simp [h])
          · exact go _ h
    · split at h
      · exact go _ h
      · rcases List.mem_cons.1 h with h | h
        · exact .inl (by simp [h])
        · exact go _ h
theorem specLabelSet_l0 (xs : List ILab) (key v : ByteArray) (hl : xs.length ≤ 1048576) : ∀ (d i : Nat) (ys : List ILab) (done : Bool), i + d = xs.length → ys.length ≤ 2 * i + 1 →
    Ev (fun k => spec_LabelSet.l0 k xs key v ys done i) (ys ++ insB key v done (xs.drop i), true)
  | 0, i, ys, done, hd, hy => by
    refine Ev.step (fun k => by rw [spec_LabelSet.l0]) (ev_if_neg (by omega) ?_)
    rw [List.drop_of_length_le (by omega), insB]
    cases done with
    | true => exact ev_if_pos rfl (ev_some (by simp))
    | false => exact ev_if_neg Bool.false_ne_true (ev_if_pos (by omega) (ev_some (by simp)))
  | d + 1, i, ys, done, hd, hy => by
    have hi : i < xs.length := by omega
    have fin : ∀ (zs : List ILab) (dn : Bool), zs.length ≤ 2 * i + 3 → Ev (fun k => spec_LabelSet.l0 k xs key v zs dn ((i + 1 : Nat) : Int)) (zs ++ insB key v dn (xs.drop (i + 1)), true) := fun zs dn h1 => specLabelSet_l0 xs key v hl d (i + 1) zs dn (by omega) (by omega)
    have j2 : ∀ b : Bool, b = (!done && !(Op.bytesLess xs[i].f0.toList key.toList)) → Ev (fun k => spec_LabelSet.j2 k xs key v ys done i b) (ys ++ insB key v done (xs.drop i), true) := by
      intro b hb
      rw [List.drop_eq_getElem_cons hi, insB, ← hb]
      refine Ev.step (fun k => by rw [spec_LabelSet.j2]) ?_
      simp only [rdIL hi, wsucc hi (by omega : xs.length ≤ 9223372036854775807), Option.bind_some]
      cases b with
      | true =>
        rw [if_pos rfl]
        refine ev_if_pos rfl (ev_if_pos (by omega) (ev_if_pos (by omega) (ev_if_pos (by omega) ?_)))
        by_cases c : xs[i].f0.toList = key.toList
        · rw [if_pos c]
          refine ev_if_pos c (ev_rw (fin (ys ++ [⟨key, v⟩]) true (by simp; omega)) (by simp))
        · rw [if_neg c]
          refine ev_if_neg c (ev_if_pos (by simp; omega) ?_)
          have e : (⟨xs[i].f0, xs[i].f1⟩ : ILab) = xs[i] := rfl
          refine ev_rw (specLabelSet_l0 xs key v hl d (i + 1) (ys ++ [⟨key, v⟩] ++ [xs[i]]) true (by omega) (by simp; omega)) (by simp)
      | false =>
        rw [if_neg Bool.false_ne_true]
        refine ev_if_neg Bool.false_ne_true (ev_if_pos (by omega) (ev_if_pos (by omega) ?_))
        by_cases c : xs[i].f0.toList = key.toList
        · rw [if_pos c]
          exact ev_if_pos c (fin ys done (by omega))
        · rw [if_neg c]
          refine ev_if_neg c (ev_if_pos (by omega) ?_)
          exact ev_rw (fin (ys ++ [xs[i]]) done (by simp; omega)) (by simp)
    refine Ev.step (fun k => by rw [spec_LabelSet.l0]) (ev_if_pos (by omega) ?_)
    cases done with
    | true => exact ev_if_pos rfl (j2 false (by simp))
    | false =>
      refine ev_if_neg Bool.false_ne_true (ev_if_pos (by omega) ?_)
      rw [rdIL hi]
      exact j2 _ (by simp)
theorem l1Labels_ev (xs : List ILab) (hl : xs.length ≤ 1048576) : Ev (fun _ => spec_l1Labels.f xs) xs := by
  unfold spec_l1Labels.f
  simp only [Option.bind_some, List.nil_append, List.length_nil, Nat.zero_add]
  exact ev_if_pos (by omega) (Ev.now _)
def setOk (xs : List ILab) (key v : ByteArray) : Bool := labsB xs && (nameB key && (nameB v && ((labGet xs key).2 || (xs.length : Int) != 8)))
def labSet (xs : List ILab) (key v : ByteArray) : List ILab × Bool := if setOk xs key v = true then (insB key v false xs, true) else (xs, false)
theorem specLabelSet_ev (xs : List ILab) (key v : ByteArray) (hw : wfILabs xs) (hl : xs.length ≤ 1048576) (hk : key.size ≤ 9223372036854775807) (hv : v.size ≤ 9223372036854775807) : Ev (fun k => spec_LabelSet.f k xs key v) (labSet xs key v) := by
  have bad : ∀ (b : Bool), b = true → setOk xs key v = false → Ev (fun k => spec_LabelSet.j0 k xs key v b) (labSet xs key v) := by
    intro b hb h
    unfold labSet
    rw [h, if_neg Bool.false_ne_true]
    exact Ev.step (fun k => by rw [spec_LabelSet.j0]) (ev_if_pos hb (Ev.bind (l1Labels_ev xs hl) (Ev.now _)))
  have good : ∀ (b : Bool), b = false → setOk xs key v = true → Ev (fun k => spec_LabelSet.j0 k xs key v b) (labSet xs key v) := by
    intro b hb h
    unfold labSet
    rw [h, if_pos rfl]
    refine Ev.step (fun k => by rw [spec_LabelSet.j0]) (ev_if_neg (by rw [hb]; exact Bool.false_ne_true) ?_)
    have := specLabelSet_l0 xs key v hl xs.length 0 [] false (by omega) (by simp)
    simpa using this
  unfold spec_LabelSet.f
  refine Ev.bind (specLabelGet_ev xs key hw.1) (Ev.bind (specLabelsOk_ev xs hw) ?_)
  cases h1 : labsB xs with
  | false => exact ev_if_neg Bool.false_ne_true (bad _ rfl (by simp [setOk, h1]))
  | true =>
    refine ev_if_pos rfl (Ev.bind (specNameOk_ev key hk) ?_)
    cases h2 : nameB key with
    | false => exact ev_if_neg Bool.false_ne_true (bad _ rfl (by simp [setOk, h2]))
    | true =>
      refine ev_if_pos rfl (Ev.bind (specNameOk_ev v hv) ?_)
      cases h3 : nameB v with
      | false => exact ev_if_neg Bool.false_ne_true (bad _ rfl (by simp [setOk, h3]))
      | true =>
        refine ev_if_pos rfl ?_
        cases h4 : (labGet xs key).2 with
        | true => exact ev_if_pos rfl (good _ rfl (by simp [setOk, h1, h2, h3, h4]))
        | false =>
          refine ev_if_neg Bool.false_ne_true ?_
          cases h5 : ((xs.length : Int) == 8) with
          | true => exact bad _ rfl (by have := beq_iff_eq.1 h5; simp only [setOk, h1, h2, h3, h4, Bool.true_and, Bool.false_or]; rw [bne, h5]; rfl)
          | false => exact good _ rfl (by simp only [setOk, h1, h2, h3, h4, Bool.true_and, Bool.false_or]; rw [bne, h5]; rfl)
theorem labSet_len (xs : List ILab) (key v : ByteArray) : (labSet xs key v).1.length ≤ xs.length + 1 := by
  unfold labSet
  split
  · exact insB_len key v false xs
  · show xs.length ≤ _; omega
theorem labSet_mem (xs : List ILab) (key v : ByteArray) (x : ILab) (h : x ∈ (labSet xs key v).1) : x ∈ xs ∨ x = ⟨key, v⟩ := by
  unfold labSet at h
  split at h
  · exact insB_mem key v false xs x h
  · exact .inl h
end Go.Proofs.Ytpjpnppoejnafaa.G

/- G12 -/
-- Laid by wip/g/gprint.py out of the translation, by the kit's print program. Lean checks it.
namespace Go.Proofs.Ytpjpnppoejnafaa.G
open Go.RowKit Go.Proofs.YtpjpnppoejnafaaW.PrintWords Go.Proofs.YtpjpnppoejnafaaW.PrintLast Go.Proofs.YtpjpnppoejnafaaW.PrintMore
attribute [local go_sem] max2_int min2_int max_two min_two max_three min_three max_four min_four   -- for this text's walks alone
set_option linter.unusedVariables false
set_option linter.unusedSimpArgs false

/-! ### spec_LabelDrop: function 12 -/
def spec_LabelDrop.l0 : Nat → List (S56) → ByteArray → List (S56) → Int → Option ((List (S56)))
  | 0, _, _, _, _ => none
  | k + 1, x0, x1, x5, x6 => if x6 < (x0.length : Int) then (if 0 ≤ x6 then (if ((rd_T56 x0 x6).f0).toList = x1.toList then (spec_LabelDrop.l0 k x0 x1 x5 (wrap64 (x6 + 1))) else (if x5.length < 4398046511104 then (spec_LabelDrop.l0 k x0 x1 (x5 ++ [(⟨(rd_T56 x0 x6).f0, (rd_T56 x0 x6).f1⟩ : S56)]) (wrap64 (x6 + 1))) else (none))) else (none)) else (some x5)
def spec_LabelDrop.f (k : Nat) (l0 : List (S56)) (a1 : ByteArray) : Option ((List (S56))) := spec_LabelDrop.l0 k l0 a1 (([] : List (S56))) 0
theorem spec_LabelDrop.mono_l : ∀ k, (∀ y0 y1 y2 y3, LeO (spec_LabelDrop.l0 k y0 y1 y2 y3) (spec_LabelDrop.l0 (k + 1) y0 y1 y2 y3))
  | 0 => fun _ _ _ _ r h => by simp [spec_LabelDrop.l0] at h
  | k + 1 => by
    have ih0 := spec_LabelDrop.mono_l k
    · intro y0 y1 y2 y3
      unfold spec_LabelDrop.l0
      repeat' first
      | (with_reducible exact ih0 _ _ _ _)
      | (with_reducible exact LeO.refl _)
      | (with_reducible exact LeO.none _)
      | (with_reducible refine LeO.ite ?_ ?_)
      | (with_reducible refine LeO.bind ?_ (fun _ => ?_))
      | exact ih0 _ _ _ _
      | exact LeO.none _
      | refine LeO.ite ?_ ?_
      | refine LeO.bind ?_ (fun _ => ?_)
theorem spec_LabelDrop.mono : ∀ a0 a1 k, LeO (spec_LabelDrop.f k a0 a1) (spec_LabelDrop.f (k + 1) a0 a1) := by
  intro a0 a1 k
  have ih0 := spec_LabelDrop.mono_l k
  unfold spec_LabelDrop.f
  repeat' first
      | (with_reducible exact ih0 _ _ _ _)
      | (with_reducible exact LeO.refl _)
      | (with_reducible exact LeO.none _)
      | (with_reducible refine LeO.ite ?_ ?_)
      | (with_reducible refine LeO.bind ?_ (fun _ => ?_))
      | exact ih0 _ _ _ _
      | exact LeO.none _
      | refine LeO.ite ?_ ?_
      | refine LeO.bind ?_ (fun _ => ?_)
set_option maxHeartbeats 8000000 in
set_option maxRecDepth 100000 in
theorem spec_LabelDrop.calls (k : Nat) (A0 : Option Addr) (c0 : Nat) (l0 : List (S56)) (a1 : ByteArray) (r : List (S56)) (w : World) (hr0 : Kd.C k56 w A0 l0.length l0) (hc0 : l0.length ≤ c0) (h : spec_LabelDrop.f k l0 a1 = some r) :
    Calls Try.prog 12 #[.slice A0 l0.length c0, .string a1] w fun e w' => ∃ v0_ : Value, e = .returned (v0_) ∧ Kd.R k56 56 w' w.heap.size (fun _ => True) v0_ r ∧ Below w.heap.size w w' := by
  have hu56 := Try.underlying56
  have HR0 := Aside0.mk hr0
  have HC0 := Aside0.mk hc0
  clear hr0 hc0
  have HB := Aside0.mk (Below.refl w.heap.size w)
  have H : (spec_LabelDrop.l0 k l0 a1 (([] : List (S56))) 0) = some r := h
  clear h
  obtain ⟨y104, hy104⟩ : ∃ y_ : List (S56), y_ = (([] : List (S56))) := ⟨_, rfl⟩
  replace H : (spec_LabelDrop.l0 k l0 a1 y104 0) = some r := by first | (rw [hy104]; with_reducible exact H) | (have H2_ := (Option.bind_some _ _).symm.trans H; rw [hy104]; with_reducible exact H2_) | (have H2_ := (Option.bind_some _ _).symm.trans H; with_reducible exact H2_) | with_reducible exact H | (rw [hy104]; exact H) | exact H
  have Ny104 := Aside0.mk hy104
  clear hy104
  have H' := Aside0.mk H
  clear H
  go_enter Try.func12, Try.ntmps12
  go_wp2_with (first | ((with_reducible refine gate_dst (N := 7) rfl ?_); refine Kd.R_lit k56 _ 56 ?hg (N := 7) ?hd (xs := ([] : List (S56))) (inner := []) (ok := fun _ => True) (okp := fun _ => True) ?hr ?hp (fun _ hk => hk) trivial (Below.refl _ _) (Nat.le_refl _) (by simp) ?_; (case hd => rfl); (case hg => rfl); (case hr => first | (go_simp; done) | (go_simp; rfl)); (case hp => exact (Reps.none _ _)); intro v105 w3 ho4 hb hg_ hnew_; clear hg_ hnew_; (first | rw [← Ny104.out] at ho4 | (simp only [Int.reduceToNat] at ho4; rw [← Ny104.out] at ho4)); have n0_ := Aside0.mk (Kd.R_lower ho4 (below_size (by repeat (first | (with_reducible first | exact HB.out | apply below_alloc | apply pw_below_drewN | apply below_drew1) | exact HB.out)))); have n1_ := Aside0.mk (below_step (by repeat (first | (with_reducible first | exact HB.out | apply below_alloc | apply pw_below_drewN | apply below_drew1) | exact HB.out)) hb); clear HB; have HO106 := n0_; have HB := n1_; clear n0_ n1_; clear hb ho4))
  go_loopg [5, 6] k (fun kq v5 v6 w' => ∃ (x5_1 : List (S56)) (x6_1 : Int), v6 = .int .i64 x6_1 ∧ Aside0 (spec_LabelDrop.l0 kq l0 a1 x5_1 x6_1 = some r) ∧ Aside0 (kq ≤ k) ∧ Aside0 (Kd.R k56 56 w' w.heap.size (fun _ => True) v5 x5_1) ∧ Aside0 (Below w.heap.size w w'))
  case atStart => exact ⟨(y104), (0), (by first | rfl | (simp; done) | (simp [*]; done)), H', ⟨Nat.le_refl _⟩, ⟨by (with_reducible repeat (first | apply Kd.R_alloc | apply Kd.R_drewN | apply Kd.R_drew)); exact HO106.out⟩, ⟨by repeat (first | (with_reducible first | exact HB.out | apply below_alloc | apply pw_below_drewN | apply below_drew1) | exact HB.out)⟩⟩
  case round =>
    clear H'
    try clear c1
    try clear p2
    obtain ⟨x5_1, x6_1, rfl, HA, HK1, HO_5, HB⟩ := hrel
    cases gk with
    | zero => exact absurd HA.out (by simp [spec_LabelDrop.l0])
    | succ k1 =>
      have H := HA.out
      clear HA
      simp only [spec_LabelDrop.l0] at H
      by_cases c5 : x6_1 < (l0.length : Int)
      · rw [if_pos c5] at H
        have c5b0 : decide (x6_1 < (l0.length : Int)) = true := decide_eq_true c5
        clear c5
        by_cases c6 : 0 ≤ x6_1
        · rw [if_pos c6] at H
          have c6b0 : decide (0 ≤ x6_1) = true := decide_eq_true c6
          clear c6
          by_cases c7 : ((rd_T56 l0 x6_1).f0).toList = a1.toList
          · rw [if_pos c7] at H
            have c7b0 : (((rd_T56 l0 x6_1).f0).toList == a1.toList) = true := beq_iff_eq.mpr c7
            have c7b1 : (((rd_T56 l0 x6_1).f0).toList != a1.toList) = false := bne_eq_false_iff_eq.mpr c7
            clear c7
            have H' := Aside0.mk H
            clear H
            have p107 : 0 ≤ (x6_1 : Int) := of_decide_eq_true (by first | (with_reducible assumption) | assumption)
            have q107 : x6_1 < (l0.length : Int) := of_decide_eq_true (by first | (with_reducible assumption) | assumption)
            obtain ⟨ad107, e107, hx107_0, hx107_1⟩ := at_T56 HR0.out x6_1 p107 q107
            cases e107
            replace hx107_0 := (HB.out.cell (World.block_lt_of_cell? w _ hx107_0)).trans hx107_0
            replace hx107_1 := (HB.out.cell (World.block_lt_of_cell? w _ hx107_1)).trans hx107_1
            replace p107 := eq_true p107
            replace q107 := eq_true q107
            go_wp2
            go_roundg k1
            case measure => have := HK1.out; omega
            case rel => exact ⟨(x5_1), (wrap64 (x6_1 + 1)), (by first | rfl | (simp; done) | (simp [*]; done)), H', ⟨by have := HK1.out; omega⟩, ⟨by (with_reducible repeat (first | apply Kd.R_alloc | apply Kd.R_drewN | apply Kd.R_drew)); exact HO_5.out⟩, ⟨by repeat (first | (with_reducible first | exact HB.out | apply below_alloc | apply pw_below_drewN | apply below_drew1) | exact HB.out)⟩⟩
          · rw [if_neg c7] at H
            have c7b0 : (((rd_T56 l0 x6_1).f0).toList == a1.toList) = false := beq_eq_false_iff_ne.mpr c7
            have c7b1 : (((rd_T56 l0 x6_1).f0).toList != a1.toList) = true := bne_iff_ne.mpr c7
            by_cases c8 : x5_1.length < 4398046511104
            · rw [if_pos c8] at H
              have LMc8 := Aside0.mk c8
              clear c8
              obtain ⟨y109, hy109⟩ : ∃ y_ : List (S56), y_ = (x5_1 ++ [(⟨(rd_T56 l0 x6_1).f0, (rd_T56 l0 x6_1).f1⟩ : S56)]) := ⟨_, rfl⟩
              replace H : (spec_LabelDrop.l0 k1 l0 a1 y109 (wrap64 (x6_1 + 1))) = some r := by first | (rw [hy109]; with_reducible exact H) | (have H2_ := (Option.bind_some _ _).symm.trans H; rw [hy109]; with_reducible exact H2_) | (have H2_ := (Option.bind_some _ _).symm.trans H; with_reducible exact H2_) | with_reducible exact H | (rw [hy109]; exact H) | exact H
              have Ny109 := Aside0.mk hy109
              clear hy109
              have H' := Aside0.mk H
              clear H
              have p107 : 0 ≤ (x6_1 : Int) := of_decide_eq_true (by first | (with_reducible assumption) | assumption)
              have q107 : x6_1 < (l0.length : Int) := of_decide_eq_true (by first | (with_reducible assumption) | assumption)
              obtain ⟨ad107, e107, hx107_0, hx107_1⟩ := at_T56 HR0.out x6_1 p107 q107
              cases e107
              replace hx107_0 := (HB.out.cell (World.block_lt_of_cell? w _ hx107_0)).trans hx107_0
              replace hx107_1 := (HB.out.cell (World.block_lt_of_cell? w _ hx107_1)).trans hx107_1
              replace p107 := eq_true p107
              replace q107 := eq_true q107
              have p108 : 0 ≤ (x6_1 : Int) := of_decide_eq_true (by first | (with_reducible assumption) | assumption)
              have q108 : x6_1 < (l0.length : Int) := of_decide_eq_true (by first | (with_reducible assumption) | assumption)
              obtain ⟨ad108, e108, hx108_0, hx108_1⟩ := at_T56 HR0.out x6_1 p108 q108
              obtain rfl : ad107 = ad108 := (by injection e108)
              replace hx108_0 := (HB.out.cell (World.block_lt_of_cell? w _ hx108_0)).trans hx108_0
              replace hx108_1 := (HB.out.cell (World.block_lt_of_cell? w _ hx108_1)).trans hx108_1
              replace p108 := eq_true p108
              replace q108 := eq_true q108
              go_wp2_with (first | ((with_reducible refine gate_builtin (b := .append) (xs := #[.tmp 21, .tmp 26]) rfl ?_); at_builtin; refine Kd.R_append k56 (w0 := w) w.heap.size rfl (.tmp 21) (.tmp 26) 24 56 (.agg #[(.string ⟨#[]⟩), (.string ⟨#[]⟩)]) 32 rfl Try.underlying24 info56 rfl (by decide) (by omega) u5 x5_1 (⟨(rd_T56 l0 x6_1).f0, (rd_T56 l0 x6_1).f1⟩ : S56) [.string ((rd_T56 l0 x6_1).f0), .string ((rd_T56 l0 x6_1).f1)] (fun _ => True) (fun _ => False) rfl rfl ?aP (fun _ hk => hk.elim) ?aF ?aO ?aB ?aS ?aL ?_; (case aP => exact k56_mkM _ _ _ (⟨(rd_T56 l0 x6_1).f0, (rd_T56 l0 x6_1).f1⟩ : S56)); (case aB => exact (by repeat (first | (with_reducible first | exact HB.out | apply below_alloc | apply pw_below_drewN | apply below_drew1) | exact HB.out))); (case aF => exact (fun _ _ => trivial)); (case aO => exact (by (with_reducible repeat (first | apply Kd.R_alloc | apply Kd.R_drewN | apply Kd.R_drew)); exact HO_5.out)); (case aS => exact (below_size (by repeat (first | (with_reducible first | exact HB.out | apply below_alloc | apply pw_below_drewN | apply below_drew1) | exact HB.out)))); (case aL => have := LMc8.out; omega); intro v110 w9 ho hb hg hat; rw [← Ny109.out] at ho; have n0_ := Aside0.mk (hb); have n1_ := Aside0.mk (ho); clear HB; clear HO_5; have HB := n0_; have HO111 := n1_; clear n0_ n1_; clear ho hb hg hat))
              go_roundg k1
              case measure => have := HK1.out; omega
              case rel => exact ⟨(y109), (wrap64 (x6_1 + 1)), (by first | rfl | (simp; done) | (simp [*]; done)), H', ⟨by have := HK1.out; omega⟩, ⟨by (with_reducible repeat (first | apply Kd.R_alloc | apply Kd.R_drewN | apply Kd.R_drew)); exact HO111.out⟩, ⟨by repeat (first | (with_reducible first | exact HB.out | apply below_alloc | apply pw_below_drewN | apply below_drew1) | exact HB.out)⟩⟩
            · rw [if_neg c8] at H
              exact absurd H (by simp)
        · rw [if_neg c6] at H
          exact absurd H (by simp)
      · rw [if_neg c5] at H
        have c5b0 : decide (x6_1 < (l0.length : Int)) = false := decide_eq_false c5
        clear c5
        obtain rfl := Option.some.inj H
        go_wp2
        go_ret
        exact ⟨_, by first | rfl | (simp [errW_none, errW_some] <;> rfl) | (simp [*, errW_none, errW_some] <;> rfl), by (with_reducible repeat (first | apply Kd.R_alloc | apply Kd.R_drewN | apply Kd.R_drew)); exact HO_5.out, by repeat (first | (with_reducible first | exact HB.out | apply below_alloc | apply pw_below_drewN | apply below_drew1) | exact HB.out)⟩

end Go.Proofs.Ytpjpnppoejnafaa.G

/- G72 -/
-- Laid by wip/g/gprint.py out of the translation, by the kit's print program. Lean checks it.
namespace Go.Proofs.Ytpjpnppoejnafaa.G
open Go.RowKit Go.Proofs.YtpjpnppoejnafaaW.PrintWords Go.Proofs.YtpjpnppoejnafaaW.PrintLast Go.Proofs.YtpjpnppoejnafaaW.PrintMore
attribute [local go_sem] max2_int min2_int max_two min_two max_three min_three max_four min_four   -- for this text's walks alone
set_option linter.unusedVariables false
set_option linter.unusedSimpArgs false

/-! ### slices_IndexFunc_simpl_Label_impl_Label: function 72 -/
set_option maxRecDepth 100000 in
theorem slices_IndexFunc_simpl_Label_impl_Label.calls {α : Type} (d : Kd α) (hd : d.sz = 2) (kf : Nat) (hkf : ∀ (zs : Array Value) (W : World), (callFunc kf zs).run Try.prog W = .ok (.enter kf zs) W) (caps : Array Value) (p : α → Option Bool) (A0 : Option Addr) (c0 : Nat) (l0 : List α) (r : Int) (w : World) (hr0 : Kd.C d w A0 l0.length l0) (hc0 : l0.length ≤ c0)
    (hf : ∀ (x : α) (cs : List Value) (b : Bool) (W : World), x ∈ l0 → p x = some b → d.K W x cs → Below w.heap.size w W → Calls Try.prog kf (#[(.agg (cs).toArray)] ++ caps) W fun e w' => e = .returned (.bool b) ∧ Below W.heap.size W w') (h : idxO p l0 0 = some r) :
    Calls Try.prog 72 #[.slice A0 l0.length c0, .func (.func kf) #[] caps] w fun e w' => e = .returned (.int .i64 r) ∧ Below w.heap.size w w' := by
  have hm : l0.length ≤ 9223372036854775807 := hr0.2.1
  have HR := Lib.hid hr0
  have HF := Lib.hid hf
  have HH := Lib.hid h
  have HD := Lib.hid hd
  clear hr0 hf h hd
  go_enter Try.func72, Try.ntmps72
  go_wp2
  go_loopw [5, 8] (fun _ i wr => ∃ k : Nat, k ≤ l0.length ∧ i = .int .i64 k ∧ Hid (idxO p (l0.drop k) k = some r) ∧ Hid (Below w.heap.size w wr)) (fun _ i _ => l0.length - (intOf i).toNat)
  case atStart => exact ⟨0, by omega, rfl, HH, Below.refl _ _⟩
  case round =>
    obtain ⟨k, hk, rfl, HE, HB⟩ := hrel
    by_cases hlt : k < l0.length
    · obtain ⟨b, hp, hb1, hb2⟩ := idxO_step hlt HE.out
      have HP := Lib.hid hp
      have B1 := Lib.hid hb1
      have B2 := Lib.hid hb2
      clear hp hb1 hb2
      obtain ⟨ad, cs, rfl, hcs, hK, hcell⟩ := Kd.C_get HR.out l0[k] (k : Int) (by omega) (by omega)
      rw [HD.out] at hcs hcell
      obtain ⟨y0, y1, rfl⟩ : ∃ y0 y1, cs = [y0, y1] := by match cs, hcs with | [y0, y1], _ => exact ⟨y0, y1, rfl⟩
      clear hcs
      simp only [Int.toNat_natCast, getD_at hlt] at hK hcell
      have HK := Lib.hid (d.K_below HB.out hK)
      clear hK
      have d0 := pw_cell_below HB.out (hcell 0 y0 rfl)
      have d1 := pw_cell_below HB.out (hcell 1 y1 rfl)
      clear hcell
      simp only [Nat.add_zero, Nat.mul_one] at d0
      rw [add_field _ _ 1 (by omega)] at d1
      cases b
      · have B3 := Lib.hid (B2.out rfl)
        clear B1 B2
        go_wp2_with fail
        refine (HF.out l0[k] _ _ _ (List.getElem_mem hlt) HP.out HK.out HB.out).mono ?_
        rintro e w' ⟨rfl, hbx⟩
        have HB2 := hid_below HB hbx
        clear hbx
        go_wp2
        go_roundw
        case rel => exact ⟨k + 1, by omega, by go_num, B3, HB2⟩
        case measure => simp [intOf]; omega
      · have B3 := Lib.hid (B1.out rfl)
        clear B1 B2
        go_wp2_with fail
        refine (HF.out l0[k] _ _ _ (List.getElem_mem hlt) HP.out HK.out HB.out).mono ?_
        rintro e w' ⟨rfl, hbx⟩
        have HB2 := hid_below HB hbx
        clear hbx
        go_wp2
        go_ret
        obtain rfl := B3.out
        exact ⟨rfl, HB2.out⟩
    · obtain rfl : k = l0.length := by omega
      go_wp2
      go_ret
      exact ⟨by rw [idxO_end HE.out]; rfl, HB.out⟩

end Go.Proofs.Ytpjpnppoejnafaa.G

/- G38 -/
-- Laid by wip/g/gprint.py out of the translation, by the kit's print program. Lean checks it.
namespace Go.Proofs.Ytpjpnppoejnafaa.G
open Go.RowKit Go.Proofs.YtpjpnppoejnafaaW.PrintWords Go.Proofs.YtpjpnppoejnafaaW.PrintLast Go.Proofs.YtpjpnppoejnafaaW.PrintMore
attribute [local go_sem] max2_int min2_int max_two min_two max_three min_three max_four min_four   -- for this text's walks alone
set_option linter.unusedVariables false
set_option linter.unusedSimpArgs false

/-! ### slices_DeleteFunc_simpl_Label_impl_Label: function 38 -/
set_option maxHeartbeats 1000000 in
set_option maxRecDepth 100000 in
theorem slices_DeleteFunc_simpl_Label_impl_Label.calls {α : Type} (d : Kd α) (hd : d.sz = 2) (kf : Nat) (hkf : ∀ (zs : Array Value) (W : World), (callFunc kf zs).run Try.prog W = .ok (.enter kf zs) W) (caps : Array Value) (p : α → Option Bool) (u : Value) (l0 r : List α) (ok : Nat → Prop) (w0 w : World) (hB : Below w0.heap.size w0 w) (hR : d.R 56 w w0.heap.size ok u l0)
    (hf : ∀ (x : α) (cs : List Value) (b : Bool) (W : World), x ∈ l0 → p x = some b → d.K W x cs → Kept w W (fun k => some k = u.ownBlock) → Calls Try.prog kf (#[(.agg (cs).toArray)] ++ caps) W fun e w' => e = .returned (.bool b) ∧ Below W.heap.size W w') (h : delO p l0 = some r) :
    Calls Try.prog 38 #[u, .func (.func kf) #[] caps] w fun e w' => ∃ v, e = .returned v ∧ d.R 56 w' w0.heap.size ok v r ∧ Below w0.heap.size w0 w' ∧ Kept w w' (fun k => some k = u.ownBlock) ∧ (v.ownBlock = none ∨ v.ownBlock = u.ownBlock) := by
  obtain ⟨i, hi, hcase⟩ := delO_idx l0 0 r h
  obtain ⟨A0, c, rfl, hle, hC⟩ := Kd.R_reads hR
  have hm : l0.length ≤ 9223372036854775807 := hC.2.1
  have HC := Lib.hid hC
  have HR := Lib.hid hR
  have HF := Lib.hid hf
  have HI := Lib.hid hi
  have HD := Lib.hid hd
  have HB0 := Lib.hid hB
  have HL := Lib.hid hle
  clear hR hf h hi hd hB hC
  rcases hcase with ⟨rfl, rfl⟩ | ⟨m, rfl, hml, r2, h2, rfl⟩
  · go_enter Try.func38, Try.ntmps38
    go_wp2_with fail
    refine (slices_IndexFunc_simpl_Label_impl_Label.calls d HD.out kf hkf caps p A0 c r _ _ HC.out HL.out (fun x cs b W hx hp hk hb => HF.out x cs b W hx hp hk (Kept.of_below hb _)) HI.out).mono ?_
    rintro e w1 ⟨rfl, hb1⟩
    have HB1 := Lib.hid hb1
    clear hb1
    go_wp2
    go_ret
    exact ⟨_, rfl, Kd.R_below HR.out HB1.out, below_then HB0.out HB0.out.size HB1.out, Kept.of_below HB1.out _, .inr rfl⟩
  · obtain ⟨g, cur, rfl, _, hg, hh, _, hcm, hs, hok, hreps⟩ := R_block HR.out (by omega)
    simp only [Nat.zero_add] at HI
    have hcle : c ≤ 9223372036854775807 := by unfold maxLen at hcm; omega
    have HH := Lib.hid hh
    have HS := Lib.hid hs
    have HG := Lib.hid hg
    have HOK := Lib.hid hok
    have HRP := Lib.hid hreps
    have H2 := Lib.hid h2
    have HCM := Lib.hid hcm
    clear hh hs hg hok hreps h2 hcm
    have hnm : ((m : Int) == -1) = false := by rw [beq_eq_false_iff_ne]; omega
    go_enter Try.func38, Try.ntmps38
    go_wp2_with fail
    refine (slices_IndexFunc_simpl_Label_impl_Label.calls d HD.out kf hkf caps p _ c l0 _ _ HC.out HL.out (fun x cs b W hx hp hk hb => HF.out x cs b W hx hp hk (Kept.of_below hb _)) HI.out).mono ?_
    rintro e w1 ⟨rfl, hb1⟩
    have HST := Lib.hid (del_start HG.out HH.out HRP.out HB0.out hb1 hml H2.out rfl)
    clear hb1
    go_wp2
    go_loopw [5, 6] (fun i j wr => ∃ a k : Nat, i = .int .i64 a ∧ j = .int .i64 k ∧ a < k ∧ k ≤ l0.length ∧ Hid (DelSt d 56 p l0 (l0.take m ++ r2) ok w0 w g cur a k wr)) (fun _ j _ => l0.length - (intOf j).toNat)
    case atStart => exact ⟨m, m + 1, rfl, by go_num, by omega, by omega, HST⟩
    case round =>
      obtain ⟨a, k, rfl, rfl, hak, hkl, HE⟩ := hrel
      by_cases hlt : k < l0.length
      · obtain ⟨cs, b, hcs, hp, hM, hcell, hfz, hsome⟩ := del_read HH.out HS.out HL.out HRP.out HE.out hlt
        have HM := Lib.hid hM
        have hone := d.K_one (d.K_of_M hM)
        have HP := Lib.hid hp
        have hlen := hcs
        rw [HD.out] at hcs hcell hsome
        obtain ⟨y0, y1, rfl⟩ : ∃ y0 y1, cs = [y0, y1] := by match cs, hcs with | [y0, y1], _ => exact ⟨y0, y1, rfl⟩
        have HLEN := Lib.hid hlen
        clear hM hp hcs hlen
        have hal : a * 2 + 2 ≤ c * 2 := by omega
        have d0 := hcell 0 y0 rfl
        have t0 := fun (a : Addr) (W : World) (q : Mode) => run_store Try.prog W a y0 q (hone y0 (by simp))
        have d1 := hcell 1 y1 rfl
        have t1 := fun (a : Addr) (W : World) (q : Mode) => run_store Try.prog W a y1 q (hone y1 (by simp))
        clear hone
        obtain ⟨u0, e0⟩ := hsome (a * 2 + 0) (by omega)
        obtain ⟨u1, e1⟩ := hsome (a * 2 + 1) (by omega)
        simp only [Nat.add_zero, Nat.mul_one] at d0 e0
        have f0 := hfz (a * 2 + 0)
        have f1 := hfz (a * 2 + 1)
        simp only [Nat.add_zero, Nat.mul_one] at f0
        clear hcell hsome hfz
        have hgw := World.block_lt_of_cell? wr _ d0
        simp only at hgw
        have HW := Lib.hid (below_alloc (Below.refl wr.heap.size wr) (.cells #[y0, y1] 56))
        cases b
        · go_wp2_with fail
          refine (HF.out l0[k] _ _ _ (List.getElem_mem hlt) HP.out (d.K_of_M (Kd.M_below HM.out HW.out)) ((HE.out.kept.below HW.out).mono (fun k hk => by rw [hk]; rfl))).mono ?_
          rintro e w2 ⟨rfl, hb2⟩
          have hb3 := below_then HW.out HW.out.size hb2
          have e0x := pw_cell_below hb3 e0
          have f0x := (hb3.frozen (p := ⟨g, a * 2 + 0, none⟩) hgw).trans f0
          have e1x := pw_cell_below hb3 e1
          have f1x := (hb3.frozen (p := ⟨g, a * 2 + 1, none⟩) hgw).trans f1
          have s0x : w2.cell? ⟨wr.heap.size, 0, none⟩ = some y0 := pw_cell_below hb2 (by simp)
          have s1x : w2.cell? ⟨wr.heap.size, 1, none⟩ = some y1 := pw_cell_below hb2 (by simp)
          simp only [Nat.add_zero, Nat.mul_one] at f0x
          have HN := Lib.hid (del_keep HG.out HS.out HL.out HE.out hlt HP.out hb3 HLEN.out HM.out)
          clear d0 d1 e0 e1 f0 f1 hb2 hb3
          rw [HD.out] at HN
          simp only [World.setCells, Nat.add_assoc, Nat.reduceAdd] at HN
          go_wp2
          go_roundw
          case rel => exact ⟨a + 1, k + 1, by go_num, by go_num, by omega, by omega, HN⟩
          case measure => simp [intOf]; omega
        · go_wp2_with fail
          refine (HF.out l0[k] _ _ _ (List.getElem_mem hlt) HP.out (d.K_of_M (Kd.M_below HM.out HW.out)) ((HE.out.kept.below HW.out).mono (fun k hk => by rw [hk]; rfl))).mono ?_
          rintro e w2 ⟨rfl, hb2⟩
          have HN := Lib.hid (del_skip HE.out hlt HP.out (below_then HW.out HW.out.size hb2))
          clear hb2
          go_wp2
          go_roundw
          case rel => exact ⟨a, k + 1, rfl, by go_num, by omega, by omega, HN⟩
          case measure => simp [intOf]; omega
      · obtain rfl : k = l0.length := by omega
        have hcl : l0.length ≤ c := HL.out
        have hca : ¬ c = a := by omega
        obtain ⟨cur2, ys, r3, _, hh2, hs2, _⟩ := HE.out.st
        have hs3 : cur2.size = c * 2 := by rw [hs2, HS.out, HD.out]
        have hcz : (Value.cells (.agg #[(.string ⟨#[]⟩), (.string ⟨#[]⟩)])).size = 2 := rfl
        have hclr := fun ty => run_clear_cells (P := Try.prog) wr 24 56 ty (.agg #[(.string ⟨#[]⟩), (.string ⟨#[]⟩)]) Try.underlying24 (fun w => by kernel_rfl) (by decide) g (a * 2) (l0.length - a) (c - a) (by omega) (fun j hj => by rw [hcz] at hj; rw [blk_cell hh2, Array.getElem?_eq_getElem (by omega)]; rfl) (fun j => blk_frozen hh2 j)
        have HEND := Lib.hid (del_end HG.out HS.out HCM.out HL.out HOK.out HE.out (zs := (Builtin.zeroCells (Value.cells (.agg #[(.string ⟨#[]⟩), (.string ⟨#[]⟩)])) (l0.length - a)).toList) (by simp only [Builtin.zeroCells, Array.length_toList, Array.size_map, Array.size_range]; rw [HD.out, hcz]; omega))
        rw [HD.out] at HEND
        clear hh2 hs2 hs3
        generalize (Builtin.zeroCells (Value.cells (.agg #[(.string ⟨#[]⟩), (.string ⟨#[]⟩)])) (l0.length - a)).toList = zs at hclr HEND
        go_wp2
        go_ret
        exact ⟨_, rfl, HEND.out.1, HEND.out.2.1, HEND.out.2.2.mono (fun k hk => by rw [hk]; rfl), .inr rfl⟩

end Go.Proofs.Ytpjpnppoejnafaa.G

/- G39 -/
-- Laid by wip/g/gprint.py out of the translation, by the kit's print program. Lean checks it.
namespace Go.Proofs.Ytpjpnppoejnafaa.G
open Go.RowKit Go.Proofs.YtpjpnppoejnafaaW.PrintWords Go.Proofs.YtpjpnppoejnafaaW.PrintLast Go.Proofs.YtpjpnppoejnafaaW.PrintMore
attribute [local go_sem] max2_int min2_int max_two min_two max_three min_three max_four min_four   -- for this text's walks alone
set_option linter.unusedVariables false
set_option linter.unusedSimpArgs false

/-! ### slices_Clone_simpl_Label_impl_Label: function 39 -/
def slices_Clone_simpl_Label_impl_Label.f (l0 : List (S56)) : Option (List (S56)) := if l0.length < 4398046511104 then some l0 else none
set_option maxHeartbeats 4000000 in
theorem slices_Clone_simpl_Label_impl_Label.calls (A0 : Option Addr) (c0 : Nat) (l0 : List (S56)) (r : List (S56)) (w : World) (hr0 : Kd.C k56 w A0 l0.length l0) (hc0 : l0.length ≤ c0) (h : slices_Clone_simpl_Label_impl_Label.f l0 = some r) :
    Calls Try.prog 39 #[.slice A0 l0.length c0] w fun e w' => ∃ v0_ : Value, e = .returned (v0_) ∧ Kd.R k56 56 w' w.heap.size (fun _ => True) v0_ r ∧ Below w.heap.size w w' := by
  unfold slices_Clone_simpl_Label_impl_Label.f at h
  by_cases hl : l0.length < 4398046511104
  · rw [if_pos hl] at h
    obtain rfl := Option.some.inj h
    clear h
    cases A0 with
    | none =>
      have h0 : l0 = [] := by
        rcases Nat.eq_zero_or_pos l0.length with h | h
        · exact List.eq_nil_of_length_eq_zero h
        · obtain ⟨ad, e, _⟩ := hr0.2.2 h
          cases e
      subst h0
      have hne := fun W => Lib.run_eql_slice_nil (P := Try.prog) W 24 56 none 0 c0 0 0 Try.underlying24
      simp only [List.length_nil]
      go_enter Try.func39, Try.ntmps39
      go_wp2
      go_ret
      exact ⟨_, rfl, Kd.R_nil _ _ _ _ _, Below.refl _ _⟩
    | some ad =>
      have hne := fun W => Lib.run_eql_slice_nil (P := Try.prog) W 24 56 (some ad) l0.length c0 0 0 Try.underlying24
      have HR0 := Aside0.mk hr0
      have HL := Aside0.mk hl
      have HB := Aside0.mk (Below.refl w.heap.size w)
      clear hr0 hl
      go_enter Try.func39, Try.ntmps39
      go_wp2_with (first | ((with_reducible refine gate_dst (N := 5) rfl ?_); refine Kd.R_lit k56 _ 56 ?hg (N := 5) ?hd (xs := ([] : List (S56))) (inner := []) (ok := fun _ => True) (okp := fun _ => True) ?hr ?hp (fun _ hk => hk) trivial (Below.refl _ _) (Nat.le_refl _) (by simp) ?_; (case hd => rfl); (case hg => rfl); (case hr => first | (go_simp; done) | (go_simp; rfl)); (case hp => exact (Reps.none _ _)); intro v189 w3 ho4 hb hg_ hnew_; clear hg_ hnew_; have n0_ := Aside0.mk (Kd.R_lower ho4 (below_size (by repeat (first | (with_reducible first | exact HB.out | apply below_alloc | apply pw_below_drewN | apply below_drew1) | exact HB.out)))); have n1_ := Aside0.mk (below_step (by repeat (first | (with_reducible first | exact HB.out | apply below_alloc | apply pw_below_drewN | apply below_drew1) | exact HB.out)) hb); clear HB; have HO190 := n0_; have HB := n1_; clear n0_ n1_; clear hb ho4) | ((with_reducible refine gate_builtin (b := .append) (xs := #[.tmp 5, .tmp 6]) rfl ?_); at_builtin; refine Kd.R_append_rows k56 (w0 := w) w.heap.size rfl (.tmp 5) (.tmp 6) 24 56 (.agg #[(.string ⟨#[]⟩), (.string ⟨#[]⟩)]) 32 rfl Try.underlying24 info56 rfl (by decide) (by omega) v189 ([] : List (S56)) l0 _ _ _ (fun _ => True) (fun _ => False) rfl rfl ?aO ?aR (fun _ _ h => h) (fun _ h => h.elim) ?aF ?aB ?aS ?aL ?_; (case aR => repeat (first | exact (Kd.C_below HR0.out HB.out) | (with_reducible refine Kd.C_alloc ?_ _) | (with_reducible refine Kd.C_drewN ?_ _) | (with_reducible refine Kd.C_drew ?_))); (case aB => exact (by repeat (first | (with_reducible first | exact HB.out | apply below_alloc | apply pw_below_drewN | apply below_drew1) | exact HB.out))); (case aF => exact (fun _ _ => trivial)); (case aO => exact (by (with_reducible repeat (first | apply Kd.R_alloc | apply Kd.R_drewN | apply Kd.R_drew)); exact HO190.out)); (case aS => exact (below_size (by repeat (first | (with_reducible first | exact HB.out | apply below_alloc | apply pw_below_drewN | apply below_drew1) | exact HB.out)))); (case aL => have := HL.out; simp only [List.length_nil]; omega); intro v192 w5 ho hb hg hat; rw [List.nil_append] at ho; have n0_ := Aside0.mk (hb); have n1_ := Aside0.mk (ho); clear HB; clear HO190; have HB := n0_; have HO193 := n1_; clear n0_ n1_; clear ho hb hg hat))
      go_ret
      exact ⟨_, rfl, by (with_reducible repeat (first | apply Kd.R_alloc | apply Kd.R_drewN | apply Kd.R_drew)); exact HO193.out, (by repeat (first | (with_reducible first | exact HB.out | apply below_alloc | apply pw_below_drewN | apply below_drew1) | exact HB.out))⟩
  · rw [if_neg hl] at h
    cases h

end Go.Proofs.Ytpjpnppoejnafaa.G

/- G40 -/
-- Laid by wip/g/gprint.py out of the translation, by the kit's print program. Lean checks it.
namespace Go.Proofs.Ytpjpnppoejnafaa.G
open Go.RowKit Go.Proofs.YtpjpnppoejnafaaW.PrintWords Go.Proofs.YtpjpnppoejnafaaW.PrintLast Go.Proofs.YtpjpnppoejnafaaW.PrintMore
attribute [local go_sem] max2_int min2_int max_two min_two max_three min_three max_four min_four   -- for this text's walks alone
set_option linter.unusedVariables false
set_option linter.unusedSimpArgs false

/-! ### impl_LabelDrop_1: function 40 -/
theorem impl_LabelDrop_1.calls (x : S56) (key : ByteArray) (g : Nat) (W : World) (hb : W.heap[g]? = some (.cells #[.string key] 9 (0, 0))) :
    Calls Try.prog 40 #[.agg #[.string x.f0, .string x.f1], .pointer (some ⟨g, 0, none⟩)] W fun e w' => e = .returned (.bool (x.f0.toList == key.toList)) ∧ Below W.heap.size W w' := by
  have hlt := blk_lt hb
  have hc := blk_cell hb 0
  simp only [List.getElem?_toArray, List.getElem?_cons_zero] at hc
  clear hb
  go_enter Try.func40, Try.ntmps40
  go_wp2
  go_ret
  exact ⟨rfl, by repeat (first | exact Below.refl _ _ | apply below_alloc | apply pw_below_drewN | apply below_drew1)⟩

end Go.Proofs.Ytpjpnppoejnafaa.G

/- G14 -/
-- Laid by wip/g/gprint.py out of the translation, by the kit's print program. Lean checks it.
namespace Go.Proofs.Ytpjpnppoejnafaa.G
open Go.RowKit Go.Proofs.YtpjpnppoejnafaaW.PrintWords Go.Proofs.YtpjpnppoejnafaaW.PrintLast Go.Proofs.YtpjpnppoejnafaaW.PrintMore
attribute [local go_sem] max2_int min2_int max_two min_two max_three min_three max_four min_four   -- for this text's walks alone
set_option linter.unusedVariables false
set_option linter.unusedSimpArgs false

/-! ### impl_LabelDrop: function 14 -/
def impl_LabelDrop.f (l0 : List S56) (a1 : ByteArray) : Option (List S56) := if l0.length < 4398046511104 then delO (fun x => some (x.f0.toList == a1.toList)) l0 else none
theorem impl_LabelDrop.calls (A0 : Option Addr) (c0 : Nat) (l0 : List (S56)) (a1 : ByteArray) (r : List (S56)) (w : World) (hr0 : Kd.C k56 w A0 l0.length l0) (hc0 : l0.length ≤ c0) (h : impl_LabelDrop.f l0 a1 = some r) :
    Calls Try.prog 14 #[.slice A0 l0.length c0, .string a1] w fun e w' => ∃ v0_ : Value, e = .returned (v0_) ∧ Kd.R k56 56 w' w.heap.size (fun _ => True) v0_ r ∧ Below w.heap.size w w' := by
  unfold impl_LabelDrop.f at h
  by_cases hl : l0.length < 4398046511104
  · rw [if_pos hl] at h
    have HB := Lib.hid (below_alloc (Below.refl w.heap.size w) (.cells #[.string a1] 9))
    have HR := Lib.hid (Kd.C_below hr0 HB.out)
    have HH := Lib.hid h
    have HL : Hid (slices_Clone_simpl_Label_impl_Label.f l0 = some l0) := by unfold Hid slices_Clone_simpl_Label_impl_Label.f; rw [if_pos hl]
    have HK : Hid ((w.alloc (.cells #[.string a1] 9)).heap[w.heap.size]? = some (.cells #[.string a1] 9 (0, 0))) := by exact heap_alloc_new _ _
    clear hr0 h hl
    go_enter Try.func14, Try.ntmps14
    go_wp2_with fail
    refine (slices_Clone_simpl_Label_impl_Label.calls A0 c0 l0 l0 _ HR.out hc0 HL.out).mono ?_
    rintro e w1 ⟨v, rfl, hv, hb1⟩
    have HV := Lib.hid hv
    have HB1 := Lib.hid hb1
    clear hv hb1
    go_wp2_with fail
    refine (slices_DeleteFunc_simpl_Label_impl_Label.calls k56 rfl _ (fun _ _ => by kernel_rfl) _ _ v l0 r (fun _ => True) _ _ HB1.out HV.out ?_ HH.out).mono ?_
    · intro x cs b W hx hp hk hkept
      obtain rfl := k56_open hk
      cases hp
      refine impl_LabelDrop_1.calls x a1 w.heap.size W ?_
      have h1 := (HB1.out.block w.heap.size (blk_lt HK.out)).trans HK.out
      refine blk_kept h1 hkept (fun e => ?_)
      have h3 := Kd.R_base HV.out w.heap.size e.symm
      have h4 : w.heap.size + 1 ≤ w.heap.size := by simpa using h3
      omega
    · rintro e w2 ⟨v2, rfl, hv2, hb2, _, _⟩
      have HV2 := Lib.hid hv2
      have HB2 := Lib.hid hb2
      clear hv2 hb2
      go_wp2
      go_ret
      exact ⟨_, rfl, Kd.R_lower HV2.out (by simp), below_then HB.out HB.out.size HB2.out⟩
  · rw [if_neg hl] at h
    cases h

end Go.Proofs.Ytpjpnppoejnafaa.G
