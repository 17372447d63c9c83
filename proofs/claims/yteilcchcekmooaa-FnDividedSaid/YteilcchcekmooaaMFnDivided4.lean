import Derived.Test.YteilcchcekmooaaMFnDivided3
import Derived.Test.YteilcchcekmooaaMFnDivided1
import Derived.Test.YteilcchcekmooaaMFnDivided2
import Derived.Deep.QuietTactic
/- PDivB -/
/-
  Shares: what the reference wants for each, by the greatest rests.
-/
namespace Go.Proofs.Yteilcchcekmooaa.G
open Go.RowKit Go.Sort Go.Proofs.YteilcchcekmooaaW.PrintWords Go.Proofs.YteilcchcekmooaaW.PrintLast Go.Proofs.YteilcchcekmooaaW.PrintMore
set_option linter.unusedVariables false
set_option linter.unusedSimpArgs false
/-! ### the open ones -/
def opN (p : Nat → Bool) (N : Nat) : List Nat := (List.range N).filter p
def opI (p : Nat → Bool) (N : Nat) : List Int := (opN p N).map (fun j : Nat => (j : Int))
def cnt (p : Nat → Bool) (N : Nat) : Nat := (opN p N).length
section
variable {p : Nat → Bool}
theorem opI_succ (N : Nat) : opI p (N + 1) = opI p N ++ (if p N = true then [(N : Int)] else []) := by
  unfold opI opN
  rw [List.range_succ, List.filter_append, List.map_append]
  congr 1
  by_cases h : p N = true
  · rw [if_pos h, List.filter_cons_of_pos h]; rfl
  · rw [if_neg h, List.filter_cons_of_neg h]; rfl
theorem opI_len (N : Nat) : (opI p N).length = cnt p N := by simp [opI, cnt]
theorem cnt_succ (N : Nat) : cnt p (N + 1) = cnt p N + (if p N = true then 1 else 0) := by
  rw [← opI_len, opI_succ, List.length_append, opI_len]
  split <;> rfl
theorem cnt_zero : cnt p 0 = 0 := rfl
theorem cnt_mono {i j : Nat} (h : i ≤ j) : cnt p i ≤ cnt p j := by
  induction j with
  | zero => have : i = 0 := by omega
            subst this; exact Nat.le_refl _
  | succ j ih =>
    rcases Nat.lt_or_ge i (j + 1) with h1 | h1
    · rw [cnt_succ]; have := ih (by omega); split <;> omega
    · have : i = j + 1 := by omega
      subst this; exact Nat.le_refl _
theorem cnt_lt {i N : Nat} (h : i < N) (hp : p i = true) : cnt p i < cnt p N := by
  have := cnt_mono (p := p) (show i + 1 ≤ N by omega)
  rw [cnt_succ, if_pos hp] at this
  omega
theorem cnt_inj {i j : Nat} (hi : p i = true) (hj : p j = true) (h : cnt p i = cnt p j) : i = j := by
  rcases Nat.lt_trichotomy i j with c | c | c
  · have := cnt_lt c hi; omega
  · exact c
  · have := cnt_lt c hj; omega
theorem cnt_le (N : Nat) : cnt p N ≤ N := by
  induction N with
  | zero => exact Nat.le_refl _
  | succ N ih => rw [cnt_succ]; split <;> omega
theorem rd_app {l r : List Int} {k : Nat} (h : k < l.length) : rd (l ++ r) (k : Int) = rd l (k : Int) := by
  unfold rd
  rw [Int.toNat_natCast, List.getD_eq_getElem?_getD, List.getD_eq_getElem?_getD, List.getElem?_append_left h]
theorem rd_last (l : List Int) (x : Int) : rd (l ++ [x]) (l.length : Int) = x := by
  unfold rd
  rw [Int.toNat_natCast, List.getD_eq_getElem?_getD, List.getElem?_append_right (Nat.le_refl _)]
  simp
theorem opI_rd : ∀ {N i : Nat}, i < N → p i = true → rd (opI p N) ((cnt p i : Nat) : Int) = i
  | N + 1, i, hi, hp => by
    rw [opI_succ]
    by_cases e : i = N
    · subst e
      rw [if_pos hp, ← opI_len]
      exact rd_last _ _
    · rw [rd_app (by rw [opI_len]; exact cnt_lt (by omega) hp)]
      exact opI_rd (by omega) hp
theorem opI_at : ∀ {N k : Nat}, k < cnt p N → ∃ i, i < N ∧ p i = true ∧ cnt p i = k
  | 0, k, h => by rw [cnt_zero] at h; omega
  | N + 1, k, h => by
    by_cases c : k < cnt p N
    · obtain ⟨i, hi, hp, e⟩ := opI_at c
      exact ⟨i, by omega, hp, e⟩
    · rw [cnt_succ] at h
      by_cases hp : p N = true
      · rw [if_pos hp] at h
        exact ⟨N, by omega, hp, by omega⟩
      · rw [if_neg hp] at h; omega
end
/-! ### an order of the rests is there -/
theorem exists_ranked (m : Int) (ws op : List Int) : ∃ q, Ranked m ws op q := by
  have hp := List.mergeSort_perm (List.range op.length) (fun a b => !ltQ m ws op b a)
  have ho := List.pairwise_mergeSort (le := fun a b => !ltQ m ws op b a) (fun a b c h1 h2 => by
    simp only [Bool.not_eq_true', ltQ_false] at *; omega) (fun a b => by
    by_cases e : a = b
    · subst e
      have : ltQ m ws op a a = false := by rw [ltQ_false]; omega
      simp [this]
    · cases h : ltQ m ws op b a with
      | false => rfl
      | true =>
        have : ltQ m ws op a b = false := by rw [ltQ_iff] at h; rw [ltQ_false]; omega
        simp [this]) (List.range op.length)
  obtain ⟨l, hl⟩ : ∃ l, (List.range op.length).mergeSort (fun a b => !ltQ m ws op b a) = l := ⟨_, rfl⟩
  rw [hl] at hp ho
  have hlen : l.length = op.length := by rw [hp.length_eq, List.length_range]
  have hnd : l.Nodup := hp.nodup_iff.2 List.nodup_range
  have hg : ∀ t, (h : t < op.length) → l.getD t 0 = l[t]'(by omega) := fun t h => by rw [List.getD_eq_getElem?_getD, List.getElem?_eq_getElem (by omega)]; rfl
  have hne : ∀ s t, s < t → t < op.length → l.getD s 0 ≠ l.getD t 0 := fun s t hst ht => by
    rw [hg s (by omega), hg t ht]
    exact List.pairwise_iff_getElem.1 hnd s t (by omega) (by omega) hst
  refine ⟨fun t => l.getD t 0, fun t ht => ?_, fun s t hs ht e => ?_, fun i hi => ?_, fun s t hst ht => ?_⟩
  · have : l.getD t 0 ∈ List.range op.length := hp.mem_iff.1 (by rw [hg t ht]; exact List.getElem_mem _)
    exact List.mem_range.1 this
  · rcases Nat.lt_trichotomy s t with h | h | h
    · exact absurd e (hne s t h ht)
    · exact h
    · exact absurd e.symm (hne t s h hs)
  · have hm : i ∈ l := hp.mem_iff.2 (List.mem_range.2 hi)
    obtain ⟨t, ht, e⟩ := List.getElem_of_mem hm
    exact ⟨t, by omega, by rw [hg t (by omega)]; exact e⟩
  · have h := List.pairwise_iff_getElem.1 ho s t (by omega) (by omega) hst
    rw [← hg s (by omega), ← hg t ht] at h
    simp only [Bool.not_eq_true'] at h
    exact ltQ_total (fun e => hne s t hst ht e.symm) h
/-! ### the wants -/
def restT (m : Int) (ws op : List Int) (t k : Nat) : Int := if rankQ m ws op k < t then -1 else restQ m ws op k
def wantF (m : Int) (ws : List Int) (p : Nat → Bool) (t j : Nat) : Int := if p j = true then qQ m ws (opI p ws.length) (cnt p j) + (if rankQ m ws (opI p ws.length) (cnt p j) < t then 1 else 0) else 0
def restF (m : Int) (ws : List Int) (p : Nat → Bool) (t j : Nat) : Int := if p j = true then restT m ws (opI p ws.length) t (cnt p j) else 0
section
variable {m : Int} {ws : List Int} {p : Nat → Bool}
theorem w_open {j : Nat} (hj : j < ws.length) (hp : p j = true) : wQ ws (opI p ws.length) (cnt p j) = rd ws (j : Int) := by
  unfold wQ; rw [opI_rd hj hp]
/-- What the best one so far is. -/
def Best (m : Int) (ws : List Int) (p : Nat → Bool) (t i : Nat) (x : Int) : Prop :=
  (cnt p i = 0 ∧ x = -1) ∨ ∃ b : Nat, b < i ∧ p b = true ∧ x = (b : Int) ∧ ∀ j, j < cnt p i → restT m ws (opI p ws.length) t j < restT m ws (opI p ws.length) t (cnt p b) ∨ (restT m ws (opI p ws.length) t j = restT m ws (opI p ws.length) t (cnt p b) ∧ cnt p b ≤ j)
theorem best_rank (HP : QPre m ws (opI p ws.length)) {q : Nat → Nat} (HR : Ranked m ws (opI p ws.length) q) {t b : Nat} (ht : t < (opI p ws.length).length) (hb : b < ws.length) (hp : p b = true)
    (h : ∀ j, j < cnt p ws.length → restT m ws (opI p ws.length) t j < restT m ws (opI p ws.length) t (cnt p b) ∨ (restT m ws (opI p ws.length) t j = restT m ws (opI p ws.length) t (cnt p b) ∧ cnt p b ≤ j)) : rankQ m ws (opI p ws.length) (cnt p b) = t := by
  have hl := opI_len (p := p) ws.length
  have hcb : cnt p b < (opI p ws.length).length := by rw [hl]; exact cnt_lt hb hp
  obtain ⟨s, hs, es⟩ := HR.all (cnt p b) hcb
  have hrs := HR.rank hs
  rw [es] at hrs
  have hj := h (q t) (by rw [← hl]; exact HR.lt t ht)
  have hrt := HR.rank ht
  have r1 := restQ_bound HP (HR.lt t ht)
  have e1 : restT m ws (opI p ws.length) t (q t) = restQ m ws (opI p ws.length) (q t) := by unfold restT; rw [hrt, if_neg (by omega)]
  rw [e1] at hj
  rw [hrs]
  rcases Nat.lt_trichotomy s t with c | c | c
  · have e2 : restT m ws (opI p ws.length) t (cnt p b) = -1 := by unfold restT; rw [hrs, if_pos c]
    rw [e2] at hj
    omega
  · exact c
  · have e2 : restT m ws (opI p ws.length) t (cnt p b) = restQ m ws (opI p ws.length) (cnt p b) := by unfold restT; rw [hrs, if_neg (by omega)]
    rw [e2] at hj
    have ha := HR.asc t s c hs
    rw [es, ltQ_iff] at ha
    omega
theorem l2_ev (HP : QPre m ws (opI p ws.length)) {q : Nat → Nat} (HR : Ranked m ws (opI p ws.length) q) {t : Nat} (ht : t < (opI p ws.length).length) (hN : ws.length ≤ 64) {L : Int} (hL : 0 < L ∧ L ≤ 64) {W : List Int}
    (hnext : Ev (fun k => spec_l6Wants.l1 k ws (mapB ws.length p) (mapR ws.length (wantF m ws p (t + 1))) (mapR ws.length (restF m ws p (t + 1))) (L - 1)) W) :
    ∀ d i, i + d = ws.length → ∀ x, Best m ws p t i x → Ev (fun k => spec_l6Wants.l2 k ws (mapB ws.length p) (mapR ws.length (wantF m ws p t)) (mapR ws.length (restF m ws p t)) L x (i : Int)) W := by
  have hl := opI_len (p := p) ws.length
  intro d
  induction d with
  | zero =>
    intro i hi x hx
    obtain rfl : i = ws.length := by omega
    rcases hx with ⟨h0, _⟩ | ⟨b, hb, hp, rfl, hbest⟩
    · have := HP.n0; omega
    have hr := best_rank HP HR ht hb hp hbest
    have hq := qQ_bound HP (show cnt p b < (opI p ws.length).length by rw [hl]; exact cnt_lt hb hp)
    have other : ∀ j, j ≠ b → p j = true → j < ws.length → rankQ m ws (opI p ws.length) (cnt p j) ≠ t := fun j hne hpj hj e => by
      obtain ⟨s1, hs1, e1⟩ := HR.all (cnt p j) (by rw [hl]; exact cnt_lt hj hpj)
      obtain ⟨s2, hs2, e2⟩ := HR.all (cnt p b) (by rw [hl]; exact cnt_lt hb hp)
      have r1 := HR.rank hs1
      have r2 := HR.rank hs2
      rw [e1] at r1
      rw [e2] at r2
      have : s1 = s2 := by omega
      subst this
      exact hne (cnt_inj hpj hp (e1.symm.trans e2))
    refine Ev.step (fun k => by rw [spec_l6Wants.l2]) (ev_if_neg (by omega) (ev_if_pos (by omega) (ev_if_pos (by rw [mapR_len]; omega) (ev_if_pos (by rw [mapR_len]; omega) ?_))))
    have e1 : (mapR ws.length (wantF m ws p t)).set b (wrap64 (rd (mapR ws.length (wantF m ws p t)) (b : Int) + 1)) = mapR ws.length (wantF m ws p (t + 1)) := by
      rw [mapR_rd _ hb, mapR_set]
      refine mapR_congr (fun j hj => ?_)
      unfold wantF
      by_cases e : j = b
      · subst e
        rw [if_pos rfl, if_pos hp, if_pos hp, hr, if_neg (by omega), if_pos (by omega), w64 (by omega) (by omega)]
        omega
      · rw [if_neg e]
        by_cases hpj : p j = true
        · rw [if_pos hpj, if_pos hpj]
          have := other j e hpj hj
          congr 1
          by_cases c : rankQ m ws (opI p ws.length) (cnt p j) < t
          · rw [if_pos c, if_pos (by omega)]
          · rw [if_neg c, if_neg (by omega)]
        · rw [if_neg hpj, if_neg hpj]
    have e2 : (mapR ws.length (restF m ws p t)).set b (-1) = mapR ws.length (restF m ws p (t + 1)) := by
      rw [mapR_set]
      refine mapR_congr (fun j hj => ?_)
      unfold restF restT
      by_cases e : j = b
      · subst e
        rw [if_pos rfl, if_pos hp, hr, if_pos (by omega)]
      · rw [if_neg e]
        by_cases hpj : p j = true
        · rw [if_pos hpj, if_pos hpj]
          have := other j e hpj hj
          by_cases c : rankQ m ws (opI p ws.length) (cnt p j) < t
          · rw [if_pos c, if_pos (by omega)]
          · rw [if_neg c, if_neg (by omega)]
        · rw [if_neg hpj, if_neg hpj]
    simp only [Int.toNat_natCast, e1, e2, w64 (x := L - 1) (by omega) (by omega)]
    exact hnext
  | succ d ih =>
    intro i hi x hx
    have hiN : i < ws.length := by omega
    refine Ev.step (fun k => by rw [spec_l6Wants.l2]) (ev_if_pos (by omega) (ev_if_pos (by omega) (ev_if_pos (by rw [mapB_len]; omega) ?_)))
    simp only [wsucc hiN (by omega)]
    by_cases hp : p i = true
    · refine ev_if_pos (by rw [mapB_rd p hiN]; exact hp) ?_
      rcases hx with ⟨h0, rfl⟩ | ⟨b, hb, hpb, rfl, hbest⟩
      · refine ev_if_pos (by omega) (ih (i + 1) (by omega) _ (.inr ⟨i, by omega, hp, rfl, fun j hj => ?_⟩))
        rw [cnt_succ, if_pos hp] at hj
        have : j = cnt p i := by omega
        subst this
        exact .inr ⟨rfl, Nat.le_refl _⟩
      · refine ev_if_neg (by omega) (ev_if_pos (by rw [mapR_len]; omega) (ev_if_pos (by omega) (ev_if_pos (by rw [mapR_len]; omega) ?_)))
        have r1 : rd (mapR ws.length (restF m ws p t)) (i : Int) = restT m ws (opI p ws.length) t (cnt p i) := by rw [mapR_rd _ hiN]; exact if_pos hp
        have r2 : rd (mapR ws.length (restF m ws p t)) (b : Int) = restT m ws (opI p ws.length) t (cnt p b) := by rw [mapR_rd _ (by omega)]; exact if_pos hpb
        by_cases c : rd (mapR ws.length (restF m ws p t)) (i : Int) > rd (mapR ws.length (restF m ws p t)) (b : Int)
        · refine ev_if_pos c (ih (i + 1) (by omega) _ (.inr ⟨i, by omega, hp, rfl, fun j hj => ?_⟩))
          rw [cnt_succ, if_pos hp] at hj
          rw [r1, r2] at c
          by_cases e : j = cnt p i
          · subst e; exact .inr ⟨rfl, Nat.le_refl _⟩
          · have := hbest j (by omega)
            exact .inl (by omega)
        · refine ev_if_neg c (ih (i + 1) (by omega) _ (.inr ⟨b, by omega, hpb, rfl, fun j hj => ?_⟩))
          rw [cnt_succ, if_pos hp] at hj
          rw [r1, r2] at c
          by_cases e : j = cnt p i
          · subst e
            have := cnt_lt hb hpb
            omega
          · exact hbest j (by omega)
    · refine ev_if_neg (by rw [mapB_rd p hiN]; exact hp) (ih (i + 1) (by omega) _ ?_)
      have e : cnt p (i + 1) = cnt p i := by rw [cnt_succ, if_neg hp, Nat.add_zero]
      rcases hx with ⟨h0, rfl⟩ | ⟨b, hb, hpb, rfl, hbest⟩
      · exact .inl ⟨by omega, rfl⟩
      · exact .inr ⟨b, by omega, hpb, rfl, fun j hj => hbest j (by omega)⟩
theorem wants_ev (HP : QPre m ws (opI p ws.length)) (hN : ws.length ≤ 64) :
    Ev (fun k => spec_l6Wants.f k m ws (mapB ws.length p) (sumQ ws (opI p ws.length) (opI p ws.length).length)) (mapR ws.length (wantF m ws p (leftQ m ws (opI p ws.length) (opI p ws.length).length).toNat)) := by
  obtain ⟨q, HR⟩ := exists_ranked m ws (opI p ws.length)
  have hl := opI_len (p := p) ws.length
  have hlb := left_bound HP
  have hcl := cnt_le (p := p) ws.length
  have hS := sumQ_pos HP
  obtain ⟨L, hL⟩ : ∃ L : Nat, leftQ m ws (opI p ws.length) (opI p ws.length).length = (L : Int) := ⟨(leftQ m ws (opI p ws.length) (opI p ws.length).length).toNat, by omega⟩
  have l1 : ∀ d t, t + d = L → Ev (fun k => spec_l6Wants.l1 k ws (mapB ws.length p) (mapR ws.length (wantF m ws p t)) (mapR ws.length (restF m ws p t)) ((L : Int) - t)) (mapR ws.length (wantF m ws p L)) := by
    intro d
    induction d with
    | zero =>
      intro t ht
      obtain rfl : t = L := by omega
      exact Ev.step (fun k => by rw [spec_l6Wants.l1]) (ev_if_neg (by omega) (ev_some rfl))
    | succ d ih =>
      intro t ht
      refine Ev.step (fun k => by rw [spec_l6Wants.l1]) (ev_if_pos (by omega) ?_)
      have hn := ih (t + 1) (by omega)
      rw [show (L : Int) - ((t + 1 : Nat) : Int) = (L : Int) - t - 1 by omega] at hn
      exact l2_ev HP HR (by omega) hN ⟨by omega, by omega⟩ hn ws.length 0 (by omega) (-1) (.inl ⟨cnt_zero, rfl⟩)
  have l0 : ∀ d i, i + d = ws.length → Ev (fun k => spec_l6Wants.l0 k m ws (mapB ws.length p) (sumQ ws (opI p ws.length) (opI p ws.length).length) (mapR ws.length (fun j => if j < i then wantF m ws p 0 j else 0)) (mapR ws.length (fun j => if j < i then restF m ws p 0 j else 0)) (leftQ m ws (opI p ws.length) (cnt p i)) (i : Int)) (mapR ws.length (wantF m ws p L)) := by
    intro d
    induction d with
    | zero =>
      intro i hi
      obtain rfl : i = ws.length := by omega
      refine Ev.step (fun k => by rw [spec_l6Wants.l0]) (ev_if_neg (by omega) ?_)
      have h := l1 L 0 (by omega)
      rw [mapR_congr (g := wantF m ws p 0) (fun j hj => if_pos hj), mapR_congr (g := restF m ws p 0) (fun j hj => if_pos hj), ← hl, hL]
      simpa using h
    | succ d ih =>
      intro i hi
      have hiN : i < ws.length := by omega
      have ih := ih (i + 1) (by omega)
      refine Ev.step (fun k => by rw [spec_l6Wants.l0]) (ev_if_pos (by omega) (ev_if_pos (by omega) (ev_if_pos (by rw [mapB_len]; omega) ?_)))
      simp only [wsucc hiN (by omega)]
      by_cases hp : p i = true
      · have hc : cnt p i < (opI p ws.length).length := by rw [hl]; exact cnt_lt hiN hp
        have hw := w_open (ws := ws) hiN hp
        have hm := mw_bound HP hc
        have hq := qQ_bound HP hc
        have hle := left_eq HP (cnt p i) (by omega)
        have h0 := HP.m0
        have h1 := HP.m1
        rw [hw] at hm
        have e0 : wrap64 (m * rd ws (i : Int)) = m * rd ws (i : Int) := w64 (by omega) (by omega)
        have e1 : wrap64 (Int.tdiv (m * rd ws (i : Int)) (sumQ ws (opI p ws.length) (opI p ws.length).length)) = qQ m ws (opI p ws.length) (cnt p i) := by
          have : Int.tdiv (m * rd ws (i : Int)) (sumQ ws (opI p ws.length) (opI p ws.length).length) = qQ m ws (opI p ws.length) (cnt p i) := by unfold qQ; rw [hw]
          rw [this, w64 (by omega) (by omega)]
        have e2 : Int.tmod (m * rd ws (i : Int)) (sumQ ws (opI p ws.length) (opI p ws.length).length) = restQ m ws (opI p ws.length) (cnt p i) := by unfold restQ; rw [hw]
        have s1 : (mapR ws.length (fun j => if j < i then wantF m ws p 0 j else 0)).set i (qQ m ws (opI p ws.length) (cnt p i)) = mapR ws.length (fun j => if j < i + 1 then wantF m ws p 0 j else 0) := by
          rw [mapR_set]
          refine mapR_congr (fun j hj => ?_)
          by_cases e : j = i
          · subst e
            rw [if_pos rfl, if_pos (by omega)]
            unfold wantF
            rw [if_pos hp, if_neg (by omega)]; omega
          · rw [if_neg e]
            by_cases c : j < i
            · rw [if_pos c, if_pos (by omega)]
            · rw [if_neg c, if_neg (by omega)]
        have s2 : (mapR ws.length (fun j => if j < i then restF m ws p 0 j else 0)).set i (restQ m ws (opI p ws.length) (cnt p i)) = mapR ws.length (fun j => if j < i + 1 then restF m ws p 0 j else 0) := by
          rw [mapR_set]
          refine mapR_congr (fun j hj => ?_)
          by_cases e : j = i
          · subst e
            rw [if_pos rfl, if_pos (by omega)]
            unfold restF restT
            rw [if_pos hp, if_neg (by omega)]
          · rw [if_neg e]
            by_cases c : j < i
            · rw [if_pos c, if_pos (by omega)]
            · rw [if_neg c, if_neg (by omega)]
        have r1 : rd (mapR ws.length (fun j => if j < i + 1 then wantF m ws p 0 j else 0)) (i : Int) = qQ m ws (opI p ws.length) (cnt p i) := by
          rw [mapR_rd _ hiN, if_pos (by omega)]
          unfold wantF
          rw [if_pos hp, if_neg (by omega)]; omega
        rw [cnt_succ, if_pos hp] at ih
        have e3 : wrap64 (leftQ m ws (opI p ws.length) (cnt p i) - qQ m ws (opI p ws.length) (cnt p i)) = leftQ m ws (opI p ws.length) (cnt p i + 1) := by rw [leftQ, w64 (by omega) (by omega)]
        refine ev_if_pos (by rw [mapB_rd p hiN]; exact hp) (ev_if_neg (by omega) (ev_if_pos (by rw [mapR_len]; omega) ?_))
        simp only [Option.bind_some]
        refine ev_if_pos (by rw [mapR_len]; omega) ?_
        simp only [Int.toNat_natCast, e0, e1, e2, s1, s2, r1, e3]
        exact ih
      · rw [cnt_succ, if_neg hp, Nat.add_zero] at ih
        refine ev_if_neg (by rw [mapB_rd p hiN]; exact hp) ?_
        rw [mapR_congr (g := fun j => if j < i + 1 then wantF m ws p 0 j else 0) (fun j hj => ?_), mapR_congr (f := fun j => if j < i then restF m ws p 0 j else 0) (g := fun j => if j < i + 1 then restF m ws p 0 j else 0) (fun j hj => ?_)]
        · exact ih
        · by_cases c : j < i
          · rw [if_pos c, if_pos (by omega)]
          · rw [if_neg c]
            by_cases e : j = i
            · subst e; rw [if_pos (by omega)]; exact (if_neg hp).symm
            · rw [if_neg (by omega)]
        · by_cases c : j < i
          · rw [if_pos c, if_pos (by omega)]
          · rw [if_neg c]
            by_cases e : j = i
            · subst e; rw [if_pos (by omega)]; exact (if_neg hp).symm
            · rw [if_neg (by omega)]
  unfold spec_l6Wants.f
  refine ev_if_pos (by omega) (ev_if_pos (by omega) ?_)
  have h := l0 ws.length 0 (by omega)
  rw [Int.toNat_natCast, mapR_repl]
  rw [hL, Int.toNat_natCast]
  rw [mapR_congr (g := fun _ => 0) (fun j hj => if_neg (by omega)), mapR_congr (f := fun j => if j < 0 then restF m ws p 0 j else 0) (g := fun _ => 0) (fun j hj => if_neg (by omega))] at h
  exact h
end
end Go.Proofs.Yteilcchcekmooaa.G

/- G6 -/
-- Laid by wip/g/gprint.py out of the translation, by the kit's print program. Lean checks it.
namespace Go.Proofs.Yteilcchcekmooaa.G
open Go.RowKit Go.Proofs.YteilcchcekmooaaW.PrintWords Go.Proofs.YteilcchcekmooaaW.PrintLast Go.Proofs.YteilcchcekmooaaW.PrintMore
attribute [local go_sem] max2_int min2_int max_two min_two max_three min_three max_four min_four   -- for this text's walks alone
set_option linter.unusedVariables false
set_option linter.unusedSimpArgs false

/-! ### spec_Divide: function 6 -/
mutual
def spec_Divide.l0 : Nat → Int → List Int → List Int → List Int → Option (List Int)
  | 0, _, _, _, _ => none
  | k + 1, x0, x1, x2, x7 => if x0 > 0 then (if 0 ≤ (x1.length : Int) then (if ((x1.length : Int) : Int).toNat ≤ 281474976710656 then (spec_Divide.l1 k x0 x1 x2 x7 (List.replicate ((x1.length : Int) : Int).toNat false) 0 0) else (none)) else (none)) else (some x7)
def spec_Divide.l1 : Nat → Int → List Int → List Int → List Int → List Bool → Int → Int → Option (List Int)
  | 0, _, _, _, _, _, _, _ => none
  | k + 1, x0, x1, x2, x7, x8, x9, x10 => if x10 < (x1.length : Int) then (if 0 ≤ x10 then (if (rd x1 x10) > 0 then (if x10 < (x7.length : Int) then (if x10 < (x2.length : Int) then (if x10 < (x8.length : Int) then ((some (x8.set (x10 : Int).toNat (decide ((rd x7 x10) < (rd x2 x10))) : List Bool)).bind fun y137 => (if decide ((rd x7 x10) < (rd x2 x10)) = true then (spec_Divide.l1 k x0 x1 x2 x7 y137 (wrap64 (x9 + (rd x1 x10))) (wrap64 (x10 + 1))) else (spec_Divide.l1 k x0 x1 x2 x7 y137 x9 (wrap64 (x10 + 1))))) else (none)) else (none)) else (none)) else (if x10 < (x8.length : Int) then ((some (x8.set (x10 : Int).toNat false : List Bool)).bind fun y140 => (if false = true then (spec_Divide.l1 k x0 x1 x2 x7 y140 (wrap64 (x9 + (rd x1 x10))) (wrap64 (x10 + 1))) else (spec_Divide.l1 k x0 x1 x2 x7 y140 x9 (wrap64 (x10 + 1))))) else (none))) else (none)) else (if x9 = 0 then (some x7) else ((spec_l6Wants.f k x0 x1 x8 x9).bind fun t143 => (spec_Divide.l2 k x0 x1 x2 x7 t143 0)))
def spec_Divide.l2 : Nat → Int → List Int → List Int → List Int → List Int → Int → Option (List Int)
  | 0, _, _, _, _, _, _ => none
  | k + 1, x0, x1, x2, x7, x11, x12 => if x12 < (x1.length : Int) then (if 0 ≤ x12 then (if x12 < (x11.length : Int) then (if x12 < (x2.length : Int) then (if x12 < (x7.length : Int) then (if (rd x11 x12) > (wrap64 ((rd x2 x12) - (rd x7 x12))) then ((some (x11.set (x12 : Int).toNat (wrap64 ((rd x2 x12) - (rd x7 x12))) : List Int)).bind fun y151 => (spec_Divide.l2 k (wrap64 (x0 - (rd y151 x12))) x1 x2 (x7.set (x12 : Int).toNat (wrap64 ((rd x7 x12) + (rd y151 x12)))) y151 (wrap64 (x12 + 1)))) else (spec_Divide.l2 k (wrap64 (x0 - (rd x11 x12))) x1 x2 (x7.set (x12 : Int).toNat (wrap64 ((rd x7 x12) + (rd x11 x12)))) x11 (wrap64 (x12 + 1)))) else (none)) else (none)) else (none)) else (none)) else (spec_Divide.l0 k x0 x1 x2 x7)
end
def spec_Divide.f (k : Nat) (a0 : Int) (l1 : List Int) (l2 : List Int) : Option (List Int) := (spec_l6Right.f k a0 l1 l2).bind fun t127 => (if t127 = true then (if 0 ≤ (l1.length : Int) then (if ((l1.length : Int) : Int).toNat ≤ 35184372088832 then (spec_Divide.l0 k a0 l1 l2 (List.replicate ((l1.length : Int) : Int).toNat 0)) else (none)) else (none)) else (some (([] : List Int))))
end Go.Proofs.Yteilcchcekmooaa.G

/- PQuoA -/
/-
  quotas: its comparison, walked; and the boxes of its variables.
-/
namespace Go.Proofs.Yteilcchcekmooaa.G
open Go.Shelf Go.RowKit Go.Lib Go.Sort
open Go.Proofs.YteilcchcekmooaaW.PrintWords Go.Proofs.YteilcchcekmooaaW.PrintLast Go.Proofs.YteilcchcekmooaaW.PrintMore
set_option linter.unusedVariables false
set_option linter.unusedSimpArgs false

set_option maxHeartbeats 4000000 in
set_option maxRecDepth 1000000 in
theorem quotas1_calls (m s a b xa xb ya yb : Int) (g0 g1 g2 g3 n1 n2 c1 c2 : Nat) (ad1 ad2 : Addr) (W : World)
    (e0 : W.cell? ⟨g0, 0, none⟩ = some (.int .i64 m)) (e1 : W.cell? ⟨g1, 0, none⟩ = some (.slice (some ad1) n1 c1)) (e2 : W.cell? ⟨g2, 0, none⟩ = some (.slice (some ad2) n2 c2)) (e3 : W.cell? ⟨g3, 0, none⟩ = some (.int .i64 s))
    (ha0 : 0 ≤ a) (ha1 : a < n2) (hb0 : 0 ≤ b) (hb1 : b < n2) (hxa0 : 0 ≤ xa) (hxa1 : xa < n1) (hxb0 : 0 ≤ xb) (hxb1 : xb < n1)
    (fa : W.cell? (ad2.add a.toNat) = some (.int .i64 xa)) (fb : W.cell? (ad2.add b.toNat) = some (.int .i64 xb)) (ga : W.cell? (ad1.add xa.toNat) = some (.int .i64 ya)) (gb : W.cell? (ad1.add xb.toNat) = some (.int .i64 yb))
    (hs : 0 < s) (hs1 : s ≤ 64000) (hya : 0 ≤ m * ya ∧ m * ya ≤ 10000000) (hyb : 0 ≤ m * yb ∧ m * yb ≤ 10000000) :
    Calls Try.prog 35 #[.int .i64 a, .int .i64 b, .pointer (some ⟨g0, 0, none⟩), .pointer (some ⟨g1, 0, none⟩), .pointer (some ⟨g2, 0, none⟩), .pointer (some ⟨g3, 0, none⟩)] W fun e w' => e = .returned (.int .i64 (Int.tmod (m * yb) s - Int.tmod (m * ya) s)) ∧ ∃ q, w' = W.drewN q := by
  have r1 : 0 ≤ Int.tmod (m * ya) s ∧ Int.tmod (m * ya) s < s := ⟨Int.tmod_nonneg _ hya.1, Int.tmod_lt_of_pos _ hs⟩
  have r2 : 0 ≤ Int.tmod (m * yb) s ∧ Int.tmod (m * yb) s < s := ⟨Int.tmod_nonneg _ hyb.1, Int.tmod_lt_of_pos _ hs⟩
  have hval : wrap64 ((wrap64 (m * yb)).tmod s - (wrap64 (m * ya)).tmod s) = Int.tmod (m * yb) s - Int.tmod (m * ya) s := by
    rw [w64 (x := m * yb) (by omega) (by omega), w64 (x := m * ya) (by omega) (by omega), w64 (by omega) (by omega)]
  have HV := Lib.hid hval
  have hs0 : ¬ s = 0 := by omega
  clear hval r1 r2 hya hyb hs hs1
  go_enter Try.func35, Try.ntmps35
  go_wp2_with fail
  go_quiet (fail)
  go_wp2
  go_ret
  exact ⟨by first | rfl | (rw [← HV.out]; rfl) | (rw [← HV.out]; simp), nq, rfl⟩
end Go.Proofs.Yteilcchcekmooaa.G

/- PQuoB -/
/-
  quotas, walked. (Printed by wip/g/gquo.py.)
-/
namespace Go.Proofs.Yteilcchcekmooaa.G
open Go.Shelf Go.RowKit Go.Lib Go.Sort
open Go.Proofs.YteilcchcekmooaaW.PrintWords Go.Proofs.YteilcchcekmooaaW.PrintLast Go.Proofs.YteilcchcekmooaaW.PrintMore
set_option linter.unusedVariables false
set_option linter.unusedSimpArgs false
/-- The four boxes. -/
structure QB (w W : World) (m : Int) (s1 s2 : Value) (s : Int) : Prop where
  below : Below w.heap.size w W
  lt : w.heap.size + 3 < W.heap.size
  e0 : W.cell? ⟨w.heap.size, 0, none⟩ = some (.int .i64 m)
  e1 : W.cell? ⟨w.heap.size + 1, 0, none⟩ = some s1
  e2 : W.cell? ⟨w.heap.size + 2, 0, none⟩ = some s2
  e3 : W.cell? ⟨w.heap.size + 3, 0, none⟩ = some (.int .i64 s)
  f3 : W.frozen? ⟨w.heap.size + 3, 0, none⟩ = false
theorem QB.start (w : World) (m : Int) (s1 s2 : Value) : QB w ((((w.alloc (.cells #[.int .i64 m] 3)).alloc (.cells #[s1] 22)).alloc (.cells #[s2] 22)).alloc (.cells #[.int .i64 0] 3)) m s1 s2 0 where
  below := below_alloc (below_alloc (below_alloc (below_alloc (Below.refl _ _) _) _) _) _
  lt := by simp
  e0 := by rw [World.cell?_alloc_lt _ _ _ (by simp; omega), World.cell?_alloc_lt _ _ _ (by simp; omega), World.cell?_alloc_lt _ _ _ (by simp), World.cell?_alloc_at _ _ _ _ rfl]; rfl
  e1 := by rw [World.cell?_alloc_lt _ _ _ (by simp), World.cell?_alloc_lt _ _ _ (by simp), World.cell?_alloc_at _ _ _ _ (by simp)]; rfl
  e2 := by rw [World.cell?_alloc_lt _ _ _ (by simp), World.cell?_alloc_at _ _ _ _ (by simp)]; rfl
  e3 := by rw [World.cell?_alloc_at _ _ _ _ (by simp)]; rfl
  f3 := by
    have h := fun (W : World) => (by simp : (W.alloc (.cells #[.int .i64 0] 3)).frozen? ⟨W.heap.size, 0, none⟩ = false)
    have h2 := h (((w.alloc (.cells #[.int .i64 m] 3)).alloc (.cells #[s1] 22)).alloc (.cells #[s2] 22))
    simpa using h2
theorem QB.set {w W : World} {m : Int} {s1 s2 : Value} {s : Int} (h : QB w W m s1 s2 s) (s' : Int) : QB w (W.setCell ⟨w.heap.size + 3, 0, none⟩ (.int .i64 s')).drew m s1 s2 s' where
  below := below_drew1 (below_set h.below (by omega))
  lt := by have := h.lt; simpa using this
  e0 := (cell_far (by show w.heap.size ≠ w.heap.size + 3; omega) _).trans h.e0
  e1 := (cell_far (by show w.heap.size + 1 ≠ w.heap.size + 3; omega) _).trans h.e1
  e2 := (cell_far (by show w.heap.size + 2 ≠ w.heap.size + 3; omega) _).trans h.e2
  e3 := World.cell?_setCell_same _ _ _ h.e3
  f3 := (World.frozen?_setCell _ _ _ _).trans h.f3
theorem QB.kept {w W W' : World} {m : Int} {s1 s2 : Value} {s : Int} (h : QB w W m s1 s2 s) (hb : Below W.heap.size W W') : QB w W' m s1 s2 s where
  below := below_step h.below hb
  lt := Nat.lt_of_lt_of_le h.lt hb.size
  e0 := (hb.cell (World.block_lt_of_cell? _ _ h.e0)).trans h.e0
  e1 := (hb.cell (World.block_lt_of_cell? _ _ h.e1)).trans h.e1
  e2 := (hb.cell (World.block_lt_of_cell? _ _ h.e2)).trans h.e2
  e3 := (hb.cell (World.block_lt_of_cell? _ _ h.e3)).trans h.e3
  f3 := (hb.frozen h.lt).trans h.f3
theorem quoCells {m : Int} {ws op : List Int} {ad1 ad2 : Addr} {w W : World} (h1 : Kd.C (Kd.int .i64) w (some ad1) ws.length ws) (h2 : Kd.C (Kd.int .i64) w (some ad2) op.length op) (hp : QPre m ws op) (hb : Below w.heap.size w W) (k : Nat) (hk : k < op.length) :
    W.cell? (ad2.add k) = some (.int .i64 (rd op (k : Int))) ∧ W.cell? (ad1.add (rd op (k : Int)).toNat) = some (.int .i64 (wQ ws op k)) ∧ 0 ≤ rd op (k : Int) ∧ rd op (k : Int) < (ws.length : Int) := by
  obtain ⟨p0, p1, _, _⟩ := hp.at_ k hk
  obtain ⟨a2, ea2, c2⟩ := Kd.at_int h2 (k : Int) (by omega) (by omega)
  obtain ⟨a1, ea1, c1⟩ := Kd.at_int h1 (rd op (k : Int)) p0 p1
  cases ea1
  cases ea2
  rw [Int.toNat_natCast] at c2
  exact ⟨(hb.cell (World.block_lt_of_cell? _ _ c2)).trans c2, (hb.cell (World.block_lt_of_cell? _ _ c1)).trans c1, p0, p1⟩
theorem sw_below {α : Type} [Inhabited α] {enc : α → Value} {w0 W : World} {blk off : Nat} {dk : Array α} (h : SW enc w0 blk off dk W) (hblk : blk < w0.heap.size) {B : Nat} (hB : B ≤ blk) : Go.RowKit.Below B w0 W := by
  obtain ⟨n, os, rfl⟩ := h
  refine ⟨rfl, rfl, rfl, ?_, fun k hk => ?_⟩
  · show w0.heap.size ≤ ((w0.heap.modify blk _) ++ os).size
    simp
  · show ((w0.heap.modify blk _) ++ os)[k]? = _
    rw [Array.getElem?_append_left (by simp; omega), Array.getElem?_modify, if_neg (by omega)]
set_option maxHeartbeats 4000000 in
theorem quoSort {m : Int} {ws op : List Int} {ad1 ad2 : Addr} {c1 c2 : Nat} {w wr : World} (HP : QPre m ws op) (HQ : QB w wr m (.slice (some ad1) ws.length c1) (.slice (some ad2) op.length c2) (sumQ ws op op.length)) (g cap : Nat) (hg : w.heap.size + 3 < g) (hgs : g < wr.heap.size)
    (CL : ∀ k, k < op.length → wr.cell? (ad2.add k) = some (.int .i64 (rd op (k : Int))) ∧ wr.cell? (ad1.add (rd op (k : Int)).toNat) = some (.int .i64 (wQ ws op k)) ∧ 0 ≤ rd op (k : Int) ∧ rd op (k : Int) < (ws.length : Int)) (hb1 : ad1.block < g) (hb2 : ad2.block < g)
    (HG : ∀ k, k < op.length → wr.cell? ⟨g, k, none⟩ = some (.int .i64 (k : Int)) ∧ wr.frozen? ⟨g, k, none⟩ = false) :
    Calls Try.prog 34 #[.slice (some ⟨g, 0, none⟩) op.length cap, .func (.func 35) #[] #[.pointer (some ⟨w.heap.size, 0, none⟩), .pointer (some ⟨w.heap.size + 1, 0, none⟩), .pointer (some ⟨w.heap.size + 2, 0, none⟩), .pointer (some ⟨w.heap.size + 3, 0, none⟩)]] wr
      fun e w' => e = .returned (.tuple #[]) ∧ Go.RowKit.Below g wr w' ∧ ∃ p, Ranked m ws op p ∧ ∀ t, t < op.length → w'.cell? ⟨g, t, none⟩ = some (.int .i64 ((p t : Nat) : Int)) := by
  haveI : Inhabited (Fin op.length) := ⟨⟨0, HP.n0⟩⟩
  obtain ⟨d0, hs0, hd0⟩ : ∃ d0 : Array (Fin op.length), d0.size = op.length ∧ ∀ k (h : k < op.length), d0[k]! = ⟨k, h⟩ := ⟨Array.ofFn id, by simp, fun k h => by rw [getElem!_pos _ k (by simpa using h)]; simp⟩
  have R : Row1 (fun x : Fin op.length => Value.int .i64 ((x.val : Nat) : Int)) wr g 0 d0 := ⟨fun _ => rfl, fun j hj => by rw [hs0] at hj; rw [Nat.zero_add, hd0 j hj]; exact HG j hj, hgs⟩
  have hcmp : CmpReads Try.prog 35 #[.pointer (some ⟨w.heap.size, 0, none⟩), .pointer (some ⟨w.heap.size + 1, 0, none⟩), .pointer (some ⟨w.heap.size + 2, 0, none⟩), .pointer (some ⟨w.heap.size + 3, 0, none⟩)] (fun x : Fin op.length => Value.int .i64 ((x.val : Nat) : Int)) (fun x y => restQ m ws op y.val - restQ m ws op x.val) g 0 d0.size wr := by
    intro mm os dk hs x y
    have hsw : SW (fun x : Fin op.length => Value.int .i64 ((x.val : Nat) : Int)) wr g 0 dk (sortWorld (fun x : Fin op.length => Value.int .i64 ((x.val : Nat) : Int)) wr g 0 mm dk os) := ⟨mm, os, rfl⟩
    have hb := sw_below hsw hgs (Nat.le_refl g)
    generalize sortWorld (fun x : Fin op.length => Value.int .i64 ((x.val : Nat) : Int)) wr g 0 mm dk os = W at hb ⊢
    obtain ⟨x1, x2, x3, x4⟩ := CL x.val x.isLt
    obtain ⟨y1, y2, y3, y4⟩ := CL y.val y.isLt
    have hS := sumQ_pos HP
    refine quotas1_calls m (sumQ ws op op.length) (x.val : Nat) (y.val : Nat) (rd op (x.val : Int)) (rd op (y.val : Int)) (wQ ws op x.val) (wQ ws op y.val) w.heap.size (w.heap.size + 1) (w.heap.size + 2) (w.heap.size + 3) ws.length op.length c1 c2 ad1 ad2 W
      ((hb.cell (by show w.heap.size < g; omega)).trans HQ.e0) ((hb.cell (by show w.heap.size + 1 < g; omega)).trans HQ.e1) ((hb.cell (by show w.heap.size + 2 < g; omega)).trans HQ.e2) ((hb.cell (by show w.heap.size + 3 < g; omega)).trans HQ.e3)
      (by omega) (by have := x.isLt; omega) (by omega) (by have := y.isLt; omega) x3 x4 y3 y4 ?_ ?_ ?_ ?_ hS.1 hS.2 (mw_bound HP x.isLt) (mw_bound HP y.isLt)
    · rw [Int.toNat_natCast]; exact (hb.cell (by rw [add_block]; exact hb2)).trans x1
    · rw [Int.toNat_natCast]; exact (hb.cell (by rw [add_block]; exact hb2)).trans y1
    · exact (hb.cell (by rw [add_block]; exact hb1)).trans x2
    · exact (hb.cell (by rw [add_block]; exact hb1)).trans y2
  have eg : ∀ args w, (callFunc 35 args).run Try.prog w = .ok (.enter 35 args) w := enters_of Try.func35 (by kernel_rfl) rfl
  have hc := sortStable_calls (fun x : Fin op.length => Value.int .i64 ((x.val : Nat) : Int)) (fun x y => restQ m ws op y.val - restQ m ws op x.val) (fun x y => ltQ m ws op x.val y.val) (swo_ltQ m ws op op.length) 35 _ g 0 cap d0 wr eg hcmp.lays R (by rw [hs0]; exact HP.n1) (fun p q hpq hq => by
    rw [hs0] at hq
    rw [hd0 q hq, hd0 p (by omega)]
    unfold ltOf ltQ
    have e : (decide (q < p)) = false := decide_eq_false (by omega)
    rw [Bool.eq_iff_iff]
    simp [e]
    omega)
  rw [hs0] at hc
  refine hc.mono ?_
  rintro e w' ⟨rfl, d', hS, hs', hP, hO⟩
  refine ⟨rfl, sw_below hS hgs (Nat.le_refl g), fun t => (d'[t]!).val, ?_, fun t ht => ?_⟩
  · have hl : ((List.range' 0 op.length).map (fun i => d'[i]!)).Perm ((List.range' 0 op.length).map (fun i => d0[i]!)) := by
      have h := hP.2.2
      rw [extract_toList d' 0 op.length (by omega), extract_toList d0 0 op.length (by omega)] at h
      exact h
    have hnd : ((List.range' 0 op.length).map (fun i => d'[i]!)).Nodup := by
      refine hl.nodup_iff.2 (List.pairwise_map.2 (List.Pairwise.imp_of_mem (fun {a b} ha hb hab => ?_) (List.nodup_range' (s := 0) (n := op.length))))
      have ha' := (List.mem_range'_1.1 ha).2
      have hb' := (List.mem_range'_1.1 hb).2
      rw [hd0 a (by omega), hd0 b (by omega)]
      intro e
      exact hab (Fin.mk.inj e)
    have hinj : ∀ s t, s < t → t < op.length → d'[s]! ≠ d'[t]! := fun s t hst ht => by
      have h := List.pairwise_iff_getElem.1 (List.pairwise_map.1 hnd) s t (by simp; omega) (by simp; omega) hst
      simpa using h
    refine ⟨fun t ht => (d'[t]!).isLt, fun s t hs ht e => ?_, fun i hi => ?_, fun s t hst ht => ?_⟩
    · have e' := Fin.ext e
      rcases Nat.lt_trichotomy s t with h | h | h
      · exact absurd e' (hinj s t h ht)
      · exact h
      · exact absurd e'.symm (hinj t s h hs)
    · have hm : (⟨i, hi⟩ : Fin op.length) ∈ (List.range' 0 op.length).map (fun i => d'[i]!) := hl.mem_iff.2 (List.mem_map.2 ⟨i, List.mem_range'_1.2 ⟨by omega, by omega⟩, hd0 i hi⟩)
      obtain ⟨t, ht, e⟩ := List.mem_map.1 hm
      have ht' := (List.mem_range'_1.1 ht).2
      exact ⟨t, by omega, by rw [e]⟩
    · have h := hO s t (Nat.zero_le _) hst ht
      exact ltQ_total (fun e => hinj s t hst ht (Fin.ext e.symm)) h
  · have h := (hS.c1 R (by omega) t (by omega))
    rwa [Nat.zero_add] at h
def quoT12 : Bool × List (List Nat × List Nat) := (true, [([], []), ([], []), ([], []), ([], []), ([2, 3], [2, 3]), ([4], [4]), ([1, 5], [1, 5]), ([], []), ([6, 7], [6, 7]), ([8], [8]), ([0, 9], [0, 9]), ([10, 10, 0, 1, 2, 3, 4, 5, 6, 7, 8, 9, 10], [0, 10])])
def quoB12 : List Nat := [0, 0, 0, 0, 12, 28, 62, 0, 254, 510, 1023, 2047]
theorem quo_tab12 : rtab .any (opsOf Try.f23 12) = quoT12 := by kernel_rfl
theorem quo_bits12 : waitsOk quoT12.2 quoB12 = true := by kernel_rfl
set_option maxHeartbeats 16000000 in
set_option maxRecDepth 1000000 in
theorem quotas_walk (m : Int) (ws op : List Int) (A1 : Option Addr) (c1 : Nat) (A2 : Option Addr) (c2 : Nat) (w : World) (hr1 : Kd.C (Kd.int .i64) w A1 ws.length ws) (hc1 : ws.length ≤ c1) (hr2 : Kd.C (Kd.int .i64) w A2 op.length op) (hc2 : op.length ≤ c2) (hp : QPre m ws op) :
    Calls Try.prog 23 #[.int .i64 m, .slice A1 ws.length c1, .slice A2 op.length c2] w fun e w' => ∃ v0_ : Value, e = .returned (v0_) ∧ Kd.R (Kd.int .i64) 3 w' w.heap.size (fun _ => True) v0_ (quoL m ws op) ∧ Below w.heap.size w w' := by
  obtain ⟨p0, p1, _, _⟩ := hp.at_ 0 hp.n0
  obtain ⟨ad1, ea1, ca1⟩ := Kd.at_int hr1 (rd op ((0 : Nat) : Int)) p0 p1
  obtain ⟨ad2, ea2, ca2⟩ := Kd.at_int hr2 0 (by omega) (by have := hp.n0; omega)
  have hA1 := World.block_lt_of_cell? _ _ ca1
  have hA2 := World.block_lt_of_cell? _ _ ca2
  rw [add_block] at hA1 hA2
  have HA1 := Lib.hid hA1
  have HA2 := Lib.hid hA2
  clear ca1 ca2 hA1 hA2
  subst ea1
  subst ea2
  have CL0 := Lib.hid (fun (W : World) (hb : Below w.heap.size w W) (k : Nat) (hk : k < op.length) => quoCells hr1 hr2 hp hb k hk)
  have HP := Aside0.mk hp
  clear hr1 hr2 hp p0 p1
  go_enter Try.func23, Try.ntmps23
  go_wp2
  go_loopg [20] op.length (fun gk v20 wr => ∃ k : Nat, v20 = .int .i64 k ∧ k ≤ op.length ∧ op.length - k ≤ gk ∧ Aside0 (QB w wr m (.slice (some ad1) ws.length c1) (.slice (some ad2) op.length c2) (sumQ ws op k)))
  case atStart => exact ⟨0, rfl, by omega, by omega, ⟨QB.start w m _ _⟩⟩
  case round =>
    obtain ⟨k, rfl, hk, hgk, HQ⟩ := hrel
    by_cases hlt : k < op.length
    · have hltz : (k : Int) < (op.length : Int) := by omega
      have hkz : (0 : Int) ≤ (k : Int) := by omega
      obtain ⟨fx, fy, x0, x1⟩ := CL0.out wr HQ.out.below k hlt
      have e1 := HQ.out.e1
      have e3 := HQ.out.e3
      have f3 := HQ.out.f3
      have hsb := sumQ_bound HP.out k hk
      have hsb2 := sumQ_bound HP.out (k + 1) hlt
      have hk64 := HP.out.n1
      have hstep : Hid (sumQ ws op (k + 1) = sumQ ws op k + wQ ws op k) := rfl
      have HQ2 := Aside0.mk (HQ.out.set (sumQ ws op (k + 1)))
      rw [hstep.out] at hsb2
      generalize hsk : sumQ ws op k = sk at *
      generalize hy : wQ ws op k = y at *
      generalize hx : rd op (k : Int) = x at *
      have hwr : IntKind.i64.wrap (sk + y) = sk + y := by rw [IntKind.wrap_i64]; omega
      have HXX := Lib.hid hsk
      have HXY := Lib.hid hy
      have HXZ := Lib.hid hx
      clear hsk hy hx hsb hsb2
      go_wp2_with fail
      go_big_region
      rw [← hstep.out]
      generalize (wr.setCell ⟨w.heap.size + 3, 0, none⟩ (.int .i64 (sumQ ws op (k + 1)))).drew = w2 at HQ2 ⊢
      clear e1 e3 f3 fx fy HQ
      go_wp2
      go_roundg (op.length - (k + 1))
      case measure => omega
      case rel => exact ⟨k + 1, by go_num, hlt, Nat.le_refl _, HQ2⟩
    · have hltz : ¬ (k : Int) < (op.length : Int) := by omega
      obtain rfl : k = op.length := by omega
      have CB := Lib.hid (fun (W : World) (hb : Below wr.heap.size wr W) => HQ.out.kept hb)
      have CL := Lib.hid (fun (W : World) (hb : Below wr.heap.size wr W) (k : Nat) (hk : k < op.length) => CL0.out W (below_step HQ.out.below hb) k hk)
      have HBW := Lib.hid HQ.out.below
      have HW1 := Lib.hid HQ.out.lt
      obtain ⟨q0, q1, q2, q3⟩ := (show wr.cell? ⟨w.heap.size, 0, none⟩ = some (.int .i64 m) ∧ wr.cell? ⟨w.heap.size + 1, 0, none⟩ = some (.slice (some ad1) ws.length c1) ∧ wr.cell? ⟨w.heap.size + 2, 0, none⟩ = some (.slice (some ad2) op.length c2) ∧ wr.cell? ⟨w.heap.size + 3, 0, none⟩ = some (.int .i64 (sumQ ws op op.length)) from ⟨HQ.out.e0, HQ.out.e1, HQ.out.e2, HQ.out.e3⟩)
      clear HQ hgk hk hlt hltz CL0
      generalize wr = w1 at *
      go_wp2_with (first | ((with_reducible refine gate_dst (N := 31) rfl ?_); refine Kd.R_lit (Kd.int .i64) (w0 := w1) w1.heap.size 3 ?hg (N := 31) ?hd (xs := ([] : List Int)) (inner := []) (ok := fun _ => True) (okp := fun _ => True) ?hr ?hp (fun _ hk => hk) trivial (Below.refl _ _) (Nat.le_refl _) (by simp) ?_; (case hd => rfl); (case hg => rfl); (case hr => first | (go_simp; done) | (go_simp; rfl)); (case hp => exact (Reps.none _ _)); intro vout wB hoB hbB hg_ hnew_; clear hg_ hnew_ q1 q2 q3 q0; have HO := Aside0.mk hoB; have HB := Aside0.mk hbB; clear hoB hbB; obtain ⟨q0, _, q2, _⟩ := (show wB.cell? ⟨w.heap.size, 0, none⟩ = some (.int .i64 m) ∧ wB.cell? ⟨w.heap.size + 1, 0, none⟩ = some (.slice (some ad1) ws.length c1) ∧ wB.cell? ⟨w.heap.size + 2, 0, none⟩ = some (.slice (some ad2) op.length c2) ∧ wB.cell? ⟨w.heap.size + 3, 0, none⟩ = some (.int .i64 (sumQ ws op op.length)) from ⟨(CB.out _ HB.out).e0, (CB.out _ HB.out).e1, (CB.out _ HB.out).e2, (CB.out _ HB.out).e3⟩)))
      go_loopg [10, 11, 35] op.length (fun gk v10 v11 v35 wr => ∃ k : Nat, v35 = .int .i64 k ∧ k ≤ op.length ∧ op.length - k ≤ gk ∧ v11 = .int .i64 (leftQ m ws op k) ∧ Aside0 (Kd.R (Kd.int .i64) 3 wr w1.heap.size (fun _ => True) v10 (outQ m ws op k)) ∧ Aside0 (Below w1.heap.size w1 wr))
      case atStart => exact ⟨0, rfl, by omega, by omega, rfl, HO, HB⟩
      case round =>
        clear HO HB q0 q2
        obtain ⟨k, rfl, hk, hgk, rfl, HO, HB⟩ := hrel
        by_cases hlt : k < op.length
        · have hltz : (k : Int) < (op.length : Int) := by omega
          have hkz : (0 : Int) ≤ (k : Int) := by omega
          obtain ⟨fx, _, x0, x1⟩ := CL.out wr HB.out k hlt
          obtain ⟨x, hx⟩ : ∃ x, rd op (k : Int) = x := ⟨_, rfl⟩
          obtain ⟨y, hy⟩ : ∃ y, wQ ws op k = y := ⟨_, rfl⟩
          obtain ⟨sT, hsT⟩ : ∃ sT, sumQ ws op op.length = sT := ⟨_, rfl⟩
          rw [hx] at fx x0 x1
          have SB : Hid (∀ W, Go.RowKit.Below w1.heap.size w1 W → W.cell? ⟨w.heap.size, 0, none⟩ = some (.int .i64 m) ∧ W.cell? ⟨w.heap.size + 1, 0, none⟩ = some (.slice (some ad1) ws.length c1) ∧ W.cell? ⟨w.heap.size + 3, 0, none⟩ = some (.int .i64 sT) ∧ W.cell? (ad1.add x.toNat) = some (.int .i64 y)) := Lib.hid (fun W hb => by
            have h1 := CB.out W hb
            have h2 := (CL.out W hb k hlt).2.1
            rw [hx, hy] at h2
            exact ⟨h1.e0, h1.e1, by rw [← hsT]; exact h1.e3, h2⟩)
          have hmb := mw_bound HP.out hlt
          have hqb := qQ_bound HP.out hlt
          have hsp := sumQ_pos HP.out
          have hlb := left_eq HP.out k hk
          have hm0 := HP.out.m0
          have hm1 := HP.out.m1
          have hk64 := HP.out.n1
          rw [hy] at hmb
          rw [hsT] at hsp
          have hqe : qQ m ws op k = Int.tdiv (m * y) sT := by unfold qQ; rw [hy, hsT]
          have hz : wrap64 (Int.tdiv (wrap64 (m * y)) sT) = qQ m ws op k := by rw [w64 (x := m * y) (by omega) (by omega), ← hqe, w64 (by omega) (by omega)]
          have hlz : wrap64 (leftQ m ws op k - qQ m ws op k) = leftQ m ws op (k + 1) := by rw [leftQ, w64 (by omega) (by omega)]
          have hs0 : ¬ sT = 0 := by omega
          have hs1 : (sT = 0) = False := eq_false hs0
          have x0t := eq_true x0
          have x1t := eq_true x1
          have HX := Lib.hid hx
          have HY := Lib.hid hy
          have HST := Lib.hid hsT
          clear hmb hqb hsp hlb hm0 hm1 hqe hx hy hsT
          go_wp2_with fail
          refine start_ (n := 12) (S := fun w' => w'.cell? ⟨w.heap.size, 0, none⟩ = some (.int .i64 m) ∧ w'.cell? ⟨w.heap.size + 1, 0, none⟩ = some (.slice (some ad1) ws.length c1) ∧ w'.cell? ⟨w.heap.size + 3, 0, none⟩ = some (.int .i64 sT) ∧ w'.cell? (ad1.add x.toNat) = some (.int .i64 y)) (ds := []) #[false, false, false, false, false, false, false, false, false, false, false, false] (by kernel_rfl) rfl rfl (SB.out _ (below_drew1 HB.out)) (fun hHeld => ?_)
          refine with_tabW quo_tab12 quo_bits12 (fun HT_ HW_ => ?_)
          have HO3 := Aside0.mk (Kd.R_drew HO.out)
          have HB3 := Aside0.mk (below_drew1 HB.out)
          clear HO HB
          generalize wr.drew = w3 at HO3 HB3 hHeld ⊢
          refine pure_ (i := 0) (N := some 39) (v := ?_) (a' := ?_) #[true, false, false, false, false, false, false, false, false, false, false, false] rfl rfl (any_of HT_.out (by kernel_rfl)) (fun _ _ _ h => h) (Or.inl ⟨by rfl, ?_⟩) ?_ ?_
          rotate_left
          · intro w'
            go_simp
            with_reducible rfl
          rotate_left
          · simp only [Act.put, List.setIfInBounds_toArray, List.set_cons_zero, List.set_cons_succ, i64_w, i32_w]
            rfl
          refine take_ (i := 1) (N := some 40) (v := ?_) (a' := ?_) #[true, true, false, false, false, false, false, false, false, false, false, false] rfl rfl (take_ofW HT_.out HW_.out (by kernel_rfl)) (fun _ _ _ h => h) (Or.inl ⟨by rfl, ?_⟩) hHeld ?_ ?_
          rotate_left
          · rintro w' ⟨s0, s1, s2, s3⟩
            go_simp
            with_reducible rfl
          rotate_left
          · simp only [Act.put, List.setIfInBounds_toArray, List.set_cons_zero, List.set_cons_succ, i64_w, i32_w]
            rfl
          refine take_ (i := 2) (N := some 41) (v := ?_) (a' := ?_) #[true, true, true, false, false, false, false, false, false, false, false, false] rfl rfl (take_ofW HT_.out HW_.out (by kernel_rfl)) (fun _ _ _ h => h) (Or.inl ⟨by rfl, ?_⟩) hHeld ?_ ?_
          rotate_left
          · rintro w' ⟨s0, s1, s2, s3⟩
            go_simp
            with_reducible rfl
          rotate_left
          · simp only [Act.put, List.setIfInBounds_toArray, List.set_cons_zero, List.set_cons_succ, i64_w, i32_w]
            rfl
          refine pure_ (i := 3) (N := some 42) (v := ?_) (a' := ?_) #[true, true, true, true, false, false, false, false, false, false, false, false] rfl rfl (any_of HT_.out (by kernel_rfl)) (fun _ _ _ h => h) (Or.inl ⟨by rfl, ?_⟩) ?_ ?_
          rotate_left
          · intro w'
            go_simp
            with_reducible rfl
          rotate_left
          · simp only [Act.put, List.setIfInBounds_toArray, List.set_cons_zero, List.set_cons_succ, i64_w, i32_w]
            rfl
          refine pure_ (i := 4) (N := some 43) (v := ?_) (a' := ?_) #[true, true, true, true, true, false, false, false, false, false, false, false] rfl rfl (any_of HT_.out (by kernel_rfl)) (fun _ _ _ h => h) (Or.inl ⟨by rfl, ?_⟩) ?_ ?_
          rotate_left
          · intro w'
            go_simp
            with_reducible rfl
          rotate_left
          · simp only [Act.put, List.setIfInBounds_toArray, List.set_cons_zero, List.set_cons_succ, i64_w, i32_w]
            rfl
          refine take_ (i := 5) (N := some 44) (v := ?_) (a' := ?_) #[true, true, true, true, true, true, false, false, false, false, false, false] rfl rfl (take_ofW HT_.out HW_.out (by kernel_rfl)) (fun _ _ _ h => h) (Or.inl ⟨by rfl, ?_⟩) hHeld ?_ ?_
          rotate_left
          · rintro w' ⟨s0, s1, s2, s3⟩
            go_simp
            with_reducible rfl
          rotate_left
          · simp only [Act.put, List.setIfInBounds_toArray, List.set_cons_zero, List.set_cons_succ, i64_w, i32_w]
            rfl
          refine pure_ (i := 6) (N := some 45) (v := ?_) (a' := ?_) #[true, true, true, true, true, true, true, false, false, false, false, false] rfl rfl (any_of HT_.out (by kernel_rfl)) (fun _ _ _ h => h) (Or.inl ⟨by rfl, ?_⟩) ?_ ?_
          rotate_left
          · intro w'
            go_simp
            with_reducible rfl
          rotate_left
          · simp only [Act.put, List.setIfInBounds_toArray, List.set_cons_zero, List.set_cons_succ, i64_w, i32_w]
            rfl
          refine take_ (i := 7) (N := some 46) (v := ?_) (a' := ?_) #[true, true, true, true, true, true, true, true, false, false, false, false] rfl rfl (take_ofW HT_.out HW_.out (by kernel_rfl)) (fun _ _ _ h => h) (Or.inl ⟨by rfl, ?_⟩) hHeld ?_ ?_
          rotate_left
          · rintro w' ⟨s0, s1, s2, s3⟩
            go_simp
            with_reducible rfl
          rotate_left
          · simp only [Act.put, List.setIfInBounds_toArray, List.set_cons_zero, List.set_cons_succ, i64_w, i32_w]
            rfl
          refine pure_ (i := 8) (N := some 47) (v := ?_) (a' := ?_) #[true, true, true, true, true, true, true, true, true, false, false, false] rfl rfl (any_of HT_.out (by kernel_rfl)) (fun _ _ _ h => h) (Or.inl ⟨by rfl, ?_⟩) ?_ ?_
          rotate_left
          · intro w'
            go_simp
            with_reducible rfl
          rotate_left
          · simp only [Act.put, List.setIfInBounds_toArray, List.set_cons_zero, List.set_cons_succ, i64_w, i32_w]
            rfl
          refine one_ (i := 9) (N := some 48) #[true, true, true, true, true, true, true, true, true, true, false, false] rfl rfl (one_of HT_.out (by kernel_rfl)) (by decide) (fun K hK => ?_)
          refine value_ (w1 := ?_) (v := ?_) (by rfl) rfl ?_ ?_
          rotate_left 2
          · go_simp
            constructor
            · rfl
            · rfl
          refine hK.out _ _ (SB.out _ (below_alloc HB3.out _)) (fun hHeld => ?_)
          clear hK K
          refine norm_ (a' := ?_) ?_ ?_
          rotate_left
          · show Act.put _ (some 48) _ = _
            simp only [Act.put, List.setIfInBounds_toArray, List.set_cons_zero, List.set_cons_succ, i64_w, i32_w]
            rfl
          refine one_ (i := 10) (N := some 49) #[true, true, true, true, true, true, true, true, true, true, true, false] rfl rfl (one_of HT_.out (by kernel_rfl)) (by decide) (fun K hK => ?_)
          refine Kd.R_append_step (Kd.int .i64) (w0 := w1) w1.heap.size (by rfl) (.tmp 39) (.tmp 48) 22 3 (.int .i64 0) 8 rfl Try.underlying22 info3 rfl (by decide) (by omega) u10 (outQ m ws op k) (qQ m ws op k) [.int .i64 (qQ m ws op k)] (fun _ => True) (fun _ => False) rfl rfl ?aP (fun _ hk => hk.elim) ?aF ?aO ?aB ?aS ?aL ?_; (case aP => exact rfl); (case aF => exact fun _ _ => trivial)
          (case aO => exact HO3.out)
          (case aB => exact HB3.out)
          (case aS => exact below_size HB3.out)
          (case aL => rw [outQ_len]; omega)
          intro v4 w4 ho hb hg hat
          refine hK.out _ _ (SB.out _ hb) (fun hHeld => ?_)
          clear hK K hg hat HO3 HB3
          have HO4 := Aside0.mk ho
          have HB4 := Aside0.mk hb
          clear ho hb
          refine norm_ (a' := ?_) ?_ ?_
          rotate_left
          · show Act.put _ (some 49) _ = _
            simp only [Act.put, List.setIfInBounds_toArray, List.set_cons_zero, List.set_cons_succ, i64_w, i32_w]
            rfl
          refine pure_ (i := 11) (N := some 10) (v := ?_) (a' := ?_) #[true, true, true, true, true, true, true, true, true, true, true, true] rfl rfl (any_of HT_.out (by kernel_rfl)) (fun _ _ _ h => h) (Or.inl ⟨by rfl, ?_⟩) ?_ ?_
          rotate_left
          · intro w'
            go_simp
            with_reducible rfl
          rotate_left
          · simp only [Act.put, List.setIfInBounds_toArray, List.set_cons_zero, List.set_cons_succ, i64_w, i32_w]
            rfl
          refine done_ (done_of HT_.out (by kernel_rfl)) ?_
          clear hHeld HT_ HW_
          obtain ⟨t0, t1, t3, ty⟩ := SB.out w4 HB4.out
          go_wp2_with fail
          go_quiet (fail)
          have HO5 := Aside0.mk (Kd.R_drewN HO4.out nq)
          have HB5 := Aside0.mk (pw_below_drewN HB4.out nq)
          clear HO4 HB4 t0 t1 t3 ty
          generalize w4.drewN nq = w5 at HO5 HB5 ⊢
          go_wp2
          go_roundg (op.length - (k + 1))
          case measure => omega
          case rel => exact ⟨k + 1, by go_num, hlt, Nat.le_refl _, by first | rfl | rw [← hlz], HO5, HB5⟩
        · have hltz : ¬ (k : Int) < (op.length : Int) := by omega
          obtain rfl : k = op.length := by omega
          have CB2 := Lib.hid (fun (W : World) (hb : Go.RowKit.Below wr.heap.size wr W) => (CB.out wr HB.out).kept hb)
          have CL2 := Lib.hid (fun (W : World) (hb : Go.RowKit.Below wr.heap.size wr W) (k : Nat) (hk : k < op.length) => CL.out W (below_step HB.out hb) k hk)
          have hq2 : wr.cell? ⟨w.heap.size + 2, 0, none⟩ = some (.slice (some ad2) op.length c2) := (CB.out wr HB.out).e2
          have HB1 := Lib.hid HB.out
          clear hgk hk hlt hltz CB CL HB
          generalize wr = w2 at *
          go_wp2_with (first | ((with_reducible refine gate_dst (N := 61) rfl ?_); refine Kd.R_lit (Kd.int .i64) (w0 := w2) w2.heap.size 3 ?hg (N := 61) ?hd (xs := ([] : List Int)) (inner := []) (ok := fun _ => True) (okp := fun _ => True) ?hr ?hp (fun _ hk => hk) trivial (Below.refl _ _) (Nat.le_refl _) (by simp) ?_; (case hd => rfl); (case hg => rfl); (case hr => first | (go_simp; done) | (go_simp; rfl)); (case hp => exact (Reps.none _ _)); intro vord wB hoB hbB hg_ hnew_; clear hg_ hnew_ hq2; have HOR := Aside0.mk hoB; have HB2 := Aside0.mk hbB; clear hoB hbB; have hq2 := (CB2.out _ HB2.out).e2))
          go_loopg [14, 64] op.length (fun gk v14 v64 wr => ∃ k : Nat, v64 = .int .i64 k ∧ k ≤ op.length ∧ op.length - k ≤ gk ∧ Aside0 (Kd.R (Kd.int .i64) 3 wr w2.heap.size (fun _ => True) v14 (ordQ k)) ∧ Aside0 (Below w2.heap.size w2 wr))
          case atStart => exact ⟨0, rfl, by omega, by omega, HOR, HB2⟩
          case round =>
            clear HOR HB2 hq2
            obtain ⟨k, rfl, hk, hgk, HOR, HB2⟩ := hrel
            by_cases hlt : k < op.length
            · have hltz : (k : Int) < (op.length : Int) := by omega
              have hk64 := HP.out.n1
              go_wp2_with (first | ((with_reducible refine gate_builtin (b := .append) (xs := #[.tmp 67, .tmp 69]) rfl ?_); at_builtin; refine Kd.R_append (Kd.int .i64) (w0 := w2) w2.heap.size rfl (.tmp 67) (.tmp 69) 22 3 (.int .i64 0) 8 rfl Try.underlying22 info3 rfl (by decide) (by omega) u14 (ordQ k) (k : Int) [.int .i64 (k : Int)] (fun _ => True) (fun _ => False) rfl rfl ?aP (fun _ hk => hk.elim) ?aF ?aO ?aB ?aS ?aL ?_; (case aP => exact rfl); (case aF => exact fun _ _ => trivial); (case aO => exact HOR.out); (case aB => exact HB2.out); (case aS => exact below_size HB2.out); (case aL => rw [ordQ_len]; omega); intro v4 w4 ho hb hg hat; clear hg hat; rw [← ordQ_succ] at ho; have HO4 := Aside0.mk ho; have HB4 := Aside0.mk hb; clear ho hb HOR HB2))
              go_roundg (op.length - (k + 1))
              case measure => omega
              case rel => exact ⟨k + 1, by go_num, hlt, Nat.le_refl _, HO4, HB4⟩
            · have hltz : ¬ (k : Int) < (op.length : Int) := by omega
              obtain rfl : k = op.length := by omega
              obtain ⟨g, cap, hgv, hgb, hgs, _⟩ := Kd.R_form HOR.out (by rw [ordQ_len]; exact HP.out.n0)
              rw [ordQ_len] at hgv
              subst hgv
              have HGC : Hid (∀ t, t < op.length → wr.cell? ⟨g, t, none⟩ = some (.int .i64 (t : Int)) ∧ wr.frozen? ⟨g, t, none⟩ = false) := Lib.hid (fun t ht => by
                have h := Kd.R_celln 0 HOR.out (t : Int) (by omega) (by omega)
                rw [Int.toNat_natCast] at h
                exact ⟨h.1.trans (by rw [show rdOf 0 (ordQ op.length) (t : Int) = (t : Int) from ordQ_rd ht]), h.2⟩)
              have hcap := (Kd.R_reads' HOR.out).2.1
              have HQ3 := CB2.out wr HB2.out
              have hlt3 := (CB2.out w2 (Below.refl _ _)).lt
              have hBW2 := below_size (below_step HBW.out HB1.out)
              have hs := quoSort HP.out HQ3 g cap (by omega) hgs (fun k hk => CL2.out wr HB2.out k hk) (by have := HA1.out; omega) (by have := HA2.out; omega) HGC.out
              have HBASE := Lib.hid (Kd.R_base HOR.out)
              obtain ⟨Ln, hL⟩ : ∃ Ln : Nat, leftQ m ws op op.length = (Ln : Int) := ⟨(leftQ m ws op op.length).toNat, by have := (left_bound HP.out).1; omega⟩
              have hLn : Ln < op.length := by have := (left_bound HP.out).2; omega
              have HQL := Lib.hid hL
              have hk64 := HP.out.n1
              clear hgk hk hlt hltz HQ3
              go_wp2_with fail
              refine hs.mono ?_
              rintro e w4 ⟨rfl, hbs, p, hR, hpc⟩
              have HB4 := Aside0.mk (Below.trans HB2.out (⟨hbs.os, hbs.tape, hbs.output, hbs.size, fun k hk => hbs.block k (by omega)⟩ : Go.RowKit.Below w2.heap.size wr w4))
              have ho4 := Kd.R_elder' HO.out HBASE.out HB4.out
              rw [← outE_zero p] at ho4
              obtain ⟨go, co, hgo, hgo1, hgo2, _⟩ := Kd.R_form ho4 (by rw [outE_len]; exact HP.out.n0)
              rw [outE_len] at hgo
              subst hgo
              have hne : go ≠ g := fun e => (ho4.1 go rfl).2 (by rw [e]; rfl)
              have HO4 := Aside0.mk ho4
              have HC4 := Aside0.mk hpc
              have HR := Aside0.mk hR
              have HBB := Aside0.mk (below_step HB1.out HB4.out)
              clear ho4 hpc hR hbs hs HO HOR HB2 HB4 CB2 CL2 HGC HBASE hgo2
              go_wp2
              go_loopg [79] Ln (fun gk v79 wr => ∃ k : Nat, v79 = .int .i64 k ∧ k ≤ Ln ∧ Ln - k ≤ gk ∧ Aside0 (Kd.R (Kd.int .i64) 3 wr w1.heap.size (fun k_ => True ∧ some k_ ≠ (Value.slice (some ⟨g, 0, none⟩) op.length cap).ownBlock) (.slice (some ⟨go, 0, none⟩) op.length co) (outE m ws op p k)) ∧ Aside0 (Go.RowKit.Below w1.heap.size w1 wr) ∧ Aside0 (∀ t, t < op.length → wr.cell? ⟨g, t, none⟩ = some (.int .i64 ((p t : Nat) : Int))))
              case atStart => exact ⟨0, rfl, by omega, by omega, HO4, HBB, HC4⟩
              case round =>
                clear HO4 HBB HC4
                obtain ⟨k, rfl, hk, hgk, HO, HB, HC⟩ := hrel
                by_cases hlt : k < Ln
                · have hltz : (k : Int) < (Ln : Int) := by omega
                  have hkz : (0 : Int) ≤ (k : Int) := by omega
                  have hck := HC.out k (by omega)
                  have hpl := HR.out.lt k (by omega)
                  obtain ⟨hx, hf⟩ := Kd.R_celln 0 HO.out ((p k : Nat) : Int) (by omega) (by omega)
                  rw [Int.toNat_natCast] at hx hf
                  have hv := outE_rd (m := m) (ws := ws) p k hpl
                  have hq := qQ_bound HP.out hpl
                  obtain ⟨z, hz⟩ : ∃ z, rdOf 0 (outE m ws op p k) ((p k : Nat) : Int) = z := ⟨_, rfl⟩
                  have hz2 : rd (outE m ws op p k) ((p k : Nat) : Int) = z := hz
                  have hzb : 0 ≤ z ∧ z ≤ 10000001 := by
                    rw [← hz2, hv]
                    split <;> omega
                  have ho2 := Kd.R_putn HO.out ((p k : Nat) : Int) (z + 1)
                  rw [Int.toNat_natCast, ← hz2, outE_step HR.out (show k < op.length by omega), hz2] at ho2
                  rw [hz] at hx
                  have HO2 := Aside0.mk ho2
                  have HB3 := Aside0.mk (below_set (j := p k) (v := .int .i64 (z + 1)) HB.out hgo1)
                  have HC2 : Aside0 (∀ t, t < op.length → (wr.setCell ⟨go, p k, none⟩ (.int .i64 (z + 1))).cell? ⟨g, t, none⟩ = some (.int .i64 ((p t : Nat) : Int))) := ⟨fun t ht => (cell_far (by show g ≠ go; exact fun e => hne e.symm) _).trans (HC.out t ht)⟩
                  obtain ⟨x, hxp⟩ : ∃ x, p k = x := ⟨_, rfl⟩
                  rw [hxp] at hck hpl hx hf HO2 HB3 HC2
                  clear hv hq hz hz2 ho2 HO HB HC hxp
                  go_wp2
                  go_roundg (Ln - (k + 1))
                  case measure => omega
                  case rel => exact ⟨k + 1, by go_num, hlt, Nat.le_refl _, HO2, HB3, HC2⟩
                · have hltz : ¬ (k : Int) < (Ln : Int) := by omega
                  obtain rfl : k = Ln := by omega
                  go_wp2
                  go_ret
                  have he := outE_last p HP.out
                  rw [HQL.out, Int.toNat_natCast] at he
                  have ho := HO.out
                  rw [he] at ho
                  exact ⟨_, rfl, Kd.R_lower (Kd.R_mono ho (fun _ _ => trivial)) (below_size HBW.out), below_step HBW.out HB.out⟩
end Go.Proofs.Yteilcchcekmooaa.G

/- G23 -/
-- Laid by wip/g/gprint.py out of the translation, by the kit's print program. Lean checks it.
namespace Go.Proofs.Yteilcchcekmooaa.G
open Go.RowKit Go.Proofs.YteilcchcekmooaaW.PrintWords Go.Proofs.YteilcchcekmooaaW.PrintLast Go.Proofs.YteilcchcekmooaaW.PrintMore
attribute [local go_sem] max2_int min2_int max_two min_two max_three min_three max_four min_four   -- for this text's walks alone
set_option linter.unusedVariables false
set_option linter.unusedSimpArgs false

/-! ### impl_quotas: function 23 -/
--IMPORT Derived.Test.YteilcchcekmooaaPQuoB
def quoOk (m : Int) (ws op : List Int) : Bool := decide (0 ≤ m) && decide (m ≤ 10000) && decide (0 < op.length) && decide (op.length ≤ 64) && (List.range op.length).all (fun k => decide (0 ≤ rd op (k : Int)) && decide (rd op (k : Int) < (ws.length : Int)) && decide (1 ≤ rd ws (rd op (k : Int))) && decide (rd ws (rd op (k : Int)) ≤ 1000))
theorem quoOk_iff {m : Int} {ws op : List Int} : quoOk m ws op = true ↔ QPre m ws op := by
  unfold quoOk
  simp only [Bool.and_eq_true, decide_eq_true_eq, List.all_eq_true, List.mem_range]
  exact ⟨fun h => ⟨h.1.1.1.1, h.1.1.1.2, h.1.1.2, h.1.2, fun k hk => ⟨(h.2 k hk).1.1.1, (h.2 k hk).1.1.2, (h.2 k hk).1.2, (h.2 k hk).2⟩⟩, fun h => ⟨⟨⟨⟨h.m0, h.m1⟩, h.n0⟩, h.n1⟩, fun k hk => ⟨⟨⟨(h.at_ k hk).1, (h.at_ k hk).2.1⟩, (h.at_ k hk).2.2.1⟩, (h.at_ k hk).2.2.2⟩⟩⟩
def impl_quotas.f (a0 : Int) (l1 : List Int) (l2 : List Int) : Option (List Int) := if quoOk a0 l1 l2 = true then some (quoL a0 l1 l2) else none
theorem impl_quotas.calls (a0 : Int) (A1 : Option Addr) (c1 : Nat) (l1 : List Int) (A2 : Option Addr) (c2 : Nat) (l2 : List Int) (r : List Int) (w : World) (hr1 : Kd.C (Kd.int .i64) w A1 l1.length l1) (hc1 : l1.length ≤ c1) (hr2 : Kd.C (Kd.int .i64) w A2 l2.length l2) (hc2 : l2.length ≤ c2) (h : impl_quotas.f a0 l1 l2 = some r) :
    Calls Try.prog 23 #[.int .i64 a0, .slice A1 l1.length c1, .slice A2 l2.length c2] w fun e w' => ∃ v0_ : Value, e = .returned (v0_) ∧ Kd.R (Kd.int .i64) 3 w' w.heap.size (fun _ => True) v0_ r ∧ Below w.heap.size w w' := by
  unfold impl_quotas.f at h
  by_cases hq : quoOk a0 l1 l2 = true
  · rw [if_pos hq] at h
    obtain rfl := Option.some.inj h
    exact quotas_walk a0 l1 l2 A1 c1 A2 c2 w hr1 hc1 hr2 hc2 (quoOk_iff.1 hq)
  · rw [if_neg hq] at h
    cases h

end Go.Proofs.Yteilcchcekmooaa.G
