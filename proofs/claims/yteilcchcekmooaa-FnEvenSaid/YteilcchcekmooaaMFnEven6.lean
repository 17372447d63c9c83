import Derived.Test.YteilcchcekmooaaMFnEven3
import Derived.Test.YteilcchcekmooaaMFnEven5
/- PDivB -/
/-
  Shares: what the reference wants for each, by the greatest rests.
-/
namespace Go.Proofs.Yteilcchcekmooaa.G
open Go.RowKit Go.Sort Go.Proofs.YteilcchcekmooaaW.PrintWords Go.Proofs.YteilcchcekmooaaW.PrintLast Go.Proofs.YteilcchcekmooaaW.PrintMore
set_option linter.unusedVariables false
set_option linter.unusedSimpArgs false
/-! ### the open ones -/
def opN (p : Nat → Bool) (N : Nat) : List Nat := (List.range N).filter p
def opI (p : Nat → Bool) (N : Nat) : List Int := (opN p N).map (fun j : Nat => (j : Int))
def cnt (p : Nat → Bool) (N : Nat) : Nat := (opN p N).length
section
variable {p : Nat → Bool}
theorem opI_succ (N : Nat) : opI p (N + 1) = opI p N ++ (if p N = true then [(N : Int)] else []) := by
  unfold opI opN
  rw [List.range_succ, List.filter_append, List.map_append]
  congr 1
  by_cases h : p N = true
  · rw [if_pos h, List.filter_cons_of_pos h]; rfl
  · rw [if_neg h, List.filter_cons_of_neg h]; rfl
theorem opI_len (N : Nat) : (opI p N).length = cnt p N := by simp [opI, cnt]
theorem cnt_succ (N : Nat) : cnt p (N + 1) = cnt p N + (if p N = true then 1 else 0) := by
  rw [← opI_len, opI_succ, List.length_append, opI_len]
  split <;> rfl
theorem cnt_zero : cnt p 0 = 0 := rfl
theorem cnt_mono {i j : Nat} (h : i ≤ j) : cnt p i ≤ cnt p j := by
  induction j with
  | zero => have : i = 0 := by omega
            subst this; exact Nat.le_refl _
  | succ j ih =>
    rcases Nat.lt_or_ge i (j + 1) with h1 | h1
    · rw [cnt_succ]; have := ih (by omega); split <;> omega
    · have : i = j + 1 := by omega
      subst this; exact Nat.le_refl _
theorem cnt_lt {i N : Nat} (h : i < N) (hp : p i = true) : cnt p i < cnt p N := by
  have := cnt_mono (p := p) (show i + 1 ≤ N by omega)
  rw [cnt_succ, if_pos hp] at this
  omega
theorem cnt_inj {i j : Nat} (hi : p i = true) (hj : p j = true) (h : cnt p i = cnt p j) : i = j := by
  rcases Nat.lt_trichotomy i j with c | c | c
  · have := cnt_lt c hi; omega
  · exact c
  · have := cnt_lt c hj; omega
theorem cnt_le (N : Nat) : cnt p N ≤ N := by
  induction N with
  | zero => exact Nat.le_refl _
  | succ N ih => rw [cnt_succ]; split <;> omega
theorem rd_app {l r : List Int} {k : Nat} (h : k < l.length) : rd (l ++ r) (k : Int) = rd l (k : Int) := by
  unfold rd
  rw [Int.toNat_natCast, List.getD_eq_getElem?_getD, List.getD_eq_getElem?_getD, List.getElem?_append_left h]
theorem rd_last (l : List Int) (x : Int) : rd (l ++ [x]) (l.length : Int) = x := by
  unfold rd
  rw [Int.toNat_natCast, List.getD_eq_getElem?_getD, List.getElem?_append_right (Nat.le_refl _)]
  simp
theorem opI_rd : ∀ {N i : Nat}, i < N → p i = true → rd (opI p N) ((cnt p i : Nat) : Int) = i
  | N + 1, i, hi, hp => by
    rw [opI_succ]
    by_cases e : i = N
    · subst e
      rw [if_pos hp, ← opI_len]
      exact rd_last _ _
    · rw [rd_app (by rw [opI_len]; exact cnt_lt (by omega) hp)]
      exact opI_rd (by omega) hp
theorem opI_at : ∀ {N k : Nat}, k < cnt p N → ∃ i, i < N ∧ p i = true ∧ cnt p i = k
  | 0, k, h => by rw [cnt_zero] at h; omega
  | N + 1, k, h => by
    by_cases c : k < cnt p N
    · obtain ⟨i, hi, hp, e⟩ := opI_at c
      exact ⟨i, by omega, hp, e⟩
    · rw [cnt_succ] at h
      by_cases hp : p N = true
      · rw [if_pos hp] at h
        exact ⟨N, by omega, hp, by omega⟩
      · rw [if_neg hp] at h; omega
end
/-! ### an order of the rests is there -/
theorem exists_ranked (m : Int) (ws op : List Int) : ∃ q, Ranked m ws op q := by
  have hp := List.mergeSort_perm (List.range op.length) (fun a b => !ltQ m ws op b a)
  have ho := List.pairwise_mergeSort (le := fun a b => !ltQ m ws op b a) (fun a b c h1 h2 => by
    simp only [Bool.not_eq_true', ltQ_false] at *; omega) (fun a b => by
    by_cases e : a = b
    · subst e
      have : ltQ m ws op a a = false := by rw [ltQ_false]; omega
      simp [this]
    · cases h : ltQ m ws op b a with
      | false => rfl
      | true =>
        have : ltQ m ws op a b = false := by rw [ltQ_iff] at h; rw [ltQ_false]; omega
        simp [this]) (List.range op.length)
  obtain ⟨l, hl⟩ : ∃ l, (List.range op.length).mergeSort (fun a b => !ltQ m ws op b a) = l := ⟨_, rfl⟩
  rw [hl] at hp ho
  have hlen : l.length = op.length := by rw [hp.length_eq, List.length_range]
  have hnd : l.Nodup := hp.nodup_iff.2 List.nodup_range
  have hg : ∀ t, (h : t < op.length) → l.getD t 0 = l[t]'(by omega) := fun t h => by rw [List.getD_eq_getElem?_getD, List.getElem?_eq_getElem (by omega)]; rfl
  have hne : ∀ s t, s < t → t < op.length → l.getD s 0 ≠ l.getD t 0 := fun s t hst ht => by
    rw [hg s (by omega), hg t ht]
    exact List.pairwise_iff_getElem.1 hnd s t (by omega) (by omega) hst
  refine ⟨fun t => l.getD t 0, fun t ht => ?_, fun s t hs ht e => ?_, fun i hi => ?_, fun s t hst ht => ?_⟩
  · have : l.getD t 0 ∈ List.range op.length := hp.mem_iff.1 (by rw [hg t ht]; exact List.getElem_mem _)
    exact List.mem_range.1 this
  · rcases Nat.lt_trichotomy s t with h | h | h
    · exact absurd e (hne s t h ht)
    · exact h
    · exact absurd e.symm (hne t s h hs)
  · have hm : i ∈ l := hp.mem_iff.2 (List.mem_range.2 hi)
    obtain ⟨t, ht, e⟩ := List.getElem_of_mem hm
    exact ⟨t, by omega, by rw [hg t (by omega)]; exact e⟩
  · have h := List.pairwise_iff_getElem.1 ho s t (by omega) (by omega) hst
    rw [← hg s (by omega), ← hg t ht] at h
    simp only [Bool.not_eq_true'] at h
    exact ltQ_total (fun e => hne s t hst ht e.symm) h
/-! ### the wants -/
def restT (m : Int) (ws op : List Int) (t k : Nat) : Int := if rankQ m ws op k < t then -1 else restQ m ws op k
def wantF (m : Int) (ws : List Int) (p : Nat → Bool) (t j : Nat) : Int := if p j = true then qQ m ws (opI p ws.length) (cnt p j) + (if rankQ m ws (opI p ws.length) (cnt p j) < t then 1 else 0) else 0
def restF (m : Int) (ws : List Int) (p : Nat → Bool) (t j : Nat) : Int := if p j = true then restT m ws (opI p ws.length) t (cnt p j) else 0
section
variable {m : Int} {ws : List Int} {p : Nat → Bool}
theorem w_open {j : Nat} (hj : j < ws.length) (hp : p j = true) : wQ ws (opI p ws.length) (cnt p j) = rd ws (j : Int) := by
  unfold wQ; rw [opI_rd hj hp]
/-- What the best one so far is. -/
def Best (m : Int) (ws : List Int) (p : Nat → Bool) (t i : Nat) (x : Int) : Prop :=
  (cnt p i = 0 ∧ x = -1) ∨ ∃ b : Nat, b < i ∧ p b = true ∧ x = (b : Int) ∧ ∀ j, j < cnt p i → restT m ws (opI p ws.length) t j < restT m ws (opI p ws.length) t (cnt p b) ∨ (restT m ws (opI p ws.length) t j = restT m ws (opI p ws.length) t (cnt p b) ∧ cnt p b ≤ j)
theorem best_rank (HP : QPre m ws (opI p ws.length)) {q : Nat → Nat} (HR : Ranked m ws (opI p ws.length) q) {t b : Nat} (ht : t < (opI p ws.length).length) (hb : b < ws.length) (hp : p b = true)
    (h : ∀ j, j < cnt p ws.length → restT m ws (opI p ws.length) t j < restT m ws (opI p ws.length) t (cnt p b) ∨ (restT m ws (opI p ws.length) t j = restT m ws (opI p ws.length) t (cnt p b) ∧ cnt p b ≤ j)) : rankQ m ws (opI p ws.length) (cnt p b) = t := by
  have hl := opI_len (p := p) ws.length
  have hcb : cnt p b < (opI p ws.length).length := by rw [hl]; exact cnt_lt hb hp
  obtain ⟨s, hs, es⟩ := HR.all (cnt p b) hcb
  have hrs := HR.rank hs
  rw [es] at hrs
  have hj := h (q t) (by rw [← hl]; exact HR.lt t ht)
  have hrt := HR.rank ht
  have r1 := restQ_bound HP (HR.lt t ht)
  have e1 : restT m ws (opI p ws.length) t (q t) = restQ m ws (opI p ws.length) (q t) := by unfold restT; rw [hrt, if_neg (by omega)]
  rw [e1] at hj
  rw [hrs]
  rcases Nat.lt_trichotomy s t with c | c | c
  · have e2 : restT m ws (opI p ws.length) t (cnt p b) = -1 := by unfold restT; rw [hrs, if_pos c]
    rw [e2] at hj
    omega
  · exact c
  · have e2 : restT m ws (opI p ws.length) t (cnt p b) = restQ m ws (opI p ws.length) (cnt p b) := by unfold restT; rw [hrs, if_neg (by omega)]
    rw [e2] at hj
    have ha := HR.asc t s c hs
    rw [es, ltQ_iff] at ha
    omega
theorem l2_ev (HP : QPre m ws (opI p ws.length)) {q : Nat → Nat} (HR : Ranked m ws (opI p ws.length) q) {t : Nat} (ht : t < (opI p ws.length).length) (hN : ws.length ≤ 64) {L : Int} (hL : 0 < L ∧ L ≤ 64) {W : List Int}
    (hnext : Ev (fun k => spec_l6Wants.l1 k ws (mapB ws.length p) (mapR ws.length (wantF m ws p (t + 1))) (mapR ws.length (restF m ws p (t + 1))) (L - 1)) W) :
    ∀ d i, i + d = ws.length → ∀ x, Best m ws p t i x → Ev (fun k => spec_l6Wants.l2 k ws (mapB ws.length p) (mapR ws.length (wantF m ws p t)) (mapR ws.length (restF m ws p t)) L x (i : Int)) W := by
  have hl := opI_len (p := p) ws.length
  intro d
  induction d with
  | zero =>
    intro i hi x hx
    obtain rfl : i = ws.length := by omega
    rcases hx with ⟨h0, _⟩ | ⟨b, hb, hp, rfl, hbest⟩
    · have := HP.n0; omega
    have hr := best_rank HP HR ht hb hp hbest
    have hq := qQ_bound HP (show cnt p b < (opI p ws.length).length by rw [hl]; exact cnt_lt hb hp)
    have other : ∀ j, j ≠ b → p j = true → j < ws.length → rankQ m ws (opI p ws.length) (cnt p j) ≠ t := fun j hne hpj hj e => by
      obtain ⟨s1, hs1, e1⟩ := HR.all (cnt p j) (by rw [hl]; exact cnt_lt hj hpj)
      obtain ⟨s2, hs2, e2⟩ := HR.all (cnt p b) (by rw [hl]; exact cnt_lt hb hp)
      have r1 := HR.rank hs1
      have r2 := HR.rank hs2
      rw [e1] at r1
      rw [e2] at r2
      have : s1 = s2 := by omega
      subst this
      exact hne (cnt_inj hpj hp (e1.symm.trans e2))
    refine Ev.step (fun k => by rw [spec_l6Wants.l2]) (ev_if_neg (by omega) (ev_if_pos (by omega) (ev_if_pos (by rw [mapR_len]; omega) (ev_if_pos (by rw [mapR_len]; omega) ?_))))
    have e1 : (mapR ws.length (wantF m ws p t)).set b (wrap64 (rd (mapR ws.length (wantF m ws p t)) (b : Int) + 1)) = mapR ws.length (wantF m ws p (t + 1)) := by
      rw [mapR_rd _ hb, mapR_set]
      refine mapR_congr (fun j hj => ?_)
      unfold wantF
      by_cases e : j = b
      · subst e
        rw [if_pos rfl, if_pos hp, if_pos hp, hr, if_neg (by omega), if_pos (by omega), w64 (by omega) (by omega)]
        omega
      · rw [if_neg e]
        by_cases hpj : p j = true
        · rw [if_pos hpj, if_pos hpj]
          have := other j e hpj hj
          congr 1
          by_cases c : rankQ m ws (opI p ws.length) (cnt p j) < t
          · rw [if_pos c, if_pos (by omega)]
          · rw [if_neg c, if_neg (by omega)]
        · rw [if_neg hpj, if_neg hpj]
    have e2 : (mapR ws.length (restF m ws p t)).set b (-1) = mapR ws.length (restF m ws p (t + 1)) := by
      rw [mapR_set]
      refine mapR_congr (fun j hj => ?_)
      unfold restF restT
      by_cases e : j = b
      · subst e
        rw [if_pos rfl, if_pos hp, hr, if_pos (by omega)]
      · rw [if_neg e]
        by_cases hpj : p j = true
        · rw [if_pos hpj, if_pos hpj]
          have := other j e hpj hj
          by_cases c : rankQ m ws (opI p ws.length) (cnt p j) < t
          · rw [if_pos c, if_pos (by omega)]
          · rw [if_neg c, if_neg (by omega)]
        · rw [if_neg hpj, if_neg hpj]
    simp only [Int.toNat_natCast, e1, e2, w64 (x := L - 1) (by omega) (by omega)]
    exact hnext
  | succ d ih =>
    intro i hi x hx
    have hiN : i < ws.length := by omega
    refine Ev.step (fun k => by rw [spec_l6Wants.l2]) (ev_if_pos (by omega) (ev_if_pos (by omega) (ev_if_pos (by rw [mapB_len]; omega) ?_)))
    simp only [wsucc hiN (by omega)]
    by_cases hp : p i = true
    · refine ev_if_pos (by rw [mapB_rd p hiN]; exact hp) ?_
      rcases hx with ⟨h0, rfl⟩ | ⟨b, hb, hpb, rfl, hbest⟩
      · refine ev_if_pos (by omega) (ih (i + 1) (by omega) _ (.inr ⟨i, by omega, hp, rfl, fun j hj => ?_⟩))
        rw [cnt_succ, if_pos hp] at hj
        have : j = cnt p i := by omega
        subst this
        exact .inr ⟨rfl, Nat.le_refl _⟩
      · refine ev_if_neg (by omega) (ev_if_pos (by rw [mapR_len]; omega) (ev_if_pos (by omega) (ev_if_pos (by rw [mapR_len]; omega) ?_)))
        have r1 : rd (mapR ws.length (restF m ws p t)) (i : Int) = restT m ws (opI p ws.length) t (cnt p i) := by rw [mapR_rd _ hiN]; exact if_pos hp
        have r2 : rd (mapR ws.length (restF m ws p t)) (b : Int) = restT m ws (opI p ws.length) t (cnt p b) := by rw [mapR_rd _ (by omega)]; exact if_pos hpb
        by_cases c : rd (mapR ws.length (restF m ws p t)) (i : Int) > rd (mapR ws.length (restF m ws p t)) (b : Int)
        · refine ev_if_pos c (ih (i + 1) (by omega) _ (.inr ⟨i, by omega, hp, rfl, fun j hj => ?_⟩))
          rw [cnt_succ, if_pos hp] at hj
          rw [r1, r2] at c
          by_cases e : j = cnt p i
          · subst e; exact .inr ⟨rfl, Nat.le_refl _⟩
          · have := hbest j (by omega)
            exact .inl (by omega)
        · refine ev_if_neg c (ih (i + 1) (by omega) _ (.inr ⟨b, by omega, hpb, rfl, fun j hj => ?_⟩))
          rw [cnt_succ, if_pos hp] at hj
          rw [r1, r2] at c
          by_cases e : j = cnt p i
          · subst e
            have := cnt_lt hb hpb
            omega
          · exact hbest j (by omega)
    · refine ev_if_neg (by rw [mapB_rd p hiN]; exact hp) (ih (i + 1) (by omega) _ ?_)
      have e : cnt p (i + 1) = cnt p i := by rw [cnt_succ, if_neg hp, Nat.add_zero]
      rcases hx with ⟨h0, rfl⟩ | ⟨b, hb, hpb, rfl, hbest⟩
      · exact .inl ⟨by omega, rfl⟩
      · exact .inr ⟨b, by omega, hpb, rfl, fun j hj => hbest j (by omega)⟩
theorem wants_ev (HP : QPre m ws (opI p ws.length)) (hN : ws.length ≤ 64) :
    Ev (fun k => spec_l6Wants.f k m ws (mapB ws.length p) (sumQ ws (opI p ws.length) (opI p ws.length).length)) (mapR ws.length (wantF m ws p (leftQ m ws (opI p ws.length) (opI p ws.length).length).toNat)) := by
  obtain ⟨q, HR⟩ := exists_ranked m ws (opI p ws.length)
  have hl := opI_len (p := p) ws.length
  have hlb := left_bound HP
  have hcl := cnt_le (p := p) ws.length
  have hS := sumQ_pos HP
  obtain ⟨L, hL⟩ : ∃ L : Nat, leftQ m ws (opI p ws.length) (opI p ws.length).length = (L : Int) := ⟨(leftQ m ws (opI p ws.length) (opI p ws.length).length).toNat, by omega⟩
  have l1 : ∀ d t, t + d = L → Ev (fun k => spec_l6Wants.l1 k ws (mapB ws.length p) (mapR ws.length (wantF m ws p t)) (mapR ws.length (restF m ws p t)) ((L : Int) - t)) (mapR ws.length (wantF m ws p L)) := by
    intro d
    induction d with
    | zero =>
      intro t ht
      obtain rfl : t = L := by omega
      exact Ev.step (fun k => by rw [spec_l6Wants.l1]) (ev_if_neg (by omega) (ev_some rfl))
    | succ d ih =>
      intro t ht
      refine Ev.step (fun k => by rw [spec_l6Wants.l1]) (ev_if_pos (by omega) ?_)
      have hn := ih (t + 1) (by omega)
      rw [show (L : Int) - ((t + 1 : Nat) : Int) = (L : Int) - t - 1 by omega] at hn
      exact l2_ev HP HR (by omega) hN ⟨by omega, by omega⟩ hn ws.length 0 (by omega) (-1) (.inl ⟨cnt_zero, rfl⟩)
  have l0 : ∀ d i, i + d = ws.length → Ev (fun k => spec_l6Wants.l0 k m ws (mapB ws.length p) (sumQ ws (opI p ws.length) (opI p ws.length).length) (mapR ws.length (fun j => if j < i then wantF m ws p 0 j else 0)) (mapR ws.length (fun j => if j < i then restF m ws p 0 j else 0)) (leftQ m ws (opI p ws.length) (cnt p i)) (i : Int)) (mapR ws.length (wantF m ws p L)) := by
    intro d
    induction d with
    | zero =>
      intro i hi
      obtain rfl : i = ws.length := by omega
      refine Ev.step (fun k => by rw [spec_l6Wants.l0]) (ev_if_neg (by omega) ?_)
      have h := l1 L 0 (by omega)
      rw [mapR_congr (g := wantF m ws p 0) (fun j hj => if_pos hj), mapR_congr (g := restF m ws p 0) (fun j hj => if_pos hj), ← hl, hL]
      simpa using h
    | succ d ih =>
      intro i hi
      have hiN : i < ws.length := by omega
      have ih := ih (i + 1) (by omega)
      refine Ev.step (fun k => by rw [spec_l6Wants.l0]) (ev_if_pos (by omega) (ev_if_pos (by omega) (ev_if_pos (by rw [mapB_len]; omega) ?_)))
      simp only [wsucc hiN (by omega)]
      by_cases hp : p i = true
      · have hc : cnt p i < (opI p ws.length).length := by rw [hl]; exact cnt_lt hiN hp
        have hw := w_open (ws := ws) hiN hp
        have hm := mw_bound HP hc
        have hq := qQ_bound HP hc
        have hle := left_eq HP (cnt p i) (by omega)
        have h0 := HP.m0
        have h1 := HP.m1
        rw [hw] at hm
        have e0 : wrap64 (m * rd ws (i : Int)) = m * rd ws (i : Int) := w64 (by omega) (by omega)
        have e1 : wrap64 (Int.tdiv (m * rd ws (i : Int)) (sumQ ws (opI p ws.length) (opI p ws.length).length)) = qQ m ws (opI p ws.length) (cnt p i) := by
          have : Int.tdiv (m * rd ws (i : Int)) (sumQ ws (opI p ws.length) (opI p ws.length).length) = qQ m ws (opI p ws.length) (cnt p i) := by unfold qQ; rw [hw]
          rw [this, w64 (by omega) (by omega)]
        have e2 : Int.tmod (m * rd ws (i : Int)) (sumQ ws (opI p ws.length) (opI p ws.length).length) = restQ m ws (opI p ws.length) (cnt p i) := by unfold restQ; rw [hw]
        have s1 : (mapR ws.length (fun j => if j < i then wantF m ws p 0 j else 0)).set i (qQ m ws (opI p ws.length) (cnt p i)) = mapR ws.length (fun j => if j < i + 1 then wantF m ws p 0 j else 0) := by
          rw [mapR_set]
          refine mapR_congr (fun j hj => ?_)
          by_cases e : j = i
          · subst e
            rw [if_pos rfl, if_pos (by omega)]
            unfold wantF
            rw [if_pos hp, if_neg (by omega)]; omega
          · rw [if_neg e]
            by_cases c : j < i
            · rw [if_pos c, if_pos (by omega)]
            · rw [if_neg c, if_neg (by omega)]
        have s2 : (mapR ws.length (fun j => if j < i then restF m ws p 0 j else 0)).set i (restQ m ws (opI p ws.length) (cnt p i)) = mapR ws.length (fun j => if j < i + 1 then restF m ws p 0 j else 0) := by
          rw [mapR_set]
          refine mapR_congr (fun j hj => ?_)
          by_cases e : j = i
          · subst e
            rw [if_pos rfl, if_pos (by omega)]
            unfold restF restT
            rw [if_pos hp, if_neg (by omega)]
          · rw [if_neg e]
            by_cases c : j < i
            · rw [if_pos c, if_pos (by omega)]
            · rw [if_neg c, if_neg (by omega)]
        have r1 : rd (mapR ws.length (fun j => if j < i + 1 then wantF m ws p 0 j else 0)) (i : Int) = qQ m ws (opI p ws.length) (cnt p i) := by
          rw [mapR_rd _ hiN, if_pos (by omega)]
          unfold wantF
          rw [if_pos hp, if_neg (by omega)]; omega
        rw [cnt_succ, if_pos hp] at ih
        have e3 : wrap64 (leftQ m ws (opI p ws.length) (cnt p i) - qQ m ws (opI p ws.length) (cnt p i)) = leftQ m ws (opI p ws.length) (cnt p i + 1) := by rw [leftQ, w64 (by omega) (by omega)]
        refine ev_if_pos (by rw [mapB_rd p hiN]; exact hp) (ev_if_neg (by omega) (ev_if_pos (by rw [mapR_len]; omega) ?_))
        simp only [Option.bind_some]
        refine ev_if_pos (by rw [mapR_len]; omega) ?_
        simp only [Int.toNat_natCast, e0, e1, e2, s1, s2, r1, e3]
        exact ih
      · rw [cnt_succ, if_neg hp, Nat.add_zero] at ih
        refine ev_if_neg (by rw [mapB_rd p hiN]; exact hp) ?_
        rw [mapR_congr (g := fun j => if j < i + 1 then wantF m ws p 0 j else 0) (fun j hj => ?_), mapR_congr (f := fun j => if j < i then restF m ws p 0 j else 0) (g := fun j => if j < i + 1 then restF m ws p 0 j else 0) (fun j hj => ?_)]
        · exact ih
        · by_cases c : j < i
          · rw [if_pos c, if_pos (by omega)]
          · rw [if_neg c]
            by_cases e : j = i
            · subst e; rw [if_pos (by omega)]; exact (if_neg hp).symm
            · rw [if_neg (by omega)]
        · by_cases c : j < i
          · rw [if_pos c, if_pos (by omega)]
          · rw [if_neg c]
            by_cases e : j = i
            · subst e; rw [if_pos (by omega)]; exact (if_neg hp).symm
            · rw [if_neg (by omega)]
  unfold spec_l6Wants.f
  refine ev_if_pos (by omega) (ev_if_pos (by omega) ?_)
  have h := l0 ws.length 0 (by omega)
  rw [Int.toNat_natCast, mapR_repl]
  rw [hL, Int.toNat_natCast]
  rw [mapR_congr (g := fun _ => 0) (fun j hj => if_neg (by omega)), mapR_congr (f := fun j => if j < 0 then restF m ws p 0 j else 0) (g := fun _ => 0) (fun j hj => if_neg (by omega))] at h
  exact h
end
end Go.Proofs.Yteilcchcekmooaa.G
