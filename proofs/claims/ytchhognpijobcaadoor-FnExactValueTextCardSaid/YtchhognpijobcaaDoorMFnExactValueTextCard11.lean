import Derived.Test.YtchhognpijobcaaDoorMFnExactValueTextCard1
import Derived.Test.YtchhognpijobcaaDoorMFnExactValueTextCard9
import Derived.Test.YtchhognpijobcaaDoorMFnExactValueTextCard10
import Derived.Test.YtchhognpijobcaaDoorMFnExactValueTextCard7
import Derived.Test.YtchhognpijobcaaDoorMFnExactValueTextCard8
/- PValText -/
/-
  ValueText: the text of a value that is right, both ways.
-/
namespace Go.Proofs.YtchhognpijobcaaDoor.G
open Go.RowKit Go.Proofs.YtchhognpijobcaaDoorW.PrintWords Go.Proofs.YtchhognpijobcaaDoorW.PrintLast Go.Proofs.YtchhognpijobcaaDoorW.PrintMore
set_option linter.unusedVariables false
set_option linter.unusedSimpArgs false
theorem jn_sum (c : UInt8) : ∀ (n : Nat) (xs : List ByteArray), xs.length = n → (jn xs ⟨#[c]⟩).size ≤ (xs.map (fun x => x.size + 1)).sum := by
  intro n
  induction n with
  | zero => intro xs h; obtain rfl := List.eq_nil_of_length_eq_zero h; exact Nat.le_refl 0
  | succ n ih =>
    intro xs hl
    obtain ⟨zs, z, rfl⟩ : ∃ zs z, xs = zs ++ [z] := ⟨xs.dropLast, xs.getLast (by intro h; rw [h] at hl; simp at hl), (List.dropLast_concat_getLast _).symm⟩
    have hzl : zs.length = n := by simpa using hl
    have := ih zs hzl
    rw [List.map_append, List.sum_append, List.map_cons, List.map_nil, List.sum_cons, List.sum_nil]
    rcases List.eq_nil_or_concat zs with h0 | ⟨_, _, h0⟩
    · subst h0; rw [List.nil_append, jn_one]; omega
    · rw [jn_snoc zs z _ (by rw [h0]; simp), ByteArray.size_append, ByteArray.size_append]
      have : (⟨#[c]⟩ : ByteArray).size = 1 := rfl
      omega
theorem sumL_pos {m : IVal → Nat} : ∀ (ys : List IVal) (n : Nat), 0 < sumL m n ys → (∀ y ∈ ys, 0 < m y) ∧ sumL m n ys = n + (ys.map m).sum
  | [], n, _ => ⟨fun y hy => (by cases hy), (by simp [sumL])⟩
  | y :: ys, n, h => by
    by_cases c : m y = 0 ∨ n + m y > 300
    · rw [sumL_bad c] at h; omega
    · rw [sumL_good c] at h ⊢
      obtain ⟨h1, h2⟩ := sumL_pos ys _ h
      refine ⟨fun z hz => ?_, by rw [h2, List.map_cons, List.sum_cons]; omega⟩
      rcases List.mem_cons.1 hz with rfl | hz
      · omega
      · exact h1 z hz
theorem look_parts {r : Nat} {x : IVal} (h : 0 < lookN (r + 1) x) : shB x = true ∧ (∀ y ∈ x.f4, 0 < lookN r y) ∧ lookN (r + 1) x = 1 + (x.f4.map (lookN r)).sum ∧ lookN (r + 1) x ≤ 300 := by
  have hle := lookN_le (r + 1) x
  rw [lookN] at h ⊢
  by_cases c : shB x = true
  · rw [if_pos c] at h ⊢
    obtain ⟨h1, h2⟩ := sumL_pos _ _ h
    refine ⟨c, h1, h2, ?_⟩
    rw [lookN, if_pos c] at hle; exact hle
  · rw [if_neg c] at h; omega
/-- The kinds of a value whose shape is right. -/
theorem sh_cases {x : IVal} (h : shB x = true) : (x.f0 = 1 ∧ x.f1.size ≤ 100) ∨ x.f0 = 2 ∨ x.f0 = 3 ∨ x.f0 = 4 ∨ (x.f0 = 5 ∧ x.f3.length = x.f4.length ∧ ∀ k ∈ x.f3, k.size ≤ 20) := by
  unfold shB at h
  by_cases c1 : x.f0 = 1
  · rw [if_pos c1] at h
    simp only [Bool.and_eq_true, textB, decide_eq_true_eq] at h
    exact .inl ⟨c1, by omega⟩
  · by_cases c2 : x.f0 = 2
    · exact .inr (.inl c2)
    · by_cases c3 : x.f0 = 3
      · exact .inr (.inr (.inl c3))
      · by_cases c4 : x.f0 = 4
        · exact .inr (.inr (.inr (.inl c4)))
        · by_cases c5 : x.f0 = 5
          · rw [if_neg c1, if_neg c2, if_neg c3, if_neg c4, if_pos c5] at h
            simp only [Bool.and_eq_true, beq_iff_eq] at h
            refine .inr (.inr (.inr (.inr ⟨c5, by omega, fun k hk => ?_⟩)))
            obtain ⟨i, hi, rfl⟩ := List.getElem_of_mem hk
            have := namOk_name (allN_true.1 h.2.2.1 i hi)
            rw [rdS hi] at this
            simp only [nameB, Bool.and_eq_true] at this
            have := inB_true this.2.1
            omega
          · rw [if_neg c1, if_neg c2, if_neg c3, if_neg c4, if_neg c5] at h
            cases h
def colon (k t : ByteArray) : ByteArray := k ++ ⟨#[58]⟩ ++ t
def txtN : Nat → IVal → ByteArray
  | 0, _ => ⟨#[]⟩
  | n + 1, x =>
    if x.f0 = 1 then qt x.f1 else if x.f0 = 2 then decS x.f2 else if x.f0 = 3 then (if x.f2 = 1 then ⟨#[116, 114, 117, 101]⟩ else ⟨#[102, 97, 108, 115, 101]⟩)
    else if x.f0 = 5 then (⟨#[123]⟩ ++ jn (List.zipWith (fun k y => colon k (txtN n y)) x.f3 x.f4) ⟨#[44]⟩) ++ ⟨#[125]⟩
    else (⟨#[91]⟩ ++ jn (x.f4.map (txtN n)) ⟨#[44]⟩) ++ ⟨#[93]⟩
def partsN (n : Nat) (x : IVal) : List ByteArray := if x.f0 = 5 then List.zipWith (fun k y => colon k (txtN n y)) x.f3 x.f4 else x.f4.map (txtN n)
theorem sb1 (a : UInt8) : (⟨#[a]⟩ : ByteArray).size = 1 := rfl
theorem colon_size (k t : ByteArray) : (colon k t).size = k.size + t.size + 1 := by unfold colon; rw [ByteArray.size_append, ByteArray.size_append, sb1]; omega
theorem zip_sum (f : IVal → ByteArray) (g : IVal → Nat) : ∀ (ks : List ByteArray) (ys : List IVal), (∀ k ∈ ks, k.size ≤ 20) → (∀ y ∈ ys, (f y).size + 50 ≤ 300 * g y) → ((List.zipWith (fun k y => colon k (f y)) ks ys).map (fun x => x.size + 1)).sum ≤ 300 * (ys.map g).sum
  | [], ys, _, _ => by simp
  | k :: ks, [], _, _ => by simp
  | k :: ks, y :: ys, h1, h2 => by
    have := zip_sum f g ks ys (fun a ha => h1 a (by simp [ha])) (fun a ha => h2 a (by simp [ha]))
    have a1 := h1 k (by simp)
    have a2 := h2 y (by simp)
    rw [List.zipWith_cons_cons, List.map_cons, List.sum_cons, List.map_cons, List.sum_cons, colon_size]
    omega
theorem map_sum (f : IVal → ByteArray) (g : IVal → Nat) : ∀ (ys : List IVal), (∀ y ∈ ys, (f y).size + 50 ≤ 300 * g y) → ((ys.map f).map (fun x => x.size + 1)).sum ≤ 300 * (ys.map g).sum
  | [], _ => by simp
  | y :: ys, h2 => by
    have := map_sum f g ys (fun a ha => h2 a (by simp [ha]))
    have a2 := h2 y (by simp)
    rw [List.map_cons, List.map_cons, List.sum_cons, List.map_cons, List.sum_cons]
    omega
theorem parts_sum (r : Nat) (x : IVal) (hs : shB x = true) (hk : ∀ y ∈ x.f4, (txtN r y).size + 50 ≤ 300 * lookN r y) : ((partsN r x).map (fun x => x.size + 1)).sum ≤ 300 * (x.f4.map (lookN r)).sum := by
  unfold partsN
  by_cases c : x.f0 = 5
  · rw [if_pos c]
    rcases sh_cases hs with ⟨h, _⟩ | h | h | h | ⟨_, _, h⟩
    · omega
    · omega
    · omega
    · omega
    · exact zip_sum _ _ _ _ h hk
  · rw [if_neg c]
    exact map_sum _ _ _ hk
theorem txt_size : ∀ (r n : Nat) (x : IVal), SmI n x → 0 < lookN r x → (txtN r x).size + 50 ≤ 300 * lookN r x
  | 0, n, x, _, h => by simp [lookN] at h
  | r + 1, n, x, hsm, h => by
    obtain ⟨m, rfl, _, _, _, hkids⟩ := smI_parts hsm
    have hnum : -9223372036854775808 ≤ x.f2 ∧ x.f2 ≤ 9223372036854775807 := by rw [SmI] at hsm; exact hsm.1
    obtain ⟨hs, hk, he, hle⟩ := look_parts h
    have hkk : ∀ y ∈ x.f4, (txtN r y).size + 50 ≤ 300 * lookN r y := fun y hy => txt_size r m y (hkids y hy) (hk y hy)
    have hp := parts_sum r x hs hkk
    have hj := jn_sum 44 _ (partsN r x) rfl
    unfold partsN at hp hj
    rw [txtN, he]
    rcases sh_cases hs with ⟨c, h1⟩ | c | c | c | ⟨c, h2, h3⟩
    · rw [if_pos c]
      have := qt_size x.f1
      omega
    · rw [if_neg (by omega), if_pos c]
      have := decS_size hnum
      omega
    · rw [if_neg (by omega), if_neg (by omega), if_pos c]
      split
      · show 4 + 50 ≤ _; omega
      · show 5 + 50 ≤ _; omega
    · rw [if_neg (by omega), if_neg (by omega), if_neg (by omega), if_neg (by omega), ByteArray.size_append, ByteArray.size_append, sb1, sb1]
      rw [if_neg (by omega)] at hp hj
      omega
    · rw [if_neg (by omega), if_neg (by omega), if_neg (by omega), if_pos c, ByteArray.size_append, ByteArray.size_append, sb1, sb1]
      rw [if_pos c] at hp hj
      omega
theorem jn_take_le (c : UInt8) (xs : List ByteArray) (i : Nat) : (jn (xs.take i) ⟨#[c]⟩).size ≤ (xs.map (fun x => x.size + 1)).sum := by
  have h := jn_sum c _ (xs.take i) rfl
  have h2 : ((xs.take i).map (fun x => x.size + 1)).sum ≤ (xs.map (fun x => x.size + 1)).sum := by
    conv => rhs; rw [← List.take_append_drop i xs]
    rw [List.map_append, List.sum_append]; omega
  omega
theorem part_le (xs : List ByteArray) {i : Nat} (hi : i < xs.length) : xs[i].size ≤ (xs.map (fun x => x.size + 1)).sum := by
  have := le_sum_map (fun x : ByteArray => x.size + 1) (List.getElem_mem hi)
  omega
theorem parts_len5 {r : Nat} {x : IVal} (hs : shB x = true) (h : ¬ (x.f0 = 1 ∨ x.f0 = 2 ∨ x.f0 = 3)) : (partsN r x).length = x.f4.length := by
  unfold partsN
  rcases sh_cases hs with ⟨c, _⟩ | c | c | c | ⟨c, h2, _⟩
  · omega
  · omega
  · omega
  · rw [if_neg (by omega), List.length_map]
  · rw [if_pos c, List.length_zipWith]; omega
theorem part_map {r : Nat} {x : IVal} (c : x.f0 = 5) (hl : x.f3.length = x.f4.length) {i : Nat} (hi : i < x.f4.length) (hp : i < (partsN r x).length) : (partsN r x)[i] = colon (x.f3[i]'(by omega)) (txtN r x.f4[i]) := by
  unfold partsN
  simp only [if_pos c, List.getElem_zipWith]
theorem part_list {r : Nat} {x : IVal} (c : ¬ x.f0 = 5) {i : Nat} (hi : i < x.f4.length) (hp : i < (partsN r x).length) : (partsN r x)[i] = txtN r x.f4[i] := by
  unfold partsN
  simp only [if_neg c, List.getElem_map]
theorem written_ev : ∀ (r n : Nat) (x : IVal), SmI n x → 0 < lookN r x → Ev (fun k => impl_written.f k x.f0 x.f1 x.f2 x.f3 x.f4) (txtN r x)
  | 0, n, x, _, h => by simp [lookN] at h
  | r + 1, n, x, hsm, h => by
    obtain ⟨m, rfl, h1, _, h4, hkids⟩ := smI_parts hsm
    have hnum : -9223372036854775808 ≤ x.f2 ∧ x.f2 ≤ 9223372036854775807 := by rw [SmI] at hsm; exact hsm.1
    obtain ⟨hs, hk, he, hle⟩ := look_parts h
    have hkk : ∀ y ∈ x.f4, (txtN r y).size + 50 ≤ 300 * lookN r y := fun y hy => txt_size r m y (hkids y hy) (hk y hy)
    have hp := parts_sum r x hs hkk
    refine Ev.step (fun k => by rw [impl_written.f]) ?_
    rw [txtN]
    by_cases c1 : x.f0 = 1
    · rw [if_pos c1]
      exact ev_if_pos c1 (Ev.bind (ev_now (quoted_f x.f1 h1)) (Ev.now _))
    refine ev_if_neg c1 ?_
    rw [if_neg c1]
    by_cases c2 : x.f0 = 2
    · rw [if_pos c2]
      refine ev_if_pos c2 (Ev.bind (a := decS x.f2) (ev_now ?_) (Ev.now _))
      unfold impl_decimal.f
      rw [if_pos hnum]
    refine ev_if_neg c2 ?_
    rw [if_neg c2]
    by_cases c3 : x.f0 = 3
    · rw [if_pos c3]
      refine ev_if_pos c3 ?_
      by_cases d : x.f2 = 1
      · exact ev_rw (ev_if_pos d (Ev.now _)) (if_pos d).symm
      · exact ev_rw (ev_if_neg d (Ev.now _)) (if_neg d).symm
    refine ev_if_neg c3 ?_
    rw [if_neg c3]
    have hlen := parts_len5 (r := r) hs (by omega)
    have loop : ∀ (d i : Nat), i + d = x.f4.length → Ev (fun k => impl_written.l0 k ((partsN r x).take i) x.f4 x.f4.length i x.f0 x.f1 x.f2 x.f3 x.f4)
        (if x.f0 = 5 then (⟨#[123]⟩ ++ jn (partsN r x) ⟨#[44]⟩) ++ ⟨#[125]⟩ else (⟨#[91]⟩ ++ jn (partsN r x) ⟨#[44]⟩) ++ ⟨#[93]⟩) := by
      intro d
      induction d with
      | zero =>
        intro i hi
        have hj := jn_take_le 44 (partsN r x) i
        refine Ev.step (fun k => by rw [impl_written.l0]) (ev_if_neg (by omega) ?_)
        rw [List.take_of_length_le (by omega)] at hj ⊢
        refine Ev.bind (ev_now (join_f _ _ (by omega) (by omega))) ?_
        by_cases c : x.f0 = 5
        · exact ev_rw (ev_if_pos c (ev_if_pos (by omega) (ev_if_pos (by rw [ByteArray.size_append, sb1]; omega) (Ev.now _)))) (if_pos c).symm
        · exact ev_rw (ev_if_neg c (ev_if_pos (by omega) (ev_if_pos (by rw [ByteArray.size_append, sb1]; omega) (Ev.now _)))) (if_neg c).symm
      | succ d ih =>
        intro i hid
        have hi : i < x.f4.length := by omega
        have hi2 : i < (partsN r x).length := by omega
        have ih := ih (i + 1) (by omega)
        have hpl := part_le (partsN r x) hi2
        rw [List.take_succ_eq_append_getElem hi2] at ih
        have hw := written_ev r m x.f4[i] (hkids _ (List.getElem_mem hi)) (hk _ (List.getElem_mem hi))
        have htl : ((partsN r x).take i).length < 8796093022208 := by rw [List.length_take]; omega
        refine Ev.step (fun k => by rw [impl_written.l0]) (ev_if_pos (by omega) (ev_if_pos (by omega) (ev_if_pos (by omega) ?_)))
        rw [wsucc (n := x.f4.length) hi (by omega), rdIV hi]
        refine Ev.bind hw ?_
        by_cases c : x.f0 = 5
        · rcases sh_cases hs with ⟨h', _⟩ | h' | h' | h' | ⟨_, hkl, hk20⟩
          · omega
          · omega
          · omega
          · omega
          have hi3 : i < x.f3.length := by omega
          rw [part_map c hkl hi hi2] at ih hpl
          rw [colon_size] at hpl
          refine ev_if_pos c (ev_if_pos (by omega) ?_)
          rw [rdS hi3]
          exact ev_if_pos (by omega) (ev_if_pos (by rw [ByteArray.size_append, sb1]; omega) (ev_if_pos htl ih))
        · rw [part_list c hi hi2] at ih
          exact ev_if_neg c (ev_if_pos htl ih)
    have := loop x.f4.length 0 (by omega)
    by_cases c : x.f0 = 5
    · rw [if_pos c] at this ⊢
      unfold partsN at this
      simp only [if_pos c, List.take_zero] at this
      exact this
    · rw [if_neg c] at this ⊢
      unfold partsN at this
      simp only [if_neg c, List.take_zero] at this
      exact this
theorem l4Print_ev : ∀ (r n : Nat) (x : IVal), SmI n x → 0 < lookN r x → Ev (fun k => spec_l4Print.f k x.f0 x.f1 x.f2 x.f3 x.f4) (txtN r x)
  | 0, n, x, _, h => by simp [lookN] at h
  | r + 1, n, x, hsm, h => by
    obtain ⟨m, rfl, h1, _, h4, hkids⟩ := smI_parts hsm
    have hnum : -9223372036854775808 ≤ x.f2 ∧ x.f2 ≤ 9223372036854775807 := by rw [SmI] at hsm; exact hsm.1
    obtain ⟨hs, hk, he, hle⟩ := look_parts h
    have hkk : ∀ y ∈ x.f4, (txtN r y).size + 50 ≤ 300 * lookN r y := fun y hy => txt_size r m y (hkids y hy) (hk y hy)
    have hp := parts_sum r x hs hkk
    refine Ev.step (fun k => by rw [spec_l4Print.f]) ?_
    rw [txtN]
    by_cases c1 : x.f0 = 1
    · rw [if_pos c1]
      exact ev_if_pos c1 (Ev.bind (l4Quoted_ev x.f1 h1) (Ev.now _))
    refine ev_if_neg c1 ?_
    rw [if_neg c1]
    by_cases c2 : x.f0 = 2
    · rw [if_pos c2]
      exact ev_if_pos c2 (Ev.bind (l4Int_ev x.f2 hnum) (Ev.now _))
    refine ev_if_neg c2 ?_
    rw [if_neg c2]
    by_cases c3 : x.f0 = 3
    · rw [if_pos c3]
      refine ev_if_pos c3 ?_
      by_cases d : x.f2 = 1
      · exact ev_rw (ev_if_pos d (Ev.now _)) (if_pos d).symm
      · exact ev_rw (ev_if_neg d (Ev.now _)) (if_neg d).symm
    refine ev_if_neg c3 ?_
    rw [if_neg c3]
    have hlen := parts_len5 (r := r) hs (by omega)
    have loop : ∀ (a z : UInt8) (d i : Nat), i + d = x.f4.length → Ev (fun k => spec_l4Print.l0 k (⟨#[a]⟩ ++ jn ((partsN r x).take i) ⟨#[44]⟩) ⟨#[z]⟩ i x.f0 x.f1 x.f2 x.f3 x.f4) ((⟨#[a]⟩ ++ jn (partsN r x) ⟨#[44]⟩) ++ ⟨#[z]⟩) := by
      intro a z d
      induction d with
      | zero =>
        intro i hi
        have hj := jn_take_le 44 (partsN r x) i
        refine Ev.step (fun k => by rw [spec_l4Print.l0]) (ev_if_neg (by omega) ?_)
        rw [List.take_of_length_le (by omega)] at hj ⊢
        exact ev_if_pos (by rw [ByteArray.size_append, sb1, sb1]; omega) (Ev.now _)
      | succ d ih =>
        intro i hid
        have hi : i < x.f4.length := by omega
        have hi2 : i < (partsN r x).length := by omega
        have ih := ih (i + 1) (by omega)
        have hpl := part_le (partsN r x) hi2
        have hj := jn_take_le 44 (partsN r x) i
        have hj0 : (⟨#[a]⟩ ++ jn ((partsN r x).take i) ⟨#[44]⟩ : ByteArray).size = 1 + (jn ((partsN r x).take i) ⟨#[44]⟩).size := by rw [ByteArray.size_append, sb1]
        rw [jn_take_succ (partsN r x) ⟨#[44]⟩ ⟨#[a]⟩ hi2] at ih
        have hw := l4Print_ev r m x.f4[i] (hkids _ (List.getElem_mem hi)) (hk _ (List.getElem_mem hi))
        refine Ev.step (fun k => by rw [spec_l4Print.l0]) (ev_if_pos (by omega) ?_)
        simp only [wsucc (n := x.f4.length) hi (by omega), rdIV hi]
        by_cases c : x.f0 = 5
        · rcases sh_cases hs with ⟨h', _⟩ | h' | h' | h' | ⟨_, hkl, hk20⟩
          · omega
          · omega
          · omega
          · omega
          have hi3 : i < x.f3.length := by omega
          rw [part_map c hkl hi hi2] at ih hpl
          rw [colon_size] at hpl
          simp only [rdS hi3]
          by_cases ci : 0 < i
          · rw [if_pos ci] at ih
            refine ev_if_pos (by omega) (ev_if_pos (by omega) (ev_if_pos c (ev_if_pos (by omega) (ev_if_pos (by omega) (ev_if_pos (by rw [ByteArray.size_append, sb1]; omega) (ev_if_pos (by simp only [ByteArray.size_append, sb1] at hj0 ⊢; omega) (Ev.bind hw (ev_if_pos (by simp only [ByteArray.size_append, sb1] at hj0 ⊢; omega) ?_))))))))
            unfold colon at ih
            simp only [ByteArray.append_assoc] at ih ⊢
            exact ih
          · rw [if_neg ci] at ih
            obtain rfl : i = 0 := by omega
            have e0 : (⟨#[a]⟩ ++ jn ((partsN r x).take 0) ⟨#[44]⟩ : ByteArray) = ⟨#[a]⟩ := by rw [List.take_zero, jn_nil]; exact ByteArray.append_empty
            rw [e0]
            refine ev_if_neg (by omega) (ev_if_pos c (ev_if_pos (by omega) (ev_if_pos (by omega) (ev_if_pos (by rw [sb1]; omega) (ev_if_pos (by rw [ByteArray.size_append, sb1]; omega) (Ev.bind hw (ev_if_pos (by simp only [ByteArray.size_append, sb1]; omega) ?_)))))))
            unfold colon at ih
            simp only [ByteArray.append_assoc] at ih ⊢
            exact ih
        · rw [part_list c hi hi2] at ih hpl
          by_cases ci : 0 < i
          · rw [if_pos ci] at ih
            exact ev_if_pos (by omega) (ev_if_pos (by omega) (ev_if_neg c (ev_if_pos (by omega) (Ev.bind hw (ev_if_pos (by rw [ByteArray.size_append, sb1]; omega) ih)))))
          · rw [if_neg ci] at ih
            obtain rfl : i = 0 := by omega
            have e0 : (⟨#[a]⟩ ++ jn ((partsN r x).take 0) ⟨#[44]⟩ : ByteArray) = ⟨#[a]⟩ := by rw [List.take_zero, jn_nil]; exact ByteArray.append_empty
            rw [e0]
            exact ev_if_neg (by omega) (ev_if_neg c (ev_if_pos (by omega) (Ev.bind hw (ev_if_pos (by rw [sb1]; omega) ih))))
    have e0 : ∀ a : UInt8, (⟨#[a]⟩ ++ jn ((partsN r x).take 0) ⟨#[44]⟩ : ByteArray) = ⟨#[a]⟩ := fun a => by rw [List.take_zero, jn_nil]; exact ByteArray.append_empty
    by_cases c : x.f0 = 5
    · have := loop 123 125 x.f4.length 0 (by omega)
      rw [e0] at this
      rw [if_pos c]
      unfold partsN at this
      simp only [if_pos c] at this
      exact ev_if_pos c (Ev.step (fun k => by rw [spec_l4Print.j0]; rfl) this)
    · have := loop 91 93 x.f4.length 0 (by omega)
      rw [e0] at this
      rw [if_neg c]
      unfold partsN at this
      simp only [if_neg c] at this
      exact ev_if_neg c (Ev.step (fun k => by rw [spec_l4Print.j0]; rfl) this)
end Go.Proofs.YtchhognpijobcaaDoor.G

/- G26 -/
-- Laid by wip/g/gprint.py out of the translation, by the kit's print program. Lean checks it.
namespace Go.Proofs.YtchhognpijobcaaDoor.G
open Go.RowKit Go.Proofs.YtchhognpijobcaaDoorW.PrintWords Go.Proofs.YtchhognpijobcaaDoorW.PrintLast Go.Proofs.YtchhognpijobcaaDoorW.PrintMore
attribute [local go_sem] max2_int min2_int max_two min_two max_three min_three max_four min_four   -- for this text's walks alone
set_option linter.unusedVariables false
set_option linter.unusedSimpArgs false

/-! ### impl_ValueOk: function 26 -/
def impl_ValueOk.f (k : Nat) (a0_0 : Int) (a0_1 : ByteArray) (a0_2 : Int) (l0_3 : List ByteArray) (l0_4 : List (S33)) : Option (Bool) := (impl_measured.f k a0_0 a0_1 a0_2 l0_3 l0_4 6).bind fun t227 => (some (decide (t227 ≤ 300)))
set_option maxHeartbeats 8000000 in
set_option maxRecDepth 100000 in
theorem impl_ValueOk.calls (k : Nat) (a0_0 : Int) (a0_1 : ByteArray) (a0_2 : Int) (A0_3 : Option Addr) (c0_3 : Nat) (l0_3 : List ByteArray) (A0_4 : Option Addr) (c0_4 : Nat) (l0_4 : List (S33)) (r : Bool) (w : World) (hr0_3 : Kd.C Kd.string w A0_3 l0_3.length l0_3) (hc0_3 : l0_3.length ≤ c0_3) (hr0_4 : Kd.C k33 w A0_4 l0_4.length l0_4) (hc0_4 : l0_4.length ≤ c0_4) (h : impl_ValueOk.f k a0_0 a0_1 a0_2 l0_3 l0_4 = some r) :
    Calls Tryd.prog 26 #[.agg #[.int .i64 a0_0, .string a0_1, .int .i64 a0_2, .slice A0_3 l0_3.length c0_3, .slice A0_4 l0_4.length c0_4]] w fun e w' => e = .returned (.bool r) ∧ Below w.heap.size w w' := by
  have hu33 := Tryd.underlying33
  have HR0_3 := Aside0.mk hr0_3
  have HC0_3 := Aside0.mk hc0_3
  clear hr0_3 hc0_3
  have HR0_4 := Aside0.mk hr0_4
  have HC0_4 := Aside0.mk hc0_4
  clear hr0_4 hc0_4
  have HB := Aside0.mk (Below.refl w.heap.size w)
  have H : ((impl_measured.f k a0_0 a0_1 a0_2 l0_3 l0_4 6).bind fun t227 => (some (decide (t227 ≤ 300)))) = some r := h
  clear h
  replace H := Option.bind_eq_some_iff.mp H
  obtain ⟨t227, A20, H⟩ := H
  replace H : (some (decide (t227 ≤ 300))) = some r := H
  have A2 := Aside0.mk A20
  clear A20
  obtain rfl := Option.some.inj H
  go_enter Tryd.func26, Tryd.ntmps26
  go_wp2_with (first | ((with_reducible refine gate_dst (N := 1) rfl ?_); refine box_event ?hg (N := 1) ?hd (cs := #[.int .i64 a0_0, .string a0_1, .int .i64 a0_2, .slice A0_3 l0_3.length c0_3, .slice A0_4 l0_4.length c0_4]) (t := 33) ?hr ?_; (case hd => rfl); (case hg => rfl); (case hr => first | (go_simp; done) | (go_simp; rfl)); intro gb226 hg w3 hbox hb; have n0_ := Aside0.mk (below_step (by repeat (first | (with_reducible first | exact HB.out | apply below_alloc | apply pw_below_drewN | apply below_drew1) | exact HB.out)) hb); have n1_ := Aside0.mk (hbox); have n2_ := Aside0.mk ((by rw [hg]; exact (below_size (by repeat (first | (with_reducible first | exact HB.out | apply below_alloc | apply pw_below_drewN | apply below_drew1) | exact HB.out))) : w.heap.size ≤ gb226)); have n3_ := Aside0.mk ((by rw [hg]; exact (below_size (by repeat (first | (with_reducible first | exact HB.out | apply below_alloc | apply pw_below_drewN | apply below_drew1) | exact HB.out))) : w.heap.size ≤ gb226)); clear HB; have HB := n0_; have BK226 := n1_; have GW226 := n2_; have GE226 := n3_; clear n0_ n1_ n2_ n3_; clear hb hbox hg; have hcz4_0 : w3.cell? ⟨gb226, 0, none⟩ = some (.int .i64 a0_0) := (blk_cell BK226.out 0).trans rfl; have hcz4_1 : w3.cell? ⟨gb226, 1, none⟩ = some (.string a0_1) := (blk_cell BK226.out 1).trans rfl; have hcz4_2 : w3.cell? ⟨gb226, 2, none⟩ = some (.int .i64 a0_2) := (blk_cell BK226.out 2).trans rfl; have hcz4_3 : w3.cell? ⟨gb226, 3, none⟩ = some (.slice A0_3 l0_3.length c0_3) := (blk_cell BK226.out 3).trans rfl; have hcz4_4 : w3.cell? ⟨gb226, 4, none⟩ = some (.slice A0_4 l0_4.length c0_4) := (blk_cell BK226.out 4).trans rfl; have hfz4_0 := blk_frozen BK226.out 0; have hfz4_1 := blk_frozen BK226.out 1; have hfz4_2 := blk_frozen BK226.out 2; have hfz4_3 := blk_frozen BK226.out 3; have hfz4_4 := blk_frozen BK226.out 4) | ((with_reducible refine gate_callee (f := 43) rfl ?_); refine goesL_ (some 4) rfl rfl Tryd.func43 (by kernel_rfl) rfl #[.agg #[.int .i64 a0_0, .string a0_1, .int .i64 a0_2, .slice A0_3 l0_3.length c0_3, .slice A0_4 l0_4.length c0_4], .int .i64 6] rfl (by (try simp only [List.map_toArray, List.map_cons, List.map_nil]); first | done | rfl | (simp only [List.length_drop, List.length_take]; rfl)) ?_; (with_reducible refine (impl_measured.calls k a0_0 a0_1 a0_2 _ _ l0_3 _ _ l0_4 6 t227 _ ?side1 ?side2 ?side3 ?side4 A2.out).mono ?_); (case side1 => repeat (first | exact (Kd.C_below HR0_3.out HB.out) | (with_reducible refine Kd.C_alloc ?_ _) | (with_reducible refine Kd.C_drewN ?_ _) | (with_reducible refine Kd.C_drew ?_))); (case side2 => exact HC0_3.out); (case side3 => repeat (first | exact (Kd.C_below HR0_4.out HB.out) | (with_reducible refine Kd.C_alloc ?_ _) | (with_reducible refine Kd.C_drewN ?_ _) | (with_reducible refine Kd.C_drew ?_))); (case side4 => exact HC0_4.out); rintro e w5 ⟨rfl, hb⟩; refine ⟨_, rfl, ?_⟩; have n0_ := Aside0.mk (blk_below (g := gb226) (o := .cells #[.int .i64 a0_0, .string a0_1, .int .i64 a0_2, .slice A0_3 l0_3.length c0_3, .slice A0_4 l0_4.length c0_4] 33 (0, 0)) (by (with_reducible repeat (first | refine blk_drewN ?_ _ | refine blk_drew ?_ | refine blk_alloc ?_ _)); exact BK226.out) hb); have n1_ := Aside0.mk (below_step (by repeat (first | (with_reducible first | exact HB.out | apply below_alloc | apply pw_below_drewN | apply below_drew1 | refine below_set ?_ GE226.out) | exact HB.out)) hb); clear BK226; clear HB; have BK226 := n0_; have HB := n1_; clear n0_ n1_; (try clear hb); (try clear hb2); (try clear hk); (try clear hi)))
  go_ret
  exact ⟨by first | rfl | (simp [errW_none, errW_some] <;> rfl) | (simp [*, errW_none, errW_some] <;> rfl), by repeat (first | (with_reducible first | exact HB.out | apply below_alloc | apply pw_below_drewN | apply below_drew1 | refine below_set ?_ GE226.out) | exact HB.out)⟩

end Go.Proofs.YtchhognpijobcaaDoor.G

/- G22 -/
-- Laid by wip/g/gprint.py out of the translation, by the kit's print program. Lean checks it.
namespace Go.Proofs.YtchhognpijobcaaDoor.G
open Go.RowKit Go.Proofs.YtchhognpijobcaaDoorW.PrintWords Go.Proofs.YtchhognpijobcaaDoorW.PrintLast Go.Proofs.YtchhognpijobcaaDoorW.PrintMore
attribute [local go_sem] max2_int min2_int max_two min_two max_three min_three max_four min_four   -- for this text's walks alone
set_option linter.unusedVariables false
set_option linter.unusedSimpArgs false

/-! ### spec_ValueOk: function 22 -/
def spec_ValueOk.f (k : Nat) (a0_0 : Int) (a0_1 : ByteArray) (a0_2 : Int) (l0_3 : List ByteArray) (l0_4 : List (S33)) : Option (Bool) := (spec_l4Look.f k a0_0 a0_1 a0_2 l0_3 l0_4 6).bind fun t141 => (some (decide (t141 > 0)))
set_option maxHeartbeats 8000000 in
set_option maxRecDepth 100000 in
theorem spec_ValueOk.calls (k : Nat) (a0_0 : Int) (a0_1 : ByteArray) (a0_2 : Int) (A0_3 : Option Addr) (c0_3 : Nat) (l0_3 : List ByteArray) (A0_4 : Option Addr) (c0_4 : Nat) (l0_4 : List (S33)) (r : Bool) (w : World) (hr0_3 : Kd.C Kd.string w A0_3 l0_3.length l0_3) (hc0_3 : l0_3.length ≤ c0_3) (hr0_4 : Kd.C k33 w A0_4 l0_4.length l0_4) (hc0_4 : l0_4.length ≤ c0_4) (h : spec_ValueOk.f k a0_0 a0_1 a0_2 l0_3 l0_4 = some r) :
    Calls Tryd.prog 22 #[.agg #[.int .i64 a0_0, .string a0_1, .int .i64 a0_2, .slice A0_3 l0_3.length c0_3, .slice A0_4 l0_4.length c0_4]] w fun e w' => e = .returned (.bool r) ∧ Below w.heap.size w w' := by
  have hu33 := Tryd.underlying33
  have HR0_3 := Aside0.mk hr0_3
  have HC0_3 := Aside0.mk hc0_3
  clear hr0_3 hc0_3
  have HR0_4 := Aside0.mk hr0_4
  have HC0_4 := Aside0.mk hc0_4
  clear hr0_4 hc0_4
  have HB := Aside0.mk (Below.refl w.heap.size w)
  have H : ((spec_l4Look.f k a0_0 a0_1 a0_2 l0_3 l0_4 6).bind fun t141 => (some (decide (t141 > 0)))) = some r := h
  clear h
  replace H := Option.bind_eq_some_iff.mp H
  obtain ⟨t141, A20, H⟩ := H
  replace H : (some (decide (t141 > 0))) = some r := H
  have A2 := Aside0.mk A20
  clear A20
  obtain rfl := Option.some.inj H
  go_enter Tryd.func22, Tryd.ntmps22
  go_wp2_with (first | ((with_reducible refine gate_dst (N := 1) rfl ?_); refine box_event ?hg (N := 1) ?hd (cs := #[.int .i64 a0_0, .string a0_1, .int .i64 a0_2, .slice A0_3 l0_3.length c0_3, .slice A0_4 l0_4.length c0_4]) (t := 33) ?hr ?_; (case hd => rfl); (case hg => rfl); (case hr => first | (go_simp; done) | (go_simp; rfl)); intro gb140 hg w3 hbox hb; have n0_ := Aside0.mk (below_step (by repeat (first | (with_reducible first | exact HB.out | apply below_alloc | apply pw_below_drewN | apply below_drew1) | exact HB.out)) hb); have n1_ := Aside0.mk (hbox); have n2_ := Aside0.mk ((by rw [hg]; exact (below_size (by repeat (first | (with_reducible first | exact HB.out | apply below_alloc | apply pw_below_drewN | apply below_drew1) | exact HB.out))) : w.heap.size ≤ gb140)); have n3_ := Aside0.mk ((by rw [hg]; exact (below_size (by repeat (first | (with_reducible first | exact HB.out | apply below_alloc | apply pw_below_drewN | apply below_drew1) | exact HB.out))) : w.heap.size ≤ gb140)); clear HB; have HB := n0_; have BK140 := n1_; have GW140 := n2_; have GE140 := n3_; clear n0_ n1_ n2_ n3_; clear hb hbox hg; have hcz4_0 : w3.cell? ⟨gb140, 0, none⟩ = some (.int .i64 a0_0) := (blk_cell BK140.out 0).trans rfl; have hcz4_1 : w3.cell? ⟨gb140, 1, none⟩ = some (.string a0_1) := (blk_cell BK140.out 1).trans rfl; have hcz4_2 : w3.cell? ⟨gb140, 2, none⟩ = some (.int .i64 a0_2) := (blk_cell BK140.out 2).trans rfl; have hcz4_3 : w3.cell? ⟨gb140, 3, none⟩ = some (.slice A0_3 l0_3.length c0_3) := (blk_cell BK140.out 3).trans rfl; have hcz4_4 : w3.cell? ⟨gb140, 4, none⟩ = some (.slice A0_4 l0_4.length c0_4) := (blk_cell BK140.out 4).trans rfl; have hfz4_0 := blk_frozen BK140.out 0; have hfz4_1 := blk_frozen BK140.out 1; have hfz4_2 := blk_frozen BK140.out 2; have hfz4_3 := blk_frozen BK140.out 3; have hfz4_4 := blk_frozen BK140.out 4) | ((with_reducible refine gate_callee (f := 40) rfl ?_); refine goesL_ (some 4) rfl rfl Tryd.func40 (by kernel_rfl) rfl #[.agg #[.int .i64 a0_0, .string a0_1, .int .i64 a0_2, .slice A0_3 l0_3.length c0_3, .slice A0_4 l0_4.length c0_4], .int .i64 6] rfl (by (try simp only [List.map_toArray, List.map_cons, List.map_nil]); first | done | rfl | (simp only [List.length_drop, List.length_take]; rfl)) ?_; (with_reducible refine (spec_l4Look.calls k a0_0 a0_1 a0_2 _ _ l0_3 _ _ l0_4 6 t141 _ ?side1 ?side2 ?side3 ?side4 A2.out).mono ?_); (case side1 => repeat (first | exact (Kd.C_below HR0_3.out HB.out) | (with_reducible refine Kd.C_alloc ?_ _) | (with_reducible refine Kd.C_drewN ?_ _) | (with_reducible refine Kd.C_drew ?_))); (case side2 => exact HC0_3.out); (case side3 => repeat (first | exact (Kd.C_below HR0_4.out HB.out) | (with_reducible refine Kd.C_alloc ?_ _) | (with_reducible refine Kd.C_drewN ?_ _) | (with_reducible refine Kd.C_drew ?_))); (case side4 => exact HC0_4.out); rintro e w5 ⟨rfl, hb⟩; refine ⟨_, rfl, ?_⟩; have n0_ := Aside0.mk (blk_below (g := gb140) (o := .cells #[.int .i64 a0_0, .string a0_1, .int .i64 a0_2, .slice A0_3 l0_3.length c0_3, .slice A0_4 l0_4.length c0_4] 33 (0, 0)) (by (with_reducible repeat (first | refine blk_drewN ?_ _ | refine blk_drew ?_ | refine blk_alloc ?_ _)); exact BK140.out) hb); have n1_ := Aside0.mk (below_step (by repeat (first | (with_reducible first | exact HB.out | apply below_alloc | apply pw_below_drewN | apply below_drew1 | refine below_set ?_ GE140.out) | exact HB.out)) hb); clear BK140; clear HB; have BK140 := n0_; have HB := n1_; clear n0_ n1_; (try clear hb); (try clear hb2); (try clear hk); (try clear hi)))
  go_ret
  exact ⟨by first | rfl | (simp [errW_none, errW_some] <;> rfl) | (simp [*, errW_none, errW_some] <;> rfl), by repeat (first | (with_reducible first | exact HB.out | apply below_alloc | apply pw_below_drewN | apply below_drew1 | refine below_set ?_ GE140.out) | exact HB.out)⟩

end Go.Proofs.YtchhognpijobcaaDoor.G

/- PValB -/
/-
  ValueOk, both.
-/
namespace Go.Proofs.YtchhognpijobcaaDoor.G
open Go.RowKit Go.Proofs.YtchhognpijobcaaDoorW.PrintWords Go.Proofs.YtchhognpijobcaaDoorW.PrintLast Go.Proofs.YtchhognpijobcaaDoorW.PrintMore
set_option linter.unusedVariables false
set_option linter.unusedSimpArgs false
def valB (x : IVal) : Bool := decide (0 < lookN 6 x)
theorem specValueOk_ev {n : Nat} (x : IVal) (h : SmI n x) : Ev (fun k => spec_ValueOk.f k x.f0 x.f1 x.f2 x.f3 x.f4) (valB x) := by
  unfold spec_ValueOk.f valB
  exact Ev.bind (l4Look_ev 6 n x (by omega) h) (ev_some (by rw [decide_eq_decide]; omega))
theorem implValueOk_ev {n : Nat} (x : IVal) (h : SmI n x) : Ev (fun k => impl_ValueOk.f k x.f0 x.f1 x.f2 x.f3 x.f4) (valB x) := by
  unfold impl_ValueOk.f valB
  refine Ev.bind (measured_ev 6 n x (by omega) h) (ev_some ?_)
  have := lookN_le 6 x
  unfold bigN
  rw [decide_eq_decide]
  split <;> omega
end Go.Proofs.YtchhognpijobcaaDoor.G

/- G11 -/
-- Laid by wip/g/gprint.py out of the translation, by the kit's print program. Lean checks it.
namespace Go.Proofs.YtchhognpijobcaaDoor.G
open Go.RowKit Go.Proofs.YtchhognpijobcaaDoorW.PrintWords Go.Proofs.YtchhognpijobcaaDoorW.PrintLast Go.Proofs.YtchhognpijobcaaDoorW.PrintMore
attribute [local go_sem] max2_int min2_int max_two min_two max_three min_three max_four min_four   -- for this text's walks alone
set_option linter.unusedVariables false
set_option linter.unusedSimpArgs false

--IMPORT Derived.Test.YtchhognpijobcaaDoorGKShape
/-! ### impl_ValueText: function 11 -/
def impl_ValueText.f (k : Nat) (a0_0 : Int) (a0_1 : ByteArray) (a0_2 : Int) (l0_3 : List ByteArray) (l0_4 : List (S33)) : Option (ByteArray) := (impl_ValueOk.f k a0_0 a0_1 a0_2 l0_3 l0_4).bind fun t250 => (if t250 = true then ((impl_written.f k a0_0 a0_1 a0_2 l0_3 l0_4).bind fun t251 => (some t251)) else (some (⟨#[]⟩ : ByteArray)))
set_option maxHeartbeats 8000000 in
set_option maxRecDepth 100000 in
theorem impl_ValueText.calls (k : Nat) (a0_0 : Int) (a0_1 : ByteArray) (a0_2 : Int) (A0_3 : Option Addr) (c0_3 : Nat) (l0_3 : List ByteArray) (A0_4 : Option Addr) (c0_4 : Nat) (l0_4 : List (S33)) (r : ByteArray) (w : World) (hr0_3 : Kd.C Kd.string w A0_3 l0_3.length l0_3) (hc0_3 : l0_3.length ≤ c0_3) (hr0_4 : Kd.C k33 w A0_4 l0_4.length l0_4) (hc0_4 : l0_4.length ≤ c0_4) (hsh_ : SH w) (h : impl_ValueText.f k a0_0 a0_1 a0_2 l0_3 l0_4 = some r) :
    Calls Tryd.prog 11 #[.agg #[.int .i64 a0_0, .string a0_1, .int .i64 a0_2, .slice A0_3 l0_3.length c0_3, .slice A0_4 l0_4.length c0_4]] w fun e w' => e = .returned (.string r) ∧ Below w.heap.size w w' := by
  have hu33 := Tryd.underlying33
  have HR0_3 := Aside0.mk hr0_3
  have HC0_3 := Aside0.mk hc0_3
  clear hr0_3 hc0_3
  have HR0_4 := Aside0.mk hr0_4
  have HC0_4 := Aside0.mk hc0_4
  clear hr0_4 hc0_4
  have HB := Aside0.mk (Below.refl w.heap.size w)
  have H : ((impl_ValueOk.f k a0_0 a0_1 a0_2 l0_3 l0_4).bind fun t250 => (if t250 = true then ((impl_written.f k a0_0 a0_1 a0_2 l0_3 l0_4).bind fun t251 => (some t251)) else (some (⟨#[]⟩ : ByteArray)))) = some r := h
  clear h
  replace H := Option.bind_eq_some_iff.mp H
  obtain ⟨t250, A20, H⟩ := H
  replace H : (if t250 = true then ((impl_written.f k a0_0 a0_1 a0_2 l0_3 l0_4).bind fun t251 => (some t251)) else (some (⟨#[]⟩ : ByteArray))) = some r := H
  have A2 := Aside0.mk A20
  clear A20
  by_cases c3 : t250 = true
  · subst c3
    have H1 : ((impl_written.f k a0_0 a0_1 a0_2 l0_3 l0_4).bind fun t251 => (some t251)) = some r := by rw [if_pos rfl] at H; exact H
    clear H
    have H := H1
    clear H1
    replace H := Option.bind_eq_some_iff.mp H
    obtain ⟨t251, A40, H⟩ := H
    replace H : (some t251) = some r := H
    have A4 := Aside0.mk A40
    clear A40
    obtain rfl := Option.some.inj H
    go_enter Tryd.func11, Tryd.ntmps11
    go_wp2_with (first | ((with_reducible refine gate_dst (N := 1) rfl ?_); refine box_event ?hg (N := 1) ?hd (cs := #[.int .i64 a0_0, .string a0_1, .int .i64 a0_2, .slice A0_3 l0_3.length c0_3, .slice A0_4 l0_4.length c0_4]) (t := 33) ?hr ?_; (case hd => rfl); (case hg => rfl); (case hr => first | (go_simp; done) | (go_simp; rfl)); intro gb249 hg w5 hbox hb; have n0_ := Aside0.mk (below_step (by repeat (first | (with_reducible first | exact HB.out | apply below_alloc | apply pw_below_drewN | apply below_drew1) | exact HB.out)) hb); have n1_ := Aside0.mk (hbox); have n2_ := Aside0.mk ((by rw [hg]; exact (below_size (by repeat (first | (with_reducible first | exact HB.out | apply below_alloc | apply pw_below_drewN | apply below_drew1) | exact HB.out))) : w.heap.size ≤ gb249)); have n3_ := Aside0.mk ((by rw [hg]; exact (below_size (by repeat (first | (with_reducible first | exact HB.out | apply below_alloc | apply pw_below_drewN | apply below_drew1) | exact HB.out))) : w.heap.size ≤ gb249)); clear HB; have HB := n0_; have BK249 := n1_; have GW249 := n2_; have GE249 := n3_; clear n0_ n1_ n2_ n3_; clear hb hbox hg; have hcz6_0 : w5.cell? ⟨gb249, 0, none⟩ = some (.int .i64 a0_0) := (blk_cell BK249.out 0).trans rfl; have hcz6_1 : w5.cell? ⟨gb249, 1, none⟩ = some (.string a0_1) := (blk_cell BK249.out 1).trans rfl; have hcz6_2 : w5.cell? ⟨gb249, 2, none⟩ = some (.int .i64 a0_2) := (blk_cell BK249.out 2).trans rfl; have hcz6_3 : w5.cell? ⟨gb249, 3, none⟩ = some (.slice A0_3 l0_3.length c0_3) := (blk_cell BK249.out 3).trans rfl; have hcz6_4 : w5.cell? ⟨gb249, 4, none⟩ = some (.slice A0_4 l0_4.length c0_4) := (blk_cell BK249.out 4).trans rfl; have hfz6_0 := blk_frozen BK249.out 0; have hfz6_1 := blk_frozen BK249.out 1; have hfz6_2 := blk_frozen BK249.out 2; have hfz6_3 := blk_frozen BK249.out 3; have hfz6_4 := blk_frozen BK249.out 4) | ((with_reducible refine gate_callee (f := 26) rfl ?_); refine goesL_ (some 4) rfl rfl Tryd.func26 (by kernel_rfl) rfl #[.agg #[.int .i64 a0_0, .string a0_1, .int .i64 a0_2, .slice A0_3 l0_3.length c0_3, .slice A0_4 l0_4.length c0_4]] rfl (by (try simp only [List.map_toArray, List.map_cons, List.map_nil]); first | done | rfl | (simp only [List.length_drop, List.length_take]; rfl)) ?_; (with_reducible refine (impl_ValueOk.calls k a0_0 a0_1 a0_2 _ _ l0_3 _ _ l0_4 true _ ?side1 ?side2 ?side3 ?side4 A2.out).mono ?_); (case side1 => repeat (first | exact (Kd.C_below HR0_3.out HB.out) | (with_reducible refine Kd.C_alloc ?_ _) | (with_reducible refine Kd.C_drewN ?_ _) | (with_reducible refine Kd.C_drew ?_))); (case side2 => exact HC0_3.out); (case side3 => repeat (first | exact (Kd.C_below HR0_4.out HB.out) | (with_reducible refine Kd.C_alloc ?_ _) | (with_reducible refine Kd.C_drewN ?_ _) | (with_reducible refine Kd.C_drew ?_))); (case side4 => exact HC0_4.out); rintro e w7 ⟨rfl, hb⟩; refine ⟨_, rfl, ?_⟩; have n0_ := Aside0.mk (blk_below (g := gb249) (o := .cells #[.int .i64 a0_0, .string a0_1, .int .i64 a0_2, .slice A0_3 l0_3.length c0_3, .slice A0_4 l0_4.length c0_4] 33 (0, 0)) (by (with_reducible repeat (first | refine blk_drewN ?_ _ | refine blk_drew ?_ | refine blk_alloc ?_ _)); exact BK249.out) hb); have n1_ := Aside0.mk (below_step (by repeat (first | (with_reducible first | exact HB.out | apply below_alloc | apply pw_below_drewN | apply below_drew1 | refine below_set ?_ GE249.out) | exact HB.out)) hb); clear BK249; clear HB; have BK249 := n0_; have HB := n1_; clear n0_ n1_; (try clear hb); (try clear hb2); (try clear hk); (try clear hi); have hcz8_0 : w7.cell? ⟨gb249, 0, none⟩ = some (.int .i64 a0_0) := (blk_cell BK249.out 0).trans rfl; have hcz8_1 : w7.cell? ⟨gb249, 1, none⟩ = some (.string a0_1) := (blk_cell BK249.out 1).trans rfl; have hcz8_2 : w7.cell? ⟨gb249, 2, none⟩ = some (.int .i64 a0_2) := (blk_cell BK249.out 2).trans rfl; have hcz8_3 : w7.cell? ⟨gb249, 3, none⟩ = some (.slice A0_3 l0_3.length c0_3) := (blk_cell BK249.out 3).trans rfl; have hcz8_4 : w7.cell? ⟨gb249, 4, none⟩ = some (.slice A0_4 l0_4.length c0_4) := (blk_cell BK249.out 4).trans rfl; have hfz8_0 := blk_frozen BK249.out 0; have hfz8_1 := blk_frozen BK249.out 1; have hfz8_2 := blk_frozen BK249.out 2; have hfz8_3 := blk_frozen BK249.out 3; have hfz8_4 := blk_frozen BK249.out 4) | ((with_reducible refine gate_callee (f := 27) rfl ?_); refine goesL_ (some 7) rfl rfl Tryd.func27 (by kernel_rfl) rfl #[.agg #[.int .i64 a0_0, .string a0_1, .int .i64 a0_2, .slice A0_3 l0_3.length c0_3, .slice A0_4 l0_4.length c0_4]] rfl (by (try simp only [List.map_toArray, List.map_cons, List.map_nil]); first | done | rfl | (simp only [List.length_drop, List.length_take]; rfl)) ?_; (with_reducible refine (impl_written.calls k a0_0 a0_1 a0_2 _ _ l0_3 _ _ l0_4 t251 _ ?side1 ?side2 ?side3 ?side4 (SH.below hsh_ (by repeat (first | (with_reducible first | exact HB.out | apply below_alloc | apply pw_below_drewN | apply below_drew1 | refine below_set ?_ GE249.out) | exact HB.out))) A4.out).mono ?_); (case side1 => repeat (first | exact (Kd.C_below HR0_3.out HB.out) | (with_reducible refine Kd.C_alloc ?_ _) | (with_reducible refine Kd.C_drewN ?_ _) | (with_reducible refine Kd.C_drew ?_))); (case side2 => exact HC0_3.out); (case side3 => repeat (first | exact (Kd.C_below HR0_4.out HB.out) | (with_reducible refine Kd.C_alloc ?_ _) | (with_reducible refine Kd.C_drewN ?_ _) | (with_reducible refine Kd.C_drew ?_))); (case side4 => exact HC0_4.out); rintro e w9 ⟨rfl, hb⟩; refine ⟨_, rfl, ?_⟩; have n0_ := Aside0.mk (blk_below (g := gb249) (o := .cells #[.int .i64 a0_0, .string a0_1, .int .i64 a0_2, .slice A0_3 l0_3.length c0_3, .slice A0_4 l0_4.length c0_4] 33 (0, 0)) (by (with_reducible repeat (first | refine blk_drewN ?_ _ | refine blk_drew ?_ | refine blk_alloc ?_ _)); exact BK249.out) hb); have n1_ := Aside0.mk (below_step (by repeat (first | (with_reducible first | exact HB.out | apply below_alloc | apply pw_below_drewN | apply below_drew1 | refine below_set ?_ GE249.out) | exact HB.out)) hb); clear BK249; clear HB; have BK249 := n0_; have HB := n1_; clear n0_ n1_; (try clear hb); (try clear hb2); (try clear hk); (try clear hi)))
    go_ret
    exact ⟨by first | rfl | (simp [errW_none, errW_some] <;> rfl) | (simp [*, errW_none, errW_some] <;> rfl), by repeat (first | (with_reducible first | exact HB.out | apply below_alloc | apply pw_below_drewN | apply below_drew1 | refine below_set ?_ GE249.out) | exact HB.out)⟩
  · replace c3 := Bool.eq_false_iff.mpr c3
    subst c3
    have H1 : (some (⟨#[]⟩ : ByteArray)) = some r := by rw [if_neg (show ¬ (false = true) by decide)] at H; exact H
    clear H
    have H := H1
    clear H1
    obtain rfl := Option.some.inj H
    go_enter Tryd.func11, Tryd.ntmps11
    go_wp2_with (first | ((with_reducible refine gate_dst (N := 1) rfl ?_); refine box_event ?hg (N := 1) ?hd (cs := #[.int .i64 a0_0, .string a0_1, .int .i64 a0_2, .slice A0_3 l0_3.length c0_3, .slice A0_4 l0_4.length c0_4]) (t := 33) ?hr ?_; (case hd => rfl); (case hg => rfl); (case hr => first | (go_simp; done) | (go_simp; rfl)); intro gb249 hg w10 hbox hb; have n0_ := Aside0.mk (below_step (by repeat (first | (with_reducible first | exact HB.out | apply below_alloc | apply pw_below_drewN | apply below_drew1) | exact HB.out)) hb); have n1_ := Aside0.mk (hbox); have n2_ := Aside0.mk ((by rw [hg]; exact (below_size (by repeat (first | (with_reducible first | exact HB.out | apply below_alloc | apply pw_below_drewN | apply below_drew1) | exact HB.out))) : w.heap.size ≤ gb249)); have n3_ := Aside0.mk ((by rw [hg]; exact (below_size (by repeat (first | (with_reducible first | exact HB.out | apply below_alloc | apply pw_below_drewN | apply below_drew1) | exact HB.out))) : w.heap.size ≤ gb249)); clear HB; have HB := n0_; have BK249 := n1_; have GW249 := n2_; have GE249 := n3_; clear n0_ n1_ n2_ n3_; clear hb hbox hg; have hcz11_0 : w10.cell? ⟨gb249, 0, none⟩ = some (.int .i64 a0_0) := (blk_cell BK249.out 0).trans rfl; have hcz11_1 : w10.cell? ⟨gb249, 1, none⟩ = some (.string a0_1) := (blk_cell BK249.out 1).trans rfl; have hcz11_2 : w10.cell? ⟨gb249, 2, none⟩ = some (.int .i64 a0_2) := (blk_cell BK249.out 2).trans rfl; have hcz11_3 : w10.cell? ⟨gb249, 3, none⟩ = some (.slice A0_3 l0_3.length c0_3) := (blk_cell BK249.out 3).trans rfl; have hcz11_4 : w10.cell? ⟨gb249, 4, none⟩ = some (.slice A0_4 l0_4.length c0_4) := (blk_cell BK249.out 4).trans rfl; have hfz11_0 := blk_frozen BK249.out 0; have hfz11_1 := blk_frozen BK249.out 1; have hfz11_2 := blk_frozen BK249.out 2; have hfz11_3 := blk_frozen BK249.out 3; have hfz11_4 := blk_frozen BK249.out 4) | ((with_reducible refine gate_callee (f := 26) rfl ?_); refine goesL_ (some 4) rfl rfl Tryd.func26 (by kernel_rfl) rfl #[.agg #[.int .i64 a0_0, .string a0_1, .int .i64 a0_2, .slice A0_3 l0_3.length c0_3, .slice A0_4 l0_4.length c0_4]] rfl (by (try simp only [List.map_toArray, List.map_cons, List.map_nil]); first | done | rfl | (simp only [List.length_drop, List.length_take]; rfl)) ?_; (with_reducible refine (impl_ValueOk.calls k a0_0 a0_1 a0_2 _ _ l0_3 _ _ l0_4 false _ ?side1 ?side2 ?side3 ?side4 A2.out).mono ?_); (case side1 => repeat (first | exact (Kd.C_below HR0_3.out HB.out) | (with_reducible refine Kd.C_alloc ?_ _) | (with_reducible refine Kd.C_drewN ?_ _) | (with_reducible refine Kd.C_drew ?_))); (case side2 => exact HC0_3.out); (case side3 => repeat (first | exact (Kd.C_below HR0_4.out HB.out) | (with_reducible refine Kd.C_alloc ?_ _) | (with_reducible refine Kd.C_drewN ?_ _) | (with_reducible refine Kd.C_drew ?_))); (case side4 => exact HC0_4.out); rintro e w12 ⟨rfl, hb⟩; refine ⟨_, rfl, ?_⟩; have n0_ := Aside0.mk (blk_below (g := gb249) (o := .cells #[.int .i64 a0_0, .string a0_1, .int .i64 a0_2, .slice A0_3 l0_3.length c0_3, .slice A0_4 l0_4.length c0_4] 33 (0, 0)) (by (with_reducible repeat (first | refine blk_drewN ?_ _ | refine blk_drew ?_ | refine blk_alloc ?_ _)); exact BK249.out) hb); have n1_ := Aside0.mk (below_step (by repeat (first | (with_reducible first | exact HB.out | apply below_alloc | apply pw_below_drewN | apply below_drew1 | refine below_set ?_ GE249.out) | exact HB.out)) hb); clear BK249; clear HB; have BK249 := n0_; have HB := n1_; clear n0_ n1_; (try clear hb); (try clear hb2); (try clear hk); (try clear hi)))
    go_ret
    exact ⟨by first | rfl | (simp [errW_none, errW_some] <;> rfl) | (simp [*, errW_none, errW_some] <;> rfl), by repeat (first | (with_reducible first | exact HB.out | apply below_alloc | apply pw_below_drewN | apply below_drew1 | refine below_set ?_ GE249.out) | exact HB.out)⟩

end Go.Proofs.YtchhognpijobcaaDoor.G

/- G9 -/
-- Laid by wip/g/gprint.py out of the translation, by the kit's print program. Lean checks it.
namespace Go.Proofs.YtchhognpijobcaaDoor.G
open Go.RowKit Go.Proofs.YtchhognpijobcaaDoorW.PrintWords Go.Proofs.YtchhognpijobcaaDoorW.PrintLast Go.Proofs.YtchhognpijobcaaDoorW.PrintMore
attribute [local go_sem] max2_int min2_int max_two min_two max_three min_three max_four min_four   -- for this text's walks alone
set_option linter.unusedVariables false
set_option linter.unusedSimpArgs false

/-! ### spec_ValueText: function 9 -/
def spec_ValueText.f (k : Nat) (a0_0 : Int) (a0_1 : ByteArray) (a0_2 : Int) (l0_3 : List ByteArray) (l0_4 : List (S33)) : Option (ByteArray) := (spec_ValueOk.f k a0_0 a0_1 a0_2 l0_3 l0_4).bind fun t183 => (if t183 = true then ((spec_l4Print.f k a0_0 a0_1 a0_2 l0_3 l0_4).bind fun t184 => (some t184)) else (some (⟨#[]⟩ : ByteArray)))
set_option maxHeartbeats 8000000 in
set_option maxRecDepth 100000 in
theorem spec_ValueText.calls (k : Nat) (a0_0 : Int) (a0_1 : ByteArray) (a0_2 : Int) (A0_3 : Option Addr) (c0_3 : Nat) (l0_3 : List ByteArray) (A0_4 : Option Addr) (c0_4 : Nat) (l0_4 : List (S33)) (r : ByteArray) (w : World) (hr0_3 : Kd.C Kd.string w A0_3 l0_3.length l0_3) (hc0_3 : l0_3.length ≤ c0_3) (hr0_4 : Kd.C k33 w A0_4 l0_4.length l0_4) (hc0_4 : l0_4.length ≤ c0_4) (h : spec_ValueText.f k a0_0 a0_1 a0_2 l0_3 l0_4 = some r) :
    Calls Tryd.prog 9 #[.agg #[.int .i64 a0_0, .string a0_1, .int .i64 a0_2, .slice A0_3 l0_3.length c0_3, .slice A0_4 l0_4.length c0_4]] w fun e w' => e = .returned (.string r) ∧ Below w.heap.size w w' := by
  have hu33 := Tryd.underlying33
  have HR0_3 := Aside0.mk hr0_3
  have HC0_3 := Aside0.mk hc0_3
  clear hr0_3 hc0_3
  have HR0_4 := Aside0.mk hr0_4
  have HC0_4 := Aside0.mk hc0_4
  clear hr0_4 hc0_4
  have HB := Aside0.mk (Below.refl w.heap.size w)
  have H : ((spec_ValueOk.f k a0_0 a0_1 a0_2 l0_3 l0_4).bind fun t183 => (if t183 = true then ((spec_l4Print.f k a0_0 a0_1 a0_2 l0_3 l0_4).bind fun t184 => (some t184)) else (some (⟨#[]⟩ : ByteArray)))) = some r := h
  clear h
  replace H := Option.bind_eq_some_iff.mp H
  obtain ⟨t183, A20, H⟩ := H
  replace H : (if t183 = true then ((spec_l4Print.f k a0_0 a0_1 a0_2 l0_3 l0_4).bind fun t184 => (some t184)) else (some (⟨#[]⟩ : ByteArray))) = some r := H
  have A2 := Aside0.mk A20
  clear A20
  by_cases c3 : t183 = true
  · subst c3
    have H1 : ((spec_l4Print.f k a0_0 a0_1 a0_2 l0_3 l0_4).bind fun t184 => (some t184)) = some r := by rw [if_pos rfl] at H; exact H
    clear H
    have H := H1
    clear H1
    replace H := Option.bind_eq_some_iff.mp H
    obtain ⟨t184, A40, H⟩ := H
    replace H : (some t184) = some r := H
    have A4 := Aside0.mk A40
    clear A40
    obtain rfl := Option.some.inj H
    go_enter Tryd.func9, Tryd.ntmps9
    go_wp2_with (first | ((with_reducible refine gate_dst (N := 1) rfl ?_); refine box_event ?hg (N := 1) ?hd (cs := #[.int .i64 a0_0, .string a0_1, .int .i64 a0_2, .slice A0_3 l0_3.length c0_3, .slice A0_4 l0_4.length c0_4]) (t := 33) ?hr ?_; (case hd => rfl); (case hg => rfl); (case hr => first | (go_simp; done) | (go_simp; rfl)); intro gb182 hg w5 hbox hb; have n0_ := Aside0.mk (below_step (by repeat (first | (with_reducible first | exact HB.out | apply below_alloc | apply pw_below_drewN | apply below_drew1) | exact HB.out)) hb); have n1_ := Aside0.mk (hbox); have n2_ := Aside0.mk ((by rw [hg]; exact (below_size (by repeat (first | (with_reducible first | exact HB.out | apply below_alloc | apply pw_below_drewN | apply below_drew1) | exact HB.out))) : w.heap.size ≤ gb182)); have n3_ := Aside0.mk ((by rw [hg]; exact (below_size (by repeat (first | (with_reducible first | exact HB.out | apply below_alloc | apply pw_below_drewN | apply below_drew1) | exact HB.out))) : w.heap.size ≤ gb182)); clear HB; have HB := n0_; have BK182 := n1_; have GW182 := n2_; have GE182 := n3_; clear n0_ n1_ n2_ n3_; clear hb hbox hg; have hcz6_0 : w5.cell? ⟨gb182, 0, none⟩ = some (.int .i64 a0_0) := (blk_cell BK182.out 0).trans rfl; have hcz6_1 : w5.cell? ⟨gb182, 1, none⟩ = some (.string a0_1) := (blk_cell BK182.out 1).trans rfl; have hcz6_2 : w5.cell? ⟨gb182, 2, none⟩ = some (.int .i64 a0_2) := (blk_cell BK182.out 2).trans rfl; have hcz6_3 : w5.cell? ⟨gb182, 3, none⟩ = some (.slice A0_3 l0_3.length c0_3) := (blk_cell BK182.out 3).trans rfl; have hcz6_4 : w5.cell? ⟨gb182, 4, none⟩ = some (.slice A0_4 l0_4.length c0_4) := (blk_cell BK182.out 4).trans rfl; have hfz6_0 := blk_frozen BK182.out 0; have hfz6_1 := blk_frozen BK182.out 1; have hfz6_2 := blk_frozen BK182.out 2; have hfz6_3 := blk_frozen BK182.out 3; have hfz6_4 := blk_frozen BK182.out 4) | ((with_reducible refine gate_callee (f := 22) rfl ?_); refine goesL_ (some 4) rfl rfl Tryd.func22 (by kernel_rfl) rfl #[.agg #[.int .i64 a0_0, .string a0_1, .int .i64 a0_2, .slice A0_3 l0_3.length c0_3, .slice A0_4 l0_4.length c0_4]] rfl (by (try simp only [List.map_toArray, List.map_cons, List.map_nil]); first | done | rfl | (simp only [List.length_drop, List.length_take]; rfl)) ?_; (with_reducible refine (spec_ValueOk.calls k a0_0 a0_1 a0_2 _ _ l0_3 _ _ l0_4 true _ ?side1 ?side2 ?side3 ?side4 A2.out).mono ?_); (case side1 => repeat (first | exact (Kd.C_below HR0_3.out HB.out) | (with_reducible refine Kd.C_alloc ?_ _) | (with_reducible refine Kd.C_drewN ?_ _) | (with_reducible refine Kd.C_drew ?_))); (case side2 => exact HC0_3.out); (case side3 => repeat (first | exact (Kd.C_below HR0_4.out HB.out) | (with_reducible refine Kd.C_alloc ?_ _) | (with_reducible refine Kd.C_drewN ?_ _) | (with_reducible refine Kd.C_drew ?_))); (case side4 => exact HC0_4.out); rintro e w7 ⟨rfl, hb⟩; refine ⟨_, rfl, ?_⟩; have n0_ := Aside0.mk (blk_below (g := gb182) (o := .cells #[.int .i64 a0_0, .string a0_1, .int .i64 a0_2, .slice A0_3 l0_3.length c0_3, .slice A0_4 l0_4.length c0_4] 33 (0, 0)) (by (with_reducible repeat (first | refine blk_drewN ?_ _ | refine blk_drew ?_ | refine blk_alloc ?_ _)); exact BK182.out) hb); have n1_ := Aside0.mk (below_step (by repeat (first | (with_reducible first | exact HB.out | apply below_alloc | apply pw_below_drewN | apply below_drew1 | refine below_set ?_ GE182.out) | exact HB.out)) hb); clear BK182; clear HB; have BK182 := n0_; have HB := n1_; clear n0_ n1_; (try clear hb); (try clear hb2); (try clear hk); (try clear hi); have hcz8_0 : w7.cell? ⟨gb182, 0, none⟩ = some (.int .i64 a0_0) := (blk_cell BK182.out 0).trans rfl; have hcz8_1 : w7.cell? ⟨gb182, 1, none⟩ = some (.string a0_1) := (blk_cell BK182.out 1).trans rfl; have hcz8_2 : w7.cell? ⟨gb182, 2, none⟩ = some (.int .i64 a0_2) := (blk_cell BK182.out 2).trans rfl; have hcz8_3 : w7.cell? ⟨gb182, 3, none⟩ = some (.slice A0_3 l0_3.length c0_3) := (blk_cell BK182.out 3).trans rfl; have hcz8_4 : w7.cell? ⟨gb182, 4, none⟩ = some (.slice A0_4 l0_4.length c0_4) := (blk_cell BK182.out 4).trans rfl; have hfz8_0 := blk_frozen BK182.out 0; have hfz8_1 := blk_frozen BK182.out 1; have hfz8_2 := blk_frozen BK182.out 2; have hfz8_3 := blk_frozen BK182.out 3; have hfz8_4 := blk_frozen BK182.out 4) | ((with_reducible refine gate_callee (f := 23) rfl ?_); refine goesL_ (some 7) rfl rfl Tryd.func23 (by kernel_rfl) rfl #[.agg #[.int .i64 a0_0, .string a0_1, .int .i64 a0_2, .slice A0_3 l0_3.length c0_3, .slice A0_4 l0_4.length c0_4]] rfl (by (try simp only [List.map_toArray, List.map_cons, List.map_nil]); first | done | rfl | (simp only [List.length_drop, List.length_take]; rfl)) ?_; (with_reducible refine (spec_l4Print.calls k a0_0 a0_1 a0_2 _ _ l0_3 _ _ l0_4 t184 _ ?side1 ?side2 ?side3 ?side4 A4.out).mono ?_); (case side1 => repeat (first | exact (Kd.C_below HR0_3.out HB.out) | (with_reducible refine Kd.C_alloc ?_ _) | (with_reducible refine Kd.C_drewN ?_ _) | (with_reducible refine Kd.C_drew ?_))); (case side2 => exact HC0_3.out); (case side3 => repeat (first | exact (Kd.C_below HR0_4.out HB.out) | (with_reducible refine Kd.C_alloc ?_ _) | (with_reducible refine Kd.C_drewN ?_ _) | (with_reducible refine Kd.C_drew ?_))); (case side4 => exact HC0_4.out); rintro e w9 ⟨rfl, hb⟩; refine ⟨_, rfl, ?_⟩; have n0_ := Aside0.mk (blk_below (g := gb182) (o := .cells #[.int .i64 a0_0, .string a0_1, .int .i64 a0_2, .slice A0_3 l0_3.length c0_3, .slice A0_4 l0_4.length c0_4] 33 (0, 0)) (by (with_reducible repeat (first | refine blk_drewN ?_ _ | refine blk_drew ?_ | refine blk_alloc ?_ _)); exact BK182.out) hb); have n1_ := Aside0.mk (below_step (by repeat (first | (with_reducible first | exact HB.out | apply below_alloc | apply pw_below_drewN | apply below_drew1 | refine below_set ?_ GE182.out) | exact HB.out)) hb); clear BK182; clear HB; have BK182 := n0_; have HB := n1_; clear n0_ n1_; (try clear hb); (try clear hb2); (try clear hk); (try clear hi)))
    go_ret
    exact ⟨by first | rfl | (simp [errW_none, errW_some] <;> rfl) | (simp [*, errW_none, errW_some] <;> rfl), by repeat (first | (with_reducible first | exact HB.out | apply below_alloc | apply pw_below_drewN | apply below_drew1 | refine below_set ?_ GE182.out) | exact HB.out)⟩
  · replace c3 := Bool.eq_false_iff.mpr c3
    subst c3
    have H1 : (some (⟨#[]⟩ : ByteArray)) = some r := by rw [if_neg (show ¬ (false = true) by decide)] at H; exact H
    clear H
    have H := H1
    clear H1
    obtain rfl := Option.some.inj H
    go_enter Tryd.func9, Tryd.ntmps9
    go_wp2_with (first | ((with_reducible refine gate_dst (N := 1) rfl ?_); refine box_event ?hg (N := 1) ?hd (cs := #[.int .i64 a0_0, .string a0_1, .int .i64 a0_2, .slice A0_3 l0_3.length c0_3, .slice A0_4 l0_4.length c0_4]) (t := 33) ?hr ?_; (case hd => rfl); (case hg => rfl); (case hr => first | (go_simp; done) | (go_simp; rfl)); intro gb182 hg w10 hbox hb; have n0_ := Aside0.mk (below_step (by repeat (first | (with_reducible first | exact HB.out | apply below_alloc | apply pw_below_drewN | apply below_drew1) | exact HB.out)) hb); have n1_ := Aside0.mk (hbox); have n2_ := Aside0.mk ((by rw [hg]; exact (below_size (by repeat (first | (with_reducible first | exact HB.out | apply below_alloc | apply pw_below_drewN | apply below_drew1) | exact HB.out))) : w.heap.size ≤ gb182)); have n3_ := Aside0.mk ((by rw [hg]; exact (below_size (by repeat (first | (with_reducible first | exact HB.out | apply below_alloc | apply pw_below_drewN | apply below_drew1) | exact HB.out))) : w.heap.size ≤ gb182)); clear HB; have HB := n0_; have BK182 := n1_; have GW182 := n2_; have GE182 := n3_; clear n0_ n1_ n2_ n3_; clear hb hbox hg; have hcz11_0 : w10.cell? ⟨gb182, 0, none⟩ = some (.int .i64 a0_0) := (blk_cell BK182.out 0).trans rfl; have hcz11_1 : w10.cell? ⟨gb182, 1, none⟩ = some (.string a0_1) := (blk_cell BK182.out 1).trans rfl; have hcz11_2 : w10.cell? ⟨gb182, 2, none⟩ = some (.int .i64 a0_2) := (blk_cell BK182.out 2).trans rfl; have hcz11_3 : w10.cell? ⟨gb182, 3, none⟩ = some (.slice A0_3 l0_3.length c0_3) := (blk_cell BK182.out 3).trans rfl; have hcz11_4 : w10.cell? ⟨gb182, 4, none⟩ = some (.slice A0_4 l0_4.length c0_4) := (blk_cell BK182.out 4).trans rfl; have hfz11_0 := blk_frozen BK182.out 0; have hfz11_1 := blk_frozen BK182.out 1; have hfz11_2 := blk_frozen BK182.out 2; have hfz11_3 := blk_frozen BK182.out 3; have hfz11_4 := blk_frozen BK182.out 4) | ((with_reducible refine gate_callee (f := 22) rfl ?_); refine goesL_ (some 4) rfl rfl Tryd.func22 (by kernel_rfl) rfl #[.agg #[.int .i64 a0_0, .string a0_1, .int .i64 a0_2, .slice A0_3 l0_3.length c0_3, .slice A0_4 l0_4.length c0_4]] rfl (by (try simp only [List.map_toArray, List.map_cons, List.map_nil]); first | done | rfl | (simp only [List.length_drop, List.length_take]; rfl)) ?_; (with_reducible refine (spec_ValueOk.calls k a0_0 a0_1 a0_2 _ _ l0_3 _ _ l0_4 false _ ?side1 ?side2 ?side3 ?side4 A2.out).mono ?_); (case side1 => repeat (first | exact (Kd.C_below HR0_3.out HB.out) | (with_reducible refine Kd.C_alloc ?_ _) | (with_reducible refine Kd.C_drewN ?_ _) | (with_reducible refine Kd.C_drew ?_))); (case side2 => exact HC0_3.out); (case side3 => repeat (first | exact (Kd.C_below HR0_4.out HB.out) | (with_reducible refine Kd.C_alloc ?_ _) | (with_reducible refine Kd.C_drewN ?_ _) | (with_reducible refine Kd.C_drew ?_))); (case side4 => exact HC0_4.out); rintro e w12 ⟨rfl, hb⟩; refine ⟨_, rfl, ?_⟩; have n0_ := Aside0.mk (blk_below (g := gb182) (o := .cells #[.int .i64 a0_0, .string a0_1, .int .i64 a0_2, .slice A0_3 l0_3.length c0_3, .slice A0_4 l0_4.length c0_4] 33 (0, 0)) (by (with_reducible repeat (first | refine blk_drewN ?_ _ | refine blk_drew ?_ | refine blk_alloc ?_ _)); exact BK182.out) hb); have n1_ := Aside0.mk (below_step (by repeat (first | (with_reducible first | exact HB.out | apply below_alloc | apply pw_below_drewN | apply below_drew1 | refine below_set ?_ GE182.out) | exact HB.out)) hb); clear BK182; clear HB; have BK182 := n0_; have HB := n1_; clear n0_ n1_; (try clear hb); (try clear hb2); (try clear hk); (try clear hi)))
    go_ret
    exact ⟨by first | rfl | (simp [errW_none, errW_some] <;> rfl) | (simp [*, errW_none, errW_some] <;> rfl), by repeat (first | (with_reducible first | exact HB.out | apply below_alloc | apply pw_below_drewN | apply below_drew1 | refine below_set ?_ GE182.out) | exact HB.out)⟩

end Go.Proofs.YtchhognpijobcaaDoor.G
