import Derived.Test.YtpjpnppoejnafaaMFnExactLabelSet4
import Derived.Test.YtpjpnppoejnafaaMFnExactLabelSet8
import Derived.Test.YtpjpnppoejnafaaMFnExactLabelSet1
import Derived.Laws.IdiomCopy
import Derived.Deep.AppendSrc
import Derived.Lib.AppendZeros
import Derived.Lib.Overlaps
import Derived.Laws.Externs
import Derived.Shelf.Spec.SlicesInsert
import Derived.Lib.Bytealg
import Derived.Test.YtpjpnppoejnafaaShelf
import Derived.Test.YtpjpnppoejnafaaMFnExactLabelSet7
/- PLabelDrop -/
/-
  The law of LabelDrop, as a statement over lists: it is answered true.
-/
namespace Go.Proofs.Ytpjpnppoejnafaa.G
open Go.RowKit Go.Proofs.YtpjpnppoejnafaaW.PrintWords Go.Proofs.YtpjpnppoejnafaaW.PrintLast Go.Proofs.YtpjpnppoejnafaaW.PrintMore
set_option linter.unusedVariables false
set_option linter.unusedSimpArgs false
theorem delO_total {α : Type} (q : α → Bool) : ∀ (l : List α), delO (fun x => some (q x)) l = some (l.filter (fun x => !q x))
  | [] => rfl
  | x :: xs => by
    rw [delO, Option.bind_some, delO_total q xs, Option.bind_some, List.filter_cons]
    cases q x <;> rfl
def dropLab (xs : List ILab) (key : ByteArray) : List ILab := xs.filter (fun x => !(x.f0.toList == key.toList))
theorem dropLab_len (xs : List ILab) (key : ByteArray) : (dropLab xs key).length ≤ xs.length := List.length_filter_le _ _
theorem implLabelDrop_f (xs : List ILab) (key : ByteArray) (hl : xs.length ≤ 1048576) : impl_LabelDrop.f xs key = some (dropLab xs key) := by
  unfold impl_LabelDrop.f
  rw [if_pos (by omega), delO_total]; rfl
theorem specLabelDrop_l0 (xs : List ILab) (key : ByteArray) (hl : xs.length ≤ 1048576) : ∀ (d i : Nat) (ys : List ILab), i + d = xs.length → ys.length ≤ i → Ev (fun k => spec_LabelDrop.l0 k xs key ys i) (ys ++ dropLab (xs.drop i) key)
  | 0, i, ys, hd, hy => by
    refine Ev.step (f := fun _ => some ys) (fun k => by rw [spec_LabelDrop.l0, if_neg (by omega)]) (ev_some ?_)
    rw [List.drop_of_length_le (by omega)]; simp [dropLab]
  | d + 1, i, ys, hd, hy => by
    have hi : i < xs.length := by omega
    have e : dropLab (xs.drop i) key = (if xs[i].f0.toList = key.toList then [] else [xs[i]]) ++ dropLab (xs.drop (i + 1)) key := by
      rw [List.drop_eq_getElem_cons hi]; unfold dropLab; rw [List.filter_cons]
      by_cases c : xs[i].f0.toList = key.toList
      · simp [c]
      · simp [c]
    rw [e]
    by_cases c : xs[i].f0.toList = key.toList
    · rw [if_pos c]
      refine Ev.step (f := fun k => spec_LabelDrop.l0 k xs key ys ((i + 1 : Nat) : Int)) (fun k => ?_) (specLabelDrop_l0 xs key hl d (i + 1) ys (by omega) (by omega))
      rw [spec_LabelDrop.l0, if_pos (by omega), if_pos (by omega), rdIL hi, if_pos c, w64 (by omega) (by omega)]; rfl
    · rw [if_neg c, ← List.append_assoc]
      refine Ev.step (f := fun k => spec_LabelDrop.l0 k xs key (ys ++ [xs[i]]) ((i + 1 : Nat) : Int)) (fun k => ?_) (specLabelDrop_l0 xs key hl d (i + 1) (ys ++ [xs[i]]) (by omega) (by simp; omega))
      rw [spec_LabelDrop.l0, if_pos (by omega), if_pos (by omega), rdIL hi, if_neg c, if_pos (by omega), w64 (by omega) (by omega)]; rfl
theorem specLabelDrop_ev (xs : List ILab) (key : ByteArray) (hl : xs.length ≤ 1048576) : Ev (fun k => spec_LabelDrop.f k xs key) (dropLab xs key) := by
  have := specLabelDrop_l0 xs key hl xs.length 0 [] (by omega) (by simp)
  unfold spec_LabelDrop.f
  simpa using this
theorem FnExactLabelDrop_pure (l0 : List LLab) (a1 : ByteArray) (hw : l0.length ≤ 9223372036854775807 ∧ ∀ x ∈ l0, wfLab x) (_h1 : a1.size ≤ 9223372036854775807) : ∃ k, laws_FnExactLabelDrop.f k l0 a1 = some true := by
  refine Ev.rounds ?_
  unfold laws_FnExactLabelDrop.f
  by_cases c : (a1.size : Int) > 1048576
  · exact ev_if_pos c (Ev.now _)
  refine ev_if_neg c (Ev.bind (szLabelS_ev l0 1048576 hw.2 hw.1 (by omega) (by omega)) ?_)
  by_cases c2 : szR 1048576 (totLabs l0) < 0
  · exact ev_if_pos c2 (Ev.now _)
  have hlen : l0.length ≤ 1048576 := by
    have := szR_nonneg (by omega : 0 ≤ szR 1048576 (totLabs l0))
    unfold totLabs at this; omega
  have hm : (l0.map cLab).length ≤ 1048576 := by simpa using hlen
  have hd := dropLab_len (l0.map cLab) a1
  refine ev_if_neg c2 (Ev.bind (toLabelS_ev l0 hlen) (Ev.bind (specLabelDrop_ev _ a1 hm) (Ev.bind (toLabelS_ev l0 hlen) (Ev.bind (ev_now (implLabelDrop_f _ a1 hm)) (Ev.bind (eqLabelS_ev _ (by omega)) (ev_if_pos rfl ?_))))))
  refine Ev.bind (toLabelS_ev l0 hlen) (Ev.bind (eqLabelS_ev _ (by omega)) (ev_if_pos rfl (Ev.bind (markLabelS_ev 1 _ (by omega) (by omega) (by omega)) (ev_if_neg (by show ¬ ((1 : Int) + 2 * ((l0.map cLab).length : Int) < 0); omega) (Ev.bind (eqLabelS_ev _ (by omega)) ?_)))))
  refine Ev.step (fun k => by rw [laws_FnExactLabelDrop.j0]) ?_
  refine ev_if_neg (by simp) (Ev.bind (markLabelS_ev 1 _ (by omega) (by omega) (by omega)) (Ev.bind (heldLabelS_ev 1 _ (by omega) (by omega) (by omega)) (ev_if_neg (by omega) (ev_if_pos rfl ?_))))
  exact Ev.bind (toLabelS_ev l0 hlen) (Ev.bind (ev_now (implLabelDrop_f _ a1 hm)) (Ev.bind (eqLabelS_ev _ (by omega)) (ev_if_pos rfl (Ev.bind (heldLabelS_ev 1 _ (by omega) (by omega) (by omega)) (ev_if_neg (by omega) (ev_if_pos rfl (Ev.now _)))))))
end Go.Proofs.Ytpjpnppoejnafaa.G

/- GKIns -/
/-
  Rows of several cells an element: copied, lengthened by zeros, a new element put in; a search by halves.
-/
namespace Go.Proofs.Ytpjpnppoejnafaa.G
open Go.RowKit Go.Proofs.YtpjpnppoejnafaaW.PrintWords Go.Proofs.YtpjpnppoejnafaaW.PrintLast Go.Proofs.YtpjpnppoejnafaaW.PrintMore
set_option linter.unusedVariables false
set_option linter.unusedSimpArgs false
theorem run_copy_k {P : Program} (w : World) (dT sT ty elem : TypeId) (m b o dLen dCap : Nat) (a : Addr) (sLen sCap : Nat) (cs : List Value)
    (hu : P.underlying dT = some (.slice elem)) (hs : (P.info? elem).map (·.size) = some m) (hn : cs.length = Nat.min sLen dLen * m)
    (hsrc : ∀ j v, cs[j]? = some v → w.cell? (a.add j) = some v) (hc : ∀ j, j < cs.length → (w.cell? ⟨b, o + j, none⟩).isSome = true) (hf : ∀ j, j < cs.length → w.frozen? ⟨b, o + j, none⟩ = false) (h1 : ∀ v ∈ cs, v.oneCell' = true) :
    (Builtin.copy_ #[dT, sT] ty #[.slice (some ⟨b, o, none⟩) dLen dCap, .slice (some a) sLen sCap]).run P w = .ok (goInt (Nat.min sLen dLen)) (w.setCells b o cs) := by
  have hl := fun len cap => run_firstCells_some (P := P) w m (Nat.min sLen dLen) a len cap cs hn hsrc
  have hst := run_storeCells_cells (P := P) b o cs 0 w (by simpa using hc) (by simpa using hf) h1
  cases hq : P.info? elem with
  | none => simp [hq] at hs
  | some i =>
    have hi : i.size = m := by simpa [hq] using hs
    simp only [Nat.add_zero] at hst
    have hl1 := hl sLen sCap
    have hmin : Nat.min sLen dLen = min sLen dLen := rfl
    simp [Builtin.copy_, run_underlying hu, Builtin.lenOf, sizeOf, typeInfo, hq, hi]
    rw [hl1]
    simp [hst]
theorem run_append_grow_zeros {P : Program} (w : World) (t tn ty e : TypeId) (i : TypeInfo) (z : Value) (kn : IntKind) (ht : P.underlying t = some (.slice e)) (htn : P.underlying tn = some (.int kn)) (hi : P.info? e = some i) (hz : i.zero = some z)
    (base : Option Addr) (sLen sCap : Nat) (olds : List Value) (hold : (Builtin.firstCells i.size sLen (.slice base sLen sCap)).run P w.drew = .ok olds.toArray w.drew) (n : Nat) (hn0 : 0 < n) (hs : 0 < i.size)
    (hg : sCap < sLen + n) (h63 : ((sLen + n : Nat) : Int) ≤ 9223372036854775807) (h48 : n * i.bytes ≤ 281474976710656) (hfit : Builtin.nextslicecap (sLen + n) sCap * i.bytes ≤ 281474976710656) :
    (Builtin.append_ #[t, tn] ty #[.slice base sLen sCap, .int .i64 n]).run P w =
      .ok (.slice (some ⟨w.heap.size, 0, none⟩) (sLen + n) (grownCap w (sLen + n) sCap e))
        (w.drew.alloc (.cells (olds.toArray ++ Builtin.zeroCells z.cells n ++ Builtin.zeroCells z.cells (grownCap w (sLen + n) sCap e - (sLen + n))) e)) := by
  have hn : ¬ (sLen + n ≤ sCap) := by omega
  have hw : IntKind.i64.wrap (n : Int) = n := by rw [IntKind.wrap_i64]; omega
  have h63' : ¬ (9223372036854775807 < ((sLen : Int) + (n : Int))) := by omega
  have h48' : ¬ (281474976710656 < Builtin.nextslicecap (sLen + n) sCap * i.bytes) := by omega
  have h48i : ¬ (281474976710656 < (n : Int) * (i.bytes : Int)) := by rw [← Int.natCast_mul]; omega
  have hneg : ¬ ((n : Int) < 0) := by omega
  have hns : ¬ (n * i.size = 0) := Nat.mul_ne_zero (by omega) (by omega)
  simp [Builtin.append_, run_underlying ht, run_underlying htn, sizeOf, typeInfo, zeroValue, hi, hz, asInt, asIntOf, hw, hn, hneg, hns, h63', h48', h48i, Question.forced, hold, newRow, grownCap]
/-! ### a search by halves, as a function -/
def bsL {α : Type} (p : α → Option Int) (l : List α) : Nat → Nat → Nat → Option Nat
  | 0, i, j => if i < j then none else some i
  | f + 1, i, j => if i < j then (l[(i + j) / 2]?).bind fun x => (p x).bind fun c => if c < 0 then bsL p l f ((i + j) / 2 + 1) j else bsL p l f i ((i + j) / 2) else some i
def bsO {α : Type} (p : α → Option Int) (l : List α) : Option (Nat × Bool) :=
  (bsL p l l.length 0 l.length).bind fun i => match l[i]? with
    | none => some (i, false)
    | some x => (p x).bind fun c => some (i, c == 0)
theorem bsL_step {α : Type} {p : α → Option Int} {l : List α} {f i j r : Nat} (hij : i < j) (hj : j ≤ l.length) (h : bsL p l f i j = some r) :
    ∃ f', f = f' + 1 ∧ ∃ (hk : (i + j) / 2 < l.length) (c : Int), p l[(i + j) / 2] = some c ∧ (c < 0 → bsL p l f' ((i + j) / 2 + 1) j = some r) ∧ (¬ c < 0 → bsL p l f' i ((i + j) / 2) = some r) := by
  cases f with
  | zero => rw [bsL, if_pos hij] at h; cases h
  | succ f =>
    rw [bsL, if_pos hij] at h
    have hk : (i + j) / 2 < l.length := by omega
    rw [List.getElem?_eq_getElem hk, Option.bind_some] at h
    obtain ⟨c, hc, h⟩ := bind_some' h
    refine ⟨f, rfl, hk, c, hc, fun hlt => ?_, fun hlt => ?_⟩
    · rw [if_pos hlt] at h; exact h
    · rw [if_neg hlt] at h; exact h
theorem bsL_end {α : Type} {p : α → Option Int} {l : List α} {f i j r : Nat} (hij : ¬ i < j) (h : bsL p l f i j = some r) : r = i := by
  cases f <;> (rw [bsL, if_neg hij] at h; exact (Option.some.inj h).symm)
theorem bsL_le {α : Type} {p : α → Option Int} {l : List α} : ∀ {f i j r : Nat}, i ≤ j → bsL p l f i j = some r → i ≤ r ∧ r ≤ j
  | 0, i, j, r, hij, h => by
    rw [bsL] at h
    split at h
    · cases h
    · cases h; omega
  | f + 1, i, j, r, hij, h => by
    rw [bsL] at h
    split at h
    · obtain ⟨x, _, h⟩ := bind_some' h
      obtain ⟨c, _, h⟩ := bind_some' h
      split at h
      · have := bsL_le (by omega) h; omega
      · have := bsL_le (by omega) h; omega
    · cases h; omega
theorem bsL_mono {α : Type} {p p' : α → Option Int} (hp : ∀ x, LeO (p x) (p' x)) (l : List α) : ∀ (f i j : Nat), LeO (bsL p l f i j) (bsL p' l f i j)
  | 0, _, _ => LeO.refl _
  | f + 1, i, j => by
    rw [bsL, bsL]
    exact LeO.ite (LeO.bind (LeO.refl _) (fun x => LeO.bind (hp x) (fun c => LeO.ite (bsL_mono hp l f _ _) (bsL_mono hp l f _ _)))) (LeO.refl _)
theorem bsO_mono {α : Type} {p p' : α → Option Int} (hp : ∀ x, LeO (p x) (p' x)) (l : List α) : LeO (bsO p l) (bsO p' l) := by
  unfold bsO
  refine LeO.bind (bsL_mono hp l _ _ _) (fun i => ?_)
  cases l[i]? with
  | none => exact LeO.refl _
  | some x => exact LeO.bind (hp x) (fun _ => LeO.refl _)

/-! ### elements in a row: cut, joined; a row written anew -/
theorem reps_app {α : Type} {R : α → List Value → Prop} {m : Nat} {xs ys : List α} {cs ds : List Value} (h : Reps R m xs cs) (k : Reps R m ys ds) : Reps R m (xs ++ ys) (cs ++ ds) := by
  refine ⟨by rw [List.length_append, List.length_append, h.1, k.1, Nat.add_mul], fun j q hq => ?_⟩
  by_cases hj : j < xs.length
  · rw [List.getElem?_append_left hj] at hq
    have h1 : j * m + m ≤ xs.length * m := by rw [← Nat.succ_mul]; exact Nat.mul_le_mul_right _ hj
    have h2 := h.1
    rw [List.drop_append_of_le_length (by omega), List.take_append_of_le_length (by rw [List.length_drop]; omega)]
    exact h.2 j q hq
  · rw [List.getElem?_append_right (by omega)] at hq
    have h2 := h.1
    have h3 : j * m = cs.length + (j - xs.length) * m := by rw [h2, ← Nat.add_mul]; congr 1; omega
    rw [h3, ← List.drop_drop, List.drop_left]
    exact k.2 _ q hq
theorem reps_cut {α : Type} {R : α → List Value → Prop} {m : Nat} {xs : List α} {cs : List Value} (h : Reps R m xs cs) (k : Nat) : Reps R m (xs.drop k) (cs.drop (k * m)) := by
  refine ⟨by rw [List.length_drop, List.length_drop, h.1, Nat.sub_mul], fun j q hq => ?_⟩
  rw [List.getElem?_drop] at hq
  rw [List.drop_drop, ← Nat.add_mul]
  exact h.2 _ q hq
theorem reps_one' {α : Type} {R : α → List Value → Prop} {m : Nat} {x : α} {cs : List Value} (h : R x cs) (hl : cs.length = m) : Reps R m [x] cs := by
  refine ⟨by simp [hl], fun j q hq => ?_⟩
  cases j with
  | zero => simp at hq; subst hq; simp only [Nat.zero_mul, List.drop_zero]; rw [List.take_of_length_le (by omega)]; exact h
  | succ j => simp at hq
theorem reps_put {α : Type} {R : α → List Value → Prop} {m : Nat} {xs : List α} {cs vs : List Value} {x : α} (h : Reps R m xs cs) (i : Nat) (hi : i ≤ xs.length) (hx : R x vs) (hl : vs.length = m) :
    Reps R m (xs.take i ++ x :: xs.drop i) (cs.take (i * m) ++ (vs ++ cs.drop (i * m))) := by
  have h1 := reps_app (reps_take h i hi) (reps_app (reps_one' hx hl) (reps_cut h i))
  simpa using h1
theorem R_put {α : Type} {d : Kd α} {t base : Nat} {ok : Nat → Prop} {w w' : World} {g' C : Nat} {cur' : Array Value} {zs : List α} {inner : List Value} {own : Option Nat}
    (hr : Reps (d.M w base (fun k => ok k ∧ some k ≠ own)) d.sz zs inner) (hb : base ≤ g') (hh : w'.heap[g']? = some (.cells cur' t (0, 0))) (h1 : zs.length ≤ C) (h2 : C ≤ maxLen) (h3 : cur'.size = C * d.sz)
    (h4 : cur'.toList.take (zs.length * d.sz) = inner) (hok : ok g') (hg : own = some g' ∨ w.heap.size ≤ g') (hm : ∀ k, k < w.heap.size → some k ≠ own → w'.heap[k]? = w.heap[k]?) :
    d.R t w' base ok (.slice (some ⟨g', 0, none⟩) zs.length C) zs := by
  refine R_of_block hb hh h1 h2 h3 hok ?_
  rw [h4]
  refine hr.imp_ (fun q cq hq => ?_)
  have hb := d.M_bound hq
  refine d.M_mono (fun k hk => ⟨hk.1.1, ?_⟩) (d.M_move (fun k hk => hm k hk.2.2.1 hk.1.2) hb)
  rcases hg with hg | hg
  · intro e; exact hk.1.2 (by rw [hg, e])
  · have := hk.2.2.1; omega
theorem put_two (cur D vs : List Value) (a b : Nat) (hab : a + vs.length = b) (hb : b ≤ cur.length) :
    ((((cur.take b ++ D ++ cur.drop (b + D.length)).take a) ++ vs ++ ((cur.take b ++ D ++ cur.drop (b + D.length)).drop (a + vs.length))).take (b + D.length)) = cur.take a ++ (vs ++ D) := by
  have h1 : (cur.take b ++ D ++ cur.drop (b + D.length)).take a = cur.take a := by
    rw [List.append_assoc, List.take_append_of_le_length (by rw [List.length_take]; omega), List.take_take, Nat.min_eq_left (by omega)]
  have h2 : (cur.take b ++ D ++ cur.drop (b + D.length)).drop (a + vs.length) = D ++ cur.drop (b + D.length) := by
    rw [hab, List.append_assoc, List.drop_append_of_le_length (by rw [List.length_take]; omega), List.drop_of_length_le (by rw [List.length_take]; omega)]; rfl
  rw [h1, h2]
  have h3 : (cur.take a ++ vs).length = b := by rw [List.length_append, List.length_take]; omega
  rw [List.take_append, h3, List.take_of_length_le (by omega), Nat.add_sub_cancel_left, List.take_append_of_le_length (by omega), List.take_of_length_le (l := D) (by omega), List.append_assoc]
theorem put_end (cur vs : List Value) (a : Nat) (ha : a ≤ cur.length) : ((cur.take a ++ vs ++ cur.drop (a + vs.length)).take (a + vs.length)) = cur.take a ++ vs := by
  have h3 : (cur.take a ++ vs).length = a + vs.length := by rw [List.length_append, List.length_take]; omega
  rw [List.take_append, h3, Nat.sub_self, List.take_zero, List.append_nil, List.take_of_length_le (by omega)]
theorem put_three (cur D vs : List Value) (a b : Nat) (hab : a + vs.length = b) (hb : b ≤ cur.length) :
    ((((cur.take a ++ vs ++ cur.drop (a + vs.length)).take b) ++ D ++ ((cur.take a ++ vs ++ cur.drop (a + vs.length)).drop (b + D.length))).take (b + D.length)) = cur.take a ++ (vs ++ D) := by
  have h1 : (cur.take a ++ vs ++ cur.drop (a + vs.length)).take b = cur.take a ++ vs := by rw [← hab]; exact put_end cur vs a (by omega)
  rw [h1]
  have h3 : (cur.take a ++ vs ++ D).length = b + D.length := by rw [List.length_append, List.length_append, List.length_take]; omega
  rw [List.take_append, h3, Nat.sub_self, List.take_zero, List.append_nil, List.take_of_length_le (by omega), List.append_assoc]
theorem below_setCells {w0 W : World} {g : Nat} (hB : Below w0.heap.size w0 W) (hg : w0.heap.size ≤ g) (cs : List Value) (o : Nat) : Below w0.heap.size w0 (W.setCells g o cs) := by
  obtain ⟨s1, s2, s3, s4⟩ := setCells_same g cs o W
  exact ⟨by rw [s1]; exact hB.os, by rw [s2]; exact hB.tape, by rw [s3]; exact hB.output, by rw [s4]; exact hB.size, fun k hk => by rw [setCells_far cs _ k (by omega)]; exact hB.block k hk⟩
theorem size_setCells (W : World) (g : Nat) (cs : List Value) (o : Nat) : (W.setCells g o cs).heap.size = W.heap.size := (setCells_same g cs o W).2.2.2
theorem put_end' {cur inner vs : List Value} {n m : Nat} (hin : cur.take (n * m) = inner) (hv : vs.length = m) (hn : n * m ≤ cur.length) :
    (cur.take (n * m) ++ vs ++ cur.drop (n * m + vs.length)).take ((n + 1) * m) = inner.take (n * m) ++ (vs ++ inner.drop (n * m)) := by
  have e : (n + 1) * m = n * m + vs.length := by rw [Nat.succ_mul, hv]
  rw [e, put_end cur vs _ hn, hin]
  have hl : inner.length ≤ n * m := by rw [← hin, List.length_take]; omega
  rw [List.take_of_length_le hl, List.drop_of_length_le hl, List.append_nil]
theorem mid_len {cur : List Value} {i n m : Nat} (hi : i ≤ n) (hn : n * m ≤ cur.length) : (i + 1) * m + ((cur.take (n * m)).drop (i * m)).length = (n + 1) * m := by
  have h1 : i * m ≤ n * m := Nat.mul_le_mul_right _ hi
  rw [List.length_drop, List.length_take, Nat.min_eq_left hn, Nat.succ_mul, Nat.succ_mul]
  omega
theorem mid_inner {cur inner : List Value} {i n m : Nat} (hi : i ≤ n) (hin : cur.take (n * m) = inner) : inner.take (i * m) = cur.take (i * m) := by
  rw [← hin, List.take_take, Nat.min_eq_left (Nat.mul_le_mul_right _ hi)]
theorem put_mid' {cur inner vs : List Value} {i n m : Nat} (hi : i ≤ n) (hin : cur.take (n * m) = inner) (hv : vs.length = m) (hn : (n + 1) * m ≤ cur.length) :
    ((((cur.take ((i + 1) * m) ++ (cur.take (n * m)).drop (i * m) ++ cur.drop ((i + 1) * m + ((cur.take (n * m)).drop (i * m)).length)).take (i * m)) ++ vs ++
      ((cur.take ((i + 1) * m) ++ (cur.take (n * m)).drop (i * m) ++ cur.drop ((i + 1) * m + ((cur.take (n * m)).drop (i * m)).length)).drop (i * m + vs.length))).take ((n + 1) * m)) = inner.take (i * m) ++ (vs ++ inner.drop (i * m)) := by
  have hnm : n * m ≤ cur.length := by rw [Nat.succ_mul] at hn; omega
  have h2 : (i + 1) * m ≤ (n + 1) * m := Nat.mul_le_mul_right _ (by omega)
  have h1 := put_two cur ((cur.take (n * m)).drop (i * m)) vs (i * m) ((i + 1) * m) (by rw [hv, Nat.succ_mul]) (by omega)
  rw [mid_len hi hnm] at h1 ⊢
  rw [h1, mid_inner hi hin, hin]
theorem put_grow' {cur b2 inner vs : List Value} {i n m : Nat} (hi : i ≤ n) (hin : cur.take (n * m) = inner) (hv : vs.length = m) (hn : n * m ≤ cur.length) (hb : (n + 1) * m ≤ b2.length) (hbi : b2.take (i * m) = cur.take (i * m)) :
    ((((b2.take (i * m) ++ vs ++ b2.drop (i * m + vs.length)).take ((i + 1) * m)) ++ (cur.take (n * m)).drop (i * m) ++
      ((b2.take (i * m) ++ vs ++ b2.drop (i * m + vs.length)).drop ((i + 1) * m + ((cur.take (n * m)).drop (i * m)).length))).take ((n + 1) * m)) = inner.take (i * m) ++ (vs ++ inner.drop (i * m)) := by
  have h2 : (i + 1) * m ≤ (n + 1) * m := Nat.mul_le_mul_right _ (by omega)
  have h1 := put_three b2 ((cur.take (n * m)).drop (i * m)) vs (i * m) ((i + 1) * m) (by rw [hv, Nat.succ_mul]) (by omega)
  rw [mid_len hi hn] at h1 ⊢
  rw [h1, hbi, mid_inner hi hin, hin]
end Go.Proofs.Ytpjpnppoejnafaa.G

/- POrder -/
/-
  The order of texts; a search by halves where what is less stands ahead.
-/
namespace Go.Proofs.Ytpjpnppoejnafaa.G
open Go.RowKit Go.Proofs.YtpjpnppoejnafaaW.PrintWords Go.Proofs.YtpjpnppoejnafaaW.PrintLast Go.Proofs.YtpjpnppoejnafaaW.PrintMore
set_option linter.unusedVariables false
set_option linter.unusedSimpArgs false
theorem bl_irrefl : ∀ a : List UInt8, Op.bytesLess a a = false
  | [] => by simp [Op.bytesLess]
  | a :: x => by simp [Op.bytesLess, bl_irrefl x]
theorem bl_trans : ∀ {a b c : List UInt8}, Op.bytesLess a b = true → Op.bytesLess b c = true → Op.bytesLess a c = true
  | _, [], _, h, _ => by simp [Op.bytesLess] at h
  | [], _ :: _, [], _, h => by simp [Op.bytesLess] at h
  | [], _ :: _, _ :: _, _, _ => by simp [Op.bytesLess]
  | _ :: _, _ :: _, [], _, h => by simp [Op.bytesLess] at h
  | a :: x, b :: y, c :: z, h, k => by
    simp only [Op.bytesLess, Bool.or_eq_true, decide_eq_true_eq, Bool.and_eq_true, beq_iff_eq, UInt8.lt_iff_toNat_lt] at h k ⊢
    rcases h with h | ⟨rfl, h⟩
    · rcases k with k | ⟨rfl, k⟩
      · exact .inl (by omega)
      · exact .inl h
    · rcases k with k | ⟨rfl, k⟩
      · exact .inl k
      · exact .inr ⟨rfl, bl_trans h k⟩
theorem cmp_neg : ∀ (a b : List UInt8), (Lib.compareBytes a b < 0) ↔ Op.bytesLess a b = true
  | [], [] => by simp [Lib.compareBytes, Op.bytesLess]
  | [], _ :: _ => by simp [Lib.compareBytes, Op.bytesLess]
  | _ :: _, [] => by simp [Lib.compareBytes, Op.bytesLess]
  | a :: x, b :: y => by
    simp only [Lib.compareBytes, Op.bytesLess, Bool.or_eq_true, decide_eq_true_eq, Bool.and_eq_true, beq_iff_eq]
    by_cases h1 : a < b
    · simp [h1]
    · by_cases h2 : b < a
      · have : ¬ a = b := by rintro rfl; exact h1 h2
        simp [h1, h2, this]
      · have : a = b := by rw [UInt8.lt_iff_toNat_lt] at h1 h2; exact UInt8.toNat_inj.1 (by omega)
        subst this
        simp [h1, cmp_neg x y]
theorem cmp_zero : ∀ (a b : List UInt8), Lib.compareBytes a b = 0 ↔ a = b
  | [], [] => by simp [Lib.compareBytes]
  | [], _ :: _ => by simp [Lib.compareBytes]
  | _ :: _, [] => by simp [Lib.compareBytes]
  | a :: x, b :: y => by
    simp only [Lib.compareBytes]
    by_cases h1 : a < b
    · have : ¬ a = b := by rintro rfl; exact absurd h1 (by rw [UInt8.lt_iff_toNat_lt]; omega)
      simp [h1, this]
    · by_cases h2 : b < a
      · have : ¬ a = b := by rintro rfl; exact h1 h2
        simp [h1, h2, this]
      · have : a = b := by rw [UInt8.lt_iff_toNat_lt] at h1 h2; exact UInt8.toNat_inj.1 (by omega)
        subst this
        simp [h1, cmp_zero x y]
theorem bl_total {a b : List UInt8} (h : Op.bytesLess a b = false) (h2 : a ≠ b) : Op.bytesLess b a = true := by
  have h1 : ¬ Lib.compareBytes a b < 0 := by rw [cmp_neg, h]; simp
  have h3 : Lib.compareBytes a b ≠ 0 := fun e => h2 ((cmp_zero a b).1 e)
  have key : ∀ (a b : List UInt8), Lib.compareBytes a b > 0 → Op.bytesLess b a = true := by
    intro a
    induction a with
    | nil => intro b; cases b <;> simp [Lib.compareBytes]
    | cons x xs ih =>
      intro b
      cases b with
      | nil => simp [Op.bytesLess]
      | cons y ys =>
        simp only [Lib.compareBytes, Op.bytesLess, Bool.or_eq_true, decide_eq_true_eq, Bool.and_eq_true, beq_iff_eq]
        by_cases h1 : x < y
        · simp [h1]
        · by_cases h2 : y < x
          · simp [h2]
          · have : x = y := by rw [UInt8.lt_iff_toNat_lt] at h1 h2; exact UInt8.toNat_inj.1 (by omega)
            subst this
            simp only [h1, if_false]
            intro h
            have h2 := ih ys h
            simp [h2]
  exact key a b (by omega)
/-! ### a search by halves -/
theorem bsL_tot {α : Type} (c : α → Int) (l : List α) : ∀ (f i j : Nat), i ≤ j → j ≤ l.length → j - i ≤ f → ∃ r, bsL (fun x => some (c x)) l f i j = some r
  | 0, i, j, h1, h2, h3 => ⟨i, by rw [bsL, if_neg (by omega)]⟩
  | f + 1, i, j, h1, h2, h3 => by
    rw [bsL]
    by_cases h : i < j
    · rw [if_pos h]
      have hk : (i + j) / 2 < l.length := by omega
      rw [List.getElem?_eq_getElem hk, Option.bind_some, Option.bind_some]
      by_cases hc : c l[(i + j) / 2] < 0
      · rw [if_pos hc]; exact bsL_tot c l f _ _ (by omega) h2 (by omega)
      · rw [if_neg hc]; exact bsL_tot c l f _ _ (by omega) (by omega) (by omega)
    · exact ⟨i, by rw [if_neg h]⟩
theorem bsO_tot {α : Type} (c : α → Int) (l : List α) : ∃ q, bsO (fun x => some (c x)) l = some q := by
  obtain ⟨r, hr⟩ := bsL_tot c l l.length 0 l.length (by omega) (by omega) (by omega)
  unfold bsO
  rw [hr, Option.bind_some]
  cases l[r]? with
  | none => exact ⟨_, rfl⟩
  | some x => exact ⟨_, rfl⟩
theorem bsL_part {α : Type} {c : α → Int} {P M : List α} (hP : ∀ x ∈ P, c x < 0) (hM : ∀ x ∈ M, ¬ c x < 0) : ∀ (f i j : Nat), i ≤ P.length → P.length ≤ j → j ≤ (P ++ M).length → j - i ≤ f → bsL (fun x => some (c x)) (P ++ M) f i j = some P.length
  | 0, i, j, h1, h2, h3, h4 => by
    rw [bsL, if_neg (by omega)]; congr 1; omega
  | f + 1, i, j, h1, h2, h3, h4 => by
    rw [bsL]
    by_cases h : i < j
    · rw [if_pos h]
      have hk : (i + j) / 2 < (P ++ M).length := by omega
      rw [List.getElem?_eq_getElem hk, Option.bind_some, Option.bind_some]
      by_cases hc : c (P ++ M)[(i + j) / 2] < 0
      · rw [if_pos hc]
        have : (i + j) / 2 < P.length := by
          refine Nat.lt_of_not_le (fun hle => ?_)
          rw [List.getElem_append_right hle] at hc
          exact hM _ (List.getElem_mem _) hc
        exact bsL_part hP hM f _ _ (by omega) h2 h3 (by omega)
      · rw [if_neg hc]
        have : P.length ≤ (i + j) / 2 := by
          refine Nat.le_of_not_lt (fun hlt => ?_)
          rw [List.getElem_append_left hlt] at hc
          exact hc (hP _ (List.getElem_mem _))
        exact bsL_part hP hM f _ _ h1 this (by omega) (by omega)
    · rw [if_neg h]; congr 1; omega
theorem bsO_part {α : Type} {c : α → Int} {P M : List α} (hP : ∀ x ∈ P, c x < 0) (hM : ∀ x ∈ M, ¬ c x < 0) : ∃ fd, bsO (fun x => some (c x)) (P ++ M) = some (P.length, fd) ∧ (fd = true ↔ ∃ x, M.head? = some x ∧ c x = 0) := by
  unfold bsO
  rw [bsL_part hP hM _ _ _ (by omega) (by simp) (by omega) (by omega), Option.bind_some, List.getElem?_append_right (Nat.le_refl _), Nat.sub_self]
  cases M with
  | nil => exact ⟨false, rfl, by simp⟩
  | cons x xs => exact ⟨c x == 0, rfl, by simp⟩
/-- What goes up by less: what is less than a bound stands ahead. -/
theorem up_parts {α : Type} {key : α → List UInt8} {k : List UInt8} : ∀ {l : List α}, l.Pairwise (fun x y => Op.bytesLess (key x) (key y) = true) → ∀ x ∈ l.dropWhile (fun x => Op.bytesLess (key x) k), ¬ Op.bytesLess (key x) k = true
  | [], _, x, hx => by simp at hx
  | y :: ys, h, x, hx => by
    rw [List.pairwise_cons] at h
    rw [List.dropWhile_cons] at hx
    by_cases hy : Op.bytesLess (key y) k = true
    · rw [if_pos hy] at hx
      exact up_parts h.2 x hx
    · rw [if_neg hy] at hx
      rcases List.mem_cons.1 hx with rfl | hx
      · exact hy
      · exact fun hk => hy (bl_trans (h.1 x hx) hk)
theorem pair_of_next {α : Type} {key : α → List UInt8} {l : List α} (h : ∀ i (h : i + 1 < l.length), Op.bytesLess (key l[i]) (key l[i + 1]) = true) : l.Pairwise (fun x y => Op.bytesLess (key x) (key y) = true) := by
  rw [List.pairwise_iff_getElem]
  have step : ∀ d i (hi : i < l.length) (hj : i + d + 1 < l.length), Op.bytesLess (key l[i]) (key l[i + d + 1]) = true := by
    intro d
    induction d with
    | zero => intro i hi hj; exact h i hj
    | succ d ih => intro i hi hj; exact bl_trans (ih i hi (by omega)) (h (i + d + 1) hj)
  intro i j hi hj hij
  have h1 := step (j - i - 1) i hi (by omega)
  have e : i + (j - i - 1) + 1 = j := by omega
  simp only [e] at h1
  exact h1
end Go.Proofs.Ytpjpnppoejnafaa.G

/- G48 -/
-- Laid by wip/g/gprint.py out of the translation, by the kit's print program. Lean checks it.
namespace Go.Proofs.Ytpjpnppoejnafaa.G
open Go.RowKit Go.Proofs.YtpjpnppoejnafaaW.PrintWords Go.Proofs.YtpjpnppoejnafaaW.PrintLast Go.Proofs.YtpjpnppoejnafaaW.PrintMore
attribute [local go_sem] max2_int min2_int max_two min_two max_three min_three max_four min_four   -- for this text's walks alone
set_option linter.unusedVariables false
set_option linter.unusedSimpArgs false

/-! ### slices_BinarySearchFunc_simpl_Label_impl_Label_string: function 48 -/
--IMPORT Derived.Test.YtpjpnppoejnafaaGKIns
set_option maxHeartbeats 1000000 in
set_option maxRecDepth 100000 in
theorem slices_BinarySearchFunc_simpl_Label_impl_Label_string.calls {α : Type} (d : Kd α) (hd : d.sz = 2) (kf : Nat) (hkf : ∀ (zs : Array Value) (W : World), (callFunc kf zs).run Try.prog W = .ok (.enter kf zs) W) (caps : Array Value) (p : α → Option Int) (A0 : Option Addr) (c0 : Nat) (l0 : List α) (tv : Value) (r : Nat) (fd : Bool) (w : World) (hr0 : Kd.C d w A0 l0.length l0) (hc0 : l0.length ≤ c0) (hlen_ : l0.length ≤ 4611686018427387903)
    (hf : ∀ (x : α) (cs : List Value) (b : Int) (W : World), x ∈ l0 → p x = some b → d.K W x cs → Below w.heap.size w W → Calls Try.prog kf (#[(.agg (cs).toArray), tv] ++ caps) W fun e w' => e = .returned (.int .i64 b) ∧ Below W.heap.size W w') (h : bsO p l0 = some (r, fd)) :
    Calls Try.prog 48 #[.slice A0 l0.length c0, tv, .func (.func kf) #[] caps] w fun e w' => e = .returned (.tuple #[.int .i64 r, .bool fd]) ∧ Below w.heap.size w w' := by
  have hm : l0.length ≤ 9223372036854775807 := hr0.2.1
  unfold bsO at h
  obtain ⟨i0, hi0, h⟩ := bind_some' h
  have HR := Lib.hid hr0
  have HF := Lib.hid hf
  have HI := Lib.hid hi0
  have HD := Lib.hid hd
  have HH := Lib.hid h
  clear hr0 hf hi0 hd h
  go_enter Try.func48, Try.ntmps48
  go_wp2
  go_loopw [9, 10, 11] (fun vi vj _ wr => ∃ i j f : Nat, vi = .int .i64 i ∧ vj = .int .i64 j ∧ i ≤ j ∧ j ≤ l0.length ∧ Hid (bsL p l0 f i j = some i0) ∧ Hid (Below w.heap.size w wr)) (fun vi vj _ _ => (intOf vj).toNat - (intOf vi).toNat)
  case atStart => exact ⟨0, l0.length, l0.length, rfl, rfl, by omega, by omega, HI, Below.refl _ _⟩
  case round =>
    obtain ⟨i, j, f, rfl, rfl, hij, hj, HE, HB⟩ := hrel
    by_cases hlt : i < j
    · obtain ⟨f2, rfl, hk, c, hp, h1, h2⟩ := bsL_step hlt hj HE.out
      have HP := Lib.hid hp
      have H1 := Lib.hid h1
      have H2 := Lib.hid h2
      clear hp h1 h2
      obtain ⟨k, hkk⟩ : ∃ k, (i + j) / 2 = k := ⟨_, rfl⟩
      have hltz : ((i : Nat) : Int) < ((j : Nat) : Int) := by omega
      have hw1 : IntKind.i64.wrap ((i : Int) + (j : Int)) = (i : Int) + (j : Int) := by rw [IntKind.wrap_i64]; omega
      have hkz : ((i : Int) + (j : Int)) / 2 = (k : Int) := by omega
      have hkl : k < l0.length := by omega
      have hki : i ≤ k ∧ k < j := by omega
      have HP2 : Hid (p l0[k] = some c) := by have h_ := HP.out; subst hkk; exact h_
      have H12 : Hid (c < 0 → bsL p l0 f2 (k + 1) j = some i0) := by have h_ := H1.out; subst hkk; exact h_
      have H22 : Hid (¬ c < 0 → bsL p l0 f2 i k = some i0) := by have h_ := H2.out; subst hkk; exact h_
      clear HP H1 H2 hk
      obtain ⟨ad, cs, rfl, hcs, hK, hcell⟩ := Kd.C_get HR.out l0[k] (k : Int) (by omega) (by omega)
      rw [HD.out] at hcs hcell
      obtain ⟨y0, y1, rfl⟩ : ∃ y0 y1, cs = [y0, y1] := by match cs, hcs with | [y0, y1], _ => exact ⟨y0, y1, rfl⟩
      clear hcs hkk
      simp only [Int.toNat_natCast, getD_at hkl] at hK hcell
      have HK := Lib.hid (d.K_below HB.out hK)
      clear hK
      have d0 := pw_cell_below HB.out (hcell 0 y0 rfl)
      have d1 := pw_cell_below HB.out (hcell 1 y1 rfl)
      clear hcell
      simp only [Nat.add_zero, Nat.mul_one] at d0
      rw [add_field _ _ 1 (by omega)] at d1
      by_cases hc : c < 0
      · have HN := Lib.hid (H12.out hc)
        go_wp2_with fail
        refine (HF.out l0[k] _ _ _ (List.getElem_mem hkl) HP2.out HK.out HB.out).mono ?_
        rintro e w' ⟨rfl, hbx⟩
        have HB2 := hid_below HB hbx
        clear hbx
        go_wp2
        go_roundw
        case rel => exact ⟨k + 1, j, f2, by go_num, rfl, by omega, by omega, HN, HB2⟩
        case measure => simp [intOf]; omega
      · have HN := Lib.hid (H22.out hc)
        go_wp2_with fail
        refine (HF.out l0[k] _ _ _ (List.getElem_mem hkl) HP2.out HK.out HB.out).mono ?_
        rintro e w' ⟨rfl, hbx⟩
        have HB2 := hid_below HB hbx
        clear hbx
        go_wp2
        go_roundw
        case rel => exact ⟨i, k, f2, rfl, by go_num, by omega, by omega, HN, HB2⟩
        case measure => simp [intOf]; omega
    · obtain rfl := bsL_end hlt HE.out
      have hji : ¬ ((i0 : Nat) : Int) < ((j : Nat) : Int) := by omega
      have hle : i0 ≤ l0.length := by omega
      by_cases hin : i0 < l0.length
      · have h_ := HH.out
        rw [List.getElem?_eq_getElem hin] at h_
        obtain ⟨c, hc, h2_⟩ := bind_some' h_
        cases h2_
        have HP := Lib.hid hc
        clear h_ hc
        obtain ⟨ad, cs, rfl, hcs, hK, hcell⟩ := Kd.C_get HR.out l0[r] (r : Int) (by omega) (by omega)
        rw [HD.out] at hcs hcell
        obtain ⟨y0, y1, rfl⟩ : ∃ y0 y1, cs = [y0, y1] := by match cs, hcs with | [y0, y1], _ => exact ⟨y0, y1, rfl⟩
        clear hcs
        simp only [Int.toNat_natCast, getD_at hin] at hK hcell
        have HK := Lib.hid (d.K_below HB.out hK)
        clear hK
        have d0 := pw_cell_below HB.out (hcell 0 y0 rfl)
        have d1 := pw_cell_below HB.out (hcell 1 y1 rfl)
        clear hcell
        simp only [Nat.add_zero, Nat.mul_one] at d0
        rw [add_field _ _ 1 (by omega)] at d1
        go_wp2_with fail
        refine (HF.out l0[r] _ _ _ (List.getElem_mem hin) HP.out HK.out HB.out).mono ?_
        rintro e w' ⟨rfl, hbx⟩
        have HB2 := hid_below HB hbx
        clear hbx
        go_wp2
        go_ret2
        exact ⟨by first | rfl | simp, HB2.out⟩
      · have h_ := HH.out
        rw [List.getElem?_eq_none (by omega)] at h_
        cases h_
        go_wp2
        go_ret2
        exact ⟨rfl, HB.out⟩

end Go.Proofs.Ytpjpnppoejnafaa.G

/- G50 -/
-- Laid by wip/g/gprint.py out of the translation, by the kit's print program. Lean checks it.
namespace Go.Proofs.Ytpjpnppoejnafaa.G
open Go.RowKit Go.Proofs.YtpjpnppoejnafaaW.PrintWords Go.Proofs.YtpjpnppoejnafaaW.PrintLast Go.Proofs.YtpjpnppoejnafaaW.PrintMore
attribute [local go_sem] max2_int min2_int max_two min_two max_three min_three max_four min_four   -- for this text's walks alone
set_option linter.unusedVariables false
set_option linter.unusedSimpArgs false

/-! ### strings_Compare: function 50 -/
--IMPORT Derived.Test.YtpjpnppoejnafaaShelf
def strings_Compare.f (a0 : ByteArray) (a1 : ByteArray) : Option Int := some (Lib.compareBytes a0.data.toList a1.data.toList)
theorem strings_Compare.calls (a0 : ByteArray) (a1 : ByteArray) (r : Int) (w : World) (h : strings_Compare.f a0 a1 = some r) :
    Calls Try.prog 50 #[.string a0, .string a1] w fun e w' => e = .returned (.int .i64 r) ∧ Drawn0 w w' := by
  obtain rfl := Option.some.inj h
  refine (Try.strings_Compare a0 a1 w).mono ?_
  rintro e w' ⟨rfl, rfl⟩
  exact ⟨rfl, Drawn0.refl _⟩

end Go.Proofs.Ytpjpnppoejnafaa.G

/- G49 -/
-- Laid by wip/g/gprint.py out of the translation, by the kit's print program. Lean checks it.
namespace Go.Proofs.Ytpjpnppoejnafaa.G
open Go.RowKit Go.Proofs.YtpjpnppoejnafaaW.PrintWords Go.Proofs.YtpjpnppoejnafaaW.PrintLast Go.Proofs.YtpjpnppoejnafaaW.PrintMore
attribute [local go_sem] max2_int min2_int max_two min_two max_three min_three max_four min_four   -- for this text's walks alone
set_option linter.unusedVariables false
set_option linter.unusedSimpArgs false

/-! ### impl_LabelSet_1: function 49 -/
def impl_LabelSet_1.f (a0_0 : ByteArray) (a0_1 : ByteArray) (a1 : ByteArray) : Option (Int) := (strings_Compare.f a0_0 a1).bind fun t250 => (some t250)
set_option maxHeartbeats 8000000 in
set_option maxRecDepth 100000 in
theorem impl_LabelSet_1.calls (a0_0 : ByteArray) (a0_1 : ByteArray) (a1 : ByteArray) (r : Int) (w : World) (h : impl_LabelSet_1.f a0_0 a0_1 a1 = some r) :
    Calls Try.prog 49 #[.agg #[.string a0_0, .string a0_1], .string a1] w fun e w' => e = .returned (.int .i64 r) ∧ Below w.heap.size w w' := by
  have hu56 := Try.underlying56
  have HB := Aside0.mk (Below.refl w.heap.size w)
  have H : ((strings_Compare.f a0_0 a1).bind fun t250 => (some t250)) = some r := h
  clear h
  replace H := Option.bind_eq_some_iff.mp H
  obtain ⟨t250, A30, H⟩ := H
  replace H : (some t250) = some r := H
  have A3 := Aside0.mk A30
  clear A30
  obtain rfl := Option.some.inj H
  go_enter Try.func49, Try.ntmps49
  go_wp2_with (first | ((with_reducible refine gate_dst (N := 2) rfl ?_); refine box_event ?hg (N := 2) ?hd (cs := #[.string a0_0, .string a0_1]) (t := 56) ?hr ?_; (case hd => rfl); (case hg => rfl); (case hr => first | (go_simp; done) | (go_simp; rfl)); intro gb249 hg w4 hbox hb; have n0_ := Aside0.mk (below_step (by repeat (first | (with_reducible first | exact HB.out | apply below_alloc | apply pw_below_drewN | apply below_drew1) | exact HB.out)) hb); have n1_ := Aside0.mk (hbox); have n2_ := Aside0.mk ((by rw [hg]; exact (below_size (by repeat (first | (with_reducible first | exact HB.out | apply below_alloc | apply pw_below_drewN | apply below_drew1) | exact HB.out))) : w.heap.size ≤ gb249)); have n3_ := Aside0.mk ((by rw [hg]; exact (below_size (by repeat (first | (with_reducible first | exact HB.out | apply below_alloc | apply pw_below_drewN | apply below_drew1) | exact HB.out))) : w.heap.size ≤ gb249)); clear HB; have HB := n0_; have BK249 := n1_; have GW249 := n2_; have GE249 := n3_; clear n0_ n1_ n2_ n3_; clear hb hbox hg; have hcz5_0 : w4.cell? ⟨gb249, 0, none⟩ = some (.string a0_0) := (blk_cell BK249.out 0).trans rfl; have hcz5_1 : w4.cell? ⟨gb249, 1, none⟩ = some (.string a0_1) := (blk_cell BK249.out 1).trans rfl; have hfz5_0 := blk_frozen BK249.out 0; have hfz5_1 := blk_frozen BK249.out 1) | ((with_reducible refine gate_callee (f := 50) rfl ?_); refine goesL_ (some 8) rfl rfl Try.func50 (by kernel_rfl) rfl #[.string a0_0, .string a1] rfl (by (try simp only [List.map_toArray, List.map_cons, List.map_nil]); first | done | rfl | (simp only [List.length_drop, List.length_take]; rfl)) ?_; (with_reducible refine (strings_Compare.calls a0_0 a1 t250 _ A3.out).mono ?_); rintro e w' ⟨rfl, ⟨nd, rfl⟩⟩; refine ⟨_, rfl, ?_⟩))
  go_ret
  exact ⟨by first | rfl | (simp [errW_none, errW_some] <;> rfl) | (simp [*, errW_none, errW_some] <;> rfl), by repeat (first | (with_reducible first | exact HB.out | apply below_alloc | apply pw_below_drewN | apply below_drew1 | refine below_set ?_ GE249.out) | exact HB.out)⟩

end Go.Proofs.Ytpjpnppoejnafaa.G

/- G52 -/
-- Laid by wip/g/gprint.py out of the translation, by the kit's print program. Lean checks it.
namespace Go.Proofs.Ytpjpnppoejnafaa.G
open Go.RowKit Go.Proofs.YtpjpnppoejnafaaW.PrintWords Go.Proofs.YtpjpnppoejnafaaW.PrintLast Go.Proofs.YtpjpnppoejnafaaW.PrintMore
attribute [local go_sem] max2_int min2_int max_two min_two max_three min_three max_four min_four   -- for this text's walks alone
set_option linter.unusedVariables false
set_option linter.unusedSimpArgs false

/-! ### slices_Insert_simpl_Label_impl_Label: function 52 -/
--IMPORT Derived.Test.YtpjpnppoejnafaaGKIns
set_option maxHeartbeats 4000000 in
set_option maxRecDepth 100000 in
theorem slices_Insert_simpl_Label_impl_Label.end_room (g n c vb : Nat) (cur : Array Value) (vs : List Value) (w : World) (hh : w.heap[g]? = some (.cells cur 56 (0, 0))) (hs : cur.size = c * 2) (hnc : n ≤ c) (hcm : c ≤ 9223372036854775807) (hvb : w.heap[vb]? = some (.cells vs.toArray 56 (0, 0))) (hvl : vs.length = 2) (hne : vb ≠ g) (h1 : ∀ v ∈ cur.toList.take (n * 2), v.oneCell' = true) (h1v : ∀ v ∈ vs, v.oneCell' = true) (hroom : n + 1 ≤ c) :
    Calls Try.prog 52 #[.slice (some ⟨g, 0, none⟩) n c, .int .i64 n, .slice (some ⟨vb, 0, none⟩) 1 1] w fun e w' => e = .returned (.slice (some ⟨g, 0, none⟩) (n + 1) c) ∧ w' = w.setCells g (n * 2) vs := by
  have hvs : ∀ j v, vs[j]? = some v → w.cell? ⟨vb, j, none⟩ = some v := fun j v hj => by rw [blk_cell hvb]; simpa using hj
  have hsz : (Try.prog.info? 56).map (·.size) = some 2 := by obtain ⟨i0, hi0, h0, h2, h3⟩ := info_parts info56; rw [hi0]; simp [h2]
  have hcl : ∀ j, j < c * 2 → (w.cell? ⟨g, j, none⟩).isSome = true := fun j hj => by rw [blk_cell hh, Array.getElem?_eq_getElem (by omega)]; rfl
  have hfz : ∀ j, w.frozen? ⟨g, j, none⟩ = false := fun j => blk_frozen hh j
  obtain ⟨i0, hi0, hz0, hzs, hzb⟩ := info_parts info56
  have hsrc : Src Try.prog i0.size 24 (.slice (some ⟨vb, 0, none⟩) 1 1) 1 vs w := by
    rw [hzs]
    exact Src.ofSlice w Try.underlying24 ⟨vb, 0, none⟩ 1 1 vs (by omega) (fun j u hj => by rw [Addr.add_lit, Nat.zero_add]; exact hvs j u hj) h1v
  have hrun : ∀ ty, (Builtin.append_ #[24, 24] ty #[.slice (some ⟨g, 0, none⟩) n c, .slice (some ⟨vb, 0, none⟩) 1 1]).run Try.prog w = .ok (.slice (some ⟨g, 0, none⟩) (n + 1) c) (w.setCells g (n * 2) vs) := fun ty => by
    have h_ := run_append_room_src w 24 24 ty 56 i0 Try.underlying24 hi0 g 0 n c _ 1 vs hsrc hroom (fun j hj => hcl _ (by rw [hzs, hvl] at *; omega)) (fun j hj => hfz _)
    rw [hzs, Nat.zero_add] at h_
    exact h_
  clear hcl hfz hvs hsrc
  have HRUN := Lib.hid hrun
  clear hrun
  go_enter Try.func52, Try.ntmps52
  go_wp2_with (at_builtin; refine Lib.wpList_append_run _ rfl _ _ _ _ rfl _ _ rfl rfl _ _ (HRUN.out _) ?_)
  go_ret
  exact ⟨rfl, rfl⟩
set_option maxHeartbeats 4000000 in
set_option maxRecDepth 100000 in
theorem slices_Insert_simpl_Label_impl_Label.end_grow (base : Option Addr) (n c vb : Nat) (cs vs : List Value) (w : World) (hnc : n ≤ c) (hbig : (n + 1) * 32 ≤ 140737488355328) (hcl : cs.length = n * 2) (hnil : base = none → n = 0) (hcs : ∀ a, base = some a → ∀ j v, cs[j]? = some v → w.cell? (a.add j) = some v) (hvb : w.heap[vb]? = some (.cells vs.toArray 56 (0, 0))) (hvl : vs.length = 2) (h1v : ∀ v ∈ vs, v.oneCell' = true) (hroom : c < n + 1) :
    Calls Try.prog 52 #[.slice base n c, .int .i64 n, .slice (some ⟨vb, 0, none⟩) 1 1] w fun e w' => e = .returned (.slice (some ⟨w.heap.size, 0, none⟩) (n + 1) (grownCap w (n + 1) c 56)) ∧
      w' = w.drew.alloc (.cells ((cs ++ vs).toArray ++ Builtin.zeroCells (Value.cells (.agg #[(.string ⟨#[]⟩), (.string ⟨#[]⟩)])) (grownCap w (n + 1) c 56 - (n + 1))) 56) := by
  have hvs : ∀ j v, vs[j]? = some v → w.cell? ⟨vb, j, none⟩ = some v := fun j v hj => by rw [blk_cell hvb]; simpa using hj
  obtain ⟨i0, hi0, hz0, hzs, hzb⟩ := info_parts info56
  have hsrc : Src Try.prog i0.size 24 (.slice (some ⟨vb, 0, none⟩) 1 1) 1 vs w := by
    rw [hzs]
    exact Src.ofSlice w Try.underlying24 ⟨vb, 0, none⟩ 1 1 vs (by omega) (fun j u hj => by rw [Addr.add_lit, Nat.zero_add]; exact hvs j u hj) h1v
  have hold : (Builtin.firstCells i0.size n (.slice base n c)).run Try.prog w.drew = .ok cs.toArray w.drew := by
    rw [hzs]
    cases base with
    | none =>
      have h0 := hnil rfl
      subst h0
      rw [List.length_eq_zero_iff.1 (by omega : cs.length = 0)]
      exact run_firstCells_none w.drew 2 0 0 c
    | some a => exact run_firstCells_some w.drew 2 n a n c cs (by omega) (fun j v hj => hcs a rfl j v hj)
  have hrun : ∀ ty, (Builtin.append_ #[24, 24] ty #[.slice base n c, .slice (some ⟨vb, 0, none⟩) 1 1]).run Try.prog w = _ := fun ty =>
    run_append_grow_src w 24 24 ty 56 i0 _ Try.underlying24 hi0 hz0 base n c cs hold _ 1 vs hsrc hroom (by omega) (by rw [hzb]; exact growslice_fits hroom hbig)
  clear hold hsrc hvs hcs
  have HRUN := Lib.hid hrun
  clear hrun
  go_enter Try.func52, Try.ntmps52
  cases base with
  | none =>
    have h0 := hnil rfl
    subst h0
    go_wp2_with (at_builtin; refine Lib.wpList_append_run _ rfl _ _ _ _ rfl _ _ rfl rfl _ _ (HRUN.out _) ?_)
    go_ret
    exact ⟨rfl, rfl⟩
  | some a =>
    obtain ⟨ab, ao, asp⟩ := a
    go_wp2_with (at_builtin; refine Lib.wpList_append_run _ rfl _ _ _ _ rfl _ _ rfl rfl _ _ (HRUN.out _) ?_)
    all_goals (go_ret; exact ⟨rfl, rfl⟩)
set_option maxHeartbeats 4000000 in
set_option maxRecDepth 100000 in
theorem slices_Insert_simpl_Label_impl_Label.mid_room (i : Nat) (g n c vb : Nat) (cur : Array Value) (vs : List Value) (w : World) (hh : w.heap[g]? = some (.cells cur 56 (0, 0))) (hs : cur.size = c * 2) (hnc : n ≤ c) (hcm : c ≤ 9223372036854775807) (hvb : w.heap[vb]? = some (.cells vs.toArray 56 (0, 0))) (hvl : vs.length = 2) (hne : vb ≠ g) (h1 : ∀ v ∈ cur.toList.take (n * 2), v.oneCell' = true) (h1v : ∀ v ∈ vs, v.oneCell' = true) (hi : i < n) (hroom : n + 1 ≤ c) :
    Calls Try.prog 52 #[.slice (some ⟨g, 0, none⟩) n c, .int .i64 i, .slice (some ⟨vb, 0, none⟩) 1 1] w fun e w' => e = .returned (.slice (some ⟨g, 0, none⟩) (n + 1) c) ∧ w' = (w.drew.setCells g ((i + 1) * 2) ((cur.toList.take (n * 2)).drop (i * 2))).setCells g (i * 2) vs := by
  have hvs : ∀ j v, vs[j]? = some v → w.cell? ⟨vb, j, none⟩ = some v := fun j v hj => by rw [blk_cell hvb]; simpa using hj
  have hsz : (Try.prog.info? 56).map (·.size) = some 2 := by obtain ⟨i0, hi0, h0, h2, h3⟩ := info_parts info56; rw [hi0]; simp [h2]
  have hcl : ∀ j, j < c * 2 → (w.cell? ⟨g, j, none⟩).isSome = true := fun j hj => by rw [blk_cell hh, Array.getElem?_eq_getElem (by omega)]; rfl
  have hfz : ∀ j, w.frozen? ⟨g, j, none⟩ = false := fun j => blk_frozen hh j
  have hz2 : ¬ ((i : Int) = (n : Int)) := by omega
  have hw1 : IntKind.i64.wrap ((i : Int) + 1) = (i : Int) + 1 := by rw [IntKind.wrap_i64]; omega
  have hw2 : IntKind.i64.wrap ((n : Int) + 1) = (n : Int) + 1 := by rw [IntKind.wrap_i64]; omega
  have hin : i ≤ n := by omega
  have htn : ((i : Int) + 1).toNat = i + 1 := by omega
  have htm : ((n : Int) + 1).toNat = n + 1 := by omega
  have hb1 : (0 : Int) ≤ (i : Int) + 1 := by omega
  have hb2 : ¬ (c = i + 1) := by omega
  have hb3 : (i : Int) ≤ (n : Int) + 1 := by omega
  have hb4 : ¬ (c = i) := by omega
  have hb5 : (n : Int) + 1 ≤ (c : Int) := by omega
  have hb6 : (i : Int) + 1 ≤ (n : Int) + 1 := by omega
  have hb7 : ¬ ((c : Int) < (n : Int) + 1) := by omega
  have hb8 : n + 1 - (i + 1) = n - i := by omega
  have hov : ∀ lb cb, (callFunc 79 #[.slice (some ⟨vb, 0, none⟩) 1 1, .slice (some ⟨g, (i + 1) * 2, none⟩) lb cb]).run Try.prog w = .ok (.value (.bool false)) w := fun lb cb => by
    rw [run_callFunc_extern Try.func79 (by kernel_rfl) (by kernel_rfl) (by kernel_rfl) (e := Extern.SlicesOverlaps.overlaps #[24, 24] #[4]) (by kernel_rfl),
      Lib.run_overlaps_apart w 24 4 56 Try.underlying24 2 (fun w => by kernel_rfl) ⟨vb, 0, none⟩ ⟨g, (i + 1) * 2, none⟩ 1 1 lb cb hne 56 56 vs.toArray.size cur.size (by simp [World.shape?, hvb]) (by simp [World.shape?, hh]) (by rw [hs]; omega) (blk_frozen hvb 0) (blk_frozen hvb _)]
    rfl
  have hdl : ((cur.toList.take (n * 2)).drop (i * 2)).length = (n - i) * 2 := by rw [List.length_drop, List.length_take, Array.length_toList]; omega
  have hcp1 : ∀ ty dc sc, (Builtin.copy_ #[24, 24] ty #[.slice (some ⟨g, (i + 1) * 2, none⟩) (n - i) dc, .slice (some ⟨g, i * 2, none⟩) (n + 1 - i) sc]).run Try.prog w.drew = .ok (goInt (Nat.min (n + 1 - i) (n - i))) (w.drew.setCells g ((i + 1) * 2) ((cur.toList.take (n * 2)).drop (i * 2))) := fun ty dc sc =>
    run_copy_k w.drew 24 24 ty 56 2 g ((i + 1) * 2) (n - i) dc ⟨g, i * 2, none⟩ (n + 1 - i) sc _ Try.underlying24 hsz (by rw [hdl]; simp only [Nat.min_def]; split <;> omega)
      (fun j v hj => by rw [Addr.add_lit]; rw [List.getElem?_drop] at hj; have hjl := (List.getElem?_eq_some_iff.1 hj).1; rw [List.length_take] at hjl; rw [List.getElem?_take, if_pos (by omega), Array.getElem?_toList] at hj; exact (blk_cell hh _).trans hj)
      (fun j hj => hcl _ (by rw [hdl] at hj; omega)) (fun j hj => hfz _) (fun v hv => h1 v (List.mem_of_mem_drop hv))
  obtain ⟨W1, hW1⟩ : ∃ W1, W1 = w.drew.setCells g ((i + 1) * 2) ((cur.toList.take (n * 2)).drop (i * 2)) := ⟨_, rfl⟩
  have hsp1 : ∀ k, k < c * 2 → (W1.cell? ⟨g, k, none⟩).isSome = true := fun k hk => by
    rw [hW1]
    exact isSome_setCells g ((cur.toList.take (n * 2)).drop (i * 2)) ((i + 1) * 2) w.drew (fun j hj => hcl _ (by rw [hdl] at hj; omega)) _ (hcl k hk)
  have mixed : Try.prog.follows Departure.mixedOrders = true := by kernel_rfl
  have hcp2 : ∀ (W : World), (∀ x, W.cell? x = W1.cell? x) → (∀ x, W.frozen? x = W1.frozen? x) → ∀ ty dc, (Builtin.copy_ #[24, 24] ty #[.slice (some ⟨g, i * 2, none⟩) (n + 1 - i) dc, .slice (some ⟨vb, 0, none⟩) 1 1]).run Try.prog W = .ok (goInt (Nat.min 1 (n + 1 - i))) (W.setCells g (i * 2) vs) := fun W hWc hWf ty dc =>
    run_copy_k W 24 24 ty 56 2 g (i * 2) (n + 1 - i) dc ⟨vb, 0, none⟩ 1 1 vs Try.underlying24 hsz (by rw [hvl]; simp only [Nat.min_def]; split <;> omega)
      (fun j v hj => by
        rw [Addr.add_lit, Nat.zero_add, hWc, hW1, World.cell?_setCells_out g _ _ _ _ (fun h _ => absurd h hne)]
        exact hvs j v hj)
      (fun j hj => by rw [hWc]; exact hsp1 _ (by omega)) (fun j hj => by rw [hWf, hW1, World.frozen?_setCells]; exact hfz _) h1v
  rw [← hW1] at hcp1
  clear hcl hfz hvs hsp1
  go_enter Try.func52, Try.ntmps52
  go_wp2_with (simp only [hov])
  go_region_law_o (refine step_copy_runI rfl _ _ 24 24 rfl _ _ (by simp [Act.eval, Act.put]) (by simp [Act.eval, Act.put]) (hcp1 _ _ _) ?_)
  go_wp2_with (at_builtin; refine wpList_copy_runI _ rfl _ _ 24 24 rfl _ _ rfl rfl (hcp2 _ (fun _ => rfl) (fun _ => rfl) _ _) ?_)
  go_ret
  first | exact ⟨rfl, rfl⟩ | exact ⟨rfl, by rw [hW1]⟩
set_option maxHeartbeats 4000000 in
set_option maxRecDepth 100000 in
theorem slices_Insert_simpl_Label_impl_Label.mid_grow (i : Nat) (g n c vb : Nat) (cur : Array Value) (vs : List Value) (w : World) (hh : w.heap[g]? = some (.cells cur 56 (0, 0))) (hs : cur.size = c * 2) (hnc : n ≤ c) (hcm : c ≤ 9223372036854775807) (hvb : w.heap[vb]? = some (.cells vs.toArray 56 (0, 0))) (hvl : vs.length = 2) (hne : vb ≠ g) (h1 : ∀ v ∈ cur.toList.take (n * 2), v.oneCell' = true) (h1v : ∀ v ∈ vs, v.oneCell' = true) (hi : i < n) (hroom : c < n + 1) (hbig : (n + 1) * 32 ≤ 140737488355328) :
    Calls Try.prog 52 #[.slice (some ⟨g, 0, none⟩) n c, .int .i64 i, .slice (some ⟨vb, 0, none⟩) 1 1] w fun e w' => ∃ C, n + 1 ≤ C ∧ C ≤ maxLen ∧ e = .returned (.slice (some ⟨w.heap.size, 0, none⟩) (n + 1) C) ∧ w' = ((w.drew.alloc (.cells ((cur.toList.take (i * 2)).toArray ++ Builtin.zeroCells (Value.cells (.agg #[(.string ⟨#[]⟩), (.string ⟨#[]⟩)])) (n + 1 - i) ++ Builtin.zeroCells (Value.cells (.agg #[(.string ⟨#[]⟩), (.string ⟨#[]⟩)])) (C - (n + 1))) 56)).setCells w.heap.size (i * 2) vs).drew.setCells w.heap.size ((i + 1) * 2) ((cur.toList.take (n * 2)).drop (i * 2)) := by
  have hvs : ∀ j v, vs[j]? = some v → w.cell? ⟨vb, j, none⟩ = some v := fun j v hj => by rw [blk_cell hvb]; simpa using hj
  have hsz : (Try.prog.info? 56).map (·.size) = some 2 := by obtain ⟨i0, hi0, h0, h2, h3⟩ := info_parts info56; rw [hi0]; simp [h2]
  have hcl : ∀ j, j < c * 2 → (w.cell? ⟨g, j, none⟩).isSome = true := fun j hj => by rw [blk_cell hh, Array.getElem?_eq_getElem (by omega)]; rfl
  have hfz : ∀ j, w.frozen? ⟨g, j, none⟩ = false := fun j => blk_frozen hh j
  have hz2 : ¬ ((i : Int) = (n : Int)) := by omega
  have hw1 : IntKind.i64.wrap ((i : Int) + 1) = (i : Int) + 1 := by rw [IntKind.wrap_i64]; omega
  have hw2 : IntKind.i64.wrap ((n : Int) + 1) = (n : Int) + 1 := by rw [IntKind.wrap_i64]; omega
  have hin : i ≤ n := by omega
  have htn : ((i : Int) + 1).toNat = i + 1 := by omega
  have htm : ((n : Int) + 1).toNat = n + 1 := by omega
  obtain ⟨i0, hi0, hz0, hzs, hzb⟩ := info_parts info56
  have hgm := grownCap_le_maxLen w (n + 1) c 56 (by unfold maxLen; omega)
  have hgg := grownCap_ge w (n + 1) c 56
  have hold : (Builtin.firstCells i0.size i (.slice (some ⟨g, 0, none⟩) i c)).run Try.prog w.drew = .ok (cur.toList.take (i * 2)).toArray w.drew := by
    rw [hzs]
    exact run_firstCells_some w.drew 2 i ⟨g, 0, none⟩ i c (cur.toList.take (i * 2)) (by rw [List.length_take, Array.length_toList]; omega) (fun j v hj => by
      rw [Addr.add_lit, Nat.zero_add]
      have hjl := (List.getElem?_eq_some_iff.1 hj).1
      rw [List.length_take] at hjl
      rw [List.getElem?_take, if_pos (by omega), Array.getElem?_toList] at hj
      exact (blk_cell hh _).trans hj)
  have hrun : ∀ ty, (Builtin.append_ #[24, 3] ty #[.slice (some ⟨g, 0, none⟩) i c, .int .i64 ((n : Int) + 1 - i)]).run Try.prog w = .ok (.slice (some ⟨w.heap.size, 0, none⟩) (n + 1) (grownCap w (n + 1) c 56)) (w.drew.alloc (.cells ((cur.toList.take (i * 2)).toArray ++ Builtin.zeroCells (Value.cells (.agg #[(.string ⟨#[]⟩), (.string ⟨#[]⟩)])) (n + 1 - i) ++ Builtin.zeroCells (Value.cells (.agg #[(.string ⟨#[]⟩), (.string ⟨#[]⟩)])) (grownCap w (n + 1) c 56 - (n + 1))) 56)) := fun ty => by
    have hk : ((n : Int) + 1 - i) = ((n + 1 - i : Nat) : Int) := by omega
    have hk2 : i + (n + 1 - i) = n + 1 := by omega
    have h_ := run_append_grow_zeros w 24 3 ty 56 i0 _ .i64 Try.underlying24 Try.underlying3 hi0 hz0 (some ⟨g, 0, none⟩) i c _ hold (n + 1 - i) (by omega) (by omega) (by omega) (by omega) (by rw [hzb]; omega) (by rw [hzb]; exact growslice_fits (by omega) (by omega))
    rw [hk2] at h_
    rw [hk]
    exact h_
  obtain ⟨C, hC⟩ : ∃ C, grownCap w (n + 1) c 56 = C := ⟨_, rfl⟩
  rw [hC] at hgm hgg hrun
  obtain ⟨W2, hW2⟩ : ∃ W2, W2 = w.drew.alloc (.cells ((cur.toList.take (i * 2)).toArray ++ Builtin.zeroCells (Value.cells (.agg #[(.string ⟨#[]⟩), (.string ⟨#[]⟩)])) (n + 1 - i) ++ Builtin.zeroCells (Value.cells (.agg #[(.string ⟨#[]⟩), (.string ⟨#[]⟩)])) (C - (n + 1))) 56) := ⟨_, rfl⟩
  rw [← hW2] at hrun
  have hzc : ∀ k, (Builtin.zeroCells (Value.cells (.agg #[(.string ⟨#[]⟩), (.string ⟨#[]⟩)])) k).size = k * 2 := fun k => by simp only [Builtin.zeroCells, Array.size_map, Array.size_range]; rfl
  obtain ⟨b2, hb2⟩ : ∃ b2, b2 = ((cur.toList.take (i * 2)).toArray ++ Builtin.zeroCells (Value.cells (.agg #[(.string ⟨#[]⟩), (.string ⟨#[]⟩)])) (n + 1 - i) ++ Builtin.zeroCells (Value.cells (.agg #[(.string ⟨#[]⟩), (.string ⟨#[]⟩)])) (C - (n + 1))) := ⟨_, rfl⟩
  have hb2s : b2.size = C * 2 := by rw [hb2]; simp only [Array.size_append, hzc, List.size_toArray, List.length_take, Array.length_toList]; omega
  have hblk : W2.heap[w.heap.size]? = some (.cells b2 56 (0, 0)) := by rw [hW2, hb2]; exact heap_alloc_new w.drew _
  have hglt : g < w.heap.size := blk_lt hh
  have hvlt : vb < w.heap.size := blk_lt hvb
  have hold2 : ∀ k x, k < w.heap.size → W2.cell? ⟨k, x, none⟩ = w.cell? ⟨k, x, none⟩ := fun k x hk => by
    have hb_ : Below w.heap.size w W2 := by rw [hW2]; exact below_alloc (below_drew1 (Below.refl w.heap.size w)) _
    simp only [World.cell?, hb_.block k hk]
  have hcl2 : ∀ j, j < C * 2 → (W2.cell? ⟨w.heap.size, j, none⟩).isSome = true := fun j hj => by rw [blk_cell hblk, Array.getElem?_eq_getElem (by omega)]; rfl
  have hfz2 : ∀ j, W2.frozen? ⟨w.heap.size, j, none⟩ = false := fun j => blk_frozen hblk j
  have hcp1 : ∀ ty dc, (Builtin.copy_ #[24, 24] ty #[.slice (some ⟨w.heap.size, i * 2, none⟩) (n + 1 - i) dc, .slice (some ⟨vb, 0, none⟩) 1 1]).run Try.prog W2 = .ok (goInt (Nat.min 1 (n + 1 - i))) (W2.setCells w.heap.size (i * 2) vs) := fun ty dc =>
    run_copy_k W2 24 24 ty 56 2 w.heap.size (i * 2) (n + 1 - i) dc ⟨vb, 0, none⟩ 1 1 vs Try.underlying24 hsz (by rw [hvl]; simp only [Nat.min_def]; split <;> omega)
      (fun j v hj => by rw [Addr.add_lit, Nat.zero_add, hold2 _ _ hvlt]; exact hvs j v hj) (fun j hj => hcl2 _ (by omega)) (fun j hj => hfz2 _) h1v
  obtain ⟨W3, hW3⟩ : ∃ W3, W3 = W2.setCells w.heap.size (i * 2) vs := ⟨_, rfl⟩
  rw [← hW3] at hcp1
  have hsp3 : ∀ k, k < C * 2 → (W3.cell? ⟨w.heap.size, k, none⟩).isSome = true := fun k hk => by
    rw [hW3]
    exact isSome_setCells w.heap.size vs (i * 2) W2 (fun j hj => hcl2 _ (by omega)) _ (hcl2 k hk)
  have hdl : (((cur.toList.take (n * 2)).drop (i * 2))).length = (n - i) * 2 := by rw [List.length_drop, List.length_take, Array.length_toList]; omega
  have hcp2 : ∀ ty dc sc, (Builtin.copy_ #[24, 24] ty #[.slice (some ⟨w.heap.size, (i + 1) * 2, none⟩) (n - i) dc, .slice (some ⟨g, i * 2, none⟩) (n - i) sc]).run Try.prog W3.drew = .ok (goInt (Nat.min (n - i) (n - i))) (W3.drew.setCells w.heap.size ((i + 1) * 2) ((cur.toList.take (n * 2)).drop (i * 2))) := fun ty dc sc =>
    run_copy_k W3.drew 24 24 ty 56 2 w.heap.size ((i + 1) * 2) (n - i) dc ⟨g, i * 2, none⟩ (n - i) sc _ Try.underlying24 hsz (by rw [hdl]; simp only [Nat.min_def]; split <;> omega)
      (fun j v hj => by
        rw [Addr.add_lit]
        show W3.cell? _ = _
        rw [hW3, World.cell?_setCells_out w.heap.size _ _ _ _ (fun h _ => absurd h (by show g ≠ w.heap.size; omega)), hold2 _ _ hglt]
        rw [List.getElem?_drop] at hj
        have hjl := (List.getElem?_eq_some_iff.1 hj).1
        rw [List.length_take] at hjl
        rw [List.getElem?_take, if_pos (by omega), Array.getElem?_toList] at hj
        exact (blk_cell hh _).trans hj)
      (fun j hj => hsp3 _ (by rw [hdl] at hj; omega)) (fun j hj => by show W3.frozen? _ = _; rw [hW3, World.frozen?_setCells]; exact hfz2 _) (fun v hv => h1 v (List.mem_of_mem_drop hv))
  have mixed : Try.prog.follows Departure.mixedOrders = true := by kernel_rfl
  have hq1 : (0 : Int) ≤ (i : Int) + 1 := by omega
  have hq2 : ¬ (C = i + 1) := by omega
  have hq3 : (i : Int) ≤ (n : Int) + 1 := by omega
  have hq4 : ¬ (c = i) := by omega
  have hq5 : ¬ (C = i) := by omega
  have hq6 : (i : Int) + 1 ≤ (n : Int) + 1 := by omega
  have hq7 : (c : Int) < (n : Int) + 1 := by omega
  have hq8 : n + 1 - (i + 1) = n - i := by omega
  have hq9 : IntKind.i64.wrap ((n : Int) + 1 - i) = (n : Int) + 1 - i := by rw [IntKind.wrap_i64]; omega
  have hq10 : i ≤ c := by omega
  have hq11 : (i : Int) ≤ (c : Int) := by omega
  have HW2 := Lib.hid hW2
  have HW3 := Lib.hid hW3
  clear hW2 hW3 hb2 hC hblk hdl hzc hb2s
  clear hcl hfz hvs hcl2 hfz2 hsp3 hold hold2
  go_enter Try.func52, Try.ntmps52
  go_wp2_with (first | (at_builtin; refine Lib.wpList_append_run _ rfl _ _ _ _ rfl _ _ rfl rfl _ _ (hrun _) ?_) | (at_builtin; refine wpList_copy_runI _ rfl _ _ 24 24 rfl _ _ rfl rfl (hcp1 _ _) ?_))
  try go_region_law_o (refine step_copy_runI rfl _ _ 24 24 rfl _ _ (by simp [Act.eval, Act.put]) (by simp [Act.eval, Act.put]) (hcp2 _ _ _) ?_)
  go_wp2
  go_ret
  exact ⟨C, by omega, hgm, rfl, by first | rfl | rw [HW3.out, HW2.out]⟩
set_option maxHeartbeats 1000000 in
theorem slices_Insert_simpl_Label_impl_Label.calls {α : Type} (d : Kd α) (hd : d.sz = 2) (u : Value) (l0 : List α) (i : Nat) (hi : i ≤ l0.length) (x : α) (vs : List Value) (vb : Nat) (ok okp : Nat → Prop) (w0 w : World) (hB : Below w0.heap.size w0 w) (hR : d.R 56 w w0.heap.size ok u l0)
    (hvb : w.heap[vb]? = some (.cells vs.toArray 56 (0, 0))) (hM : d.M w w0.heap.size okp x vs) (hokp : ∀ k, okp k → ok k ∧ some k ≠ u.ownBlock) (hfresh : ∀ k, w.heap.size ≤ k → ok k) (hne : some vb ≠ u.ownBlock) (hbig : (l0.length + 1) * 32 ≤ 140737488355328) :
    Calls Try.prog 52 #[u, .int .i64 i, .slice (some ⟨vb, 0, none⟩) 1 1] w fun e w' => ∃ v, e = .returned v ∧ d.R 56 w' w0.heap.size ok v (l0.take i ++ x :: l0.drop i) ∧ Below w0.heap.size w0 w' ∧ Kept w w' (fun k => some k = u.ownBlock) := by
  have hvl : vs.length = 2 := by rw [← hd]; exact d.K_len (d.K_of_M hM)
  have h1v := d.K_one (d.K_of_M hM)
  have hMx := d.M_mono hokp hM
  have hzl : (l0.take i ++ x :: l0.drop i).length = l0.length + 1 := by simp; omega
  have hsw := hB.size
  obtain ⟨h0, inner, ⟨hl, hv⟩, hr⟩ := hR
  have hrp := reps_put hr i hi hMx (d.K_len (d.K_of_M hM))
  rcases hv with ⟨rfl, hz⟩ | ⟨g, c, cur, rfl, hb, hh, hnc, hcm, hs, hin⟩
  · obtain rfl : l0 = [] := List.eq_nil_of_length_eq_zero (by omega)
    obtain rfl : i = 0 := by simpa using hi
    have hinn : inner = [] := List.eq_nil_of_length_eq_zero (by rw [hl]; simp)
    refine (slices_Insert_simpl_Label_impl_Label.end_grow none 0 0 vb [] vs w (by omega) (by simp at hbig ⊢; try omega) (by simp) (fun _ => rfl) (by intro a ha; cases ha) hvb hvl h1v (by omega)).mono ?_
    rintro e w' ⟨rfl, rfl⟩
    have hgm := grownCap_le_maxLen w (0 + 1) 0 56 (by unfold maxLen; omega)
    have hgg := grownCap_ge w (0 + 1) 0 56
    generalize hC : grownCap w (0 + 1) 0 56 = C at hgm hgg
    have hb_ : Below w.heap.size w (w.drew.alloc (.cells (([] ++ vs).toArray ++ Builtin.zeroCells (Value.cells (.agg #[(.string ⟨#[]⟩), (.string ⟨#[]⟩)])) (C - (0 + 1))) 56)) := below_alloc (below_drew1 (Below.refl w.heap.size w)) _
    have h_ := R_put (w' := w.drew.alloc (.cells (([] ++ vs).toArray ++ Builtin.zeroCells (Value.cells (.agg #[(.string ⟨#[]⟩), (.string ⟨#[]⟩)])) (C - (0 + 1))) 56)) (g' := w.heap.size) (C := C) hrp hsw (heap_alloc_new w.drew _) (by rw [hzl]; simp at hgg ⊢; omega) hgm
      (by rw [hd]; simp only [Array.size_append, List.size_toArray, List.nil_append, hvl, Builtin.zeroCells, Array.size_map, Array.size_range]; have hzs : (Value.cells (.agg #[(.string ⟨#[]⟩), (.string ⟨#[]⟩)])).size = 2 := rfl; rw [hzs]; omega)
      (by rw [hzl, hinn, hd]; simp [← hvl])
      (hfresh _ (Nat.le_refl _)) (.inr (Nat.le_refl _)) (fun k hk _ => hb_.block k hk)
    rw [hzl] at h_
    exact ⟨_, rfl, h_, below_then hB hsw hb_, Kept.of_below hb_ _⟩
  · rw [hd] at hs hin
    have hgw := blk_lt hh
    have hcm2 : c ≤ 9223372036854775807 := by unfold maxLen at hcm; omega
    have hgo : ok g := h0 g rfl
    have hvg : vb ≠ g := fun e => hne (by rw [e]; rfl)
    have h1 : ∀ v ∈ (cur.toList.take (l0.length * 2)), v.oneCell' = true := by
      intro v hv
      rw [hin] at hv
      obtain ⟨j, hj, rfl⟩ := List.getElem_of_mem hv
      have hj2 : j / 2 < l0.length := by rw [hl] at hj; rw [hd] at hj; exact Nat.div_lt_of_lt_mul (by omega)
      have hq := hr.2 (j / 2) _ (List.getElem?_eq_getElem hj2)
      refine d.K_one (d.K_of_M hq) _ ?_
      rw [hd]
      refine List.mem_iff_getElem?.2 ⟨j % 2, ?_⟩
      rw [List.getElem?_take, if_pos (Nat.mod_lt _ (by omega)), List.getElem?_drop, show j / 2 * 2 + j % 2 = j by omega]
      exact List.getElem?_eq_getElem hj
    have hlenc : cur.toList.length = c * 2 := by rw [Array.length_toList, hs]
    have hcl : l0.length * 2 ≤ c * 2 := Nat.mul_le_mul_right _ hnc
    by_cases hie : i = l0.length
    · obtain rfl := hie
      by_cases hroom : l0.length + 1 ≤ c
      · refine (slices_Insert_simpl_Label_impl_Label.end_room g l0.length c vb cur vs w hh hs hnc hcm2 hvb hvl hvg h1 h1v hroom).mono ?_
        rintro e w' ⟨rfl, rfl⟩
        obtain ⟨cur2, h2, h2s, h2l⟩ := setCells_row vs (l0.length * 2) w cur hh (by rw [hvl, hs]; omega)
        have h_ := R_put (w := w) hrp hb h2 (by rw [hzl]; exact hroom) hcm (by rw [h2s, hs, hd]) (by rw [hzl, hd, h2l]; exact put_end' hin hvl (by omega)) hgo (.inl rfl) (fun k hk hn => setCells_far vs _ k (fun e => hn (by rw [e]; rfl)))
        rw [hzl] at h_
        exact ⟨_, rfl, h_, below_setCells hB hb vs _, ⟨by rw [size_setCells]; exact Nat.le_refl _, fun k hk hn => setCells_far vs _ k (fun e => hn (by rw [e]; rfl))⟩⟩
      · refine (slices_Insert_simpl_Label_impl_Label.end_grow (some ⟨g, 0, none⟩) l0.length c vb (cur.toList.take (l0.length * 2)) vs w hnc hbig (by rw [List.length_take]; omega) (by intro h; cases h) (fun a ha j v hj => by
          cases ha
          rw [Addr.add_lit, Nat.zero_add]
          have hjl := (List.getElem?_eq_some_iff.1 hj).1
          rw [List.length_take] at hjl
          rw [List.getElem?_take, if_pos (by omega), Array.getElem?_toList] at hj
          exact (blk_cell hh _).trans hj) hvb hvl h1v (by omega)).mono ?_
        rintro e w' ⟨rfl, rfl⟩
        have hgm := grownCap_le_maxLen w (l0.length + 1) c 56 (by unfold maxLen; omega)
        have hgg := grownCap_ge w (l0.length + 1) c 56
        generalize hC : grownCap w (l0.length + 1) c 56 = C at hgm hgg
        have hb_ : Below w.heap.size w (w.drew.alloc (.cells ((cur.toList.take (l0.length * 2) ++ vs).toArray ++ Builtin.zeroCells (Value.cells (.agg #[(.string ⟨#[]⟩), (.string ⟨#[]⟩)])) (C - (l0.length + 1))) 56)) := below_alloc (below_drew1 (Below.refl w.heap.size w)) _
        have h_ := R_put (w := w) (w' := w.drew.alloc (.cells ((cur.toList.take (l0.length * 2) ++ vs).toArray ++ Builtin.zeroCells (Value.cells (.agg #[(.string ⟨#[]⟩), (.string ⟨#[]⟩)])) (C - (l0.length + 1))) 56)) (g' := w.heap.size) (C := C) hrp hsw (heap_alloc_new w.drew _) (by rw [hzl]; exact hgg) hgm
          (by rw [hd]; simp only [Array.size_append, List.size_toArray, List.length_append, List.length_take, hlenc, hvl, Builtin.zeroCells, Array.size_map, Array.size_range]; have hzs : (Value.cells (.agg #[(.string ⟨#[]⟩), (.string ⟨#[]⟩)])).size = 2 := rfl; rw [hzs]; omega)
          (by
            rw [hzl, hd, ← hin]
            have hl2 : (cur.toList.take (l0.length * 2) ++ vs).length = (l0.length + 1) * 2 := by rw [List.length_append, List.length_take, hvl]; omega
            rw [Array.toList_append, List.take_append_of_le_length (by rw [List.toList_toArray]; omega), List.toList_toArray]
            have e1 := List.take_of_length_le (l := cur.toList.take (l0.length * 2) ++ vs) (i := (l0.length + 1) * 2) (by omega)
            have e2 : (cur.toList.take (l0.length * 2)).take (l0.length * 2) = cur.toList.take (l0.length * 2) := by rw [List.take_take, Nat.min_self]
            have e3 : (cur.toList.take (l0.length * 2)).drop (l0.length * 2) = [] := List.drop_of_length_le (by rw [List.length_take]; omega)
            rw [e1, e2, e3, List.append_nil])
          (hfresh _ (Nat.le_refl _)) (.inr (Nat.le_refl _)) (fun k hk _ => hb_.block k hk)
        rw [hzl] at h_
        exact ⟨_, rfl, h_, below_then hB hsw hb_, Kept.of_below hb_ _⟩
    · by_cases hroom : l0.length + 1 ≤ c
      · refine (slices_Insert_simpl_Label_impl_Label.mid_room i g l0.length c vb cur vs w hh hs hnc hcm2 hvb hvl hvg h1 h1v (by omega) hroom).mono ?_
        rintro e w' ⟨rfl, rfl⟩
        have hml := mid_len (cur := cur.toList) (m := 2) hi (by omega)
        obtain ⟨cur2, h2, h2s, h2l⟩ := setCells_row ((cur.toList.take (l0.length * 2)).drop (i * 2)) ((i + 1) * 2) w.drew cur hh (by rw [hs]; omega)
        obtain ⟨cur3, h3, h3s, h3l⟩ := setCells_row vs (i * 2) _ cur2 h2 (by rw [hvl, h2s, hs]; omega)
        have h_ := R_put (w := w) hrp hb h3 (by rw [hzl]; exact hroom) hcm (by rw [h3s, h2s, hs, hd]) (by rw [hzl, hd, h3l, h2l]; exact put_mid' hi hin hvl (by omega)) hgo (.inl rfl) (fun k hk hn => (setCells_far vs _ k (fun e => hn (by rw [e]; rfl))).trans (setCells_far _ _ k (fun e => hn (by rw [e]; rfl))))
        rw [hzl] at h_
        exact ⟨_, rfl, h_, below_setCells (below_setCells (below_drew1 hB) hb _ _) hb vs _, ⟨by rw [size_setCells, size_setCells]; exact Nat.le_refl _, fun k hk hn => (setCells_far vs _ k (fun e => hn (by rw [e]; rfl))).trans (setCells_far _ _ k (fun e => hn (by rw [e]; rfl)))⟩⟩
      · refine (slices_Insert_simpl_Label_impl_Label.mid_grow i g l0.length c vb cur vs w hh hs hnc hcm2 hvb hvl hvg h1 h1v (by omega) (by omega) hbig).mono ?_
        rintro e w' ⟨C, hgg, hgm, rfl, rfl⟩
        have hml := mid_len (cur := cur.toList) (m := 2) hi (by omega)
        generalize hbk : ((cur.toList.take (i * 2)).toArray ++ Builtin.zeroCells (Value.cells (.agg #[(.string ⟨#[]⟩), (.string ⟨#[]⟩)])) (l0.length + 1 - i) ++ Builtin.zeroCells (Value.cells (.agg #[(.string ⟨#[]⟩), (.string ⟨#[]⟩)])) (C - (l0.length + 1))) = b2
        have hzc : ∀ k, (Builtin.zeroCells (Value.cells (.agg #[(.string ⟨#[]⟩), (.string ⟨#[]⟩)])) k).size = k * 2 := fun k => by simp only [Builtin.zeroCells, Array.size_map, Array.size_range]; rfl
        have hb2s : b2.size = C * 2 := by rw [← hbk]; simp only [Array.size_append, hzc, List.size_toArray, List.length_take, hlenc]; omega
        have hbi : b2.toList.take (i * 2) = cur.toList.take (i * 2) := by
          rw [← hbk, Array.toList_append, Array.toList_append, List.toList_toArray, List.append_assoc, List.take_append_of_le_length (by rw [List.length_take]; omega), List.take_take, Nat.min_self]
        have hb_ : Below w.heap.size w (w.drew.alloc (.cells b2 56)) := below_alloc (below_drew1 (Below.refl w.heap.size w)) _
        obtain ⟨cur2, h2, h2s, h2l⟩ := setCells_row vs (i * 2) (w.drew.alloc (.cells b2 56)) b2 (heap_alloc_new w.drew _) (by rw [hvl, hb2s]; omega)
        obtain ⟨cur3, h3, h3s, h3l⟩ := setCells_row ((cur.toList.take (l0.length * 2)).drop (i * 2)) ((i + 1) * 2) ((w.drew.alloc (.cells b2 56)).setCells w.heap.size (i * 2) vs).drew cur2 h2 (by rw [h2s, hb2s]; omega)
        have hfar : ∀ k, k < w.heap.size → (((w.drew.alloc (.cells b2 56)).setCells w.heap.size (i * 2) vs).drew.setCells w.heap.size ((i + 1) * 2) ((cur.toList.take (l0.length * 2)).drop (i * 2))).heap[k]? = w.heap[k]? := fun k hk => (setCells_far _ _ k (by omega)).trans ((setCells_far vs _ k (by omega)).trans (hb_.block k hk))
        have h_ := R_put (w := w) hrp hsw h3 (by rw [hzl]; exact hgg) hgm (by rw [h3s, h2s, hb2s, hd]) (by rw [hzl, hd, h3l, h2l]; exact put_grow' hi hin hvl (by omega) (by have h_ : b2.toList.length = b2.size := Array.length_toList; omega) hbi) (hfresh _ (Nat.le_refl _)) (.inr (Nat.le_refl _)) (fun k hk _ => hfar k hk)
        rw [hzl] at h_
        exact ⟨_, rfl, h_, below_setCells (below_drew1 (below_setCells (below_then hB hsw hb_) hsw vs _)) hsw _ _, ⟨by rw [size_setCells]; show w.heap.size ≤ (World.setCells _ _ _ _).heap.size; rw [size_setCells]; exact hb_.size, fun k hk _ => hfar k hk⟩⟩

end Go.Proofs.Ytpjpnppoejnafaa.G

/- G21 -/
-- Laid by wip/g/gprint.py out of the translation, by the kit's print program. Lean checks it.
namespace Go.Proofs.Ytpjpnppoejnafaa.G
open Go.RowKit Go.Proofs.YtpjpnppoejnafaaW.PrintWords Go.Proofs.YtpjpnppoejnafaaW.PrintLast Go.Proofs.YtpjpnppoejnafaaW.PrintMore
attribute [local go_sem] max2_int min2_int max_two min_two max_three min_three max_four min_four   -- for this text's walks alone
set_option linter.unusedVariables false
set_option linter.unusedSimpArgs false

/-! ### impl_LabelSet: function 21 -/
--IMPORT Derived.Test.YtpjpnppoejnafaaGKIns
def impl_LabelSet.f (k : Nat) (l0 : List S56) (a1 a2 : ByteArray) : Option (List S56 × Bool) :=
  (impl_LabelDrop.f l0 a1).bind fun out => (bsO (fun x => impl_LabelSet_1.f x.f0 x.f1 a1) out).bind fun q => (impl_LabelsOk.f k l0).bind fun a => if a = true then (impl_NameOk.f k a1).bind fun b => if b = true then (impl_NameOk.f k a2).bind fun c => if c = true then (if (out.length : Int) = 8 then some (l0, false) else some (out.take q.1 ++ ⟨a1, a2⟩ :: out.drop q.1, true)) else some (l0, false) else some (l0, false) else some (l0, false)
theorem impl_LabelSet.mono (l0 : List S56) (a1 a2 : ByteArray) (k : Nat) : LeO (impl_LabelSet.f k l0 a1 a2) (impl_LabelSet.f (k + 1) l0 a1 a2) := by
  unfold impl_LabelSet.f
  exact LeO.bind (LeO.refl _) (fun _ => LeO.bind (LeO.refl _) (fun _ => LeO.bind (impl_LabelsOk.mono _ _) (fun _ => LeO.ite (LeO.bind (impl_NameOk.mono _ _) (fun _ => LeO.ite (LeO.bind (impl_NameOk.mono _ _) (fun _ => LeO.refl _)) (LeO.refl _))) (LeO.refl _))))
theorem delO_len {α : Type} {p : α → Option Bool} : ∀ {l r : List α}, delO p l = some r → r.length ≤ l.length
  | [], r, h => by rw [delO] at h; cases h; simp
  | x :: xs, r, h => by
    obtain ⟨b, ys, _, hy, rfl⟩ := delO_cons h
    have := delO_len hy
    cases b <;> simp <;> omega
set_option maxHeartbeats 2000000 in
theorem impl_LabelSet.calls (k : Nat) (A0 : Option Addr) (c0 : Nat) (l0 : List (S56)) (a1 : ByteArray) (a2 : ByteArray) (r1 : List (S56)) (r2 : Bool) (w : World) (hr0 : Kd.C k56 w A0 l0.length l0) (hc0 : l0.length ≤ c0) (h : impl_LabelSet.f k l0 a1 a2 = some (r1, r2)) :
    Calls Try.prog 21 #[.slice A0 l0.length c0, .string a1, .string a2] w fun e w' => ∃ v0_ : Value, e = .returned (.tuple #[v0_, .bool r2]) ∧ Kd.R k56 56 w' w.heap.size (fun _ => True) v0_ r1 ∧ Below w.heap.size w w' := by
  unfold impl_LabelSet.f at h
  obtain ⟨out, hout, h⟩ := bind_some' h
  obtain ⟨⟨i, fd⟩, hq, h⟩ := bind_some' h
  obtain ⟨a, ha, h⟩ := bind_some' h
  have hll : l0.length < 4398046511104 := by
    unfold impl_LabelDrop.f at hout
    by_cases hl : l0.length < 4398046511104
    · exact hl
    · rw [if_neg hl] at hout; cases hout
  have hol : out.length ≤ l0.length := by
    unfold impl_LabelDrop.f at hout
    rw [if_pos hll] at hout
    exact delO_len hout
  have hil : i ≤ out.length := by
    unfold bsO at hq
    obtain ⟨j, hj, hq⟩ := bind_some' hq
    have h1 := (bsL_le (Nat.zero_le _) hj).2
    cases hx : out[j]? with
    | none => rw [hx] at hq; cases hq; exact h1
    | some x =>
      rw [hx] at hq
      obtain ⟨c, _, hq⟩ := bind_some' hq
      cases hq; exact h1
  have HCL : Hid (slices_Clone_simpl_Label_impl_Label.f l0 = some l0) := by unfold Hid slices_Clone_simpl_Label_impl_Label.f; rw [if_pos hll]
  have HR := Lib.hid hr0
  have HDR := Lib.hid hout
  have HBS := Lib.hid hq
  have HA := Lib.hid ha
  clear hr0 hout hq ha
  cases a with
  | false =>
    cases h
    go_enter Try.func21, Try.ntmps21
    go_wp2_with fail
    refine (impl_LabelDrop.calls A0 c0 l0 a1 out w HR.out hc0 HDR.out).mono ?_
    rintro e w1 ⟨v, rfl, hv, hb1⟩
    obtain ⟨A, c, rfl, hlc, hC⟩ := Kd.R_reads hv
    have HV := Lib.hid hv
    have HB1 := Lib.hid hb1
    have HC := Lib.hid hC
    clear hv hb1 hC
    go_wp2_with fail
    refine (slices_BinarySearchFunc_simpl_Label_impl_Label_string.calls k56 rfl 49 (fun _ _ => by kernel_rfl) #[] (fun x => impl_LabelSet_1.f x.f0 x.f1 a1) A c out (.string a1) i fd w1 HC.out hlc (by omega) ?_ HBS.out).mono ?_
    · intro x cs b W hx hp hk hb
      obtain rfl := k56_open hk
      exact impl_LabelSet_1.calls x.f0 x.f1 a1 b W hp
    rintro e w2 ⟨rfl, hb2⟩
    have HB2 := Lib.hid (below_then HB1.out HB1.out.size hb2)
    have HV2 := Lib.hid (Kd.R_below HV.out hb2)
    have HR2 := Lib.hid (Kd.C_below (Kd.C_below HR.out HB1.out) hb2)
    clear hb2
    go_wp2_with fail
    refine (impl_LabelsOk.calls k A0 c0 l0 false w2 HR2.out hc0 HA.out).mono ?_
    rintro e w3 ⟨rfl, hb3⟩
    have HB3 := Lib.hid (below_then HB2.out HB2.out.size hb3)
    have HV3 := Lib.hid (Kd.R_below HV2.out hb3)
    have HR3 := Lib.hid (Kd.C_below HR2.out hb3)
    clear hb3
    go_wp2_with fail
    refine (slices_Clone_simpl_Label_impl_Label.calls A0 c0 l0 l0 _ HR3.out hc0 HCL.out).mono ?_
    rintro e w9 ⟨v9, rfl, hv9, hb9⟩
    have HB9 := Lib.hid (below_then HB3.out (HB3.out).size hb9)
    have HV9 := Lib.hid (Kd.R_lower hv9 (HB3.out).size)
    clear hv9 hb9
    go_wp2
    go_ret2
    exact ⟨_, rfl, HV9.out, HB9.out⟩
  | true =>
    rw [if_pos rfl] at h
    obtain ⟨b, hb, h⟩ := bind_some' h
    have HN := Lib.hid hb
    clear hb
    cases b with
    | false =>
      cases h
      go_enter Try.func21, Try.ntmps21
      go_wp2_with fail
      refine (impl_LabelDrop.calls A0 c0 l0 a1 out w HR.out hc0 HDR.out).mono ?_
      rintro e w1 ⟨v, rfl, hv, hb1⟩
      obtain ⟨A, c, rfl, hlc, hC⟩ := Kd.R_reads hv
      have HV := Lib.hid hv
      have HB1 := Lib.hid hb1
      have HC := Lib.hid hC
      clear hv hb1 hC
      go_wp2_with fail
      refine (slices_BinarySearchFunc_simpl_Label_impl_Label_string.calls k56 rfl 49 (fun _ _ => by kernel_rfl) #[] (fun x => impl_LabelSet_1.f x.f0 x.f1 a1) A c out (.string a1) i fd w1 HC.out hlc (by omega) ?_ HBS.out).mono ?_
      · intro x cs b W hx hp hk hb
        obtain rfl := k56_open hk
        exact impl_LabelSet_1.calls x.f0 x.f1 a1 b W hp
      rintro e w2 ⟨rfl, hb2⟩
      have HB2 := Lib.hid (below_then HB1.out HB1.out.size hb2)
      have HV2 := Lib.hid (Kd.R_below HV.out hb2)
      have HR2 := Lib.hid (Kd.C_below (Kd.C_below HR.out HB1.out) hb2)
      clear hb2
      go_wp2_with fail
      refine (impl_LabelsOk.calls k A0 c0 l0 true w2 HR2.out hc0 HA.out).mono ?_
      rintro e w3 ⟨rfl, hb3⟩
      have HB3 := Lib.hid (below_then HB2.out HB2.out.size hb3)
      have HV3 := Lib.hid (Kd.R_below HV2.out hb3)
      have HR3 := Lib.hid (Kd.C_below HR2.out hb3)
      clear hb3
      go_wp2_with fail
      refine (impl_NameOk.calls k a1 false _ HN.out).mono ?_
      rintro e w4 ⟨rfl, hd4⟩
      obtain ⟨n4, rfl⟩ := hd4
      go_wp2_with fail
      refine (slices_Clone_simpl_Label_impl_Label.calls A0 c0 l0 l0 _ (Kd.C_drewN HR3.out n4) hc0 HCL.out).mono ?_
      rintro e w9 ⟨v9, rfl, hv9, hb9⟩
      have HB9 := Lib.hid (below_then (pw_below_drewN HB3.out n4) ((pw_below_drewN HB3.out n4)).size hb9)
      have HV9 := Lib.hid (Kd.R_lower hv9 ((pw_below_drewN HB3.out n4)).size)
      clear hv9 hb9
      go_wp2
      go_ret2
      exact ⟨_, rfl, HV9.out, HB9.out⟩
    | true =>
      rw [if_pos rfl] at h
      obtain ⟨c1, hc1, h⟩ := bind_some' h
      have HM := Lib.hid hc1
      clear hc1
      cases c1 with
      | false =>
        cases h
        go_enter Try.func21, Try.ntmps21
        go_wp2_with fail
        refine (impl_LabelDrop.calls A0 c0 l0 a1 out w HR.out hc0 HDR.out).mono ?_
        rintro e w1 ⟨v, rfl, hv, hb1⟩
        obtain ⟨A, c, rfl, hlc, hC⟩ := Kd.R_reads hv
        have HV := Lib.hid hv
        have HB1 := Lib.hid hb1
        have HC := Lib.hid hC
        clear hv hb1 hC
        go_wp2_with fail
        refine (slices_BinarySearchFunc_simpl_Label_impl_Label_string.calls k56 rfl 49 (fun _ _ => by kernel_rfl) #[] (fun x => impl_LabelSet_1.f x.f0 x.f1 a1) A c out (.string a1) i fd w1 HC.out hlc (by omega) ?_ HBS.out).mono ?_
        · intro x cs b W hx hp hk hb
          obtain rfl := k56_open hk
          exact impl_LabelSet_1.calls x.f0 x.f1 a1 b W hp
        rintro e w2 ⟨rfl, hb2⟩
        have HB2 := Lib.hid (below_then HB1.out HB1.out.size hb2)
        have HV2 := Lib.hid (Kd.R_below HV.out hb2)
        have HR2 := Lib.hid (Kd.C_below (Kd.C_below HR.out HB1.out) hb2)
        clear hb2
        go_wp2_with fail
        refine (impl_LabelsOk.calls k A0 c0 l0 true w2 HR2.out hc0 HA.out).mono ?_
        rintro e w3 ⟨rfl, hb3⟩
        have HB3 := Lib.hid (below_then HB2.out HB2.out.size hb3)
        have HV3 := Lib.hid (Kd.R_below HV2.out hb3)
        have HR3 := Lib.hid (Kd.C_below HR2.out hb3)
        clear hb3
        go_wp2_with fail
        refine (impl_NameOk.calls k a1 true _ HN.out).mono ?_
        rintro e w4 ⟨rfl, hd4⟩
        obtain ⟨n4, rfl⟩ := hd4
        go_wp2_with fail
        refine (impl_NameOk.calls k a2 false _ HM.out).mono ?_
        rintro e w4 ⟨rfl, hd4⟩
        obtain ⟨n5, rfl⟩ := hd4
        go_wp2_with fail
        refine (slices_Clone_simpl_Label_impl_Label.calls A0 c0 l0 l0 _ (Kd.C_drewN HR3.out (n4 + n5)) hc0 HCL.out).mono ?_
        rintro e w9 ⟨v9, rfl, hv9, hb9⟩
        have HB9 := Lib.hid (below_then (pw_below_drewN HB3.out (n4 + n5)) ((pw_below_drewN HB3.out (n4 + n5))).size hb9)
        have HV9 := Lib.hid (Kd.R_lower hv9 ((pw_below_drewN HB3.out (n4 + n5))).size)
        clear hv9 hb9
        go_wp2
        go_ret2
        exact ⟨_, rfl, HV9.out, HB9.out⟩
      | true =>
        rw [if_pos rfl] at h
        by_cases h8 : (out.length : Int) = 8
        · rw [if_pos h8] at h
          cases h
          go_enter Try.func21, Try.ntmps21
          go_wp2_with fail
          refine (impl_LabelDrop.calls A0 c0 l0 a1 out w HR.out hc0 HDR.out).mono ?_
          rintro e w1 ⟨v, rfl, hv, hb1⟩
          obtain ⟨A, c, rfl, hlc, hC⟩ := Kd.R_reads hv
          have HV := Lib.hid hv
          have HB1 := Lib.hid hb1
          have HC := Lib.hid hC
          clear hv hb1 hC
          go_wp2_with fail
          refine (slices_BinarySearchFunc_simpl_Label_impl_Label_string.calls k56 rfl 49 (fun _ _ => by kernel_rfl) #[] (fun x => impl_LabelSet_1.f x.f0 x.f1 a1) A c out (.string a1) i fd w1 HC.out hlc (by omega) ?_ HBS.out).mono ?_
          · intro x cs b W hx hp hk hb
            obtain rfl := k56_open hk
            exact impl_LabelSet_1.calls x.f0 x.f1 a1 b W hp
          rintro e w2 ⟨rfl, hb2⟩
          have HB2 := Lib.hid (below_then HB1.out HB1.out.size hb2)
          have HV2 := Lib.hid (Kd.R_below HV.out hb2)
          have HR2 := Lib.hid (Kd.C_below (Kd.C_below HR.out HB1.out) hb2)
          clear hb2
          go_wp2_with fail
          refine (impl_LabelsOk.calls k A0 c0 l0 true w2 HR2.out hc0 HA.out).mono ?_
          rintro e w3 ⟨rfl, hb3⟩
          have HB3 := Lib.hid (below_then HB2.out HB2.out.size hb3)
          have HV3 := Lib.hid (Kd.R_below HV2.out hb3)
          have HR3 := Lib.hid (Kd.C_below HR2.out hb3)
          clear hb3
          go_wp2_with fail
          refine (impl_NameOk.calls k a1 true _ HN.out).mono ?_
          rintro e w4 ⟨rfl, hd4⟩
          obtain ⟨n4, rfl⟩ := hd4
          go_wp2_with fail
          refine (impl_NameOk.calls k a2 true _ HM.out).mono ?_
          rintro e w4 ⟨rfl, hd4⟩
          obtain ⟨n5, rfl⟩ := hd4
          go_wp2_with fail
          refine (slices_Clone_simpl_Label_impl_Label.calls A0 c0 l0 l0 _ (Kd.C_drewN HR3.out (n4 + n5)) hc0 HCL.out).mono ?_
          rintro e w9 ⟨v9, rfl, hv9, hb9⟩
          have HB9 := Lib.hid (below_then (pw_below_drewN HB3.out (n4 + n5)) ((pw_below_drewN HB3.out (n4 + n5))).size hb9)
          have HV9 := Lib.hid (Kd.R_lower hv9 ((pw_below_drewN HB3.out (n4 + n5))).size)
          clear hv9 hb9
          go_wp2
          go_ret2
          exact ⟨_, rfl, HV9.out, HB9.out⟩
        · rw [if_neg h8] at h
          cases h
          go_enter Try.func21, Try.ntmps21
          go_wp2_with fail
          refine (impl_LabelDrop.calls A0 c0 l0 a1 out w HR.out hc0 HDR.out).mono ?_
          rintro e w1 ⟨v, rfl, hv, hb1⟩
          obtain ⟨A, c, rfl, hlc, hC⟩ := Kd.R_reads hv
          have HV := Lib.hid hv
          have HB1 := Lib.hid hb1
          have HC := Lib.hid hC
          clear hv hb1 hC
          go_wp2_with fail
          refine (slices_BinarySearchFunc_simpl_Label_impl_Label_string.calls k56 rfl 49 (fun _ _ => by kernel_rfl) #[] (fun x => impl_LabelSet_1.f x.f0 x.f1 a1) A c out (.string a1) i fd w1 HC.out hlc (by omega) ?_ HBS.out).mono ?_
          · intro x cs b W hx hp hk hb
            obtain rfl := k56_open hk
            exact impl_LabelSet_1.calls x.f0 x.f1 a1 b W hp
          rintro e w2 ⟨rfl, hb2⟩
          have HB2 := Lib.hid (below_then HB1.out HB1.out.size hb2)
          have HV2 := Lib.hid (Kd.R_below HV.out hb2)
          have HR2 := Lib.hid (Kd.C_below (Kd.C_below HR.out HB1.out) hb2)
          clear hb2
          go_wp2_with fail
          refine (impl_LabelsOk.calls k A0 c0 l0 true w2 HR2.out hc0 HA.out).mono ?_
          rintro e w3 ⟨rfl, hb3⟩
          have HB3 := Lib.hid (below_then HB2.out HB2.out.size hb3)
          have HV3 := Lib.hid (Kd.R_below HV2.out hb3)
          have HR3 := Lib.hid (Kd.C_below HR2.out hb3)
          clear hb3
          go_wp2_with fail
          refine (impl_NameOk.calls k a1 true _ HN.out).mono ?_
          rintro e w4 ⟨rfl, hd4⟩
          obtain ⟨n4, rfl⟩ := hd4
          go_wp2_with fail
          refine (impl_NameOk.calls k a2 true _ HM.out).mono ?_
          rintro e w4 ⟨rfl, hd4⟩
          obtain ⟨n5, rfl⟩ := hd4
          go_wp2_with fail
          have hbv := below_alloc (pw_below_drewN HB3.out (n4 + n5)) (.cells #[.string a1, .string a2] 56)
          have hRv := Kd.R_below (Kd.R_drewN HV3.out (n4 + n5)) (below_alloc (Below.refl _ (w3.drewN (n4 + n5))) (.cells #[.string a1, .string a2] 56))
          refine (slices_Insert_simpl_Label_impl_Label.calls k56 rfl (.slice A out.length c) out i (by omega) ⟨a1, a2⟩ [.string a1, .string a2] _ (fun _ => True) (fun _ => False) w _ hbv hRv (heap_alloc_new _ _) (k56_mkM _ _ _ ⟨a1, a2⟩) (fun _ h => h.elim) (fun _ _ => trivial) ?_ (by omega)).mono ?_
          · intro e
            have h_ := Kd.R_lt (Kd.R_drewN HV3.out (n4 + n5)) _ e.symm
            exact Nat.lt_irrefl _ h_
          rintro e w9 ⟨v9, rfl, hv9, hb9, _⟩
          have HB9 := Lib.hid hb9
          have HV9 := Lib.hid hv9
          clear hv9 hb9 hbv hRv
          go_wp2
          go_ret2
          exact ⟨_, rfl, HV9.out, HB9.out⟩

end Go.Proofs.Ytpjpnppoejnafaa.G
