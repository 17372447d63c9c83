/-
  The law of LabelDrop, as a statement over lists: it is answered true.
-/
import Derived.Test.YtpjpnppoejnafaaPLab
import Derived.Test.YtpjpnppoejnafaaG3
namespace Go.Proofs.Ytpjpnppoejnafaa.G
open Go.RowKit Go.Proofs.YtpjpnppoejnafaaW.PrintWords Go.Proofs.YtpjpnppoejnafaaW.PrintLast Go.Proofs.YtpjpnppoejnafaaW.PrintMore
set_option linter.unusedVariables false
theorem delO_total {α : Type} (q : α → Bool) : ∀ (l : List α), delO (fun x => some (q x)) l = some (l.filter (fun x => !q x))
  | [] => rfl
  | x :: xs => by
    rw [delO, Option.bind_some, delO_total q xs, Option.bind_some, List.filter_cons]
    cases q x <;> rfl
def dropLab (xs : List ILab) (key : ByteArray) : List ILab := xs.filter (fun x => !(x.f0.toList == key.toList))
theorem dropLab_len (xs : List ILab) (key : ByteArray) : (dropLab xs key).length ≤ xs.length := List.length_filter_le _ _
theorem implLabelDrop_f (xs : List ILab) (key : ByteArray) (hl : xs.length ≤ 1048576) : impl_LabelDrop.f xs key = some (dropLab xs key) := by
  unfold impl_LabelDrop.f
  rw [if_pos (by omega), delO_total]; rfl
theorem specLabelDrop_l0 (xs : List ILab) (key : ByteArray) (hl : xs.length ≤ 1048576) : ∀ (d i : Nat) (ys : List ILab), i + d = xs.length → ys.length ≤ i → Ev (fun k => spec_LabelDrop.l0 k xs key ys i) (ys ++ dropLab (xs.drop i) key)
  | 0, i, ys, hd, hy => by
    refine Ev.step (f := fun _ => some ys) (fun k => by rw [spec_LabelDrop.l0, if_neg (by omega)]) (ev_some ?_)
    rw [List.drop_of_length_le (by omega)]; simp [dropLab]
  | d + 1, i, ys, hd, hy => by
    have hi : i < xs.length := by omega
    have e : dropLab (xs.drop i) key = (if xs[i].f0.toList = key.toList then [] else [xs[i]]) ++ dropLab (xs.drop (i + 1)) key := by
      rw [List.drop_eq_getElem_cons hi]; unfold dropLab; rw [List.filter_cons]
      by_cases c : xs[i].f0.toList = key.toList
      · simp [c]
      · simp [c]
    rw [e]
    by_cases c : xs[i].f0.toList = key.toList
    · rw [if_pos c]
      refine Ev.step (f := fun k => spec_LabelDrop.l0 k xs key ys ((i + 1 : Nat) : Int)) (fun k => ?_) (specLabelDrop_l0 xs key hl d (i + 1) ys (by omega) (by omega))
      rw [spec_LabelDrop.l0, if_pos (by omega), if_pos (by omega), rdIL hi, if_pos c, w64 (by omega) (by omega)]; rfl
    · rw [if_neg c, ← List.append_assoc]
      refine Ev.step (f := fun k => spec_LabelDrop.l0 k xs key (ys ++ [xs[i]]) ((i + 1 : Nat) : Int)) (fun k => ?_) (specLabelDrop_l0 xs key hl d (i + 1) (ys ++ [xs[i]]) (by omega) (by simp; omega))
      rw [spec_LabelDrop.l0, if_pos (by omega), if_pos (by omega), rdIL hi, if_neg c, if_pos (by omega), w64 (by omega) (by omega)]; rfl
theorem specLabelDrop_ev (xs : List ILab) (key : ByteArray) (hl : xs.length ≤ 1048576) : Ev (fun k => spec_LabelDrop.f k xs key) (dropLab xs key) := by
  have := specLabelDrop_l0 xs key hl xs.length 0 [] (by omega) (by simp)
  unfold spec_LabelDrop.f
  simpa using this
theorem FnExactLabelDrop_pure (l0 : List LLab) (a1 : ByteArray) (hw : l0.length ≤ 9223372036854775807 ∧ ∀ x ∈ l0, wfLab x) (_h1 : a1.size ≤ 9223372036854775807) : ∃ k, laws_FnExactLabelDrop.f k l0 a1 = some true := by
  refine Ev.rounds ?_
  unfold laws_FnExactLabelDrop.f
  by_cases c : (a1.size : Int) > 1048576
  · exact ev_if_pos c (Ev.now _)
  refine ev_if_neg c (Ev.bind (szLabelS_ev l0 1048576 hw.2 hw.1 (by omega) (by omega)) ?_)
  by_cases c2 : szR 1048576 (totLabs l0) < 0
  · exact ev_if_pos c2 (Ev.now _)
  have hlen : l0.length ≤ 1048576 := by
    have := szR_nonneg (by omega : 0 ≤ szR 1048576 (totLabs l0))
    unfold totLabs at this; omega
  have hm : (l0.map cLab).length ≤ 1048576 := by simpa using hlen
  have hd := dropLab_len (l0.map cLab) a1
  refine ev_if_neg c2 (Ev.bind (toLabelS_ev l0 hlen) (Ev.bind (specLabelDrop_ev _ a1 hm) (Ev.bind (toLabelS_ev l0 hlen) (Ev.bind (ev_now (implLabelDrop_f _ a1 hm)) (Ev.bind (eqLabelS_ev _ (by omega)) (ev_if_pos rfl ?_))))))
  refine Ev.bind (toLabelS_ev l0 hlen) (Ev.bind (eqLabelS_ev _ (by omega)) (ev_if_pos rfl (Ev.bind (markLabelS_ev 1 _ (by omega) (by omega) (by omega)) (ev_if_neg (by show ¬ ((1 : Int) + 2 * ((l0.map cLab).length : Int) < 0); omega) (Ev.bind (eqLabelS_ev _ (by omega)) ?_)))))
  refine Ev.step (fun k => by rw [laws_FnExactLabelDrop.j0]) ?_
  refine ev_if_neg (by simp) (Ev.bind (markLabelS_ev 1 _ (by omega) (by omega) (by omega)) (Ev.bind (heldLabelS_ev 1 _ (by omega) (by omega) (by omega)) (ev_if_neg (by omega) (ev_if_pos rfl ?_))))
  exact Ev.bind (toLabelS_ev l0 hlen) (Ev.bind (ev_now (implLabelDrop_f _ a1 hm)) (Ev.bind (eqLabelS_ev _ (by omega)) (ev_if_pos rfl (Ev.bind (heldLabelS_ev 1 _ (by omega) (by omega) (by omega)) (ev_if_neg (by omega) (ev_if_pos rfl (Ev.now _)))))))
end Go.Proofs.Ytpjpnppoejnafaa.G
