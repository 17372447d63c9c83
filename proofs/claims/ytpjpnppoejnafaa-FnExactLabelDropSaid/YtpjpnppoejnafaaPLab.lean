/-
  Labels: sizes, copies, equality, marks.
-/
import Derived.Test.YtpjpnppoejnafaaPBase
import Derived.Test.YtpjpnppoejnafaaG11
import Derived.Test.YtpjpnppoejnafaaG13
import Derived.Test.YtpjpnppoejnafaaG15
import Derived.Test.YtpjpnppoejnafaaG16
import Derived.Test.YtpjpnppoejnafaaG17
namespace Go.Proofs.Ytpjpnppoejnafaa.G
open Go.RowKit Go.Proofs.YtpjpnppoejnafaaW.PrintWords Go.Proofs.YtpjpnppoejnafaaW.PrintLast Go.Proofs.YtpjpnppoejnafaaW.PrintMore
set_option linter.unusedVariables false
abbrev LLab := S55
abbrev ILab := S56
theorem rdLL {xs : List LLab} {i : Nat} (h : i < xs.length) : rd_T55 xs (i : Int) = xs[i] := by unfold rd_T55; rw [Int.toNat_natCast]; exact getD_at h _
theorem rdIL {xs : List ILab} {i : Nat} (h : i < xs.length) : rd_T56 xs (i : Int) = xs[i] := by unfold rd_T56; rw [Int.toNat_natCast]; exact getD_at h _

def totLab (x : LLab) : Nat := x.f0.size + x.f1.size
def totLabs (xs : List LLab) : Nat := xs.length + (xs.map totLab).sum
def wfLab (x : LLab) : Prop := x.f0.size ≤ 9223372036854775807 ∧ x.f1.size ≤ 9223372036854775807
theorem szLabel_f (x : LLab) (left : Int) (h0 : 0 ≤ left) (h1 : left ≤ 1048576) (hw : wfLab x) : laws_szLabel.f x.f0 x.f1 left = some (szR left (totLab x)) := by
  obtain ⟨ha, hb⟩ := hw
  unfold laws_szLabel.f totLab
  rw [w64 (by omega) (by omega)]
  by_cases c1 : left - (x.f0.size : Int) < 0
  · rw [if_pos c1, szR_neg (by omega)]
  · rw [if_neg c1, w64 (by omega) (by omega)]
    by_cases c2 : left - (x.f0.size : Int) - (x.f1.size : Int) < 0
    · rw [if_pos c2, szR_neg (by omega)]
    · rw [if_neg c2, szR_pos (by omega)]; congr 1; omega
theorem szLabelS_l0 (xs : List LLab) (hw : ∀ x ∈ xs, wfLab x) (hl : xs.length ≤ 9223372036854775807) : ∀ (d i : Nat) (left : Int), i + d = xs.length → 0 ≤ left → left ≤ 1048576 → Ev (fun k => laws_szLabelS.l0 k xs left i) (szR left ((xs.drop i).map totLab).sum)
  | 0, i, left, hd, h0, h1 => by
    refine Ev.step (f := fun _ => some left) (fun k => by rw [laws_szLabelS.l0, if_neg (by omega)]) (ev_some ?_)
    rw [List.drop_of_length_le (by omega)]; exact (szR_zero h0).symm
  | d + 1, i, left, hd, h0, h1 => by
    have hi : i < xs.length := by omega
    have e : ((xs.drop i).map totLab).sum = totLab xs[i] + ((xs.drop (i + 1)).map totLab).sum := by rw [List.drop_eq_getElem_cons hi, List.map_cons, List.sum_cons]
    rw [e, szR_add h0]
    have hs := szR_le h0 (totLab xs[i])
    by_cases c : szR left (totLab xs[i]) < 0
    · rw [if_pos c]
      refine Ev.step (f := fun _ => some (-1)) (fun k => ?_) (Ev.now _)
      rw [laws_szLabelS.l0, if_pos (by omega), if_pos (by omega), rdLL hi, szLabel_f _ _ h0 h1 (hw _ (List.getElem_mem hi)), Option.bind_some, if_pos c]
    · rw [if_neg c]
      refine Ev.step (f := fun k => laws_szLabelS.l0 k xs (szR left (totLab xs[i])) ((i + 1 : Nat) : Int)) (fun k => ?_) (szLabelS_l0 xs hw hl d (i + 1) (szR left (totLab xs[i])) (by omega) (by omega) (by omega))
      rw [laws_szLabelS.l0, if_pos (by omega), if_pos (by omega), rdLL hi, szLabel_f _ _ h0 h1 (hw _ (List.getElem_mem hi)), Option.bind_some, if_neg c, w64 (by omega) (by omega)]; rfl
theorem szLabelS_ev (xs : List LLab) (left : Int) (hw : ∀ x ∈ xs, wfLab x) (hl : xs.length ≤ 9223372036854775807) (h0 : 0 ≤ left) (h1 : left ≤ 1048576) : Ev (fun k => laws_szLabelS.f k xs left) (szR left (totLabs xs)) := by
  unfold laws_szLabelS.f totLabs
  rw [w64 (by omega) (by omega), szR_add h0]
  by_cases c : left - (xs.length : Int) < 0
  · rw [if_pos (by rw [szR_neg (by omega)]; omega)]; exact ev_if_pos c (Ev.now _)
  · rw [szR_pos (by omega), if_neg c]
    refine ev_if_neg c ?_
    have := szLabelS_l0 xs hw hl xs.length 0 (left - (xs.length : Int)) (by omega) (by omega) (by omega)
    rw [List.drop_zero] at this
    exact this

def cLab (x : LLab) : ILab := ⟨x.f0, x.f1⟩
theorem toLabelS_l0 (xs : List LLab) (hl : xs.length ≤ 9223372036854775807) : ∀ (d i : Nat) (ys : List ILab), i + d = xs.length → ys.length = xs.length → Ev (fun k => laws_toLabelS.l0 k xs ys i) (ys.take i ++ (xs.drop i).map cLab)
  | 0, i, ys, hd, hy => by
    refine Ev.step (f := fun _ => some ys) (fun k => by rw [laws_toLabelS.l0, if_neg (by omega)]) (ev_some ?_)
    rw [List.take_of_length_le (by omega), List.drop_of_length_le (by omega)]; simp
  | d + 1, i, ys, hd, hy => by
    have hi : i < xs.length := by omega
    refine ev_rw (Ev.step (f := fun k => laws_toLabelS.l0 k xs (ys.set i (cLab xs[i])) ((i + 1 : Nat) : Int)) (fun k => ?_) (toLabelS_l0 xs hl d (i + 1) (ys.set i (cLab xs[i])) (by omega) (by simpa using hy))) ?_
    · rw [laws_toLabelS.l0, if_pos (by omega), if_pos (by omega), rdLL hi, laws_toLabel.f, Option.bind_some, if_pos (by omega), w64 (by omega) (by omega), Int.toNat_natCast]; rfl
    · rw [take_set_succ _ _ (by omega), List.drop_eq_getElem_cons hi, List.map_cons, List.append_assoc]; rfl
theorem toLabelS_ev (xs : List LLab) (hl : xs.length ≤ 1048576) : Ev (fun k => laws_toLabelS.f k xs) (xs.map cLab) := by
  unfold laws_toLabelS.f
  refine ev_if_pos (by omega) (ev_if_pos (by simp; omega) ?_)
  have := toLabelS_l0 xs (by omega) xs.length 0 (List.replicate ((xs.length : Int) : Int).toNat z56) (by omega) (by simp)
  simpa using this

theorem eqLabel_f (x : ILab) : laws_eqLabel.f x.f0 x.f1 x.f0 x.f1 = some true := by unfold laws_eqLabel.f; simp
theorem eqLabelS_l0 (xs : List ILab) (hl : xs.length ≤ 9223372036854775807) : ∀ (d i : Nat), i + d = xs.length → Ev (fun k => laws_eqLabelS.l0 k xs xs i) true
  | 0, i, hd => Ev.step (f := fun _ => some true) (fun k => by rw [laws_eqLabelS.l0, if_neg (by omega)]) (Ev.now _)
  | d + 1, i, hd => by
    have hi : i < xs.length := by omega
    refine Ev.step (f := fun k => laws_eqLabelS.l0 k xs xs ((i + 1 : Nat) : Int)) (fun k => ?_) (eqLabelS_l0 xs hl d (i + 1) (by omega))
    rw [laws_eqLabelS.l0, if_pos (by omega), if_pos (by omega), if_pos (by omega), rdIL hi, eqLabel_f, Option.bind_some, if_pos rfl, w64 (by omega) (by omega)]; rfl
theorem eqLabelS_ev (xs : List ILab) (hl : xs.length ≤ 9223372036854775807) : Ev (fun k => laws_eqLabelS.f k xs xs) true := by
  unfold laws_eqLabelS.f
  exact ev_if_pos rfl (eqLabelS_l0 xs hl xs.length 0 (by omega))

/-! ### marks -/
noncomputable def mkLab (n : Int) (i : Nat) : ILab := ⟨mt (n + 2 * i), mt (n + 2 * i + 1)⟩
noncomputable def mkLabs (len : Nat) (n : Int) : List ILab := (List.range len).map (mkLab n)
theorem mkLabs_at {len : Nat} {n : Int} {i : Nat} (h : i < (mkLabs len n).length) : (mkLabs len n)[i] = mkLab n i := by simp [mkLabs]
theorem markLabelS_l0 (n : Int) (xs : List ILab) (hn : 0 ≤ n) (hn1 : n ≤ 274877906944) (hl : xs.length ≤ 8388608) : ∀ (d i : Nat) (ys : List ILab), i + d = xs.length → ys.length = xs.length →
    Ev (fun k => laws_markLabelS.l0 k ys (n + 2 * i) i) (n + 2 * xs.length, ys.take i ++ (List.range' i d).map (mkLab n))
  | 0, i, ys, hd, hy => by
    refine Ev.step (f := fun _ => some (n + 2 * i, ys)) (fun k => by rw [laws_markLabelS.l0, if_neg (by omega)]) (ev_some ?_)
    obtain rfl : i = xs.length := by omega
    rw [List.take_of_length_le (by omega)]; simp
  | d + 1, i, ys, hd, hy => by
    have hi : i < ys.length := by omega
    have e1 := mt_ev (n + 2 * i) (by omega) (by omega)
    have e2 := mt_ev (n + 2 * i + 1) (by omega) (by omega)
    have ih := markLabelS_l0 n xs hn hn1 hl d (i + 1) (ys.set i (mkLab n i)) (by omega) (by simpa using hy)
    refine ev_rw (Ev.step (f := fun k => (laws_markText.f k (n + 2 * i)).bind fun a => (laws_markText.f k (n + 2 * i + 1)).bind fun b => laws_markLabelS.l0 k (ys.set i ⟨a, b⟩) (n + 2 * ((i + 1 : Nat) : Int)) ((i + 1 : Nat) : Int)) (fun k => ?_) (Ev.bind e1 (Ev.bind e2 ih))) ?_
    · rw [laws_markLabelS.l0, if_pos (by omega)]
      congr 1
      funext a
      rw [if_pos (by omega), Option.bind_some, w64 (x := n + 2 * i + 1) (by omega) (by omega)]
      congr 1
      funext b
      rw [w64 (by omega) (by omega), w64 (by omega) (by omega), Int.toNat_natCast, List.set_set, rdIL (by simpa using hi)]
      rw [List.getElem_set_self]
      congr 1
      omega
    · rw [take_set_succ _ _ (by omega), List.range'_succ, List.map_cons, List.append_assoc]; rfl
theorem markLabelS_ev (n : Int) (xs : List ILab) (hn : 0 ≤ n) (hn1 : n ≤ 274877906944) (hl : xs.length ≤ 8388608) : Ev (fun k => laws_markLabelS.f k xs n) (n + 2 * xs.length, mkLabs xs.length n) := by
  have := markLabelS_l0 n xs hn hn1 hl xs.length 0 xs (by omega) rfl
  unfold laws_markLabelS.f mkLabs
  simpa [List.range_eq_range'] using this
theorem heldLabelS_l0 (n : Int) (len : Nat) (hn : 0 ≤ n) (hn1 : n ≤ 274877906944) (hl : len ≤ 8388608) : ∀ (d i : Nat), i + d = len →
    Ev (fun k => laws_heldLabelS.l0 k (mkLabs len n) (n + 2 * i) i) (n + 2 * len)
  | 0, i, hd => by
    have hlen : (mkLabs len n).length = len := by simp [mkLabs]
    refine Ev.step (f := fun _ => some (n + 2 * i)) (fun k => by rw [laws_heldLabelS.l0, if_neg (by omega)]) (ev_some ?_)
    obtain rfl : i = len := by omega
    rfl
  | d + 1, i, hd => by
    have hlen : (mkLabs len n).length = len := by simp [mkLabs]
    have hi : i < (mkLabs len n).length := by omega
    have e1 := mt_ev (n + 2 * i) (by omega) (by omega)
    have e2 := mt_ev (n + 2 * i + 1) (by omega) (by omega)
    have ih := heldLabelS_l0 n len hn hn1 hl d (i + 1) (by omega)
    refine Ev.step (f := fun k => (laws_markText.f k (n + 2 * i)).bind fun a => if (mt (n + 2 * i)).toList = a.toList then (laws_markText.f k (n + 2 * i + 1)).bind fun b => if (mt (n + 2 * i + 1)).toList = b.toList then laws_heldLabelS.l0 k (mkLabs len n) (n + 2 * ((i + 1 : Nat) : Int)) ((i + 1 : Nat) : Int) else some (-1) else some (-1)) (fun k => ?_)
      (Ev.bind e1 (ev_if_pos rfl (Ev.bind e2 (ev_if_pos rfl ih))))
    rw [laws_heldLabelS.l0, if_pos (by omega), if_pos (by omega), rdIL hi, mkLabs_at hi]
    congr 1
    funext a
    rw [w64 (x := n + 2 * i + 1) (by omega) (by omega)]
    refine if_eq ?_
    congr 1
    funext b
    refine if_eq ?_
    rw [w64 (by omega) (by omega), w64 (by omega) (by omega)]
    congr 1
    omega
theorem heldLabelS_ev (n : Int) (len : Nat) (hn : 0 ≤ n) (hn1 : n ≤ 274877906944) (hl : len ≤ 8388608) : Ev (fun k => laws_heldLabelS.f k (mkLabs len n) n) (n + 2 * len) := by
  have := heldLabelS_l0 n len hn hn1 hl len 0 (by omega)
  unfold laws_heldLabelS.f
  simpa using this
end Go.Proofs.Ytpjpnppoejnafaa.G
