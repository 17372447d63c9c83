import Derived.Test.YtpjpnppoejnafaaDoorMFnExactParseLabelsCard1
import Derived.Test.YtpjpnppoejnafaaDoorMFnExactParseLabelsCard6
import Derived.Test.YtpjpnppoejnafaaDoorMFnExactParseLabelsCard2
import Derived.Test.YtpjpnppoejnafaaDoorMFnExactParseLabelsCard3
import Derived.ChangeArms
import Derived.ChangeShapes
import Derived.DataReads
import Derived.Test.YtpjpnppoejnafaaDoorProg
import Derived.WideShapes
import Derived.KernelRfl
import Derived.Handed
import Derived.Test.YtpjpnppoejnafaaDoorRows
import Derived.WalkKit
import Derived.ProofKit
import Derived.OpenShut
import Derived.ShutString
import Derived.ChangeOld
import Derived.Carry
import Derived.Below
import Derived.Test.YtpjpnppoejnafaaDoorCards
import Derived.Test.YtpjpnppoejnafaaDoorTie
import Derived.Lay
import Derived.LaidMore
import Derived.SevenTiedAt
import Derived.Stop.Joined
/- PParseLab -/
/-
  ParseLabels: the program's and the reference's come to one answer; what LabelsText wrote is read again.
-/
namespace Go.Proofs.YtpjpnppoejnafaaDoor.G
open Go.RowKit Go.Proofs.YtpjpnppoejnafaaDoorW.PrintWords Go.Proofs.YtpjpnppoejnafaaDoorW.PrintLast Go.Proofs.YtpjpnppoejnafaaDoorW.PrintMore
set_option linter.unusedVariables false
set_option linter.unusedSimpArgs false
theorem tl_eq {a b : ByteArray} : a.toList = b.toList ↔ a = b := by
  constructor
  · intro h
    rw [ByteArray.toList_eq, ByteArray.toList_eq] at h
    exact ba_eq h
  · rintro rfl; rfl
theorem tl_nil {a : ByteArray} : a.toList = [] ↔ a.data.toList = [] := by rw [ByteArray.toList_eq]
theorem nameB_no {s : ByteArray} (h : nameB s = true) (c : UInt8) (hc : chB c.toNat = false) : c ∉ s.data.toList := by
  intro hm
  obtain ⟨i, hi, he⟩ := List.getElem_of_mem hm
  simp only [nameB, Bool.and_eq_true] at h
  have := allN_true.1 h.1 i (by rw [size_data]; exact hi)
  rw [(bt_byte s c hi).2 he, hc] at this
  cases this
/-! ### a part, cut -/
def cutK (c : UInt8) (p : List UInt8) : List UInt8 := (Lib.cut p [c]).1
def cutV (c : UInt8) (p : List UInt8) : List UInt8 := (Lib.cut p [c]).2.1
theorem cut_two (c : UInt8) {p a b : List UInt8} (h : spl c p = [a, b]) : cutK c p = a ∧ cutV c p = b ∧ p = a ++ c :: b := by
  have hj : p = a ++ c :: b := by
    have := join_spl c p
    rw [h] at this
    rw [← this]; simp [Lib.join]
  have hi := spl_index c p
  rcases Lib.index_spec p [c] with hm | ⟨i, hx, _⟩
  · have := hi.1 hm.1
    rw [h] at this; cases this
  · have e := hi.2 i hx
    rw [h] at e
    injection e with e1 e2
    have hf := spl_free c p b (by rw [h]; simp)
    have hv : p.drop (i + 1) = b := by
      have := join_spl c (p.drop (i + 1))
      rw [← e2] at this
      rw [← this]; simp [Lib.join]
    refine ⟨?_, ?_, hj⟩
    · unfold cutK Lib.cut
      rw [if_pos (by omega), hx]; exact e1.symm
    · unfold cutV Lib.cut
      rw [if_pos (by omega), hx]; exact hv
theorem cut_len (c : UInt8) (p : List UInt8) : (cutK c p).length ≤ p.length ∧ (cutV c p).length ≤ p.length := by
  unfold cutK cutV Lib.cut
  split
  · exact ⟨by rw [List.length_take]; omega, by rw [List.length_drop]; omega⟩
  · exact ⟨Nat.le_refl _, by simp⟩
def labP (p : List UInt8) : ILab := ⟨mkb (cutK 61 p), mkb (cutV 61 p)⟩
theorem mkb_size (l : List UInt8) : (mkb l).size = l.length := by rw [size_data, mkb_data]
theorem cut_f (c : UInt8) (p : List UInt8) (h : p.length < 4294967281) : strings_Cut.f (mkb p) ⟨#[c]⟩ = some (mkb (cutK c p), mkb (cutV c p), (Lib.cut p [c]).2.2) := by
  unfold strings_Cut.f
  rw [if_pos (by rw [mkb_size]; exact h)]; rfl
def goodP (p : List UInt8) : Prop := (spl 61 p).length = 2
theorem good_two {p : List UInt8} (h : goodP p) : ∃ a b, spl 61 p = [a, b] := by
  unfold goodP at h
  match hs : spl 61 p, h with
  | [a, b], _ => exact ⟨a, b, rfl⟩
theorem labTxt_data (x : ILab) : (labTxt x).data.toList = x.f0.data.toList ++ 61 :: x.f1.data.toList := by simp [labTxt, ByteArray.data_append]
theorem jn_data (xs : List ByteArray) (c : UInt8) : (jn xs ⟨#[c]⟩).data.toList = Lib.join (xs.map (·.data.toList)) [c] := rfl
/-- The parts are right just if the text of the labels is the text again. -/
theorem text_iff (L : List UInt8) (hL : L ≠ []) : labsTxt ((spl 44 L).map labP) = mkb L ↔ (∀ p ∈ spl 44 L, goodP p) ∧ labsB ((spl 44 L).map labP) = true := by
  constructor
  · intro h
    unfold labsTxt at h
    by_cases c : labsB ((spl 44 L).map labP) = true
    · refine ⟨fun p hp => ?_, c⟩
      rw [if_pos c] at h
      obtain ⟨h8, hn⟩ := labsB_parts c
      have h2 : Lib.join (((spl 44 L).map labP).map (fun x => (labTxt x).data.toList)) [44] = L := by
        have := congrArg (fun s : ByteArray => s.data.toList) h
        simp only [jn_data, mkb_data, List.map_map] at this
        rw [List.map_map]; exact this
      have hne : ((spl 44 L).map labP).map (fun x => (labTxt x).data.toList) ≠ [] := by
        simp only [ne_eq, List.map_eq_nil_iff]; exact spl_ne 44 L
      have hnm : ∀ x ∈ (spl 44 L).map labP, nameB x.f0 = true ∧ nameB x.f1 = true := fun x hx => by
        obtain ⟨i, hi, rfl⟩ := List.getElem_of_mem hx
        exact hn i hi
      have h3 := spl_join 44 _ hne (fun y hy => by
        obtain ⟨x, hx, rfl⟩ := List.mem_map.1 hy
        obtain ⟨n0, n1⟩ := hnm x hx
        rw [labTxt_data]
        simp only [List.mem_append, List.mem_cons, not_or]
        exact ⟨nameB_no n0 44 (by decide), by decide, nameB_no n1 44 (by decide)⟩)
      rw [h2] at h3
      obtain ⟨i, hi, rfl⟩ := List.getElem_of_mem hp
      have h4 : (spl 44 L)[i] = (labTxt (labP (spl 44 L)[i])).data.toList := by
        have e : (spl 44 L)[i]? = (((spl 44 L).map labP).map (fun x => (labTxt x).data.toList))[i]? := by rw [← h3]
        rw [List.getElem?_map, List.getElem?_map, List.getElem?_eq_getElem hi] at e
        exact Option.some.inj e
      obtain ⟨n0, n1⟩ := hnm (labP (spl 44 L)[i]) (List.mem_map.2 ⟨_, List.getElem_mem hi, rfl⟩)
      rw [labTxt_data] at h4
      unfold goodP
      rw [h4, spl_app 61 _ _ (nameB_no n0 61 (by decide)), spl_none 61 _ (nameB_no n1 61 (by decide))]; rfl
    · rw [if_neg c] at h
      have := congrArg (fun s : ByteArray => s.data.toList) h
      exact absurd this.symm hL
  · rintro ⟨hg, c⟩
    unfold labsTxt
    rw [if_pos c]
    apply ba_eq
    rw [jn_data, mkb_data, List.map_map, List.map_map]
    have e : (spl 44 L).map (((fun x : ByteArray => x.data.toList) ∘ labTxt) ∘ labP) = spl 44 L := by
      rw [List.map_congr_left (g := id), List.map_id]
      intro p hp
      obtain ⟨a, b, hab⟩ := good_two (hg p hp)
      obtain ⟨e1, e2, e3⟩ := cut_two 61 hab
      show (labTxt (labP p)).data.toList = p
      rw [labTxt_data]
      show (cutK 61 p) ++ 61 :: (cutV 61 p) = p
      rw [e1, e2]; exact e3.symm
    rw [e, join_spl]
open Classical in
noncomputable def parseL (s : ByteArray) : List ILab × Bool := if s.data.toList = [] then ([], true) else if (∀ p ∈ spl 44 s.data.toList, goodP p) ∧ labsB ((spl 44 s.data.toList).map labP) = true then ((spl 44 s.data.toList).map labP, true) else ([], false)
theorem parts_len {s : ByteArray} (hs : s.size ≤ 1048576) : (spl 44 s.data.toList).length ≤ 1048577 := by
  have := spl_length 44 s.data.toList
  rw [← size_data] at this; omega
theorem part_len {s : ByteArray} (hs : s.size ≤ 1048576) {p : List UInt8} (h : p ∈ spl 44 s.data.toList) : p.length ≤ 1048576 := by
  have := spl_part 44 _ p h
  rw [← size_data] at this; omega
theorem wf_parts {s : ByteArray} (hs : s.size ≤ 1048576) : wfILabs ((spl 44 s.data.toList).map labP) := by
  refine ⟨by rw [List.length_map]; have := parts_len hs; omega, fun x hx => ?_⟩
  obtain ⟨p, hp, rfl⟩ := List.mem_map.1 hx
  have h1 := part_len hs hp
  have h2 := cut_len 61 p
  exact ⟨by show (mkb _).size ≤ _; rw [mkb_size]; omega, by show (mkb _).size ≤ _; rw [mkb_size]; omega⟩
/-! ### the program's -/
theorem implParse_l0 (s : ByteArray) (hs : s.size ≤ 1048576) (hne : s.data.toList ≠ []) : ∀ (d i : Nat), i + d = (spl 44 s.data.toList).length →
    Ev (fun k => impl_ParseLabels.l0 k s (((spl 44 s.data.toList).take i).map labP) ((spl 44 s.data.toList).map mkb) ((spl 44 s.data.toList).length : Int) i) (parseL s)
  | 0, i, hd => by
    refine Ev.step (fun k => by rw [impl_ParseLabels.l0]) (ev_if_neg (by omega) ?_)
    rw [List.take_of_length_le (by omega)]
    refine Ev.bind (implLabelsText_ev _ (wf_parts hs)) ?_
    have ht := text_iff s.data.toList hne
    rw [mkb_of] at ht
    by_cases c : labsTxt ((spl 44 s.data.toList).map labP) = s
    · refine ev_if_pos (tl_eq.2 c) (ev_some ?_)
      unfold parseL
      rw [if_neg hne, if_pos (ht.1 c)]
    · refine ev_if_neg (fun e => c (tl_eq.1 e)) (ev_some ?_)
      unfold parseL
      rw [if_neg hne, if_neg (fun e => c (ht.2 e))]
  | d + 1, i, hd => by
    have hi : i < (spl 44 s.data.toList).length := by omega
    have hl := parts_len hs
    have ih := implParse_l0 s hs hne d (i + 1) (by omega)
    rw [List.take_succ_eq_append_getElem hi, List.map_append] at ih
    refine Ev.step (fun k => by rw [impl_ParseLabels.l0]) (ev_if_pos (by omega) (ev_if_pos (by omega) (ev_if_pos (by rw [List.length_map]; omega) ?_)))
    rw [wsucc hi (by omega), rdS (by rw [List.length_map]; exact hi), List.getElem_map]
    have hp := part_len hs (List.getElem_mem hi)
    refine Ev.bind (ev_now (cut_f 61 _ (by omega))) (ev_if_pos (by rw [List.length_map, List.length_take]; omega) ?_)
    exact ih
theorem implParse_ev (s : ByteArray) (hs : s.size ≤ 1048576) : Ev (fun k => impl_ParseLabels.f k s) (parseL s) := by
  unfold impl_ParseLabels.f
  refine Ev.bind (Ev.now _) ?_
  by_cases c : s.data.toList = []
  · refine ev_if_pos (tl_nil.2 c) (ev_some ?_)
    unfold parseL
    rw [if_pos c]
  · refine ev_if_neg (fun e => c (tl_nil.1 e)) (Ev.bind (ev_now (split_f 44 s (by omega))) ?_)
    have := implParse_l0 s hs c _ 0 (Nat.zero_add _)
    rw [List.length_map]
    exact this
/-! ### the reference's -/
theorem specParse_l0 (s : ByteArray) (hs : s.size ≤ 1048576) (hne : s.data.toList ≠ []) : ∀ (d i : Nat), i + d = (spl 44 s.data.toList).length → (∀ p ∈ (spl 44 s.data.toList).take i, goodP p) →
    Ev (fun k => spec_ParseLabels.l0 k (((spl 44 s.data.toList).take i).map labP) ((spl 44 s.data.toList).map mkb) i) (parseL s)
  | 0, i, hd, hg => by
    refine Ev.step (fun k => by rw [spec_ParseLabels.l0]) (ev_if_neg (by rw [List.length_map]; omega) ?_)
    rw [List.take_of_length_le (by omega)] at hg ⊢
    refine Ev.bind (specLabelsOk_ev _ (wf_parts hs)) ?_
    by_cases c : labsB ((spl 44 s.data.toList).map labP) = true
    · refine ev_if_pos c (ev_some ?_)
      unfold parseL
      rw [if_neg hne, if_pos ⟨hg, c⟩]
    · refine ev_if_neg c (ev_some ?_)
      unfold parseL
      rw [if_neg hne, if_neg (fun e => c e.2)]
  | d + 1, i, hd, hg => by
    have hi : i < (spl 44 s.data.toList).length := by omega
    have hl := parts_len hs
    have hp := part_len hs (List.getElem_mem hi)
    refine Ev.step (fun k => by rw [spec_ParseLabels.l0]) (ev_if_pos (by rw [List.length_map]; omega) (ev_if_pos (by omega) ?_))
    rw [wsucc hi (by omega), rdS (by rw [List.length_map]; exact hi), List.getElem_map]
    have h61 := l1Split_ev (mkb (spl 44 s.data.toList)[i]) 61 (by rw [mkb_size]; omega)
    rw [mkb_data] at h61
    refine Ev.bind h61 ?_
    by_cases c : goodP (spl 44 s.data.toList)[i]
    · obtain ⟨a, b, hab⟩ := good_two c
      obtain ⟨e1, e2, e3⟩ := cut_two 61 hab
      rw [hab]
      have ih := specParse_l0 s hs hne d (i + 1) (by omega) (by
        intro p hp
        rw [List.take_succ_eq_append_getElem hi] at hp
        rcases List.mem_append.1 hp with h | h
        · exact hg p h
        · rw [List.mem_singleton.1 h]; exact c)
      rw [List.take_succ_eq_append_getElem hi, List.map_append] at ih
      refine ev_if_pos (by simp) (ev_if_pos (by simp) (ev_if_pos (by simp) (ev_if_pos (by rw [List.length_map, List.length_take]; omega) ?_)))
      have e : labP (spl 44 s.data.toList)[i] = ⟨mkb a, mkb b⟩ := by unfold labP; rw [e1, e2]
      rw [List.map_singleton, e] at ih
      exact ih
    · refine ev_if_neg (by rw [List.length_map]; unfold goodP at c; omega) (ev_some ?_)
      unfold parseL
      rw [if_neg hne, if_neg (fun e => c (e.1 _ (List.getElem_mem hi)))]
theorem specParse_ev (s : ByteArray) (hs : s.size ≤ 1048576) : Ev (fun k => spec_ParseLabels.f k s) (parseL s) := by
  unfold spec_ParseLabels.f
  refine Ev.bind (Ev.now _) ?_
  by_cases c : s.data.toList = []
  · refine ev_if_pos (tl_nil.2 c) (ev_some ?_)
    unfold parseL
    rw [if_pos c]
  · refine ev_if_neg (fun e => c (tl_nil.1 e)) (Ev.bind (l1Split_ev s 44 (by omega)) ?_)
    exact specParse_l0 s hs c _ 0 (Nat.zero_add _) (by simp)
theorem parseL_len (s : ByteArray) (hs : s.size ≤ 1048576) : (parseL s).1.length ≤ 1048577 := by
  have := parts_len hs
  unfold parseL
  split
  · simp
  · split
    · show ((spl 44 s.data.toList).map labP).length ≤ _; rw [List.length_map]; exact this
    · simp
end Go.Proofs.YtpjpnppoejnafaaDoor.G

/- G3 -/
-- Laid by wip/g/gprint.py out of the translation, by the kit's print program. Lean checks it.
namespace Go.Proofs.YtpjpnppoejnafaaDoor.G
open Go.RowKit Go.Proofs.YtpjpnppoejnafaaDoorW.PrintWords Go.Proofs.YtpjpnppoejnafaaDoorW.PrintLast Go.Proofs.YtpjpnppoejnafaaDoorW.PrintMore
attribute [local go_sem] max2_int min2_int max_two min_two max_three min_three max_four min_four   -- for this text's walks alone
set_option linter.unusedVariables false
set_option linter.unusedSimpArgs false

--IMPORT Derived.Test.YtpjpnppoejnafaaDoorGKShape
/-! ### laws_FnExactParseLabels: function 3 -/
mutual
def laws_FnExactParseLabels.j0 : Nat → ByteArray → List (S42) → Bool → List (S42) → Bool → Option (Bool)
  | 0, _, _, _, _, _ => none
  | k + 1, x0, x3, x4, x5, x32 => if x32 = true then (some false) else ((laws_markLabelS.f k x5 1).bind fun bt198 => ((laws_heldLabelS.f k bt198.2 1).bind fun t200 => (if t200 < 0 then (some false) else (if t200 = bt198.1 then ((impl_ParseLabels.f k x0).bind fun bt201 => ((laws_eqLabelS.f k bt201.1 x3).bind fun t205 => (if t205 = true then (laws_FnExactParseLabels.j1 k bt198.2 bt198.1 (bt201.2 != x4)) else (laws_FnExactParseLabels.j1 k bt198.2 bt198.1 true)))) else (some false)))))
def laws_FnExactParseLabels.j1 : Nat → List (S42) → Int → Bool → Option (Bool)
  | 0, _, _, _ => none
  | k + 1, x5, x7, x57 => if x57 = true then (some false) else ((laws_heldLabelS.f k x5 1).bind fun t206 => (if t206 < 0 then (some false) else (if t206 = x7 then (some true) else (some false))))
end
def laws_FnExactParseLabels.f (k : Nat) (a0 : ByteArray) : Option (Bool) := if (a0.size : Int) > 1048576 then (some true) else ((spec_ParseLabels.f k a0).bind fun bt189 => ((impl_ParseLabels.f k a0).bind fun bt193 => ((laws_eqLabelS.f k bt193.1 bt189.1).bind fun t197 => (if t197 = true then (laws_FnExactParseLabels.j0 k a0 bt189.1 bt189.2 bt193.1 (bt193.2 != bt189.2)) else (laws_FnExactParseLabels.j0 k a0 bt189.1 bt189.2 bt193.1 true)))))
set_option maxHeartbeats 8000000 in
set_option maxRecDepth 100000 in
theorem laws_FnExactParseLabels.calls (k : Nat) (a0 : ByteArray) (r : Bool) (w : World) (hsh_ : SH w) (h : laws_FnExactParseLabels.f k a0 = some r) :
    Calls Tryd.prog 3 #[.string a0] w fun e w' => e = .returned (.bool r) ∧ Below w.heap.size w w' := by
  have HB := Aside0.mk (Below.refl w.heap.size w)
  have H : (if (a0.size : Int) > 1048576 then (some true) else ((spec_ParseLabels.f k a0).bind fun bt189 => ((impl_ParseLabels.f k a0).bind fun bt193 => ((laws_eqLabelS.f k bt193.1 bt189.1).bind fun t197 => (if t197 = true then (laws_FnExactParseLabels.j0 k a0 bt189.1 bt189.2 bt193.1 (bt193.2 != bt189.2)) else (laws_FnExactParseLabels.j0 k a0 bt189.1 bt189.2 bt193.1 true)))))) = some r := h
  clear h
  by_cases c2 : (a0.size : Int) > 1048576
  · rw [if_pos c2] at H
    have c2b0 : decide (1048576 < (a0.size : Int)) = true := decide_eq_true c2
    have c2b1 : decide (1048576 < a0.size) = true := decide_eq_true (by omega)
    clear c2
    obtain rfl := Option.some.inj H
    go_enter Tryd.func3, Tryd.ntmps3
    go_wp2
    go_ret
    exact ⟨by first | rfl | (simp [errW_none, errW_some] <;> rfl) | (simp [*, errW_none, errW_some] <;> rfl), by repeat (first | (with_reducible first | exact HB.out | apply below_alloc | apply pw_below_drewN | apply below_drew1) | exact HB.out)⟩
  · rw [if_neg c2] at H
    have c2b0 : decide (1048576 < (a0.size : Int)) = false := decide_eq_false c2
    have c2b1 : decide (1048576 < a0.size) = false := decide_eq_false (by omega)
    clear c2
    replace H := Option.bind_eq_some_iff.mp H
    obtain ⟨⟨t189, t190⟩, A30, H⟩ := H
    replace H : ((impl_ParseLabels.f k a0).bind fun bt193 => ((laws_eqLabelS.f k bt193.1 t189).bind fun t197 => (if t197 = true then (laws_FnExactParseLabels.j0 k a0 t189 t190 bt193.1 (bt193.2 != t190)) else (laws_FnExactParseLabels.j0 k a0 t189 t190 bt193.1 true)))) = some r := H
    have A3 := Aside0.mk A30
    clear A30
    replace H := Option.bind_eq_some_iff.mp H
    obtain ⟨⟨t193, t194⟩, A40, H⟩ := H
    replace H : ((laws_eqLabelS.f k t193 t189).bind fun t197 => (if t197 = true then (laws_FnExactParseLabels.j0 k a0 t189 t190 t193 (t194 != t190)) else (laws_FnExactParseLabels.j0 k a0 t189 t190 t193 true))) = some r := H
    have A4 := Aside0.mk A40
    clear A40
    have HC5 := Aside0.mk H
    clear H
    go_enter Tryd.func3, Tryd.ntmps3
    go_upto_region 5 with (first | ((with_reducible refine gate_callee (f := 7) rfl ?_); refine goesL_ (some 16) rfl rfl Tryd.func7 (by kernel_rfl) rfl #[.string a0] rfl (by (try simp only [List.map_toArray, List.map_cons, List.map_nil]); first | done | rfl | (simp only [List.length_drop, List.length_take]; rfl)) ?_; (with_reducible refine (spec_ParseLabels.calls k a0 t189 t190 _ A3.out).mono ?_); rintro e w6 ⟨v191, rfl, ho0, hb⟩; refine ⟨_, rfl, ?_⟩; have n0_ := Aside0.mk (Kd.R_lower ho0 (below_size (by repeat (first | (with_reducible first | exact HB.out | apply below_alloc | apply pw_below_drewN | apply below_drew1) | exact HB.out)))); have n1_ := Aside0.mk (below_step (by repeat (first | (with_reducible first | exact HB.out | apply below_alloc | apply pw_below_drewN | apply below_drew1) | exact HB.out)) hb); clear HB; have HO192 := n0_; have HB := n1_; clear n0_ n1_; (try clear hb); (try clear hb2); (try clear hk); (try clear hi); (try clear ho0)) | ((with_reducible refine gate_callee (f := 8) rfl ?_); refine goesL_ (some 21) rfl rfl Tryd.func8 (by kernel_rfl) rfl #[.string a0] rfl (by (try simp only [List.map_toArray, List.map_cons, List.map_nil]); first | done | rfl | (simp only [List.length_drop, List.length_take]; rfl)) ?_; (with_reducible refine (impl_ParseLabels.calls k a0 t193 t194 _ (SH.mv hsh_ HB) A4.out).mono ?_); rintro e w7 ⟨v195, rfl, ho0, hb⟩; refine ⟨_, rfl, ?_⟩; have n0_ := Aside0.mk (Kd.R_elder' (by (with_reducible repeat (first | apply Kd.R_alloc | apply Kd.R_drewN | apply Kd.R_drew)); exact HO192.out) (Kd.R_base ho0) hb); have n1_ := Aside0.mk (Kd.R_lower (Kd.R_new' ho0 (Kd.R_lt (by (with_reducible repeat (first | apply Kd.R_alloc | apply Kd.R_drewN | apply Kd.R_drew)); exact HO192.out))) (below_size (by repeat (first | (with_reducible first | exact HB.out | apply below_alloc | apply pw_below_drewN | apply below_drew1) | exact HB.out)))); have n2_ := Aside0.mk (below_step (by repeat (first | (with_reducible first | exact HB.out | apply below_alloc | apply pw_below_drewN | apply below_drew1) | exact HB.out)) hb); clear HO192; clear HB; have HO192 := n0_; have HO196 := n1_; have HB := n2_; clear n0_ n1_ n2_; (try clear hb); (try clear hb2); (try clear hk); (try clear hi); (try clear ho0)))
    (try simp only [Act.put, List.setIfInBounds_toArray, List.set_cons_zero, List.set_cons_succ])
    go_cut [32] (fun v32 wc => ∃ (kq : Nat) (x32_4 : Bool), v32 = .bool x32_4 ∧ Aside0 (laws_FnExactParseLabels.j0 kq a0 t189 t190 t193 x32_4 = some r) ∧ Aside0 (kq ≤ k) ∧ Aside0 (Kd.R k42 42 wc w.heap.size (fun k_ => some k_ ≠ (v195 : Value).ownBlock) v191 t189) ∧ Aside0 (Kd.R k42 42 wc w.heap.size (fun k_ => some k_ ≠ (v191 : Value).ownBlock) v195 t193) ∧ Aside0 (Below w.heap.size w wc))
    case first =>
      have H := HC5.out
      clear HC5
      replace H := Option.bind_eq_some_iff.mp H
      obtain ⟨t197, A80, H⟩ := H
      replace H : (if t197 = true then (laws_FnExactParseLabels.j0 k a0 t189 t190 t193 (t194 != t190)) else (laws_FnExactParseLabels.j0 k a0 t189 t190 t193 true)) = some r := H
      have A8 := Aside0.mk A80
      clear A80
      by_cases c9 : t197 = true
      · subst c9
        have H1 : (laws_FnExactParseLabels.j0 k a0 t189 t190 t193 (t194 != t190)) = some r := by rw [if_pos rfl] at H; exact H
        clear H
        have H := H1
        clear H1
        have H' := Aside0.mk H
        clear H
        obtain ⟨Ao10, co10, eo10⟩ := Kd.R_slice HO196.out
        subst eo10
        obtain ⟨Ao11, co11, eo11⟩ := Kd.R_slice HO192.out
        subst eo11
        go_wp2_with (first | ((with_reducible refine gate_callee (f := 9) rfl ?_); refine goesL_ (some 26) rfl rfl Tryd.func9 (by kernel_rfl) rfl #[.slice Ao10 t193.length co10, .slice Ao11 t189.length co11] rfl (by (try simp only [List.map_toArray, List.map_cons, List.map_nil]); first | done | rfl | (simp only [List.length_drop, List.length_take]; rfl)) ?_; (with_reducible refine (laws_eqLabelS.calls k _ _ t193 _ _ t189 true _ ?side1 ?side2 ?side3 ?side4 A8.out).mono ?_); (case side1 => repeat (first | exact (Kd.R_reads' HO196.out).2.2 | (with_reducible refine Kd.C_alloc ?_ _) | (with_reducible refine Kd.C_drewN ?_ _) | (with_reducible refine Kd.C_drew ?_))); (case side2 => exact (Kd.R_reads' HO196.out).2.1); (case side3 => repeat (first | exact (Kd.R_reads' HO192.out).2.2 | (with_reducible refine Kd.C_alloc ?_ _) | (with_reducible refine Kd.C_drewN ?_ _) | (with_reducible refine Kd.C_drew ?_))); (case side4 => exact (Kd.R_reads' HO192.out).2.1); rintro e w12 ⟨rfl, hb⟩; refine ⟨_, rfl, ?_⟩; have n0_ := Aside0.mk (Kd.R_below (by (with_reducible repeat (first | apply Kd.R_alloc | apply Kd.R_drewN | apply Kd.R_drew)); exact HO192.out) hb); have n1_ := Aside0.mk (Kd.R_below (by (with_reducible repeat (first | apply Kd.R_alloc | apply Kd.R_drewN | apply Kd.R_drew)); exact HO196.out) hb); have n2_ := Aside0.mk (below_step (by repeat (first | (with_reducible first | exact HB.out | apply below_alloc | apply pw_below_drewN | apply below_drew1) | exact HB.out)) hb); clear HO192; clear HO196; clear HB; have HO192 := n0_; have HO196 := n1_; have HB := n2_; clear n0_ n1_ n2_; (try clear hb); (try clear hb2); (try clear hk); (try clear hi)))
        go_meet
        case rel => exact ⟨_, ((t194 != t190)), (by first | rfl | (simp; done) | (simp [*]; done)), H', ⟨by first | omega | exact Nat.le_refl _⟩, ⟨by (with_reducible repeat (first | apply Kd.R_alloc | apply Kd.R_drewN | apply Kd.R_drew)); exact Kd.R_mono HO192.out (fun _ hk => hk.2)⟩, ⟨by (with_reducible repeat (first | apply Kd.R_alloc | apply Kd.R_drewN | apply Kd.R_drew)); exact Kd.R_mono HO196.out (fun _ hk => hk.2)⟩, ⟨by repeat (first | (with_reducible first | exact HB.out | apply below_alloc | apply pw_below_drewN | apply below_drew1) | exact HB.out)⟩⟩
      · replace c9 := Bool.eq_false_iff.mpr c9
        subst c9
        have H1 : (laws_FnExactParseLabels.j0 k a0 t189 t190 t193 true) = some r := by rw [if_neg (show ¬ (false = true) by decide)] at H; exact H
        clear H
        have H := H1
        clear H1
        have H' := Aside0.mk H
        clear H
        obtain ⟨Ao13, co13, eo13⟩ := Kd.R_slice HO196.out
        subst eo13
        obtain ⟨Ao14, co14, eo14⟩ := Kd.R_slice HO192.out
        subst eo14
        go_wp2_with (first | ((with_reducible refine gate_callee (f := 9) rfl ?_); refine goesL_ (some 26) rfl rfl Tryd.func9 (by kernel_rfl) rfl #[.slice Ao13 t193.length co13, .slice Ao14 t189.length co14] rfl (by (try simp only [List.map_toArray, List.map_cons, List.map_nil]); first | done | rfl | (simp only [List.length_drop, List.length_take]; rfl)) ?_; (with_reducible refine (laws_eqLabelS.calls k _ _ t193 _ _ t189 false _ ?side1 ?side2 ?side3 ?side4 A8.out).mono ?_); (case side1 => repeat (first | exact (Kd.R_reads' HO196.out).2.2 | (with_reducible refine Kd.C_alloc ?_ _) | (with_reducible refine Kd.C_drewN ?_ _) | (with_reducible refine Kd.C_drew ?_))); (case side2 => exact (Kd.R_reads' HO196.out).2.1); (case side3 => repeat (first | exact (Kd.R_reads' HO192.out).2.2 | (with_reducible refine Kd.C_alloc ?_ _) | (with_reducible refine Kd.C_drewN ?_ _) | (with_reducible refine Kd.C_drew ?_))); (case side4 => exact (Kd.R_reads' HO192.out).2.1); rintro e w15 ⟨rfl, hb⟩; refine ⟨_, rfl, ?_⟩; have n0_ := Aside0.mk (Kd.R_below (by (with_reducible repeat (first | apply Kd.R_alloc | apply Kd.R_drewN | apply Kd.R_drew)); exact HO192.out) hb); have n1_ := Aside0.mk (Kd.R_below (by (with_reducible repeat (first | apply Kd.R_alloc | apply Kd.R_drewN | apply Kd.R_drew)); exact HO196.out) hb); have n2_ := Aside0.mk (below_step (by repeat (first | (with_reducible first | exact HB.out | apply below_alloc | apply pw_below_drewN | apply below_drew1) | exact HB.out)) hb); clear HO192; clear HO196; clear HB; have HO192 := n0_; have HO196 := n1_; have HB := n2_; clear n0_ n1_ n2_; (try clear hb); (try clear hb2); (try clear hk); (try clear hi)))
        go_meet
        case rel => exact ⟨_, (true), (by first | rfl | (simp; done) | (simp [*]; done)), H', ⟨by first | omega | exact Nat.le_refl _⟩, ⟨by (with_reducible repeat (first | apply Kd.R_alloc | apply Kd.R_drewN | apply Kd.R_drew)); exact Kd.R_mono HO192.out (fun _ hk => hk.2)⟩, ⟨by (with_reducible repeat (first | apply Kd.R_alloc | apply Kd.R_drewN | apply Kd.R_drew)); exact Kd.R_mono HO196.out (fun _ hk => hk.2)⟩, ⟨by repeat (first | (with_reducible first | exact HB.out | apply below_alloc | apply pw_below_drewN | apply below_drew1) | exact HB.out)⟩⟩
    case rest =>
      clear HC5
      try clear c2
      try clear c2b0
      try clear c2b1
      try clear p2
      try clear c3
      try clear c7
      try clear c8
      try clear c9
      obtain ⟨kq, x32_4, rfl, HA, HJ4, HO_3, HO_5, HB⟩ := hcut
      cases kq with
      | zero => exact absurd HA.out (by simp [laws_FnExactParseLabels.j0])
      | succ kj4 =>
        have H := HA.out
        clear HA
        simp only [laws_FnExactParseLabels.j0] at H
        by_cases c16 : x32_4 = true
        · subst c16
          have H1 : (some false) = some r := by rw [if_pos rfl] at H; exact H
          clear H
          have H := H1
          clear H1
          obtain rfl := Option.some.inj H
          go_wp2
          go_ret
          exact ⟨by first | rfl | (simp [errW_none, errW_some] <;> rfl) | (simp [*, errW_none, errW_some] <;> rfl), by repeat (first | (with_reducible first | exact HB.out | apply below_alloc | apply pw_below_drewN | apply below_drew1) | exact HB.out)⟩
        · replace c16 := Bool.eq_false_iff.mpr c16
          subst c16
          have H1 : ((laws_markLabelS.f kj4 t193 1).bind fun bt198 => ((laws_heldLabelS.f kj4 bt198.2 1).bind fun t200 => (if t200 < 0 then (some false) else (if t200 = bt198.1 then ((impl_ParseLabels.f kj4 a0).bind fun bt201 => ((laws_eqLabelS.f kj4 bt201.1 t189).bind fun t205 => (if t205 = true then (laws_FnExactParseLabels.j1 kj4 bt198.2 bt198.1 (bt201.2 != t190)) else (laws_FnExactParseLabels.j1 kj4 bt198.2 bt198.1 true)))) else (some false))))) = some r := by rw [if_neg (show ¬ (false = true) by decide)] at H; exact H
          clear H
          have H := H1
          clear H1
          replace H := Option.bind_eq_some_iff.mp H
          obtain ⟨⟨t198, t199⟩, A170, H⟩ := H
          replace H : ((laws_heldLabelS.f kj4 t199 1).bind fun t200 => (if t200 < 0 then (some false) else (if t200 = t198 then ((impl_ParseLabels.f kj4 a0).bind fun bt201 => ((laws_eqLabelS.f kj4 bt201.1 t189).bind fun t205 => (if t205 = true then (laws_FnExactParseLabels.j1 kj4 t199 t198 (bt201.2 != t190)) else (laws_FnExactParseLabels.j1 kj4 t199 t198 true)))) else (some false)))) = some r := H
          have A17 := Aside0.mk A170
          clear A170
          replace H := Option.bind_eq_some_iff.mp H
          obtain ⟨t200, A180, H⟩ := H
          replace H : (if t200 < 0 then (some false) else (if t200 = t198 then ((impl_ParseLabels.f kj4 a0).bind fun bt201 => ((laws_eqLabelS.f kj4 bt201.1 t189).bind fun t205 => (if t205 = true then (laws_FnExactParseLabels.j1 kj4 t199 t198 (bt201.2 != t190)) else (laws_FnExactParseLabels.j1 kj4 t199 t198 true)))) else (some false))) = some r := H
          have A18 := Aside0.mk A180
          clear A180
          by_cases c19 : t200 < 0
          · rw [if_pos c19] at H
            have c19b0 : decide (t200 < 0) = true := decide_eq_true c19
            clear c19
            obtain rfl := Option.some.inj H
            obtain ⟨Ao20, co20, eo20⟩ := Kd.R_slice HO_5.out
            subst eo20
            go_wp2_with (first | ((with_reducible refine gate_callee (f := 10) rfl ?_); refine goesL_ (some 35) rfl rfl Tryd.func10 (by kernel_rfl) rfl #[.slice Ao20 t193.length co20, .int .i64 1] rfl (by (try simp only [List.map_toArray, List.map_cons, List.map_nil]); first | done | rfl | (simp only [List.length_drop, List.length_take]; rfl)) ?_; (with_reducible refine (laws_markLabelS.calls kj4 (fun k_ => some k_ = (.slice Ao20 t193.length co20 : Value).ownBlock) (.slice Ao20 t193.length co20) t193 1 t198 t199 w _ ?side1 ?side2 A17.out).mono ?_); (case side1 => repeat (first | (with_reducible first | exact HB.out | apply below_alloc | apply pw_below_drewN | apply below_drew1) | exact HB.out)); (case side2 => exact Kd.R_tight rfl HO_5.out); rintro e w21 ⟨rfl, hy0, hb, hkp⟩; refine ⟨_, rfl, ?_⟩; have n0_ := Aside0.mk (Kd.R_mono (ok' := fun k_ => some k_ ≠ (.slice Ao20 t193.length co20 : Value).ownBlock) (Kd.R_keptB (HO_3.out) hkp (fun k_ hk_ hs_ => (hk_) hs_)) (fun k_ hk_ => hk_.1)); have n1_ := Aside0.mk (Kd.R_reok rfl hy0 (fun k_ e_ => HO_5.out.1 k_ e_)); have n2_ := Aside0.mk (hb); clear HO_3; clear HO_5; clear HB; have HO_3 := n0_; have HO_5 := n1_; have HB := n2_; clear n0_ n1_ n2_; (try clear hb); (try clear hkp); (try clear hy0)) | ((with_reducible refine gate_callee (f := 11) rfl ?_); refine goesL_ (some 38) rfl rfl Tryd.func11 (by kernel_rfl) rfl #[.slice Ao20 t199.length co20, .int .i64 1] rfl (by (try simp only [List.map_toArray, List.map_cons, List.map_nil]); first | done | (rw [show t199.length = t193.length from (Kd.R_reads' HO_5.out).1.symm] <;> rfl) | rfl | (simp only [List.length_drop, List.length_take]; rfl)) ?_; (with_reducible refine (laws_heldLabelS.calls kj4 _ _ t199 1 t200 _ ?side1 ?side2 A18.out).mono ?_); (case side1 => repeat (first | exact (Kd.R_reads' HO_5.out).2.2 | (with_reducible refine Kd.C_alloc ?_ _) | (with_reducible refine Kd.C_drewN ?_ _) | (with_reducible refine Kd.C_drew ?_))); (case side2 => rw [show t199.length = t193.length from (Kd.R_reads' HO_5.out).1.symm]; exact (Kd.R_reads' HO_5.out).2.1); rintro e w22 ⟨rfl, hb⟩; refine ⟨_, rfl, ?_⟩; have n0_ := Aside0.mk (Kd.R_below (by (with_reducible repeat (first | apply Kd.R_alloc | apply Kd.R_drewN | apply Kd.R_drew)); exact HO_3.out) hb); have n1_ := Aside0.mk (Kd.R_below (by (with_reducible repeat (first | apply Kd.R_alloc | apply Kd.R_drewN | apply Kd.R_drew)); exact HO_5.out) hb); have n2_ := Aside0.mk (below_step (by repeat (first | (with_reducible first | exact HB.out | apply below_alloc | apply pw_below_drewN | apply below_drew1) | exact HB.out)) hb); clear HO_3; clear HO_5; clear HB; have HO_3 := n0_; have HO_5 := n1_; have HB := n2_; clear n0_ n1_ n2_; (try clear hb); (try clear hb2); (try clear hk); (try clear hi)))
            go_ret
            exact ⟨by first | rfl | (simp [errW_none, errW_some] <;> rfl) | (simp [*, errW_none, errW_some] <;> rfl), by repeat (first | (with_reducible first | exact HB.out | apply below_alloc | apply pw_below_drewN | apply below_drew1) | exact HB.out)⟩
          · rw [if_neg c19] at H
            have c19b0 : decide (t200 < 0) = false := decide_eq_false c19
            clear c19
            by_cases c23 : t200 = t198
            · rw [if_pos c23] at H
              have c23b0 : (t200 == t198) = true := beq_iff_eq.mpr c23
              have c23b1 : (t200 != t198) = false := bne_eq_false_iff_eq.mpr c23
              clear c23
              replace H := Option.bind_eq_some_iff.mp H
              obtain ⟨⟨t201, t202⟩, A240, H⟩ := H
              replace H : ((laws_eqLabelS.f kj4 t201 t189).bind fun t205 => (if t205 = true then (laws_FnExactParseLabels.j1 kj4 t199 t198 (t202 != t190)) else (laws_FnExactParseLabels.j1 kj4 t199 t198 true))) = some r := H
              have A24 := Aside0.mk A240
              clear A240
              have HC25 := Aside0.mk H
              clear H
              obtain ⟨Ao26, co26, eo26⟩ := Kd.R_slice HO_5.out
              subst eo26
              go_upto_region 16 with (first | ((with_reducible refine gate_callee (f := 10) rfl ?_); refine goesL_ (some 35) rfl rfl Tryd.func10 (by kernel_rfl) rfl #[.slice Ao26 t193.length co26, .int .i64 1] rfl (by (try simp only [List.map_toArray, List.map_cons, List.map_nil]); first | done | rfl | (simp only [List.length_drop, List.length_take]; rfl)) ?_; (with_reducible refine (laws_markLabelS.calls kj4 (fun k_ => some k_ = (.slice Ao26 t193.length co26 : Value).ownBlock) (.slice Ao26 t193.length co26) t193 1 t198 t199 w _ ?side1 ?side2 A17.out).mono ?_); (case side1 => repeat (first | (with_reducible first | exact HB.out | apply below_alloc | apply pw_below_drewN | apply below_drew1) | exact HB.out)); (case side2 => exact Kd.R_tight rfl HO_5.out); rintro e w27 ⟨rfl, hy0, hb, hkp⟩; refine ⟨_, rfl, ?_⟩; have n0_ := Aside0.mk (Kd.R_mono (ok' := fun k_ => some k_ ≠ (.slice Ao26 t193.length co26 : Value).ownBlock) (Kd.R_keptB (HO_3.out) hkp (fun k_ hk_ hs_ => (hk_) hs_)) (fun k_ hk_ => hk_.1)); have n1_ := Aside0.mk (Kd.R_reok rfl hy0 (fun k_ e_ => HO_5.out.1 k_ e_)); have n2_ := Aside0.mk (hb); clear HO_3; clear HO_5; clear HB; have HO_3 := n0_; have HO_5 := n1_; have HB := n2_; clear n0_ n1_ n2_; (try clear hb); (try clear hkp); (try clear hy0)) | ((with_reducible refine gate_callee (f := 11) rfl ?_); refine goesL_ (some 38) rfl rfl Tryd.func11 (by kernel_rfl) rfl #[.slice Ao26 t199.length co26, .int .i64 1] rfl (by (try simp only [List.map_toArray, List.map_cons, List.map_nil]); first | done | (rw [show t199.length = t193.length from (Kd.R_reads' HO_5.out).1.symm] <;> rfl) | rfl | (simp only [List.length_drop, List.length_take]; rfl)) ?_; (with_reducible refine (laws_heldLabelS.calls kj4 _ _ t199 1 t200 _ ?side1 ?side2 A18.out).mono ?_); (case side1 => repeat (first | exact (Kd.R_reads' HO_5.out).2.2 | (with_reducible refine Kd.C_alloc ?_ _) | (with_reducible refine Kd.C_drewN ?_ _) | (with_reducible refine Kd.C_drew ?_))); (case side2 => rw [show t199.length = t193.length from (Kd.R_reads' HO_5.out).1.symm]; exact (Kd.R_reads' HO_5.out).2.1); rintro e w28 ⟨rfl, hb⟩; refine ⟨_, rfl, ?_⟩; have n0_ := Aside0.mk (Kd.R_below (by (with_reducible repeat (first | apply Kd.R_alloc | apply Kd.R_drewN | apply Kd.R_drew)); exact HO_3.out) hb); have n1_ := Aside0.mk (Kd.R_below (by (with_reducible repeat (first | apply Kd.R_alloc | apply Kd.R_drewN | apply Kd.R_drew)); exact HO_5.out) hb); have n2_ := Aside0.mk (below_step (by repeat (first | (with_reducible first | exact HB.out | apply below_alloc | apply pw_below_drewN | apply below_drew1) | exact HB.out)) hb); clear HO_3; clear HO_5; clear HB; have HO_3 := n0_; have HO_5 := n1_; have HB := n2_; clear n0_ n1_ n2_; (try clear hb); (try clear hb2); (try clear hk); (try clear hi)) | ((with_reducible refine gate_callee (f := 8) rfl ?_); refine goesL_ (some 46) rfl rfl Tryd.func8 (by kernel_rfl) rfl #[.string a0] rfl (by (try simp only [List.map_toArray, List.map_cons, List.map_nil]); first | done | rfl | (simp only [List.length_drop, List.length_take]; rfl)) ?_; (with_reducible refine (impl_ParseLabels.calls kj4 a0 t201 t202 _ (SH.mv hsh_ HB) A24.out).mono ?_); rintro e w29 ⟨v203, rfl, ho0, hb⟩; refine ⟨_, rfl, ?_⟩; have n0_ := Aside0.mk (Kd.R_elder' (by (with_reducible repeat (first | apply Kd.R_alloc | apply Kd.R_drewN | apply Kd.R_drew)); exact HO_3.out) (Kd.R_base ho0) hb); have n1_ := Aside0.mk (Kd.R_elder' (by (with_reducible repeat (first | apply Kd.R_alloc | apply Kd.R_drewN | apply Kd.R_drew)); exact HO_5.out) (Kd.R_base ho0) hb); have n2_ := Aside0.mk (Kd.R_lower (Kd.R_new' (Kd.R_new' ho0 (Kd.R_lt (by (with_reducible repeat (first | apply Kd.R_alloc | apply Kd.R_drewN | apply Kd.R_drew)); exact HO_3.out))) (Kd.R_lt (by (with_reducible repeat (first | apply Kd.R_alloc | apply Kd.R_drewN | apply Kd.R_drew)); exact HO_5.out))) (below_size (by repeat (first | (with_reducible first | exact HB.out | apply below_alloc | apply pw_below_drewN | apply below_drew1) | exact HB.out)))); have n3_ := Aside0.mk (below_step (by repeat (first | (with_reducible first | exact HB.out | apply below_alloc | apply pw_below_drewN | apply below_drew1) | exact HB.out)) hb); clear HO_3; clear HO_5; clear HB; have HO_3 := n0_; have HO_5 := n1_; have HO204 := n2_; have HB := n3_; clear n0_ n1_ n2_ n3_; (try clear hb); (try clear hb2); (try clear hk); (try clear hi); (try clear ho0)))
              (try simp only [Act.put, List.setIfInBounds_toArray, List.set_cons_zero, List.set_cons_succ])
              go_cut [57] (fun v57 wc => ∃ (kq : Nat) (x57_24 : Bool), v57 = .bool x57_24 ∧ Aside0 (laws_FnExactParseLabels.j1 kq t199 t198 x57_24 = some r) ∧ Aside0 (kq ≤ kj4) ∧ Aside0 (Kd.R k42 42 wc w.heap.size (fun _ => True) (.slice Ao26 t193.length co26) t199) ∧ Aside0 (Below w.heap.size w wc))
              case first =>
                have H := HC25.out
                clear HC25
                replace H := Option.bind_eq_some_iff.mp H
                obtain ⟨t205, A300, H⟩ := H
                replace H : (if t205 = true then (laws_FnExactParseLabels.j1 kj4 t199 t198 (t202 != t190)) else (laws_FnExactParseLabels.j1 kj4 t199 t198 true)) = some r := H
                have A30 := Aside0.mk A300
                clear A300
                by_cases c31 : t205 = true
                · subst c31
                  have H1 : (laws_FnExactParseLabels.j1 kj4 t199 t198 (t202 != t190)) = some r := by rw [if_pos rfl] at H; exact H
                  clear H
                  have H := H1
                  clear H1
                  have H' := Aside0.mk H
                  clear H
                  obtain ⟨Ao32, co32, eo32⟩ := Kd.R_slice HO204.out
                  subst eo32
                  obtain ⟨Ao33, co33, eo33⟩ := Kd.R_slice HO_3.out
                  subst eo33
                  go_wp2_with (first | ((with_reducible refine gate_callee (f := 9) rfl ?_); refine goesL_ (some 51) rfl rfl Tryd.func9 (by kernel_rfl) rfl #[.slice Ao32 t201.length co32, .slice Ao33 t189.length co33] rfl (by (try simp only [List.map_toArray, List.map_cons, List.map_nil]); first | done | rfl | (simp only [List.length_drop, List.length_take]; rfl)) ?_; (with_reducible refine (laws_eqLabelS.calls kj4 _ _ t201 _ _ t189 true _ ?side1 ?side2 ?side3 ?side4 A30.out).mono ?_); (case side1 => repeat (first | exact (Kd.R_reads' HO204.out).2.2 | (with_reducible refine Kd.C_alloc ?_ _) | (with_reducible refine Kd.C_drewN ?_ _) | (with_reducible refine Kd.C_drew ?_))); (case side2 => exact (Kd.R_reads' HO204.out).2.1); (case side3 => repeat (first | exact (Kd.R_reads' HO_3.out).2.2 | (with_reducible refine Kd.C_alloc ?_ _) | (with_reducible refine Kd.C_drewN ?_ _) | (with_reducible refine Kd.C_drew ?_))); (case side4 => exact (Kd.R_reads' HO_3.out).2.1); rintro e w34 ⟨rfl, hb⟩; refine ⟨_, rfl, ?_⟩; have n0_ := Aside0.mk (Kd.R_below (by (with_reducible repeat (first | apply Kd.R_alloc | apply Kd.R_drewN | apply Kd.R_drew)); exact HO_3.out) hb); have n1_ := Aside0.mk (Kd.R_below (by (with_reducible repeat (first | apply Kd.R_alloc | apply Kd.R_drewN | apply Kd.R_drew)); exact HO_5.out) hb); have n2_ := Aside0.mk (Kd.R_below (by (with_reducible repeat (first | apply Kd.R_alloc | apply Kd.R_drewN | apply Kd.R_drew)); exact HO204.out) hb); have n3_ := Aside0.mk (below_step (by repeat (first | (with_reducible first | exact HB.out | apply below_alloc | apply pw_below_drewN | apply below_drew1) | exact HB.out)) hb); clear HO_3; clear HO_5; clear HO204; clear HB; have HO_3 := n0_; have HO_5 := n1_; have HO204 := n2_; have HB := n3_; clear n0_ n1_ n2_ n3_; (try clear hb); (try clear hb2); (try clear hk); (try clear hi)))
                  go_meet
                  case rel => exact ⟨_, ((t202 != t190)), (by first | rfl | (simp; done) | (simp [*]; done)), H', ⟨by have := HJ4.out; first | omega | exact Nat.le_refl _⟩, ⟨by (with_reducible repeat (first | apply Kd.R_alloc | apply Kd.R_drewN | apply Kd.R_drew)); exact Kd.R_mono HO_5.out (fun _ hk => trivial)⟩, ⟨by repeat (first | (with_reducible first | exact HB.out | apply below_alloc | apply pw_below_drewN | apply below_drew1) | exact HB.out)⟩⟩
                · replace c31 := Bool.eq_false_iff.mpr c31
                  subst c31
                  have H1 : (laws_FnExactParseLabels.j1 kj4 t199 t198 true) = some r := by rw [if_neg (show ¬ (false = true) by decide)] at H; exact H
                  clear H
                  have H := H1
                  clear H1
                  have H' := Aside0.mk H
                  clear H
                  obtain ⟨Ao35, co35, eo35⟩ := Kd.R_slice HO204.out
                  subst eo35
                  obtain ⟨Ao36, co36, eo36⟩ := Kd.R_slice HO_3.out
                  subst eo36
                  go_wp2_with (first | ((with_reducible refine gate_callee (f := 9) rfl ?_); refine goesL_ (some 51) rfl rfl Tryd.func9 (by kernel_rfl) rfl #[.slice Ao35 t201.length co35, .slice Ao36 t189.length co36] rfl (by (try simp only [List.map_toArray, List.map_cons, List.map_nil]); first | done | rfl | (simp only [List.length_drop, List.length_take]; rfl)) ?_; (with_reducible refine (laws_eqLabelS.calls kj4 _ _ t201 _ _ t189 false _ ?side1 ?side2 ?side3 ?side4 A30.out).mono ?_); (case side1 => repeat (first | exact (Kd.R_reads' HO204.out).2.2 | (with_reducible refine Kd.C_alloc ?_ _) | (with_reducible refine Kd.C_drewN ?_ _) | (with_reducible refine Kd.C_drew ?_))); (case side2 => exact (Kd.R_reads' HO204.out).2.1); (case side3 => repeat (first | exact (Kd.R_reads' HO_3.out).2.2 | (with_reducible refine Kd.C_alloc ?_ _) | (with_reducible refine Kd.C_drewN ?_ _) | (with_reducible refine Kd.C_drew ?_))); (case side4 => exact (Kd.R_reads' HO_3.out).2.1); rintro e w37 ⟨rfl, hb⟩; refine ⟨_, rfl, ?_⟩; have n0_ := Aside0.mk (Kd.R_below (by (with_reducible repeat (first | apply Kd.R_alloc | apply Kd.R_drewN | apply Kd.R_drew)); exact HO_3.out) hb); have n1_ := Aside0.mk (Kd.R_below (by (with_reducible repeat (first | apply Kd.R_alloc | apply Kd.R_drewN | apply Kd.R_drew)); exact HO_5.out) hb); have n2_ := Aside0.mk (Kd.R_below (by (with_reducible repeat (first | apply Kd.R_alloc | apply Kd.R_drewN | apply Kd.R_drew)); exact HO204.out) hb); have n3_ := Aside0.mk (below_step (by repeat (first | (with_reducible first | exact HB.out | apply below_alloc | apply pw_below_drewN | apply below_drew1) | exact HB.out)) hb); clear HO_3; clear HO_5; clear HO204; clear HB; have HO_3 := n0_; have HO_5 := n1_; have HO204 := n2_; have HB := n3_; clear n0_ n1_ n2_ n3_; (try clear hb); (try clear hb2); (try clear hk); (try clear hi)))
                  go_meet
                  case rel => exact ⟨_, (true), (by first | rfl | (simp; done) | (simp [*]; done)), H', ⟨by have := HJ4.out; first | omega | exact Nat.le_refl _⟩, ⟨by (with_reducible repeat (first | apply Kd.R_alloc | apply Kd.R_drewN | apply Kd.R_drew)); exact Kd.R_mono HO_5.out (fun _ hk => trivial)⟩, ⟨by repeat (first | (with_reducible first | exact HB.out | apply below_alloc | apply pw_below_drewN | apply below_drew1) | exact HB.out)⟩⟩
              case rest =>
                clear HC25
                try clear c1
                try clear c2
                try clear c2b0
                try clear c2b1
                try clear p2
                try clear c3
                try clear c7
                try clear c8
                try clear c9
                try clear c10
                try clear c11
                try clear c16
                try clear c19
                try clear c19b0
                try clear c23
                try clear c23b0
                try clear c23b1
                try clear c31
                try clear p2
                obtain ⟨kq, x57_24, rfl, HA, HJ24, HO_5, HB⟩ := hcut
                have hl5_24 := (Kd.R_reads' HO_5.out).1
                rw [hl5_24] at HO_5
                (try simp only [hl5_24])
                cases kq with
                | zero => exact absurd HA.out (by simp [laws_FnExactParseLabels.j1])
                | succ kj24 =>
                  have H := HA.out
                  clear HA
                  simp only [laws_FnExactParseLabels.j1] at H
                  by_cases c38 : x57_24 = true
                  · subst c38
                    have H1 : (some false) = some r := by rw [if_pos rfl] at H; exact H
                    clear H
                    have H := H1
                    clear H1
                    obtain rfl := Option.some.inj H
                    go_wp2
                    go_ret
                    exact ⟨by first | rfl | (simp [errW_none, errW_some] <;> rfl) | (simp [*, errW_none, errW_some] <;> rfl), by repeat (first | (with_reducible first | exact HB.out | apply below_alloc | apply pw_below_drewN | apply below_drew1) | exact HB.out)⟩
                  · replace c38 := Bool.eq_false_iff.mpr c38
                    subst c38
                    have H1 : ((laws_heldLabelS.f kj24 t199 1).bind fun t206 => (if t206 < 0 then (some false) else (if t206 = t198 then (some true) else (some false)))) = some r := by rw [if_neg (show ¬ (false = true) by decide)] at H; exact H
                    clear H
                    have H := H1
                    clear H1
                    replace H := Option.bind_eq_some_iff.mp H
                    obtain ⟨t206, A390, H⟩ := H
                    replace H : (if t206 < 0 then (some false) else (if t206 = t198 then (some true) else (some false))) = some r := H
                    have A39 := Aside0.mk A390
                    clear A390
                    by_cases c40 : t206 < 0
                    · rw [if_pos c40] at H
                      have c40b0 : decide (t206 < 0) = true := decide_eq_true c40
                      clear c40
                      obtain rfl := Option.some.inj H
                      go_wp2_with (first | ((with_reducible refine gate_callee (f := 11) rfl ?_); refine goesL_ (some 60) rfl rfl Tryd.func11 (by kernel_rfl) rfl #[.slice Ao26 t199.length co26, .int .i64 1] rfl (by (try simp only [List.map_toArray, List.map_cons, List.map_nil]); first | done | rfl | (simp only [List.length_drop, List.length_take]; rfl)) ?_; (with_reducible refine (laws_heldLabelS.calls kj24 _ _ t199 1 t206 _ ?side1 ?side2 A39.out).mono ?_); (case side1 => repeat (first | exact (Kd.R_reads' HO_5.out).2.2 | (with_reducible refine Kd.C_alloc ?_ _) | (with_reducible refine Kd.C_drewN ?_ _) | (with_reducible refine Kd.C_drew ?_))); (case side2 => exact (Kd.R_reads' HO_5.out).2.1); rintro e w41 ⟨rfl, hb⟩; refine ⟨_, rfl, ?_⟩; have n0_ := Aside0.mk (Kd.R_below (by (with_reducible repeat (first | apply Kd.R_alloc | apply Kd.R_drewN | apply Kd.R_drew)); exact HO_5.out) hb); have n1_ := Aside0.mk (below_step (by repeat (first | (with_reducible first | exact HB.out | apply below_alloc | apply pw_below_drewN | apply below_drew1) | exact HB.out)) hb); clear HO_5; clear HB; have HO_5 := n0_; have HB := n1_; clear n0_ n1_; (try clear hb); (try clear hb2); (try clear hk); (try clear hi)))
                      go_ret
                      exact ⟨by first | rfl | (simp [errW_none, errW_some] <;> rfl) | (simp [*, errW_none, errW_some] <;> rfl), by repeat (first | (with_reducible first | exact HB.out | apply below_alloc | apply pw_below_drewN | apply below_drew1) | exact HB.out)⟩
                    · rw [if_neg c40] at H
                      have c40b0 : decide (t206 < 0) = false := decide_eq_false c40
                      clear c40
                      by_cases c42 : t206 = t198
                      · rw [if_pos c42] at H
                        have c42b0 : (t206 == t198) = true := beq_iff_eq.mpr c42
                        have c42b1 : (t206 != t198) = false := bne_eq_false_iff_eq.mpr c42
                        clear c42
                        obtain rfl := Option.some.inj H
                        go_wp2_with (first | ((with_reducible refine gate_callee (f := 11) rfl ?_); refine goesL_ (some 60) rfl rfl Tryd.func11 (by kernel_rfl) rfl #[.slice Ao26 t199.length co26, .int .i64 1] rfl (by (try simp only [List.map_toArray, List.map_cons, List.map_nil]); first | done | rfl | (simp only [List.length_drop, List.length_take]; rfl)) ?_; (with_reducible refine (laws_heldLabelS.calls kj24 _ _ t199 1 t206 _ ?side1 ?side2 A39.out).mono ?_); (case side1 => repeat (first | exact (Kd.R_reads' HO_5.out).2.2 | (with_reducible refine Kd.C_alloc ?_ _) | (with_reducible refine Kd.C_drewN ?_ _) | (with_reducible refine Kd.C_drew ?_))); (case side2 => exact (Kd.R_reads' HO_5.out).2.1); rintro e w43 ⟨rfl, hb⟩; refine ⟨_, rfl, ?_⟩; have n0_ := Aside0.mk (Kd.R_below (by (with_reducible repeat (first | apply Kd.R_alloc | apply Kd.R_drewN | apply Kd.R_drew)); exact HO_5.out) hb); have n1_ := Aside0.mk (below_step (by repeat (first | (with_reducible first | exact HB.out | apply below_alloc | apply pw_below_drewN | apply below_drew1) | exact HB.out)) hb); clear HO_5; clear HB; have HO_5 := n0_; have HB := n1_; clear n0_ n1_; (try clear hb); (try clear hb2); (try clear hk); (try clear hi)))
                        go_ret
                        exact ⟨by first | rfl | (simp [errW_none, errW_some] <;> rfl) | (simp [*, errW_none, errW_some] <;> rfl), by repeat (first | (with_reducible first | exact HB.out | apply below_alloc | apply pw_below_drewN | apply below_drew1) | exact HB.out)⟩
                      · rw [if_neg c42] at H
                        have c42b0 : (t206 == t198) = false := beq_eq_false_iff_ne.mpr c42
                        have c42b1 : (t206 != t198) = true := bne_iff_ne.mpr c42
                        obtain rfl := Option.some.inj H
                        go_wp2_with (first | ((with_reducible refine gate_callee (f := 11) rfl ?_); refine goesL_ (some 60) rfl rfl Tryd.func11 (by kernel_rfl) rfl #[.slice Ao26 t199.length co26, .int .i64 1] rfl (by (try simp only [List.map_toArray, List.map_cons, List.map_nil]); first | done | rfl | (simp only [List.length_drop, List.length_take]; rfl)) ?_; (with_reducible refine (laws_heldLabelS.calls kj24 _ _ t199 1 t206 _ ?side1 ?side2 A39.out).mono ?_); (case side1 => repeat (first | exact (Kd.R_reads' HO_5.out).2.2 | (with_reducible refine Kd.C_alloc ?_ _) | (with_reducible refine Kd.C_drewN ?_ _) | (with_reducible refine Kd.C_drew ?_))); (case side2 => exact (Kd.R_reads' HO_5.out).2.1); rintro e w44 ⟨rfl, hb⟩; refine ⟨_, rfl, ?_⟩; have n0_ := Aside0.mk (Kd.R_below (by (with_reducible repeat (first | apply Kd.R_alloc | apply Kd.R_drewN | apply Kd.R_drew)); exact HO_5.out) hb); have n1_ := Aside0.mk (below_step (by repeat (first | (with_reducible first | exact HB.out | apply below_alloc | apply pw_below_drewN | apply below_drew1) | exact HB.out)) hb); clear HO_5; clear HB; have HO_5 := n0_; have HB := n1_; clear n0_ n1_; (try clear hb); (try clear hb2); (try clear hk); (try clear hi)))
                        go_ret
                        exact ⟨by first | rfl | (simp [errW_none, errW_some] <;> rfl) | (simp [*, errW_none, errW_some] <;> rfl), by repeat (first | (with_reducible first | exact HB.out | apply below_alloc | apply pw_below_drewN | apply below_drew1) | exact HB.out)⟩
            · rw [if_neg c23] at H
              have c23b0 : (t200 == t198) = false := beq_eq_false_iff_ne.mpr c23
              have c23b1 : (t200 != t198) = true := bne_iff_ne.mpr c23
              obtain rfl := Option.some.inj H
              obtain ⟨Ao45, co45, eo45⟩ := Kd.R_slice HO_5.out
              subst eo45
              go_wp2_with (first | ((with_reducible refine gate_callee (f := 10) rfl ?_); refine goesL_ (some 35) rfl rfl Tryd.func10 (by kernel_rfl) rfl #[.slice Ao45 t193.length co45, .int .i64 1] rfl (by (try simp only [List.map_toArray, List.map_cons, List.map_nil]); first | done | rfl | (simp only [List.length_drop, List.length_take]; rfl)) ?_; (with_reducible refine (laws_markLabelS.calls kj4 (fun k_ => some k_ = (.slice Ao45 t193.length co45 : Value).ownBlock) (.slice Ao45 t193.length co45) t193 1 t198 t199 w _ ?side1 ?side2 A17.out).mono ?_); (case side1 => repeat (first | (with_reducible first | exact HB.out | apply below_alloc | apply pw_below_drewN | apply below_drew1) | exact HB.out)); (case side2 => exact Kd.R_tight rfl HO_5.out); rintro e w46 ⟨rfl, hy0, hb, hkp⟩; refine ⟨_, rfl, ?_⟩; have n0_ := Aside0.mk (Kd.R_mono (ok' := fun k_ => some k_ ≠ (.slice Ao45 t193.length co45 : Value).ownBlock) (Kd.R_keptB (HO_3.out) hkp (fun k_ hk_ hs_ => (hk_) hs_)) (fun k_ hk_ => hk_.1)); have n1_ := Aside0.mk (Kd.R_reok rfl hy0 (fun k_ e_ => HO_5.out.1 k_ e_)); have n2_ := Aside0.mk (hb); clear HO_3; clear HO_5; clear HB; have HO_3 := n0_; have HO_5 := n1_; have HB := n2_; clear n0_ n1_ n2_; (try clear hb); (try clear hkp); (try clear hy0)) | ((with_reducible refine gate_callee (f := 11) rfl ?_); refine goesL_ (some 38) rfl rfl Tryd.func11 (by kernel_rfl) rfl #[.slice Ao45 t199.length co45, .int .i64 1] rfl (by (try simp only [List.map_toArray, List.map_cons, List.map_nil]); first | done | (rw [show t199.length = t193.length from (Kd.R_reads' HO_5.out).1.symm] <;> rfl) | rfl | (simp only [List.length_drop, List.length_take]; rfl)) ?_; (with_reducible refine (laws_heldLabelS.calls kj4 _ _ t199 1 t200 _ ?side1 ?side2 A18.out).mono ?_); (case side1 => repeat (first | exact (Kd.R_reads' HO_5.out).2.2 | (with_reducible refine Kd.C_alloc ?_ _) | (with_reducible refine Kd.C_drewN ?_ _) | (with_reducible refine Kd.C_drew ?_))); (case side2 => rw [show t199.length = t193.length from (Kd.R_reads' HO_5.out).1.symm]; exact (Kd.R_reads' HO_5.out).2.1); rintro e w47 ⟨rfl, hb⟩; refine ⟨_, rfl, ?_⟩; have n0_ := Aside0.mk (Kd.R_below (by (with_reducible repeat (first | apply Kd.R_alloc | apply Kd.R_drewN | apply Kd.R_drew)); exact HO_3.out) hb); have n1_ := Aside0.mk (Kd.R_below (by (with_reducible repeat (first | apply Kd.R_alloc | apply Kd.R_drewN | apply Kd.R_drew)); exact HO_5.out) hb); have n2_ := Aside0.mk (below_step (by repeat (first | (with_reducible first | exact HB.out | apply below_alloc | apply pw_below_drewN | apply below_drew1) | exact HB.out)) hb); clear HO_3; clear HO_5; clear HB; have HO_3 := n0_; have HO_5 := n1_; have HB := n2_; clear n0_ n1_ n2_; (try clear hb); (try clear hb2); (try clear hk); (try clear hi)))
              go_ret
              exact ⟨by first | rfl | (simp [errW_none, errW_some] <;> rfl) | (simp [*, errW_none, errW_some] <;> rfl), by repeat (first | (with_reducible first | exact HB.out | apply below_alloc | apply pw_below_drewN | apply below_drew1) | exact HB.out)⟩

end Go.Proofs.YtpjpnppoejnafaaDoor.G

/- PParseLabLaw -/
/-
  The law of ParseLabels: it is answered true.
-/
namespace Go.Proofs.YtpjpnppoejnafaaDoor.G
open Go.RowKit Go.Proofs.YtpjpnppoejnafaaDoorW.PrintWords Go.Proofs.YtpjpnppoejnafaaDoorW.PrintLast Go.Proofs.YtpjpnppoejnafaaDoorW.PrintMore
set_option linter.unusedVariables false
set_option linter.unusedSimpArgs false
theorem FnExactParseLabels_pure (a0 : ByteArray) (h : a0.size ≤ 9223372036854775807) : ∃ k, laws_FnExactParseLabels.f k a0 = some true := by
  refine Ev.rounds ?_
  unfold laws_FnExactParseLabels.f
  by_cases c : (a0.size : Int) > 1048576
  · exact ev_if_pos c (Ev.now _)
  have hs : a0.size ≤ 1048576 := by omega
  have hl := parseL_len a0 hs
  refine ev_if_neg c (Ev.bind (specParse_ev a0 hs) (Ev.bind (implParse_ev a0 hs) (Ev.bind (eqLabelS_ev _ (by omega)) (ev_if_pos rfl ?_))))
  refine Ev.step (fun k => by rw [laws_FnExactParseLabels.j0]) (ev_if_neg (by simp) ?_)
  refine Ev.bind (markLabelS_ev 1 _ (by omega) (by omega) (by omega)) (Ev.bind (heldLabelS_ev 1 _ (by omega) (by omega) (by omega)) (ev_if_neg (by omega) (ev_if_pos rfl ?_)))
  refine Ev.bind (implParse_ev a0 hs) (Ev.bind (eqLabelS_ev _ (by omega)) (ev_if_pos rfl ?_))
  refine Ev.step (fun k => by rw [laws_FnExactParseLabels.j1]) (ev_if_neg (by simp) ?_)
  exact Ev.bind (heldLabelS_ev 1 _ (by omega) (by omega) (by omega)) (ev_if_neg (by omega) (ev_if_pos rfl (Ev.now _)))
end Go.Proofs.YtpjpnppoejnafaaDoor.G

/- GKOpen -/
/-
  An argument that can be read as data (the form's own reading) is of a kind 'Kd'; and what is known of it besides ('Wf').
-/
namespace Go.Proofs.YtpjpnppoejnafaaDoor.G
open Go.RowKit Go.Proofs.YtpjpnppoejnafaaDoorW.PrintWords Go.Proofs.YtpjpnppoejnafaaDoorW.PrintLast Go.Proofs.YtpjpnppoejnafaaDoorW.PrintMore
set_option linter.unusedVariables false
section
variable {H : Type} {enc : TypeId × Value → H} {P : Program} {w : World} {base : Nat} {spare : Nat → Bool} {held : Bool}
end
end Go.Proofs.YtpjpnppoejnafaaDoor.G

/- GKArgs -/
/-
  The arguments of the laws, opened: at this dump's type numbers.
-/
namespace Go.Proofs.YtpjpnppoejnafaaDoor.G
open Go.RowKit Go.Proofs.YtpjpnppoejnafaaDoorW.PrintWords Go.Proofs.YtpjpnppoejnafaaDoorW.PrintLast Go.Proofs.YtpjpnppoejnafaaDoorW.PrintMore
set_option linter.unusedVariables false
section
variable {H : Type} {enc : TypeId × Value → H} {w : World} {base : Nat} {spare : Nat → Bool} {held : Bool} {v : Value} {d : DataW H} {p : List MemPlace} {r : Reach} {b0 : Nat}
end
end Go.Proofs.YtpjpnppoejnafaaDoor.G

/- GKRow -/
/-
  The row's wrap over listed variables, the world's shape kept.
-/
namespace Go.Proofs.YtpjpnppoejnafaaDoor.G
open Go Go.Proofs

theorem change_and_shaped {H : Type} {enc : TypeId × Value → H} {a : Assume} {C : Checked} {os : Os} {f : FuncId} {fn : Func} {s : ChangeSpec} {conds : List PathCond} {apart fresh handsOn again : Bool} {X : World → Array Value → Prop}
    (hX : ∀ (w w' : World) (args : Array Value), w.heap = w'.heap → X w args → X w' args)
    (own : ownKnob C.prog.godebug = none) (started : os.Started) (noInit : C.prog.inits.idxOf? f = none) (hfn : C.prog.funcs[f]? = some fn)
    (witness : ∃ (w : World) (tape : Tape) (i : Input), w.os = os ∧ (w.forCall tape i).Shaped C.prog ∧ i.vars = [] ∧ Input.okWide C.prog (w.forCall tape i) .any w.heap.size f i ∧
      ((s.pre enc C.prog fn conds apart (w.forCall tape i).memory i.args ∧ X (w.forCall tape i).memory i.args) ∧ sizedMet enc C.prog fn (OpenSpec.ofChange s) apart (w.forCall tape i).memory i.args) ∧ a.holds C.prog (lone (Frame.enter C.prog f i.args .normal) [] (w.forCall tape i)))
    (contract : ∀ (W : World) (base : Nat) (args : Array Value) (ds gs : List (DataW H)) (before : List MemPlace),
      (∀ (j : Nat) t v, fn.params[j]? = some t → args[j]? = some v → Value.okWide C.prog W .any base t v) →
      DataW.Whole enc C.prog fn.params.toList s.vars apart W args.toList ds gs before →
      conds.all (PathCond.test C.prog ⟨fn.params.toList, ds, s.plain.varTypes C.prog, gs⟩) = true →
      (DataW.weightsEach C.prog (fn.params.toList ++ s.plain.varTypes C.prog) (ds ++ gs)).all (· ≤ reachBytes) = true → X W args → W.ShapedOpen C.prog →
      a.holds C.prog (lone (Frame.enter C.prog f args .normal) [] W) →
      Calls C.prog f args W fun e W' => ∃ v, e = .returned v ∧ s.post enc C.prog fn apart fresh handsOn again W args v W') :
    ReturnsInHanded a C os f .any (fun w args => (s.pre enc C.prog fn conds apart w args ∧ X w args) ∧ sizedMet enc C.prog fn (OpenSpec.ofChange s) apart w args) (s.post enc C.prog fn apart fresh handsOn again) := by
  refine returnsInHanded_of_calls own started noInit witness ?_
  intro w tape i _ hsh _ hok hpre hholds
  obtain ⟨_, _, _, fn', hfn', _, _, _, _, hval⟩ := hok
  have e : fn' = fn := Option.some.inj (hfn'.symm.trans hfn)
  subst e
  obtain ⟨⟨⟨ds, gs, before, hw, hc⟩, hx⟩, hz⟩ := hpre
  have hw' := DataW.Whole.of_heap (w' := w.forCall tape i) (by rfl) hw
  refine (contract (w.forCall tape i) w.heap.size i.args ds gs before hval hw' hc (hz.weights hw) (hX _ _ _ (by rfl) hx) hsh hholds).mono fun e W' ⟨v, he, hp⟩ => ?_
  subst he
  exact ChangeSpec.post_blind hp
end Go.Proofs.YtpjpnppoejnafaaDoor.G

/- RowFnExactParseLabelsCard -/
/- The law 'FnExactParseLabels' holds for every input: it returns true, and each argument reads behind the call as it read before. No condition. -/
namespace Go.Proofs.YtpjpnppoejnafaaDoor.fnExactParseLabels
open Go.ChangeShapes Go.WideShapes Go.ChangeAt Go.RowKit
set_option linter.unusedVariables false
theorem own : ownKnob Tryd.prog.godebug = none := by kernel_rfl
theorem laidOut : laidOutB Tryd.prog = true := by kernel_rfl
set_option maxRecDepth 100000 in
theorem lifted (os : Os) (started : os.Started) (H : Type) (enc : TypeId × Value → H) :
    ReturnsInHanded {} Tryd.checked os 3 .any (fun w args => (Rows.fnExactParseLabelsSpec.pre enc Tryd.prog Tryd.f3 Rows.fnExactParseLabelsRow.domain false w args ∧ laidMetH Tryd.prog Rows.fnExactParseLabelsRow.laid w) ∧ sizedMet enc Tryd.prog Tryd.f3 (OpenSpec.ofChange Rows.fnExactParseLabelsSpec) false w args) (Rows.fnExactParseLabelsSpec.post enc Tryd.prog Tryd.f3 false true false false) := by
  refine G.change_and_shaped (C := Tryd.checked) (X := fun w _ => laidMetH Tryd.prog Rows.fnExactParseLabelsRow.laid w) (fun _ _ _ hh h => h.of_heap hh) own started (by kernel_rfl) Tryd.func3
    (ChangeSpec.witness_shaped (enc := enc) (C := Tryd.checked) (os := os) (X := fun w _ => laidMetH Tryd.prog Rows.fnExactParseLabelsRow.laid w) false (World.laidAll Tryd.prog os Rows.fnExactParseLabelsRow.laid) #[.string ByteArray.empty] 8 (World.laidAll_os _ _ _)
      (World.shaped_of_ZipB (by kernel_rfl) (by kernel_rfl)) (by kernel_rfl) (by kernel_rfl) (by kernel_rfl)
      (by rw [MakeChecks.laidMetH_plain _ _ _ (by kernel_rfl)]; exact laidMet_laidAll _ (by kernel_rfl) (by kernel_rfl))) ?_
  intro W base args ds gs before hval0 hW hcnd _ hL hshape _
  have hval : ∀ (j : Nat) t v, Tryd.f3.params[j]? = some t → args[j]? = some v → Value.okWide Tryd.prog W .any base t v := hval0
  have hW' := hW
  obtain ⟨p, q, hA0, hV, rfl, hfz, hnd⟩ := hW
  have hA : DataW.TrodAll enc Tryd.prog W 0 (fun _ => true) true Tryd.f3.params.toList args.toList ds p := hA0
  rw [Tryd.params3] at hA hval
  obtain ⟨v0, vs0, d0, ds0, p0, q0, hargs0, rfl, rfl, h0, r0x⟩ := trodAll_cons hA
  obtain ⟨rfl, rfl, rfl⟩ := trodAll_nil r0x
  obtain rfl : args = #[v0] := by cases args; simp_all
  obtain ⟨rfl, rfl⟩ := trodVars_none hV
  have hlt := hW'.lt
  have hk0 := h0
  obtain ⟨s0, rfl, _, _, y0⟩ := Go.ChangeMaps.open_string Tryd.underlying9 (hval 0 9 v0 rfl rfl) h0
  clear hA0 hval0
  obtain ⟨k, hk⟩ := G.FnExactParseLabels_pure s0 (by unfold maxLen at y0; exact y0)
  refine (G.laws_FnExactParseLabels.calls k s0 true W  (G.SH.of hshape) hk).mono fun e W' ⟨he, bel⟩ => ?_
  subst he
  exact ⟨_, rfl, _, _, _, [], _, [], hW', trodAll_mk1 (shut_bool Tryd.underlying4 _), (trodAll_cons_mk (Below.trod laidOut (by kernel_rfl) (of_decide_eq_true (by kernel_rfl)) hk0 bel (fun x hx => hlt x (by simp [hx]))) trodAll_mk0), rfl, bel.frame _, fun h => by cases h⟩
theorem over : Rows.fnExactParseLabelsRow.holds Tryd.pinned (OpenSpec.ofChange Rows.fnExactParseLabelsSpec) :=
  OpenClaim.holds_of_wide 3 Tryd.f3 rfl rfl rfl rfl rfl rfl rfl ⟨rfl, rfl, rfl, rfl, rfl⟩ rfl rfl rfl rfl rfl (by kernel_rfl) Tryd.func3 (by kernel_rfl)
    (of_decide_eq_true (by kernel_rfl)) (by unfold Func.isWrapper; first | (rw [if_pos (by decide +kernel)]; kernel_rfl) | (rw [if_neg (by decide +kernel)]; exact ⟨rfl, rfl⟩))
    (fun os started H enc _ => lifted os started H enc)
theorem proved : Rows.FnExactParseLabelsSaid := over
#print axioms proved
end Go.Proofs.YtpjpnppoejnafaaDoor.fnExactParseLabels
namespace Go.Proofs.YtpjpnppoejnafaaDoor
theorem fnExactParseLabelsCard_holds : Rows.FnExactParseLabelsCardSaid :=
  Claim7.holds_tied_plain_at .later [] [.data, .pinned] true (true, "ba4f657fa8b592f274b6cc130ab971ee82f2b4c39185dd714d5d2eff0ed06bdc") false fnExactParseLabels.proved (fun _ h => by cases h) (by kernel_rfl) (fun _ h => by cases h) fnExactParseLabels_row_tie rfl ⟨rfl, rfl⟩ (by kernel_rfl) rfl
    (fun f fn hf hfn => by
      obtain rfl : f = 3 := Option.some.inj ((show Tryd.prog.funcNamed "loop.example/g00119/laws.FnExactParseLabels" = some 3 by kernel_rfl).symm.trans hf) |>.symm
      obtain rfl : fn = Tryd.f3 := (Option.some.inj (Tryd.func3.symm.trans hfn)).symm
      exact ⟨by kernel_rfl, fun j t ht => by
        rw [Tryd.params3] at ht
        have hm : t ∈ [9] := by simpa using Array.mem_of_getElem? ht
        have hall : ([9].all fun u => !Tryd.prog.wantsStandIn u) = true := by kernel_rfl
        exact (show Tryd.prog.wantsStandIn t = false by simpa using List.all_eq_true.1 hall t hm)⟩)
    (by kernel_rfl)
end Go.Proofs.YtpjpnppoejnafaaDoor
