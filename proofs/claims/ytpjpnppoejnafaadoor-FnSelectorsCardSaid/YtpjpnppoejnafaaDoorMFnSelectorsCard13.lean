import Derived.Test.YtpjpnppoejnafaaDoorMFnSelectorsCard12
import Derived.Test.YtpjpnppoejnafaaDoorMFnSelectorsCard1
import Derived.Test.YtpjpnppoejnafaaDoorMFnSelectorsCard5
import Derived.Test.YtpjpnppoejnafaaDoorMFnSelectorsCard3
import Derived.Test.YtpjpnppoejnafaaDoorMFnSelectorsCard6
import Derived.Test.YtpjpnppoejnafaaDoorMFnSelectorsCard2
import Derived.Test.YtpjpnppoejnafaaDoorMFnSelectorsCard7
import Derived.ChangeArms
import Derived.ChangeShapes
import Derived.DataReads
/- PParseSel -/
/-
  ParseSelector: the program's and the reference's come to one answer; what SelectorText wrote is read again.
-/
namespace Go.Proofs.YtpjpnppoejnafaaDoor.G
open Go.RowKit Go.Proofs.YtpjpnppoejnafaaDoorW.PrintWords Go.Proofs.YtpjpnppoejnafaaDoorW.PrintLast Go.Proofs.YtpjpnppoejnafaaDoorW.PrintMore
set_option linter.unusedVariables false
set_option linter.unusedSimpArgs false
theorem ext_mkb (p : List UInt8) (a b : Nat) : (mkb p).extract a b = mkb ((p.drop a).take (b - a)) := by
  apply ba_eq
  rw [ext_data, mkb_data, mkb_data]
theorem ext_to (p : List UInt8) (b : Nat) : (mkb p).extract 0 b = mkb (p.take b) := by rw [ext_mkb]; simp
theorem ext_from (p : List UInt8) (a : Nat) : (mkb p).extract a (mkb p).size = mkb (p.drop a) := by
  rw [ext_mkb, mkb_size, List.take_of_length_le (by rw [List.length_drop]; omega)]
/-! ### the library's -/
theorem cutf (sep p : List UInt8) (h : p.length < 4294967281) : strings_Cut.f (mkb p) (mkb sep) = some (if 0 ≤ Lib.index p sep then (mkb (cutA sep p), mkb (cutB sep p), true) else (mkb p, mkb [], false)) := by
  unfold strings_Cut.f
  rw [if_pos (by rw [mkb_size]; exact h), mkb_data, mkb_data, cut_ab]
  split <;> rfl
theorem trimSuf_f (p q : List UInt8) (h : p.length ≤ 1099511627776) (hq : q.length ≤ 1099511627776) : strings_TrimSuffix.f (mkb p) (mkb q) = some (mkb (Lib.trimSuffix p q)) := by
  unfold strings_TrimSuffix.f stringslite_TrimSuffix.f stringslite_HasSuffix.f Lib.trimSuffix Lib.hasSuffix
  rw [mkb_size, mkb_size]
  by_cases c : q.length ≤ p.length
  · rw [if_pos (by omega), w64 (by omega) (by omega), if_pos (by omega), if_pos (by omega)]
    have e : ((p.length : Int) - (q.length : Int)).toNat = p.length - q.length := by omega
    have hext : (mkb p).extract (p.length - q.length) p.length = mkb (p.drop (p.length - q.length)) := by
      have := ext_from p (p.length - q.length)
      rwa [mkb_size] at this
    rw [e, hext, Option.bind_some]
    by_cases hs : q.isSuffixOf p = true
    · rw [if_pos hs]
      obtain ⟨t, rfl⟩ := List.isSuffixOf_iff_suffix.1 hs
      have hd : (t ++ q).drop ((t ++ q).length - q.length) = q := by simp
      rw [hd, if_pos (by simp), if_pos (by omega), if_pos (by omega), ext_to, Option.bind_some]
    · rw [if_neg hs, if_neg ?_, Option.bind_some]
      intro hh
      apply hs
      have h2 : mkb (p.drop (p.length - q.length)) = mkb q := tl_eq.1 (by simpa using hh)
      have h3 : p.drop (p.length - q.length) = q := by
        have := congrArg (fun s : ByteArray => s.data.toList) h2
        simpa only [mkb_data] using this
      rw [List.isSuffixOf_iff_suffix, ← h3]
      exact List.drop_suffix _ _
  · rw [if_neg (by omega), Option.bind_some, if_neg (by simp), Option.bind_some, if_neg ?_]
    intro hs
    have := List.IsSuffix.length_le (List.isSuffixOf_iff_suffix.1 hs)
    omega
theorem parseTerm_f (p : List UInt8) (h : p.length ≤ 1048576) : impl_parseTerm.f (mkb p) = some ((readI p).f0, (readI p).f1, (readI p).f2) := by
  have hl : ∀ sep : List UInt8, (cutB sep p).length ≤ 1048576 := fun sep => by unfold cutB; rw [List.length_drop]; omega
  unfold impl_parseTerm.f readI
  rw [show (⟨#[33, 61]⟩ : ByteArray) = mkb [33, 61] from rfl, cutf _ _ (by omega), Option.bind_some]
  by_cases c1 : 0 ≤ Lib.index p [33, 61]
  · rw [if_pos c1, if_pos c1]; rfl
  · rw [if_neg c1, if_neg c1, if_neg (by simp)]
    rw [show (⟨#[61]⟩ : ByteArray) = mkb [61] from rfl, cutf _ _ (by omega), Option.bind_some]
    by_cases c2 : 0 ≤ Lib.index p [61]
    · rw [if_pos c2, if_pos c2]; rfl
    · rw [if_neg c2, if_neg c2, if_neg (by simp)]
      rw [show (⟨#[32, 105, 110, 32, 40]⟩ : ByteArray) = mkb sIn from rfl, cutf _ _ (by omega), Option.bind_some]
      by_cases c3 : 0 ≤ Lib.index p sIn
      · rw [if_pos c3, if_pos c3, if_pos rfl]
        have h3 := hl sIn
        simp only
        rw [show (⟨#[41]⟩ : ByteArray) = mkb [41] from rfl, trimSuf_f _ _ (by omega) (by simp), Option.bind_some]
        rw [split_f 32 _ (by
          rw [mkb_size]; unfold Lib.trimSuffix; split
          · rw [List.length_take]; omega
          · omega), Option.bind_some, mkb_data]
      · rw [if_neg c3, if_neg c3, if_neg (by simp)]
        unfold strings_CutPrefix.f
        rw [Option.bind_some, mkb_data]
        by_cases c4 : Lib.hasPrefix p [33] = true
        · rw [if_pos c4, if_pos c4]
          unfold Lib.trimPrefix
          rw [show (⟨#[33]⟩ : ByteArray).data.toList = [33] from rfl, if_pos c4]; rfl
        · rw [if_neg c4, if_neg c4]
/-! ### the reference's search -/
/-! ### what is read is of a size -/
theorem spl_wf (c : UInt8) (l : List UInt8) (n : Nat) (h : l.length ≤ n) (hn : n ≤ 1048576) : wfStrs ((spl c l).map mkb) := by
  have h1 := spl_length c l
  refine ⟨by rw [List.length_map]; omega, fun x hx => ?_⟩
  obtain ⟨q, hq, rfl⟩ := List.mem_map.1 hx
  have := spl_part c l q hq
  rw [mkb_size]; omega
theorem one_wf (l : List UInt8) (h : l.length ≤ 1048576) : wfStrs [mkb l] := by
  refine ⟨by simp, fun x hx => ?_⟩
  rw [List.mem_singleton.1 hx, mkb_size]; omega
theorem nil_wf : wfStrs [] := ⟨by simp, by simp⟩
theorem cutA_len (sep p : List UInt8) : (cutA sep p).length ≤ p.length := by unfold cutA; rw [List.length_take]; omega
theorem cutB_len (sep p : List UInt8) : (cutB sep p).length ≤ p.length := by unfold cutB; rw [List.length_drop]; omega
theorem mkb_le (l : List UInt8) (n : Nat) (h : l.length ≤ n) (hn : n ≤ 1048576) : (mkb l).size ≤ 9223372036854775807 := by rw [mkb_size]; omega
theorem readI_wf (p : List UInt8) (hp : p.length ≤ 1048576) : wfITerm (readI p) := by
  unfold readI
  repeat' split
  · exact ⟨mkb_le _ _ (cutA_len _ _) hp, one_wf _ (Nat.le_trans (cutB_len _ _) hp)⟩
  · exact ⟨mkb_le _ _ (cutA_len _ _) hp, one_wf _ (Nat.le_trans (cutB_len _ _) hp)⟩
  · refine ⟨mkb_le _ _ (cutA_len _ _) hp, spl_wf 32 _ p.length ?_ hp⟩
    have := cutB_len sIn p
    unfold Lib.trimSuffix
    split
    · rw [List.length_take]; omega
    · exact this
  · exact ⟨mkb_le _ p.length (by rw [List.length_drop]; omega) hp, nil_wf⟩
  · exact ⟨mkb_le _ _ (Nat.le_refl _) hp, nil_wf⟩
theorem wf_read (f : List UInt8 → ITerm) (hf : ∀ p, p.length ≤ 1048576 → wfITerm (f p)) {s : ByteArray} (hs : s.size ≤ 1048576) : wfITerms ((spl 44 s.data.toList).map f) := by
  refine ⟨by rw [List.length_map]; have := parts_len hs; omega, fun x hx => ?_⟩
  obtain ⟨p, hp, rfl⟩ := List.mem_map.1 hx
  exact hf p (part_len hs hp)
/-! ### whole -/
open Classical in
noncomputable def parseQ (s : ByteArray) : List ITerm × Bool := if s.data.toList = [] then ([], true) else if selTxt ((spl 44 s.data.toList).map readI) = s then ((spl 44 s.data.toList).map readI, true) else ([], false)
theorem implSel_l0 (s : ByteArray) (hs : s.size ≤ 1048576) (hne : s.data.toList ≠ []) : ∀ (d i : Nat), i + d = (spl 44 s.data.toList).length →
    Ev (fun k => impl_ParseSelector.l0 k s (((spl 44 s.data.toList).take i).map readI) ((spl 44 s.data.toList).map mkb) ((spl 44 s.data.toList).length : Int) i) (parseQ s)
  | 0, i, hd => by
    refine Ev.step (fun k => by rw [impl_ParseSelector.l0]) (ev_if_neg (by omega) ?_)
    rw [List.take_of_length_le (by omega)]
    refine Ev.bind (implSelectorText_ev _ (wf_read readI readI_wf hs)) ?_
    by_cases c : selTxt ((spl 44 s.data.toList).map readI) = s
    · refine ev_if_pos (tl_eq.2 c) (ev_some ?_)
      unfold parseQ
      rw [if_neg hne, if_pos c]
    · refine ev_if_neg (fun e => c (tl_eq.1 e)) (ev_some ?_)
      unfold parseQ
      rw [if_neg hne, if_neg c]
  | d + 1, i, hd => by
    have hi : i < (spl 44 s.data.toList).length := by omega
    have hl := parts_len hs
    have ih := implSel_l0 s hs hne d (i + 1) (by omega)
    rw [List.take_succ_eq_append_getElem hi, List.map_append] at ih
    refine Ev.step (fun k => by rw [impl_ParseSelector.l0]) (ev_if_pos (by omega) (ev_if_pos (by omega) (ev_if_pos (by rw [List.length_map]; omega) ?_)))
    rw [wsucc hi (by omega), rdS (by rw [List.length_map]; exact hi), List.getElem_map]
    have hp := part_len hs (List.getElem_mem hi)
    refine Ev.bind (ev_now (parseTerm_f _ hp)) (ev_if_pos (by rw [List.length_map, List.length_take]; omega) ?_)
    exact ih
theorem implSel_ev (s : ByteArray) (hs : s.size ≤ 1048576) : Ev (fun k => impl_ParseSelector.f k s) (parseQ s) := by
  unfold impl_ParseSelector.f
  refine Ev.bind (Ev.now _) ?_
  by_cases c : s.data.toList = []
  · refine ev_if_pos (tl_nil.2 c) (ev_some ?_)
    unfold parseQ
    rw [if_pos c]
  · refine ev_if_neg (fun e => c (tl_nil.1 e)) (Ev.bind (ev_now (split_f 44 s (by omega))) ?_)
    have := implSel_l0 s hs c _ 0 (Nat.zero_add _)
    rw [List.length_map]
    exact this
/-- What was written is read again. -/
theorem parseQ_text (xs : List ITerm) (h : selB xs = true) : parseQ (selTxt xs) = (xs, true) := by
  by_cases hx : xs = []
  · subst hx
    unfold parseQ
    rw [if_pos]
    unfold selTxt
    rw [if_pos h]; rfl
  · have hne := sel_some h hx
    have hr := (sel_read hne (ys := xs) (by rw [mkb_of])).1
    unfold parseQ
    rw [if_neg hne, hr, if_pos rfl]
end Go.Proofs.YtpjpnppoejnafaaDoor.G

/- G116 -/
-- Laid by wip/g/gprint.py out of the translation, by the kit's print program. Lean checks it.
namespace Go.Proofs.YtpjpnppoejnafaaDoor.G
open Go.RowKit Go.Proofs.YtpjpnppoejnafaaDoorW.PrintWords Go.Proofs.YtpjpnppoejnafaaDoorW.PrintLast Go.Proofs.YtpjpnppoejnafaaDoorW.PrintMore
attribute [local go_sem] max2_int min2_int max_two min_two max_three min_three max_four min_four   -- for this text's walks alone
set_option linter.unusedVariables false
set_option linter.unusedSimpArgs false

/-! ### slices_Index_string_string: function 116 -/
def slices_Index_string_string.l0 : Nat → List ByteArray → ByteArray → Int → Int → Option (Int)
 | 0, _, _, _, _ => none
 | k + 1, x0, x1, x7, x8 => if x8 < x7 then (if 0 ≤ x8 then (if x8 < (x0.length : Int) then (if x1.toList = (rdOf ByteArray.empty x0 x8).toList then (some x8) else (slices_Index_string_string.l0 k x0 x1 x7 (wrap64 (x8 + 1)))) else (none)) else (none)) else (some (-1))
def slices_Index_string_string.f (k : Nat) (l0 : List ByteArray) (a1 : ByteArray) : Option (Int) := slices_Index_string_string.l0 k l0 a1 (l0.length : Int) 0
set_option maxHeartbeats 8000000 in
set_option maxRecDepth 100000 in
theorem slices_Index_string_string.calls (k : Nat) (A0 : Option Addr) (c0 : Nat) (l0 : List ByteArray) (a1 : ByteArray) (r : Int) (w : World) (hr0 : Kd.C Kd.string w A0 l0.length l0) (hc0 : l0.length ≤ c0) (h : slices_Index_string_string.f k l0 a1 = some r) :
  Calls Tryd.prog 116 #[.slice A0 l0.length c0, .string a1] w fun e w' => e = .returned (.int .i64 r) ∧ Drawn0 w w' := by
 have HR0 := Aside0.mk hr0
 have HC0 := Aside0.mk hc0
 clear hr0 hc0
 unfold slices_Index_string_string.f at h; have H := h
 clear h
 have H' := Aside0.mk H
 clear H
 go_enter Tryd.func116, Tryd.ntmps116
 go_wp2
 go_loopg [8] k (fun kq v8 w' => ∃ (x8_1 : Int), v8 = .int .i64 x8_1 ∧ Aside0 (slices_Index_string_string.l0 kq l0 a1 (l0.length : Int) x8_1 = some r) ∧ Aside0 (kq ≤ k) ∧ Drawn0 w w')
 case atStart => exact ⟨(0), (by first | rfl | (simp; done) | (simp [*]; done)), H', ⟨Nat.le_refl _⟩, by repeat (first | exact Drawn0.refl _ | apply Drawn0.step)⟩
 case round =>
  clear H'
  try clear c1
  try clear p2
  obtain ⟨x8_1, rfl, HA, HK1, ⟨m1, rfl⟩⟩ := hrel
  cases gk with
  | zero => exact absurd HA.out (by simp [slices_Index_string_string.l0])
  | succ k1 =>
   have H := HA.out
   clear HA
   simp only [slices_Index_string_string.l0] at H
   by_cases c3 : x8_1 < (l0.length : Int)
   ·rw [if_pos c3] at H
    have c3b0 : decide (x8_1 < (l0.length : Int)) = true := decide_eq_true c3
    clear c3
    by_cases c4 : 0 ≤ x8_1
    ·rw [if_pos c4] at H
     have c4b0 : decide (0 ≤ x8_1) = true := decide_eq_true c4
     clear c4
     by_cases c5 : x8_1 < (l0.length : Int)
     ·rw [if_pos c5] at H
      have c5b0 : decide (x8_1 < (l0.length : Int)) = true := decide_eq_true c5
      clear c5
      by_cases c6 : a1.toList = (rdOf ByteArray.empty l0 x8_1).toList
      ·rw [if_pos c6] at H
       have c6b0 : (a1.toList == (rdOf ByteArray.empty l0 x8_1).toList) = true := beq_iff_eq.mpr c6
       have c6b1 : (a1.toList != (rdOf ByteArray.empty l0 x8_1).toList) = false := bne_eq_false_iff_eq.mpr c6
       clear c6
       obtain rfl := Option.some.inj H
       have p700 : 0 ≤ (x8_1 : Int) := of_decide_eq_true (by first | (with_reducible assumption) | assumption)
       have q700 : x8_1 < (l0.length : Int) := of_decide_eq_true (by first | (with_reducible assumption) | assumption)
       obtain ⟨ad700, e700, hx700_0⟩ := Kd.at_string HR0.out x8_1 p700 q700
       cases e700
       replace p700 := eq_true p700
       replace q700 := eq_true q700
       go_wp2
       go_ret
       exact ⟨by first | rfl | (simp; done) | (simp [*]; done), by repeat (first | exact Drawn0.refl _ | apply Drawn0.step)⟩
      ·rw [if_neg c6] at H
       have c6b0 : (a1.toList == (rdOf ByteArray.empty l0 x8_1).toList) = false := beq_eq_false_iff_ne.mpr c6
       have c6b1 : (a1.toList != (rdOf ByteArray.empty l0 x8_1).toList) = true := bne_iff_ne.mpr c6
       have H' := Aside0.mk H
       clear H
       have p700 : 0 ≤ (x8_1 : Int) := of_decide_eq_true (by first | (with_reducible assumption) | assumption)
       have q700 : x8_1 < (l0.length : Int) := of_decide_eq_true (by first | (with_reducible assumption) | assumption)
       obtain ⟨ad700, e700, hx700_0⟩ := Kd.at_string HR0.out x8_1 p700 q700
       cases e700
       replace p700 := eq_true p700
       replace q700 := eq_true q700
       go_wp2
       go_roundg k1
       case measure => have := HK1.out; omega
       case rel => exact ⟨(wrap64 (x8_1 + 1)), (by first | rfl | (simp; done) | (simp [*]; done)), H', ⟨by have := HK1.out; omega⟩, by repeat (first | exact Drawn0.refl _ | apply Drawn0.step)⟩
     ·rw [if_neg c5] at H
      exact absurd H (by simp)
    ·rw [if_neg c4] at H
     exact absurd H (by simp)
   ·rw [if_neg c3] at H
    have c3b0 : decide (x8_1 < (l0.length : Int)) = false := decide_eq_false c3
    clear c3
    obtain rfl := Option.some.inj H
    go_wp2
    go_ret
    exact ⟨by first | rfl | (simp; done) | (simp [*]; done), by repeat (first | exact Drawn0.refl _ | apply Drawn0.step)⟩

end Go.Proofs.YtpjpnppoejnafaaDoor.G

/- G103 -/
-- Laid by wip/g/gprint.py out of the translation, by the kit's print program. Lean checks it.
namespace Go.Proofs.YtpjpnppoejnafaaDoor.G
open Go.RowKit Go.Proofs.YtpjpnppoejnafaaDoorW.PrintWords Go.Proofs.YtpjpnppoejnafaaDoorW.PrintLast Go.Proofs.YtpjpnppoejnafaaDoorW.PrintMore
attribute [local go_sem] max2_int min2_int max_two min_two max_three min_three max_four min_four   -- for this text's walks alone
set_option linter.unusedVariables false
set_option linter.unusedSimpArgs false

/-! ### slices_Contains_string_string: function 103 -/
def slices_Contains_string_string.f (k : Nat) (l0 : List ByteArray) (a1 : ByteArray) : Option (Bool) := (slices_Index_string_string.f k l0 a1).bind fun t701 => (some (decide (t701 ≥ 0)))
set_option maxHeartbeats 8000000 in
set_option maxRecDepth 100000 in
theorem slices_Contains_string_string.calls (k : Nat) (A0 : Option Addr) (c0 : Nat) (l0 : List ByteArray) (a1 : ByteArray) (r : Bool) (w : World) (hr0 : Kd.C Kd.string w A0 l0.length l0) (hc0 : l0.length ≤ c0) (h : slices_Contains_string_string.f k l0 a1 = some r) :
    Calls Tryd.prog 103 #[.slice A0 l0.length c0, .string a1] w fun e w' => e = .returned (.bool r) ∧ Drawn0 w w' := by
  have HR0 := Aside0.mk hr0
  have HC0 := Aside0.mk hc0
  clear hr0 hc0
  have H : ((slices_Index_string_string.f k l0 a1).bind fun t701 => (some (decide (t701 ≥ 0)))) = some r := h
  clear h
  replace H := Option.bind_eq_some_iff.mp H
  obtain ⟨t701, A30, H⟩ := H
  replace H : (some (decide (t701 ≥ 0))) = some r := H
  have A3 := Aside0.mk A30
  clear A30
  obtain rfl := Option.some.inj H
  go_enter Tryd.func103, Tryd.ntmps103
  go_wp2_with (first | ((with_reducible refine gate_callee (f := 116) rfl ?_); refine goesL_ (some 7) rfl rfl Tryd.func116 (by kernel_rfl) rfl #[.slice A0 l0.length c0, .string a1] rfl (by (try simp only [List.map_toArray, List.map_cons, List.map_nil]); first | done | rfl | (simp only [List.length_drop, List.length_take]; rfl)) ?_; (with_reducible refine (slices_Index_string_string.calls k _ _ l0 a1 t701 _ ?side1 ?side2 A3.out).mono ?_); (case side1 => repeat (first | exact HR0.out | (with_reducible refine Kd.C_alloc ?_ _) | (with_reducible refine Kd.C_drewN ?_ _) | (with_reducible refine Kd.C_drew ?_))); (case side2 => exact HC0.out); rintro e w' ⟨rfl, ⟨nd, rfl⟩⟩; refine ⟨_, rfl, ?_⟩))
  go_ret
  exact ⟨by first | rfl | (simp; done) | (simp [*]; done), by repeat (first | exact Drawn0.refl _ | apply Drawn0.step)⟩

end Go.Proofs.YtpjpnppoejnafaaDoor.G

/- G75 -/
-- Laid by wip/g/gprint.py out of the translation, by the kit's print program. Lean checks it.
namespace Go.Proofs.YtpjpnppoejnafaaDoor.G
open Go.RowKit Go.Proofs.YtpjpnppoejnafaaDoorW.PrintWords Go.Proofs.YtpjpnppoejnafaaDoorW.PrintLast Go.Proofs.YtpjpnppoejnafaaDoorW.PrintMore
attribute [local go_sem] max2_int min2_int max_two min_two max_three min_three max_four min_four   -- for this text's walks alone
set_option linter.unusedVariables false
set_option linter.unusedSimpArgs false

/-! ### impl_holds: function 75 -/
mutual
def impl_holds.j0 : Nat → Bool → Bool → Int → ByteArray → List ByteArray → Option (Bool)
 | 0, _, _, _, _, _ => none
 | k + 1, x6, x7, x703000, x703001, x703002 => if x703000 = 1 then (impl_holds.j1 k x6 x7 x703000 (x703000 == 1)) else (impl_holds.j1 k x6 x7 x703000 (x703000 == 3))
def impl_holds.j1 : Nat → Bool → Bool → Int → Bool → Option (Bool)
 | 0, _, _, _, _ => none
 | k + 1, x6, x7, x23, x24 => if x24 = true then (some x7) else (if x23 = 2 then (some (!x7)) else (if x23 = 4 then (some x6) else (some (!x6))))
end
def impl_holds.f (k : Nat) (a0_0 : Int) (a0_1 : ByteArray) (l0_2 : List ByteArray) (l1 : List (S42)) : Option (Bool) := (impl_LabelGet.f k l1 a0_1).bind fun bt703 => (if bt703.2 = true then ((slices_Contains_string_string.f k l0_2 bt703.1).bind fun t705 => (impl_holds.j0 k bt703.2 t705 a0_0 a0_1 l0_2)) else (impl_holds.j0 k bt703.2 false a0_0 a0_1 l0_2))
set_option maxHeartbeats 8000000 in
set_option maxRecDepth 100000 in
theorem impl_holds.calls (k : Nat) (a0_0 : Int) (a0_1 : ByteArray) (A0_2 : Option Addr) (c0_2 : Nat) (l0_2 : List ByteArray) (A1 : Option Addr) (c1 : Nat) (l1 : List (S42)) (r : Bool) (w : World) (hr0_2 : Kd.C Kd.string w A0_2 l0_2.length l0_2) (hc0_2 : l0_2.length ≤ c0_2) (hr1 : Kd.C k42 w A1 l1.length l1) (hc1 : l1.length ≤ c1) (h : impl_holds.f k a0_0 a0_1 l0_2 l1 = some r) :
  Calls Tryd.prog 75 #[.agg #[.int .i64 a0_0, .string a0_1, .slice A0_2 l0_2.length c0_2], .slice A1 l1.length c1] w fun e w' => e = .returned (.bool r) ∧ Below w.heap.size w w' := by
 have hu59 := Tryd.underlying59
 have HR0_2 := Aside0.mk hr0_2
 have HC0_2 := Aside0.mk hc0_2
 clear hr0_2 hc0_2
 have HR1 := Aside0.mk hr1
 have HC1 := Aside0.mk hc1
 clear hr1 hc1
 have HB := Aside0.mk (Below.refl w.heap.size w)
 unfold impl_holds.f at h; have H := h
 clear h
 replace H := Option.bind_eq_some_iff.mp H
 obtain ⟨⟨t703, t704⟩, A30, H⟩ := H
 try dsimp only at H
 have A3 := Aside0.mk A30
 clear A30
 have HC4 := Aside0.mk H
 clear H
 go_enter Tryd.func75, Tryd.ntmps75
 go_upto_region 2 with (first | ((with_reducible refine gate_dst (N := 2) rfl ?_); refine box_event ?hg (N := 2) ?hd (cs := #[.int .i64 a0_0, .string a0_1, .slice A0_2 l0_2.length c0_2]) (t := 59) ?hr ?_; (case hd => rfl); (case hg => rfl); (case hr => go_simp); intro gb702 hg w5 hbox hb; have n0_ := Aside0.mk (below_step (qB HB) hb); have n1_ := Aside0.mk (hbox); have n2_ := Aside0.mk (qG HB hg); have n3_ := Aside0.mk (qG HB hg); clear HB; have HB := n0_; have BK702 := n1_; have GW702 := n2_; have GE702 := n3_; clear n0_ n1_ n2_ n3_; clear hb hbox hg; obtain ⟨hcz6_0, hcz6_1, hcz6_2, hfz6_0, hfz6_1, hfz6_2⟩ := blk3 BK702) | ((with_reducible refine gate_callee (f := 21) rfl ?_); refine goesL_ (some 12) rfl rfl Tryd.func21 (by kernel_rfl) rfl #[.slice A1 l1.length c1, .string a0_1] rfl (by (try simp only [List.map_toArray, List.map_cons, List.map_nil]); first | done | rfl | (simp only [List.length_drop, List.length_take]; rfl)) ?_; (with_reducible refine (impl_LabelGet.calls k _ _ l1 a0_1 t703 t704 _ (qC HR1 HB) HC1.out A3.out).mono ?_); rintro e w7 ⟨rfl, hb⟩; refine ⟨_, rfl, ?_⟩; have n0_ := Aside0.mk (blk_below (qK BK702) hb); have n1_ := Aside0.mk (below_step (qB HB) hb); clear BK702; clear HB; have BK702 := n0_; have HB := n1_; clear n0_ n1_; (try clear hb); (try clear hb2); (try clear hk); (try clear hi)))
 (try simp only [Act.put, List.setIfInBounds_toArray, List.set_cons_zero, List.set_cons_succ])
 go_cut [7] (fun v7 wc => ∃ (kq : Nat) (x7_3 : Bool), v7 = .bool x7_3 ∧ Aside0 (impl_holds.j0 kq t704 x7_3 a0_0 a0_1 l0_2 = some r) ∧ Aside0 (kq ≤ k) ∧ Aside0 (wc.heap[gb702]? = some (.cells #[.int .i64 a0_0, .string a0_1, (.slice A0_2 l0_2.length c0_2)] 59 (0, 0))) ∧ Aside0 (Below w.heap.size w wc))
 case first =>
  have H := HC4.out
  clear HC4
  by_cases c8 : t704 = true
  ·subst c8
   have H1 : ((slices_Contains_string_string.f k l0_2 t703).bind fun t705 => (impl_holds.j0 k true t705 a0_0 a0_1 l0_2)) = some r := by rw [if_pos rfl] at H; exact H
   clear H
   have H := H1
   clear H1
   replace H := Option.bind_eq_some_iff.mp H
   obtain ⟨t705, A90, H⟩ := H
   try dsimp only at H
   have A9 := Aside0.mk A90
   clear A90
   have H' := Aside0.mk H
   clear H
   obtain ⟨hcz10_0, hcz10_1, hcz10_2, hfz10_0, hfz10_1, hfz10_2⟩ := blk3 BK702
   go_wp2_with (first | (go_at_call 103; (with_reducible refine (slices_Contains_string_string.calls k _ _ l0_2 t703 t705 _ (qC HR0_2 HB) HC0_2.out A9.out).mono ?_); rintro e w' ⟨rfl, ⟨nd, rfl⟩⟩))
   go_meet
   case rel => exact ⟨_, (t705), (by first | rfl | (simp; done) | (simp [*]; done)), H', ⟨by first | omega | exact Nat.le_refl _⟩, ⟨qK BK702⟩, ⟨qB HB⟩⟩
  ·replace c8 := Bool.eq_false_iff.mpr c8
   subst c8
   have H1 : (impl_holds.j0 k false false a0_0 a0_1 l0_2) = some r := by rw [if_neg (show ¬ (false = true) by decide)] at H; exact H
   clear H
   have H := H1
   clear H1
   have H' := Aside0.mk H
   clear H
   go_wp2
   go_meet
   case rel => exact ⟨_, (false), (by first | rfl | (simp; done) | (simp [*]; done)), H', ⟨by first | omega | exact Nat.le_refl _⟩, ⟨qK BK702⟩, ⟨qB HB⟩⟩
 case rest =>
  clear HC4
  try clear c1
  try clear c2
  try clear p2
  try clear c7
  try clear c8
  try clear hcz10_0
  try clear hcz10_1
  try clear hcz10_2
  try clear hcz6_0
  try clear hcz6_1
  try clear hcz6_2
  try clear hfz10_0
  try clear hfz10_1
  try clear hfz10_2
  try clear hfz6_0
  try clear hfz6_1
  try clear hfz6_2
  obtain ⟨kq, x7_3, rfl, HA, HJ3, BK702, HB⟩ := hcut
  cases kq with
  | zero => exact absurd HA.out (by simp [impl_holds.j0])
  | succ kj3 =>
   have H := HA.out
   clear HA
   simp only [impl_holds.j0] at H
   have HC11 := Aside0.mk H
   clear H
   obtain ⟨hcz12_0, hcz12_1, hcz12_2, hfz12_0, hfz12_1, hfz12_2⟩ := blk3 BK702
   go_upto_if 24 with (fail)
   go_cut [24] (fun v24 wc => ∃ (kq : Nat) (x24_10 : Bool), v24 = .bool x24_10 ∧ Aside0 (impl_holds.j1 kq t704 x7_3 a0_0 x24_10 = some r) ∧ Aside0 (kq ≤ kj3) ∧ Aside0 (wc.heap[gb702]? = some (.cells #[.int .i64 a0_0, .string a0_1, (.slice A0_2 l0_2.length c0_2)] 59 (0, 0))) ∧ Aside0 (Below w.heap.size w wc))
   case first =>
    have H := HC11.out
    clear HC11
    by_cases c13 : a0_0 = 1
    ·rw [if_pos c13] at H
     have c13b0 : (a0_0 == 1) = true := beq_iff_eq.mpr c13
     have c13b1 : (a0_0 != 1) = false := bne_eq_false_iff_eq.mpr c13
     clear c13
     (first | rw [c13b0] | (simp only [i64_w, i32_w]; rw [c13b0]) | skip)
     have H' := Aside0.mk H
     clear H
     go_wp2
     go_meet
     case rel => exact ⟨_, ((a0_0 == 1)), (by first | rfl | (simp; done) | (simp [*]; done)), H', ⟨by have := HJ3.out; first | omega | exact Nat.le_refl _⟩, ⟨qK BK702⟩, ⟨qB HB⟩⟩
    ·rw [if_neg c13] at H
     have c13b0 : (a0_0 == 1) = false := beq_eq_false_iff_ne.mpr c13
     have c13b1 : (a0_0 != 1) = true := bne_iff_ne.mpr c13
     (first | rw [c13b0] | (simp only [i64_w, i32_w]; rw [c13b0]) | skip)
     have H' := Aside0.mk H
     clear H
     go_wp2
     go_meet
     case rel => exact ⟨_, ((a0_0 == 3)), (by first | rfl | (simp; done) | (simp [*]; done)), H', ⟨by have := HJ3.out; first | omega | exact Nat.le_refl _⟩, ⟨qK BK702⟩, ⟨qB HB⟩⟩
   case rest =>
    clear HC11
    try clear c1
    try clear c2
    try clear p2
    try clear c7
    try clear c8
    try clear c13
    try clear c13b0
    try clear c13b1
    try clear hcz10_0
    try clear hcz10_1
    try clear hcz10_2
    try clear hcz12_0
    try clear hcz12_1
    try clear hcz12_2
    try clear hcz6_0
    try clear hcz6_1
    try clear hcz6_2
    try clear hfz10_0
    try clear hfz10_1
    try clear hfz10_2
    try clear hfz12_0
    try clear hfz12_1
    try clear hfz12_2
    try clear hfz6_0
    try clear hfz6_1
    try clear hfz6_2
    try clear p2
    obtain ⟨kq, x24_10, rfl, HA, HJ10, BK702, HB⟩ := hcut
    cases kq with
    | zero => exact absurd HA.out (by simp [impl_holds.j1])
    | succ kj10 =>
     have H := HA.out
     clear HA
     simp only [impl_holds.j1] at H
     by_cases c14 : x24_10 = true
     ·subst c14
      have H1 : (some x7_3) = some r := by rw [if_pos rfl] at H; exact H
      clear H
      have H := H1
      clear H1
      obtain rfl := Option.some.inj H
      go_wp2
      go_ret
      exact ⟨by first | rfl | (simp [errW_none, errW_some] <;> rfl) | (simp [*, errW_none, errW_some] <;> rfl), by repeat (first | (with_reducible first | exact HB.out | apply below_alloc | apply pw_below_drewN | apply below_drew1 | refine below_set ?_ GE702.out) | exact HB.out)⟩
     ·replace c14 := Bool.eq_false_iff.mpr c14
      subst c14
      have H1 : (if a0_0 = 2 then (some (!x7_3)) else (if a0_0 = 4 then (some t704) else (some (!t704)))) = some r := by rw [if_neg (show ¬ (false = true) by decide)] at H; exact H
      clear H
      have H := H1
      clear H1
      by_cases c15 : a0_0 = 2
      ·rw [if_pos c15] at H
       have c15b0 : (a0_0 == 2) = true := beq_iff_eq.mpr c15
       have c15b1 : (a0_0 != 2) = false := bne_eq_false_iff_eq.mpr c15
       clear c15
       obtain rfl := Option.some.inj H
       go_wp2
       go_ret
       exact ⟨by first | rfl | (simp [errW_none, errW_some] <;> rfl) | (simp [*, errW_none, errW_some] <;> rfl), by repeat (first | (with_reducible first | exact HB.out | apply below_alloc | apply pw_below_drewN | apply below_drew1 | refine below_set ?_ GE702.out) | exact HB.out)⟩
      ·rw [if_neg c15] at H
       have c15b0 : (a0_0 == 2) = false := beq_eq_false_iff_ne.mpr c15
       have c15b1 : (a0_0 != 2) = true := bne_iff_ne.mpr c15
       by_cases c16 : a0_0 = 4
       ·rw [if_pos c16] at H
        have c16b0 : (a0_0 == 4) = true := beq_iff_eq.mpr c16
        have c16b1 : (a0_0 != 4) = false := bne_eq_false_iff_eq.mpr c16
        clear c16
        obtain rfl := Option.some.inj H
        go_wp2
        go_ret
        exact ⟨by first | rfl | (simp [errW_none, errW_some] <;> rfl) | (simp [*, errW_none, errW_some] <;> rfl), by repeat (first | (with_reducible first | exact HB.out | apply below_alloc | apply pw_below_drewN | apply below_drew1 | refine below_set ?_ GE702.out) | exact HB.out)⟩
       ·rw [if_neg c16] at H
        have c16b0 : (a0_0 == 4) = false := beq_eq_false_iff_ne.mpr c16
        have c16b1 : (a0_0 != 4) = true := bne_iff_ne.mpr c16
        obtain rfl := Option.some.inj H
        go_wp2
        go_ret
        exact ⟨by first | rfl | (simp [errW_none, errW_some] <;> rfl) | (simp [*, errW_none, errW_some] <;> rfl), by repeat (first | (with_reducible first | exact HB.out | apply below_alloc | apply pw_below_drewN | apply below_drew1 | refine below_set ?_ GE702.out) | exact HB.out)⟩

end Go.Proofs.YtpjpnppoejnafaaDoor.G

/- G74 -/
-- Laid by wip/g/gprint.py out of the translation, by the kit's print program. Lean checks it.
namespace Go.Proofs.YtpjpnppoejnafaaDoor.G
open Go.RowKit Go.Proofs.YtpjpnppoejnafaaDoorW.PrintWords Go.Proofs.YtpjpnppoejnafaaDoorW.PrintLast Go.Proofs.YtpjpnppoejnafaaDoorW.PrintMore
attribute [local go_sem] max2_int min2_int max_two min_two max_three min_three max_four min_four   -- for this text's walks alone
set_option linter.unusedVariables false
set_option linter.unusedSimpArgs false

/-! ### impl_Matches_1: function 74 -/
theorem impl_Matches_1.calls (k : Nat) (x : S59) (A2 : Option Addr) (c2 : Nat) (A : Option Addr) (c : Nat) (ls : List S42) (g : Nat) (b : Bool) (W : World) (h2 : Kd.C Kd.string W A2 x.f2.length x.f2) (hc2 : x.f2.length ≤ c2)
    (hb : W.heap[g]? = some (.cells #[.slice A ls.length c] 22 (0, 0))) (hl : Kd.C k42 W A ls.length ls) (hc : ls.length ≤ c) (h : impl_holds.f k x.f0 x.f1 x.f2 ls = some b) :
    Calls Tryd.prog 74 #[.agg #[.int .i64 x.f0, .string x.f1, .slice A2 x.f2.length c2], .pointer (some ⟨g, 0, none⟩)] W fun e w' => e = .returned (.bool (!b)) ∧ Below W.heap.size W w' := by
  have hlt := blk_lt hb
  have hcell := blk_cell hb 0
  simp only [List.getElem?_toArray, List.getElem?_cons_zero] at hcell
  have HB := Lib.hid (below_alloc (Below.refl W.heap.size W) (.cells #[.int .i64 x.f0, .string x.f1, .slice A2 x.f2.length c2] 59))
  have H2 := Lib.hid (Kd.C_below h2 HB.out)
  have HL := Lib.hid (Kd.C_below hl HB.out)
  have HH := Lib.hid h
  clear hb h2 hl h
  go_enter Tryd.func74, Tryd.ntmps74
  go_wp2_with fail
  refine (impl_holds.calls k x.f0 x.f1 A2 c2 x.f2 A c ls b _ H2.out hc2 HL.out hc HH.out).mono ?_
  rintro e w2 ⟨rfl, hb2⟩
  have HB2 := Lib.hid (below_then HB.out HB.out.size hb2)
  clear hb2
  go_wp2
  go_ret
  exact ⟨rfl, HB2.out⟩

end Go.Proofs.YtpjpnppoejnafaaDoor.G

/- G33 -/
-- Laid by wip/g/gprint.py out of the translation, by the kit's print program. Lean checks it.
namespace Go.Proofs.YtpjpnppoejnafaaDoor.G
open Go.RowKit Go.Proofs.YtpjpnppoejnafaaDoorW.PrintWords Go.Proofs.YtpjpnppoejnafaaDoorW.PrintLast Go.Proofs.YtpjpnppoejnafaaDoorW.PrintMore
attribute [local go_sem] max2_int min2_int max_two min_two max_three min_three max_four min_four   -- for this text's walks alone
set_option linter.unusedVariables false
set_option linter.unusedSimpArgs false

/-! ### impl_Matches: function 33 -/
def impl_Matches.f (k : Nat) (l0 : List S59) (l1 : List S42) : Option Bool :=
 (impl_SelectorOk.f k l0).bind fun a => if a = true then (impl_LabelsOk.f k l1).bind fun b => if b = true then (idxO (fun x => (impl_holds.f k x.f0 x.f1 x.f2 l1).map (!·)) l0 0).bind fun i => some (!decide (0 ≤ i)) else some false else some false
theorem impl_Matches.calls (k : Nat) (A0 : Option Addr) (c0 : Nat) (l0 : List (S59)) (A1 : Option Addr) (c1 : Nat) (l1 : List (S42)) (r : Bool) (w : World) (hr0 : Kd.C k59 w A0 l0.length l0) (hc0 : l0.length ≤ c0) (hr1 : Kd.C k42 w A1 l1.length l1) (hc1 : l1.length ≤ c1) (h : impl_Matches.f k l0 l1 = some r) :
  Calls Tryd.prog 33 #[.slice A0 l0.length c0, .slice A1 l1.length c1] w fun e w' => e = .returned (.bool r) ∧ Below w.heap.size w w' := by
 unfold impl_Matches.f at h
 obtain ⟨a, ha, h⟩ := bind_some' h
 have HB := Lib.hid (below_alloc (Below.refl w.heap.size w) (.cells #[.slice A1 l1.length c1] 22))
 have HK : Hid ((w.alloc (.cells #[.slice A1 l1.length c1] 22)).heap[w.heap.size]? = some (.cells #[.slice A1 l1.length c1] 22 (0, 0))) := by exact heap_alloc_new _ _
 have HR0 := Lib.hid (Kd.C_below hr0 HB.out)
 have HR1 := Lib.hid (Kd.C_below hr1 HB.out)
 have HA := Lib.hid ha
 clear hr0 hr1 ha
 cases a with
 | false =>
  cases h
  go_enter Tryd.func33, Tryd.ntmps33
  go_wp2_with fail
  refine (impl_SelectorOk.calls k A0 c0 l0 false _ HR0.out hc0 HA.out).mono ?_
  rintro e w2 ⟨rfl, hb2⟩
  have HB2 := Lib.hid (below_then HB.out HB.out.size hb2)
  clear hb2
  go_wp2
  go_ret
  exact ⟨rfl, HB2.out⟩
 | true =>
  rw [if_pos rfl] at h
  obtain ⟨b, hb, h⟩ := bind_some' h
  have HBB := Lib.hid hb
  clear hb
  cases b with
  | false =>
   cases h
   go_enter Tryd.func33, Tryd.ntmps33
   go_wp2_with fail
   refine (impl_SelectorOk.calls k A0 c0 l0 true _ HR0.out hc0 HA.out).mono ?_
   rintro e w2 ⟨rfl, hb2⟩
   have hK2 := blk_cell ((hb2.block w.heap.size (blk_lt HK.out)).trans HK.out) 0
   simp only [List.getElem?_toArray, List.getElem?_cons_zero] at hK2
   have HB2 := Lib.hid (below_then HB.out HB.out.size hb2)
   have HC1 := Lib.hid (Kd.C_below HR1.out hb2)
   clear hb2
   go_wp2_with fail
   refine (impl_LabelsOk.calls k A1 c1 l1 false _ HC1.out hc1 HBB.out).mono ?_
   rintro e w3 ⟨rfl, hb3⟩
   have HB3 := Lib.hid (below_then HB2.out HB2.out.size hb3)
   clear hb3
   go_wp2
   go_ret
   exact ⟨rfl, HB3.out⟩
  | true =>
   rw [if_pos rfl] at h
   obtain ⟨i, hi, h⟩ := bind_some' h
   cases h
   have HI := Lib.hid hi
   clear hi
   go_enter Tryd.func33, Tryd.ntmps33
   go_wp2_with fail
   refine (impl_SelectorOk.calls k A0 c0 l0 true _ HR0.out hc0 HA.out).mono ?_
   rintro e w2 ⟨rfl, hb2⟩
   have hK2 := blk_cell ((hb2.block w.heap.size (blk_lt HK.out)).trans HK.out) 0
   simp only [List.getElem?_toArray, List.getElem?_cons_zero] at hK2
   have HB2 := Lib.hid (below_then HB.out HB.out.size hb2)
   have HK2 := Lib.hid ((hb2.block w.heap.size (blk_lt HK.out)).trans HK.out)
   have HC0 := Lib.hid (Kd.C_below HR0.out hb2)
   have HC1 := Lib.hid (Kd.C_below HR1.out hb2)
   clear hb2
   go_wp2_with fail
   refine (impl_LabelsOk.calls k A1 c1 l1 true _ HC1.out hc1 HBB.out).mono ?_
   rintro e w3 ⟨rfl, hb3⟩
   have HB3 := Lib.hid (below_then HB2.out HB2.out.size hb3)
   have HK3 := Lib.hid ((hb3.block w.heap.size (blk_lt HK2.out)).trans HK2.out)
   have HD0 := Lib.hid (Kd.C_below HC0.out hb3)
   have HD1 := Lib.hid (Kd.C_below HC1.out hb3)
   clear hb3 hK2
   go_wp2_with fail
   refine (slices_ContainsFunc_simpl_Term_impl_Term.calls k59 rfl _ (fun _ _ => by kernel_rfl) _ (fun x => (impl_holds.f k x.f0 x.f1 x.f2 l1).map (!·)) A0 c0 l0 i _ HD0.out hc0 ?_ HI.out).mono ?_
   ·intro x cs b W hx hp hk hb
    obtain ⟨A2, c2, rfl, hl2, hC2⟩ := k59_open hk
    obtain ⟨b', hb', rfl⟩ := Option.map_eq_some_iff.1 hp
    exact impl_Matches_1.calls k x A2 c2 A1 c1 l1 w.heap.size b' W hC2 hl2 ((hb.block w.heap.size (blk_lt HK3.out)).trans HK3.out) (Kd.C_below HD1.out hb) hc1 hb'
   ·rintro e w4 ⟨rfl, hb4⟩
    have HB4 := Lib.hid (below_then HB3.out HB3.out.size hb4)
    clear hb4
    go_wp2
    go_ret
    exact ⟨rfl, HB4.out⟩

end Go.Proofs.YtpjpnppoejnafaaDoor.G

/- G115 -/
-- Laid by wip/g/gprint.py out of the translation, by the kit's print program. Lean checks it.
namespace Go.Proofs.YtpjpnppoejnafaaDoor.G
open Go.RowKit Go.Proofs.YtpjpnppoejnafaaDoorW.PrintWords Go.Proofs.YtpjpnppoejnafaaDoorW.PrintLast Go.Proofs.YtpjpnppoejnafaaDoorW.PrintMore
attribute [local go_sem] max2_int min2_int max_two min_two max_three min_three max_four min_four   -- for this text's walks alone
set_option linter.unusedVariables false
set_option linter.unusedSimpArgs false

/-! ### spec_l2Among: function 115 -/
def spec_l2Among.l0 : Nat → List ByteArray → ByteArray → Int → Option (Bool)
 | 0, _, _, _ => none
 | k + 1, x0, x1, x5 => if x5 < (x0.length : Int) then (if 0 ≤ x5 then (if (rdOf ByteArray.empty x0 x5).toList = x1.toList then (some true) else (spec_l2Among.l0 k x0 x1 (wrap64 (x5 + 1)))) else (none)) else (some false)
def spec_l2Among.f (k : Nat) (l0 : List ByteArray) (a1 : ByteArray) : Option (Bool) := spec_l2Among.l0 k l0 a1 0
set_option maxHeartbeats 8000000 in
set_option maxRecDepth 100000 in
theorem spec_l2Among.calls (k : Nat) (A0 : Option Addr) (c0 : Nat) (l0 : List ByteArray) (a1 : ByteArray) (r : Bool) (w : World) (hr0 : Kd.C Kd.string w A0 l0.length l0) (hc0 : l0.length ≤ c0) (h : spec_l2Among.f k l0 a1 = some r) :
  Calls Tryd.prog 115 #[.slice A0 l0.length c0, .string a1] w fun e w' => e = .returned (.bool r) ∧ Drawn0 w w' := by
 have HR0 := Aside0.mk hr0
 have HC0 := Aside0.mk hc0
 clear hr0 hc0
 unfold spec_l2Among.f at h; have H := h
 clear h
 have H' := Aside0.mk H
 clear H
 go_enter Tryd.func115, Tryd.ntmps115
 go_wp2
 go_loopg [5] k (fun kq v5 w' => ∃ (x5_1 : Int), v5 = .int .i64 x5_1 ∧ Aside0 (spec_l2Among.l0 kq l0 a1 x5_1 = some r) ∧ Aside0 (kq ≤ k) ∧ Drawn0 w w')
 case atStart => exact ⟨(0), (by first | rfl | (simp; done) | (simp [*]; done)), H', ⟨Nat.le_refl _⟩, by repeat (first | exact Drawn0.refl _ | apply Drawn0.step)⟩
 case round =>
  clear H'
  try clear c1
  try clear p2
  obtain ⟨x5_1, rfl, HA, HK1, ⟨m1, rfl⟩⟩ := hrel
  cases gk with
  | zero => exact absurd HA.out (by simp [spec_l2Among.l0])
  | succ k1 =>
   have H := HA.out
   clear HA
   simp only [spec_l2Among.l0] at H
   by_cases c3 : x5_1 < (l0.length : Int)
   ·rw [if_pos c3] at H
    have c3b0 : decide (x5_1 < (l0.length : Int)) = true := decide_eq_true c3
    clear c3
    by_cases c4 : 0 ≤ x5_1
    ·rw [if_pos c4] at H
     have c4b0 : decide (0 ≤ x5_1) = true := decide_eq_true c4
     clear c4
     by_cases c5 : (rdOf ByteArray.empty l0 x5_1).toList = a1.toList
     ·rw [if_pos c5] at H
      have c5b0 : ((rdOf ByteArray.empty l0 x5_1).toList == a1.toList) = true := beq_iff_eq.mpr c5
      have c5b1 : ((rdOf ByteArray.empty l0 x5_1).toList != a1.toList) = false := bne_eq_false_iff_eq.mpr c5
      clear c5
      obtain rfl := Option.some.inj H
      have p706 : 0 ≤ (x5_1 : Int) := of_decide_eq_true (by first | (with_reducible assumption) | assumption)
      have q706 : x5_1 < (l0.length : Int) := of_decide_eq_true (by first | (with_reducible assumption) | assumption)
      obtain ⟨ad706, e706, hx706_0⟩ := Kd.at_string HR0.out x5_1 p706 q706
      cases e706
      replace p706 := eq_true p706
      replace q706 := eq_true q706
      go_wp2
      go_ret
      exact ⟨by first | rfl | (simp; done) | (simp [*]; done), by repeat (first | exact Drawn0.refl _ | apply Drawn0.step)⟩
     ·rw [if_neg c5] at H
      have c5b0 : ((rdOf ByteArray.empty l0 x5_1).toList == a1.toList) = false := beq_eq_false_iff_ne.mpr c5
      have c5b1 : ((rdOf ByteArray.empty l0 x5_1).toList != a1.toList) = true := bne_iff_ne.mpr c5
      have H' := Aside0.mk H
      clear H
      have p706 : 0 ≤ (x5_1 : Int) := of_decide_eq_true (by first | (with_reducible assumption) | assumption)
      have q706 : x5_1 < (l0.length : Int) := of_decide_eq_true (by first | (with_reducible assumption) | assumption)
      obtain ⟨ad706, e706, hx706_0⟩ := Kd.at_string HR0.out x5_1 p706 q706
      cases e706
      replace p706 := eq_true p706
      replace q706 := eq_true q706
      go_wp2
      go_roundg k1
      case measure => have := HK1.out; omega
      case rel => exact ⟨(wrap64 (x5_1 + 1)), (by first | rfl | (simp; done) | (simp [*]; done)), H', ⟨by have := HK1.out; omega⟩, by repeat (first | exact Drawn0.refl _ | apply Drawn0.step)⟩
    ·rw [if_neg c4] at H
     exact absurd H (by simp)
   ·rw [if_neg c3] at H
    have c3b0 : decide (x5_1 < (l0.length : Int)) = false := decide_eq_false c3
    clear c3
    obtain rfl := Option.some.inj H
    go_wp2
    go_ret
    exact ⟨by first | rfl | (simp; done) | (simp [*]; done), by repeat (first | exact Drawn0.refl _ | apply Drawn0.step)⟩

end Go.Proofs.YtpjpnppoejnafaaDoor.G

/- G102 -/
-- Laid by wip/g/gprint.py out of the translation, by the kit's print program. Lean checks it.
namespace Go.Proofs.YtpjpnppoejnafaaDoor.G
open Go.RowKit Go.Proofs.YtpjpnppoejnafaaDoorW.PrintWords Go.Proofs.YtpjpnppoejnafaaDoorW.PrintLast Go.Proofs.YtpjpnppoejnafaaDoorW.PrintMore
attribute [local go_sem] max2_int min2_int max_two min_two max_three min_three max_four min_four   -- for this text's walks alone
set_option linter.unusedVariables false
set_option linter.unusedSimpArgs false

/-! ### spec_l2Holds: function 102 -/
def spec_l2Holds.j0 : Nat → ByteArray → Bool → Int → Bool → Int → ByteArray → List ByteArray → Option (Bool)
 | 0, _, _, _, _, _, _, _ => none
 | k + 1, x1, x2, x8, x9, x708000, x708001, x708002 => if x9 = true then (if x2 = true then ((spec_l2Among.f k x708002 x1).bind fun t708 => (some t708)) else (some false)) else (if x8 = 2 then (if x2 = true then ((spec_l2Among.f k x708002 x1).bind fun t709 => (some (!t709))) else (some true)) else (if x8 = 4 then (some x2) else (some (!x2))))
def spec_l2Holds.f (k : Nat) (a0_0 : Int) (a0_1 : ByteArray) (l0_2 : List ByteArray) (a1 : ByteArray) (a2 : Bool) : Option (Bool) := if a0_0 = 1 then (spec_l2Holds.j0 k a1 a2 a0_0 (a0_0 == 1) a0_0 a0_1 l0_2) else (spec_l2Holds.j0 k a1 a2 a0_0 (a0_0 == 3) a0_0 a0_1 l0_2)
set_option maxHeartbeats 8000000 in
set_option maxRecDepth 100000 in
theorem spec_l2Holds.calls (k : Nat) (a0_0 : Int) (a0_1 : ByteArray) (A0_2 : Option Addr) (c0_2 : Nat) (l0_2 : List ByteArray) (a1 : ByteArray) (a2 : Bool) (r : Bool) (w : World) (hr0_2 : Kd.C Kd.string w A0_2 l0_2.length l0_2) (hc0_2 : l0_2.length ≤ c0_2) (h : spec_l2Holds.f k a0_0 a0_1 l0_2 a1 a2 = some r) :
  Calls Tryd.prog 102 #[.agg #[.int .i64 a0_0, .string a0_1, .slice A0_2 l0_2.length c0_2], .string a1, .bool a2] w fun e w' => e = .returned (.bool r) ∧ Below w.heap.size w w' := by
 have hu59 := Tryd.underlying59
 have HR0_2 := Aside0.mk hr0_2
 have HC0_2 := Aside0.mk hc0_2
 clear hr0_2 hc0_2
 have HB := Aside0.mk (Below.refl w.heap.size w)
 unfold spec_l2Holds.f at h; have H := h
 clear h
 have HC4 := Aside0.mk H
 clear H
 go_enter Tryd.func102, Tryd.ntmps102
 go_upto_if 9 with (first | ((with_reducible refine gate_dst (N := 3) rfl ?_); refine box_event ?hg (N := 3) ?hd (cs := #[.int .i64 a0_0, .string a0_1, .slice A0_2 l0_2.length c0_2]) (t := 59) ?hr ?_; (case hd => rfl); (case hg => rfl); (case hr => go_simp); intro gb707 hg w5 hbox hb; have n0_ := Aside0.mk (below_step (qB HB) hb); have n1_ := Aside0.mk (hbox); have n2_ := Aside0.mk (qG HB hg); have n3_ := Aside0.mk (qG HB hg); clear HB; have HB := n0_; have BK707 := n1_; have GW707 := n2_; have GE707 := n3_; clear n0_ n1_ n2_ n3_; clear hb hbox hg; obtain ⟨hcz6_0, hcz6_1, hcz6_2, hfz6_0, hfz6_1, hfz6_2⟩ := blk3 BK707))
 (try simp only [Act.put, List.setIfInBounds_toArray, List.set_cons_zero, List.set_cons_succ])
 go_cut [9] (fun v9 wc => ∃ (kq : Nat) (x9_3 : Bool), v9 = .bool x9_3 ∧ Aside0 (spec_l2Holds.j0 kq a1 a2 a0_0 x9_3 a0_0 a0_1 l0_2 = some r) ∧ Aside0 (kq ≤ k) ∧ Aside0 (wc.heap[gb707]? = some (.cells #[.int .i64 a0_0, .string a0_1, (.slice A0_2 l0_2.length c0_2)] 59 (0, 0))) ∧ Aside0 (Below w.heap.size w wc))
 case first =>
  have H := HC4.out
  clear HC4
  by_cases c7 : a0_0 = 1
  ·rw [if_pos c7] at H
   have c7b0 : (a0_0 == 1) = true := beq_iff_eq.mpr c7
   have c7b1 : (a0_0 != 1) = false := bne_eq_false_iff_eq.mpr c7
   clear c7
   (first | rw [c7b0] | (simp only [i64_w, i32_w]; rw [c7b0]) | skip)
   have H' := Aside0.mk H
   clear H
   go_wp2
   go_meet
   case rel => exact ⟨_, ((a0_0 == 1)), (by first | rfl | (simp; done) | (simp [*]; done)), H', ⟨by first | omega | exact Nat.le_refl _⟩, ⟨qK BK707⟩, ⟨qB HB⟩⟩
  ·rw [if_neg c7] at H
   have c7b0 : (a0_0 == 1) = false := beq_eq_false_iff_ne.mpr c7
   have c7b1 : (a0_0 != 1) = true := bne_iff_ne.mpr c7
   (first | rw [c7b0] | (simp only [i64_w, i32_w]; rw [c7b0]) | skip)
   have H' := Aside0.mk H
   clear H
   go_wp2
   go_meet
   case rel => exact ⟨_, ((a0_0 == 3)), (by first | rfl | (simp; done) | (simp [*]; done)), H', ⟨by first | omega | exact Nat.le_refl _⟩, ⟨qK BK707⟩, ⟨qB HB⟩⟩
 case rest =>
  clear HC4
  try clear c1
  try clear p2
  try clear c7
  try clear c7b0
  try clear c7b1
  try clear hcz6_0
  try clear hcz6_1
  try clear hcz6_2
  try clear hfz6_0
  try clear hfz6_1
  try clear hfz6_2
  obtain ⟨kq, x9_3, rfl, HA, HJ3, BK707, HB⟩ := hcut
  cases kq with
  | zero => exact absurd HA.out (by simp [spec_l2Holds.j0])
  | succ kj3 =>
   have H := HA.out
   clear HA
   simp only [spec_l2Holds.j0] at H
   by_cases c8 : x9_3 = true
   ·subst c8
    have H1 : (if a2 = true then ((spec_l2Among.f kj3 l0_2 a1).bind fun t708 => (some t708)) else (some false)) = some r := by rw [if_pos rfl] at H; exact H
    clear H
    have H := H1
    clear H1
    by_cases c9 : a2 = true
    ·subst c9
     have H1 : ((spec_l2Among.f kj3 l0_2 a1).bind fun t708 => (some t708)) = some r := by rw [if_pos rfl] at H; exact H
     clear H
     have H := H1
     clear H1
     replace H := Option.bind_eq_some_iff.mp H
     obtain ⟨t708, A100, H⟩ := H
     try dsimp only at H
     have A10 := Aside0.mk A100
     clear A100
     obtain rfl := Option.some.inj H
     obtain ⟨hcz11_0, hcz11_1, hcz11_2, hfz11_0, hfz11_1, hfz11_2⟩ := blk3 BK707
     go_wp2_with (first | (go_at_call 115; (with_reducible refine (spec_l2Among.calls kj3 _ _ l0_2 a1 t708 _ (qC HR0_2 HB) HC0_2.out A10.out).mono ?_); rintro e w' ⟨rfl, ⟨nd, rfl⟩⟩))
     go_ret
     exact ⟨by first | rfl | (simp [errW_none, errW_some] <;> rfl) | (simp [*, errW_none, errW_some] <;> rfl), by repeat (first | (with_reducible first | exact HB.out | apply below_alloc | apply pw_below_drewN | apply below_drew1 | refine below_set ?_ GE707.out) | exact HB.out)⟩
    ·replace c9 := Bool.eq_false_iff.mpr c9
     subst c9
     have H1 : (some false) = some r := by rw [if_neg (show ¬ (false = true) by decide)] at H; exact H
     clear H
     have H := H1
     clear H1
     obtain rfl := Option.some.inj H
     go_wp2
     go_ret
     exact ⟨by first | rfl | (simp [errW_none, errW_some] <;> rfl) | (simp [*, errW_none, errW_some] <;> rfl), by repeat (first | (with_reducible first | exact HB.out | apply below_alloc | apply pw_below_drewN | apply below_drew1 | refine below_set ?_ GE707.out) | exact HB.out)⟩
   ·replace c8 := Bool.eq_false_iff.mpr c8
    subst c8
    have H1 : (if a0_0 = 2 then (if a2 = true then ((spec_l2Among.f kj3 l0_2 a1).bind fun t709 => (some (!t709))) else (some true)) else (if a0_0 = 4 then (some a2) else (some (!a2)))) = some r := by rw [if_neg (show ¬ (false = true) by decide)] at H; exact H
    clear H
    have H := H1
    clear H1
    by_cases c12 : a0_0 = 2
    ·rw [if_pos c12] at H
     have c12b0 : (a0_0 == 2) = true := beq_iff_eq.mpr c12
     have c12b1 : (a0_0 != 2) = false := bne_eq_false_iff_eq.mpr c12
     clear c12
     by_cases c13 : a2 = true
     ·subst c13
      have H1 : ((spec_l2Among.f kj3 l0_2 a1).bind fun t709 => (some (!t709))) = some r := by rw [if_pos rfl] at H; exact H
      clear H
      have H := H1
      clear H1
      replace H := Option.bind_eq_some_iff.mp H
      obtain ⟨t709, A140, H⟩ := H
      try dsimp only at H
      have A14 := Aside0.mk A140
      clear A140
      obtain rfl := Option.some.inj H
      obtain ⟨hcz15_0, hcz15_1, hcz15_2, hfz15_0, hfz15_1, hfz15_2⟩ := blk3 BK707
      go_wp2_with (first | (go_at_call 115; (with_reducible refine (spec_l2Among.calls kj3 _ _ l0_2 a1 t709 _ (qC HR0_2 HB) HC0_2.out A14.out).mono ?_); rintro e w' ⟨rfl, ⟨nd, rfl⟩⟩))
      go_ret
      exact ⟨by first | rfl | (simp [errW_none, errW_some] <;> rfl) | (simp [*, errW_none, errW_some] <;> rfl), by repeat (first | (with_reducible first | exact HB.out | apply below_alloc | apply pw_below_drewN | apply below_drew1 | refine below_set ?_ GE707.out) | exact HB.out)⟩
     ·replace c13 := Bool.eq_false_iff.mpr c13
      subst c13
      have H1 : (some true) = some r := by rw [if_neg (show ¬ (false = true) by decide)] at H; exact H
      clear H
      have H := H1
      clear H1
      obtain rfl := Option.some.inj H
      go_wp2
      go_ret
      exact ⟨by first | rfl | (simp [errW_none, errW_some] <;> rfl) | (simp [*, errW_none, errW_some] <;> rfl), by repeat (first | (with_reducible first | exact HB.out | apply below_alloc | apply pw_below_drewN | apply below_drew1 | refine below_set ?_ GE707.out) | exact HB.out)⟩
    ·rw [if_neg c12] at H
     have c12b0 : (a0_0 == 2) = false := beq_eq_false_iff_ne.mpr c12
     have c12b1 : (a0_0 != 2) = true := bne_iff_ne.mpr c12
     by_cases c16 : a0_0 = 4
     ·rw [if_pos c16] at H
      have c16b0 : (a0_0 == 4) = true := beq_iff_eq.mpr c16
      have c16b1 : (a0_0 != 4) = false := bne_eq_false_iff_eq.mpr c16
      clear c16
      obtain rfl := Option.some.inj H
      go_wp2
      go_ret
      exact ⟨by first | rfl | (simp [errW_none, errW_some] <;> rfl) | (simp [*, errW_none, errW_some] <;> rfl), by repeat (first | (with_reducible first | exact HB.out | apply below_alloc | apply pw_below_drewN | apply below_drew1 | refine below_set ?_ GE707.out) | exact HB.out)⟩
     ·rw [if_neg c16] at H
      have c16b0 : (a0_0 == 4) = false := beq_eq_false_iff_ne.mpr c16
      have c16b1 : (a0_0 != 4) = true := bne_iff_ne.mpr c16
      obtain rfl := Option.some.inj H
      go_wp2
      go_ret
      exact ⟨by first | rfl | (simp [errW_none, errW_some] <;> rfl) | (simp [*, errW_none, errW_some] <;> rfl), by repeat (first | (with_reducible first | exact HB.out | apply below_alloc | apply pw_below_drewN | apply below_drew1 | refine below_set ?_ GE707.out) | exact HB.out)⟩

end Go.Proofs.YtpjpnppoejnafaaDoor.G

/- PMatchB -/
/-
  Matching: a term holds of labels; the law of Matches.
-/
namespace Go.Proofs.YtpjpnppoejnafaaDoor.G
open Go.RowKit Go.Proofs.YtpjpnppoejnafaaDoorW.PrintWords Go.Proofs.YtpjpnppoejnafaaDoorW.PrintLast Go.Proofs.YtpjpnppoejnafaaDoorW.PrintMore
set_option linter.unusedVariables false
set_option linter.unusedSimpArgs false
def amongB (xs : List ByteArray) (v : ByteArray) : Bool := !allN xs.length (fun i => !decide ((rdOf ByteArray.empty xs i).toList = v.toList))
theorem l2Among_ev (xs : List ByteArray) (v : ByteArray) (h : xs.length ≤ 9223372036854775807) : Ev (fun k => spec_l2Among.f k xs v) (amongB xs v) := by
  unfold spec_l2Among.f amongB
  refine loop_any (g := fun k i => spec_l2Among.l0 k xs v i) xs.length (fun i => decide ((rdOf ByteArray.empty xs i).toList = v.toList)) ?_ ?_ ?_
  · intro i hi hok r hr
    refine Ev.step (fun k => by rw [spec_l2Among.l0]) ?_
    simp only [wsucc hi h]
    exact ev_if_pos (by omega) (ev_if_pos (by omega) (ev_if_neg (of_decide_eq_false hok) hr))
  · intro i hi hok
    exact Ev.step (fun k => by rw [spec_l2Among.l0]) (ev_if_pos (by omega) (ev_if_pos (by omega) (ev_if_pos (of_decide_eq_true hok) (Ev.now _))))
  · exact Ev.step (fun k => by rw [spec_l2Among.l0]) (ev_if_neg (by omega) (Ev.now _))
theorem containsStr_ev (xs : List ByteArray) (v : ByteArray) (h : xs.length ≤ 9223372036854775807) : Ev (fun k => slices_Contains_string_string.f k xs v) (amongB xs v) := by
  unfold slices_Contains_string_string.f slices_Index_string_string.f
  have key := loop_find (g := fun k i => slices_Index_string_string.l0 k xs v xs.length i) xs.length (fun i : Nat => decide ((rdOf ByteArray.empty xs i).toList = v.toList)) (fun i => (i : Int)) (-1) ?_ ?_ ?_
  · refine Ev.bind key (ev_some ?_)
    unfold amongB allN
    cases hf : (List.range xs.length).find? (fun i : Nat => decide ((rdOf ByteArray.empty xs i).toList = v.toList)) with
    | none =>
      rw [List.find?_eq_none] at hf
      have : (List.range xs.length).all (fun i : Nat => !decide ((rdOf ByteArray.empty xs i).toList = v.toList)) = true := by
        rw [List.all_eq_true]; intro i hi; have := hf i hi; simpa using this
      rw [this]; rfl
    | some i =>
      have h1 := List.find?_some hf
      have h2 := List.mem_of_find?_eq_some hf
      have : (List.range xs.length).all (fun i : Nat => !decide ((rdOf ByteArray.empty xs i).toList = v.toList)) = false := by
        rw [← Bool.not_eq_true, List.all_eq_true]; intro hh; have := hh i h2; rw [h1] at this; cases this
      rw [this]; exact decide_eq_true (by show ((i : Nat) : Int) ≥ 0; omega)
  · intro i hi hok r hr
    refine Ev.step (fun k => by rw [slices_Index_string_string.l0]) ?_
    simp only [wsucc hi h]
    exact ev_if_pos (by omega) (ev_if_pos (by omega) (ev_if_pos (by omega) (ev_if_neg (fun e => of_decide_eq_false hok e.symm) hr)))
  · intro i hi hok
    exact Ev.step (fun k => by rw [slices_Index_string_string.l0]) (ev_if_pos (by omega) (ev_if_pos (by omega) (ev_if_pos (by omega) (ev_if_pos (of_decide_eq_true hok).symm (Ev.now _)))))
  · exact Ev.step (fun k => by rw [slices_Index_string_string.l0]) (ev_if_neg (by omega) (Ev.now _))
def holdB (kind : Int) (has am : Bool) : Bool := if kind = 1 ∨ kind = 3 then has && am else if kind = 2 then !(has && am) else if kind = 4 then has else !has
theorem l2Holds_ev (kind : Int) (key : ByteArray) (vals : List ByteArray) (v : ByteArray) (has : Bool) (h : vals.length ≤ 9223372036854775807) : Ev (fun k => spec_l2Holds.f k kind key vals v has) (holdB kind has (amongB vals v)) := by
  have j : ∀ b : Bool, (b = true ↔ kind = 1 ∨ kind = 3) → Ev (fun k => spec_l2Holds.j0 k v has kind b kind key vals) (holdB kind has (amongB vals v)) := by
    intro b hb
    refine Ev.step (fun k => by rw [spec_l2Holds.j0]) ?_
    unfold holdB
    by_cases c : kind = 1 ∨ kind = 3
    · rw [if_pos c]
      refine ev_if_pos (hb.2 c) ?_
      cases has with
      | true => exact ev_if_pos rfl (Ev.bind (l2Among_ev _ _ h) (Ev.now _))
      | false => exact ev_if_neg Bool.false_ne_true (Ev.now _)
    · rw [if_neg c]
      refine ev_if_neg (fun e => c (hb.1 e)) ?_
      by_cases c2 : kind = 2
      · rw [if_pos c2]
        refine ev_if_pos c2 ?_
        cases has with
        | true => exact ev_if_pos rfl (Ev.bind (l2Among_ev _ _ h) (Ev.now _))
        | false => exact ev_if_neg Bool.false_ne_true (Ev.now _)
      · rw [if_neg c2]
        refine ev_if_neg c2 ?_
        by_cases c4 : kind = 4
        · exact ev_rw (ev_if_pos c4 (Ev.now _)) (if_pos c4).symm
        · exact ev_rw (ev_if_neg c4 (Ev.now _)) (if_neg c4).symm
  unfold spec_l2Holds.f
  exact ev_if (fun c => j _ (by simp [c])) (fun c => j _ (by simp [c]))
theorem implHolds_ev (x : ITerm) (labs : List ILab) (h : x.f2.length ≤ 9223372036854775807) (hl : labs.length ≤ 9223372036854775807) :
    Ev (fun k => impl_holds.f k x.f0 x.f1 x.f2 labs) (holdB x.f0 (labGet labs x.f1).2 (amongB x.f2 (labGet labs x.f1).1)) := by
  unfold impl_holds.f
  refine Ev.bind (implLabelGet_ev labs x.f1 hl) ?_
  generalize labGet labs x.f1 = g
  obtain ⟨v, has⟩ := g
  have j : ∀ am t : Bool, t = (has && am) → Ev (fun k => impl_holds.j0 k has t x.f0 x.f1 x.f2) (holdB x.f0 has am) := by
    intro am t ht
    refine Ev.step (fun k => by rw [impl_holds.j0]) ?_
    have j1 : ∀ b : Bool, (b = true ↔ x.f0 = 1 ∨ x.f0 = 3) → Ev (fun k => impl_holds.j1 k has t x.f0 b) (holdB x.f0 has am) := by
      intro b hb
      refine Ev.step (fun k => by rw [impl_holds.j1]) ?_
      unfold holdB
      by_cases c : x.f0 = 1 ∨ x.f0 = 3
      · rw [if_pos c]; exact ev_if_pos (hb.2 c) (ev_some ht)
      · rw [if_neg c]
        refine ev_if_neg (fun e => c (hb.1 e)) ?_
        by_cases c2 : x.f0 = 2
        · exact ev_rw (ev_if_pos c2 (ev_some (by rw [ht]))) (if_pos c2).symm
        · refine ev_rw (ev_if_neg c2 ?_) (if_neg c2).symm
          by_cases c4 : x.f0 = 4
          · exact ev_rw (ev_if_pos c4 (Ev.now _)) (if_pos c4).symm
          · exact ev_rw (ev_if_neg c4 (Ev.now _)) (if_neg c4).symm
    exact ev_if (fun c => j1 _ (by simp [c])) (fun c => j1 _ (by simp [c]))
  cases has with
  | true => exact ev_if_pos rfl (Ev.bind (containsStr_ev _ _ h) (j _ _ (by simp)))
  | false => exact ev_if_neg Bool.false_ne_true (j _ _ (by simp))
def holdsB (x : ITerm) (labs : List ILab) : Bool := holdB x.f0 (labGet labs x.f1).2 (amongB x.f2 (labGet labs x.f1).1)
def matchB (xs : List ITerm) (labs : List ILab) : Bool := selB xs && (labsB labs && allN xs.length (fun i => holdsB (rd_T59 xs i) labs))
theorem implMatches_ev (xs : List ITerm) (labs : List ILab) (hx : wfITerms xs) (hl : wfILabs labs) : Ev (fun k => impl_Matches.f k xs labs) (matchB xs labs) := by
  unfold impl_Matches.f matchB
  refine Ev.bind (implSelectorOk_ev xs hx) ?_
  cases selB xs with
  | false => exact ev_if_neg Bool.false_ne_true (Ev.now _)
  | true =>
    refine ev_if_pos rfl (Ev.bind (implLabelsOk_ev labs hl) ?_)
    cases labsB labs with
    | false => exact ev_if_neg Bool.false_ne_true (Ev.now _)
    | true =>
      refine ev_if_pos rfl ?_
      obtain ⟨r, hr, he⟩ := idxO_ev (p := fun k (x : ITerm) => (impl_holds.f k x.f0 x.f1 x.f2 labs).map (!·)) (q := fun x => !holdsB x labs) xs 0 (fun x hx' => by
        exact ev_map (!·) (implHolds_ev x labs (hx.2 x hx').2.1 hl.1))
      refine Ev.bind hr (ev_some ?_)
      rw [he, any_allN xs (fun x => holdsB x labs) (fun i => rd_T59 xs i) (fun i hi => rdIT hi)]
      simp
end Go.Proofs.YtpjpnppoejnafaaDoor.G

/- PNeverB -/
/-
  Whether the terms of a key can hold: with a fresh value, tried as the program tries it or as the reference does.
-/
namespace Go.Proofs.YtpjpnppoejnafaaDoor.G
open Go.RowKit Go.Proofs.YtpjpnppoejnafaaDoorW.PrintWords Go.Proofs.YtpjpnppoejnafaaDoorW.PrintLast Go.Proofs.YtpjpnppoejnafaaDoorW.PrintMore
set_option linter.unusedVariables false
set_option linter.unusedSimpArgs false
theorem bl_eq {a b : ByteArray} : a.toList = b.toList ↔ a = b := by
  constructor
  · intro h
    rw [ByteArray.toList_eq, ByteArray.toList_eq] at h
    cases a; cases b; simp only at h; congr 1; exact Array.toList_inj.1 h
  · rintro rfl; rfl
theorem amongB_iff (xs : List ByteArray) (v : ByteArray) : amongB xs v = true ↔ v ∈ xs := by
  unfold amongB
  rw [Bool.not_eq_true', ← Bool.not_eq_true, allN_true]
  constructor
  · intro h
    refine Classical.byContradiction fun hn => h fun i hi => ?_
    rw [Bool.not_eq_true', decide_eq_false_iff_not, rdS hi, bl_eq]
    rintro rfl; exact hn (List.getElem_mem hi)
  · intro h hh
    obtain ⟨i, hi, rfl⟩ := List.getElem_of_mem h
    have := hh i hi
    rw [Bool.not_eq_true', decide_eq_false_iff_not, rdS hi] at this
    exact this rfl
theorem pigeon {α : Type} [DecidableEq α] : ∀ (xs ys : List α), xs.Nodup → (∀ x ∈ xs, x ∈ ys) → xs.length ≤ ys.length
  | [], ys, _, _ => Nat.zero_le _
  | x :: xs, ys, hn, h => by
    rw [List.nodup_cons] at hn
    have hx := h x (by simp)
    have h1 := pigeon xs (ys.erase x) hn.2 (fun y hy => (List.mem_erase_of_ne (by rintro rfl; exact hn.1 hy)).2 (h y (by simp [hy])))
    rw [List.length_erase_of_mem hx] at h1
    have := List.length_pos_of_mem hx
    rw [List.length_cons]; omega
/-- The reference's own tries. -/
def zAt (i : Nat) : ByteArray := ⟨#[122, UInt8.ofNat (48 + i / 10), UInt8.ofNat (48 + i % 10)]⟩
def zAll : List ByteArray := (List.range 60).map zAt
theorem zAll_nodup : zAll.Nodup := by
  unfold zAll
  rw [List.Nodup, List.pairwise_map]
  refine List.Pairwise.imp_of_mem (R := (· ≠ ·)) (fun {i j} hi hj hij h => hij ?_) List.nodup_range
  rw [List.mem_range] at hi hj
  have e : (zAt i).data.toList = (zAt j).data.toList := by rw [h]
  simp only [zAt, List.cons.injEq, true_and, and_true] at e
  have e1 := congrArg UInt8.toNat e.1
  have e2 := congrArg UInt8.toNat e.2
  simp only [UInt8.toNat_ofNat'] at e1 e2
  omega
/-- Do all terms hold with this value, or none? -/
def okAt (ts : List ITerm) (v : ByteArray) (has : Bool) : Bool := ts.all (fun t => holdB t.f0 has (amongB t.f2 v))
def valsOf (ts : List ITerm) : List ByteArray := ts.flatMap (·.f2)
def withKey (key : ByteArray) (sel : List ITerm) : List ITerm := sel.filter (fun t => decide (t.f1 = key))
def freshB (ts : List ITerm) : Bool := ts.all (fun t => holdB t.f0 true false)
theorem okAt_fresh {ts : List ITerm} {v : ByteArray} (h : v ∉ valsOf ts) : okAt ts v true = freshB ts := by
  unfold okAt freshB
  rw [Bool.eq_iff_iff, List.all_eq_true, List.all_eq_true]
  have e : ∀ t ∈ ts, amongB t.f2 v = false := fun t ht => by
    rw [← Bool.not_eq_true, amongB_iff]
    exact fun hv => h (List.mem_flatMap.2 ⟨t, ht, hv⟩)
  constructor
  · intro hh t ht; have := hh t ht; rwa [e t ht] at this
  · intro hh t ht; rw [e t ht]; exact hh t ht
theorem okAt_none (ts : List ITerm) (v v' : ByteArray) : okAt ts v false = okAt ts v' false := by
  unfold okAt
  rw [Bool.eq_iff_iff, List.all_eq_true, List.all_eq_true]
  have e : ∀ (k : Int) (a b : Bool), holdB k false a = holdB k false b := by
    intro k a b; unfold holdB; simp
  constructor
  · intro hh t ht; rw [e _ _ (amongB t.f2 v)]; exact hh t ht
  · intro hh t ht; rw [e _ _ (amongB t.f2 v')]; exact hh t ht
def possB (ts : List ITerm) : Bool := okAt ts ByteArray.empty false || ((valsOf ts).any (fun v => okAt ts v true) || freshB ts)
theorem anyTries (ts : List ITerm) (zs : List ByteArray) (hz : ∃ z ∈ zs, z ∉ valsOf ts) : ((zs ++ valsOf ts).any (fun v => okAt ts v true)) = ((valsOf ts).any (fun v => okAt ts v true) || freshB ts) := by
  rw [Bool.eq_iff_iff, Bool.or_eq_true, List.any_append, Bool.or_eq_true]
  constructor
  · rintro (h | h)
    · obtain ⟨z, hzm, hk⟩ := List.any_eq_true.1 h
      by_cases hv : z ∈ valsOf ts
      · exact .inl (List.any_eq_true.2 ⟨z, hv, hk⟩)
      · rw [okAt_fresh hv] at hk; exact .inr hk
    · exact .inl h
  · rintro (h | h)
    · exact .inr h
    · obtain ⟨z, hzm, hv⟩ := hz
      exact .inl (List.any_eq_true.2 ⟨z, hzm, by rw [okAt_fresh hv]; exact h⟩)
theorem vals_len {ts : List ITerm} (h6 : ∀ t ∈ ts, t.f2.length ≤ 6) : (valsOf ts).length ≤ 6 * ts.length := by
  unfold valsOf
  induction ts with
  | nil => simp
  | cons t ts ih =>
    have := ih (fun x hx => h6 x (by simp [hx]))
    have := h6 t (by simp)
    rw [List.flatMap_cons, List.length_append, List.length_cons]; omega
theorem z_fresh {ts : List ITerm} (h8 : ts.length ≤ 8) (h6 : ∀ t ∈ ts, t.f2.length ≤ 6) : ∃ z ∈ zAll, z ∉ valsOf ts := by
  refine Classical.byContradiction fun hn => ?_
  have : ∀ z ∈ zAll, z ∈ valsOf ts := fun z hz => Classical.byContradiction fun hc => hn ⟨z, hz, hc⟩
  have h1 := pigeon zAll (valsOf ts) zAll_nodup this
  have h2 := vals_len h6
  have h3 : zAll.length = 60 := by simp [zAll]
  omega
/-- The program's own try: all values, one behind the other, and a sign more. -/
def namedOf (vs : List ByteArray) : ByteArray := vs.foldl (· ++ ·) ByteArray.empty
theorem foldl_size : ∀ (vs : List ByteArray) (a : ByteArray), (vs.foldl (· ++ ·) a).size = a.size + (vs.map ByteArray.size).sum
  | [], a => by simp
  | v :: vs, a => by rw [List.foldl_cons, foldl_size vs, ByteArray.size_append, List.map_cons, List.sum_cons]; omega
theorem named_size (vs : List ByteArray) : (namedOf vs).size = (vs.map ByteArray.size).sum := by
  unfold namedOf; rw [foldl_size]; simp [ByteArray.size]
theorem named_fresh (vs : List ByteArray) (x : ByteArray) (hx : 0 < x.size) : namedOf vs ++ x ∉ vs := by
  intro h
  have h1 := le_sum_map ByteArray.size h
  rw [ByteArray.size_append, named_size] at h1
  omega
theorem possB_impl (ts : List ITerm) : (okAt ts ByteArray.empty false || ((valsOf ts).any (fun v => okAt ts v true) || okAt ts (namedOf (valsOf ts) ++ ⟨#[120]⟩) true)) = possB ts := by
  unfold possB
  rw [okAt_fresh (named_fresh _ _ (by decide))]
theorem possB_spec {ts : List ITerm} (h8 : ts.length ≤ 8) (h6 : ∀ t ∈ ts, t.f2.length ≤ 6) : (okAt ts ByteArray.empty false || (zAll ++ valsOf ts).any (fun v => okAt ts v true)) = possB ts := by
  unfold possB
  rw [anyTries ts zAll (z_fresh h8 h6)]
def neverB (sel : List ITerm) : Bool := selB sel && sel.any (fun t => !possB (withKey t.f1 sel))
end Go.Proofs.YtpjpnppoejnafaaDoor.G

/- G96 -/
-- Laid by wip/g/gprint.py out of the translation, by the kit's print program. Lean checks it.
namespace Go.Proofs.YtpjpnppoejnafaaDoor.G
open Go.RowKit Go.Proofs.YtpjpnppoejnafaaDoorW.PrintWords Go.Proofs.YtpjpnppoejnafaaDoorW.PrintLast Go.Proofs.YtpjpnppoejnafaaDoorW.PrintMore
attribute [local go_sem] max2_int min2_int max_two min_two max_three min_three max_four min_four   -- for this text's walks alone
set_option linter.unusedVariables false
set_option linter.unusedSimpArgs false

/-! ### slices_DeleteFunc_simpl_Term_impl_Term: function 96 -/
set_option maxHeartbeats 1000000 in
set_option maxRecDepth 100000 in
theorem slices_DeleteFunc_simpl_Term_impl_Term.calls {α : Type} (d : Kd α) (hd : d.sz = 3) (kf : Nat) (hkf : ∀ (zs : Array Value) (W : World), (callFunc kf zs).run Tryd.prog W = .ok (.enter kf zs) W) (caps : Array Value) (p : α → Option Bool) (u : Value) (l0 r : List α) (ok : Nat → Prop) (w0 w : World) (hB : Below w0.heap.size w0 w) (hR : d.R 59 w w0.heap.size ok u l0)
  (hf : ∀ (x : α) (cs : List Value) (b : Bool) (W : World), x ∈ l0 → p x = some b → d.K W x cs → Kept w W (fun k => some k = u.ownBlock) → Calls Tryd.prog kf (#[(.agg (cs).toArray)] ++ caps) W fun e w' => e = .returned (.bool b) ∧ Below W.heap.size W w') (h : delO p l0 = some r) :
  Calls Tryd.prog 96 #[u, .func (.func kf) #[] caps] w fun e w' => ∃ v, e = .returned v ∧ d.R 59 w' w0.heap.size ok v r ∧ Below w0.heap.size w0 w' ∧ Kept w w' (fun k => some k = u.ownBlock) ∧ (v.ownBlock = none ∨ v.ownBlock = u.ownBlock) := by
 obtain ⟨i, hi, hcase⟩ := delO_idx l0 0 r h
 obtain ⟨A0, c, rfl, hle, hC⟩ := Kd.R_reads hR
 have hm : l0.length ≤ 9223372036854775807 := hC.2.1
 have HC := Lib.hid hC
 have HR := Lib.hid hR
 have HF := Lib.hid hf
 have HI := Lib.hid hi
 have HD := Lib.hid hd
 have HB0 := Lib.hid hB
 have HL := Lib.hid hle
 clear hR hf h hi hd hB hC
 rcases hcase with ⟨rfl, rfl⟩ | ⟨m, rfl, hml, r2, h2, rfl⟩
 ·go_enter Tryd.func96, Tryd.ntmps96
  go_wp2_with fail
  refine (slices_IndexFunc_simpl_Term_impl_Term.calls d HD.out kf hkf caps p A0 c r _ _ HC.out HL.out (fun x cs b W hx hp hk hb => HF.out x cs b W hx hp hk (Kept.of_below hb _)) HI.out).mono ?_
  rintro e w1 ⟨rfl, hb1⟩
  have HB1 := Lib.hid hb1
  clear hb1
  go_wp2
  go_ret
  exact ⟨_, rfl, Kd.R_below HR.out HB1.out, below_then HB0.out HB0.out.size HB1.out, Kept.of_below HB1.out _, .inr rfl⟩
 ·obtain ⟨g, cur, rfl, _, hg, hh, _, hcm, hs, hok, hreps⟩ := R_block HR.out (by omega)
  simp only [Nat.zero_add] at HI
  have hcle : c ≤ 9223372036854775807 := by unfold maxLen at hcm; omega
  have HH := Lib.hid hh
  have HS := Lib.hid hs
  have HG := Lib.hid hg
  have HOK := Lib.hid hok
  have HRP := Lib.hid hreps
  have H2 := Lib.hid h2
  have HCM := Lib.hid hcm
  clear hh hs hg hok hreps h2 hcm
  have hnm : ((m : Int) == -1) = false := by rw [beq_eq_false_iff_ne]; omega
  go_enter Tryd.func96, Tryd.ntmps96
  go_wp2_with fail
  refine (slices_IndexFunc_simpl_Term_impl_Term.calls d HD.out kf hkf caps p _ c l0 _ _ HC.out HL.out (fun x cs b W hx hp hk hb => HF.out x cs b W hx hp hk (Kept.of_below hb _)) HI.out).mono ?_
  rintro e w1 ⟨rfl, hb1⟩
  have HST := Lib.hid (del_start HG.out HH.out HRP.out HB0.out hb1 hml H2.out rfl)
  clear hb1
  go_wp2
  go_loopw [5, 6] (fun i j wr => ∃ a k : Nat, i = .int .i64 a ∧ j = .int .i64 k ∧ a < k ∧ k ≤ l0.length ∧ Hid (DelSt d 59 p l0 (l0.take m ++ r2) ok w0 w g cur a k wr)) (fun _ j _ => l0.length - (intOf j).toNat)
  case atStart => exact ⟨m, m + 1, rfl, by go_num, by omega, by omega, HST⟩
  case round =>
   obtain ⟨a, k, rfl, rfl, hak, hkl, HE⟩ := hrel
   by_cases hlt : k < l0.length
   ·obtain ⟨cs, b, hcs, hp, hM, hcell, hfz, hsome⟩ := del_read HH.out HS.out HL.out HRP.out HE.out hlt
    have HM := Lib.hid hM
    have hone := d.K_one (d.K_of_M hM)
    have HP := Lib.hid hp
    have hlen := hcs
    rw [HD.out] at hcs hcell hsome
    obtain ⟨y0, y1, y2, rfl⟩ : ∃ y0 y1 y2, cs = [y0, y1, y2] := by match cs, hcs with | [y0, y1, y2], _ => exact ⟨y0, y1, y2, rfl⟩
    have HLEN := Lib.hid hlen
    clear hM hp hcs hlen
    have hal : a * 3 + 3 ≤ c * 3 := by omega
    have d0 := hcell 0 y0 rfl
    have t0 := fun (a : Addr) (W : World) (q : Mode) => run_store Tryd.prog W a y0 q (hone y0 (by simp))
    have d1 := hcell 1 y1 rfl
    have t1 := fun (a : Addr) (W : World) (q : Mode) => run_store Tryd.prog W a y1 q (hone y1 (by simp))
    have d2 := hcell 2 y2 rfl
    have t2 := fun (a : Addr) (W : World) (q : Mode) => run_store Tryd.prog W a y2 q (hone y2 (by simp))
    clear hone
    obtain ⟨u0, e0⟩ := hsome (a * 3 + 0) (by omega)
    obtain ⟨u1, e1⟩ := hsome (a * 3 + 1) (by omega)
    obtain ⟨u2, e2⟩ := hsome (a * 3 + 2) (by omega)
    simp only [Nat.add_zero, Nat.mul_one] at d0 e0
    have f0 := hfz (a * 3 + 0)
    have f1 := hfz (a * 3 + 1)
    have f2 := hfz (a * 3 + 2)
    simp only [Nat.add_zero, Nat.mul_one] at f0
    clear hcell hsome hfz
    have hgw := World.block_lt_of_cell? wr _ d0
    simp only at hgw
    have HW := Lib.hid (below_alloc (Below.refl wr.heap.size wr) (.cells #[y0, y1, y2] 59))
    cases b
    ·go_wp2_with fail
     refine (HF.out l0[k] _ _ _ (List.getElem_mem hlt) HP.out (d.K_of_M (Kd.M_below HM.out HW.out)) ((HE.out.kept.below HW.out).mono (fun k hk => by rw [hk]; rfl))).mono ?_
     rintro e w2 ⟨rfl, hb2⟩
     have hb3 := below_then HW.out HW.out.size hb2
     have e0x := pw_cell_below hb3 e0
     have f0x := (hb3.frozen (p := ⟨g, a * 3 + 0, none⟩) hgw).trans f0
     have e1x := pw_cell_below hb3 e1
     have f1x := (hb3.frozen (p := ⟨g, a * 3 + 1, none⟩) hgw).trans f1
     have e2x := pw_cell_below hb3 e2
     have f2x := (hb3.frozen (p := ⟨g, a * 3 + 2, none⟩) hgw).trans f2
     have s0x : w2.cell? ⟨wr.heap.size, 0, none⟩ = some y0 := pw_cell_below hb2 (by simp)
     have s1x : w2.cell? ⟨wr.heap.size, 1, none⟩ = some y1 := pw_cell_below hb2 (by simp)
     have s2x : w2.cell? ⟨wr.heap.size, 2, none⟩ = some y2 := pw_cell_below hb2 (by simp)
     simp only [Nat.add_zero, Nat.mul_one] at f0x
     have HN := Lib.hid (del_keep HG.out HS.out HL.out HE.out hlt HP.out hb3 HLEN.out HM.out)
     clear d0 d1 d2 e0 e1 e2 f0 f1 f2 hb2 hb3
     rw [HD.out] at HN
     simp only [World.setCells, Nat.add_assoc, Nat.reduceAdd] at HN
     go_wp2
     go_roundw
     case rel => exact ⟨a + 1, k + 1, by go_num, by go_num, by omega, by omega, HN⟩
     case measure => simp [intOf]; omega
    ·go_wp2_with fail
     refine (HF.out l0[k] _ _ _ (List.getElem_mem hlt) HP.out (d.K_of_M (Kd.M_below HM.out HW.out)) ((HE.out.kept.below HW.out).mono (fun k hk => by rw [hk]; rfl))).mono ?_
     rintro e w2 ⟨rfl, hb2⟩
     have HN := Lib.hid (del_skip HE.out hlt HP.out (below_then HW.out HW.out.size hb2))
     clear hb2
     go_wp2
     go_roundw
     case rel => exact ⟨a, k + 1, rfl, by go_num, by omega, by omega, HN⟩
     case measure => simp [intOf]; omega
   ·obtain rfl : k = l0.length := by omega
    have hcl : l0.length ≤ c := HL.out
    have hca : ¬ c = a := by omega
    obtain ⟨cur2, ys, r3, _, hh2, hs2, _⟩ := HE.out.st
    have hs3 : cur2.size = c * 3 := by rw [hs2, HS.out, HD.out]
    have hcz : (Value.cells (.agg #[(.int .i64 0), (.string ⟨#[]⟩), (.slice none 0 0)])).size = 3 := rfl
    have hclr := fun ty => run_clear_cells (P := Tryd.prog) wr 28 59 ty (.agg #[(.int .i64 0), (.string ⟨#[]⟩), (.slice none 0 0)]) Tryd.underlying28 (fun w => by kernel_rfl) (by decide) g (a * 3) (l0.length - a) (c - a) (by omega) (fun j hj => by rw [hcz] at hj; rw [blk_cell hh2, Array.getElem?_eq_getElem (by omega)]; rfl) (fun j => blk_frozen hh2 j)
    have HEND := Lib.hid (del_end HG.out HS.out HCM.out HL.out HOK.out HE.out (zs := (Builtin.zeroCells (Value.cells (.agg #[(.int .i64 0), (.string ⟨#[]⟩), (.slice none 0 0)])) (l0.length - a)).toList) (by simp only [Builtin.zeroCells, Array.length_toList, Array.size_map, Array.size_range]; rw [HD.out, hcz]; omega))
    rw [HD.out] at HEND
    clear hh2 hs2 hs3
    generalize (Builtin.zeroCells (Value.cells (.agg #[(.int .i64 0), (.string ⟨#[]⟩), (.slice none 0 0)])) (l0.length - a)).toList = zs at hclr HEND
    go_wp2
    go_ret
    exact ⟨_, rfl, HEND.out.1, HEND.out.2.1, HEND.out.2.2.mono (fun k hk => by rw [hk]; rfl), .inr rfl⟩

end Go.Proofs.YtpjpnppoejnafaaDoor.G

/- G114 -/
-- Laid by wip/g/gprint.py out of the translation, by the kit's print program. Lean checks it.
namespace Go.Proofs.YtpjpnppoejnafaaDoor.G
open Go.RowKit Go.Proofs.YtpjpnppoejnafaaDoorW.PrintWords Go.Proofs.YtpjpnppoejnafaaDoorW.PrintLast Go.Proofs.YtpjpnppoejnafaaDoorW.PrintMore
attribute [local go_sem] max2_int min2_int max_two min_two max_three min_three max_four min_four   -- for this text's walks alone
set_option linter.unusedVariables false
set_option linter.unusedSimpArgs false

/-! ### slices_IndexFunc_ssimpl_Label_simpl_Label: function 114 -/
set_option maxRecDepth 100000 in
theorem slices_IndexFunc_ssimpl_Label_simpl_Label.calls {α : Type} (d : Kd α) (hd : d.sz = 1) (kf : Nat) (hkf : ∀ (zs : Array Value) (W : World), (callFunc kf zs).run Tryd.prog W = .ok (.enter kf zs) W) (caps : Array Value) (p : α → Option Bool) (A0 : Option Addr) (c0 : Nat) (l0 : List α) (r : Int) (w : World) (hr0 : Kd.C d w A0 l0.length l0) (hc0 : l0.length ≤ c0)
    (hf : ∀ (x : α) (cs : List Value) (b : Bool) (W : World), x ∈ l0 → p x = some b → d.K W x cs → Below w.heap.size w W → Calls Tryd.prog kf (#[((cs).headD undef)] ++ caps) W fun e w' => e = .returned (.bool b) ∧ Below W.heap.size W w') (h : idxO p l0 0 = some r) :
    Calls Tryd.prog 114 #[.slice A0 l0.length c0, .func (.func kf) #[] caps] w fun e w' => e = .returned (.int .i64 r) ∧ Below w.heap.size w w' := by
  have hm : l0.length ≤ 9223372036854775807 := hr0.2.1
  have HR := Lib.hid hr0
  have HF := Lib.hid hf
  have HH := Lib.hid h
  have HD := Lib.hid hd
  clear hr0 hf h hd
  go_enter Tryd.func114, Tryd.ntmps114
  go_wp2
  go_loopw [5, 8] (fun _ i wr => ∃ k : Nat, k ≤ l0.length ∧ i = .int .i64 k ∧ Hid (idxO p (l0.drop k) k = some r) ∧ Hid (Below w.heap.size w wr)) (fun _ i _ => l0.length - (intOf i).toNat)
  case atStart => exact ⟨0, by omega, rfl, HH, Below.refl _ _⟩
  case round =>
    obtain ⟨k, hk, rfl, HE, HB⟩ := hrel
    by_cases hlt : k < l0.length
    · obtain ⟨b, hp, hb1, hb2⟩ := idxO_step hlt HE.out
      have HP := Lib.hid hp
      have B1 := Lib.hid hb1
      have B2 := Lib.hid hb2
      clear hp hb1 hb2
      obtain ⟨ad, cs, rfl, hcs, hK, hcell⟩ := Kd.C_get HR.out l0[k] (k : Int) (by omega) (by omega)
      rw [HD.out] at hcs hcell
      obtain ⟨y0, rfl⟩ : ∃ y0, cs = [y0] := by match cs, hcs with | [y0], _ => exact ⟨y0, rfl⟩
      clear hcs
      simp only [Int.toNat_natCast, getD_at hlt] at hK hcell
      have HK := Lib.hid (d.K_below HB.out hK)
      clear hK
      have d0 := pw_cell_below HB.out (hcell 0 y0 rfl)
      clear hcell
      simp only [Nat.add_zero, Nat.mul_one] at d0
      cases b
      · have B3 := Lib.hid (B2.out rfl)
        clear B1 B2
        go_wp2_with fail
        refine (HF.out l0[k] _ _ _ (List.getElem_mem hlt) HP.out HK.out HB.out).mono ?_
        rintro e w' ⟨rfl, hbx⟩
        have HB2 := hid_below HB hbx
        clear hbx
        go_wp2
        go_roundw
        case rel => exact ⟨k + 1, by omega, by go_num, B3, HB2⟩
        case measure => simp [intOf]; omega
      · have B3 := Lib.hid (B1.out rfl)
        clear B1 B2
        go_wp2_with fail
        refine (HF.out l0[k] _ _ _ (List.getElem_mem hlt) HP.out HK.out HB.out).mono ?_
        rintro e w' ⟨rfl, hbx⟩
        have HB2 := hid_below HB hbx
        clear hbx
        go_wp2
        go_ret
        obtain rfl := B3.out
        exact ⟨rfl, HB2.out⟩
    · obtain rfl : k = l0.length := by omega
      go_wp2
      go_ret
      exact ⟨by rw [idxO_end HE.out]; rfl, HB.out⟩

end Go.Proofs.YtpjpnppoejnafaaDoor.G

/- G99 -/
-- Laid by wip/g/gprint.py out of the translation, by the kit's print program. Lean checks it.
namespace Go.Proofs.YtpjpnppoejnafaaDoor.G
open Go.RowKit Go.Proofs.YtpjpnppoejnafaaDoorW.PrintWords Go.Proofs.YtpjpnppoejnafaaDoorW.PrintLast Go.Proofs.YtpjpnppoejnafaaDoorW.PrintMore
attribute [local go_sem] max2_int min2_int max_two min_two max_three min_three max_four min_four   -- for this text's walks alone
set_option linter.unusedVariables false
set_option linter.unusedSimpArgs false

/-! ### slices_ContainsFunc_ssimpl_Label_simpl_Label: function 99 -/
theorem slices_ContainsFunc_ssimpl_Label_simpl_Label.calls {α : Type} (d : Kd α) (hd : d.sz = 1) (kf : Nat) (hkf : ∀ (zs : Array Value) (W : World), (callFunc kf zs).run Tryd.prog W = .ok (.enter kf zs) W) (caps : Array Value) (p : α → Option Bool) (A0 : Option Addr) (c0 : Nat) (l0 : List α) (r : Int) (w : World) (hr0 : Kd.C d w A0 l0.length l0) (hc0 : l0.length ≤ c0)
    (hf : ∀ (x : α) (cs : List Value) (b : Bool) (W : World), x ∈ l0 → p x = some b → d.K W x cs → Below w.heap.size w W → Calls Tryd.prog kf (#[((cs).headD undef)] ++ caps) W fun e w' => e = .returned (.bool b) ∧ Below W.heap.size W w') (h : idxO p l0 0 = some r) :
    Calls Tryd.prog 99 #[.slice A0 l0.length c0, .func (.func kf) #[] caps] w fun e w' => e = .returned (.bool (decide (0 ≤ r))) ∧ Below w.heap.size w w' := by
  have HR := Lib.hid hr0
  have HF := Lib.hid hf
  have HH := Lib.hid h
  have HD := Lib.hid hd
  clear hr0 hf h hd
  go_enter Tryd.func99, Tryd.ntmps99
  go_wp2_with fail
  refine (slices_IndexFunc_ssimpl_Label_simpl_Label.calls d HD.out kf hkf caps p A0 c0 l0 r _ HR.out hc0 HF.out HH.out).mono ?_
  rintro e w' ⟨rfl, hb⟩
  have HB := Lib.hid hb
  clear hb
  go_wp2
  go_ret
  exact ⟨rfl, HB.out⟩

end Go.Proofs.YtpjpnppoejnafaaDoor.G

/- GKOpen -/
/-
  An argument that can be read as data (the form's own reading) is of a kind 'Kd'; and what is known of it besides ('Wf').
-/
namespace Go.Proofs.YtpjpnppoejnafaaDoor.G
open Go.RowKit Go.Proofs.YtpjpnppoejnafaaDoorW.PrintWords Go.Proofs.YtpjpnppoejnafaaDoorW.PrintLast Go.Proofs.YtpjpnppoejnafaaDoorW.PrintMore
set_option linter.unusedVariables false
section
variable {H : Type} {enc : TypeId × Value → H} {P : Program} {w : World} {base : Nat} {spare : Nat → Bool} {held : Bool}
def KOpens {α : Type} (enc : TypeId × Value → H) (P : Program) (w : World) (base : Nat) (spare : Nat → Bool) (held : Bool) (n : Nat) (t : TypeId) (k : Kd α) (Wf : α → Prop) : Prop :=
  ∀ cs x, DataW.trod enc P w base spare held n t cs = some x → ∃ a, Wf a ∧ k.K w a cs
theorem kopens_u8 {n : Nat} {t : TypeId} (ht : P.underlying t = some (.int .u8)) : KOpens enc P w base spare held n t (Kd.int .u8) (fun i => 0 ≤ i ∧ i ≤ 255) := by
  intro cs x h
  obtain ⟨i, rfl, _, hw⟩ := DataW.trod_int ht h
  have m1 : IntKind.u8.min = 0 := by decide
  have m2 : IntKind.u8.max = 255 := by decide
  simp only [Lit.wf, Bool.and_eq_true, decide_eq_true_eq, m1, m2] at hw
  exact ⟨i, hw, rfl⟩
theorem list_pick {α : Type} {P : Nat → α → Prop} : ∀ (n : Nat), (∀ i, i < n → ∃ a, P i a) → ∃ xs : List α, xs.length = n ∧ ∀ i (h : i < xs.length), P i xs[i]
  | 0, _ => ⟨[], rfl, by simp⟩
  | n + 1, h => by
    obtain ⟨xs, hl, hx⟩ := list_pick (P := P) n (fun i hi => h i (by omega))
    obtain ⟨a, ha⟩ := h n (by omega)
    refine ⟨xs ++ [a], by simp [hl], fun i hi => ?_⟩
    by_cases hin : i < xs.length
    · rw [List.getElem_append_left hin]; exact hx i hin
    · have : i = n := by simp at hi; omega
      subst this
      rw [List.getElem_append_right (by omega)]
      simpa using ha
theorem kopens_slice {α : Type} {n : Nat} {t e : TypeId} {k : Kd α} {Wf : α → Prop} (ht : P.underlying t = some (.slice e)) (hsz : P.cellsOf e = k.sz) (hpos : 0 < k.sz) (hby : ∀ xs : List α, True → True)
    (ho : ∀ m, m < n → KOpens enc P w base spare held m e k Wf) : KOpens enc P w base spare held n t (Kd.slice e k) (fun xs => xs.length ≤ 9223372036854775807 ∧ ∀ x ∈ xs, Wf x) := by
  intro cs x h
  rcases DataW.trod_slice ht h with ⟨rfl, _⟩ | ⟨a, len, cap, elems, rest, m, hn, rfl, _, hb, hl, hm, hlen, hel, _, _⟩
  · exact ⟨[], ⟨by simp, by simp⟩, none, 0, rfl, by simp, rfl, by simp, fun h => absurd h (by simp)⟩
  · unfold maxLen at hm
    have get : ∀ i, i < len → ∃ p : α, Wf p ∧ ∃ cs', w.cells? base (a.add (i * k.sz)) k.sz = some cs' ∧ k.K w p cs' := by
      intro i hi
      have h1 := hel i hi
      rw [hsz, List.getElem?_eq_getElem (by omega), Option.bind_eq_some_iff] at h1
      obtain ⟨cs', h1, h2⟩ := h1
      obtain ⟨p, hp, hK⟩ := ho m (by omega) _ _ h2
      exact ⟨p, hp, cs', h1, hK⟩
    obtain ⟨xs, hxl, hxs⟩ := list_pick len get
    refine ⟨xs, ⟨by omega, fun p hp => ?_⟩, some a, cap, by rw [hxl], by omega, rfl, by omega, fun _ => ⟨a, rfl, fun j p hj => ?_⟩⟩
    · obtain ⟨i, hi, rfl⟩ := List.getElem_of_mem hp
      exact (hxs i hi).1
    · obtain ⟨hjl, rfl⟩ := List.getElem?_eq_some_iff.1 hj
      obtain ⟨_, cs', hc, hK⟩ := hxs j hjl
      obtain ⟨_, hl', hat'⟩ := World.cells?_some hc
      refine ⟨cs', k.K_len hK, hK, fun i u hu => ?_⟩
      have hi := (List.getElem?_eq_some_iff.1 hu).1
      have h3 := hat' i (by rw [k.K_len hK] at hi; exact hi)
      rw [hu] at h3
      have ha : (a.add (j * k.sz)).add i = a.add (j * k.sz + i) := by
        unfold Addr.add
        by_cases h1 : j * k.sz = 0 <;> by_cases h2 : i = 0 <;> simp [h1, h2, Nat.add_assoc]
      rw [ha] at h3
      exact h3
end
end Go.Proofs.YtpjpnppoejnafaaDoor.G
