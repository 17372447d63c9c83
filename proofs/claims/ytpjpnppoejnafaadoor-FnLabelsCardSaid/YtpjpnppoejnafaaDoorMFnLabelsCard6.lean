import Derived.Test.YtpjpnppoejnafaaDoorMFnLabelsCard1
import Derived.Test.YtpjpnppoejnafaaDoorMFnLabelsCard5
import Derived.Test.YtpjpnppoejnafaaDoorMFnLabelsCard2
import Derived.Test.YtpjpnppoejnafaaDoorMFnLabelsCard4
import Derived.Test.YtpjpnppoejnafaaDoorShelf
import Derived.Test.YtpjpnppoejnafaaDoorProg
import Derived.Shelf.Vars
import Derived.Lib.SplitLaws
import Derived.Test.YtpjpnppoejnafaaDoorMFnLabelsCard3
/- G19 -/
-- Laid by wip/g/gprint.py out of the translation, by the kit's print program. Lean checks it.
namespace Go.Proofs.YtpjpnppoejnafaaDoor.G
open Go.RowKit Go.Proofs.YtpjpnppoejnafaaDoorW.PrintWords Go.Proofs.YtpjpnppoejnafaaDoorW.PrintLast Go.Proofs.YtpjpnppoejnafaaDoorW.PrintMore
attribute [local go_sem] max2_int min2_int max_two min_two max_three min_three max_four min_four   -- for this text's walks alone
set_option linter.unusedVariables false
set_option linter.unusedSimpArgs false

/-! ### impl_LabelSet: function 19 -/
--IMPORT Derived.Test.YtpjpnppoejnafaaDoorGKIns
def impl_LabelSet.f (k : Nat) (l0 : List S42) (a1 a2 : ByteArray) : Option (List S42 × Bool) :=
  (impl_LabelDrop.f l0 a1).bind fun out => (bsO (fun x => impl_LabelSet_1.f x.f0 x.f1 a1) out).bind fun q => (impl_LabelsOk.f k l0).bind fun a => if a = true then (impl_NameOk.f k a1).bind fun b => if b = true then (impl_NameOk.f k a2).bind fun c => if c = true then (if (out.length : Int) = 8 then some (l0, false) else some (out.take q.1 ++ ⟨a1, a2⟩ :: out.drop q.1, true)) else some (l0, false) else some (l0, false) else some (l0, false)
theorem delO_len {α : Type} {p : α → Option Bool} : ∀ {l r : List α}, delO p l = some r → r.length ≤ l.length
  | [], r, h => by rw [delO] at h; cases h; simp
  | x :: xs, r, h => by
    obtain ⟨b, ys, _, hy, rfl⟩ := delO_cons h
    have := delO_len hy
    cases b <;> simp <;> omega
set_option maxHeartbeats 2000000 in
theorem impl_LabelSet.calls (k : Nat) (A0 : Option Addr) (c0 : Nat) (l0 : List (S42)) (a1 : ByteArray) (a2 : ByteArray) (r1 : List (S42)) (r2 : Bool) (w : World) (hr0 : Kd.C k42 w A0 l0.length l0) (hc0 : l0.length ≤ c0) (h : impl_LabelSet.f k l0 a1 a2 = some (r1, r2)) :
    Calls Tryd.prog 19 #[.slice A0 l0.length c0, .string a1, .string a2] w fun e w' => ∃ v0_ : Value, e = .returned (.tuple #[v0_, .bool r2]) ∧ Kd.R k42 42 w' w.heap.size (fun _ => True) v0_ r1 ∧ Below w.heap.size w w' := by
  unfold impl_LabelSet.f at h
  obtain ⟨out, hout, h⟩ := bind_some' h
  obtain ⟨⟨i, fd⟩, hq, h⟩ := bind_some' h
  obtain ⟨a, ha, h⟩ := bind_some' h
  have hll : l0.length < 4398046511104 := by
    unfold impl_LabelDrop.f at hout
    by_cases hl : l0.length < 4398046511104
    · exact hl
    · rw [if_neg hl] at hout; cases hout
  have hol : out.length ≤ l0.length := by
    unfold impl_LabelDrop.f at hout
    rw [if_pos hll] at hout
    exact delO_len hout
  have hil : i ≤ out.length := by
    unfold bsO at hq
    obtain ⟨j, hj, hq⟩ := bind_some' hq
    have h1 := (bsL_le (Nat.zero_le _) hj).2
    cases hx : out[j]? with
    | none => rw [hx] at hq; cases hq; exact h1
    | some x =>
      rw [hx] at hq
      obtain ⟨c, _, hq⟩ := bind_some' hq
      cases hq; exact h1
  have HCL : Hid (slices_Clone_simpl_Label_impl_Label.f l0 = some l0) := by unfold Hid slices_Clone_simpl_Label_impl_Label.f; rw [if_pos hll]
  have HR := Lib.hid hr0
  have HDR := Lib.hid hout
  have HBS := Lib.hid hq
  have HA := Lib.hid ha
  clear hr0 hout hq ha
  cases a with
  | false =>
    cases h
    go_enter Tryd.func19, Tryd.ntmps19
    go_wp2_with fail
    refine (impl_LabelDrop.calls A0 c0 l0 a1 out w HR.out hc0 HDR.out).mono ?_
    rintro e w1 ⟨v, rfl, hv, hb1⟩
    obtain ⟨A, c, rfl, hlc, hC⟩ := Kd.R_reads hv
    have HV := Lib.hid hv
    have HB1 := Lib.hid hb1
    have HC := Lib.hid hC
    clear hv hb1 hC
    go_wp2_with fail
    refine (slices_BinarySearchFunc_simpl_Label_impl_Label_string.calls k42 rfl 50 (fun _ _ => by kernel_rfl) #[] (fun x => impl_LabelSet_1.f x.f0 x.f1 a1) A c out (.string a1) i fd w1 HC.out hlc (by omega) ?_ HBS.out).mono ?_
    · intro x cs b W hx hp hk hb
      obtain rfl := k42_open hk
      exact impl_LabelSet_1.calls x.f0 x.f1 a1 b W hp
    rintro e w2 ⟨rfl, hb2⟩
    have HB2 := Lib.hid (below_then HB1.out HB1.out.size hb2)
    have HV2 := Lib.hid (Kd.R_below HV.out hb2)
    have HR2 := Lib.hid (Kd.C_below (Kd.C_below HR.out HB1.out) hb2)
    clear hb2
    go_wp2_with fail
    refine (impl_LabelsOk.calls k A0 c0 l0 false w2 HR2.out hc0 HA.out).mono ?_
    rintro e w3 ⟨rfl, hb3⟩
    have HB3 := Lib.hid (below_then HB2.out HB2.out.size hb3)
    have HV3 := Lib.hid (Kd.R_below HV2.out hb3)
    have HR3 := Lib.hid (Kd.C_below HR2.out hb3)
    clear hb3
    go_wp2_with fail
    refine (slices_Clone_simpl_Label_impl_Label.calls A0 c0 l0 l0 _ HR3.out hc0 HCL.out).mono ?_
    rintro e w9 ⟨v9, rfl, hv9, hb9⟩
    have HB9 := Lib.hid (below_then HB3.out (HB3.out).size hb9)
    have HV9 := Lib.hid (Kd.R_lower hv9 (HB3.out).size)
    clear hv9 hb9
    go_wp2
    go_ret2
    exact ⟨_, rfl, HV9.out, HB9.out⟩
  | true =>
    rw [if_pos rfl] at h
    obtain ⟨b, hb, h⟩ := bind_some' h
    have HN := Lib.hid hb
    clear hb
    cases b with
    | false =>
      cases h
      go_enter Tryd.func19, Tryd.ntmps19
      go_wp2_with fail
      refine (impl_LabelDrop.calls A0 c0 l0 a1 out w HR.out hc0 HDR.out).mono ?_
      rintro e w1 ⟨v, rfl, hv, hb1⟩
      obtain ⟨A, c, rfl, hlc, hC⟩ := Kd.R_reads hv
      have HV := Lib.hid hv
      have HB1 := Lib.hid hb1
      have HC := Lib.hid hC
      clear hv hb1 hC
      go_wp2_with fail
      refine (slices_BinarySearchFunc_simpl_Label_impl_Label_string.calls k42 rfl 50 (fun _ _ => by kernel_rfl) #[] (fun x => impl_LabelSet_1.f x.f0 x.f1 a1) A c out (.string a1) i fd w1 HC.out hlc (by omega) ?_ HBS.out).mono ?_
      · intro x cs b W hx hp hk hb
        obtain rfl := k42_open hk
        exact impl_LabelSet_1.calls x.f0 x.f1 a1 b W hp
      rintro e w2 ⟨rfl, hb2⟩
      have HB2 := Lib.hid (below_then HB1.out HB1.out.size hb2)
      have HV2 := Lib.hid (Kd.R_below HV.out hb2)
      have HR2 := Lib.hid (Kd.C_below (Kd.C_below HR.out HB1.out) hb2)
      clear hb2
      go_wp2_with fail
      refine (impl_LabelsOk.calls k A0 c0 l0 true w2 HR2.out hc0 HA.out).mono ?_
      rintro e w3 ⟨rfl, hb3⟩
      have HB3 := Lib.hid (below_then HB2.out HB2.out.size hb3)
      have HV3 := Lib.hid (Kd.R_below HV2.out hb3)
      have HR3 := Lib.hid (Kd.C_below HR2.out hb3)
      clear hb3
      go_wp2_with fail
      refine (impl_NameOk.calls k a1 false _ HN.out).mono ?_
      rintro e w4 ⟨rfl, hd4⟩
      obtain ⟨n4, rfl⟩ := hd4
      go_wp2_with fail
      refine (slices_Clone_simpl_Label_impl_Label.calls A0 c0 l0 l0 _ (Kd.C_drewN HR3.out n4) hc0 HCL.out).mono ?_
      rintro e w9 ⟨v9, rfl, hv9, hb9⟩
      have HB9 := Lib.hid (below_then (pw_below_drewN HB3.out n4) ((pw_below_drewN HB3.out n4)).size hb9)
      have HV9 := Lib.hid (Kd.R_lower hv9 ((pw_below_drewN HB3.out n4)).size)
      clear hv9 hb9
      go_wp2
      go_ret2
      exact ⟨_, rfl, HV9.out, HB9.out⟩
    | true =>
      rw [if_pos rfl] at h
      obtain ⟨c1, hc1, h⟩ := bind_some' h
      have HM := Lib.hid hc1
      clear hc1
      cases c1 with
      | false =>
        cases h
        go_enter Tryd.func19, Tryd.ntmps19
        go_wp2_with fail
        refine (impl_LabelDrop.calls A0 c0 l0 a1 out w HR.out hc0 HDR.out).mono ?_
        rintro e w1 ⟨v, rfl, hv, hb1⟩
        obtain ⟨A, c, rfl, hlc, hC⟩ := Kd.R_reads hv
        have HV := Lib.hid hv
        have HB1 := Lib.hid hb1
        have HC := Lib.hid hC
        clear hv hb1 hC
        go_wp2_with fail
        refine (slices_BinarySearchFunc_simpl_Label_impl_Label_string.calls k42 rfl 50 (fun _ _ => by kernel_rfl) #[] (fun x => impl_LabelSet_1.f x.f0 x.f1 a1) A c out (.string a1) i fd w1 HC.out hlc (by omega) ?_ HBS.out).mono ?_
        · intro x cs b W hx hp hk hb
          obtain rfl := k42_open hk
          exact impl_LabelSet_1.calls x.f0 x.f1 a1 b W hp
        rintro e w2 ⟨rfl, hb2⟩
        have HB2 := Lib.hid (below_then HB1.out HB1.out.size hb2)
        have HV2 := Lib.hid (Kd.R_below HV.out hb2)
        have HR2 := Lib.hid (Kd.C_below (Kd.C_below HR.out HB1.out) hb2)
        clear hb2
        go_wp2_with fail
        refine (impl_LabelsOk.calls k A0 c0 l0 true w2 HR2.out hc0 HA.out).mono ?_
        rintro e w3 ⟨rfl, hb3⟩
        have HB3 := Lib.hid (below_then HB2.out HB2.out.size hb3)
        have HV3 := Lib.hid (Kd.R_below HV2.out hb3)
        have HR3 := Lib.hid (Kd.C_below HR2.out hb3)
        clear hb3
        go_wp2_with fail
        refine (impl_NameOk.calls k a1 true _ HN.out).mono ?_
        rintro e w4 ⟨rfl, hd4⟩
        obtain ⟨n4, rfl⟩ := hd4
        go_wp2_with fail
        refine (impl_NameOk.calls k a2 false _ HM.out).mono ?_
        rintro e w4 ⟨rfl, hd4⟩
        obtain ⟨n5, rfl⟩ := hd4
        go_wp2_with fail
        refine (slices_Clone_simpl_Label_impl_Label.calls A0 c0 l0 l0 _ (Kd.C_drewN HR3.out (n4 + n5)) hc0 HCL.out).mono ?_
        rintro e w9 ⟨v9, rfl, hv9, hb9⟩
        have HB9 := Lib.hid (below_then (pw_below_drewN HB3.out (n4 + n5)) ((pw_below_drewN HB3.out (n4 + n5))).size hb9)
        have HV9 := Lib.hid (Kd.R_lower hv9 ((pw_below_drewN HB3.out (n4 + n5))).size)
        clear hv9 hb9
        go_wp2
        go_ret2
        exact ⟨_, rfl, HV9.out, HB9.out⟩
      | true =>
        rw [if_pos rfl] at h
        by_cases h8 : (out.length : Int) = 8
        · rw [if_pos h8] at h
          cases h
          go_enter Tryd.func19, Tryd.ntmps19
          go_wp2_with fail
          refine (impl_LabelDrop.calls A0 c0 l0 a1 out w HR.out hc0 HDR.out).mono ?_
          rintro e w1 ⟨v, rfl, hv, hb1⟩
          obtain ⟨A, c, rfl, hlc, hC⟩ := Kd.R_reads hv
          have HV := Lib.hid hv
          have HB1 := Lib.hid hb1
          have HC := Lib.hid hC
          clear hv hb1 hC
          go_wp2_with fail
          refine (slices_BinarySearchFunc_simpl_Label_impl_Label_string.calls k42 rfl 50 (fun _ _ => by kernel_rfl) #[] (fun x => impl_LabelSet_1.f x.f0 x.f1 a1) A c out (.string a1) i fd w1 HC.out hlc (by omega) ?_ HBS.out).mono ?_
          · intro x cs b W hx hp hk hb
            obtain rfl := k42_open hk
            exact impl_LabelSet_1.calls x.f0 x.f1 a1 b W hp
          rintro e w2 ⟨rfl, hb2⟩
          have HB2 := Lib.hid (below_then HB1.out HB1.out.size hb2)
          have HV2 := Lib.hid (Kd.R_below HV.out hb2)
          have HR2 := Lib.hid (Kd.C_below (Kd.C_below HR.out HB1.out) hb2)
          clear hb2
          go_wp2_with fail
          refine (impl_LabelsOk.calls k A0 c0 l0 true w2 HR2.out hc0 HA.out).mono ?_
          rintro e w3 ⟨rfl, hb3⟩
          have HB3 := Lib.hid (below_then HB2.out HB2.out.size hb3)
          have HV3 := Lib.hid (Kd.R_below HV2.out hb3)
          have HR3 := Lib.hid (Kd.C_below HR2.out hb3)
          clear hb3
          go_wp2_with fail
          refine (impl_NameOk.calls k a1 true _ HN.out).mono ?_
          rintro e w4 ⟨rfl, hd4⟩
          obtain ⟨n4, rfl⟩ := hd4
          go_wp2_with fail
          refine (impl_NameOk.calls k a2 true _ HM.out).mono ?_
          rintro e w4 ⟨rfl, hd4⟩
          obtain ⟨n5, rfl⟩ := hd4
          go_wp2_with fail
          refine (slices_Clone_simpl_Label_impl_Label.calls A0 c0 l0 l0 _ (Kd.C_drewN HR3.out (n4 + n5)) hc0 HCL.out).mono ?_
          rintro e w9 ⟨v9, rfl, hv9, hb9⟩
          have HB9 := Lib.hid (below_then (pw_below_drewN HB3.out (n4 + n5)) ((pw_below_drewN HB3.out (n4 + n5))).size hb9)
          have HV9 := Lib.hid (Kd.R_lower hv9 ((pw_below_drewN HB3.out (n4 + n5))).size)
          clear hv9 hb9
          go_wp2
          go_ret2
          exact ⟨_, rfl, HV9.out, HB9.out⟩
        · rw [if_neg h8] at h
          cases h
          go_enter Tryd.func19, Tryd.ntmps19
          go_wp2_with fail
          refine (impl_LabelDrop.calls A0 c0 l0 a1 out w HR.out hc0 HDR.out).mono ?_
          rintro e w1 ⟨v, rfl, hv, hb1⟩
          obtain ⟨A, c, rfl, hlc, hC⟩ := Kd.R_reads hv
          have HV := Lib.hid hv
          have HB1 := Lib.hid hb1
          have HC := Lib.hid hC
          clear hv hb1 hC
          go_wp2_with fail
          refine (slices_BinarySearchFunc_simpl_Label_impl_Label_string.calls k42 rfl 50 (fun _ _ => by kernel_rfl) #[] (fun x => impl_LabelSet_1.f x.f0 x.f1 a1) A c out (.string a1) i fd w1 HC.out hlc (by omega) ?_ HBS.out).mono ?_
          · intro x cs b W hx hp hk hb
            obtain rfl := k42_open hk
            exact impl_LabelSet_1.calls x.f0 x.f1 a1 b W hp
          rintro e w2 ⟨rfl, hb2⟩
          have HB2 := Lib.hid (below_then HB1.out HB1.out.size hb2)
          have HV2 := Lib.hid (Kd.R_below HV.out hb2)
          have HR2 := Lib.hid (Kd.C_below (Kd.C_below HR.out HB1.out) hb2)
          clear hb2
          go_wp2_with fail
          refine (impl_LabelsOk.calls k A0 c0 l0 true w2 HR2.out hc0 HA.out).mono ?_
          rintro e w3 ⟨rfl, hb3⟩
          have HB3 := Lib.hid (below_then HB2.out HB2.out.size hb3)
          have HV3 := Lib.hid (Kd.R_below HV2.out hb3)
          have HR3 := Lib.hid (Kd.C_below HR2.out hb3)
          clear hb3
          go_wp2_with fail
          refine (impl_NameOk.calls k a1 true _ HN.out).mono ?_
          rintro e w4 ⟨rfl, hd4⟩
          obtain ⟨n4, rfl⟩ := hd4
          go_wp2_with fail
          refine (impl_NameOk.calls k a2 true _ HM.out).mono ?_
          rintro e w4 ⟨rfl, hd4⟩
          obtain ⟨n5, rfl⟩ := hd4
          go_wp2_with fail
          have hbv := below_alloc (pw_below_drewN HB3.out (n4 + n5)) (.cells #[.string a1, .string a2] 42)
          have hRv := Kd.R_below (Kd.R_drewN HV3.out (n4 + n5)) (below_alloc (Below.refl _ (w3.drewN (n4 + n5))) (.cells #[.string a1, .string a2] 42))
          refine (slices_Insert_simpl_Label_impl_Label.calls k42 rfl (.slice A out.length c) out i (by omega) ⟨a1, a2⟩ [.string a1, .string a2] _ (fun _ => True) (fun _ => False) w _ hbv hRv (heap_alloc_new _ _) (k42_mkM _ _ _ ⟨a1, a2⟩) (fun _ h => h.elim) (fun _ _ => trivial) ?_ (by omega)).mono ?_
          · intro e
            have h_ := Kd.R_lt (Kd.R_drewN HV3.out (n4 + n5)) _ e.symm
            exact Nat.lt_irrefl _ h_
          rintro e w9 ⟨v9, rfl, hv9, hb9, _⟩
          have HB9 := Lib.hid hb9
          have HV9 := Lib.hid hv9
          clear hv9 hb9 hbv hRv
          go_wp2
          go_ret2
          exact ⟨_, rfl, HV9.out, HB9.out⟩

end Go.Proofs.YtpjpnppoejnafaaDoor.G

/- PLabSetI -/
/-
  A label is set: the program's answer.
-/
namespace Go.Proofs.YtpjpnppoejnafaaDoor.G
open Go.RowKit Go.Proofs.YtpjpnppoejnafaaDoorW.PrintWords Go.Proofs.YtpjpnppoejnafaaDoorW.PrintLast Go.Proofs.YtpjpnppoejnafaaDoorW.PrintMore
set_option linter.unusedVariables false
set_option linter.unusedSimpArgs false
theorem insB_true (key v : ByteArray) : ∀ l : List ILab, insB key v true l = l.filter (fun x => !(x.f0.toList == key.toList))
  | [] => by simp [insB]
  | y :: ys => by
    rw [insB, insB_true key v ys]
    by_cases c : y.f0.toList = key.toList <;> simp [c]
theorem insB_false (key v : ByteArray) : ∀ l : List ILab, insB key v false l = l.takeWhile (fun x => Op.bytesLess x.f0.toList key.toList) ++ ⟨key, v⟩ :: (l.dropWhile (fun x => Op.bytesLess x.f0.toList key.toList)).filter (fun x => !(x.f0.toList == key.toList))
  | [] => by simp [insB]
  | y :: ys => by
    rw [insB]
    by_cases c : Op.bytesLess y.f0.toList key.toList = true
    · have hne : ¬ y.f0.toList = key.toList := by intro e; rw [e, bl_irrefl] at c; cases c
      simp only [c, Bool.not_true, Bool.and_false, Bool.false_eq_true, if_false, if_neg hne, List.takeWhile_cons, List.dropWhile_cons, if_true, insB_false key v ys, List.cons_append]
    · have c' := Bool.eq_false_iff.2 c
      simp only [c', Bool.not_false, Bool.and_self, if_true, insB_true, List.takeWhile_cons, List.dropWhile_cons, Bool.false_eq_true, if_false, List.nil_append]
      by_cases d : y.f0.toList = key.toList <;> simp [d]
theorem labs_up {xs : List ILab} (h : labsB xs = true) : xs.Pairwise (fun x y => Op.bytesLess x.f0.toList y.f0.toList = true) := by
  refine pair_of_next (key := fun x : ILab => x.f0.toList) (fun i hi => ?_)
  unfold labsB at h
  rw [Bool.and_eq_true, allN_true] at h
  have := h.1 (i + 1) hi
  simp only [labOkAt, Bool.and_eq_true, Bool.or_eq_true, beq_iff_eq] at this
  have h2 := this.2.2.resolve_left (by omega)
  rw [rdIL hi, Nat.add_sub_cancel, rdIL (by omega : i < xs.length)] at h2
  exact h2
theorem labGet_has {xs : List ILab} {key : ByteArray} : (labGet xs key).2 = true ↔ ∃ x ∈ xs, x.f0.toList = key.toList := by
  unfold labGet
  cases h : (List.range xs.length).find? (fun i : Nat => decide ((rd_T42 xs i).f0.toList = key.toList)) with
  | none =>
    simp only [Option.elim_none, Bool.false_eq_true, false_iff, not_exists, not_and]
    intro x hx
    obtain ⟨i, hi, rfl⟩ := List.getElem_of_mem hx
    have := List.find?_eq_none.1 h i (by simpa using hi)
    rw [rdIL hi] at this
    simpa using this
  | some i =>
    simp only [Option.elim_some, true_iff]
    have h1 := List.find?_some h
    have h2 : i < xs.length := by simpa using List.mem_of_find?_eq_some h
    rw [rdIL h2] at h1
    exact ⟨_, List.getElem_mem h2, by simpa using h1⟩
theorem filter_ne_len {xs : List ILab} {key : ByteArray} (hx : ∃ x ∈ xs, x.f0.toList = key.toList) : (dropLab xs key).length < xs.length := by
  obtain ⟨x, hx, he⟩ := hx
  have h1 := List.length_filter_le (fun x : ILab => !(x.f0.toList == key.toList)) xs
  refine Nat.lt_of_le_of_ne h1 (fun e => ?_)
  have := List.length_filter_eq_length_iff.1 e x hx
  simp [he] at this
theorem drop_none {xs : List ILab} {key : ByteArray} (hx : ¬ ∃ x ∈ xs, x.f0.toList = key.toList) : dropLab xs key = xs := by
  unfold dropLab
  rw [List.filter_eq_self]
  intro x hx2
  simp only [Bool.not_eq_true', beq_eq_false_iff_ne]
  exact fun e => hx ⟨x, hx2, e⟩
theorem implLabelSet_ev (xs : List ILab) (key v : ByteArray) (hw : wfILabs xs) (hl : xs.length ≤ 1048576) (hk : key.size ≤ 9223372036854775807) (hv : v.size ≤ 9223372036854775807) : Ev (fun k => impl_LabelSet.f k xs key v) (labSet xs key v) := by
  unfold impl_LabelSet.f
  have hc : (fun x : ILab => impl_LabelSet_1.f x.f0 x.f1 key) = fun x => some (Lib.compareBytes x.f0.data.toList key.data.toList) := rfl
  obtain ⟨q, hq⟩ := bsO_tot (fun x : ILab => Lib.compareBytes x.f0.data.toList key.data.toList) (dropLab xs key)
  refine Ev.bind (ev_now (implLabelDrop_f xs key hl)) (Ev.bind (a := q) (by rw [hc, hq]; exact Ev.now _) ?_)
  refine Ev.bind (implLabelsOk_ev xs hw) ?_
  have bad : setOk xs key v = false → labSet xs key v = (xs, false) := fun h => by unfold labSet; rw [h, if_neg Bool.false_ne_true]
  cases h1 : labsB xs with
  | false => exact ev_if_neg Bool.false_ne_true (ev_some (bad (by simp [setOk, h1])).symm)
  | true =>
    refine ev_if_pos rfl (Ev.bind (implNameOk_ev key hk) ?_)
    cases h2 : nameB key with
    | false => exact ev_if_neg Bool.false_ne_true (ev_some (bad (by simp [setOk, h2])).symm)
    | true =>
      refine ev_if_pos rfl (Ev.bind (implNameOk_ev v hv) ?_)
      cases h3 : nameB v with
      | false => exact ev_if_neg Bool.false_ne_true (ev_some (bad (by simp [setOk, h3])).symm)
      | true =>
        refine ev_if_pos rfl ?_
        have h8 : xs.length ≤ 8 := by unfold labsB at h1; rw [Bool.and_eq_true] at h1; have := of_decide_eq_true h1.2; omega
        have hup := labs_up h1
        by_cases he : ((dropLab xs key).length : Int) = 8
        · refine ev_if_pos he (ev_some (bad ?_).symm)
          have hno : ¬ ∃ x ∈ xs, x.f0.toList = key.toList := fun hx => by have := filter_ne_len hx; omega
          have hg : (labGet xs key).2 = false := by rw [← Bool.not_eq_true, labGet_has]; exact hno
          rw [drop_none hno] at he
          simp [setOk, hg, he]
        · refine ev_if_neg he (ev_some ?_)
          have hok : setOk xs key v = true := by
            simp only [setOk, h1, h2, h3, Bool.true_and, Bool.or_eq_true, bne_iff_ne]
            by_cases hx : ∃ x ∈ xs, x.f0.toList = key.toList
            · exact .inl (labGet_has.2 hx)
            · rw [drop_none hx] at he; exact .inr he
          unfold labSet
          rw [hok, if_pos rfl, insB_false]
          -- the parts
          have hN := up_parts (key := fun x : ILab => x.f0.toList) (k := key.toList) hup
          have hdec : xs = xs.takeWhile (fun x => Op.bytesLess x.f0.toList key.toList) ++ xs.dropWhile (fun x => Op.bytesLess x.f0.toList key.toList) := List.takeWhile_append_dropWhile.symm
          have hPm : ∀ x ∈ xs.takeWhile (fun x => Op.bytesLess x.f0.toList key.toList), Op.bytesLess x.f0.toList key.toList = true := fun x hx => by have := List.all_takeWhile (p := fun x : ILab => Op.bytesLess x.f0.toList key.toList) (l := xs); rw [List.all_eq_true] at this; exact this x hx
          generalize hP : xs.takeWhile (fun x => Op.bytesLess x.f0.toList key.toList) = P at hPm hdec
          generalize hM : xs.dropWhile (fun x => Op.bytesLess x.f0.toList key.toList) = M at hN hdec
          have hout : dropLab xs key = P ++ M.filter (fun x => !(x.f0.toList == key.toList)) := by
            unfold dropLab
            rw [hdec, List.filter_append]
            congr 1
            rw [List.filter_eq_self]
            intro x hx
            simp only [Bool.not_eq_true', beq_eq_false_iff_ne]
            intro e
            have := hPm x hx
            rw [e, bl_irrefl] at this
            cases this
          have hb := bsO_part (c := fun x : ILab => Lib.compareBytes x.f0.data.toList key.data.toList) (P := P) (M := M.filter (fun x => !(x.f0.toList == key.toList)))
            (fun x hx => by rw [cmp_neg, ← ByteArray.toList_eq, ← ByteArray.toList_eq]; exact hPm x hx)
            (fun x hx => by rw [cmp_neg, ← ByteArray.toList_eq, ← ByteArray.toList_eq]; exact hN x (List.mem_filter.1 hx).1)
          obtain ⟨fd, hb, _⟩ := hb
          rw [hout] at hq ⊢
          rw [hb] at hq
          cases hq
          rw [List.take_left, List.drop_left]
end Go.Proofs.YtpjpnppoejnafaaDoor.G

/- PStr0 -/
/-
  Lists of texts: read, well formed.
-/
namespace Go.Proofs.YtpjpnppoejnafaaDoor.G
open Go.RowKit Go.Proofs.YtpjpnppoejnafaaDoorW.PrintWords Go.Proofs.YtpjpnppoejnafaaDoorW.PrintLast Go.Proofs.YtpjpnppoejnafaaDoorW.PrintMore
set_option linter.unusedVariables false
set_option linter.unusedSimpArgs false
theorem rdS {xs : List ByteArray} {i : Nat} (h : i < xs.length) : rdOf ByteArray.empty xs (i : Int) = xs[i] := by unfold rdOf; rw [Int.toNat_natCast]; exact getD_at h _
end Go.Proofs.YtpjpnppoejnafaaDoor.G

/- G59 -/
-- Laid by wip/g/gprint.py out of the translation, by the kit's print program. Lean checks it.
namespace Go.Proofs.YtpjpnppoejnafaaDoor.G
open Go.RowKit Go.Proofs.YtpjpnppoejnafaaDoorW.PrintWords Go.Proofs.YtpjpnppoejnafaaDoorW.PrintLast Go.Proofs.YtpjpnppoejnafaaDoorW.PrintMore
attribute [local go_sem] max2_int min2_int max_two min_two max_three min_three max_four min_four   -- for this text's walks alone
set_option linter.unusedVariables false
set_option linter.unusedSimpArgs false

/-! ### strings_Join: function 59 -/
--IMPORT Derived.Test.YtpjpnppoejnafaaDoorShelf
def strings_Join.f (l0 : List ByteArray) (a1 : ByteArray) : Option ByteArray :=
  if l0.length ≤ 140737488355328 ∧ (Lib.join (l0.map (·.data.toList)) a1.data.toList).length ≤ 140737488355328 then some ⟨(Lib.join (l0.map (·.data.toList)) a1.data.toList).toArray⟩ else none
theorem strings_Join.calls (A0 : Option Addr) (c0 : Nat) (l0 : List ByteArray) (a1 : ByteArray) (r : ByteArray) (w : World) (hr0 : Kd.C Kd.string w A0 l0.length l0) (hc0 : l0.length ≤ c0) (h : strings_Join.f l0 a1 = some r) :
    Calls Tryd.prog 59 #[.slice A0 l0.length c0, .string a1] w fun e w' => e = .returned (.string r) ∧ Below w.heap.size w w' := by
  unfold strings_Join.f at h
  by_cases hl : l0.length ≤ 140737488355328 ∧ (Lib.join (l0.map (·.data.toList)) a1.data.toList).length ≤ 140737488355328
  · rw [if_pos hl] at h
    obtain rfl := Option.some.inj h
    rcases Nat.eq_zero_or_pos l0.length with h0 | h0
    · obtain rfl := List.eq_nil_of_length_eq_zero h0
      refine (Tryd.strings_Join_none A0 c0 a1 w).mono ?_
      rintro e w' ⟨rfl, rfl⟩
      exact ⟨rfl, Below.refl _ _⟩
    · obtain ⟨bk, o, rfl, hlt, hcells⟩ := C_cells (f := Value.string) (dflt := ByteArray.empty) (Kd.reads_of_C hr0) h0
      exact Tryd.strings_Join bk o c0 l0 a1 w hcells hlt hl.1 hc0 hl.2
  · rw [if_neg hl] at h
    cases h

end Go.Proofs.YtpjpnppoejnafaaDoor.G

/- PJoin -/
/-
  Joined strings: strings.Join, piece by piece.
-/
namespace Go.Proofs.YtpjpnppoejnafaaDoor.G
open Go.RowKit Go.Proofs.YtpjpnppoejnafaaDoorW.PrintWords Go.Proofs.YtpjpnppoejnafaaDoorW.PrintLast Go.Proofs.YtpjpnppoejnafaaDoorW.PrintMore
set_option linter.unusedVariables false
set_option linter.unusedSimpArgs false
def jn (xs : List ByteArray) (sep : ByteArray) : ByteArray := ⟨(Lib.join (xs.map (·.data.toList)) sep.data.toList).toArray⟩
theorem join_snoc (x s : List UInt8) : ∀ (ys : List (List UInt8)), Lib.join (ys ++ [x]) s = if ys = [] then x else Lib.join ys s ++ s ++ x
  | [] => by rw [if_pos rfl]; exact Lib.join_one x s
  | y :: ys => by
    rw [if_neg (by simp), List.cons_append, Lib.join_cons, Lib.join_cons]
    simp [Lib.joinTail, List.append_assoc]
theorem ba_eq {a b : ByteArray} (h : a.data.toList = b.data.toList) : a = b := by
  cases a; cases b; simp only at h; congr 1; exact Array.toList_inj.1 h
theorem jn_snoc (ys : List ByteArray) (x s : ByteArray) (h : ys ≠ []) : jn (ys ++ [x]) s = jn ys s ++ s ++ x := by
  apply ba_eq
  unfold jn
  rw [List.map_append, List.map_cons, List.map_nil, join_snoc, if_neg (by simpa using h)]
  simp [ByteArray.data_append]
theorem jn_one (x s : ByteArray) : jn [x] s = x := by
  apply ba_eq
  unfold jn
  rw [List.map_cons, List.map_nil, Lib.join_one]
theorem jn_nil (s : ByteArray) : jn [] s = ⟨#[]⟩ := rfl
theorem jn_size (s : ByteArray) (m : Nat) (hs : s.size ≤ m) : ∀ (xs : List ByteArray) (b : Nat), (∀ x ∈ xs, x.size ≤ b) → (jn xs s).size ≤ xs.length * (b + m) := by
  intro xs b h
  have key : ∀ n, ∀ ys : List ByteArray, ys.length = n → (∀ x ∈ ys, x.size ≤ b) → (jn ys s).size ≤ n * (b + m) := by
    intro n
    induction n with
    | zero => intro ys h0 _; obtain rfl := List.eq_nil_of_length_eq_zero h0; simp [jn_nil, ByteArray.size]
    | succ n ih =>
      intro ys hl hb
      obtain ⟨zs, z, rfl⟩ : ∃ zs z, ys = zs ++ [z] := ⟨ys.dropLast, ys.getLast (by intro h; rw [h] at hl; simp at hl), (List.dropLast_concat_getLast _).symm⟩
      have hzl : zs.length = n := by simpa using hl
      have hz := hb z (by simp)
      have e : (n + 1) * (b + m) = n * (b + m) + (b + m) := Nat.succ_mul _ _
      rcases List.eq_nil_or_concat zs with h0 | ⟨_, _, h0⟩
      · subst h0; rw [List.nil_append, jn_one]; omega
      · rw [jn_snoc zs z s (by rw [h0]; simp), ByteArray.size_append, ByteArray.size_append]
        have := ih zs hzl (fun x hx => hb x (by simp [hx]))
        omega
  exact key _ xs rfl h
theorem join_f (xs : List ByteArray) (s : ByteArray) (h : xs.length ≤ 140737488355328) (h' : (jn xs s).size ≤ 140737488355328) : strings_Join.f xs s = some (jn xs s) := by
  unfold strings_Join.f
  have e : (Lib.join (xs.map (·.data.toList)) s.data.toList).length = (jn xs s).size := by unfold jn ByteArray.size; simp
  rw [if_pos ⟨h, by rw [e]; exact h'⟩]; rfl
end Go.Proofs.YtpjpnppoejnafaaDoor.G

/- G34 -/
-- Laid by wip/g/gprint.py out of the translation, by the kit's print program. Lean checks it.
namespace Go.Proofs.YtpjpnppoejnafaaDoor.G
open Go.RowKit Go.Proofs.YtpjpnppoejnafaaDoorW.PrintWords Go.Proofs.YtpjpnppoejnafaaDoorW.PrintLast Go.Proofs.YtpjpnppoejnafaaDoorW.PrintMore
attribute [local go_sem] max2_int min2_int max_two min_two max_three min_three max_four min_four   -- for this text's walks alone
set_option linter.unusedVariables false
set_option linter.unusedSimpArgs false

/-! ### spec_l1Split: function 34 -/
end Go.Proofs.YtpjpnppoejnafaaDoor.G

/- GKMini -/
/-
  Short words for what printed texts say again and again: facts carried into a world that has only grown by boxes and orders.
-/
namespace Go.Proofs.YtpjpnppoejnafaaDoor.G
open Go.RowKit Go.Proofs.YtpjpnppoejnafaaDoorW.PrintWords Go.Proofs.YtpjpnppoejnafaaDoorW.PrintLast Go.Proofs.YtpjpnppoejnafaaDoorW.PrintMore
set_option linter.unusedVariables false
/-- The second world is the first one, and boxes and orders since. -/
class Gr (W W' : World) : Prop where
  out : Below W.heap.size W W'
instance Gr.refl (W : World) : Gr W W := ⟨Below.refl _ _⟩
instance Gr.alloc (W W' : World) (o : Obj) [g : Gr W W'] : Gr W (W'.alloc o) := ⟨below_then g.out g.out.size (below_alloc (Below.refl _ _) o)⟩
instance Gr.drewN (W W' : World) (n : Nat) [g : Gr W W'] : Gr W (W'.drewN n) := ⟨pw_below_drewN g.out n⟩
instance Gr.drew (W W' : World) [g : Gr W W'] : Gr W W'.drew := ⟨below_drew g.out⟩
section
variable {w W W' : World} {α : Type} {d : Kd α} {A : Option Addr} {n g gb e base : Nat} {xs : List α} {o : Obj} {v : Value} {ok : Nat → Prop}
theorem qB (h : Aside0 (Below w.heap.size w W)) [q : Gr W W'] : Below w.heap.size w W' := below_then h.out h.out.size q.out
end
section
variable {W : World} {g t : Nat} {a0 a1 a2 a3 a4 a5 a6 : Value}
end
end Go.Proofs.YtpjpnppoejnafaaDoor.G

/- GKShape -/
/-
  A variable of the library's own that some calls read: its cell holds some number.
-/
namespace Go.Proofs.YtpjpnppoejnafaaDoor.G
open Go.RowKit Go.Proofs.YtpjpnppoejnafaaDoorW.PrintWords Go.Proofs.YtpjpnppoejnafaaDoorW.PrintLast Go.Proofs.YtpjpnppoejnafaaDoorW.PrintMore
set_option linter.unusedVariables false
def SH (w : World) : Prop := ∃ m, w.cell? ⟨0, 0, none⟩ = some (.int .i64 m)
theorem SH.below {w W : World} (h : SH w) (hb : Below w.heap.size w W) : SH W := by
  obtain ⟨m, hm⟩ := h
  exact ⟨m, pw_cell_below hb hm⟩
theorem SH.mv {w W W' : World} (h : SH w) (hb : Aside0 (Below w.heap.size w W)) [q : Gr W W'] : SH W' := h.below (qB hb)
theorem SH.of {w : World} (h : w.ShapedOpen Tryd.prog) : SH w :=
  cell_of_shapedOpen_int h (t := 3) (zero := #[.int .i64 0]) (of_decide_eq_true (by kernel_rfl)) (by kernel_rfl) rfl (by kernel_rfl) (by kernel_rfl) Tryd.underlying3
end Go.Proofs.YtpjpnppoejnafaaDoor.G

/- G36 -/
-- Laid by wip/g/gprint.py out of the translation, by the kit's print program. Lean checks it.
namespace Go.Proofs.YtpjpnppoejnafaaDoor.G
open Go.RowKit Go.Proofs.YtpjpnppoejnafaaDoorW.PrintWords Go.Proofs.YtpjpnppoejnafaaDoorW.PrintLast Go.Proofs.YtpjpnppoejnafaaDoorW.PrintMore
attribute [local go_sem] max2_int min2_int max_two min_two max_three min_three max_four min_four   -- for this text's walks alone
set_option linter.unusedVariables false
set_option linter.unusedSimpArgs false

/-! ### strings_Split: function 36 -/
--IMPORT Derived.Test.YtpjpnppoejnafaaDoorShelf
--IMPORT Derived.Test.YtpjpnppoejnafaaDoorGKShape
--IMPORT Derived.Lib.SplitLaws
def strings_Split.f (a0 : ByteArray) (a1 : ByteArray) : Option (List ByteArray) :=
  if a0.size < 4294967281 ∧ 1 ≤ a1.size then some (Lib.splitB a1 0 (Lib.countB a0 a1) a0) else none
theorem strings_Split.calls (a0 : ByteArray) (a1 : ByteArray) (r : List ByteArray) (w : World) (hsh_ : SH w) (h : strings_Split.f a0 a1 = some r) :
    Calls Tryd.prog 36 #[.string a0, .string a1] w fun e w' => ∃ v0_ : Value, e = .returned (v0_) ∧ Kd.R Kd.string 9 w' w.heap.size (fun _ => True) v0_ r ∧ Below w.heap.size w w' := by
  unfold strings_Split.f at h
  obtain ⟨m, hm⟩ := hsh_
  by_cases hl : a0.size < 4294967281 ∧ 1 ≤ a1.size
  · rw [if_pos hl] at h
    obtain rfl := Option.some.inj h
    refine (Tryd.strings_Split a0 a1 m w hl.1 hm hl.2).mono ?_
    rintro e w' ⟨rfl, rfl⟩
    have hlen := Lib.splitB_all a1 hl.2 0 _ a0 rfl
    have hcl := Lib.countB_le a1 hl.2 _ a0 (Nat.le_refl _)
    have ho := own_lit_of (enc := Value.string) w w.heap.size 9 (Lib.splitB a1 0 (Lib.countB a0 a1) a0) (Nat.le_refl _) (by omega)
    rw [hlen] at ho
    exact ⟨_, rfl, Kd.R_of_own (h1 := fun _ => rfl) (by rw [hlen]; exact ho) (fun _ _ => trivial), below_alloc (Below.refl _ _) _⟩
  · rw [if_neg hl] at h
    cases h

end Go.Proofs.YtpjpnppoejnafaaDoor.G

/- PSplit -/
/-
  A text split by a byte: the reference's way and the library's come to one list; its parts joined are the text again.
-/
namespace Go.Proofs.YtpjpnppoejnafaaDoor.G
open Go.RowKit Go.Proofs.YtpjpnppoejnafaaDoorW.PrintWords Go.Proofs.YtpjpnppoejnafaaDoorW.PrintLast Go.Proofs.YtpjpnppoejnafaaDoorW.PrintMore
set_option linter.unusedVariables false
set_option linter.unusedSimpArgs false
def mkb (l : List UInt8) : ByteArray := ⟨l.toArray⟩
theorem mkb_data (l : List UInt8) : (mkb l).data.toList = l := rfl
theorem mkb_of (s : ByteArray) : mkb s.data.toList = s := by obtain ⟨⟨l⟩⟩ := s; rfl
def spl (c : UInt8) : List UInt8 → List (List UInt8)
  | [] => [[]]
  | b :: t => if b = c then [] :: spl c t else match spl c t with
    | [] => [[b]]
    | x :: xs => (b :: x) :: xs
theorem spl_ne (c : UInt8) (l : List UInt8) : spl c l ≠ [] := by
  cases l with
  | nil => simp [spl]
  | cons b t =>
    rw [spl]
    split
    · simp
    · split <;> simp
theorem spl_length (c : UInt8) : ∀ l : List UInt8, (spl c l).length ≤ l.length + 1
  | [] => by simp [spl]
  | b :: t => by
    have := spl_length c t
    rw [spl]
    split
    · simp; omega
    · split
      · simp
      · rename_i h; rw [h] at this; simp at this ⊢; omega
/-- A part is no longer than the text. -/
theorem spl_part (c : UInt8) : ∀ (l x : List UInt8), x ∈ spl c l → x.length ≤ l.length
  | [], x, h => by simp [spl] at h; simp [h]
  | b :: t, x, h => by
    have ih := spl_part c t
    rw [spl] at h
    split at h
    · rcases List.mem_cons.1 h with rfl | h
      · simp
      · have := ih x h; simp; omega
    · split at h
      · simp at h; simp [h]
      · rename_i y ys hy
        rcases List.mem_cons.1 h with rfl | h
        · have := ih y (by rw [hy]; simp); simp; omega
        · have := ih x (by rw [hy]; simp [h]); simp; omega
/-- No part holds the byte. -/
theorem spl_free (c : UInt8) : ∀ (l x : List UInt8), x ∈ spl c l → c ∉ x
  | [], x, h => by simp [spl] at h; simp [h]
  | b :: t, x, h => by
    have ih := spl_free c t
    rw [spl] at h
    split at h
    · rcases List.mem_cons.1 h with rfl | h
      · simp
      · exact ih x h
    · rename_i hb
      split at h
      · simp at h; subst h; simp; exact fun e => hb e.symm
      · rename_i y ys hy
        rcases List.mem_cons.1 h with rfl | h
        · have := ih y (by rw [hy]; simp)
          simp only [List.mem_cons, not_or]
          exact ⟨fun e => hb e.symm, this⟩
        · exact ih x (by rw [hy]; simp [h])
theorem spl_none (c : UInt8) : ∀ (l : List UInt8), c ∉ l → spl c l = [l]
  | [], _ => rfl
  | b :: t, h => by
    simp only [List.mem_cons, not_or] at h
    rw [spl, if_neg (fun e => h.1 e.symm), spl_none c t h.2]
theorem spl_app (c : UInt8) : ∀ (l t : List UInt8), c ∉ l → spl c (l ++ c :: t) = l :: spl c t
  | [], t, _ => by rw [List.nil_append, spl, if_pos rfl]
  | b :: l, t, h => by
    simp only [List.mem_cons, not_or] at h
    rw [List.cons_append, spl, if_neg (fun e => h.1 e.symm), spl_app c l t h.2]
theorem join_cons (x : List UInt8) (xs : List (List UInt8)) (s : List UInt8) (h : xs ≠ []) : Lib.join (x :: xs) s = x ++ s ++ Lib.join xs s := by
  cases xs with
  | nil => exact absurd rfl h
  | cons y ys => simp [Lib.join]
/-- Parts without the byte, joined by it, are found again. -/
theorem spl_join (c : UInt8) : ∀ (xs : List (List UInt8)), xs ≠ [] → (∀ x ∈ xs, c ∉ x) → spl c (Lib.join xs [c]) = xs
  | [], h, _ => absurd rfl h
  | [x], _, h => by
    rw [show Lib.join [x] [c] = x by simp [Lib.join]]
    exact spl_none c x (h x (by simp))
  | x :: y :: ys, _, h => by
    rw [join_cons _ _ _ (by simp), List.append_assoc, List.singleton_append, spl_app c x _ (h x (by simp)), spl_join c (y :: ys) (by simp) (fun z hz => h z (by simp [hz]))]
/-- The parts joined are the text. -/
theorem join_spl (c : UInt8) : ∀ (l : List UInt8), Lib.join (spl c l) [c] = l
  | [] => by simp [spl, Lib.join]
  | b :: t => by
    have ih := join_spl c t
    rw [spl]
    split
    · rename_i hb
      rw [join_cons _ _ _ (spl_ne c t), ih, hb]; rfl
    · split
      · rename_i h; exact absurd h (spl_ne c t)
      · rename_i x xs h
        rw [h] at ih
        cases xs with
        | nil => simp [Lib.join] at ih ⊢; rw [ih]
        | cons y ys =>
          rw [join_cons _ _ _ (by simp)] at ih ⊢
          rw [← ih]; simp
/-! ### the library's -/
theorem spl_index (c : UInt8) : ∀ (l : List UInt8), (Lib.index l [c] = -1 → spl c l = [l]) ∧ ∀ i : Nat, Lib.index l [c] = i → spl c l = l.take i :: spl c (l.drop (i + 1))
  | [] => by
    refine ⟨fun _ => rfl, fun i h => ?_⟩
    simp [Lib.index] at h
  | b :: t => by
    obtain ⟨h1, h2⟩ := spl_index c t
    rw [Lib.index]
    by_cases hb : b = c
    · subst hb
      have hp : List.isPrefixOf [b] (b :: t) = true := by simp [List.isPrefixOf]
      rw [if_pos hp]
      refine ⟨fun h => by omega, fun i h => ?_⟩
      obtain rfl : i = 0 := by omega
      rw [spl, if_pos rfl]; simp
    · have hp : ¬ List.isPrefixOf [c] (b :: t) = true := by
        simp [List.isPrefixOf]; exact fun e => hb e.symm
      rw [if_neg hp]
      by_cases hm : Lib.index t [c] = -1
      · rw [if_pos (beq_iff_eq.2 hm)]
        refine ⟨fun _ => ?_, fun i h => by omega⟩
        rw [spl, if_neg hb, h1 hm]
      · rw [if_neg (fun e => hm (beq_iff_eq.1 e))]
        obtain ⟨j, hj⟩ : ∃ j : Nat, Lib.index t [c] = j := by
          rcases Lib.index_spec t [c] with h | ⟨j, h, _⟩
          · exact absurd h.1 hm
          · exact ⟨j, h⟩
        refine ⟨fun h => by omega, fun i h => ?_⟩
        obtain rfl : i = j + 1 := by omega
        rw [spl, if_neg hb, h2 j hj]; simp
theorem splitK_spl (c : UInt8) : ∀ (k : Nat) (l : List UInt8), Lib.count l [c] = k → Lib.splitK [c] 0 k l = spl c l
  | 0, l, h => by
    rcases Lib.index_spec l [c] with hm | ⟨i, hi, _⟩
    · rw [Lib.splitK, (spl_index c l).1 hm.1]
    · rw [Lib.count_hit (by simp) hi] at h; omega
  | k + 1, l, h => by
    rw [Lib.splitK]
    rcases Lib.index_spec l [c] with hm | ⟨i, hi, _⟩
    · rw [if_pos (beq_iff_eq.2 hm.1), (spl_index c l).1 hm.1]
    · rw [Lib.count_hit (by simp) hi] at h
      have e : (Lib.index l [c]).toNat = i := by omega
      rw [if_neg (fun e => by have := beq_iff_eq.1 e; omega), (spl_index c l).2 i hi, e, List.length_singleton, Nat.add_zero, splitK_spl c k _ (by rw [List.length_singleton] at h; omega)]
theorem splitB_spl (c : UInt8) (s : ByteArray) : Lib.splitB ⟨#[c]⟩ 0 (Lib.countB s ⟨#[c]⟩) s = (spl c s.data.toList).map mkb := by
  have h := Lib.splitB_data ⟨#[c]⟩ 0 (Lib.countB s ⟨#[c]⟩) s
  have e : Lib.splitK [c] 0 (Lib.countB s ⟨#[c]⟩) s.data.toList = spl c s.data.toList := splitK_spl c _ _ rfl
  have h2 : (Lib.splitB ⟨#[c]⟩ 0 (Lib.countB s ⟨#[c]⟩) s).map (·.data.toList) = spl c s.data.toList := h.trans e
  rw [← h2, List.map_map]
  exact (List.map_id'' (fun x => mkb_of x) _).symm
theorem split_f (c : UInt8) (s : ByteArray) (h : s.size < 4294967281) : strings_Split.f s ⟨#[c]⟩ = some ((spl c s.data.toList).map mkb) := by
  unfold strings_Split.f
  rw [if_pos ⟨h, Nat.le_refl 1⟩, splitB_spl]
/-! ### the reference's -/
theorem bt_byte (s : ByteArray) (c : UInt8) {i : Nat} (h : i < s.data.toList.length) : (bt s (i : Int) = (c.toNat : Int)) ↔ s.data.toList[i] = c := by
  have hs : i < s.size := by rw [Array.length_toList] at h; exact h
  have e : bt s (i : Int) = ((s.data.toList[i]'h).toNat : Int) := by
    unfold bt
    rw [dif_pos (by rw [Int.toNat_natCast]; exact hs)]
    rfl
  rw [e]
  constructor
  · intro h2; exact UInt8.toNat_inj.1 (by omega)
  · intro h2; rw [h2]
theorem size_data (s : ByteArray) : s.size = s.data.toList.length := by rw [Array.length_toList]; rfl
end Go.Proofs.YtpjpnppoejnafaaDoor.G

/- G23 -/
-- Laid by wip/g/gprint.py out of the translation, by the kit's print program. Lean checks it.
namespace Go.Proofs.YtpjpnppoejnafaaDoor.G
open Go.RowKit Go.Proofs.YtpjpnppoejnafaaDoorW.PrintWords Go.Proofs.YtpjpnppoejnafaaDoorW.PrintLast Go.Proofs.YtpjpnppoejnafaaDoorW.PrintMore
attribute [local go_sem] max2_int min2_int max_two min_two max_three min_three max_four min_four   -- for this text's walks alone
set_option linter.unusedVariables false
set_option linter.unusedSimpArgs false

/-! ### impl_LabelsText: function 23 -/
def impl_LabelsText.l0 : Nat → List ByteArray → List (S42) → Int → Int → Option (ByteArray)
  | 0, _, _, _, _ => none
  | k + 1, x3, x10, x11, x12 => if x12 < x11 then (if 0 ≤ x12 then (if x12 < (x10.length : Int) then (if ((rd_T42 x10 x12).f0).size + 1 ≤ 9223372036854775807 then (if (((rd_T42 x10 x12).f0) ++ (⟨#[61]⟩ : ByteArray)).size + ((rd_T42 x10 x12).f1).size ≤ 9223372036854775807 then (if x3.length < 8796093022208 then (impl_LabelsText.l0 k (x3 ++ [(((rd_T42 x10 x12).f0) ++ (⟨#[61]⟩ : ByteArray)) ++ ((rd_T42 x10 x12).f1)]) x10 x11 (wrap64 (x12 + 1))) else (none)) else (none)) else (none)) else (none)) else (none)) else ((strings_Join.f x3 (⟨#[44]⟩ : ByteArray)).bind fun t156 => (some t156))
def impl_LabelsText.f (k : Nat) (l0 : List (S42)) : Option (ByteArray) := (impl_LabelsOk.f k l0).bind fun t147 => (if t147 = true then (impl_LabelsText.l0 k (([] : List ByteArray)) l0 (l0.length : Int) 0) else (some (⟨#[]⟩ : ByteArray)))
set_option maxHeartbeats 8000000 in
set_option maxRecDepth 100000 in
theorem impl_LabelsText.calls (k : Nat) (A0 : Option Addr) (c0 : Nat) (l0 : List (S42)) (r : ByteArray) (w : World) (hr0 : Kd.C k42 w A0 l0.length l0) (hc0 : l0.length ≤ c0) (h : impl_LabelsText.f k l0 = some r) :
    Calls Tryd.prog 23 #[.slice A0 l0.length c0] w fun e w' => e = .returned (.string r) ∧ Below w.heap.size w w' := by
  have hu42 := Tryd.underlying42
  have HR0 := Aside0.mk hr0
  have HC0 := Aside0.mk hc0
  clear hr0 hc0
  have HB := Aside0.mk (Below.refl w.heap.size w)
  have H : ((impl_LabelsOk.f k l0).bind fun t147 => (if t147 = true then (impl_LabelsText.l0 k (([] : List ByteArray)) l0 (l0.length : Int) 0) else (some (⟨#[]⟩ : ByteArray)))) = some r := h
  clear h
  replace H := Option.bind_eq_some_iff.mp H
  obtain ⟨t147, A20, H⟩ := H
  replace H : (if t147 = true then (impl_LabelsText.l0 k (([] : List ByteArray)) l0 (l0.length : Int) 0) else (some (⟨#[]⟩ : ByteArray))) = some r := H
  have A2 := Aside0.mk A20
  clear A20
  by_cases c3 : t147 = true
  · subst c3
    have H1 : (impl_LabelsText.l0 k (([] : List ByteArray)) l0 (l0.length : Int) 0) = some r := by rw [if_pos rfl] at H; exact H
    clear H
    have H := H1
    clear H1
    obtain ⟨y148, hy148⟩ : ∃ y_ : List ByteArray, y_ = (([] : List ByteArray)) := ⟨_, rfl⟩
    replace H : (impl_LabelsText.l0 k y148 l0 (l0.length : Int) 0) = some r := by first | (rw [hy148]; with_reducible exact H) | (have H2_ := (Option.bind_some _ _).symm.trans H; rw [hy148]; with_reducible exact H2_) | (have H2_ := (Option.bind_some _ _).symm.trans H; with_reducible exact H2_) | with_reducible exact H | (rw [hy148]; exact H) | exact H
    have Ny148 := Aside0.mk hy148
    clear hy148
    have H' := Aside0.mk H
    clear H
    go_enter Tryd.func23, Tryd.ntmps23
    go_wp2_with (first | ((with_reducible refine gate_callee (f := 24) rfl ?_); refine goesL_ (some 7) rfl rfl Tryd.func24 (by kernel_rfl) rfl #[.slice A0 l0.length c0] rfl (by (try simp only [List.map_toArray, List.map_cons, List.map_nil]); first | done | rfl | (simp only [List.length_drop, List.length_take]; rfl)) ?_; (with_reducible refine (impl_LabelsOk.calls k _ _ l0 true _ ?side1 ?side2 A2.out).mono ?_); (case side1 => repeat (first | exact HR0.out | (with_reducible refine Kd.C_alloc ?_ _) | (with_reducible refine Kd.C_drewN ?_ _) | (with_reducible refine Kd.C_drew ?_))); (case side2 => exact HC0.out); rintro e w4 ⟨rfl, hb⟩; refine ⟨_, rfl, ?_⟩; have n0_ := Aside0.mk (below_step (by repeat (first | (with_reducible first | exact HB.out | apply below_alloc | apply pw_below_drewN | apply below_drew1) | exact HB.out)) hb); clear HB; have HB := n0_; clear n0_; (try clear hb); (try clear hb2); (try clear hk); (try clear hi)) | ((with_reducible refine gate_dst (N := 9) rfl ?_); refine Kd.R_lit Kd.string _ 9 ?hg (N := 9) ?hd (xs := ([] : List ByteArray)) (inner := []) (ok := fun _ => True) (okp := fun _ => True) ?hr ?hp (fun _ hk => hk) trivial (Below.refl _ _) (Nat.le_refl _) (by simp) ?_; (case hd => rfl); (case hg => rfl); (case hr => first | (go_simp; done) | (go_simp; rfl)); (case hp => exact (Reps.none _ _)); intro v149 w5 ho6 hb hg_ hnew_; clear hg_ hnew_; (first | rw [← Ny148.out] at ho6 | (simp only [Int.reduceToNat] at ho6; rw [← Ny148.out] at ho6)); have n0_ := Aside0.mk (Kd.R_lower ho6 (below_size (by repeat (first | (with_reducible first | exact HB.out | apply below_alloc | apply pw_below_drewN | apply below_drew1) | exact HB.out)))); have n1_ := Aside0.mk (below_step (by repeat (first | (with_reducible first | exact HB.out | apply below_alloc | apply pw_below_drewN | apply below_drew1) | exact HB.out)) hb); clear HB; have HO150 := n0_; have HB := n1_; clear n0_ n1_; clear hb ho6))
    go_loopg [3, 12] k (fun kq v3 v12 w' => ∃ (x3_1 : List ByteArray) (x12_1 : Int), v12 = .int .i64 x12_1 ∧ Aside0 (impl_LabelsText.l0 kq x3_1 l0 (l0.length : Int) x12_1 = some r) ∧ Aside0 (kq ≤ k) ∧ Aside0 (Kd.R Kd.string 9 w' w.heap.size (fun _ => True) v3 x3_1) ∧ Aside0 (Below w.heap.size w w'))
    case atStart => exact ⟨(y148), (0), (by first | rfl | (simp; done) | (simp [*]; done)), H', ⟨Nat.le_refl _⟩, ⟨by (with_reducible repeat (first | apply Kd.R_alloc | apply Kd.R_drewN | apply Kd.R_drew)); exact HO150.out⟩, ⟨by repeat (first | (with_reducible first | exact HB.out | apply below_alloc | apply pw_below_drewN | apply below_drew1) | exact HB.out)⟩⟩
    case round =>
      clear H'
      try clear c2
      try clear p2
      try clear c3
      obtain ⟨x3_1, x12_1, rfl, HA, HK1, HO_3, HB⟩ := hrel
      cases gk with
      | zero => exact absurd HA.out (by simp [impl_LabelsText.l0])
      | succ k1 =>
        have H := HA.out
        clear HA
        simp only [impl_LabelsText.l0] at H
        by_cases c7 : x12_1 < (l0.length : Int)
        · rw [if_pos c7] at H
          have c7b0 : decide (x12_1 < (l0.length : Int)) = true := decide_eq_true c7
          clear c7
          by_cases c8 : 0 ≤ x12_1
          · rw [if_pos c8] at H
            have c8b0 : decide (0 ≤ x12_1) = true := decide_eq_true c8
            clear c8
            by_cases c9 : x12_1 < (l0.length : Int)
            · rw [if_pos c9] at H
              have c9b0 : decide (x12_1 < (l0.length : Int)) = true := decide_eq_true c9
              clear c9
              by_cases c10 : ((rd_T42 l0 x12_1).f0).size + 1 ≤ 9223372036854775807
              · rw [if_pos c10] at H
                have c10b0 := eq_true c10
                have c10b1 : decide (((rd_T42 l0 x12_1).f0).size + 1 ≤ 9223372036854775807) = true := decide_eq_true c10
                try have c10b2 : (9223372036854775807 < ((rd_T42 l0 x12_1).f0).size + 1) = False := eq_false (Nat.not_lt.2 c10)
                by_cases c11 : (((rd_T42 l0 x12_1).f0) ++ (⟨#[61]⟩ : ByteArray)).size + ((rd_T42 l0 x12_1).f1).size ≤ 9223372036854775807
                · rw [if_pos c11] at H
                  have c11b0 := eq_true c11
                  have c11b1 : decide ((((rd_T42 l0 x12_1).f0) ++ (⟨#[61]⟩ : ByteArray)).size + ((rd_T42 l0 x12_1).f1).size ≤ 9223372036854775807) = true := decide_eq_true c11
                  try have c11b2 : (9223372036854775807 < (((rd_T42 l0 x12_1).f0) ++ (⟨#[61]⟩ : ByteArray)).size + ((rd_T42 l0 x12_1).f1).size) = False := eq_false (Nat.not_lt.2 c11)
                  by_cases c12 : x3_1.length < 8796093022208
                  · rw [if_pos c12] at H
                    have LMc12 := Aside0.mk c12
                    clear c12
                    obtain ⟨y153, hy153⟩ : ∃ y_ : List ByteArray, y_ = (x3_1 ++ [(((rd_T42 l0 x12_1).f0) ++ (⟨#[61]⟩ : ByteArray)) ++ ((rd_T42 l0 x12_1).f1)]) := ⟨_, rfl⟩
                    replace H : (impl_LabelsText.l0 k1 y153 l0 (l0.length : Int) (wrap64 (x12_1 + 1))) = some r := by first | (rw [hy153]; with_reducible exact H) | (have H2_ := (Option.bind_some _ _).symm.trans H; rw [hy153]; with_reducible exact H2_) | (have H2_ := (Option.bind_some _ _).symm.trans H; with_reducible exact H2_) | with_reducible exact H | (rw [hy153]; exact H) | exact H
                    have Ny153 := Aside0.mk hy153
                    clear hy153
                    have H' := Aside0.mk H
                    clear H
                    have p151 : 0 ≤ (x12_1 : Int) := of_decide_eq_true (by first | (with_reducible assumption) | assumption)
                    have q151 : x12_1 < (l0.length : Int) := of_decide_eq_true (by first | (with_reducible assumption) | assumption)
                    obtain ⟨ad151, e151, hx151_0, hx151_1⟩ := at_T42 HR0.out x12_1 p151 q151
                    cases e151
                    replace hx151_0 := (HB.out.cell (World.block_lt_of_cell? w _ hx151_0)).trans hx151_0
                    replace hx151_1 := (HB.out.cell (World.block_lt_of_cell? w _ hx151_1)).trans hx151_1
                    replace p151 := eq_true p151
                    replace q151 := eq_true q151
                    go_wp2_with (first | ((with_reducible refine gate_dst (N := 5) rfl ?_); refine box_event ?hg (N := 5) ?hd (cs := #[.string (⟨#[]⟩ : ByteArray), .string (⟨#[]⟩ : ByteArray)]) (t := 42) ?hr ?_; (case hd => rfl); (case hg => rfl); (case hr => first | (go_simp; done) | (go_simp; rfl)); intro gb152 hg w13 hbox hb; have n0_ := Aside0.mk (Kd.R_below (by (with_reducible repeat (first | apply Kd.R_alloc | apply Kd.R_drewN | apply Kd.R_drew)); exact HO_3.out) hb); have n1_ := Aside0.mk (below_step (by repeat (first | (with_reducible first | exact HB.out | apply below_alloc | apply pw_below_drewN | apply below_drew1) | exact HB.out)) hb); have n2_ := Aside0.mk (hbox); have n3_ := Aside0.mk ((by rw [hg]; exact (below_size (by repeat (first | (with_reducible first | exact HB.out | apply below_alloc | apply pw_below_drewN | apply below_drew1) | exact HB.out))) : w.heap.size ≤ gb152)); have n4_ := Aside0.mk ((by rw [hg]; exact (below_size (by repeat (first | (with_reducible first | exact HB.out | apply below_alloc | apply pw_below_drewN | apply below_drew1) | exact HB.out))) : w.heap.size ≤ gb152)); clear HO_3; clear HB; have HO_3 := n0_; have HB := n1_; have BK152 := n2_; have GW152 := n3_; have GE152 := n4_; clear n0_ n1_ n2_ n3_ n4_; clear hb hbox hg; have hcz14_0 : w13.cell? ⟨gb152, 0, none⟩ = some (.string (⟨#[]⟩ : ByteArray)) := (blk_cell BK152.out 0).trans rfl; have hcz14_1 : w13.cell? ⟨gb152, 1, none⟩ = some (.string (⟨#[]⟩ : ByteArray)) := (blk_cell BK152.out 1).trans rfl; have hfz14_0 := blk_frozen BK152.out 0; have hfz14_1 := blk_frozen BK152.out 1) | ((with_reducible refine gate_builtin (b := .append) (xs := #[.tmp 16, .tmp 23]) rfl ?_); at_builtin; refine Kd.R_append Kd.string (w0 := w) w.heap.size rfl (.tmp 16) (.tmp 23) 51 9 (.string ⟨#[]⟩) 16 rfl Tryd.underlying51 info9 rfl (by decide) (by omega) u3 x3_1 ((((rd_T42 l0 x12_1).f0) ++ (⟨#[61]⟩ : ByteArray)) ++ ((rd_T42 l0 x12_1).f1)) [.string ((((rd_T42 l0 x12_1).f0) ++ (⟨#[61]⟩ : ByteArray)) ++ ((rd_T42 l0 x12_1).f1))] (fun _ => True) (fun _ => False) rfl (by first | (go_simp; done) | (go_simp; rfl)) ?aP (fun _ hk => hk.elim) ?aF ?aO ?aB ?aS ?aL ?_; (case aP => exact rfl); (case aB => exact (by repeat (first | (with_reducible first | exact HB.out | apply below_alloc | apply pw_below_drewN | apply below_drew1 | refine below_set ?_ GE152.out) | exact HB.out))); (case aF => exact (fun _ _ => trivial)); (case aO => exact (by (with_reducible repeat (first | apply Kd.R_alloc | apply Kd.R_drewN | apply Kd.R_drew)); exact Kd.R_mono (Kd.R_far (p := ⟨gb152, 1, none⟩) (Kd.R_far (p := ⟨gb152, 0, none⟩) (Kd.R_types HO_3.out BK152.out (by decide)) (fun _ hk => hk.2) (.string ((rd_T42 l0 x12_1).f0))) (fun _ hk => hk.2) (.string ((rd_T42 l0 x12_1).f1))) (fun _ hk => trivial))); (case aS => exact (below_size (by repeat (first | (with_reducible first | exact HB.out | apply below_alloc | apply pw_below_drewN | apply below_drew1 | refine below_set ?_ GE152.out) | exact HB.out)))); (case aL => have := LMc12.out; omega); intro v154 w15 ho hb hg hat; rw [← Ny153.out] at ho; have n0_ := Aside0.mk (blk_grown (g := gb152) (o := .cells #[.string ((rd_T42 l0 x12_1).f0), .string ((rd_T42 l0 x12_1).f1)] 42 (0, 0)) (by (with_reducible repeat (first | refine blk_drewN ?_ _ | refine blk_drew ?_ | refine blk_alloc ?_ _)); refine blk_put (cs := #[.string ((rd_T42 l0 x12_1).f0), .string (⟨#[]⟩ : ByteArray)]) ?_ 1 _ rfl; (with_reducible repeat (first | refine blk_drewN ?_ _ | refine blk_drew ?_ | refine blk_alloc ?_ _)); refine blk_put (cs := #[.string (⟨#[]⟩ : ByteArray), .string (⟨#[]⟩ : ByteArray)]) ?_ 0 _ rfl; (with_reducible repeat (first | refine blk_drewN ?_ _ | refine blk_drew ?_ | refine blk_alloc ?_ _)); exact BK152.out) hg (Kd.R_ne HO_3.out BK152.out (by decide))); have n1_ := Aside0.mk (hb); have n2_ := Aside0.mk (ho); clear BK152; clear HB; clear HO_3; have BK152 := n0_; have HB := n1_; have HO155 := n2_; clear n0_ n1_ n2_; clear ho hb hg hat))
                    go_roundg k1
                    case measure => have := HK1.out; omega
                    case rel => exact ⟨(y153), (wrap64 (x12_1 + 1)), (by first | rfl | (simp; done) | (simp [*]; done)), H', ⟨by have := HK1.out; omega⟩, ⟨by (with_reducible repeat (first | apply Kd.R_alloc | apply Kd.R_drewN | apply Kd.R_drew)); exact HO155.out⟩, ⟨by repeat (first | (with_reducible first | exact HB.out | apply below_alloc | apply pw_below_drewN | apply below_drew1 | refine below_set ?_ GE152.out) | exact HB.out)⟩⟩
                  · rw [if_neg c12] at H
                    exact absurd H (by simp)
                · rw [if_neg c11] at H
                  exact absurd H (by simp)
              · rw [if_neg c10] at H
                exact absurd H (by simp)
            · rw [if_neg c9] at H
              exact absurd H (by simp)
          · rw [if_neg c8] at H
            exact absurd H (by simp)
        · rw [if_neg c7] at H
          have c7b0 : decide (x12_1 < (l0.length : Int)) = false := decide_eq_false c7
          clear c7
          replace H := Option.bind_eq_some_iff.mp H
          obtain ⟨t156, A160, H⟩ := H
          replace H : (some t156) = some r := H
          have A16 := Aside0.mk A160
          clear A160
          obtain rfl := Option.some.inj H
          obtain ⟨Ao17, co17, eo17⟩ := Kd.R_slice HO_3.out
          subst eo17
          go_wp2_with (first | ((with_reducible refine gate_callee (f := 59) rfl ?_); refine goesL_ (some 27) rfl rfl Tryd.func59 (by kernel_rfl) rfl #[.slice Ao17 x3_1.length co17, .string (⟨#[44]⟩ : ByteArray)] rfl (by (try simp only [List.map_toArray, List.map_cons, List.map_nil]); first | done | rfl | (simp only [List.length_drop, List.length_take]; rfl)) ?_; (with_reducible refine (strings_Join.calls _ _ x3_1 (⟨#[44]⟩ : ByteArray) t156 _ ?side1 ?side2 A16.out).mono ?_); (case side1 => repeat (first | exact (Kd.R_reads' HO_3.out).2.2 | (with_reducible refine Kd.C_alloc ?_ _) | (with_reducible refine Kd.C_drewN ?_ _) | (with_reducible refine Kd.C_drew ?_))); (case side2 => exact (Kd.R_reads' HO_3.out).2.1); rintro e w18 ⟨rfl, hb⟩; refine ⟨_, rfl, ?_⟩; have n0_ := Aside0.mk (Kd.R_below (by (with_reducible repeat (first | apply Kd.R_alloc | apply Kd.R_drewN | apply Kd.R_drew)); exact HO_3.out) hb); have n1_ := Aside0.mk (below_step (by repeat (first | (with_reducible first | exact HB.out | apply below_alloc | apply pw_below_drewN | apply below_drew1) | exact HB.out)) hb); clear HO_3; clear HB; have HO_3 := n0_; have HB := n1_; clear n0_ n1_; (try clear hb); (try clear hb2); (try clear hk); (try clear hi)))
          go_ret
          exact ⟨by first | rfl | (simp [errW_none, errW_some] <;> rfl) | (simp [*, errW_none, errW_some] <;> rfl), by repeat (first | (with_reducible first | exact HB.out | apply below_alloc | apply pw_below_drewN | apply below_drew1) | exact HB.out)⟩
  · replace c3 := Bool.eq_false_iff.mpr c3
    subst c3
    have H1 : (some (⟨#[]⟩ : ByteArray)) = some r := by rw [if_neg (show ¬ (false = true) by decide)] at H; exact H
    clear H
    have H := H1
    clear H1
    obtain rfl := Option.some.inj H
    go_enter Tryd.func23, Tryd.ntmps23
    go_wp2_with (first | ((with_reducible refine gate_callee (f := 24) rfl ?_); refine goesL_ (some 7) rfl rfl Tryd.func24 (by kernel_rfl) rfl #[.slice A0 l0.length c0] rfl (by (try simp only [List.map_toArray, List.map_cons, List.map_nil]); first | done | rfl | (simp only [List.length_drop, List.length_take]; rfl)) ?_; (with_reducible refine (impl_LabelsOk.calls k _ _ l0 false _ ?side1 ?side2 A2.out).mono ?_); (case side1 => repeat (first | exact HR0.out | (with_reducible refine Kd.C_alloc ?_ _) | (with_reducible refine Kd.C_drewN ?_ _) | (with_reducible refine Kd.C_drew ?_))); (case side2 => exact HC0.out); rintro e w19 ⟨rfl, hb⟩; refine ⟨_, rfl, ?_⟩; have n0_ := Aside0.mk (below_step (by repeat (first | (with_reducible first | exact HB.out | apply below_alloc | apply pw_below_drewN | apply below_drew1) | exact HB.out)) hb); clear HB; have HB := n0_; clear n0_; (try clear hb); (try clear hb2); (try clear hk); (try clear hi)))
    go_ret
    exact ⟨by first | rfl | (simp [errW_none, errW_some] <;> rfl) | (simp [*, errW_none, errW_some] <;> rfl), by repeat (first | (with_reducible first | exact HB.out | apply below_alloc | apply pw_below_drewN | apply below_drew1) | exact HB.out)⟩

end Go.Proofs.YtpjpnppoejnafaaDoor.G

/- PLabText -/
/-
  LabelsText, the program's: labels that are right as one text.
-/
namespace Go.Proofs.YtpjpnppoejnafaaDoor.G
open Go.RowKit Go.Proofs.YtpjpnppoejnafaaDoorW.PrintWords Go.Proofs.YtpjpnppoejnafaaDoorW.PrintLast Go.Proofs.YtpjpnppoejnafaaDoorW.PrintMore
set_option linter.unusedVariables false
set_option linter.unusedSimpArgs false
theorem nameB_sz {s : ByteArray} (h : nameB s = true) : s.size ≤ 20 := by
  simp only [nameB, Bool.and_eq_true] at h
  have := inB_true h.2.1
  omega
def labTxt (x : ILab) : ByteArray := x.f0 ++ ⟨#[61]⟩ ++ x.f1
def labsTxt (xs : List ILab) : ByteArray := if labsB xs = true then jn (xs.map labTxt) ⟨#[44]⟩ else ⟨#[]⟩
theorem labsB_parts {xs : List ILab} (h : labsB xs = true) : xs.length ≤ 8 ∧ ∀ i (hi : i < xs.length), nameB xs[i].f0 = true ∧ nameB xs[i].f1 = true := by
  simp only [labsB, Bool.and_eq_true, decide_eq_true_eq] at h
  refine ⟨by omega, fun i hi => ?_⟩
  have := allN_true.1 h.1 i hi
  simp only [labOkAt, Bool.and_eq_true] at this
  rw [rdIL hi] at this
  exact ⟨this.1, this.2.1⟩
theorem sz61 : (⟨#[61]⟩ : ByteArray).size = 1 := rfl
theorem labTxt_size {x : ILab} (h : nameB x.f0 = true ∧ nameB x.f1 = true) : (labTxt x).size ≤ 41 := by
  have h0 := nameB_sz h.1
  have h1 := nameB_sz h.2
  simp only [labTxt, ByteArray.size_append, sz61]; omega
theorem labs_size {xs : List ILab} (h : labsB xs = true) : (jn (xs.map labTxt) ⟨#[44]⟩).size ≤ 336 ∧ (xs.map labTxt).length ≤ 8 := by
  obtain ⟨h8, ht⟩ := labsB_parts h
  have := jn_size ⟨#[44]⟩ 1 (by decide) (xs.map labTxt) 41 (fun y hy => by
    obtain ⟨x, hx, rfl⟩ := List.mem_map.1 hy
    obtain ⟨i, hi, rfl⟩ := List.getElem_of_mem hx
    exact labTxt_size (ht i hi))
  have hl : (xs.map labTxt).length ≤ 8 := by rw [List.length_map]; omega
  exact ⟨by omega, hl⟩
theorem implLabelsText_l0 (xs : List ILab) (h : labsB xs = true) : ∀ (d i : Nat), i + d = xs.length → Ev (fun k => impl_LabelsText.l0 k ((xs.map labTxt).take i) xs xs.length i) (jn (xs.map labTxt) ⟨#[44]⟩)
  | 0, i, hd => by
    have hs := labs_size h
    refine Ev.step (fun k => by rw [impl_LabelsText.l0]) (ev_if_neg (by omega) ?_)
    rw [List.take_of_length_le (by simp; omega)]
    exact Ev.bind (ev_now (join_f _ _ (by omega) (by omega))) (Ev.now _)
  | d + 1, i, hd => by
    obtain ⟨h8, ht⟩ := labsB_parts h
    have hi : i < xs.length := by omega
    have h0 := nameB_sz (ht i hi).1
    have h1 := nameB_sz (ht i hi).2
    have ih := implLabelsText_l0 xs h d (i + 1) (by omega)
    rw [List.take_succ_eq_append_getElem (by simpa using hi), List.getElem_map] at ih
    have hl : ((xs.map labTxt).take i).length < 8796093022208 := by rw [List.length_take, List.length_map]; omega
    refine Ev.step (fun k => by rw [impl_LabelsText.l0]) (ev_if_pos (by omega) (ev_if_pos (by omega) (ev_if_pos (by omega) ?_)))
    simp only [wsucc hi (by omega : xs.length ≤ 9223372036854775807), rdIL hi]
    exact ev_if_pos (by omega) (ev_if_pos (by simp only [ByteArray.size_append, sz61]; omega) (ev_if_pos hl ih))
theorem implLabelsText_ev (xs : List ILab) (h : wfILabs xs) : Ev (fun k => impl_LabelsText.f k xs) (labsTxt xs) := by
  unfold impl_LabelsText.f labsTxt
  refine Ev.bind (implLabelsOk_ev xs h) ?_
  by_cases c : labsB xs = true
  · rw [if_pos c]
    exact ev_if_pos c (implLabelsText_l0 xs c xs.length 0 (by omega))
  · rw [if_neg c]
    exact ev_if_neg c (Ev.now _)
end Go.Proofs.YtpjpnppoejnafaaDoor.G

/- G37 -/
-- Laid by wip/g/gprint.py out of the translation, by the kit's print program. Lean checks it.
namespace Go.Proofs.YtpjpnppoejnafaaDoor.G
open Go.RowKit Go.Proofs.YtpjpnppoejnafaaDoorW.PrintWords Go.Proofs.YtpjpnppoejnafaaDoorW.PrintLast Go.Proofs.YtpjpnppoejnafaaDoorW.PrintMore
attribute [local go_sem] max2_int min2_int max_two min_two max_three min_three max_four min_four   -- for this text's walks alone
set_option linter.unusedVariables false
set_option linter.unusedSimpArgs false

/-! ### strings_Cut: function 37 -/
--IMPORT Derived.Test.YtpjpnppoejnafaaDoorShelf
--IMPORT Derived.Test.YtpjpnppoejnafaaDoorGKShape
def strings_Cut.f (a0 : ByteArray) (a1 : ByteArray) : Option (ByteArray × ByteArray × Bool) :=
  if a0.size < 4294967281 then some (⟨(Lib.cut a0.data.toList a1.data.toList).1.toArray⟩, ⟨(Lib.cut a0.data.toList a1.data.toList).2.1.toArray⟩, (Lib.cut a0.data.toList a1.data.toList).2.2) else none
theorem strings_Cut.calls (a0 : ByteArray) (a1 : ByteArray) (r1 : ByteArray) (r2 : ByteArray) (r3 : Bool) (w : World) (hsh_ : SH w) (h : strings_Cut.f a0 a1 = some (r1, r2, r3)) :
    Calls Tryd.prog 37 #[.string a0, .string a1] w fun e w' => e = .returned (.tuple #[.string r1, .string r2, .bool r3]) ∧ Drawn0 w w' := by
  unfold strings_Cut.f at h
  obtain ⟨m, hm⟩ := hsh_
  by_cases hl : a0.size < 4294967281
  · rw [if_pos hl] at h
    cases h
    refine (Tryd.strings_Cut a0 a1 m w hl hm).mono ?_
    rintro e w' ⟨rfl, hd⟩
    exact ⟨rfl, ⟨hd⟩⟩
  · rw [if_neg hl] at h
    cases h

end Go.Proofs.YtpjpnppoejnafaaDoor.G

/- G8 -/
-- Laid by wip/g/gprint.py out of the translation, by the kit's print program. Lean checks it.
namespace Go.Proofs.YtpjpnppoejnafaaDoor.G
open Go.RowKit Go.Proofs.YtpjpnppoejnafaaDoorW.PrintWords Go.Proofs.YtpjpnppoejnafaaDoorW.PrintLast Go.Proofs.YtpjpnppoejnafaaDoorW.PrintMore
attribute [local go_sem] max2_int min2_int max_two min_two max_three min_three max_four min_four   -- for this text's walks alone
set_option linter.unusedVariables false
set_option linter.unusedSimpArgs false

--IMPORT Derived.Test.YtpjpnppoejnafaaDoorGKShape
/-! ### impl_ParseLabels: function 8 -/
def impl_ParseLabels.l0 : Nat → ByteArray → List (S42) → List ByteArray → Int → Int → Option ((List (S42)) × Bool)
  | 0, _, _, _, _, _ => none
  | k + 1, x0, x4, x15, x16, x17 => if x17 < x16 then (if 0 ≤ x17 then (if x17 < (x15.length : Int) then ((strings_Cut.f (rdOf ByteArray.empty x15 x17) (⟨#[61]⟩ : ByteArray)).bind fun bt166 => (if x4.length < 4398046511104 then (impl_ParseLabels.l0 k x0 (x4 ++ [(⟨bt166.1, bt166.2.1⟩ : S42)]) x15 x16 (wrap64 (x17 + 1))) else (none))) else (none)) else (none)) else ((impl_LabelsText.f k x4).bind fun t172 => (if t172.toList = x0.toList then (some (x4, true)) else (some (([] : List (S42)), false))))
def impl_ParseLabels.f (k : Nat) (a0 : ByteArray) : Option ((List (S42)) × Bool) := (some (([] : List (S42)) : List (S42))).bind fun y159 => (if a0.toList = ([] : List UInt8) then (some (y159, true)) else ((strings_Split.f a0 (⟨#[44]⟩ : ByteArray)).bind fun t162 => (impl_ParseLabels.l0 k a0 y159 t162 (t162.length : Int) 0)))
set_option maxHeartbeats 8000000 in
set_option maxRecDepth 100000 in
theorem impl_ParseLabels.calls (k : Nat) (a0 : ByteArray) (r1 : List (S42)) (r2 : Bool) (w : World) (hsh_ : SH w) (h : impl_ParseLabels.f k a0 = some (r1, r2)) :
    Calls Tryd.prog 8 #[.string a0] w fun e w' => ∃ v0_ : Value, e = .returned (.tuple #[v0_, .bool r2]) ∧ Kd.R k42 42 w' w.heap.size (fun _ => True) v0_ r1 ∧ Below w.heap.size w w' := by
  have hu42 := Tryd.underlying42
  have HB := Aside0.mk (Below.refl w.heap.size w)
  have H : ((some (([] : List (S42)) : List (S42))).bind fun y159 => (if a0.toList = ([] : List UInt8) then (some (y159, true)) else ((strings_Split.f a0 (⟨#[44]⟩ : ByteArray)).bind fun t162 => (impl_ParseLabels.l0 k a0 y159 t162 (t162.length : Int) 0)))) = some (r1, r2) := h
  clear h
  obtain ⟨y159, hy159⟩ : ∃ y_ : List (S42), y_ = (([] : List (S42))) := ⟨_, rfl⟩
  replace H : (if a0.toList = ([] : List UInt8) then (some (y159, true)) else ((strings_Split.f a0 (⟨#[44]⟩ : ByteArray)).bind fun t162 => (impl_ParseLabels.l0 k a0 y159 t162 (t162.length : Int) 0))) = some (r1, r2) := by first | (rw [hy159]; with_reducible exact H) | (have H2_ := (Option.bind_some _ _).symm.trans H; rw [hy159]; with_reducible exact H2_) | (have H2_ := (Option.bind_some _ _).symm.trans H; with_reducible exact H2_) | with_reducible exact H | (rw [hy159]; exact H) | exact H
  have Ny159 := Aside0.mk hy159
  clear hy159
  by_cases c2 : a0.toList = ([] : List UInt8)
  · rw [if_pos c2] at H
    have c2b0 : (a0.toList == ([] : List UInt8)) = true := beq_iff_eq.mpr c2
    have c2b1 : (a0.toList != ([] : List UInt8)) = false := bne_eq_false_iff_eq.mpr c2
    clear c2
    simp only [Option.some.injEq, Prod.mk.injEq] at H
    obtain ⟨rfl, rfl⟩ := H
    go_enter Tryd.func8, Tryd.ntmps8
    go_wp2_with (first | ((with_reducible refine gate_dst (N := 10) rfl ?_); refine Kd.R_lit k42 _ 42 ?hg (N := 10) ?hd (xs := ([] : List (S42))) (inner := []) (ok := fun _ => True) (okp := fun _ => True) ?hr ?hp (fun _ hk => hk) trivial (Below.refl _ _) (Nat.le_refl _) (by simp) ?_; (case hd => rfl); (case hg => rfl); (case hr => first | (go_simp; done) | (go_simp; rfl)); (case hp => exact (Reps.none _ _)); intro v160 w3 ho4 hb hg_ hnew_; clear hg_ hnew_; (first | rw [← Ny159.out] at ho4 | (simp only [Int.reduceToNat] at ho4; rw [← Ny159.out] at ho4)); have n0_ := Aside0.mk (Kd.R_lower ho4 (below_size (by repeat (first | (with_reducible first | exact HB.out | apply below_alloc | apply pw_below_drewN | apply below_drew1) | exact HB.out)))); have n1_ := Aside0.mk (below_step (by repeat (first | (with_reducible first | exact HB.out | apply below_alloc | apply pw_below_drewN | apply below_drew1) | exact HB.out)) hb); clear HB; have HO161 := n0_; have HB := n1_; clear n0_ n1_; clear hb ho4))
    go_ret2
    exact ⟨_, by first | rfl | (simp [errW_none, errW_some] <;> rfl) | (simp [*, errW_none, errW_some] <;> rfl), by (with_reducible repeat (first | apply Kd.R_alloc | apply Kd.R_drewN | apply Kd.R_drew)); exact HO161.out, by repeat (first | (with_reducible first | exact HB.out | apply below_alloc | apply pw_below_drewN | apply below_drew1) | exact HB.out)⟩
  · rw [if_neg c2] at H
    have c2b0 : (a0.toList == ([] : List UInt8)) = false := beq_eq_false_iff_ne.mpr c2
    have c2b1 : (a0.toList != ([] : List UInt8)) = true := bne_iff_ne.mpr c2
    replace H := Option.bind_eq_some_iff.mp H
    obtain ⟨t162, A50, H⟩ := H
    replace H : (impl_ParseLabels.l0 k a0 y159 t162 (t162.length : Int) 0) = some (r1, r2) := H
    have A5 := Aside0.mk A50
    clear A50
    have H' := Aside0.mk H
    clear H
    go_enter Tryd.func8, Tryd.ntmps8
    go_wp2_with (first | ((with_reducible refine gate_dst (N := 10) rfl ?_); refine Kd.R_lit k42 _ 42 ?hg (N := 10) ?hd (xs := ([] : List (S42))) (inner := []) (ok := fun _ => True) (okp := fun _ => True) ?hr ?hp (fun _ hk => hk) trivial (Below.refl _ _) (Nat.le_refl _) (by simp) ?_; (case hd => rfl); (case hg => rfl); (case hr => first | (go_simp; done) | (go_simp; rfl)); (case hp => exact (Reps.none _ _)); intro v160 w6 ho7 hb hg_ hnew_; clear hg_ hnew_; (first | rw [← Ny159.out] at ho7 | (simp only [Int.reduceToNat] at ho7; rw [← Ny159.out] at ho7)); have n0_ := Aside0.mk (Kd.R_lower ho7 (below_size (by repeat (first | (with_reducible first | exact HB.out | apply below_alloc | apply pw_below_drewN | apply below_drew1) | exact HB.out)))); have n1_ := Aside0.mk (below_step (by repeat (first | (with_reducible first | exact HB.out | apply below_alloc | apply pw_below_drewN | apply below_drew1) | exact HB.out)) hb); clear HB; have HO161 := n0_; have HB := n1_; clear n0_ n1_; clear hb ho7) | ((with_reducible refine gate_callee (f := 36) rfl ?_); refine goesL_ (some 15) rfl rfl Tryd.func36 (by kernel_rfl) rfl #[.string a0, .string (⟨#[44]⟩ : ByteArray)] rfl (by (try simp only [List.map_toArray, List.map_cons, List.map_nil]); first | done | rfl | (simp only [List.length_drop, List.length_take]; rfl)) ?_; (with_reducible refine (strings_Split.calls a0 (⟨#[44]⟩ : ByteArray) t162 _ (SH.mv hsh_ HB) A5.out).mono ?_); rintro e w8 ⟨v163, rfl, ho0, hb⟩; refine ⟨_, rfl, ?_⟩; have n0_ := Aside0.mk (Kd.R_below (by (with_reducible repeat (first | apply Kd.R_alloc | apply Kd.R_drewN | apply Kd.R_drew)); exact HO161.out) hb); have n1_ := Aside0.mk (Kd.R_lower ho0 (below_size (by repeat (first | (with_reducible first | exact HB.out | apply below_alloc | apply pw_below_drewN | apply below_drew1) | exact HB.out)))); have n2_ := Aside0.mk (below_step (by repeat (first | (with_reducible first | exact HB.out | apply below_alloc | apply pw_below_drewN | apply below_drew1) | exact HB.out)) hb); clear HO161; clear HB; have HO161 := n0_; have HO164 := n1_; have HB := n2_; clear n0_ n1_ n2_; (try clear hb); (try clear hb2); (try clear hk); (try clear hi); (try clear ho0); obtain ⟨Ao9, co9, eo9⟩ := Kd.R_slice HO164.out; subst eo9))
    go_loopg [4, 17] k (fun kq v4 v17 w' => ∃ (x4_1 : List (S42)) (x17_1 : Int), v17 = .int .i64 x17_1 ∧ Aside0 (impl_ParseLabels.l0 kq a0 x4_1 t162 (t162.length : Int) x17_1 = some (r1, r2)) ∧ Aside0 (kq ≤ k) ∧ Aside0 (Kd.R k42 42 w' w.heap.size (fun _ => True) v4 x4_1) ∧ Aside0 (Kd.R Kd.string 9 w' w.heap.size (fun _ => True) (.slice Ao9 t162.length co9) t162) ∧ Aside0 (Below w.heap.size w w'))
    case atStart => exact ⟨(y159), (0), (by first | rfl | (simp; done) | (simp [*]; done)), H', ⟨Nat.le_refl _⟩, ⟨by (with_reducible repeat (first | apply Kd.R_alloc | apply Kd.R_drewN | apply Kd.R_drew)); exact HO161.out⟩, ⟨by (with_reducible repeat (first | apply Kd.R_alloc | apply Kd.R_drewN | apply Kd.R_drew)); exact HO164.out⟩, ⟨by repeat (first | (with_reducible first | exact HB.out | apply below_alloc | apply pw_below_drewN | apply below_drew1) | exact HB.out)⟩⟩
    case round =>
      clear H'
      try clear c2
      try clear c2b0
      try clear c2b1
      try clear p2
      try clear c3
      try clear c8
      obtain ⟨x4_1, x17_1, rfl, HA, HK1, HO_4, HO_15, HB⟩ := hrel
      cases gk with
      | zero => exact absurd HA.out (by simp [impl_ParseLabels.l0])
      | succ k1 =>
        have H := HA.out
        clear HA
        simp only [impl_ParseLabels.l0] at H
        by_cases c10 : x17_1 < (t162.length : Int)
        · rw [if_pos c10] at H
          have c10b0 : decide (x17_1 < (t162.length : Int)) = true := decide_eq_true c10
          clear c10
          by_cases c11 : 0 ≤ x17_1
          · rw [if_pos c11] at H
            have c11b0 : decide (0 ≤ x17_1) = true := decide_eq_true c11
            clear c11
            by_cases c12 : x17_1 < (t162.length : Int)
            · rw [if_pos c12] at H
              have c12b0 : decide (x17_1 < (t162.length : Int)) = true := decide_eq_true c12
              clear c12
              replace H := Option.bind_eq_some_iff.mp H
              obtain ⟨⟨t166, t167, t168⟩, A130, H⟩ := H
              replace H : (if x4_1.length < 4398046511104 then (impl_ParseLabels.l0 k1 a0 (x4_1 ++ [(⟨t166, t167⟩ : S42)]) t162 (t162.length : Int) (wrap64 (x17_1 + 1))) else (none)) = some (r1, r2) := H
              have A13 := Aside0.mk A130
              clear A130
              by_cases c14 : x4_1.length < 4398046511104
              · rw [if_pos c14] at H
                have LMc14 := Aside0.mk c14
                clear c14
                obtain ⟨y169, hy169⟩ : ∃ y_ : List (S42), y_ = (x4_1 ++ [(⟨t166, t167⟩ : S42)]) := ⟨_, rfl⟩
                replace H : (impl_ParseLabels.l0 k1 a0 y169 t162 (t162.length : Int) (wrap64 (x17_1 + 1))) = some (r1, r2) := by first | (rw [hy169]; with_reducible exact H) | (have H2_ := (Option.bind_some _ _).symm.trans H; rw [hy169]; with_reducible exact H2_) | (have H2_ := (Option.bind_some _ _).symm.trans H; with_reducible exact H2_) | with_reducible exact H | (rw [hy169]; exact H) | exact H
                have Ny169 := Aside0.mk hy169
                clear hy169
                have H' := Aside0.mk H
                clear H
                have p165 : 0 ≤ (x17_1 : Int) := of_decide_eq_true (by first | (with_reducible assumption) | assumption)
                have q165 : x17_1 < (t162.length : Int) := of_decide_eq_true (by first | (with_reducible assumption) | assumption)
                obtain ⟨ad165, e165, hx165_0⟩ := Kd.at_string (Kd.R_reads' HO_15.out).2.2 x17_1 p165 q165
                cases e165
                replace p165 := eq_true p165
                replace q165 := eq_true q165
                go_wp2_with (first | ((with_reducible refine gate_callee (f := 37) rfl ?_); refine goesL_ (some 23) rfl rfl Tryd.func37 (by kernel_rfl) rfl #[.string (rdOf ByteArray.empty t162 x17_1), .string (⟨#[61]⟩ : ByteArray)] rfl (by (try simp only [List.map_toArray, List.map_cons, List.map_nil]); first | done | rfl | (simp only [List.length_drop, List.length_take]; rfl)) ?_; (with_reducible refine (strings_Cut.calls (rdOf ByteArray.empty t162 x17_1) (⟨#[61]⟩ : ByteArray) t166 t167 t168 _ (SH.mv hsh_ HB) A13.out).mono ?_); rintro e w' ⟨rfl, ⟨nd, rfl⟩⟩; refine ⟨_, rfl, ?_⟩) | ((with_reducible refine gate_builtin (b := .append) (xs := #[.tmp 27, .tmp 31]) rfl ?_); at_builtin; refine Kd.R_append k42 (w0 := w) w.heap.size rfl (.tmp 27) (.tmp 31) 22 42 (.agg #[(.string ⟨#[]⟩), (.string ⟨#[]⟩)]) 32 rfl Tryd.underlying22 info42 rfl (by decide) (by omega) u4 x4_1 (⟨t166, t167⟩ : S42) [.string t166, .string t167] (fun _ => True) (fun _ => False) rfl rfl ?aP (fun _ hk => hk.elim) ?aF ?aO ?aB ?aS ?aL ?_; (case aP => exact k42_mkM _ _ _ (⟨t166, t167⟩ : S42)); (case aB => exact (by repeat (first | (with_reducible first | exact HB.out | apply below_alloc | apply pw_below_drewN | apply below_drew1) | exact HB.out))); (case aF => exact (fun _ _ => trivial)); (case aO => exact (by (with_reducible repeat (first | apply Kd.R_alloc | apply Kd.R_drewN | apply Kd.R_drew)); exact HO_4.out)); (case aS => exact (below_size (by repeat (first | (with_reducible first | exact HB.out | apply below_alloc | apply pw_below_drewN | apply below_drew1) | exact HB.out)))); (case aL => have := LMc14.out; omega); intro v170 w15 ho hb hg hat; rw [← Ny169.out] at ho; have n0_ := Aside0.mk (Kd.R_over' (by (with_reducible repeat (first | apply Kd.R_alloc | apply Kd.R_drewN | apply Kd.R_drew)); exact HO_15.out) (Kd.R_typed (by (with_reducible repeat (first | apply Kd.R_alloc | apply Kd.R_drewN | apply Kd.R_drew)); exact HO_4.out)) (by decide) hg); have n1_ := Aside0.mk (hb); have n2_ := Aside0.mk (ho); clear HO_15; clear HB; clear HO_4; have HO_15 := n0_; have HB := n1_; have HO171 := n2_; clear n0_ n1_ n2_; clear ho hb hg hat))
                go_roundg k1
                case measure => have := HK1.out; omega
                case rel => exact ⟨(y169), (wrap64 (x17_1 + 1)), (by first | rfl | (simp; done) | (simp [*]; done)), H', ⟨by have := HK1.out; omega⟩, ⟨by (with_reducible repeat (first | apply Kd.R_alloc | apply Kd.R_drewN | apply Kd.R_drew)); exact HO171.out⟩, ⟨by (with_reducible repeat (first | apply Kd.R_alloc | apply Kd.R_drewN | apply Kd.R_drew)); exact HO_15.out⟩, ⟨by repeat (first | (with_reducible first | exact HB.out | apply below_alloc | apply pw_below_drewN | apply below_drew1) | exact HB.out)⟩⟩
              · rw [if_neg c14] at H
                exact absurd H (by simp)
            · rw [if_neg c12] at H
              exact absurd H (by simp)
          · rw [if_neg c11] at H
            exact absurd H (by simp)
        · rw [if_neg c10] at H
          have c10b0 : decide (x17_1 < (t162.length : Int)) = false := decide_eq_false c10
          clear c10
          replace H := Option.bind_eq_some_iff.mp H
          obtain ⟨t172, A160, H⟩ := H
          replace H : (if t172.toList = a0.toList then (some (x4_1, true)) else (some (([] : List (S42)), false))) = some (r1, r2) := H
          have A16 := Aside0.mk A160
          clear A160
          by_cases c17 : t172.toList = a0.toList
          · rw [if_pos c17] at H
            have c17b0 : (t172.toList == a0.toList) = true := beq_iff_eq.mpr c17
            have c17b1 : (t172.toList != a0.toList) = false := bne_eq_false_iff_eq.mpr c17
            clear c17
            simp only [Option.some.injEq, Prod.mk.injEq] at H
            obtain ⟨rfl, rfl⟩ := H
            obtain ⟨Ao18, co18, eo18⟩ := Kd.R_slice HO_4.out
            subst eo18
            go_wp2_with (first | ((with_reducible refine gate_callee (f := 23) rfl ?_); refine goesL_ (some 35) rfl rfl Tryd.func23 (by kernel_rfl) rfl #[.slice Ao18 x4_1.length co18] rfl (by (try simp only [List.map_toArray, List.map_cons, List.map_nil]); first | done | rfl | (simp only [List.length_drop, List.length_take]; rfl)) ?_; (with_reducible refine (impl_LabelsText.calls k1 _ _ x4_1 t172 _ ?side1 ?side2 A16.out).mono ?_); (case side1 => repeat (first | exact (Kd.R_reads' HO_4.out).2.2 | (with_reducible refine Kd.C_alloc ?_ _) | (with_reducible refine Kd.C_drewN ?_ _) | (with_reducible refine Kd.C_drew ?_))); (case side2 => exact (Kd.R_reads' HO_4.out).2.1); rintro e w19 ⟨rfl, hb⟩; refine ⟨_, rfl, ?_⟩; have n0_ := Aside0.mk (Kd.R_below (by (with_reducible repeat (first | apply Kd.R_alloc | apply Kd.R_drewN | apply Kd.R_drew)); exact HO_4.out) hb); have n1_ := Aside0.mk (Kd.R_below (by (with_reducible repeat (first | apply Kd.R_alloc | apply Kd.R_drewN | apply Kd.R_drew)); exact HO_15.out) hb); have n2_ := Aside0.mk (below_step (by repeat (first | (with_reducible first | exact HB.out | apply below_alloc | apply pw_below_drewN | apply below_drew1) | exact HB.out)) hb); clear HO_4; clear HO_15; clear HB; have HO_4 := n0_; have HO_15 := n1_; have HB := n2_; clear n0_ n1_ n2_; (try clear hb); (try clear hb2); (try clear hk); (try clear hi)))
            go_ret2
            exact ⟨_, by first | rfl | (simp [errW_none, errW_some] <;> rfl) | (simp [*, errW_none, errW_some] <;> rfl), by (with_reducible repeat (first | apply Kd.R_alloc | apply Kd.R_drewN | apply Kd.R_drew)); exact HO_4.out, by repeat (first | (with_reducible first | exact HB.out | apply below_alloc | apply pw_below_drewN | apply below_drew1) | exact HB.out)⟩
          · rw [if_neg c17] at H
            have c17b0 : (t172.toList == a0.toList) = false := beq_eq_false_iff_ne.mpr c17
            have c17b1 : (t172.toList != a0.toList) = true := bne_iff_ne.mpr c17
            simp only [Option.some.injEq, Prod.mk.injEq] at H
            obtain ⟨rfl, rfl⟩ := H
            obtain ⟨Ao20, co20, eo20⟩ := Kd.R_slice HO_4.out
            subst eo20
            go_wp2_with (first | ((with_reducible refine gate_callee (f := 23) rfl ?_); refine goesL_ (some 35) rfl rfl Tryd.func23 (by kernel_rfl) rfl #[.slice Ao20 x4_1.length co20] rfl (by (try simp only [List.map_toArray, List.map_cons, List.map_nil]); first | done | rfl | (simp only [List.length_drop, List.length_take]; rfl)) ?_; (with_reducible refine (impl_LabelsText.calls k1 _ _ x4_1 t172 _ ?side1 ?side2 A16.out).mono ?_); (case side1 => repeat (first | exact (Kd.R_reads' HO_4.out).2.2 | (with_reducible refine Kd.C_alloc ?_ _) | (with_reducible refine Kd.C_drewN ?_ _) | (with_reducible refine Kd.C_drew ?_))); (case side2 => exact (Kd.R_reads' HO_4.out).2.1); rintro e w21 ⟨rfl, hb⟩; refine ⟨_, rfl, ?_⟩; have n0_ := Aside0.mk (Kd.R_below (by (with_reducible repeat (first | apply Kd.R_alloc | apply Kd.R_drewN | apply Kd.R_drew)); exact HO_4.out) hb); have n1_ := Aside0.mk (Kd.R_below (by (with_reducible repeat (first | apply Kd.R_alloc | apply Kd.R_drewN | apply Kd.R_drew)); exact HO_15.out) hb); have n2_ := Aside0.mk (below_step (by repeat (first | (with_reducible first | exact HB.out | apply below_alloc | apply pw_below_drewN | apply below_drew1) | exact HB.out)) hb); clear HO_4; clear HO_15; clear HB; have HO_4 := n0_; have HO_15 := n1_; have HB := n2_; clear n0_ n1_ n2_; (try clear hb); (try clear hb2); (try clear hk); (try clear hi)))
            go_ret2
            exact ⟨_, by first | rfl | (simp [errW_none, errW_some] <;> rfl) | (simp [*, errW_none, errW_some] <;> rfl), by first | exact Kd.R_nil _ _ _ _ _ | exact Kd.N_nil _ _ _ _ _ | exact Kd.V_nil _ _ _ _ _ | exact Kd.Q_nil _ _ _ _ _ | exact Kd.S_nil _ _ _ _ _, by repeat (first | (with_reducible first | exact HB.out | apply below_alloc | apply pw_below_drewN | apply below_drew1) | exact HB.out)⟩

end Go.Proofs.YtpjpnppoejnafaaDoor.G

/- G7 -/
-- Laid by wip/g/gprint.py out of the translation, by the kit's print program. Lean checks it.
namespace Go.Proofs.YtpjpnppoejnafaaDoor.G
open Go.RowKit Go.Proofs.YtpjpnppoejnafaaDoorW.PrintWords Go.Proofs.YtpjpnppoejnafaaDoorW.PrintLast Go.Proofs.YtpjpnppoejnafaaDoorW.PrintMore
attribute [local go_sem] max2_int min2_int max_two min_two max_three min_three max_four min_four   -- for this text's walks alone
set_option linter.unusedVariables false
set_option linter.unusedSimpArgs false

/-! ### spec_ParseLabels: function 7 -/
end Go.Proofs.YtpjpnppoejnafaaDoor.G
