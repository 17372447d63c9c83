/-
  LabelsText: of the program and of the reference.
-/
import Derived.Test.YtpjpnppoejnafaaLabOk
import Derived.Test.YtpjpnppoejnafaaShelf
import Derived.Lib.Join
namespace Go.Proofs.Ytpjpnppoejnafaa
open Go.RowKit
set_option linter.unusedVariables false
set_option linter.unusedSimpArgs false
attribute [local go_sem ↓] Go.wp_at_zero Go.wp_at_succ

theorem allFrom_get {f : Nat → Bool} : ∀ (d k : Nat), allFrom f d k = true → ∀ j, k ≤ j → j < k + d → f j = true
  | 0, _, _, j, h1, h2 => by omega
  | d + 1, k, h, j, h1, h2 => by
    rw [allFrom, Bool.and_eq_true] at h
    by_cases e : j = k
    · subst e; exact h.1
    · exact allFrom_get d (k + 1) h.2 j (by omega) (by omega)
theorem nameOk_size {s : ByteArray} (h : nameOk s = true) : s.size ≤ 20 := by
  unfold nameOk at h
  simp only [Bool.and_eq_true] at h
  have := inB_iff.1 h.1.1.2
  omega
theorem labsOk_small {xs : List Label} (h : labsOk xs = true) : xs.length ≤ 8 ∧ ∀ i (hi : i < xs.length), xs[i].key.size ≤ 20 ∧ xs[i].value.size ≤ 20 := by
  unfold labsOk at h
  rw [Bool.and_eq_true, decide_eq_true_eq] at h
  refine ⟨h.2, fun i hi => ?_⟩
  have := allFrom_get _ _ h.1 i (by omega) (by omega)
  unfold labAt at this
  rw [dif_pos hi] at this
  simp only [Bool.and_eq_true] at this
  exact ⟨nameOk_size this.1.1, nameOk_size this.1.2⟩
def labPart (x : Label) : ByteArray := x.key ++ ⟨#[61]⟩ ++ x.value
def txtUp (xs : List Label) : Nat → ByteArray
  | 0 => ⟨#[]⟩
  | k + 1 => (if 0 < k then txtUp xs k ++ ⟨#[44]⟩ else txtUp xs k) ++ (if h : k < xs.length then labPart xs[k] else ⟨#[]⟩)
theorem txtUp_zero {xs : List Label} (h : 0 < xs.length) : txtUp xs 1 = ⟨#[]⟩ ++ labPart xs[0] := by
  rw [txtUp, if_neg (by omega), dif_pos h]; rfl
theorem txtUp_succ {xs : List Label} {j : Nat} (h : j + 1 < xs.length) : txtUp xs (j + 1 + 1) = txtUp xs (j + 1) ++ ⟨#[44]⟩ ++ labPart xs[j + 1] := by
  rw [txtUp, if_pos (by omega), dif_pos h]
theorem labPart_size {x : Label} (h : x.key.size ≤ 20 ∧ x.value.size ≤ 20) : (labPart x).size ≤ 41 := by
  unfold labPart
  rw [ByteArray.size_append, ByteArray.size_append]
  have : (⟨#[61]⟩ : ByteArray).size = 1 := rfl
  omega
theorem txtUp_size {xs : List Label} (h : ∀ i (hi : i < xs.length), xs[i].key.size ≤ 20 ∧ xs[i].value.size ≤ 20) : ∀ k, (txtUp xs k).size ≤ 42 * k
  | 0 => by simp [txtUp, ByteArray.size]
  | k + 1 => by
    have ih := txtUp_size h k
    rw [txtUp, ByteArray.size_append]
    have h1 : (if 0 < k then txtUp xs k ++ ⟨#[44]⟩ else txtUp xs k).size ≤ 42 * k + 1 := by
      split
      · rw [ByteArray.size_append]
        have : (⟨#[44]⟩ : ByteArray).size = 1 := rfl
        omega
      · omega
    have h2 : (if h : k < xs.length then labPart xs[k] else (⟨#[]⟩ : ByteArray)).size ≤ 41 := by
      split
      · rename_i hk; exact labPart_size (h k hk)
      · simp [ByteArray.size]
    omega
def labText (xs : List Label) : ByteArray := if labsOk xs = true then txtUp xs xs.length else ⟨#[]⟩
theorem ba_toList (a b : ByteArray) : (a ++ b).data.toList = a.data.toList ++ b.data.toList := by
  rw [ByteArray.data_append, Array.toList_append]
theorem join_txt : ∀ (xs : List Label) (k : Nat), k ≤ xs.length → (Lib.join ((xs.take k).map (fun x => (labPart x).data.toList)) [44]) = (txtUp xs k).data.toList
  | xs, 0, _ => rfl
  | xs, 1, h => by
    match xs, h with
    | x :: r, _ =>
      rw [txtUp_zero (by simp)]
      simp only [List.take_succ_cons, List.take_zero, List.map_cons, List.map_nil, Lib.join_one, ba_toList]
      rfl
  | xs, k + 2, h => by
    have ih := join_txt xs (k + 1) (by omega)
    match xs, h, ih with
    | x :: r, h, ih =>
      rw [txtUp_succ (by omega), ba_toList, ba_toList, ← ih]
      simp only [List.take_succ_cons, List.map_cons] at ih ⊢
      rw [Lib.join_cons, Lib.join_cons, List.map_take, List.map_take]
      have hk : k < r.length := by simp at h; omega
      rw [Lib.joinTail_take_succ [44] (r.map (fun x => (labPart x).data.toList)) k ((labPart r[k]).data.toList) (by rw [List.getElem?_map, List.getElem?_eq_getElem hk]; rfl)]
      simp only [List.append_assoc]
      rfl
theorem specLabelsText_any (xs : List Label) (v : Value) (o : Bool) (F : List Nat) (w : World) (hr : rd o w (labD xs) [v] F) :
    Calls Try.prog 18 #[v] w fun e w' => e = .returned (.string (labText xs)) ∧ Below w.heap.size w w' := by
  by_cases h : labsOk xs = true
  · have HV : Hid (labText xs = txtUp xs xs.length) := by unfold Hid labText; rw [if_pos h]
    obtain ⟨l8, hsm⟩ := labsOk_small h
    have hts := txtUp_size hsm
    obtain ⟨A, c, rfl, hn, hc, hx⟩ := rd_labs hr
    have HX := Lib.hid hx
    have HS := Lib.hid hsm
    have HT := Lib.hid hts
    clear hx hsm hts
    go_enter Try.func18, Try.ntmps18
    go_wp2_with fail
    refine (specLabelsOk_any xs _ _ _ _ hr).mono ?_
    rintro e w1 ⟨rfl, hb1⟩
    go_wp2_with fail
    clear hr
    have HB1 := Lib.hid hb1
    clear hb1
    go_loopw [3, 4] (fun s i wr => ∃ k : Nat, k ≤ xs.length ∧ i = .int .i64 k ∧ s = .string (txtUp xs k) ∧ Hid (Below w.heap.size w wr)) (fun _ i _ => xs.length - (intOf i).toNat)
    case atStart => exact ⟨0, by omega, rfl, rfl, HB1⟩
    case round =>
      obtain ⟨k, hk, rfl, rfl, HB⟩ := hrel
      by_cases hlt : k < xs.length
      · obtain ⟨b, off, rfl, hbl, c0, c1, k0, k1⟩ := HX.out k hlt
        obtain ⟨z0, z1⟩ := HS.out k hlt
        have tz := HT.out k
        have d0 := below_cell HB.out c0
        have d1 := below_cell HB.out c1
        have hbw : b < wr.heap.size := by have := HB.out.size; omega
        clear c0 c1 k0 k1
        match k, hk, hlt, z0, z1, tz, d0, d1 with
        | 0, hk, hlt, z0, z1, tz, d0, d1 =>
          have HE := Lib.hid (txtUp_zero hlt)
          have d0' : wr.cell? ⟨b, off, none⟩ = some (.string xs[0].key) := by simpa using d0
          have d1' : wr.cell? ⟨b, off + 1, none⟩ = some (.string xs[0].value) := by simpa using d1
          have e0 : txtUp xs 0 = ⟨#[]⟩ := rfl
          clear d0 d1 tz
          rw [e0]
          go_wp2_with fail
          go_quiet (fail)
          go_wp2
          go_roundw
          case rel => exact ⟨1, by omega, by go_num, by rw [HE.out]; simp [labPart, ByteArray.append_assoc], belowN HB.out _⟩
          case measure => simp [intOf]; omega
        | j + 1, hk, hlt, z0, z1, tz, d0, d1 =>
          have HE := Lib.hid (txtUp_succ hlt)
          have i5 : (j : Int) + 1 < (xs.length : Int) := by omega
          go_wp2_with fail
          go_quiet (fail)
          go_wp2
          go_roundw
          case rel => exact ⟨j + 1 + 1, by omega, by go_num, by rw [HE.out]; simp [labPart, ByteArray.append_assoc], belowN HB.out _⟩
          case measure => simp [intOf]; omega
      · obtain rfl : k = xs.length := by omega
        go_wp2
        go_ret
        exact ⟨by rw [HV.out]; rfl, HB.out⟩
  · have h' : labsOk xs = false := by simpa using h
    have HV : Hid (labText xs = ⟨#[]⟩) := by unfold Hid labText; rw [if_neg h]
    clear h
    go_enter Try.func18, Try.ntmps18
    go_wp2_with fail
    refine (specLabelsOk_any xs _ _ _ _ hr).mono ?_
    rintro e w1 ⟨rfl, hb1⟩
    go_wp2
    go_ret
    exact ⟨by rw [HV.out]; rfl, hb1⟩
theorem info_str : (Try.prog.info? 9).map (fun i => (i.zero, i.size, i.bytes)) = some (some (.string ⟨#[]⟩), 1, 16) := by kernel_rfl
theorem join_own {base : Nat} {v : Value} {ys : List ByteArray} {w : World} (h : w.ownsRow base 9 1 v ys.length (ys.map Value.string)) (hN : ys.length ≤ 140737488355328) (sep : ByteArray)
    (hlen : (Lib.join (ys.map (·.data.toList)) sep.data.toList).length ≤ 140737488355328) :
    Calls Try.prog 44 #[v, .string sep] w fun e w' => e = .returned (.string ⟨(Lib.join (ys.map (·.data.toList)) sep.data.toList).toArray⟩) ∧ Below w.heap.size w w' := by
  have hcell := fun g (hg : v.ownBlock = some g) => World.ownsRow.cells h hg
  rcases h.2 with ⟨rfl, h0⟩ | ⟨g, cap, cur, rfl, hb, hg, hle, hm, hs, hp⟩
  · have hy : ys = [] := List.eq_nil_of_length_eq_zero h0
    subst hy
    exact (Try.strings_Join_none none 0 sep w).mono fun e w' ⟨he, hw⟩ => ⟨by rw [he]; rfl, hw ▸ Below.refl _ _⟩
  · refine Try.strings_Join g 0 cap ys sep w (fun j x hj => ?_) (Array.getElem?_eq_some_iff.1 hg).1 hN hle hlen
    have := hcell g rfl j (.string x) (by rw [List.getElem?_map, hj]; rfl)
    have e : (⟨g, 0, none⟩ : Addr).add j = ⟨g, 0 + j, none⟩ := by unfold Addr.add; split <;> simp_all
    rw [e] at this
    exact this
set_option maxHeartbeats 1600000 in
theorem implLabelsText_any (xs : List Label) (v : Value) (o : Bool) (F : List Nat) (w : World) (hr : rd o w (labD xs) [v] F) :
    Calls Try.prog 19 #[v] w fun e w' => e = .returned (.string (labText xs)) ∧ Below w.heap.size w w' := by
  by_cases h : labsOk xs = true
  · have HV : Hid (labText xs = txtUp xs xs.length) := by unfold Hid labText; rw [if_pos h]
    obtain ⟨l8, hsm⟩ := labsOk_small h
    have HTS := Lib.hid (txtUp_size hsm xs.length)
    obtain ⟨A, c, rfl, hn, hc, hx⟩ := rd_labs hr
    have HX := Lib.hid hx
    have HS := Lib.hid hsm
    clear hx hsm
    obtain ⟨i0, hi, hz0, hz1, hz2⟩ := info_parts (info_str)
    go_enter Try.func19, Try.ntmps19
    go_wp2_with fail
    refine (implLabelsOk_any xs _ _ _ _ hr).mono ?_
    rintro e w1 ⟨rfl, hb1⟩
    go_wp2_with fail
    clear hr
    have HB1 := Lib.hid (belowA hb1 (.cells #[] 9))
    have HO1 := Lib.hid (World.ownsRow_made (base := w.heap.size) (e := 9) (size := 1) w1 #[] 0 hb1.size (by unfold maxLen; omega) rfl)
    clear hb1
    go_loopw [3, 5, 12] (fun v _ i wr => ∃ k : Nat, k ≤ xs.length ∧ i = .int .i64 k ∧ Hid (wr.ownsRow w.heap.size 9 1 v k ((xs.take k).map (fun x => Value.string (labPart x)))) ∧ Hid (Below w.heap.size w wr)) (fun _ _ i _ => xs.length - (intOf i).toNat)
    case atStart => exact ⟨0, by omega, rfl, HO1, HB1⟩
    case round =>
      obtain ⟨k, hk, rfl, HO, HB⟩ := hrel
      by_cases hlt : k < xs.length
      · obtain ⟨b, off, rfl, hbl, c0, c1, k0, k1⟩ := HX.out k hlt
        obtain ⟨z0, z1⟩ := HS.out k hlt
        have d0 := below_cell HB.out c0
        have d1 := below_cell HB.out c1
        have hbw : b < wr.heap.size := by have := HB.out.size; omega
        have hown := HO.out
        have hsz := HB.out.size
        clear c0 c1 k0 k1 HO
        go_wp2_with (at_builtin; refine wpList_append_own _ rfl _ _ 50 rfl w.heap.size 9 i0 (.string ⟨#[]⟩) 1 16 Try.underlying50 hi hz0 hz1 hz2 rfl (by decide) _ _ _ rfl ((hown.alloc _).alloc _) ⟨wr.heap.size + 1, 0, none⟩ 1 1 [.string (xs[k].key ++ ⟨#[61]⟩ ++ xs[k].value)] rfl rfl ?c1 ?c2 ?c3 ?c4 ?c5 ?_)
        case c1 =>
          intro j u hj
          match j, hj with
          | 0, hj => simp at hj; subst hj; simp [Addr.add]
        case c2 => intro u hu; simp at hu; subst hu; rfl
        case c3 => unfold maxLen; omega
        case c4 => omega
        case c5 => simp; omega
        · intro v' w2 hown' hgrow _
          have HO' := Lib.hid hown'
          have HB' := Lib.hid (belowG (belowA (belowA HB.out _) _) hgrow (fun g hg => (hown.lt g hg).1))
          clear hown' hgrow hown
          go_wp2
          go_roundw
          case rel => exact ⟨k + 1, by omega, by go_num, by unfold Hid; have h := HO'.out; rw [← List.map_take] at h; rw [take_map_snoc hlt]; exact h, HB'⟩
          case measure => simp [intOf]; omega
      · obtain rfl : k = xs.length := by omega
        have hown := HO.out
        rw [List.take_length] at hown
        have hown2 : wr.ownsRow w.heap.size 9 1 u3 (xs.map labPart).length ((xs.map labPart).map Value.string) := by rw [List.length_map, List.map_map]; exact hown
        have hj := join_txt xs xs.length (Nat.le_refl _)
        rw [List.take_length] at hj
        have hj2 : Lib.join ((xs.map labPart).map (·.data.toList)) [44] = (txtUp xs xs.length).data.toList := by rw [List.map_map]; exact hj
        have HJ := Lib.hid hj2
        have hts := HTS.out
        have HC := Lib.hid (join_own hown2 (by rw [List.length_map]; omega) ⟨#[44]⟩ (by
          show (Lib.join ((xs.map labPart).map (·.data.toList)) [44]).length ≤ _
          rw [hj2, Array.length_toList]
          have : (txtUp xs xs.length).data.size = (txtUp xs xs.length).size := rfl
          omega))
        clear hown hown2 hj hj2 HO hts
        go_wp2_with fail
        refine HC.out.mono ?_
        rintro e w2 ⟨rfl, hb2⟩
        have b2 := belowT HB.out hb2
        go_wp2
        go_ret
        refine ⟨?_, b2⟩
        rw [HV.out]
        have e2 : (⟨(Lib.join ((xs.map labPart).map (·.data.toList)) [44]).toArray⟩ : ByteArray) = txtUp xs xs.length := by rw [HJ.out]
        exact congrArg (fun z => Ending.returned (.string z)) (by rw [← e2, List.map_map])
  · have h' : labsOk xs = false := by simpa using h
    have HV : Hid (labText xs = ⟨#[]⟩) := by unfold Hid labText; rw [if_neg h]
    clear h
    go_enter Try.func19, Try.ntmps19
    go_wp2_with fail
    refine (implLabelsOk_any xs _ _ _ _ hr).mono ?_
    rintro e w1 ⟨rfl, hb1⟩
    go_wp2
    go_ret
    exact ⟨by rw [HV.out]; rfl, hb1⟩
end Go.Proofs.Ytpjpnppoejnafaa
