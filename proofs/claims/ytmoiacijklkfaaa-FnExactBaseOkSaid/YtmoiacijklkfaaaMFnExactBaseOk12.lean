import Derived.Test.YtmoiacijklkfaaaMFnExactBaseOk11
import Derived.Test.YtmoiacijklkfaaaMFnExactBaseOk5
import Derived.Test.YtmoiacijklkfaaaMFnExactBaseOk4
import Derived.Test.YtmoiacijklkfaaaMFnExactBaseOk1
import Derived.Test.YtmoiacijklkfaaaRows
import Derived.WalkKit
import Derived.ProofKit
import Derived.OpenShut
import Derived.ShutString
import Derived.ChangeOld
import Derived.Carry
import Derived.Below
import Derived.Handed
/- GKBaseOk -/
/-
  Bases that are right: the reference's test and the program's.
-/
namespace Go.Proofs.Ytmoiacijklkfaaa.G
open Go.RowKit Go.Proofs.YtmoiacijklkfaaaW.PrintWords Go.Proofs.YtmoiacijklkfaaaW.PrintLast Go.Proofs.YtmoiacijklkfaaaW.PrintMore
attribute [local go_sem] max2_int min2_int max_two min_two max_three min_three max_four min_four
set_option linter.unusedVariables false
set_option linter.unusedSimpArgs false
def cAt (xs : List IChg) (i : Nat) : IChg := xs.getD i zC
theorem cAt_eq {xs : List IChg} {i : Nat} (h : i < xs.length) : cAt xs i = xs[i] := getD_at h _
def logAt (cs : List IChg) (rev next : Int) (i : Nat) : Bool := objB (cAt cs i).f2 rev next (cAt cs i).f1 && ((cAt cs i).f2.f3 == (cAt cs i).f0 && (i == 0 || decide ((cAt cs (i - 1)).f0 < (cAt cs i).f0)))
def baseB0 (xs : List IObj) (rev next : Int) (cs : List IChg) : Bool := inB rev 0 1000000 && (inB next 1 1000000 && (decide (cs.length ≤ 40) && objsB xs rev next))
/-- A base that is right. -/
def baseB (xs : List IObj) (rev next : Int) (cs : List IChg) : Bool := baseB0 xs rev next cs && allN cs.length (logAt cs rev next)
theorem cells4 {w : World} {g t : Nat} {a0 a1 a2 a3 : Value} (h : w.heap[g]? = some (.cells #[a0, a1, a2, a3] t (0, 0))) : w.cell? ⟨g, 0, none⟩ = some a0 ∧ w.cell? ⟨g, 1, none⟩ = some a1 ∧ w.cell? ⟨g, 2, none⟩ = some a2 ∧ w.cell? ⟨g, 3, none⟩ = some a3 := ⟨blk_cell h 0, blk_cell h 1, blk_cell h 2, blk_cell h 3⟩
theorem kO_rev {w : World} {x : IObj} {cs : List Value} (h : k46.K w x cs) : cs[3]? = some (.int .i64 x.f3) := by
  obtain ⟨A6, c6, A10, c10, A11, c11, A15, c15, A16, c16, rfl, _⟩ := k46_open h
  rfl
/-- The cells of a change's box. -/
theorem chg_cells {w : World} {g t : Nat} {x : IChg} {c2 : List Value} {r : Value} (h : w.heap[g]? = some (.cells (Value.int .i64 x.f0 :: Value.bool x.f1 :: c2).toArray t (0, 0))) (h3 : c2[3]? = some r) : w.cell? ⟨g, 0, none⟩ = some (.int .i64 x.f0) ∧ w.cell? ⟨g, 1, none⟩ = some (.bool x.f1) ∧ w.cell? ⟨g, 5, none⟩ = some r :=
  ⟨blk_cell h 0, blk_cell h 1, by rw [blk_cell h, List.getElem?_toArray]; exact h3⟩
def T_spec_BaseOk_7 : Bool × List (List Nat × List Nat) := (true, [([], []), ([0], [0]), ([], []), ([2], [2]), ([], []), ([4], [4]), ([], []), ([6], [6]), ([1, 3, 5, 7], [1, 3, 5, 7]), ([8], [8]), ([9, 8], [9]), ([10], [10]), ([11, 10], [10, 11]), ([12, 10], [10, 12]), ([10], [10]), ([14, 10], [10, 14]), ([13, 15, 10], [10, 13, 15]), ([10, 16], [10, 16]), ([17, 10], [17]), ([18], [18]), ([19, 18], [18, 19]), ([20, 18, 18], [18, 20]), ([21], [21]), ([22, 21], [21, 22]), ([21], [21]), ([24, 21], [21, 24]), ([23, 25, 21], [21, 23, 25]), ([26, 21], [21, 26]), ([27, 21], [21, 27]), ([21], [21]), ([29, 21], [21, 29]), ([28, 30, 21], [21, 28, 30]), ([21, 31, 18], [18, 21, 31]), ([18, 32], [18, 32])])
def B_spec_BaseOk_7 : List Nat := [0, 1, 0, 4, 0, 16, 0, 64, 255, 511, 1023, 2047, 4095, 8191, 2047, 18431, 65535, 131071, 262143, 524287, 1048575, 2097151, 4194303, 8388607, 4194303, 20971519, 67108863, 134217727, 268435455, 4194303, 541065215, 2147483647, 4294967295, 8589934591]
theorem t_spec_BaseOk_7 : rtab .any (opsOf Try.f22 7) = T_spec_BaseOk_7 := by kernel_rfl
theorem b_spec_BaseOk_7 : waitsOk T_spec_BaseOk_7.2 B_spec_BaseOk_7 = true := by kernel_rfl
def T_impl_BaseOk_6 : Bool × List (List Nat × List Nat) := (true, [([], []), ([0], [0]), ([], []), ([2], [2]), ([3], [3]), ([], []), ([5], [5]), ([], []), ([7], [7]), ([1, 4, 6, 8], [1, 4, 6, 8]), ([9], [9]), ([10, 9], [10]), ([11], [11]), ([12, 11], [11, 12]), ([13, 11], [11, 13]), ([11], [11]), ([15, 11], [11, 15]), ([14, 16, 11], [11, 14, 16]), ([11, 17], [11, 17]), ([18, 11], [18]), ([19], [19]), ([20, 19], [19, 20]), ([21, 19, 19], [19, 21]), ([22], [22]), ([23, 22], [22, 23]), ([22], [22]), ([25, 22], [22, 25]), ([24, 26, 22], [22, 24, 26]), ([27, 22], [22, 27]), ([28, 22], [22, 28]), ([22], [22]), ([30, 22], [22, 30]), ([29, 31, 22], [22, 29, 31]), ([22, 32, 19], [19, 22, 32]), ([19, 33], [19, 33])])
def B_impl_BaseOk_6 : List Nat := [0, 1, 0, 4, 12, 0, 32, 0, 128, 511, 1023, 2047, 4095, 8191, 16383, 4095, 36863, 131071, 262143, 524287, 1048575, 2097151, 4194303, 8388607, 16777215, 8388607, 41943039, 134217727, 268435455, 536870911, 8388607, 1082130431, 4294967295, 8589934591, 17179869183]
theorem t_impl_BaseOk_6 : rtab .any (opsOf Try.f23 6) = T_impl_BaseOk_6 := by kernel_rfl
theorem b_impl_BaseOk_6 : waitsOk T_impl_BaseOk_6.2 B_impl_BaseOk_6 = true := by kernel_rfl
set_option maxHeartbeats 16000000 in
set_option maxRecDepth 100000 in
theorem specBaseOk_calls (n : Nat) (xs : List IObj) (rv nx : Int) (ls : List IChg) (A0 : Option Addr) (c0 : Nat) (A3 : Option Addr) (c3 : Nat) (w : World) (g0 : Kd.C k46 w A0 xs.length xs) (l0 : xs.length ≤ c0) (g3 : Kd.C k90 w A3 ls.length ls) (l3 : ls.length ≤ c3) (hs0 : ∀ x ∈ xs, SmX n x) (hs3 : ∀ x ∈ ls, SmX n x.f2) :
    Calls Try.prog 22 #[.agg #[.slice A0 xs.length c0, .int .i64 rv, .int .i64 nx, .slice A3 ls.length c3]] w fun e w' => e = .returned (.bool (baseB xs rv nx ls)) ∧ Below w.heap.size w w' := by
  have hlen := g3.2.1
  obtain ⟨W1, hW1⟩ : ∃ W1, w.alloc (.cells #[.slice A0 xs.length c0, .int .i64 rv, .int .i64 nx, .slice A3 ls.length c3] 30) = W1 := ⟨_, rfl⟩
  have hbA := below_alloc (Below.refl w.heap.size w) (.cells #[.slice A0 xs.length c0, .int .i64 rv, .int .i64 nx, .slice A3 ls.length c3] 30)
  have hb0 := blk_new w (.cells #[.slice A0 xs.length c0, .int .i64 rv, .int .i64 nx, .slice A3 ls.length c3] 30)
  rw [hW1] at hbA hb0
  have HW1 := Lib.hid hW1
  have HBA := Lib.hid hbA
  have Q1 : Hid (W1.heap[w.heap.size]? = some (.cells #[.slice A0 xs.length c0, .int .i64 rv, .int .i64 nx, .slice A3 ls.length c3] 30 (0, 0))) := Lib.hid hb0
  have Q1B := Q1
  have N1 := Lib.hid (Below.refl W1.heap.size W1)
  have G0 := Lib.hid (Kd.C_below g0 hbA)
  have G3 := Lib.hid (Kd.C_below g3 hbA)
  have HS0 := Lib.hid hs0
  have HS3 := Lib.hid hs3
  clear g0 g3 hbA hb0 hW1 hs0 hs3
  go_enter Try.func22, Try.ntmps22
  go_wp2_with fail
  rw [HW1.out]
  refine (spec_l1In.calls rv 0 1000000 _ W1 (l1In_f _ _ _)).mono ?_
  rintro e w2 ⟨rfl, hd⟩
  have N2 := Lib.hid (below_step N1.out hd.below)
  have Q2 := Lib.hid ((hd.below.block _ (blk_lt Q1.out)).trans Q1.out)
  clear hd Q1 HW1
  cases hb0 : inB rv 0 1000000
  case false =>
    have hz : baseB xs rv nx ls = false := by simp [baseB, baseB0, hb0]
    have HZ := Lib.hid hz
    clear hb0 hz
    go_wp2
    go_ret
    exact ⟨by rw [HZ.out]; first | done | rfl, below_step HBA.out N2.out⟩
  obtain ⟨b0, b1, b2, b3⟩ := cells4 Q2.out
  go_wp2_with fail
  clear b0 b1 b2 b3
  refine (spec_l1In.calls nx 1 1000000 _ w2 (l1In_f _ _ _)).mono ?_
  rintro e w3 ⟨rfl, hd⟩
  have N3 := Lib.hid (below_step N2.out hd.below)
  have Q3 := Lib.hid ((hd.below.block _ (blk_lt Q2.out)).trans Q2.out)
  clear hd Q2
  cases hb1 : inB nx 1 1000000
  case false =>
    have hz : baseB xs rv nx ls = false := by simp [baseB, baseB0, hb0, hb1]
    have HZ := Lib.hid hz
    clear hb0 hb1 hz
    go_wp2
    go_ret
    exact ⟨by rw [HZ.out]; first | done | rfl, below_step HBA.out N3.out⟩
  obtain ⟨hn1, hn2⟩ := inB_true hb1
  have HW0 : Hid (wrap64 (nx - 1) = nx - 1) := Lib.hid (w64 (by omega) (by omega))
  by_cases c40 : ls.length ≤ 40
  case neg =>
    have hz : baseB xs rv nx ls = false := by simp [baseB, baseB0, hb0, hb1, c40]
    have HZ := Lib.hid hz
    have c41 : 40 < ls.length := by omega
    clear hb0 hb1 hz c40
    obtain ⟨b0, b1, b2, b3⟩ := cells4 Q3.out
    go_wp2
    go_ret
    exact ⟨by rw [HZ.out]; first | done | rfl, below_step HBA.out N3.out⟩
  obtain ⟨b0, b1, b2, b3⟩ := cells4 Q3.out
  have c41 : ¬ (40 < ls.length) := by omega
  go_wp2_with fail
  clear b0 b1 b2 b3
  refine (l7Objs_calls n xs rv nx A0 c0 w3 (Kd.C_below G0.out N3.out) l0 HS0.out hn1 hn2).mono ?_
  rintro e w4 ⟨rfl, hd⟩
  have N4 := Lib.hid (below_step N3.out hd)
  have Q4 := Lib.hid ((hd.block _ (blk_lt Q3.out)).trans Q3.out)
  clear hd Q3
  cases hb2 : objsB xs rv nx
  case false =>
    have hz : baseB xs rv nx ls = false := by simp [baseB, baseB0, hb0, hb1, c40, hb2]
    have HZ := Lib.hid hz
    clear hb0 hb1 hb2 hz
    go_wp2
    go_ret
    exact ⟨by rw [HZ.out]; first | done | rfl, below_step HBA.out N4.out⟩
  have hz0 : baseB xs rv nx ls = allN ls.length (logAt ls rv nx) := by simp [baseB, baseB0, hb0, hb1, hb2, c40]
  have HZ0 := Lib.hid hz0
  clear hb0 hb1 hb2 hz0
  obtain ⟨b0, b1, b2, b3⟩ := cells4 Q4.out
  go_wp2
  clear b0 b1 b2 b3
  go_loopw [3] (fun vi wr => ∃ i : Nat, i ≤ ls.length ∧ vi = .int .i64 i ∧ Hid (∀ j, j < i → logAt ls rv nx j = true) ∧ Hid (Below W1.heap.size W1 wr)) (fun vi _ => ls.length - (intOf vi).toNat)
  case atStart => exact ⟨0, by omega, rfl, fun j hj => by omega, N4⟩
  case round =>
    obtain ⟨i, hi, rfl, HOK, HB⟩ := hrel
    have QR := Lib.hid ((HB.out.block _ (blk_lt Q1B.out)).trans Q1B.out)
    obtain ⟨b0, b1, b2, b3⟩ := cells4 QR.out
    by_cases hil : i < ls.length
    · obtain ⟨ad, cs, rfl, hcs, hK, hcell⟩ := row_at G3.out i hil
      have hsz : (k90 : Kd IChg).sz = 19 := rfl
      rw [hsz] at hcs hcell
      have hone := (k90 : Kd IChg).K_one hK
      obtain ⟨d2, rfl, hK2⟩ := kC_split hK
      have hl2 : d2.length = 17 := (k46 : Kd IObj).K_len hK2
      have HK2 := Lib.hid hK2
      have HC := Lib.hid hcell
      have HCS := Lib.hid hcs
      have HL2 := Lib.hid hl2
      have HONE := Lib.hid hone
      have H3 := Lib.hid (kO_rev hK2)
      clear hcs hK hcell hsz hone hK2 hl2
      go_wp2_with (first | ((with_reducible refine gate_dst (N := 42) rfl ?_); refine load_event rfl (N := 42) rfl 90 (.tmp 41) rfl (ad.add (i * 19)) ?hx _ (HC.out wr HB.out) Try.underlying90 rfl ?hi ?_; (case hx => first | rfl | (go_simp; done) | (go_simp; rfl)); (case hi => rw [HCS.out]; kernel_rfl)) | ((with_reducible refine gate_store (p := 4) rfl ?_); refine store_event rfl rfl rfl (blk_new wr _) rfl rfl ?hs ?hi ?h1 ?_; (case hs => simp [HL2.out]); (case hi => simp only [List.size_toArray, HCS.out]; kernel_rfl); (case h1 => simpa using HONE.out); intro w5 hz hs5 hfar5 hB5; have HZB := Lib.hid hz; have HFAR := Lib.hid hfar5; have HB5 := Lib.hid (hB5 W1 HB.out.size (below_alloc HB.out _)); clear hz hs5 hfar5 hB5))
      clear b0 b1 b2 b3
      have Q5 := Lib.hid ((HB5.out.block _ (blk_lt Q1B.out)).trans Q1B.out)
      refine start_ (n := 34) (S := fun w' => Below w5.heap.size w5 w') (ds := []) #[false, false, false, false, false, false, false, false, false, false, false, false, false, false, false, false, false, false, false, false, false, false, false, false, false, false, false, false, false, false, false, false, false, false] (by kernel_rfl) rfl rfl (below_drew (Below.refl w5.heap.size w5)) (fun hHeld => ?_)
      refine with_tabW t_spec_BaseOk_7 b_spec_BaseOk_7 (fun HT_ HW_ => ?_)
      generalize w5.drew = w6 at hHeld ⊢
      repeat (apply takeA_ HT_.out HW_.out [0, 1, 2, 3, 4, 5, 6, 7]; (case hn => exact rfl); (case hi0 => exact rfl); (case hl => simp only [List.setIfInBounds_toArray, List.set_cons_zero, List.set_cons_succ]; rfl); (case hQ => exact fun _ _ _ h => h); (case hy => first | exact Or.inr ⟨by rfl, rfl⟩ | (exact yield_row (ad := ⟨wr.heap.size, 2, none⟩) (cs := d2) (by rfl) rfl rfl (fun w_ hS_ => blk_from ((hS_.block _ (blk_lt HZB.out)).trans HZB.out) rfl) Try.underlying46 rfl (by rw [HL2.out]; kernel_rfl)) | (refine Or.inl ⟨by rfl, ?_⟩; intro w_ hS_; obtain ⟨b0, b1, b2, b3⟩ := cells4 ((hS_.block _ (blk_lt Q5.out)).trans Q5.out); obtain ⟨d0, d1, d5⟩ := chg_cells ((hS_.block _ (blk_lt HZB.out)).trans HZB.out) H3.out; go_simp; with_reducible rfl) | (refine Or.inl ⟨by rfl, ?_⟩; intro w_ hS_; go_simp; with_reducible rfl)); (case hS => exact hHeld); (case ha => simp only [Act.put, List.setIfInBounds_toArray, List.set_cons_zero, List.set_cons_succ, i64_w, i32_w]; rfl))
      have HB6 := Lib.hid hHeld
      refine callA_ (i := 8) (l' := ?_) HT_.out rfl rfl ?_ (by decide) Try.func70 (by kernel_rfl) rfl (by rfl) rfl (by (try simp only [List.map_toArray, List.map_cons, List.map_nil]); first | done | rfl) (l7Obj_calls n ls[i].f2 rv nx ls[i].f1 d2 w6 ((k46 : Kd IObj).K_below (below_step HB5.out hHeld) HK2.out) (HS3.out _ (List.getElem_mem hil)) hn1 hn2) ?_
      rotate_left
      · simp only [List.setIfInBounds_toArray, List.set_cons_zero, List.set_cons_succ]; rfl
      rintro e w7 ⟨rfl, hb7⟩
      have hHeld2 := below_step HB6.out hb7
      refine ⟨_, rfl, hHeld2, ?_⟩
      have HB7 := Lib.hid hHeld2
      clear hb7 hHeld HB6
      cases hb : objB ls[i].f2 rv nx ls[i].f1 with
      | false =>
        have HZ := Lib.hid (HZ0.out.trans (allN_false hil (by unfold logAt; rw [cAt_eq hil, hb]; rfl)))
        clear hb
        refine norm_ (a' := ?_) ?_ ?_
        rotate_left
        · simp only [Act.put, List.setIfInBounds_toArray, List.set_cons_zero, List.set_cons_succ, i64_w, i32_w]; rfl
        repeat (apply takeA_ HT_.out HW_.out [9, 10, 11, 12, 13, 14, 15, 16, 17, 18, 19, 20, 21, 22, 23, 24, 25, 26, 27, 28, 29, 30, 31, 32, 33]; (case hn => exact rfl); (case hi0 => exact rfl); (case hl => simp only [List.setIfInBounds_toArray, List.set_cons_zero, List.set_cons_succ]; rfl); (case hQ => exact fun _ _ _ h => h); (case hy => first | exact Or.inr ⟨by rfl, rfl⟩ | (refine Or.inl ⟨by rfl, ?_⟩; intro w_ hS_; obtain ⟨b0, b1, b2, b3⟩ := cells4 ((hS_.block _ (blk_lt Q5.out)).trans Q5.out); obtain ⟨d0, d1, d5⟩ := chg_cells ((hS_.block _ (blk_lt HZB.out)).trans HZB.out) H3.out; go_simp; with_reducible rfl) | (refine Or.inl ⟨by rfl, ?_⟩; intro w_ hS_; go_simp; with_reducible rfl)); (case hS => exact hHeld2); (case ha => simp only [Act.put, List.setIfInBounds_toArray, List.set_cons_zero, List.set_cons_succ, i64_w, i32_w]; rfl))
        refine done_ (done_of HT_.out (by kernel_rfl)) ?_
        clear hHeld2 HT_ HW_ HC
        go_wp2
        go_ret
        exact ⟨by rw [HZ.out]; first | done | rfl, below_step HBA.out (below_step HB5.out HB7.out)⟩
      | true =>
        have HO := Lib.hid hb
        clear hb
        by_cases hrv : ls[i].f2.f3 = ls[i].f0
        case neg =>
          have HZ := Lib.hid (HZ0.out.trans (allN_false hil (by unfold logAt; rw [cAt_eq hil, HO.out]; simp [hrv])))
          have hrb : (ls[i].f2.f3 != ls[i].f0) = true := bne_iff_ne.2 hrv
          have hrc : (ls[i].f2.f3 == ls[i].f0) = false := beq_eq_false_iff_ne.2 hrv
          clear hrv
          refine norm_ (a' := ?_) ?_ ?_
          rotate_left
          · simp only [Act.put, List.setIfInBounds_toArray, List.set_cons_zero, List.set_cons_succ, i64_w, i32_w]; rfl
          repeat (apply takeA_ HT_.out HW_.out [9, 10, 11, 12, 13, 14, 15, 16, 17, 18, 19, 20, 21, 22, 23, 24, 25, 26, 27, 28, 29, 30, 31, 32, 33]; (case hn => exact rfl); (case hi0 => exact rfl); (case hl => simp only [List.setIfInBounds_toArray, List.set_cons_zero, List.set_cons_succ]; rfl); (case hQ => exact fun _ _ _ h => h); (case hy => first | exact Or.inr ⟨by rfl, rfl⟩ | (refine Or.inl ⟨by rfl, ?_⟩; intro w_ hS_; obtain ⟨b0, b1, b2, b3⟩ := cells4 ((hS_.block _ (blk_lt Q5.out)).trans Q5.out); obtain ⟨d0, d1, d5⟩ := chg_cells ((hS_.block _ (blk_lt HZB.out)).trans HZB.out) H3.out; go_simp; with_reducible rfl) | (refine Or.inl ⟨by rfl, ?_⟩; intro w_ hS_; go_simp; with_reducible rfl)); (case hS => exact hHeld2); (case ha => simp only [Act.put, List.setIfInBounds_toArray, List.set_cons_zero, List.set_cons_succ, i64_w, i32_w]; rfl))
          refine done_ (done_of HT_.out (by kernel_rfl)) ?_
          clear hHeld2 HT_ HW_ HC
          go_wp2
          go_ret
          exact ⟨by rw [HZ.out]; first | done | rfl, below_step HBA.out (below_step HB5.out HB7.out)⟩
        have HRV := Lib.hid hrv
        have hrb : (ls[i].f2.f3 != ls[i].f0) = false := by rw [hrv]; exact bne_self_eq_false _
        have hrc : (ls[i].f2.f3 == ls[i].f0) = true := beq_iff_eq.2 hrv
        clear hrv
        by_cases h0 : i = 0
        case pos =>
          have hp1 : (0 < (i : Int)) = False := eq_false (by omega)
          have hp2 : (0 < i) = False := eq_false (by omega)
          have hat : logAt ls rv nx i = true := by unfold logAt; rw [cAt_eq hil, HO.out, HRV.out]; simp [h0]
          have HOK2 : Hid (∀ j, j < i + 1 → logAt ls rv nx j = true) := Lib.hid (fun j hj => by
            rcases Nat.lt_succ_iff_lt_or_eq.1 hj with h | h
            · exact HOK.out j h
            · rw [h]; exact hat)
          clear hat h0
          refine norm_ (a' := ?_) ?_ ?_
          rotate_left
          · simp only [Act.put, List.setIfInBounds_toArray, List.set_cons_zero, List.set_cons_succ, i64_w, i32_w]; rfl
          repeat (apply takeA_ HT_.out HW_.out [9, 10, 11, 12, 13, 14, 15, 16, 17, 18, 19, 20, 21, 22, 23, 24, 25, 26, 27, 28, 29, 30, 31, 32, 33]; (case hn => exact rfl); (case hi0 => exact rfl); (case hl => simp only [List.setIfInBounds_toArray, List.set_cons_zero, List.set_cons_succ]; rfl); (case hQ => exact fun _ _ _ h => h); (case hy => first | exact Or.inr ⟨by rfl, rfl⟩ | (refine Or.inl ⟨by rfl, ?_⟩; intro w_ hS_; obtain ⟨b0, b1, b2, b3⟩ := cells4 ((hS_.block _ (blk_lt Q5.out)).trans Q5.out); obtain ⟨d0, d1, d5⟩ := chg_cells ((hS_.block _ (blk_lt HZB.out)).trans HZB.out) H3.out; go_simp; with_reducible rfl) | (refine Or.inl ⟨by rfl, ?_⟩; intro w_ hS_; go_simp; with_reducible rfl)); (case hS => exact hHeld2); (case ha => simp only [Act.put, List.setIfInBounds_toArray, List.set_cons_zero, List.set_cons_succ, i64_w, i32_w]; rfl))
          refine done_ (done_of HT_.out (by kernel_rfl)) ?_
          clear hHeld2 HT_ HW_ HC
          go_wp2
          go_roundw
          case rel => exact ⟨i + 1, by omega, by go_num, HOK2, below_step HB5.out HB7.out⟩
          case measure => simp [intOf]; omega
        obtain ⟨j0, hj0⟩ : ∃ j0, i = j0 + 1 := ⟨i - 1, by omega⟩
        have hjl : j0 < ls.length := by omega
        obtain ⟨ae, ds, hae, hds, hL, hdell⟩ := row_at G3.out j0 hjl
        obtain rfl := Option.some.inj hae
        have hsz : (k90 : Kd IChg).sz = 19 := rfl
        rw [hsz] at hdell
        obtain ⟨e2, rfl, _⟩ := kC_split hL
        have HP := Lib.hid (fun (W : World) (hW : Below W1.heap.size W1 W) => (show W.cell? (ad.add (j0 * 19)) = some (.int .i64 ls[j0].f0) from hdell W hW 0 _ rfl))
        have hw1 : (i : Int) - 1 = (j0 : Int) := by omega
        have hw3 : wrap64 (j0 : Int) = (j0 : Int) := w64 (by omega) (by omega)
        have hp1 : (0 < (i : Int)) = True := eq_true (by omega)
        have hp2 : (0 < i) = True := eq_true (by omega)
        have HJ0 := Lib.hid hj0
        clear hae hds hL hdell hsz
        clear hj0 h0
        by_cases hlt : ls[j0].f0 < ls[i].f0
        case pos =>
          have hc0 : (ls[i].f0 ≤ ls[j0].f0) = False := eq_false (by omega)
          have hat : logAt ls rv nx i = true := by unfold logAt; rw [cAt_eq hil, HO.out, HRV.out, show i - 1 = j0 by have := HJ0.out; omega, cAt_eq hjl]; simp [hlt]
          have HOK2 : Hid (∀ j, j < i + 1 → logAt ls rv nx j = true) := Lib.hid (fun j hj => by
            rcases Nat.lt_succ_iff_lt_or_eq.1 hj with h | h
            · exact HOK.out j h
            · rw [h]; exact hat)
          clear hat hlt
          refine norm_ (a' := ?_) ?_ ?_
          rotate_left
          · simp only [Act.put, List.setIfInBounds_toArray, List.set_cons_zero, List.set_cons_succ, i64_w, i32_w]; rfl
          repeat (apply takeA_ HT_.out HW_.out [9, 10, 11, 12, 13, 14, 15, 16, 17, 18, 19, 20, 21, 22, 23, 24, 25, 26, 27, 28, 29, 30, 31, 32, 33]; (case hn => exact rfl); (case hi0 => exact rfl); (case hl => simp only [List.setIfInBounds_toArray, List.set_cons_zero, List.set_cons_succ]; rfl); (case hQ => exact fun _ _ _ h => h); (case hy => first | exact Or.inr ⟨by rfl, rfl⟩ | (refine Or.inl ⟨by rfl, ?_⟩; intro w_ hS_; have p0 := HP.out w_ (below_step HB5.out hS_); obtain ⟨b0, b1, b2, b3⟩ := cells4 ((hS_.block _ (blk_lt Q5.out)).trans Q5.out); obtain ⟨d0, d1, d5⟩ := chg_cells ((hS_.block _ (blk_lt HZB.out)).trans HZB.out) H3.out; go_simp; with_reducible rfl) | (refine Or.inl ⟨by rfl, ?_⟩; intro w_ hS_; go_simp; with_reducible rfl)); (case hS => exact hHeld2); (case ha => simp only [Act.put, List.setIfInBounds_toArray, List.set_cons_zero, List.set_cons_succ, i64_w, i32_w]; rfl))
          refine done_ (done_of HT_.out (by kernel_rfl)) ?_
          clear hHeld2 HT_ HW_ HC HP
          go_wp2
          go_roundw
          case rel => exact ⟨i + 1, by omega, by go_num, HOK2, below_step HB5.out HB7.out⟩
          case measure => simp [intOf]; omega
        have hc0 : (ls[i].f0 ≤ ls[j0].f0) = True := eq_true (by omega)
        have HZ := Lib.hid (HZ0.out.trans (allN_false hil (by unfold logAt; rw [cAt_eq hil, show i - 1 = j0 by have := HJ0.out; omega, cAt_eq hjl, decide_eq_false hlt, show (i == 0) = false by have := HJ0.out; exact beq_eq_false_iff_ne.2 (by omega)]; simp)))
        clear hlt
        refine norm_ (a' := ?_) ?_ ?_
        rotate_left
        · simp only [Act.put, List.setIfInBounds_toArray, List.set_cons_zero, List.set_cons_succ, i64_w, i32_w]; rfl
        repeat (apply takeA_ HT_.out HW_.out [9, 10, 11, 12, 13, 14, 15, 16, 17, 18, 19, 20, 21, 22, 23, 24, 25, 26, 27, 28, 29, 30, 31, 32, 33]; (case hn => exact rfl); (case hi0 => exact rfl); (case hl => simp only [List.setIfInBounds_toArray, List.set_cons_zero, List.set_cons_succ]; rfl); (case hQ => exact fun _ _ _ h => h); (case hy => first | exact Or.inr ⟨by rfl, rfl⟩ | (refine Or.inl ⟨by rfl, ?_⟩; intro w_ hS_; have p0 := HP.out w_ (below_step HB5.out hS_); obtain ⟨b0, b1, b2, b3⟩ := cells4 ((hS_.block _ (blk_lt Q5.out)).trans Q5.out); obtain ⟨d0, d1, d5⟩ := chg_cells ((hS_.block _ (blk_lt HZB.out)).trans HZB.out) H3.out; go_simp; with_reducible rfl) | (refine Or.inl ⟨by rfl, ?_⟩; intro w_ hS_; go_simp; with_reducible rfl)); (case hS => exact hHeld2); (case ha => simp only [Act.put, List.setIfInBounds_toArray, List.set_cons_zero, List.set_cons_succ, i64_w, i32_w]; rfl))
        refine done_ (done_of HT_.out (by kernel_rfl)) ?_
        clear hHeld2 HT_ HW_ HC HP
        go_wp2
        go_ret
        exact ⟨by rw [HZ.out]; first | done | rfl, below_step HBA.out (below_step HB5.out HB7.out)⟩
    · obtain rfl : i = ls.length := by omega
      have HZ := Lib.hid (HZ0.out.trans (allN_true.2 HOK.out))
      go_wp2
      go_ret
      exact ⟨by rw [HZ.out]; first | done | rfl, below_step HBA.out HB.out⟩
set_option maxHeartbeats 16000000 in
set_option maxRecDepth 100000 in
theorem implBaseOk_calls (n : Nat) (xs : List IObj) (rv nx : Int) (ls : List IChg) (A0 : Option Addr) (c0 : Nat) (A3 : Option Addr) (c3 : Nat) (w : World) (g0 : Kd.C k46 w A0 xs.length xs) (l0 : xs.length ≤ c0) (g3 : Kd.C k90 w A3 ls.length ls) (l3 : ls.length ≤ c3) (hs0 : ∀ x ∈ xs, SmX n x) (hs3 : ∀ x ∈ ls, SmX n x.f2) :
    Calls Try.prog 23 #[.agg #[.slice A0 xs.length c0, .int .i64 rv, .int .i64 nx, .slice A3 ls.length c3]] w fun e w' => e = .returned (.bool (baseB xs rv nx ls)) ∧ Below w.heap.size w w' := by
  have hlen := g3.2.1
  obtain ⟨W1, hW1⟩ : ∃ W1, w.alloc (.cells #[.slice A0 xs.length c0, .int .i64 rv, .int .i64 nx, .slice A3 ls.length c3] 30) = W1 := ⟨_, rfl⟩
  have hbA := below_alloc (Below.refl w.heap.size w) (.cells #[.slice A0 xs.length c0, .int .i64 rv, .int .i64 nx, .slice A3 ls.length c3] 30)
  have hb0 := blk_new w (.cells #[.slice A0 xs.length c0, .int .i64 rv, .int .i64 nx, .slice A3 ls.length c3] 30)
  rw [hW1] at hbA hb0
  have HW1 := Lib.hid hW1
  have HBA := Lib.hid hbA
  have Q1 : Hid (W1.heap[w.heap.size]? = some (.cells #[.slice A0 xs.length c0, .int .i64 rv, .int .i64 nx, .slice A3 ls.length c3] 30 (0, 0))) := Lib.hid hb0
  have Q1B := Q1
  have N1 := Lib.hid (Below.refl W1.heap.size W1)
  have G0 := Lib.hid (Kd.C_below g0 hbA)
  have G3 := Lib.hid (Kd.C_below g3 hbA)
  have HS0 := Lib.hid hs0
  have HS3 := Lib.hid hs3
  clear g0 g3 hbA hb0 hW1 hs0 hs3
  go_enter Try.func23, Try.ntmps23
  go_wp2_with fail
  rw [HW1.out]
  refine (impl_within.calls rv 0 1000000 _ W1 (within_f _ _ _)).mono ?_
  rintro e w2 ⟨rfl, hd⟩
  have N2 := Lib.hid (below_step N1.out hd.below)
  have Q2 := Lib.hid ((hd.below.block _ (blk_lt Q1.out)).trans Q1.out)
  clear hd Q1 HW1
  cases hb0 : inB rv 0 1000000
  case false =>
    have hz : baseB xs rv nx ls = false := by simp [baseB, baseB0, hb0]
    have HZ := Lib.hid hz
    clear hb0 hz
    go_wp2
    go_ret
    exact ⟨by rw [HZ.out]; first | done | rfl, below_step HBA.out N2.out⟩
  obtain ⟨b0, b1, b2, b3⟩ := cells4 Q2.out
  go_wp2_with fail
  clear b0 b1 b2 b3
  refine (impl_within.calls nx 1 1000000 _ w2 (within_f _ _ _)).mono ?_
  rintro e w3 ⟨rfl, hd⟩
  have N3 := Lib.hid (below_step N2.out hd.below)
  have Q3 := Lib.hid ((hd.below.block _ (blk_lt Q2.out)).trans Q2.out)
  clear hd Q2
  cases hb1 : inB nx 1 1000000
  case false =>
    have hz : baseB xs rv nx ls = false := by simp [baseB, baseB0, hb0, hb1]
    have HZ := Lib.hid hz
    clear hb0 hb1 hz
    go_wp2
    go_ret
    exact ⟨by rw [HZ.out]; first | done | rfl, below_step HBA.out N3.out⟩
  obtain ⟨hn1, hn2⟩ := inB_true hb1
  have HW0 : Hid (wrap64 (nx - 1) = nx - 1) := Lib.hid (w64 (by omega) (by omega))
  obtain ⟨b0, b1, b2, b3⟩ := cells4 Q3.out
  go_wp2_with fail
  clear b0 b1 b2 b3
  refine (objsOk_calls n xs rv nx A0 c0 w3 (Kd.C_below G0.out N3.out) l0 HS0.out hn1 hn2).mono ?_
  rintro e w4 ⟨rfl, hd⟩
  have N4 := Lib.hid (below_step N3.out hd)
  have Q4 := Lib.hid ((hd.block _ (blk_lt Q3.out)).trans Q3.out)
  clear hd Q3
  cases hb2 : objsB xs rv nx
  case false =>
    have hz : baseB xs rv nx ls = false := by simp [baseB, baseB0, hb0, hb1, hb2]
    have HZ := Lib.hid hz
    clear hb0 hb1 hb2 hz
    go_wp2
    go_ret
    exact ⟨by rw [HZ.out]; first | done | rfl, below_step HBA.out N4.out⟩
  by_cases c40 : ls.length ≤ 40
  case neg =>
    have hz : baseB xs rv nx ls = false := by simp [baseB, baseB0, hb0, hb1, hb2, c40]
    have HZ := Lib.hid hz
    have c41 : 40 < ls.length := by omega
    clear hb0 hb1 hb2 hz c40
    obtain ⟨b0, b1, b2, b3⟩ := cells4 Q4.out
    go_wp2
    go_ret
    exact ⟨by rw [HZ.out]; first | done | rfl, below_step HBA.out N4.out⟩
  have c41 : ¬ (40 < ls.length) := by omega
  have hz0 : baseB xs rv nx ls = allN ls.length (logAt ls rv nx) := by simp [baseB, baseB0, hb0, hb1, hb2, c40]
  have HZ0 := Lib.hid hz0
  clear hb0 hb1 hb2 hz0
  obtain ⟨b0, b1, b2, b3⟩ := cells4 Q4.out
  go_wp2
  clear b0 b1 b2 b3
  go_loopw [35] (fun vi wr => ∃ i : Nat, i ≤ ls.length ∧ vi = .int .i64 i ∧ Hid (∀ j, j < i → logAt ls rv nx j = true) ∧ Hid (Below W1.heap.size W1 wr)) (fun vi _ => ls.length - (intOf vi).toNat)
  case atStart => exact ⟨0, by omega, rfl, fun j hj => by omega, N4⟩
  case round =>
    obtain ⟨i, hi, rfl, HOK, HB⟩ := hrel
    have QR := Lib.hid ((HB.out.block _ (blk_lt Q1B.out)).trans Q1B.out)
    obtain ⟨b0, b1, b2, b3⟩ := cells4 QR.out
    by_cases hil : i < ls.length
    · obtain ⟨ad, cs, rfl, hcs, hK, hcell⟩ := row_at G3.out i hil
      have hsz : (k90 : Kd IChg).sz = 19 := rfl
      rw [hsz] at hcs hcell
      have hone := (k90 : Kd IChg).K_one hK
      obtain ⟨d2, rfl, hK2⟩ := kC_split hK
      have hl2 : d2.length = 17 := (k46 : Kd IObj).K_len hK2
      have HK2 := Lib.hid hK2
      have HC := Lib.hid hcell
      have HCS := Lib.hid hcs
      have HL2 := Lib.hid hl2
      have HONE := Lib.hid hone
      have H3 := Lib.hid (kO_rev hK2)
      clear hcs hK hcell hsz hone hK2 hl2
      go_wp2_with (first | ((with_reducible refine gate_dst (N := 39) rfl ?_); refine load_event rfl (N := 39) rfl 90 (.tmp 38) rfl (ad.add (i * 19)) ?hx _ (HC.out wr HB.out) Try.underlying90 rfl ?hi ?_; (case hx => first | rfl | (go_simp; done) | (go_simp; rfl)); (case hi => rw [HCS.out]; kernel_rfl)) | ((with_reducible refine gate_store (p := 4) rfl ?_); refine store_event rfl rfl rfl (blk_new wr _) rfl rfl ?hs ?hi ?h1 ?_; (case hs => simp [HL2.out]); (case hi => simp only [List.size_toArray, HCS.out]; kernel_rfl); (case h1 => simpa using HONE.out); intro w5 hz hs5 hfar5 hB5; have HZB := Lib.hid hz; have HFAR := Lib.hid hfar5; have HB5 := Lib.hid (hB5 W1 HB.out.size (below_alloc HB.out _)); clear hz hs5 hfar5 hB5))
      clear b0 b1 b2 b3
      have Q5 := Lib.hid ((HB5.out.block _ (blk_lt Q1B.out)).trans Q1B.out)
      refine start_ (n := 35) (S := fun w' => Below w5.heap.size w5 w') (ds := []) #[false, false, false, false, false, false, false, false, false, false, false, false, false, false, false, false, false, false, false, false, false, false, false, false, false, false, false, false, false, false, false, false, false, false, false] (by kernel_rfl) rfl rfl (below_drew (Below.refl w5.heap.size w5)) (fun hHeld => ?_)
      refine with_tabW t_impl_BaseOk_6 b_impl_BaseOk_6 (fun HT_ HW_ => ?_)
      generalize w5.drew = w6 at hHeld ⊢
      repeat (apply takeA_ HT_.out HW_.out [0, 1, 2, 3, 4, 5, 6, 7, 8]; (case hn => exact rfl); (case hi0 => exact rfl); (case hl => simp only [List.setIfInBounds_toArray, List.set_cons_zero, List.set_cons_succ]; rfl); (case hQ => exact fun _ _ _ h => h); (case hy => first | exact Or.inr ⟨by rfl, rfl⟩ | (exact yield_row (ad := ⟨wr.heap.size, 2, none⟩) (cs := d2) (by rfl) rfl rfl (fun w_ hS_ => blk_from ((hS_.block _ (blk_lt HZB.out)).trans HZB.out) rfl) Try.underlying46 rfl (by rw [HL2.out]; kernel_rfl)) | (refine Or.inl ⟨by rfl, ?_⟩; intro w_ hS_; obtain ⟨b0, b1, b2, b3⟩ := cells4 ((hS_.block _ (blk_lt Q5.out)).trans Q5.out); obtain ⟨d0, d1, d5⟩ := chg_cells ((hS_.block _ (blk_lt HZB.out)).trans HZB.out) H3.out; go_simp; with_reducible rfl) | (refine Or.inl ⟨by rfl, ?_⟩; intro w_ hS_; go_simp; with_reducible rfl)); (case hS => exact hHeld); (case ha => simp only [Act.put, List.setIfInBounds_toArray, List.set_cons_zero, List.set_cons_succ, i64_w, i32_w]; rfl))
      have HB6 := Lib.hid hHeld
      refine callA_ (i := 9) (l' := ?_) HT_.out rfl rfl ?_ (by decide) Try.func73 (by kernel_rfl) rfl (by rfl) rfl (by (try simp only [List.map_toArray, List.map_cons, List.map_nil]); first | done | rfl) ((show Calls Try.prog 73 #[.agg d2.toArray, .int .i64 (wrap64 (nx - 1)), .int .i64 rv, .bool ls[i].f1] w6 (fun e w' => e = .returned (.bool (objB ls[i].f2 rv nx ls[i].f1)) ∧ Below w6.heap.size w6 w') from by rw [HW0.out]; exact objOk_calls n ls[i].f2 rv nx ls[i].f1 d2 w6 ((k46 : Kd IObj).K_below (below_step HB5.out hHeld) HK2.out) (HS3.out _ (List.getElem_mem hil)) hn1 hn2)) ?_
      rotate_left
      · simp only [List.setIfInBounds_toArray, List.set_cons_zero, List.set_cons_succ]; rfl
      rintro e w7 ⟨rfl, hb7⟩
      have hHeld2 := below_step HB6.out hb7
      refine ⟨_, rfl, hHeld2, ?_⟩
      have HB7 := Lib.hid hHeld2
      clear hb7 hHeld HB6
      cases hb : objB ls[i].f2 rv nx ls[i].f1 with
      | false =>
        have HZ := Lib.hid (HZ0.out.trans (allN_false hil (by unfold logAt; rw [cAt_eq hil, hb]; rfl)))
        clear hb
        refine norm_ (a' := ?_) ?_ ?_
        rotate_left
        · simp only [Act.put, List.setIfInBounds_toArray, List.set_cons_zero, List.set_cons_succ, i64_w, i32_w]; rfl
        repeat (apply takeA_ HT_.out HW_.out [10, 11, 12, 13, 14, 15, 16, 17, 18, 19, 20, 21, 22, 23, 24, 25, 26, 27, 28, 29, 30, 31, 32, 33, 34]; (case hn => exact rfl); (case hi0 => exact rfl); (case hl => simp only [List.setIfInBounds_toArray, List.set_cons_zero, List.set_cons_succ]; rfl); (case hQ => exact fun _ _ _ h => h); (case hy => first | exact Or.inr ⟨by rfl, rfl⟩ | (refine Or.inl ⟨by rfl, ?_⟩; intro w_ hS_; obtain ⟨b0, b1, b2, b3⟩ := cells4 ((hS_.block _ (blk_lt Q5.out)).trans Q5.out); obtain ⟨d0, d1, d5⟩ := chg_cells ((hS_.block _ (blk_lt HZB.out)).trans HZB.out) H3.out; go_simp; with_reducible rfl) | (refine Or.inl ⟨by rfl, ?_⟩; intro w_ hS_; go_simp; with_reducible rfl)); (case hS => exact hHeld2); (case ha => simp only [Act.put, List.setIfInBounds_toArray, List.set_cons_zero, List.set_cons_succ, i64_w, i32_w]; rfl))
        refine done_ (done_of HT_.out (by kernel_rfl)) ?_
        clear hHeld2 HT_ HW_ HC
        go_wp2
        go_ret
        exact ⟨by rw [HZ.out]; first | done | rfl, below_step HBA.out (below_step HB5.out HB7.out)⟩
      | true =>
        have HO := Lib.hid hb
        clear hb
        by_cases hrv : ls[i].f2.f3 = ls[i].f0
        case neg =>
          have HZ := Lib.hid (HZ0.out.trans (allN_false hil (by unfold logAt; rw [cAt_eq hil, HO.out]; simp [hrv])))
          have hrb : (ls[i].f2.f3 != ls[i].f0) = true := bne_iff_ne.2 hrv
          have hrc : (ls[i].f2.f3 == ls[i].f0) = false := beq_eq_false_iff_ne.2 hrv
          clear hrv
          refine norm_ (a' := ?_) ?_ ?_
          rotate_left
          · simp only [Act.put, List.setIfInBounds_toArray, List.set_cons_zero, List.set_cons_succ, i64_w, i32_w]; rfl
          repeat (apply takeA_ HT_.out HW_.out [10, 11, 12, 13, 14, 15, 16, 17, 18, 19, 20, 21, 22, 23, 24, 25, 26, 27, 28, 29, 30, 31, 32, 33, 34]; (case hn => exact rfl); (case hi0 => exact rfl); (case hl => simp only [List.setIfInBounds_toArray, List.set_cons_zero, List.set_cons_succ]; rfl); (case hQ => exact fun _ _ _ h => h); (case hy => first | exact Or.inr ⟨by rfl, rfl⟩ | (refine Or.inl ⟨by rfl, ?_⟩; intro w_ hS_; obtain ⟨b0, b1, b2, b3⟩ := cells4 ((hS_.block _ (blk_lt Q5.out)).trans Q5.out); obtain ⟨d0, d1, d5⟩ := chg_cells ((hS_.block _ (blk_lt HZB.out)).trans HZB.out) H3.out; go_simp; with_reducible rfl) | (refine Or.inl ⟨by rfl, ?_⟩; intro w_ hS_; go_simp; with_reducible rfl)); (case hS => exact hHeld2); (case ha => simp only [Act.put, List.setIfInBounds_toArray, List.set_cons_zero, List.set_cons_succ, i64_w, i32_w]; rfl))
          refine done_ (done_of HT_.out (by kernel_rfl)) ?_
          clear hHeld2 HT_ HW_ HC
          go_wp2
          go_ret
          exact ⟨by rw [HZ.out]; first | done | rfl, below_step HBA.out (below_step HB5.out HB7.out)⟩
        have HRV := Lib.hid hrv
        have hrb : (ls[i].f2.f3 != ls[i].f0) = false := by rw [hrv]; exact bne_self_eq_false _
        have hrc : (ls[i].f2.f3 == ls[i].f0) = true := beq_iff_eq.2 hrv
        clear hrv
        by_cases h0 : i = 0
        case pos =>
          have hp1 : (0 < (i : Int)) = False := eq_false (by omega)
          have hp2 : (0 < i) = False := eq_false (by omega)
          have hat : logAt ls rv nx i = true := by unfold logAt; rw [cAt_eq hil, HO.out, HRV.out]; simp [h0]
          have HOK2 : Hid (∀ j, j < i + 1 → logAt ls rv nx j = true) := Lib.hid (fun j hj => by
            rcases Nat.lt_succ_iff_lt_or_eq.1 hj with h | h
            · exact HOK.out j h
            · rw [h]; exact hat)
          clear hat h0
          refine norm_ (a' := ?_) ?_ ?_
          rotate_left
          · simp only [Act.put, List.setIfInBounds_toArray, List.set_cons_zero, List.set_cons_succ, i64_w, i32_w]; rfl
          repeat (apply takeA_ HT_.out HW_.out [10, 11, 12, 13, 14, 15, 16, 17, 18, 19, 20, 21, 22, 23, 24, 25, 26, 27, 28, 29, 30, 31, 32, 33, 34]; (case hn => exact rfl); (case hi0 => exact rfl); (case hl => simp only [List.setIfInBounds_toArray, List.set_cons_zero, List.set_cons_succ]; rfl); (case hQ => exact fun _ _ _ h => h); (case hy => first | exact Or.inr ⟨by rfl, rfl⟩ | (refine Or.inl ⟨by rfl, ?_⟩; intro w_ hS_; obtain ⟨b0, b1, b2, b3⟩ := cells4 ((hS_.block _ (blk_lt Q5.out)).trans Q5.out); obtain ⟨d0, d1, d5⟩ := chg_cells ((hS_.block _ (blk_lt HZB.out)).trans HZB.out) H3.out; go_simp; with_reducible rfl) | (refine Or.inl ⟨by rfl, ?_⟩; intro w_ hS_; go_simp; with_reducible rfl)); (case hS => exact hHeld2); (case ha => simp only [Act.put, List.setIfInBounds_toArray, List.set_cons_zero, List.set_cons_succ, i64_w, i32_w]; rfl))
          refine done_ (done_of HT_.out (by kernel_rfl)) ?_
          clear hHeld2 HT_ HW_ HC
          go_wp2
          go_roundw
          case rel => exact ⟨i + 1, by omega, by go_num, HOK2, below_step HB5.out HB7.out⟩
          case measure => simp [intOf]; omega
        obtain ⟨j0, hj0⟩ : ∃ j0, i = j0 + 1 := ⟨i - 1, by omega⟩
        have hjl : j0 < ls.length := by omega
        obtain ⟨ae, ds, hae, hds, hL, hdell⟩ := row_at G3.out j0 hjl
        obtain rfl := Option.some.inj hae
        have hsz : (k90 : Kd IChg).sz = 19 := rfl
        rw [hsz] at hdell
        obtain ⟨e2, rfl, _⟩ := kC_split hL
        have HP := Lib.hid (fun (W : World) (hW : Below W1.heap.size W1 W) => (show W.cell? (ad.add (j0 * 19)) = some (.int .i64 ls[j0].f0) from hdell W hW 0 _ rfl))
        have hw1 : (i : Int) - 1 = (j0 : Int) := by omega
        have hw3 : wrap64 (j0 : Int) = (j0 : Int) := w64 (by omega) (by omega)
        have hp1 : (0 < (i : Int)) = True := eq_true (by omega)
        have hp2 : (0 < i) = True := eq_true (by omega)
        have HJ0 := Lib.hid hj0
        clear hae hds hL hdell hsz
        clear hj0 h0
        by_cases hlt : ls[j0].f0 < ls[i].f0
        case pos =>
          have hc0 : (ls[i].f0 ≤ ls[j0].f0) = False := eq_false (by omega)
          have hat : logAt ls rv nx i = true := by unfold logAt; rw [cAt_eq hil, HO.out, HRV.out, show i - 1 = j0 by have := HJ0.out; omega, cAt_eq hjl]; simp [hlt]
          have HOK2 : Hid (∀ j, j < i + 1 → logAt ls rv nx j = true) := Lib.hid (fun j hj => by
            rcases Nat.lt_succ_iff_lt_or_eq.1 hj with h | h
            · exact HOK.out j h
            · rw [h]; exact hat)
          clear hat hlt
          refine norm_ (a' := ?_) ?_ ?_
          rotate_left
          · simp only [Act.put, List.setIfInBounds_toArray, List.set_cons_zero, List.set_cons_succ, i64_w, i32_w]; rfl
          repeat (apply takeA_ HT_.out HW_.out [10, 11, 12, 13, 14, 15, 16, 17, 18, 19, 20, 21, 22, 23, 24, 25, 26, 27, 28, 29, 30, 31, 32, 33, 34]; (case hn => exact rfl); (case hi0 => exact rfl); (case hl => simp only [List.setIfInBounds_toArray, List.set_cons_zero, List.set_cons_succ]; rfl); (case hQ => exact fun _ _ _ h => h); (case hy => first | exact Or.inr ⟨by rfl, rfl⟩ | (refine Or.inl ⟨by rfl, ?_⟩; intro w_ hS_; have p0 := HP.out w_ (below_step HB5.out hS_); obtain ⟨b0, b1, b2, b3⟩ := cells4 ((hS_.block _ (blk_lt Q5.out)).trans Q5.out); obtain ⟨d0, d1, d5⟩ := chg_cells ((hS_.block _ (blk_lt HZB.out)).trans HZB.out) H3.out; go_simp; with_reducible rfl) | (refine Or.inl ⟨by rfl, ?_⟩; intro w_ hS_; go_simp; with_reducible rfl)); (case hS => exact hHeld2); (case ha => simp only [Act.put, List.setIfInBounds_toArray, List.set_cons_zero, List.set_cons_succ, i64_w, i32_w]; rfl))
          refine done_ (done_of HT_.out (by kernel_rfl)) ?_
          clear hHeld2 HT_ HW_ HC HP
          go_wp2
          go_roundw
          case rel => exact ⟨i + 1, by omega, by go_num, HOK2, below_step HB5.out HB7.out⟩
          case measure => simp [intOf]; omega
        have hc0 : (ls[i].f0 ≤ ls[j0].f0) = True := eq_true (by omega)
        have HZ := Lib.hid (HZ0.out.trans (allN_false hil (by unfold logAt; rw [cAt_eq hil, show i - 1 = j0 by have := HJ0.out; omega, cAt_eq hjl, decide_eq_false hlt, show (i == 0) = false by have := HJ0.out; exact beq_eq_false_iff_ne.2 (by omega)]; simp)))
        clear hlt
        refine norm_ (a' := ?_) ?_ ?_
        rotate_left
        · simp only [Act.put, List.setIfInBounds_toArray, List.set_cons_zero, List.set_cons_succ, i64_w, i32_w]; rfl
        repeat (apply takeA_ HT_.out HW_.out [10, 11, 12, 13, 14, 15, 16, 17, 18, 19, 20, 21, 22, 23, 24, 25, 26, 27, 28, 29, 30, 31, 32, 33, 34]; (case hn => exact rfl); (case hi0 => exact rfl); (case hl => simp only [List.setIfInBounds_toArray, List.set_cons_zero, List.set_cons_succ]; rfl); (case hQ => exact fun _ _ _ h => h); (case hy => first | exact Or.inr ⟨by rfl, rfl⟩ | (refine Or.inl ⟨by rfl, ?_⟩; intro w_ hS_; have p0 := HP.out w_ (below_step HB5.out hS_); obtain ⟨b0, b1, b2, b3⟩ := cells4 ((hS_.block _ (blk_lt Q5.out)).trans Q5.out); obtain ⟨d0, d1, d5⟩ := chg_cells ((hS_.block _ (blk_lt HZB.out)).trans HZB.out) H3.out; go_simp; with_reducible rfl) | (refine Or.inl ⟨by rfl, ?_⟩; intro w_ hS_; go_simp; with_reducible rfl)); (case hS => exact hHeld2); (case ha => simp only [Act.put, List.setIfInBounds_toArray, List.set_cons_zero, List.set_cons_succ, i64_w, i32_w]; rfl))
        refine done_ (done_of HT_.out (by kernel_rfl)) ?_
        clear hHeld2 HT_ HW_ HC HP
        go_wp2
        go_ret
        exact ⟨by rw [HZ.out]; first | done | rfl, below_step HBA.out (below_step HB5.out HB7.out)⟩
    · obtain rfl : i = ls.length := by omega
      have HZ := Lib.hid (HZ0.out.trans (allN_true.2 HOK.out))
      go_wp2
      go_ret
      exact ⟨by rw [HZ.out]; first | done | rfl, below_step HBA.out HB.out⟩
end Go.Proofs.Ytmoiacijklkfaaa.G

/- GKSz -/
/-
  Sizes of bases: what is left says that all is small, and how many marks there are.
-/
namespace Go.Proofs.Ytmoiacijklkfaaa.G
open Go.RowKit Go.Proofs.YtmoiacijklkfaaaW.PrintWords Go.Proofs.YtmoiacijklkfaaaW.PrintLast Go.Proofs.YtmoiacijklkfaaaW.PrintMore
attribute [local go_sem] max2_int min2_int max_two min_two max_three min_three max_four min_four
set_option linter.unusedVariables false
set_option linter.unusedSimpArgs false
def wfLON (n : Nat) (x : LObj) : Prop := wfStr x.f1 ∧ wfStrs x.f6 ∧ wfValN n x.f7 ∧ wfValN n x.f8
def mcLO (n : Nat) (x : LObj) : Nat := x.f6.length + (mcL n x.f7 + mcL n x.f8)
set_option maxHeartbeats 16000000 in
set_option maxRecDepth 100000 in
theorem szO_calls (n : Nat) (x : LObj) (cs : List Value) (left : Int) (w : World) (hk : k121.K w x cs) (hw : wfLON n x) (h0 : 0 ≤ left) (h1 : left ≤ 1048576) :
    Calls Try.prog 109 #[.agg cs.toArray, .int .i64 left] w fun e w' => ∃ r, e = .returned (.int .i64 r) ∧ Left left (SmLO n x ∧ (mcLO n x : Int) ≤ 4 * (left - r)) r ∧ Below w.heap.size w w' := by
  obtain ⟨A6, c6, A10, c10, A11, c11, A15, c15, A16, c16, rfl, l6, g6, l10, g10, l11, g11, l15, g15, l16, g16⟩ := k121_open hk
  obtain ⟨hw1, hw6, hw7, hw8⟩ := hw
  unfold wfStr at hw1
  obtain ⟨W1, hW1⟩ : ∃ W1, w.alloc (.cells #[.int .i64 x.f0, .string x.f1, .int .i64 x.f2, .int .i64 x.f3, .int .i64 x.f4, .bool x.f5, .slice A6 x.f6.length c6, .int .i64 x.f7.f0, .string x.f7.f1, .int .i64 x.f7.f2, .slice A10 x.f7.f3.length c10, .slice A11 x.f7.f4.length c11, .int .i64 x.f8.f0, .string x.f8.f1, .int .i64 x.f8.f2, .slice A15 x.f8.f3.length c15, .slice A16 x.f8.f4.length c16] 121) = W1 := ⟨_, rfl⟩
  have hbA := below_alloc (Below.refl w.heap.size w) (.cells #[.int .i64 x.f0, .string x.f1, .int .i64 x.f2, .int .i64 x.f3, .int .i64 x.f4, .bool x.f5, .slice A6 x.f6.length c6, .int .i64 x.f7.f0, .string x.f7.f1, .int .i64 x.f7.f2, .slice A10 x.f7.f3.length c10, .slice A11 x.f7.f4.length c11, .int .i64 x.f8.f0, .string x.f8.f1, .int .i64 x.f8.f2, .slice A15 x.f8.f3.length c15, .slice A16 x.f8.f4.length c16] 121)
  have hb0 := blk_new w (.cells #[.int .i64 x.f0, .string x.f1, .int .i64 x.f2, .int .i64 x.f3, .int .i64 x.f4, .bool x.f5, .slice A6 x.f6.length c6, .int .i64 x.f7.f0, .string x.f7.f1, .int .i64 x.f7.f2, .slice A10 x.f7.f3.length c10, .slice A11 x.f7.f4.length c11, .int .i64 x.f8.f0, .string x.f8.f1, .int .i64 x.f8.f2, .slice A15 x.f8.f3.length c15, .slice A16 x.f8.f4.length c16] 121)
  rw [hW1] at hbA hb0
  have HW1 := Lib.hid hW1
  have HBA := Lib.hid hbA
  have Q1 : Hid (W1.heap[w.heap.size]? = some (.cells (lobC x (.slice A6 x.f6.length c6) (.slice A10 x.f7.f3.length c10) (.slice A11 x.f7.f4.length c11) (.slice A15 x.f8.f3.length c15) (.slice A16 x.f8.f4.length c16)) 121 (0, 0))) := Lib.hid hb0
  have G6 := Lib.hid (Kd.C_below g6 hbA)
  have G10 := Lib.hid (Kd.C_below g10 hbA)
  have G11 := Lib.hid (Kd.C_below g11 hbA)
  have G15 := Lib.hid (Kd.C_below g15 hbA)
  have G16 := Lib.hid (Kd.C_below g16 hbA)
  clear hk g6 g10 g11 g15 g16 hW1 hbA hb0
  by_cases c1 : left - (x.f1.size : Int) < 0
  · clear hw6 hw7 hw8
    go_enter Try.func109, Try.ntmps109
    go_wp2
    go_ret
    exact ⟨-1, rfl, .inl (by omega), by rw [HW1.out]; exact HBA.out⟩
  have hz := szStringS_ev x.f6 (left - (x.f1.size : Int)) hw6 (by omega) (by omega)
  have hle := szR_le (by omega : 0 ≤ left - (x.f1.size : Int)) (totStrs x.f6)
  have hsm := fun h => strs_small (xs := x.f6) (left := left - (x.f1.size : Int)) (by omega) h
  have hqv := fun (h : 0 ≤ szR (left - (x.f1.size : Int)) (totStrs x.f6)) => szR_pos (szR_nonneg h)
  have htl : x.f6.length ≤ totStrs x.f6 := by unfold totStrs; omega
  generalize hq : szR (left - (x.f1.size : Int)) (totStrs x.f6) = q at hz hle hsm hqv
  obtain ⟨K6, e6⟩ := hz
  have E6 := Lib.hid (e6 K6 (Nat.le_refl _))
  have HSM := Lib.hid hsm
  have HQV := Lib.hid hqv
  have HTL := Lib.hid htl
  have HLE := Lib.hid hle
  have HW7 := Lib.hid hw7
  have HW8 := Lib.hid hw8
  clear e6 hsm hqv htl hw6 hw7 hw8 hq
  go_enter Try.func109, Try.ntmps109
  go_wp2_with fail
  rw [HW1.out]
  refine (laws_szStringS.calls K6 A6 c6 x.f6 (left - (x.f1.size : Int)) q W1 G6.out l6 E6.out).mono ?_
  rintro e w2 ⟨rfl, hd⟩
  have hb2 := hd.below
  have N2 := Lib.hid hb2
  have Q2 := Lib.hid ((hb2.block _ (blk_lt Q1.out)).trans Q1.out)
  clear hd hb2 HW1
  by_cases c2 : q < 0
  · go_wp2
    go_ret
    exact ⟨-1, rfl, .inl (by omega), below_step HBA.out N2.out⟩
  obtain ⟨r1, ⟨K7, e7⟩, hL1⟩ := szValue_cnt n x.f7 q HW7.out (by omega) (by omega)
  have E7 := Lib.hid (e7 K7 (Nat.le_refl _))
  have HL1 := Lib.hid hL1
  clear e7 hL1
  obtain ⟨d7, d8, d9, d10, d11⟩ := lob_c7 Q2.out
  go_wp2_with fail
  clear d7 d8 d9 d10 d11
  refine (laws_szValue.calls K7 x.f7.f0 x.f7.f1 x.f7.f2 A10 c10 x.f7.f3 A11 c11 x.f7.f4 q r1 w2 (Kd.C_below G10.out N2.out) l10 (Kd.C_below G11.out N2.out) l11 E7.out).mono ?_
  rintro e w3 ⟨rfl, hd⟩
  have N3 := Lib.hid (below_step N2.out hd)
  have Q3 := Lib.hid ((hd.block _ (blk_lt Q2.out)).trans Q2.out)
  clear hd
  by_cases c3 : r1 < 0
  · go_wp2
    go_ret
    exact ⟨-1, rfl, .inl (by omega), below_step HBA.out N3.out⟩
  obtain ⟨hp1, hle1, hs1, hm1⟩ : 0 ≤ r1 ∧ r1 ≤ q ∧ SmL n x.f7 ∧ (mcL n x.f7 : Int) ≤ 4 * (q - r1) := by
    rcases HL1.out with h | h
    · omega
    · exact h
  obtain ⟨r2, ⟨K8, e8⟩, hL2⟩ := szValue_cnt n x.f8 r1 HW8.out hp1 (by omega)
  have E8 := Lib.hid (e8 K8 (Nat.le_refl _))
  have HL2 := Lib.hid hL2
  have HS1 := Lib.hid hs1
  have HM1 := Lib.hid hm1
  clear e8 hL2 hs1 hm1
  obtain ⟨d12, d13, d14, d15, d16⟩ := lob_c8 Q3.out
  go_wp2_with fail
  clear d12 d13 d14 d15 d16
  refine (laws_szValue.calls K8 x.f8.f0 x.f8.f1 x.f8.f2 A15 c15 x.f8.f3 A16 c16 x.f8.f4 r1 r2 w3 (Kd.C_below G15.out N3.out) l15 (Kd.C_below G16.out N3.out) l16 E8.out).mono ?_
  rintro e w4 ⟨rfl, hd⟩
  have N4 := Lib.hid (below_step N3.out hd)
  clear hd
  by_cases c4 : r2 < 0
  · go_wp2
    go_ret
    exact ⟨-1, rfl, .inl (by omega), below_step HBA.out N4.out⟩
  go_wp2
  go_ret
  refine ⟨r2, rfl, ?_, below_step HBA.out N4.out⟩
  obtain ⟨hp2, hle2, hs2, hm2⟩ : 0 ≤ r2 ∧ r2 ≤ r1 ∧ SmL n x.f8 ∧ (mcL n x.f8 : Int) ≤ 4 * (r1 - r2) := by
    rcases HL2.out with h | h
    · omega
    · exact h
  have h1' := HQV.out (by omega)
  have h2' := HTL.out
  have h3' := HM1.out
  exact .inr ⟨hp2, by omega, ⟨HSM.out (by omega), HS1.out, hs2⟩, by unfold mcLO; omega⟩
set_option maxHeartbeats 16000000 in
set_option maxRecDepth 100000 in
theorem szOs_calls (n : Nat) (xs : List LObj) (A : Option Addr) (c : Nat) (left : Int) (w : World) (hC : Kd.C k121 w A xs.length xs) (hc : xs.length ≤ c) (hw : ∀ x ∈ xs, wfLON n x) (h0 : 0 ≤ left) (h1 : left ≤ 1048576) :
    Calls Try.prog 54 #[.slice A xs.length c, .int .i64 left] w fun e w' => ∃ r, e = .returned (.int .i64 r) ∧ Left left ((xs.length ≤ 1048576 ∧ ∀ x ∈ xs, SmLO n x) ∧ ((xs.map (fun x => mcLO n x)).sum : Int) ≤ 4 * (left - r)) r ∧ Below w.heap.size w w' := by
  have hlen := hC.2.1
  have HC := Lib.hid hC
  have HW := Lib.hid hw
  clear hC hw
  go_enter Try.func54, Try.ntmps54
  by_cases c1 : left - (xs.length : Int) < 0
  · go_wp2
    go_ret
    exact ⟨-1, rfl, .inl (by omega), Below.refl _ _⟩
  go_wp2
  go_loopw [1, 5] (fun vl vi wr => ∃ (i : Nat) (L : Int), i ≤ xs.length ∧ vl = .int .i64 L ∧ vi = .int .i64 i ∧ 0 ≤ L ∧ L ≤ left - (xs.length : Int) ∧ Hid (∀ x ∈ xs.take i, SmLO n x) ∧ Hid ((((xs.take i).map (fun x => mcLO n x)).sum : Int) ≤ 4 * (left - (xs.length : Int) - L)) ∧ Hid (Below w.heap.size w wr)) (fun _ vi _ => xs.length - (intOf vi).toNat)
  case atStart => exact ⟨0, left - (xs.length : Int), by omega, rfl, rfl, by omega, Int.le_refl _, fun x hx => (by cases hx), (by unfold Hid; simp), Below.refl _ _⟩
  case round =>
    obtain ⟨i, L, hi, rfl, rfl, hL0, hL1, HSM, HSUM, HB⟩ := hrel
    by_cases hil : i < xs.length
    · obtain ⟨ad, cs, rfl, hcs, hK, hcell⟩ := row_at HC.out i hil
      have hsz : (k121 : Kd LObj).sz = 17 := rfl
      rw [hsz] at hcs hcell
      have HK := Lib.hid hK
      have HCL := Lib.hid (hcell wr HB.out)
      have HCS := Lib.hid hcs
      clear hcs hK hcell hsz
      go_wp2_with ((with_reducible refine gate_dst (N := 21) rfl ?_); refine load_event rfl (N := 21) rfl 121 (.tmp 20) rfl (ad.add (i * 17)) ?hx cs HCL.out Try.underlying121 rfl ?hi ?_; (case hx => first | rfl | (go_simp; done) | (go_simp; rfl)); (case hi => rw [HCS.out]; kernel_rfl))
      (with_reducible refine (szO_calls n xs[i] cs L wr ((k121 : Kd LObj).K_below HB.out HK.out) (HW.out _ (List.getElem_mem hil)) hL0 (by omega)).mono ?_)
      rintro e w2 ⟨r, rfl, hLr, hb2⟩
      have HB2 := Lib.hid (below_step HB.out hb2)
      have HLR := Lib.hid hLr
      clear hb2 hLr HCL
      by_cases c2 : r < 0
      · go_wp2
        go_ret
        exact ⟨-1, rfl, .inl (by omega), HB2.out⟩
      obtain ⟨hp, hle, hs, hm⟩ : 0 ≤ r ∧ r ≤ L ∧ SmLO n xs[i] ∧ (mcLO n xs[i] : Int) ≤ 4 * (L - r) := by
        rcases HLR.out with h | h
        · omega
        · exact ⟨h.1, h.2.1, h.2.2.1, h.2.2.2⟩
      have HSM2 : Hid (∀ x ∈ xs.take (i + 1), SmLO n x) := Lib.hid (by
        rw [List.take_succ_eq_append_getElem hil]
        intro y hy
        rcases List.mem_append.1 hy with hy | hy
        · exact HSM.out y hy
        · rw [List.mem_singleton.1 hy]; exact hs)
      have HSUM2 : Hid ((((xs.take (i + 1)).map (fun x => mcLO n x)).sum : Int) ≤ 4 * (left - (xs.length : Int) - r)) := Lib.hid (by
        have := HSUM.out
        rw [List.take_succ_eq_append_getElem hil, List.map_append, List.sum_append, List.map_singleton, List.sum_singleton]
        omega)
      clear hs hm
      go_wp2
      go_roundw
      case rel => exact ⟨i + 1, r, by omega, rfl, by go_num, hp, by omega, HSM2, HSUM2, HB2⟩
      case measure => simp [intOf]; omega
    · obtain rfl : i = xs.length := by omega
      go_wp2
      go_ret
      have h2 := HSM.out
      have h3 := HSUM.out
      rw [List.take_length] at h2 h3
      exact ⟨L, rfl, .inr ⟨hL0, by omega, ⟨by omega, h2⟩, by omega⟩, HB.out⟩
theorem kLC_split {w : World} {x : LChg} {cs : List Value} (h : k124.K w x cs) : ∃ c2, cs = .int .i64 x.f0 :: .bool x.f1 :: c2 ∧ k121.K w x.f2 c2 := by
  obtain ⟨_, _, e0, h0, _, c2, e1, h1, h2⟩ := h
  subst e1
  subst e0
  exact ⟨c2, by rw [h0, h1]; rfl, h2⟩
set_option maxHeartbeats 16000000 in
set_option maxRecDepth 100000 in
theorem szC_calls (n : Nat) (x : LChg) (cs : List Value) (left : Int) (w : World) (hk : k124.K w x cs) (hw : wfLON n x.f2) (h0 : 0 ≤ left) (h1 : left ≤ 1048576) :
    Calls Try.prog 110 #[.agg cs.toArray, .int .i64 left] w fun e w' => ∃ r, e = .returned (.int .i64 r) ∧ Left left (SmLO n x.f2 ∧ (mcLO n x.f2 : Int) ≤ 4 * (left - r)) r ∧ Below w.heap.size w w' := by
  obtain ⟨c2, rfl, hk2⟩ := kLC_split hk
  have hl2 : c2.length = 17 := (k121 : Kd LObj).K_len hk2
  obtain ⟨W1, hW1⟩ : ∃ W1, w.alloc (.cells (Value.int .i64 x.f0 :: Value.bool x.f1 :: c2).toArray 124) = W1 := ⟨_, rfl⟩
  have hbA := below_alloc (Below.refl w.heap.size w) (.cells (Value.int .i64 x.f0 :: Value.bool x.f1 :: c2).toArray 124)
  have hb0 := blk_new w (.cells (Value.int .i64 x.f0 :: Value.bool x.f1 :: c2).toArray 124)
  rw [hW1] at hbA hb0
  have HW1 := Lib.hid hW1
  have HBA := Lib.hid hbA
  have Q1 := Lib.hid hb0
  have HL2 := Lib.hid hl2
  have HK2 := Lib.hid ((k121 : Kd LObj).K_below hbA hk2)
  clear hk hk2 hl2 hW1 hbA hb0
  go_enter Try.func110, Try.ntmps110
  go_wp2_with ((with_reducible refine gate_dst (N := 6) rfl ?_); rw [HW1.out]; refine load_event rfl (N := 6) rfl 121 (.tmp 5) rfl ⟨w.heap.size, 2, none⟩ rfl c2 (blk_from Q1.out rfl) Try.underlying121 rfl ?hi ?_; (case hi => rw [HL2.out]; kernel_rfl))
  refine (szO_calls n x.f2 c2 left W1 HK2.out hw h0 h1).mono ?_
  rintro e w2 ⟨r, rfl, hL, hb2⟩
  have HB2 := Lib.hid (below_step HBA.out hb2)
  have HL := Lib.hid hL
  clear hb2 hL
  by_cases c2 : r < 0
  · go_wp2
    go_ret
    exact ⟨-1, rfl, .inl (by omega), HB2.out⟩
  · go_wp2
    go_ret
    exact ⟨r, rfl, HL.out, HB2.out⟩
set_option maxHeartbeats 16000000 in
set_option maxRecDepth 100000 in
theorem szCs_calls (n : Nat) (xs : List LChg) (A : Option Addr) (c : Nat) (left : Int) (w : World) (hC : Kd.C k124 w A xs.length xs) (hc : xs.length ≤ c) (hw : ∀ x ∈ xs, wfLON n x.f2) (h0 : 0 ≤ left) (h1 : left ≤ 1048576) :
    Calls Try.prog 55 #[.slice A xs.length c, .int .i64 left] w fun e w' => ∃ r, e = .returned (.int .i64 r) ∧ Left left ((xs.length ≤ 1048576 ∧ ∀ x ∈ xs, SmLO n x.f2) ∧ ((xs.map (fun x => mcLO n x.f2)).sum : Int) ≤ 4 * (left - r)) r ∧ Below w.heap.size w w' := by
  have hlen := hC.2.1
  have HC := Lib.hid hC
  have HW := Lib.hid hw
  clear hC hw
  go_enter Try.func55, Try.ntmps55
  by_cases c1 : left - (xs.length : Int) < 0
  · go_wp2
    go_ret
    exact ⟨-1, rfl, .inl (by omega), Below.refl _ _⟩
  go_wp2
  go_loopw [1, 5] (fun vl vi wr => ∃ (i : Nat) (L : Int), i ≤ xs.length ∧ vl = .int .i64 L ∧ vi = .int .i64 i ∧ 0 ≤ L ∧ L ≤ left - (xs.length : Int) ∧ Hid (∀ x ∈ xs.take i, SmLO n x.f2) ∧ Hid ((((xs.take i).map (fun x => mcLO n x.f2)).sum : Int) ≤ 4 * (left - (xs.length : Int) - L)) ∧ Hid (Below w.heap.size w wr)) (fun _ vi _ => xs.length - (intOf vi).toNat)
  case atStart => exact ⟨0, left - (xs.length : Int), by omega, rfl, rfl, by omega, Int.le_refl _, fun x hx => (by cases hx), (by unfold Hid; simp), Below.refl _ _⟩
  case round =>
    obtain ⟨i, L, hi, rfl, rfl, hL0, hL1, HSM, HSUM, HB⟩ := hrel
    by_cases hil : i < xs.length
    · obtain ⟨ad, cs, rfl, hcs, hK, hcell⟩ := row_at HC.out i hil
      have hsz : (k124 : Kd LChg).sz = 19 := rfl
      rw [hsz] at hcs hcell
      have HK := Lib.hid hK
      have HCL := Lib.hid (hcell wr HB.out)
      have HCS := Lib.hid hcs
      clear hcs hK hcell hsz
      go_wp2_with ((with_reducible refine gate_dst (N := 21) rfl ?_); refine load_event rfl (N := 21) rfl 124 (.tmp 20) rfl (ad.add (i * 19)) ?hx cs HCL.out Try.underlying124 rfl ?hi ?_; (case hx => first | rfl | (go_simp; done) | (go_simp; rfl)); (case hi => rw [HCS.out]; kernel_rfl))
      (with_reducible refine (szC_calls n xs[i] cs L wr ((k124 : Kd LChg).K_below HB.out HK.out) (HW.out _ (List.getElem_mem hil)) hL0 (by omega)).mono ?_)
      rintro e w2 ⟨r, rfl, hLr, hb2⟩
      have HB2 := Lib.hid (below_step HB.out hb2)
      have HLR := Lib.hid hLr
      clear hb2 hLr HCL
      by_cases c2 : r < 0
      · go_wp2
        go_ret
        exact ⟨-1, rfl, .inl (by omega), HB2.out⟩
      obtain ⟨hp, hle, hs, hm⟩ : 0 ≤ r ∧ r ≤ L ∧ SmLO n xs[i].f2 ∧ (mcLO n xs[i].f2 : Int) ≤ 4 * (L - r) := by
        rcases HLR.out with h | h
        · omega
        · exact ⟨h.1, h.2.1, h.2.2.1, h.2.2.2⟩
      have HSM2 : Hid (∀ x ∈ xs.take (i + 1), SmLO n x.f2) := Lib.hid (by
        rw [List.take_succ_eq_append_getElem hil]
        intro y hy
        rcases List.mem_append.1 hy with hy | hy
        · exact HSM.out y hy
        · rw [List.mem_singleton.1 hy]; exact hs)
      have HSUM2 : Hid ((((xs.take (i + 1)).map (fun x => mcLO n x.f2)).sum : Int) ≤ 4 * (left - (xs.length : Int) - r)) := Lib.hid (by
        have := HSUM.out
        rw [List.take_succ_eq_append_getElem hil, List.map_append, List.sum_append, List.map_singleton, List.sum_singleton]
        omega)
      clear hs hm
      go_wp2
      go_roundw
      case rel => exact ⟨i + 1, r, by omega, rfl, by go_num, hp, by omega, HSM2, HSUM2, HB2⟩
      case measure => simp [intOf]; omega
    · obtain rfl : i = xs.length := by omega
      go_wp2
      go_ret
      have h2 := HSM.out
      have h3 := HSUM.out
      rw [List.take_length] at h2 h3
      exact ⟨L, rfl, .inr ⟨hL0, by omega, ⟨by omega, h2⟩, by omega⟩, HB.out⟩
set_option maxHeartbeats 16000000 in
set_option maxRecDepth 100000 in
theorem szB_calls (n : Nat) (xs : List LObj) (rv nx : Int) (ls : List LChg) (A0 : Option Addr) (c0 : Nat) (A3 : Option Addr) (c3 : Nat) (left : Int) (w : World) (g0 : Kd.C k121 w A0 xs.length xs) (l0 : xs.length ≤ c0) (g3 : Kd.C k124 w A3 ls.length ls) (l3 : ls.length ≤ c3) (hw : ∀ x ∈ xs, wfLON n x) (hw3 : ∀ x ∈ ls, wfLON n x.f2) (h0 : 0 ≤ left) (h1 : left ≤ 1048576) :
    Calls Try.prog 13 #[.agg #[.slice A0 xs.length c0, .int .i64 rv, .int .i64 nx, .slice A3 ls.length c3], .int .i64 left] w fun e w' => ∃ r, e = .returned (.int .i64 r) ∧ Left left (SmLB n xs ls ∧ ((xs.map (mcLO n)).sum : Int) + ((ls.map (fun x => mcLO n x.f2)).sum : Int) ≤ 4 * (left - r)) r ∧ Below w.heap.size w w' := by
  obtain ⟨W1, hW1⟩ : ∃ W1, w.alloc (.cells #[.slice A0 xs.length c0, .int .i64 rv, .int .i64 nx, .slice A3 ls.length c3] 25) = W1 := ⟨_, rfl⟩
  have hbA := below_alloc (Below.refl w.heap.size w) (.cells #[.slice A0 xs.length c0, .int .i64 rv, .int .i64 nx, .slice A3 ls.length c3] 25)
  have hb0 := blk_new w (.cells #[.slice A0 xs.length c0, .int .i64 rv, .int .i64 nx, .slice A3 ls.length c3] 25)
  rw [hW1] at hbA hb0
  have HW1 := Lib.hid hW1
  have HBA := Lib.hid hbA
  have Q1 := Lib.hid hb0
  have G0 := Lib.hid (Kd.C_below g0 hbA)
  have G3 := Lib.hid (Kd.C_below g3 hbA)
  have HW := Lib.hid hw
  have HW3 := Lib.hid hw3
  clear g0 g3 hW1 hbA hb0 hw hw3
  go_enter Try.func13, Try.ntmps13
  go_wp2_with fail
  rw [HW1.out]
  refine (szOs_calls n xs A0 c0 left W1 G0.out l0 HW.out h0 h1).mono ?_
  rintro e w2 ⟨r, rfl, hL, hb2⟩
  have N2 := Lib.hid hb2
  have Q2 := Lib.hid ((hb2.block _ (blk_lt Q1.out)).trans Q1.out)
  have HL := Lib.hid hL
  clear hb2 hL HW1
  by_cases c2 : r < 0
  · go_wp2
    go_ret
    exact ⟨-1, rfl, .inl (by omega), below_step HBA.out N2.out⟩
  obtain ⟨hp, hle, hs, hm⟩ : 0 ≤ r ∧ r ≤ left ∧ (xs.length ≤ 1048576 ∧ ∀ x ∈ xs, SmLO n x) ∧ ((xs.map (mcLO n)).sum : Int) ≤ 4 * (left - r) := by
    rcases HL.out with h | h
    · omega
    · exact ⟨h.1, h.2.1, h.2.2.1, h.2.2.2⟩
  have HS := Lib.hid hs
  have HM := Lib.hid hm
  clear hs hm
  obtain ⟨b0, b1, b2, b3⟩ := cells4 Q2.out
  go_wp2_with fail
  clear b0 b1 b2 b3
  refine (szCs_calls n ls A3 c3 r w2 (Kd.C_below G3.out N2.out) l3 HW3.out hp (by omega)).mono ?_
  rintro e w3 ⟨r2, rfl, hL2, hb3⟩
  have N3 := Lib.hid (below_step N2.out hb3)
  have HL2 := Lib.hid hL2
  clear hb3 hL2
  by_cases c3 : r2 < 0
  · go_wp2
    go_ret
    exact ⟨-1, rfl, .inl (by omega), below_step HBA.out N3.out⟩
  go_wp2
  go_ret
  refine ⟨r2, rfl, ?_, below_step HBA.out N3.out⟩
  obtain ⟨hp2, hle2, hs2, hm2⟩ : 0 ≤ r2 ∧ r2 ≤ r ∧ (ls.length ≤ 1048576 ∧ ∀ x ∈ ls, SmLO n x.f2) ∧ ((ls.map (fun x => mcLO n x.f2)).sum : Int) ≤ 4 * (r - r2) := by
    rcases HL2.out with h | h
    · omega
    · exact ⟨h.1, h.2.1, h.2.2.1, h.2.2.2⟩
  have := HM.out
  exact .inr ⟨hp2, by omega, ⟨HS.out, hs2⟩, by omega⟩
/-- One depth for all. -/
theorem depth_all {α : Type} (P : Nat → α → Prop) (up : ∀ n m x, n ≤ m → P n x → P m x) : ∀ (xs : List α), (∀ x ∈ xs, ∃ n, P n x) → ∃ n, ∀ x ∈ xs, P n x
  | [], _ => ⟨0, fun x hx => by cases hx⟩
  | x :: xs, h => by
    obtain ⟨a, ha⟩ := h x (by simp)
    obtain ⟨b, hb⟩ := depth_all P up xs (fun y hy => h y (by simp [hy]))
    refine ⟨a + b, fun y hy => ?_⟩
    rcases List.mem_cons.1 hy with rfl | hy
    · exact up a _ _ (by omega) ha
    · exact up b _ _ (by omega) (hb y hy)
theorem wfLON_le {n m : Nat} {x : LObj} (h : n ≤ m) (hw : wfLON n x) : wfLON m x := ⟨hw.1, hw.2.1, wfValN_le h hw.2.2.1, wfValN_le h hw.2.2.2⟩
theorem wfLON_of {x : LObj} (h : wfLObj x) : ∃ n, wfLON n x := by
  obtain ⟨_, h1, _, _, _, _, h6, ⟨a, h7⟩, ⟨b, h8⟩⟩ := h
  exact ⟨a + b, h1, ⟨h6.1, fun y hy => h6.2 y hy⟩, wfValN_le (by omega) h7, wfValN_le (by omega) h8⟩
/-- A base that came in: its values are m + 1 deep at most. -/
theorem wfBase_of {s : LBase} (h : wfBase s) : ∃ m, (∀ x ∈ s.f0, wfLON (m + 1) x) ∧ (∀ x ∈ s.f3, wfLON (m + 1) x.f2) := by
  obtain ⟨a, ha⟩ := depth_all wfLON (fun n m x h => wfLON_le h) s.f0 (fun x hx => wfLON_of (h.1.2 x hx))
  obtain ⟨b, hb⟩ := depth_all (fun n (x : LChg) => wfLON n x.f2) (fun n m x h => wfLON_le h) s.f3 (fun x hx => wfLON_of (h.2.2.2.2 x hx).2.2)
  exact ⟨a + b, fun x hx => wfLON_le (by omega) (ha x hx), fun x hx => wfLON_le (by omega) (hb x hx)⟩
end Go.Proofs.Ytmoiacijklkfaaa.G

/- GKBase1 -/
/-
  Bases (the program's) that are handed: read, compared, tested; made out of a law's.
-/
namespace Go.Proofs.Ytmoiacijklkfaaa.G
open Go.RowKit Go.Proofs.YtmoiacijklkfaaaW.PrintWords Go.Proofs.YtmoiacijklkfaaaW.PrintLast Go.Proofs.YtmoiacijklkfaaaW.PrintMore
attribute [local go_sem] max2_int min2_int max_two min_two max_three min_three max_four min_four
set_option linter.unusedVariables false
set_option linter.unusedSimpArgs false
structure IBase where
  f0 : List IObj
  f1 : Int
  f2 : Int
  f3 : List IChg
/-- A base's two rows, read. -/
def BR (w : World) (y : IBase) (A0 : Option Addr) (c0 : Nat) (A3 : Option Addr) (c3 : Nat) : Prop := y.f0.length ≤ c0 ∧ Kd.C k46 w A0 y.f0.length y.f0 ∧ y.f3.length ≤ c3 ∧ Kd.C k90 w A3 y.f3.length y.f3
theorem BR_below {w w1 : World} {y : IBase} {A0 : Option Addr} {c0 : Nat} {A3 : Option Addr} {c3 : Nat} (h : BR w y A0 c0 A3 c3) (hb : Below w.heap.size w w1) : BR w1 y A0 c0 A3 c3 := ⟨h.1, Kd.C_below h.2.1 hb, h.2.2.1, Kd.C_below h.2.2.2 hb⟩
/-- A base handed: its rows lie apart, from block b on. -/
def BT (n b : Nat) (w : World) (y : IBase) (A0 : Option Addr) (c0 : Nat) (A3 : Option Addr) (c3 : Nat) (fp : List Nat) : Prop :=
  BR w y A0 c0 A3 c3 ∧ (∃ f0 f3, fp = f0 ++ f3 ∧ (tO n).Row 46 w (.slice A0 y.f0.length c0) y.f0 f0 ∧ (tC n).Row 90 w (.slice A3 y.f3.length c3) y.f3 f3) ∧ fp.Nodup ∧ (∀ k ∈ fp, b ≤ k ∧ k < w.heap.size)
theorem BT_of {n b : Nat} {w : World} {y : IBase} {v0 v3 : Value} {fp : List Nat} (h : BaT n w y.f0 y.f3 v0 v3 fp) (hn : fp.Nodup) (hb : ∀ k ∈ fp, b ≤ k) : ∃ A0 c0 A3 c3, v0 = .slice A0 y.f0.length c0 ∧ v3 = .slice A3 y.f3.length c3 ∧ BT n b w y A0 c0 A3 c3 fp := by
  obtain ⟨f0, f3, rfl, r0, r3⟩ := h
  obtain ⟨A0, c0, rfl, l0, C0⟩ := tO_C r0
  obtain ⟨A3, c3, rfl, l3, C3⟩ := tC_C r3
  refine ⟨A0, c0, A3, c3, rfl, rfl, ⟨l0, C0, l3, C3⟩, ⟨f0, f3, rfl, r0, r3⟩, hn, fun k hk => ⟨hb k hk, ?_⟩⟩
  rcases List.mem_append.1 hk with hk | hk
  · exact Td.Row_lt r0 k hk
  · exact Td.Row_lt r3 k hk
theorem BT_below {n b : Nat} {w w1 : World} {y : IBase} {A0 : Option Addr} {c0 : Nat} {A3 : Option Addr} {c3 : Nat} {fp : List Nat} (h : BT n b w y A0 c0 A3 c3 fp) (hb : Below w.heap.size w w1) : BT n b w1 y A0 c0 A3 c3 fp := by
  obtain ⟨hr, ⟨f0, f3, e, r0, r3⟩, hn, hf⟩ := h
  exact ⟨BR_below hr hb, ⟨f0, f3, e, Td.Row_below r0 hb, Td.Row_below r3 hb⟩, hn, fun k hk => ⟨(hf k hk).1, Nat.lt_of_lt_of_le (hf k hk).2 hb.size⟩⟩
/-- What is small enough. -/
def SmB (n : Nat) (y : IBase) : Prop := (y.f0.length ≤ 1048576 ∧ ∀ x ∈ y.f0, SmX n x ∧ x.f6.length ≤ 1048576) ∧ (y.f3.length ≤ 1048576 ∧ ∀ x ∈ y.f3, SmX n x.f2 ∧ x.f2.f6.length ≤ 1048576)
def cB (m : Nat) (s : LBase) : IBase := ⟨s.f0.map (cOb (m + 1)), s.f1, s.f2, s.f3.map (cCh (m + 1))⟩
theorem smX_of {m : Nat} {x : LObj} (hw : wfLON (m + 1) x) (hs : SmLO (m + 1) x) : SmX (m + 1) (cOb (m + 1) x) ∧ (cOb (m + 1) x).f6.length ≤ 1048576 := by
  obtain ⟨h1, h6, h7, h8⟩ := hw
  obtain ⟨s6, s7, s8⟩ := hs
  exact ⟨⟨h1, h6, cVN_sm _ _ h7 s7, cVN_sm _ _ h8 s8⟩, s6.1⟩
theorem smB_of {m : Nat} {s : LBase} (hw : ∀ x ∈ s.f0, wfLON (m + 1) x) (hw3 : ∀ x ∈ s.f3, wfLON (m + 1) x.f2) (hs : SmLB (m + 1) s.f0 s.f3) : SmB (m + 1) (cB m s) := by
  refine ⟨⟨by simpa [cB] using hs.1.1, fun x hx => ?_⟩, ⟨by simpa [cB] using hs.2.1, fun x hx => ?_⟩⟩
  · obtain ⟨z, hz, rfl⟩ := List.mem_map.1 hx
    exact smX_of (hw z hz) (hs.1.2 z hz)
  · obtain ⟨z, hz, rfl⟩ := List.mem_map.1 hx
    exact smX_of (hw3 z hz) (hs.2.2 z hz)
theorem smX_oo {n : Nat} {x : IObj} (h : SmX n x) : SmOO n x := ⟨h.2.1.1, h.2.2.1, h.2.2.2⟩
theorem toBY (m : Nat) (s : LBase) (y : IBase) (hy : cB m s = y) (A0 : Option Addr) (c0 : Nat) (A3 : Option Addr) (c3 : Nat) (w : World) (g0 : Kd.C k121 w A0 s.f0.length s.f0) (l0 : s.f0.length ≤ c0) (g3 : Kd.C k124 w A3 s.f3.length s.f3) (l3 : s.f3.length ≤ c3) (hs : SmLB (m + 1) s.f0 s.f3) :
    Calls Try.prog 15 #[.agg #[.slice A0 s.f0.length c0, .int .i64 s.f1, .int .i64 s.f2, .slice A3 s.f3.length c3]] w fun e w' => ∃ B0 d0 B3 d3 fp, e = .returned (.agg #[.slice B0 y.f0.length d0, .int .i64 y.f1, .int .i64 y.f2, .slice B3 y.f3.length d3]) ∧ BT (m + 2) w.heap.size w' y B0 d0 B3 d3 fp ∧ Below w.heap.size w w' := by
  subst hy
  refine (toB_calls m s.f0 s.f1 s.f2 s.f3 A0 c0 A3 c3 w g0 l0 g3 l3 hs).mono ?_
  rintro e w' ⟨v0, v3, fp, rfl, hT, hn, hb, hbel⟩
  obtain ⟨B0, d0, B3, d3, rfl, rfl, hV⟩ := BT_of (y := cB m s) hT hn hb
  exact ⟨B0, d0, B3, d3, fp, rfl, hV, hbel⟩
set_option maxHeartbeats 16000000 in
set_option maxRecDepth 100000 in
theorem eqB_calls (n : Nat) (y : IBase) (A0 : Option Addr) (c0 : Nat) (A3 : Option Addr) (c3 : Nat) (B0 : Option Addr) (d0 : Nat) (B3 : Option Addr) (d3 : Nat) (w : World) (hr : BR w y A0 c0 A3 c3) (hq : BR w y B0 d0 B3 d3) (hs : SmB n y) :
    Calls Try.prog 17 #[.agg #[.slice A0 y.f0.length c0, .int .i64 y.f1, .int .i64 y.f2, .slice A3 y.f3.length c3], .agg #[.slice B0 y.f0.length d0, .int .i64 y.f1, .int .i64 y.f2, .slice B3 y.f3.length d3]] w fun e w' => e = .returned (.bool true) ∧ Below w.heap.size w w' := by
  obtain ⟨W1, hW1⟩ : ∃ W1, (w.alloc (.cells #[.slice A0 y.f0.length c0, .int .i64 y.f1, .int .i64 y.f2, .slice A3 y.f3.length c3] 30)).alloc (.cells #[.slice B0 y.f0.length d0, .int .i64 y.f1, .int .i64 y.f2, .slice B3 y.f3.length d3] 30) = W1 := ⟨_, rfl⟩
  have hbA := below_alloc (below_alloc (Below.refl w.heap.size w) (.cells #[.slice A0 y.f0.length c0, .int .i64 y.f1, .int .i64 y.f2, .slice A3 y.f3.length c3] 30)) (.cells #[.slice B0 y.f0.length d0, .int .i64 y.f1, .int .i64 y.f2, .slice B3 y.f3.length d3] 30)
  obtain ⟨hb0, hb1, hsz⟩ := alloc2 w (.cells #[.slice A0 y.f0.length c0, .int .i64 y.f1, .int .i64 y.f2, .slice A3 y.f3.length c3] 30) (.cells #[.slice B0 y.f0.length d0, .int .i64 y.f1, .int .i64 y.f2, .slice B3 y.f3.length d3] 30)
  rw [hW1] at hb0 hb1 hsz hbA
  obtain ⟨l0, C0_, l3, C3_⟩ := BR_below hr hbA
  obtain ⟨m0, D0_, m3, D3_⟩ := BR_below hq hbA
  have HW1 := Lib.hid hW1
  have HBA := Lib.hid hbA
  have Q0 := Lib.hid hb0
  have Q1 := Lib.hid hb1
  have G0 := Lib.hid C0_
  have G3 := Lib.hid C3_
  have J0 := Lib.hid D0_
  have J3 := Lib.hid D3_
  have HS := Lib.hid hs
  clear hr hq C0_ C3_ D0_ D3_ hW1 hbA hb0 hb1 hsz hs
  go_enter Try.func17, Try.ntmps17
  go_wp2_with fail
  rw [HW1.out]
  refine (eqOs_calls n y.f0 A0 B0 c0 d0 W1 G0.out l0 J0.out m0 (fun x hx => smX_oo (HS.out.1.2 x hx).1)).mono ?_
  rintro e w2 ⟨rfl, hb2⟩
  have N2 := Lib.hid hb2
  have P0 := Lib.hid ((hb2.block _ (blk_lt Q0.out)).trans Q0.out)
  have P1 := Lib.hid ((hb2.block _ (blk_lt Q1.out)).trans Q1.out)
  clear hb2 HW1
  obtain ⟨a0, a1, a2, a3⟩ := cells4 P0.out
  obtain ⟨b0, b1, b2, b3⟩ := cells4 P1.out
  go_wp2_with fail
  clear a0 a1 a2 a3 b0 b1 b2 b3
  refine (eqCs_calls n y.f3 A3 B3 c3 d3 w2 (Kd.C_below G3.out N2.out) l3 (Kd.C_below J3.out N2.out) m3 (fun x hx => smX_oo (HS.out.2.2 x hx).1)).mono ?_
  rintro e w3 ⟨rfl, hb3⟩
  have N3 := Lib.hid (below_step N2.out hb3)
  clear hb3
  go_wp2
  go_ret
  exact ⟨rfl, below_step HBA.out N3.out⟩
theorem specOkY (n : Nat) (y : IBase) (A0 : Option Addr) (c0 : Nat) (A3 : Option Addr) (c3 : Nat) (w : World) (hr : BR w y A0 c0 A3 c3) (hs : SmB n y) :
    Calls Try.prog 22 #[.agg #[.slice A0 y.f0.length c0, .int .i64 y.f1, .int .i64 y.f2, .slice A3 y.f3.length c3]] w fun e w' => e = .returned (.bool (baseB y.f0 y.f1 y.f2 y.f3)) ∧ Below w.heap.size w w' := specBaseOk_calls n y.f0 y.f1 y.f2 y.f3 A0 c0 A3 c3 w hr.2.1 hr.1 hr.2.2.2 hr.2.2.1 (fun x hx => (hs.1.2 x hx).1) (fun x hx => (hs.2.2 x hx).1)
theorem implOkY (n : Nat) (y : IBase) (A0 : Option Addr) (c0 : Nat) (A3 : Option Addr) (c3 : Nat) (w : World) (hr : BR w y A0 c0 A3 c3) (hs : SmB n y) :
    Calls Try.prog 23 #[.agg #[.slice A0 y.f0.length c0, .int .i64 y.f1, .int .i64 y.f2, .slice A3 y.f3.length c3]] w fun e w' => e = .returned (.bool (baseB y.f0 y.f1 y.f2 y.f3)) ∧ Below w.heap.size w w' := implBaseOk_calls n y.f0 y.f1 y.f2 y.f3 A0 c0 A3 c3 w hr.2.1 hr.1 hr.2.2.2 hr.2.2.1 (fun x hx => (hs.1.2 x hx).1) (fun x hx => (hs.2.2 x hx).1)
end Go.Proofs.Ytmoiacijklkfaaa.G

/- PBaseOkLaw -/
/-
  The law of BaseOk, walked: it is answered true.
-/
namespace Go.Proofs.Ytmoiacijklkfaaa.G
open Go.RowKit Go.Proofs.YtmoiacijklkfaaaW.PrintWords Go.Proofs.YtmoiacijklkfaaaW.PrintLast Go.Proofs.YtmoiacijklkfaaaW.PrintMore
attribute [local go_sem] max2_int min2_int max_two min_two max_three min_three max_four min_four
set_option linter.unusedVariables false
set_option linter.unusedSimpArgs false
open Classical in
noncomputable def laws_FnExactBaseOk.f (l0 : List LObj) (a1 a2 : Int) (l3 : List LChg) : Option Bool := if wfBase ⟨l0, a1, a2, l3⟩ then some true else none
theorem FnExactBaseOk_pure (s : LBase) (hw : wfBase s) : laws_FnExactBaseOk.f s.f0 s.f1 s.f2 s.f3 = some true := by
  unfold laws_FnExactBaseOk.f
  exact if_pos hw
def T_laws_FnExactBaseOk_10 : Bool × List (List Nat × List Nat) := (true, [([], []), ([], []), ([1], [1]), ([0, 2, 2], [0, 2]), ([3], [3])])
def B_laws_FnExactBaseOk_10 : List Nat := [0, 0, 2, 7, 15]
theorem t_laws_FnExactBaseOk_10 : rtab .any (opsOf Try.f5 10) = T_laws_FnExactBaseOk_10 := by kernel_rfl
theorem b_laws_FnExactBaseOk_10 : waitsOk T_laws_FnExactBaseOk_10.2 B_laws_FnExactBaseOk_10 = true := by kernel_rfl
set_option maxHeartbeats 16000000 in
set_option maxRecDepth 100000 in
theorem baseOk_law (s : LBase) (A0 : Option Addr) (c0 : Nat) (A3 : Option Addr) (c3 : Nat) (w : World) (g0 : Kd.C k121 w A0 s.f0.length s.f0) (l0 : s.f0.length ≤ c0) (g3 : Kd.C k124 w A3 s.f3.length s.f3) (l3 : s.f3.length ≤ c3) (hw : wfBase s) :
    Calls Try.prog 5 #[.agg #[.slice A0 s.f0.length c0, .int .i64 s.f1, .int .i64 s.f2, .slice A3 s.f3.length c3]] w fun e w' => e = .returned (.bool true) ∧ Below w.heap.size w w' := by
  obtain ⟨m, hwo, hwc⟩ := wfBase_of hw
  obtain ⟨W1, hW1⟩ : ∃ W1, w.alloc (.cells #[.slice A0 s.f0.length c0, .int .i64 s.f1, .int .i64 s.f2, .slice A3 s.f3.length c3] 25) = W1 := ⟨_, rfl⟩
  have hbA := below_alloc (Below.refl w.heap.size w) (.cells #[.slice A0 s.f0.length c0, .int .i64 s.f1, .int .i64 s.f2, .slice A3 s.f3.length c3] 25)
  have hb0 := blk_new w (.cells #[.slice A0 s.f0.length c0, .int .i64 s.f1, .int .i64 s.f2, .slice A3 s.f3.length c3] 25)
  rw [hW1] at hbA hb0
  have HW1 := Lib.hid hW1
  have HBA := Lib.hid hbA
  have Q1 := Lib.hid hb0
  have G0 := Lib.hid (Kd.C_below g0 hbA)
  have G3 := Lib.hid (Kd.C_below g3 hbA)
  have HWO := Lib.hid hwo
  have HWC := Lib.hid hwc
  clear g0 g3 hW1 hbA hb0 hw hwo hwc
  go_enter Try.func5, Try.ntmps5
  go_wp2_with fail
  rw [HW1.out]
  refine (szB_calls (m + 1) s.f0 s.f1 s.f2 s.f3 A0 c0 A3 c3 1048576 W1 G0.out l0 G3.out l3 HWO.out HWC.out (by decide) (by decide)).mono ?_
  rintro e w2 ⟨r, rfl, hL, hb2⟩
  have N2 := Lib.hid hb2
  have HL := Lib.hid hL
  clear hb2 hL HW1
  by_cases c2 : r < 0
  · go_wp2
    go_ret
    exact ⟨rfl, below_step HBA.out N2.out⟩
  obtain ⟨hp, hle, hsm, hm⟩ : 0 ≤ r ∧ r ≤ 1048576 ∧ SmLB (m + 1) s.f0 s.f3 ∧ _ := by
    rcases HL.out with h | h
    · omega
    · exact ⟨h.1, h.2.1, h.2.2.1, h.2.2.2⟩
  obtain ⟨y, hy⟩ : ∃ y, cB m s = y := ⟨_, rfl⟩
  have hsy := smB_of HWO.out HWC.out hsm
  rw [hy] at hsy
  have HY := Lib.hid hy
  have HSY := Lib.hid hsy
  have HSM := Lib.hid hsm
  clear hsm hm hy hsy HL
  obtain ⟨b0, b1, b2, b3⟩ := cells4 ((N2.out.block _ (blk_lt Q1.out)).trans Q1.out)
  go_wp2_with fail
  clear b0 b1 b2 b3
  refine (toBY m s y HY.out A0 c0 A3 c3 w2 (Kd.C_below G0.out N2.out) l0 (Kd.C_below G3.out N2.out) l3 HSM.out).mono ?_
  rintro e w3 ⟨B0, d0, B3, d3, fp, rfl, hT, hb3⟩
  have N3 := Lib.hid (below_step N2.out hb3)
  have HT := Lib.hid hT
  clear hb3 hT
  go_wp2_with fail
  refine (specOkY (m + 1) y B0 d0 B3 d3 w3 HT.out.1 HSY.out).mono ?_
  rintro e w4 ⟨rfl, hb4⟩
  have N4 := Lib.hid (below_step N3.out hb4)
  clear hb4 HT
  obtain ⟨b0, b1, b2, b3⟩ := cells4 ((N4.out.block _ (blk_lt Q1.out)).trans Q1.out)
  go_wp2_with fail
  clear b0 b1 b2 b3
  refine (toBY m s y HY.out A0 c0 A3 c3 w4 (Kd.C_below G0.out N4.out) l0 (Kd.C_below G3.out N4.out) l3 HSM.out).mono ?_
  rintro e w5 ⟨E0, e0, E3, e3, fq, rfl, hT, hb5⟩
  have N5 := Lib.hid (below_step N4.out hb5)
  have HT := Lib.hid hT
  clear hb5 hT
  obtain ⟨W6, hW6⟩ : ∃ W, w5.alloc (.cells #[.slice E0 y.f0.length e0, .int .i64 y.f1, .int .i64 y.f2, .slice E3 y.f3.length e3] 30) = W := ⟨_, rfl⟩
  have n6 := below_alloc (Below.refl w5.heap.size w5) (.cells #[.slice E0 y.f0.length e0, .int .i64 y.f1, .int .i64 y.f2, .slice E3 y.f3.length e3] 30)
  have q6 := blk_new w5 (.cells #[.slice E0 y.f0.length e0, .int .i64 y.f1, .int .i64 y.f2, .slice E3 y.f3.length e3] 30)
  rw [hW6] at n6 q6
  have HW6 := Lib.hid hW6
  have N6 := Lib.hid (below_step N5.out n6)
  have Q6 := Lib.hid q6
  have HT6 := Lib.hid (BT_below HT.out n6)
  clear hW6 n6 q6 HT
  go_wp2_with fail
  rw [HW6.out]
  refine (implOkY (m + 1) y E0 e0 E3 e3 W6 HT6.out.1 HSY.out).mono ?_
  rintro e w7 ⟨rfl, hb7⟩
  have N7 := Lib.hid (below_step N6.out hb7)
  have Q7 := Lib.hid ((hb7.block _ (blk_lt Q6.out)).trans Q6.out)
  have HT7 := Lib.hid (BT_below HT6.out hb7)
  clear hb7 Q6 HT6 HW6
  go_wp2_with fail
  refine start_ (n := 5) (S := fun w' => Below w7.heap.size w7 w') (ds := []) #[false, false, false, false, false] (by kernel_rfl) rfl rfl (below_drew (Below.refl w7.heap.size w7)) (fun hHeld => ?_)
  refine with_tabW t_laws_FnExactBaseOk_10 b_laws_FnExactBaseOk_10 (fun HT_ HW_ => ?_)
  generalize w7.drew = w8 at hHeld ⊢
  repeat (apply takeA_ HT_.out HW_.out [0, 1]; (case hn => exact rfl); (case hi0 => exact rfl); (case hl => simp only [List.setIfInBounds_toArray, List.set_cons_zero, List.set_cons_succ]; rfl); (case hQ => exact fun _ _ _ h => h); (case hy => first | exact Or.inr ⟨by rfl, rfl⟩ | (exact yield_row (ad := ⟨w5.heap.size, 0, none⟩) (cs := (#[.slice E0 y.f0.length e0, .int .i64 y.f1, .int .i64 y.f2, .slice E3 y.f3.length e3] : Array Value).toList) (by rfl) rfl rfl (fun w_ hS_ => blk_row ((hS_.block _ (blk_lt Q7.out)).trans Q7.out)) Try.underlying30 rfl (by kernel_rfl)) | (exact yield_row (ad := ⟨w.heap.size, 0, none⟩) (cs := (#[.slice A0 s.f0.length c0, .int .i64 s.f1, .int .i64 s.f2, .slice A3 s.f3.length c3] : Array Value).toList) (by rfl) rfl rfl (fun w_ hS_ => blk_row (((below_step N7.out hS_).block _ (blk_lt Q1.out)).trans Q1.out)) Try.underlying25 rfl (by kernel_rfl)) | (refine Or.inl ⟨by rfl, ?_⟩; intro w_ hS_; go_simp; with_reducible rfl)); (case hS => exact hHeld); (case ha => simp only [Act.put, List.setIfInBounds_toArray, List.set_cons_zero, List.set_cons_succ, i64_w, i32_w]; rfl))
  have HB8 := Lib.hid hHeld
  refine callA_ (i := 2) (l' := ?_) HT_.out rfl rfl ?_ (by decide) Try.func15 (by kernel_rfl) rfl (by rfl) rfl (by (try simp only [List.map_toArray, List.map_cons, List.map_nil]); first | done | rfl) (toBY m s y HY.out A0 c0 A3 c3 w8 (Kd.C_below G0.out (below_step N7.out hHeld)) l0 (Kd.C_below G3.out (below_step N7.out hHeld)) l3 HSM.out) ?_
  rotate_left
  · simp only [List.setIfInBounds_toArray, List.set_cons_zero, List.set_cons_succ]; rfl
  rintro e w9 ⟨F0, z0, F3, z3, fr, rfl, hT9, hb9⟩
  have hHeld2 := below_step HB8.out hb9
  refine ⟨_, rfl, hHeld2, ?_⟩
  have HB9 := Lib.hid hHeld2
  have HT9 := Lib.hid hT9
  clear hb9 hHeld HB8 hT9
  refine norm_ (a' := ?_) ?_ ?_
  rotate_left
  · simp only [Act.put, List.setIfInBounds_toArray, List.set_cons_zero, List.set_cons_succ, i64_w, i32_w]; rfl
  refine callA_ (i := 3) (l' := ?_) HT_.out rfl rfl ?_ (by decide) Try.func17 (by kernel_rfl) rfl (by rfl) rfl (by (try simp only [List.map_toArray, List.map_cons, List.map_nil]); first | done | rfl) (eqB_calls (m + 1) y E0 e0 E3 e3 F0 z0 F3 z3 w9 (BR_below HT7.out.1 hHeld2) HT9.out.1 HSY.out) ?_
  rotate_left
  · simp only [List.setIfInBounds_toArray, List.set_cons_zero, List.set_cons_succ]; rfl
  rintro e w10 ⟨rfl, hb10⟩
  have hHeld3 := below_step HB9.out hb10
  refine ⟨_, rfl, hHeld3, ?_⟩
  have HB10 := Lib.hid hHeld3
  clear hb10 hHeld2
  refine norm_ (a' := ?_) ?_ ?_
  rotate_left
  · simp only [Act.put, List.setIfInBounds_toArray, List.set_cons_zero, List.set_cons_succ, i64_w, i32_w]; rfl
  repeat (apply takeA_ HT_.out HW_.out [4]; (case hn => exact rfl); (case hi0 => exact rfl); (case hl => simp only [List.setIfInBounds_toArray, List.set_cons_zero, List.set_cons_succ]; rfl); (case hQ => exact fun _ _ _ h => h); (case hy => first | exact Or.inr ⟨by rfl, rfl⟩ | (refine Or.inl ⟨by rfl, ?_⟩; intro w_ hS_; go_simp; with_reducible rfl)); (case hS => exact hHeld3); (case ha => simp only [Act.put, List.setIfInBounds_toArray, List.set_cons_zero, List.set_cons_succ, i64_w, i32_w]; rfl))
  refine done_ (done_of HT_.out (by kernel_rfl)) ?_
  clear hHeld3 HT_ HW_
  go_wp2
  go_ret
  exact ⟨rfl, below_step HBA.out (below_step N7.out HB10.out)⟩
theorem laws_FnExactBaseOk.calls (A0 : Option Addr) (c0 : Nat) (l0 : List LObj) (a1 a2 : Int) (A3 : Option Addr) (c3 : Nat) (l3 : List LChg) (r : Bool) (w : World) (hr0 : Kd.C k121 w A0 l0.length l0) (hc0 : l0.length ≤ c0) (hr3 : Kd.C k124 w A3 l3.length l3) (hc3 : l3.length ≤ c3) (h : laws_FnExactBaseOk.f l0 a1 a2 l3 = some r) :
    Calls Try.prog 5 #[.agg #[.slice A0 l0.length c0, .int .i64 a1, .int .i64 a2, .slice A3 l3.length c3]] w fun e w' => e = .returned (.bool r) ∧ Below w.heap.size w w' := by
  unfold laws_FnExactBaseOk.f at h
  split at h
  case isTrue hc =>
    obtain rfl := Option.some.inj h
    exact baseOk_law ⟨l0, a1, a2, l3⟩ A0 c0 A3 c3 w hr0 hc0 hr3 hc3 hc
  case isFalse => cases h
end Go.Proofs.Ytmoiacijklkfaaa.G

/- G5 -/
-- the law, walked by hand

/- RowFnExactBaseOk -/
/- The law 'FnExactBaseOk' holds for every input: it returns true, and each argument reads behind the call as it read before. No condition. -/
namespace Go.Proofs.Ytmoiacijklkfaaa.fnExactBaseOk
open Go.ChangeShapes Go.WideShapes Go.ChangeAt Go.RowKit
set_option linter.unusedVariables false
theorem own : ownKnob Try.prog.godebug = none := by kernel_rfl
theorem laidOut : laidOutB Try.prog = true := by kernel_rfl
set_option maxRecDepth 100000 in
theorem lifted (os : Os) (started : os.Started) (H : Type) (enc : TypeId × Value → H) :
    ReturnsInHanded {} Try.checked os 5 .any (Rows.fnExactBaseOkSpec.pre6 enc Try.prog Try.f5 Rows.fnExactBaseOkRow.domain false) (Rows.fnExactBaseOkSpec.post enc Try.prog Try.f5 false true false false) := by
  refine returnsInHanded_of_change (C := Try.checked) own started (by kernel_rfl) Try.func5
    (ChangeSpec.witness6 (enc := enc) (C := Try.checked) false ⟨#[], #[.agg #[.slice none 0 0, .int .i64 0, .int .i64 0, .slice none 0 0]], []⟩ 8 (by kernel_rfl) (by kernel_rfl) (by kernel_rfl) (by kernel_rfl)) ?_
  intro W base args ds gs before hval0 hW hcnd _
  have hval : ∀ (j : Nat) t v, Try.f5.params[j]? = some t → args[j]? = some v → Value.okWide Try.prog W .any base t v := hval0
  have hW' := hW
  obtain ⟨p, q, hA0, hV, rfl, hfz, hnd⟩ := hW
  have hA : DataW.TrodAll enc Try.prog W 0 (fun _ => true) true Try.f5.params.toList args.toList ds p := hA0
  rw [Try.params5] at hA hval
  obtain ⟨v0, vs0, d0, ds0, p0, q0, hargs0, rfl, rfl, h0, r0x⟩ := trodAll_cons hA
  obtain ⟨rfl, rfl, rfl⟩ := trodAll_nil r0x
  obtain rfl : args = #[v0] := by cases args; simp_all
  obtain ⟨rfl, rfl⟩ := trodVars_none hV
  have hlt := hW'.lt
  have hk0 := h0
  obtain ⟨s0, A0_0, c0_0, A0_3, c0_3, rfl, w0, l0_0, q0_0, l0_3, q0_3⟩ := G.kopen_base (hval 0 25 v0 rfl rfl) h0
  clear hA0 hval0
  have hk := G.FnExactBaseOk_pure s0 w0
  refine (G.laws_FnExactBaseOk.calls  A0_0 c0_0 s0.f0 s0.f1 s0.f2 A0_3 c0_3 s0.f3 true W q0_0 l0_0 q0_3 l0_3 hk).mono fun e W' ⟨he, bel⟩ => ?_
  subst he
  exact ⟨_, rfl, _, _, _, [], _, [], hW', trodAll_mk1 (shut_bool Try.underlying4 _), (trodAll_cons_mk (Below.trod laidOut (by kernel_rfl) (of_decide_eq_true (by kernel_rfl)) hk0 bel (fun x hx => hlt x (by simp [hx]))) trodAll_mk0), rfl, bel.frame _, fun h => by cases h⟩
theorem over : Rows.fnExactBaseOkRow.holds Try.pinned (OpenSpec.ofChange Rows.fnExactBaseOkSpec) :=
  OpenClaim.holds_of_wide 5 Try.f5 rfl rfl rfl rfl rfl rfl rfl ⟨rfl, rfl, rfl, rfl, rfl⟩ rfl rfl rfl rfl rfl (by kernel_rfl) Try.func5 (by kernel_rfl)
    (of_decide_eq_true (by kernel_rfl)) (by unfold Func.isWrapper; first | (rw [if_pos (by decide +kernel)]; kernel_rfl) | (rw [if_neg (by decide +kernel)]; exact ⟨rfl, rfl⟩))
    (fun os started H enc _ => lifted os started H enc)
theorem proved : Rows.FnExactBaseOkSaid := over
#print axioms proved
end Go.Proofs.Ytmoiacijklkfaaa.fnExactBaseOk
namespace Go.Proofs.Ytmoiacijklkfaaa
theorem fnExactBaseOk_holds : Rows.FnExactBaseOkSaid := fnExactBaseOk.proved
end Go.Proofs.Ytmoiacijklkfaaa
