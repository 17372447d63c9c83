import Derived.Test.YtmoiacijklkfaaaMFnExactObjs3
import Derived.Test.YtmoiacijklkfaaaMFnExactObjs1
/- GKValTo -/
/-
  A law's value made the program's, in rows of its own.
-/
namespace Go.Proofs.Ytmoiacijklkfaaa.G
open Go.RowKit Go.Proofs.YtmoiacijklkfaaaW.PrintWords Go.Proofs.YtmoiacijklkfaaaW.PrintLast Go.Proofs.YtmoiacijklkfaaaW.PrintMore
attribute [local go_sem] max2_int min2_int max_two min_two max_three min_three max_four min_four
set_option linter.unusedVariables false
set_option linter.unusedSimpArgs false
def zV : TVal := ⟨0, ⟨#[]⟩, 0, [], []⟩
theorem zV_T (n : Nat) (w : World) : (tV (n + 1)).T w zV [.int .i64 0, .string ⟨#[]⟩, .int .i64 0, .slice none 0 0, .slice none 0 0] [] :=
  tV_mk (x := zV) (f3 := []) (f4 := []) (Td.Row_nil _ _ _) (Td.Row_nil _ _ _)
/-- What a call of toValue leaves. -/
def ToV (n : Nat) : Prop := ∀ (x : LVal) (A3 : Option Addr) (c3 : Nat) (A4 : Option Addr) (c4 : Nat) (w : World), Kd.C Kd.string w A3 x.f3.length x.f3 → x.f3.length ≤ c3 → Kd.C k67 w A4 x.f4.length x.f4 → x.f4.length ≤ c4 → SmL n x →
  Calls Try.prog 47 #[.agg #[.int .i64 x.f0, .string x.f1, .int .i64 x.f2, .slice A3 x.f3.length c3, .slice A4 x.f4.length c4]] w fun e w' => ∃ (v3 v4 : Value) (fp : List Nat), e = .returned (.agg #[.int .i64 x.f0, .string x.f1, .int .i64 x.f2, v3, v4]) ∧
    (tV (n + 1)).T w' (cVN n x) [.int .i64 x.f0, .string x.f1, .int .i64 x.f2, v3, v4] fp ∧ fp.Nodup ∧ (∀ k ∈ fp, w.heap.size ≤ k) ∧ Below w.heap.size w w'
def ToS (n : Nat) : Prop := ∀ (xs : List LVal) (A : Option Addr) (c : Nat) (w : World), Kd.C k67 w A xs.length xs → xs.length ≤ c → xs.length ≤ 1048576 → (∀ x ∈ xs, SmL n x) →
  Calls Try.prog 107 #[.slice A xs.length c] w fun e w' => ∃ (v : Value) (fp : List Nat), e = .returned v ∧ (tV (n + 1)).Row 44 w' v (xs.map (cVN n)) fp ∧ fp.Nodup ∧ (∀ k ∈ fp, w.heap.size ≤ k) ∧ Below w.heap.size w w'
set_option maxHeartbeats 4000000 in
set_option maxRecDepth 100000 in
theorem toS_of (n : Nat) (h : ToV n) : ToS n := by
  intro xs A c w hC hc hl hs
  have HC := Lib.hid hC
  have HV := Lib.hid h
  have HSM := Lib.hid hs
  clear hC h hs
  go_enter Try.func107, Try.ntmps107
  go_wp2_with ((with_reducible refine gate_dst (N := 7) rfl ?_); refine Td.Row_make (tV (n + 1)) (w0 := w) 44 rfl (N := 7) rfl 42 _ _ rfl (xs.length : Int) rfl rfl Try.underlying42 (.agg #[(.int .i64 0), (.string ⟨#[]⟩), (.int .i64 0), (.slice none 0 0), (.slice none 0 0)]) 80 info44 rfl (show 0 < 5 by decide) (by omega) zV (zV_T n _) (by omega) (by omega) (Below.refl _ _) ?_; intro v7 w4 fp hrow hn hf hb hg_; clear hg_; have HRW := Lib.hid hrow; have HN := Lib.hid hn; have HF := Lib.hid hf; have HB := Lib.hid hb; clear hrow hn hf hb)
  go_loopw [4] (fun vi wr => ∃ (i : Nat) (fq : List Nat), i ≤ xs.length ∧ vi = .int .i64 i ∧ Hid ((tV (n + 1)).Row 44 wr v7 ((xs.take i).map (cVN n) ++ List.replicate (xs.length - i) zV) fq) ∧ Hid fq.Nodup ∧ Hid (∀ k ∈ fq, w.heap.size ≤ k) ∧ Hid (Below w.heap.size w wr)) (fun vi _ => xs.length - (intOf vi).toNat)
  case atStart =>
    refine ⟨0, fp, by omega, rfl, ?_, HN, HF, HB⟩
    have h_ := HRW.out
    rw [Int.toNat_natCast] at h_
    rw [List.take_zero, List.map_nil, List.nil_append, Nat.sub_zero]
    exact h_
  case round =>
    clear HRW HN HF HB
    obtain ⟨i, fq, hi, rfl, HR, HN, HF, HB⟩ := hrel
    by_cases hil : i < xs.length
    · obtain ⟨ad, cs, rfl, hcs, hK, hcell⟩ := Kd.C_get HC.out xs[i] (i : Int) (by omega) (by omega)
      simp only [Int.toNat_natCast, getD_at hil] at hK hcell
      obtain ⟨A3, c3, A4, c4, rfl, l3, g3, l4, g4⟩ := k67_open hK
      have d0 := pw_cell_below HB.out (hcell 0 _ rfl)
      have d1 := pw_cell_below HB.out (hcell 1 _ rfl)
      have d2 := pw_cell_below HB.out (hcell 2 _ rfl)
      have d3 := pw_cell_below HB.out (hcell 3 _ rfl)
      have d4 := pw_cell_below HB.out (hcell 4 _ rfl)
      have HV1 := Lib.hid (HV.out xs[i] A3 c3 A4 c4 wr (Kd.C_below g3 HB.out) l3 (Kd.C_below g4 HB.out) l4 (HSM.out _ (List.getElem_mem hil)))
      rw [show k67.sz = 5 from rfl] at d0 d1 d2 d3 d4
      simp only [Nat.add_zero] at d0
      rw [add_field _ _ 1 (by omega)] at d1
      rw [add_field _ _ 2 (by omega)] at d2
      rw [add_field _ _ 3 (by omega)] at d3
      rw [add_field _ _ 4 (by omega)] at d4
      clear hcs hcell hK l3 g3 l4 g4
      have hP : ((xs.take i).map (cVN n)).length = i := by rw [List.length_map, List.length_take]; omega
      have hrep : List.replicate (xs.length - i) zV = zV :: List.replicate (xs.length - (i + 1)) zV := by
        rw [show xs.length - i = (xs.length - (i + 1)) + 1 by omega, List.replicate_succ]
      have HRL := HR.out
      rw [hrep] at HRL
      have hlen : ((xs.take i).map (cVN n) ++ zV :: List.replicate (xs.length - (i + 1)) zV).length = xs.length := by
        rw [List.length_append, List.length_cons, List.length_replicate, hP]; omega
      have HR1 := Lib.hid HRL
      have HPL := Lib.hid hP
      have HLN := Lib.hid hlen
      have hfl : Hid (∀ k ∈ fq, k < wr.heap.size) := Lib.hid (Td.Row_lt HRL)
      clear HR HRL hP hrep hlen
      go_wp2_with fail
      (with_reducible refine HV1.out.mono ?_)
      rintro e w2 ⟨v3, v4, fv, rfl, hT, hvn, hvb, hb2⟩
      obtain ⟨u3, u4, g3, g4, hu, _, hr3, hr4⟩ := tV_open hT
      simp only [List.cons.injEq, true_and, and_true] at hu
      obtain ⟨q0, q1, q2, rfl, rfl⟩ := hu
      clear q0 q1 q2
      obtain ⟨B3, e3, rfl⟩ := Td.Row_slice hr3
      obtain ⟨B4, e4, rfl⟩ := Td.Row_slice hr4
      obtain ⟨g, cap, cs, fq', hv, hcl, hcc, hfz, hg, hglt, hrow', hn', hin'⟩ := Td.Row_put (Td.Row_below HR1.out hb2) HN.out (i := i) (by rw [HLN.out]; exact hil) hT hvn (fun k hk hm => by have h1 := hvb k hk; have h2 := hfl.out k hm; omega)
      have hgw := HF.out g hg
      rw [HLN.out] at hv
      subst hv
      rw [show (tV (n + 1)).sz = 5 from rfl] at hcl hcc hrow'
      obtain ⟨y0, y1, y2, y3, y4, rfl⟩ : ∃ y0 y1 y2 y3 y4, cs = [y0, y1, y2, y3, y4] := by match cs, hcl with | [y0, y1, y2, y3, y4], _ => exact ⟨y0, y1, y2, y3, y4, rfl⟩
      have e0 := hcc 0 y0 rfl
      have e1 := hcc 1 y1 rfl
      have e2 := hcc 2 y2 rfl
      have e3' := hcc 3 y3 rfl
      have e4' := hcc 4 y4 rfl
      have f0 := hfz (i * 5)
      have f1 := hfz (i * 5 + 1)
      have f2 := hfz (i * 5 + 2)
      have f3 := hfz (i * 5 + 3)
      have f4 := hfz (i * 5 + 4)
      simp only [Nat.add_zero] at e0
      have hbw := below_step HB.out hb2
      rw [set_at _ _ _ _ HPL.out] at hrow'
      simp only [World.setCells, Nat.add_assoc, Nat.reduceAdd] at hrow'
      have HRN := Lib.hid hrow'
      have HNN := Lib.hid hn'
      have HFN : Hid (∀ k ∈ fq', w.heap.size ≤ k) := Lib.hid (fun k hk => by
        rcases hin' k hk with h | h
        · exact HF.out k h
        · exact Nat.le_trans HB.out.size (hvb k h))
      have HBN := Lib.hid (below_set (j := i * 5 + 4) (v := .slice (some ⟨0, 0, none⟩) 0 0) hbw hgw)
      have HB2 := Lib.hid hbw
      clear hrow' hn' hin' hcc hfz hcl hT hr3 hr4 hvn hvb hb2 HV1 HR1 d0 d1 d2 d3 d4 hbw HBN
      go_wp2
      go_roundw
      case rel =>
        refine ⟨i + 1, fq', by omega, by go_num, ?_, HNN, HFN, ?_⟩
        · have h_ := HRN.out
          unfold Hid
          rw [List.take_succ_eq_append_getElem hil, List.map_append, List.append_assoc, List.map_cons, List.map_nil, List.singleton_append]
          exact h_
        · exact below_set (below_set (below_set (below_set (below_set HB2.out hgw) hgw) hgw) hgw) hgw
      case measure => simp [intOf]; omega
    · obtain rfl : i = xs.length := by omega
      go_wp2
      go_ret
      have h_ := HR.out
      rw [List.take_length, Nat.sub_self, List.replicate_zero, List.append_nil] at h_
      exact ⟨_, _, rfl, h_, HN.out, HF.out, HB.out⟩
/-- Five cells of one block stored: the others stand. -/
theorem heap5 (w : World) (g : Nat) (a0 a1 a2 a3 a4 : Value) (k : Nat) (h : k ≠ g) : (((((w.setCell ⟨g, 0, none⟩ a0).setCell ⟨g, 1, none⟩ a1).setCell ⟨g, 2, none⟩ a2).setCell ⟨g, 3, none⟩ a3).setCell ⟨g, 4, none⟩ a4).heap[k]? = w.heap[k]? := by
  rw [Below.heap_setCell _ _ _ _ h, Below.heap_setCell _ _ _ _ h, Below.heap_setCell _ _ _ _ h, Below.heap_setCell _ _ _ _ h, Below.heap_setCell _ _ _ _ h]
theorem alloc3 (w : World) (a b c : Obj) : (((w.alloc a).alloc b).alloc c).heap[w.heap.size]? = some a ∧ (((w.alloc a).alloc b).alloc c).heap[w.heap.size + 1]? = some b ∧ (((w.alloc a).alloc b).alloc c).heap[w.heap.size + 1 + 1]? = some c ∧ (((w.alloc a).alloc b).alloc c).heap.size = w.heap.size + 1 + 1 + 1 := by
  have s1 : (w.alloc a).heap.size = w.heap.size + 1 := by simp
  have s2 : ((w.alloc a).alloc b).heap.size = w.heap.size + 1 + 1 := by simp
  have s3 : (((w.alloc a).alloc b).alloc c).heap.size = w.heap.size + 1 + 1 + 1 := by simp
  have h1 := heap_alloc_new w a
  have h2 := heap_alloc_new (w.alloc a) b
  have h3 := heap_alloc_new ((w.alloc a).alloc b) c
  have b2 := below_alloc (Below.refl (w.alloc a).heap.size (w.alloc a)) b
  have b3 := below_alloc (Below.refl ((w.alloc a).alloc b).heap.size ((w.alloc a).alloc b)) c
  rw [s1] at h2
  rw [s2] at h3
  refine ⟨?_, ?_, h3, s3⟩
  · exact (b3.block _ (by omega)).trans ((b2.block _ (by omega)).trans h1)
  · exact (b3.block _ (by omega)).trans h2
theorem blk5 {w : World} {g ty : Nat} {a0 a1 a2 a3 a4 : Value} (h : w.heap[g]? = some (.cells #[a0, a1, a2, a3, a4] ty (0, 0))) (b0 b1 b2 b3 b4 : Value) :
    (((((w.setCell ⟨g, 0, none⟩ b0).setCell ⟨g, 1, none⟩ b1).setCell ⟨g, 2, none⟩ b2).setCell ⟨g, 3, none⟩ b3).setCell ⟨g, 4, none⟩ b4).heap[g]? = some (.cells #[b0, b1, b2, b3, b4] ty (0, 0)) := by
  have h5 := blk_set (blk_set (blk_set (blk_set (blk_set h 0 b0) 1 b1) 2 b2) 3 b3) 4 b4
  simpa using h5
theorem cells5 {w : World} {g ty : Nat} {a0 a1 a2 a3 a4 : Value} (h : w.heap[g]? = some (.cells #[a0, a1, a2, a3, a4] ty (0, 0))) :
    w.cell? ⟨g, 0, none⟩ = some a0 ∧ w.cell? ⟨g, 1, none⟩ = some a1 ∧ w.cell? ⟨g, 2, none⟩ = some a2 ∧ w.cell? ⟨g, 3, none⟩ = some a3 ∧ w.cell? ⟨g, 4, none⟩ = some a4 :=
  ⟨blk_cell h 0, blk_cell h 1, blk_cell h 2, blk_cell h 3, blk_cell h 4⟩
set_option maxHeartbeats 4000000 in
set_option maxRecDepth 100000 in
theorem toV_of (n : Nat) (h : ToS n) : ToV (n + 1) := by
  intro x A3 c3 A4 c4 w g3 l3 g4 l4 hs
  rw [SmL] at hs
  obtain ⟨hs1, hs3, hs4, hsk⟩ := hs
  have hk3 := toStringS_ev x.f3 hs3.1
  obtain ⟨K, hK⟩ := hk3
  have HK := Lib.hid (hK K (Nat.le_refl _))
  obtain ⟨W1, hW1⟩ : ∃ W1, ((w.alloc (.cells #[.int .i64 x.f0, .string x.f1, .int .i64 x.f2, .slice A3 x.f3.length c3, .slice A4 x.f4.length c4] 67)).alloc (.cells #[.int .i64 0, .string ⟨#[]⟩, .int .i64 0, .slice none 0 0, .slice none 0 0] 44)).alloc (.cells #[.int .i64 x.f0, .string x.f1, .int .i64 x.f2, .slice none 0 0, .slice none 0 0] 44) = W1 := ⟨_, rfl⟩
  have hbA := below_alloc (below_alloc (below_alloc (Below.refl w.heap.size w) (.cells #[.int .i64 x.f0, .string x.f1, .int .i64 x.f2, .slice A3 x.f3.length c3, .slice A4 x.f4.length c4] 67)) (.cells #[.int .i64 0, .string ⟨#[]⟩, .int .i64 0, .slice none 0 0, .slice none 0 0] 44)) (.cells #[.int .i64 x.f0, .string x.f1, .int .i64 x.f2, .slice none 0 0, .slice none 0 0] 44)
  obtain ⟨hb0, hb1, hb2, hsz⟩ := alloc3 w (.cells #[.int .i64 x.f0, .string x.f1, .int .i64 x.f2, .slice A3 x.f3.length c3, .slice A4 x.f4.length c4] 67) (.cells #[.int .i64 0, .string ⟨#[]⟩, .int .i64 0, .slice none 0 0, .slice none 0 0] 44) (.cells #[.int .i64 x.f0, .string x.f1, .int .i64 x.f2, .slice none 0 0, .slice none 0 0] 44)
  rw [hW1] at hb0 hb1 hb2 hsz
  rw [hW1] at hbA
  have HW1 := Lib.hid hW1
  have HBA := Lib.hid hbA
  have HSZ := Lib.hid hsz
  have HB0 := Lib.hid hb0
  have HB1 := Lib.hid hb1
  have HB2 := Lib.hid hb2
  have HS := Lib.hid h
  have G3 := Lib.hid (Kd.C_below g3 hbA)
  have G4 := Lib.hid g4
  have HSK := Lib.hid hsk
  clear hK g3 g4 h hsk hs3 hs1 hW1 hbA hsz hb0 hb1 hb2
  go_enter Try.func47, Try.ntmps47
  go_wp2_with fail
  rw [HW1.out]
  refine (laws_toStringS.calls K A3 c3 x.f3 x.f3 W1 G3.out l3 HK.out).mono ?_
  rintro e w2 ⟨v3, rfl, hr3, hc2⟩
  have hr3' := Td.Row_of_R hr3
  have hr3b := Kd.R_base hr3
  obtain ⟨B3, e3, rfl⟩ := Kd.R_slice hr3
  have z0 := (hc2.block _ (blk_lt HB0.out)).trans HB0.out
  have z1 := (hc2.block _ (blk_lt HB1.out)).trans HB1.out
  have z2 := (hc2.block _ (blk_lt HB2.out)).trans HB2.out
  obtain ⟨_, _, _, _, d4⟩ := cells5 z0
  obtain ⟨_, _, _, c3', _⟩ := cells5 z2
  have f3 := blk_frozen z2 3
  obtain ⟨W2, hW2⟩ : ∃ W2, w2.setCell ⟨w.heap.size + 1 + 1, 3, none⟩ (.slice B3 x.f3.length e3) = W2 := ⟨_, rfl⟩
  have hs1 := HSZ.out
  have q1 := blk_far z1 (p := ⟨w.heap.size + 1 + 1, 3, none⟩) (by simp) (.slice B3 x.f3.length e3)
  have q2 := blk_set z2 3 (.slice B3 x.f3.length e3)
  have cb := below_step HBA.out hc2
  have cb2 := below_set (j := 3) (v := .slice B3 x.f3.length e3) cb (show w.heap.size ≤ w.heap.size + 1 + 1 by omega)
  have hrw : Td.string.Row 9 (w2.setCell ⟨w.heap.size + 1 + 1, 3, none⟩ (.slice B3 x.f3.length e3)) (.slice B3 x.f3.length e3) x.f3 (Value.slice B3 x.f3.length e3).ownBlock.toList :=
    Td.Row_move hr3' (fun k hk => Below.heap_setCell _ _ _ _ (by have := hr3b k (by simpa using hk); show k ≠ w.heap.size + 1 + 1; omega))
  rw [hW2] at q1 q2 cb2 hrw
  have HW2 := Lib.hid hW2
  have Q1 := Lib.hid q1
  have Q2 := Lib.hid q2
  have CB := Lib.hid cb2
  have R3 := Lib.hid hrw
  have R3B := Lib.hid hr3b
  have HSV := Lib.hid (HS.out x.f4 A4 c4 W2 (Kd.C_below G4.out cb2) l4 hs4 HSK.out)
  have HSZ2 : Hid (W1.heap.size = w.heap.size + 1 + 1 + 1) := hs1
  have HW2S : Hid (w.heap.size + 1 + 1 + 1 ≤ W2.heap.size) := Lib.hid (by
    have h1 := hc2.size
    have h2 : W2.heap.size = w2.heap.size := by rw [← hW2]; simp [World.setCell]
    omega)
  clear hr3 hr3' hr3b hc2 z0 z1 z2 HB0 HB1 HB2 G4 G3 hW2 q1 q2 cb cb2 hrw hs1 HSZ
  go_wp2_with fail
  rw [HW2.out]
  (with_reducible refine HSV.out.mono ?_)
  rintro e w3 ⟨v4, fp4, rfl, hr4, hn4, hb4, hc3⟩
  have z1 := (hc3.block _ (blk_lt Q1.out)).trans Q1.out
  have z2 := (hc3.block _ (blk_lt Q2.out)).trans Q2.out
  obtain ⟨B4, e4, rfl⟩ := Td.Row_slice hr4
  simp only [List.setIfInBounds_toArray, List.set_cons_succ, List.set_cons_zero] at z2
  obtain ⟨a0, a1, a2, a3, a4⟩ := cells5 z1
  obtain ⟨b0, b1, b2, b3, b4⟩ := cells5 z2
  have f0 := blk_frozen z1 0
  have f1 := blk_frozen z1 1
  have f2 := blk_frozen z1 2
  have f3' := blk_frozen z1 3
  have f4 := blk_frozen z1 4
  have f24 := blk_frozen z2 4
  have R4 := Lib.hid hr4
  have N4 := Lib.hid hn4
  have F4 := Lib.hid hb4
  have C3 := Lib.hid (below_step CB.out hc3)
  have R33 := Lib.hid (Td.Row_below R3.out hc3)
  have L3 := Lib.hid (Td.Row_lt R3.out)
  have Z1 := Lib.hid (blk5 (blk_far z1 (p := ⟨w.heap.size + 1 + 1, 4, none⟩) (by simp) (.slice B4 x.f4.length e4)) (.int .i64 x.f0) (.string x.f1) (.int .i64 x.f2) (.slice B3 x.f3.length e3) (.slice B4 x.f4.length e4))
  clear hr4 hn4 hb4 hc3 z1 z2 Q1 Q2 R3 CB HSV d4 f3 c3'
  go_wp2
  refine bodyPost_ret (results_cell_row rfl _ _ (w.heap.size + 1) 44 #[.int .i64 x.f0, .string x.f1, .int .i64 x.f2, .slice B3 x.f3.length e3, .slice B4 x.f4.length e4] (0, 0) _ rfl Z1.out Try.underlying44 rfl (by kernel_rfl)) rfl ?_
  have hw2 := HW2S.out
  have l3' : ∀ k ∈ (Value.slice B3 x.f3.length e3).ownBlock.toList, w.heap.size + 1 + 1 + 1 ≤ k ∧ k < W2.heap.size := fun k hk => by
    have h1 := R3B.out k (by simpa using hk)
    have h2 := L3.out k hk
    have h3 := HSZ2.out
    omega
  have l4' : ∀ k ∈ fp4, W2.heap.size ≤ k := F4.out
  have mv : ∀ k, w.heap.size + 1 + 1 + 1 ≤ k → ((((((w3.setCell ⟨w.heap.size + 1 + 1, 4, none⟩ (.slice B4 x.f4.length e4)).setCell ⟨w.heap.size + 1, 0, none⟩ (.int .i64 x.f0)).setCell ⟨w.heap.size + 1, 1, none⟩ (.string x.f1)).setCell ⟨w.heap.size + 1, 2, none⟩ (.int .i64 x.f2)).setCell ⟨w.heap.size + 1, 3, none⟩ (.slice B3 x.f3.length e3)).setCell ⟨w.heap.size + 1, 4, none⟩ (.slice B4 x.f4.length e4)).heap[k]? = w3.heap[k]? := fun k hk => by
    rw [heap5 _ _ _ _ _ _ _ k (by omega), Below.heap_setCell _ _ _ _ (show k ≠ w.heap.size + 1 + 1 by omega)]
  have r4 := R4.out
  simp only [List.length_map] at r4
  have hb := C3.out
  refine ⟨_, _, (Value.slice B3 x.f3.length e3).ownBlock.toList ++ fp4, rfl, tV_mk (x := cVN (n + 1) x) (Td.Row_move R33.out (fun k hk => mv k (l3' k hk).1)) (Td.Row_move r4 (fun k hk => mv k (by have := l4' k hk; omega))), ?_, ?_, ?_⟩
  · rw [List.nodup_append]
    refine ⟨by cases (Value.slice B3 x.f3.length e3).ownBlock <;> simp, N4.out, fun a ha b hb2 hab => ?_⟩
    have h1 := (l3' a ha).2
    have h2 := l4' b hb2
    omega
  · intro k hk
    rcases List.mem_append.1 hk with hk | hk
    · have := (l3' k hk).1; omega
    · have := l4' k hk; omega
  · exact below_set (below_set (below_set (below_set (below_set (below_set hb (by omega)) (by omega)) (by omega)) (by omega)) (by omega)) (by omega)
theorem toV_all : ∀ n, ToV n
  | 0 => fun x A3 c3 A4 c4 w g3 l3 g4 l4 hs => by rw [SmL] at hs; exact hs.elim
  | n + 1 => toV_of n (toS_of n (toV_all n))
end Go.Proofs.Ytmoiacijklkfaaa.G

/- G128 -/
-- Laid by wip/g/gprint.py out of the translation, by the kit's print program. Lean checks it.
namespace Go.Proofs.Ytmoiacijklkfaaa.G
open Go.RowKit Go.Proofs.YtmoiacijklkfaaaW.PrintWords Go.Proofs.YtmoiacijklkfaaaW.PrintLast Go.Proofs.YtmoiacijklkfaaaW.PrintMore
attribute [local go_sem] max2_int min2_int max_two min_two max_three min_three max_four min_four   -- for this text's walks alone
set_option linter.unusedVariables false
set_option linter.unusedSimpArgs false

/-! ### slices_Clone_sstring_string: function 128 -/
def slices_Clone_sstring_string.f (l0 : List ByteArray) : Option (List ByteArray) := if l0.length < 8796093022208 then some l0 else none
set_option maxHeartbeats 4000000 in
theorem slices_Clone_sstring_string.calls (A0 : Option Addr) (c0 : Nat) (l0 : List ByteArray) (r : List ByteArray) (w : World) (hr0 : Kd.C Kd.string w A0 l0.length l0) (hc0 : l0.length ≤ c0) (h : slices_Clone_sstring_string.f l0 = some r) :
    Calls Try.prog 128 #[.slice A0 l0.length c0] w fun e w' => ∃ v0_ : Value, e = .returned (v0_) ∧ Kd.R Kd.string 9 w' w.heap.size (fun _ => True) v0_ r ∧ Below w.heap.size w w' := by
  unfold slices_Clone_sstring_string.f at h
  by_cases hl : l0.length < 8796093022208
  · rw [if_pos hl] at h
    obtain rfl := Option.some.inj h
    clear h
    cases A0 with
    | none =>
      have h0 : l0 = [] := by
        rcases Nat.eq_zero_or_pos l0.length with h | h
        · exact List.eq_nil_of_length_eq_zero h
        · obtain ⟨ad, e, _⟩ := hr0.2.2 h
          cases e
      subst h0
      have hne := fun W => Lib.run_eql_slice_nil (P := Try.prog) W 41 9 none 0 c0 0 0 Try.underlying41
      simp only [List.length_nil]
      go_enter Try.func128, Try.ntmps128
      go_wp2
      go_ret
      exact ⟨_, rfl, Kd.R_nil _ _ _ _ _, Below.refl _ _⟩
    | some ad =>
      have hne := fun W => Lib.run_eql_slice_nil (P := Try.prog) W 41 9 (some ad) l0.length c0 0 0 Try.underlying41
      have HR0 := Aside0.mk hr0
      have HL := Aside0.mk hl
      have HB := Aside0.mk (Below.refl w.heap.size w)
      clear hr0 hl
      go_enter Try.func128, Try.ntmps128
      go_wp2_with (first | ((with_reducible refine gate_dst (N := 5) rfl ?_); refine Kd.R_lit Kd.string _ 9 ?hg (N := 5) ?hd (xs := ([] : List ByteArray)) (inner := []) (ok := fun _ => True) (okp := fun _ => True) ?hr ?hp (fun _ hk => hk) trivial (Below.refl _ _) (Nat.le_refl _) (by simp) ?_; (case hd => rfl); (case hg => rfl); (case hr => first | (go_simp; done) | (go_simp; rfl)); (case hp => exact (Reps.none _ _)); intro v189 w3 ho4 hb hg_ hnew_; clear hg_ hnew_; have n0_ := Aside0.mk (Kd.R_lower ho4 (below_size (by repeat (first | (with_reducible first | exact HB.out | apply below_alloc | apply pw_below_drewN | apply below_drew1) | exact HB.out)))); have n1_ := Aside0.mk (below_step (by repeat (first | (with_reducible first | exact HB.out | apply below_alloc | apply pw_below_drewN | apply below_drew1) | exact HB.out)) hb); clear HB; have HO190 := n0_; have HB := n1_; clear n0_ n1_; clear hb ho4) | ((with_reducible refine gate_builtin (b := .append) (xs := #[.tmp 5, .tmp 6]) rfl ?_); at_builtin; refine Kd.R_append_rows Kd.string (w0 := w) w.heap.size rfl (.tmp 5) (.tmp 6) 41 9 (.string ⟨#[]⟩) 16 rfl Try.underlying41 info9 rfl (by decide) (by omega) v189 ([] : List ByteArray) l0 _ _ _ (fun _ => True) (fun _ => False) rfl rfl ?aO ?aR (fun _ _ h => h) (fun _ h => h.elim) ?aF ?aB ?aS ?aL ?_; (case aR => repeat (first | exact (Kd.C_below HR0.out HB.out) | (with_reducible refine Kd.C_alloc ?_ _) | (with_reducible refine Kd.C_drewN ?_ _) | (with_reducible refine Kd.C_drew ?_))); (case aB => exact (by repeat (first | (with_reducible first | exact HB.out | apply below_alloc | apply pw_below_drewN | apply below_drew1) | exact HB.out))); (case aF => exact (fun _ _ => trivial)); (case aO => exact (by (with_reducible repeat (first | apply Kd.R_alloc | apply Kd.R_drewN | apply Kd.R_drew)); exact HO190.out)); (case aS => exact (below_size (by repeat (first | (with_reducible first | exact HB.out | apply below_alloc | apply pw_below_drewN | apply below_drew1) | exact HB.out)))); (case aL => have := HL.out; simp only [List.length_nil]; omega); intro v192 w5 ho hb hg hat; rw [List.nil_append] at ho; have n0_ := Aside0.mk (hb); have n1_ := Aside0.mk (ho); clear HB; clear HO190; have HB := n0_; have HO193 := n1_; clear n0_ n1_; clear ho hb hg hat))
      go_ret
      exact ⟨_, rfl, by (with_reducible repeat (first | apply Kd.R_alloc | apply Kd.R_drewN | apply Kd.R_drew)); exact HO193.out, (by repeat (first | (with_reducible first | exact HB.out | apply below_alloc | apply pw_below_drewN | apply below_drew1) | exact HB.out))⟩
  · rw [if_neg hl] at h
    cases h

end Go.Proofs.Ytmoiacijklkfaaa.G

/- GKValCopy -/
/-
  copyValue: a copy in rows of its own.
-/
namespace Go.Proofs.Ytmoiacijklkfaaa.G
open Go.RowKit Go.Proofs.YtmoiacijklkfaaaW.PrintWords Go.Proofs.YtmoiacijklkfaaaW.PrintLast Go.Proofs.YtmoiacijklkfaaaW.PrintMore
attribute [local go_sem] max2_int min2_int max_two min_two max_three min_three max_four min_four
set_option linter.unusedVariables false
set_option linter.unusedSimpArgs false
theorem alloc2 (w : World) (a b : Obj) : ((w.alloc a).alloc b).heap[w.heap.size]? = some a ∧ ((w.alloc a).alloc b).heap[w.heap.size + 1]? = some b ∧ ((w.alloc a).alloc b).heap.size = w.heap.size + 1 + 1 := by
  have s1 : (w.alloc a).heap.size = w.heap.size + 1 := by simp
  have s2 : ((w.alloc a).alloc b).heap.size = w.heap.size + 1 + 1 := by simp
  have h1 := heap_alloc_new w a
  have h2 := heap_alloc_new (w.alloc a) b
  have b2 := below_alloc (Below.refl (w.alloc a).heap.size (w.alloc a)) b
  rw [s1] at h2
  exact ⟨(b2.block _ (by omega)).trans h1, h2, s2⟩
theorem tV_open' : ∀ {n : Nat} {w : World} {x : TVal} {a0 a1 a2 v3 v4 : Value} {fp : List Nat}, (tV n).T w x [a0, a1, a2, v3, v4] fp → ∃ u3 u4 f3 f4, (v3 = u3 ∧ v4 = u4) ∧ fp = f3 ++ f4 ∧ Td.string.Row 9 w u3 x.f3 f3 ∧ (tV (n - 1)).Row 44 w u4 x.f4 f4
  | 0, _, _, _, _, _, _, _, _, h => h.elim
  | n + 1, _, _, _, _, _, _, _, _, h => by
    obtain ⟨u3, u4, f3, f4, hu, hf, h3, h4⟩ := tV_open h
    simp only [List.cons.injEq, and_true] at hu
    exact ⟨u3, u4, f3, f4, ⟨hu.2.2.2.1, hu.2.2.2.2⟩, hf, h3, h4⟩
/-- What a call of copyValue leaves. -/
def CpV (n : Nat) : Prop := ∀ (x : TVal) (A3 : Option Addr) (c3 : Nat) (A4 : Option Addr) (c4 : Nat) (w : World), Kd.C Kd.string w A3 x.f3.length x.f3 → x.f3.length ≤ c3 → Kd.C k44 w A4 x.f4.length x.f4 → x.f4.length ≤ c4 → SmI n x →
  Calls Try.prog 129 #[.agg #[.int .i64 x.f0, .string x.f1, .int .i64 x.f2, .slice A3 x.f3.length c3, .slice A4 x.f4.length c4]] w fun e w' => ∃ (v3 v4 : Value) (fp : List Nat), e = .returned (.agg #[.int .i64 x.f0, .string x.f1, .int .i64 x.f2, v3, v4]) ∧
    (tV n).T w' x [.int .i64 x.f0, .string x.f1, .int .i64 x.f2, v3, v4] fp ∧ fp.Nodup ∧ (∀ k ∈ fp, w.heap.size ≤ k) ∧ Below w.heap.size w w'
set_option maxHeartbeats 8000000 in
set_option maxRecDepth 100000 in
theorem cpV_of (n : Nat) (h : CpV n) : CpV (n + 1) := by
  intro x A3 c3 A4 c4 w g3 l3 g4 l4 hs
  rw [SmI] at hs
  obtain ⟨_, hs1, hs3, hs4, hsk⟩ := hs
  have hk3 : slices_Clone_sstring_string.f x.f3 = some x.f3 := by unfold slices_Clone_sstring_string.f; rw [if_pos (by omega)]
  have HK := Lib.hid hk3
  obtain ⟨W1, hW1⟩ : ∃ W1, (w.alloc (.cells #[.int .i64 x.f0, .string x.f1, .int .i64 x.f2, .slice A3 x.f3.length c3, .slice A4 x.f4.length c4] 44)).alloc (.cells #[.int .i64 0, .string ⟨#[]⟩, .int .i64 0, .slice none 0 0, .slice none 0 0] 44) = W1 := ⟨_, rfl⟩
  have hbA := below_alloc (below_alloc (Below.refl w.heap.size w) (.cells #[.int .i64 x.f0, .string x.f1, .int .i64 x.f2, .slice A3 x.f3.length c3, .slice A4 x.f4.length c4] 44)) (.cells #[.int .i64 0, .string ⟨#[]⟩, .int .i64 0, .slice none 0 0, .slice none 0 0] 44)
  obtain ⟨hb0, hb1, hsz⟩ := alloc2 w (.cells #[.int .i64 x.f0, .string x.f1, .int .i64 x.f2, .slice A3 x.f3.length c3, .slice A4 x.f4.length c4] 44) (.cells #[.int .i64 0, .string ⟨#[]⟩, .int .i64 0, .slice none 0 0, .slice none 0 0] 44)
  rw [hW1] at hb0 hb1 hsz hbA
  have HW1 := Lib.hid hW1
  have HBA := Lib.hid hbA
  have HSZ := Lib.hid hsz
  have HB0 := Lib.hid hb0
  have HB1 := Lib.hid hb1
  have HV := Lib.hid h
  have G3 := Lib.hid (Kd.C_below g3 hbA)
  have G4 := Lib.hid g4
  have HSK := Lib.hid hsk
  clear hk3 g3 g4 h hsk hs1 hW1 hbA hsz hb0 hb1
  go_enter Try.func129, Try.ntmps129
  go_wp2_with fail
  rw [HW1.out]
  refine (slices_Clone_sstring_string.calls A3 c3 x.f3 x.f3 W1 G3.out l3 HK.out).mono ?_
  rintro e w2 ⟨v3, rfl, hr3, hc2⟩
  have hr3' := Td.Row_of_R hr3
  have hr3b := Kd.R_base hr3
  obtain ⟨B3, e3, rfl⟩ := Kd.R_slice hr3
  have z0 := (hc2.block _ (blk_lt HB0.out)).trans HB0.out
  have z1 := (hc2.block _ (blk_lt HB1.out)).trans HB1.out
  obtain ⟨_, _, _, d3, d4⟩ := cells5 z0
  have f3 := blk_frozen z0 3
  obtain ⟨W2, hW2⟩ : ∃ W2, w2.setCell ⟨w.heap.size, 3, none⟩ (.slice B3 x.f3.length e3) = W2 := ⟨_, rfl⟩
  have hs1 := HSZ.out
  have q1 := blk_far z1 (p := ⟨w.heap.size, 3, none⟩) (by simp) (.slice B3 x.f3.length e3)
  have q0 := blk_set z0 3 (.slice B3 x.f3.length e3)
  simp only [List.setIfInBounds_toArray, List.set_cons_succ, List.set_cons_zero] at q0
  have cb := below_step HBA.out hc2
  have cb2 := below_set (j := 3) (v := .slice B3 x.f3.length e3) cb (Nat.le_refl _)
  have hrw : Td.string.Row 9 (w2.setCell ⟨w.heap.size, 3, none⟩ (.slice B3 x.f3.length e3)) (.slice B3 x.f3.length e3) x.f3 (Value.slice B3 x.f3.length e3).ownBlock.toList :=
    Td.Row_move hr3' (fun k hk => Below.heap_setCell _ _ _ _ (by have := hr3b k (by simpa using hk); show k ≠ w.heap.size; omega))
  rw [hW2] at q1 q0 cb2 hrw
  have hw2s : w.heap.size + 1 + 1 ≤ W2.heap.size := by
    have h1 := hc2.size
    have h2 : W2.heap.size = w2.heap.size := by rw [← hW2]; simp [World.setCell]
    omega
  have HW2 := Lib.hid hW2
  have Q1 := Lib.hid q1
  have Q0 := Lib.hid q0
  have CB := Lib.hid cb2
  have R3 := Lib.hid hrw
  have HW2S := Lib.hid hw2s
  have R3B : Hid (∀ k ∈ (Value.slice B3 x.f3.length e3).ownBlock.toList, w.heap.size + 1 + 1 ≤ k ∧ k < W2.heap.size) := Lib.hid (fun k hk => by
    have h1 := hr3b k (by simpa using hk)
    have h2 := Td.Row_lt hrw k hk
    omega)
  have G42 := Lib.hid (Kd.C_below G4.out cb2)
  have hd4 := (cells5 q0).2.2.2.2
  rw [← hW2] at hd4
  have D4 := Lib.hid hd4
  clear hr3 hr3' hr3b hc2 z0 z1 HB0 HB1 G4 G3 hW2 q1 q0 cb cb2 hrw hs1 hw2s hd4
  go_wp2_with ((with_reducible refine gate_dst (N := 10) rfl ?_); rw [HW2.out]; refine Td.Row_lit0 (tV n) (w0 := W2) 44 ?hg (N := 10) ?hd ?hr (Below.refl _ _) ?_; (case hd => rfl); (case hg => rfl); (case hr => first | (go_simp; done) | (go_simp; rfl)); intro v10 w10 fp hrow hn hf hb hg_; have d4b := pw_cell_below hb ((cells5 Q0.out).2.2.2.2); have HRW := Lib.hid hrow; have HN := Lib.hid hn; have HF := Lib.hid hf; have HB := Lib.hid hb; clear hrow hn hf hb hg_)
  go_loopw [3, 14] (fun vk vi wr => ∃ (i : Nat) (fq : List Nat), i ≤ x.f4.length ∧ vi = .int .i64 i ∧ Hid ((tV n).Row 44 wr vk (x.f4.take i) fq) ∧ Hid fq.Nodup ∧ Hid (∀ k ∈ fq, W2.heap.size ≤ k) ∧ Hid (Below W2.heap.size W2 wr)) (fun _ vi _ => x.f4.length - (intOf vi).toNat)
  case atStart => exact ⟨0, fp, by omega, rfl, HRW, HN, HF, HB⟩
  case round =>
    clear HRW HN HF HB d4b
    obtain ⟨i, fq, hi, rfl, HR, HN, HF, HB⟩ := hrel
    by_cases hil : i < x.f4.length
    · obtain ⟨ad, cs, rfl, hcs, hK, hcell⟩ := Kd.C_get G42.out x.f4[i] (i : Int) (by omega) (by omega)
      simp only [Int.toNat_natCast, getD_at hil] at hK hcell
      obtain ⟨A5, c5, A6, c6, rfl, l5, g5, l6, g6⟩ := k44_open hK
      have d0 := pw_cell_below HB.out (hcell 0 _ rfl)
      have d1 := pw_cell_below HB.out (hcell 1 _ rfl)
      have d2 := pw_cell_below HB.out (hcell 2 _ rfl)
      have d3' := pw_cell_below HB.out (hcell 3 _ rfl)
      have d4' := pw_cell_below HB.out (hcell 4 _ rfl)
      rw [show k44.sz = 5 from rfl] at d0 d1 d2 d3' d4'
      simp only [Nat.add_zero] at d0
      rw [add_field _ _ 1 (by omega)] at d1
      rw [add_field _ _ 2 (by omega)] at d2
      rw [add_field _ _ 3 (by omega)] at d3'
      rw [add_field _ _ 4 (by omega)] at d4'
      have hbx := below_alloc HB.out (.cells #[.int .i64 x.f4[i].f0, .string x.f4[i].f1, .int .i64 x.f4[i].f2, .slice A5 x.f4[i].f3.length c5, .slice A6 x.f4[i].f4.length c6] 44)
      have HV1 := Lib.hid (HV.out x.f4[i] A5 c5 A6 c6 _ (Kd.C_below g5 hbx) l5 (Kd.C_below g6 hbx) l6 (HSK.out _ (List.getElem_mem hil)))
      have HRA := Lib.hid (Td.Row_below HR.out (below_alloc (Below.refl wr.heap.size wr) (.cells #[.int .i64 x.f4[i].f0, .string x.f4[i].f1, .int .i64 x.f4[i].f2, .slice A5 x.f4[i].f3.length c5, .slice A6 x.f4[i].f4.length c6] 44)))
      have HBXX := Lib.hid hbx
      have HLQ := Lib.hid (Td.Row_lt HR.out)
      have hasz : Hid ((wr.alloc (.cells #[.int .i64 x.f4[i].f0, .string x.f4[i].f1, .int .i64 x.f4[i].f2, .slice A5 x.f4[i].f3.length c5, .slice A6 x.f4[i].f4.length c6] 44)).heap.size = wr.heap.size + 1) := by unfold Hid; simp
      clear hcs hcell hK l5 g5 l6 g6 hbx HR
      go_wp2_with fail
      (with_reducible refine HV1.out.mono ?_)
      rintro e w5 ⟨u3, u4, fk, rfl, hT, hkn, hkb, hc5⟩
      obtain ⟨u3', u4', g3, g4, hu, _, hr3, hr4⟩ := tV_open' hT
      obtain ⟨rfl, rfl⟩ := hu
      obtain ⟨B5, e5, rfl⟩ := Td.Row_slice hr3
      obtain ⟨B6, e6, rfl⟩ := Td.Row_slice hr4
      have HT := Lib.hid hT
      have HKN := Lib.hid hkn
      have HKB := Lib.hid hkb
      have HR5 := Lib.hid (Td.Row_below HRA.out hc5)
      have HB5 := Lib.hid (below_step HBXX.out hc5)
      clear hT hkn hkb hc5 hr3 hr4 HV1 HRA d0 d1 d2 d3' d4'
      go_wp2_with ((with_reducible refine gate_builtin (b := .append) (xs := #[.tmp 18, .tmp 21]) rfl ?_); at_builtin; refine Td.Row_append (tV n) (w0 := W2) rfl (.tmp 18) (.tmp 21) 42 44 (.agg #[(.int .i64 0), (.string ⟨#[]⟩), (.int .i64 0), (.slice none 0 0), (.slice none 0 0)]) 80 rfl Try.underlying42 (by rw [tV_sz]; exact info44) (by rw [tV_sz]; rfl) (by rw [tV_sz]; decide) (by omega) _ (x.f4.take i) x.f4[i] [.int .i64 x.f4[i].f0, .string x.f4[i].f1, .int .i64 x.f4[i].f2, .slice B5 x.f4[i].f3.length e5, .slice B6 x.f4[i].f4.length e6] fq fk rfl rfl HT.out HKN.out ?afb ?afd HR5.out HN.out HF.out HB5.out ?al ?_; (case afb => exact fun k hk => Nat.le_trans HB.out.size (Nat.le_trans (by have := hasz.out; omega) (HKB.out k hk))); (case afd => exact fun k hk hm => by have h1 := HKB.out k hk; have h2 := HLQ.out k hm; have h3 := hasz.out; omega); (case al => rw [List.length_take]; omega); intro v6 w6 fp1 hrow hn1 hin1 hb1 hg1; have HRN := Lib.hid hrow; have HNN := Lib.hid hn1; have HIN := Lib.hid hin1; have HBN := Lib.hid hb1; clear hrow hn1 hin1 hb1 hg1)
      go_roundw
      case rel =>
        refine ⟨i + 1, fp1, by omega, by go_num, ?_, HNN, ?_, HBN⟩
        · have h_ := HRN.out
          unfold Hid
          rw [List.take_succ_eq_append_getElem hil]
          exact h_
        · exact fun k hk => by
            have hsz5 := HB5.out.size
            have h3 := hasz.out
            have hsw := HB.out.size
            rcases HIN.out k hk with h | h | h
            · exact HF.out k h
            · have := HKB.out k h; omega
            · omega
      case measure => simp [intOf]; omega
    · obtain rfl : i = x.f4.length := by omega
      rw [List.take_length] at HR
      obtain ⟨B4, e4, rfl⟩ := Td.Row_slice HR.out
      have z0 := (HB.out.block _ (blk_lt Q0.out)).trans Q0.out
      have z1 := (HB.out.block _ (blk_lt Q1.out)).trans Q1.out
      obtain ⟨a0, a1, a2, a3, a4⟩ := cells5 z1
      obtain ⟨b0, b1, b2, b3, b4⟩ := cells5 z0
      have f0 := blk_frozen z1 0
      have f1 := blk_frozen z1 1
      have f2 := blk_frozen z1 2
      have f3' := blk_frozen z1 3
      have f4 := blk_frozen z1 4
      have f04 := blk_frozen z0 4
      have Z1 := Lib.hid (blk5 (blk_far z1 (p := ⟨w.heap.size, 4, none⟩) (by simp) (.slice B4 x.f4.length e4)) (.int .i64 x.f0) (.string x.f1) (.int .i64 x.f2) (.slice B3 x.f3.length e3) (.slice B4 x.f4.length e4))
      have C3 := Lib.hid (below_step CB.out HB.out)
      have R33 := Lib.hid (Td.Row_below R3.out HB.out)
      clear z0 z1 Q0 Q1 R3 CB HB d3 d4 f3
      go_wp2
      refine bodyPost_ret (results_cell_row rfl _ _ (w.heap.size + 1) 44 #[.int .i64 x.f0, .string x.f1, .int .i64 x.f2, .slice B3 x.f3.length e3, .slice B4 x.f4.length e4] (0, 0) _ rfl Z1.out Try.underlying44 rfl (by kernel_rfl)) rfl ?_
      have hw2 := HW2S.out
      have l3' := R3B.out
      have l4' := HF.out
      have mv : ∀ k, w.heap.size + 1 + 1 ≤ k → ((((((wr.setCell ⟨w.heap.size, 4, none⟩ (.slice B4 x.f4.length e4)).setCell ⟨w.heap.size + 1, 0, none⟩ (.int .i64 x.f0)).setCell ⟨w.heap.size + 1, 1, none⟩ (.string x.f1)).setCell ⟨w.heap.size + 1, 2, none⟩ (.int .i64 x.f2)).setCell ⟨w.heap.size + 1, 3, none⟩ (.slice B3 x.f3.length e3)).setCell ⟨w.heap.size + 1, 4, none⟩ (.slice B4 x.f4.length e4)).heap[k]? = wr.heap[k]? := fun k hk => by
        rw [heap5 _ _ _ _ _ _ _ k (by omega), Below.heap_setCell _ _ _ _ (show k ≠ w.heap.size by omega)]
      have hb := C3.out
      refine ⟨_, _, (Value.slice B3 x.f3.length e3).ownBlock.toList ++ fq, rfl, tV_mk (Td.Row_move R33.out (fun k hk => mv k (l3' k hk).1)) (Td.Row_move HR.out (fun k hk => mv k (by have := l4' k hk; omega))), ?_, ?_, ?_⟩
      · rw [List.nodup_append]
        refine ⟨by cases (Value.slice B3 x.f3.length e3).ownBlock <;> simp, HN.out, fun a ha b hb2 hab => ?_⟩
        have h1 := (l3' a ha).2
        have h2 := l4' b hb2
        omega
      · intro k hk
        rcases List.mem_append.1 hk with hk | hk
        · have := (l3' k hk).1; omega
        · have := l4' k hk; omega
      · exact below_set (below_set (below_set (below_set (below_set (below_set hb (by omega)) (by omega)) (by omega)) (by omega)) (by omega)) (by omega)
theorem cpV_all : ∀ n, CpV n
  | 0 => fun x A3 c3 A4 c4 w g3 l3 g4 l4 hs => by rw [SmI] at hs; exact hs.elim
  | n + 1 => cpV_of n (cpV_all n)
end Go.Proofs.Ytmoiacijklkfaaa.G

/- GKObjCopy -/
/-
  copyObj: a copy in rows of its own.
-/
namespace Go.Proofs.Ytmoiacijklkfaaa.G
open Go.RowKit Go.Proofs.YtmoiacijklkfaaaW.PrintWords Go.Proofs.YtmoiacijklkfaaaW.PrintLast Go.Proofs.YtmoiacijklkfaaaW.PrintMore
attribute [local go_sem] max2_int min2_int max_two min_two max_three min_three max_four min_four
set_option linter.unusedVariables false
set_option linter.unusedSimpArgs false
/-- The cells of an object. -/
def obC (x : IObj) (v6 v10 v11 v15 v16 : Value) : Array Value := #[.int .i64 x.f0, .string x.f1, .int .i64 x.f2, .int .i64 x.f3, .int .i64 x.f4, .bool x.f5, v6, .int .i64 x.f7.f0, .string x.f7.f1, .int .i64 x.f7.f2, v10, v11, .int .i64 x.f8.f0, .string x.f8.f1, .int .i64 x.f8.f2, v15, v16]
def obZ : Array Value := #[.int .i64 0, .string ⟨#[]⟩, .int .i64 0, .int .i64 0, .int .i64 0, .bool false, .slice none 0 0, .int .i64 0, .string ⟨#[]⟩, .int .i64 0, .slice none 0 0, .slice none 0 0, .int .i64 0, .string ⟨#[]⟩, .int .i64 0, .slice none 0 0, .slice none 0 0]
section
variable {w : World} {g : Nat} {x : IObj} {v6 v10 v11 v15 v16 : Value}
theorem ob_cell (h : w.heap[g]? = some (.cells (obC x v6 v10 v11 v15 v16) 46 (0, 0))) (j : Nat) {u : Value} (hu : (obC x v6 v10 v11 v15 v16)[j]? = some u) : w.cell? ⟨g, j, none⟩ = some u := (blk_cell h j).trans hu
theorem ob_c6 (h : w.heap[g]? = some (.cells (obC x v6 v10 v11 v15 v16) 46 (0, 0))) : w.cell? ⟨g, 6, none⟩ = some v6 := ob_cell h 6 rfl
theorem ob_c7 (h : w.heap[g]? = some (.cells (obC x v6 v10 v11 v15 v16) 46 (0, 0))) : w.cell? ⟨g, 7, none⟩ = some (.int .i64 x.f7.f0) ∧ w.cell? ⟨g, 8, none⟩ = some (.string x.f7.f1) ∧ w.cell? ⟨g, 9, none⟩ = some (.int .i64 x.f7.f2) ∧ w.cell? ⟨g, 10, none⟩ = some v10 ∧ w.cell? ⟨g, 11, none⟩ = some v11 := ⟨ob_cell h 7 rfl, ob_cell h 8 rfl, ob_cell h 9 rfl, ob_cell h 10 rfl, ob_cell h 11 rfl⟩
theorem ob_c8 (h : w.heap[g]? = some (.cells (obC x v6 v10 v11 v15 v16) 46 (0, 0))) : w.cell? ⟨g, 12, none⟩ = some (.int .i64 x.f8.f0) ∧ w.cell? ⟨g, 13, none⟩ = some (.string x.f8.f1) ∧ w.cell? ⟨g, 14, none⟩ = some (.int .i64 x.f8.f2) ∧ w.cell? ⟨g, 15, none⟩ = some v15 ∧ w.cell? ⟨g, 16, none⟩ = some v16 := ⟨ob_cell h 12 rfl, ob_cell h 13 rfl, ob_cell h 14 rfl, ob_cell h 15 rfl, ob_cell h 16 rfl⟩
theorem ob_set6 (h : w.heap[g]? = some (.cells (obC x v6 v10 v11 v15 v16) 46 (0, 0))) (u : Value) : (w.setCell ⟨g, 6, none⟩ u).heap[g]? = some (.cells (obC x u v10 v11 v15 v16) 46 (0, 0)) := blk_set h 6 u
theorem ob_set7 (h : w.heap[g]? = some (.cells (obC x v6 v10 v11 v15 v16) 46 (0, 0))) (y : TVal) (u10 u11 : Value) : (((((w.setCell ⟨g, 7, none⟩ (.int .i64 y.f0)).setCell ⟨g, 8, none⟩ (.string y.f1)).setCell ⟨g, 9, none⟩ (.int .i64 y.f2)).setCell ⟨g, 10, none⟩ u10).setCell ⟨g, 11, none⟩ u11).heap[g]? = some (.cells (obC { x with f7 := y } v6 u10 u11 v15 v16) 46 (0, 0)) :=
  blk_set (blk_set (blk_set (blk_set (blk_set h 7 (.int .i64 y.f0)) 8 (.string y.f1)) 9 (.int .i64 y.f2)) 10 u10) 11 u11
theorem ob_set8 (h : w.heap[g]? = some (.cells (obC x v6 v10 v11 v15 v16) 46 (0, 0))) (y : TVal) (u15 u16 : Value) : (((((w.setCell ⟨g, 12, none⟩ (.int .i64 y.f0)).setCell ⟨g, 13, none⟩ (.string y.f1)).setCell ⟨g, 14, none⟩ (.int .i64 y.f2)).setCell ⟨g, 15, none⟩ u15).setCell ⟨g, 16, none⟩ u16).heap[g]? = some (.cells (obC { x with f8 := y } v6 v10 v11 u15 u16) 46 (0, 0)) :=
  blk_set (blk_set (blk_set (blk_set (blk_set h 12 (.int .i64 y.f0)) 13 (.string y.f1)) 14 (.int .i64 y.f2)) 15 u15) 16 u16
end
theorem heap5g (w : World) (g : Nat) (j0 j1 j2 j3 j4 : Nat) (a0 a1 a2 a3 a4 : Value) (k : Nat) (hk : k ≠ g) : (((((w.setCell ⟨g, j0, none⟩ a0).setCell ⟨g, j1, none⟩ a1).setCell ⟨g, j2, none⟩ a2).setCell ⟨g, j3, none⟩ a3).setCell ⟨g, j4, none⟩ a4).heap[k]? = w.heap[k]? := by
  rw [Below.heap_setCell _ _ _ _ hk, Below.heap_setCell _ _ _ _ hk, Below.heap_setCell _ _ _ _ hk, Below.heap_setCell _ _ _ _ hk, Below.heap_setCell _ _ _ _ hk]
theorem tV_ones {n : Nat} {w : World} {y : TVal} {a0 a1 a2 v3 v4 : Value} {fp : List Nat} (h : (tV n).T w y [a0, a1, a2, v3, v4] fp) : v3.oneCell' = true ∧ v4.oneCell' = true := ⟨(tV n).T_one h v3 (by simp), (tV n).T_one h v4 (by simp)⟩
theorem ob_one {x : IObj} {v6 v10 v11 v15 v16 : Value} (h6 : v6.oneCell' = true) (h10 : v10.oneCell' = true) (h11 : v11.oneCell' = true) (h15 : v15.oneCell' = true) (h16 : v16.oneCell' = true) : ∀ u ∈ (obC x v6 v10 v11 v15 v16).toList, u.oneCell' = true := by
  intro u hu
  simp only [obC, List.mem_cons, List.not_mem_nil, or_false] at hu
  rcases hu with h | h | h | h | h | h | h | h | h | h | h | h | h | h | h | h | h <;> (rw [h]; first | rfl | assumption)
set_option maxHeartbeats 16000000 in
set_option maxRecDepth 100000 in
theorem copyO_calls (n : Nat) (x : IObj) (cs : List Value) (w : World) (hk : k46.K w x cs) (hx6 : x.f6.length ≤ 1048576) (hx7 : SmI n x.f7) (hx8 : SmI n x.f8) :
    Calls Try.prog 77 #[.agg cs.toArray] w fun e w' => ∃ (cs' : List Value) (fp : List Nat), e = .returned (.agg cs'.toArray) ∧ (tO n).T w' x cs' fp ∧ fp.Nodup ∧ (∀ k ∈ fp, w.heap.size ≤ k) ∧ Below w.heap.size w w' := by
  obtain ⟨A6, c6, A10, c10, A11, c11, A15, c15, A16, c16, rfl, l6, g6, l10, g10, l11, g11, l15, g15, l16, g16⟩ := k46_open hk
  have hk3 : slices_Clone_sstring_string.f x.f6 = some x.f6 := by unfold slices_Clone_sstring_string.f; rw [if_pos (by omega)]
  have HK := Lib.hid hk3
  obtain ⟨W1, hW1⟩ : ∃ W1, (w.alloc (.cells #[.int .i64 x.f0, .string x.f1, .int .i64 x.f2, .int .i64 x.f3, .int .i64 x.f4, .bool x.f5, .slice A6 x.f6.length c6, .int .i64 x.f7.f0, .string x.f7.f1, .int .i64 x.f7.f2, .slice A10 x.f7.f3.length c10, .slice A11 x.f7.f4.length c11, .int .i64 x.f8.f0, .string x.f8.f1, .int .i64 x.f8.f2, .slice A15 x.f8.f3.length c15, .slice A16 x.f8.f4.length c16] 46)).alloc (.cells #[.int .i64 0, .string ⟨#[]⟩, .int .i64 0, .int .i64 0, .int .i64 0, .bool false, .slice none 0 0, .int .i64 0, .string ⟨#[]⟩, .int .i64 0, .slice none 0 0, .slice none 0 0, .int .i64 0, .string ⟨#[]⟩, .int .i64 0, .slice none 0 0, .slice none 0 0] 46) = W1 := ⟨_, rfl⟩
  have hbA := below_alloc (below_alloc (Below.refl w.heap.size w) (.cells #[.int .i64 x.f0, .string x.f1, .int .i64 x.f2, .int .i64 x.f3, .int .i64 x.f4, .bool x.f5, .slice A6 x.f6.length c6, .int .i64 x.f7.f0, .string x.f7.f1, .int .i64 x.f7.f2, .slice A10 x.f7.f3.length c10, .slice A11 x.f7.f4.length c11, .int .i64 x.f8.f0, .string x.f8.f1, .int .i64 x.f8.f2, .slice A15 x.f8.f3.length c15, .slice A16 x.f8.f4.length c16] 46)) (.cells #[.int .i64 0, .string ⟨#[]⟩, .int .i64 0, .int .i64 0, .int .i64 0, .bool false, .slice none 0 0, .int .i64 0, .string ⟨#[]⟩, .int .i64 0, .slice none 0 0, .slice none 0 0, .int .i64 0, .string ⟨#[]⟩, .int .i64 0, .slice none 0 0, .slice none 0 0] 46)
  obtain ⟨hb0, hb1, hsz⟩ := alloc2 w (.cells #[.int .i64 x.f0, .string x.f1, .int .i64 x.f2, .int .i64 x.f3, .int .i64 x.f4, .bool x.f5, .slice A6 x.f6.length c6, .int .i64 x.f7.f0, .string x.f7.f1, .int .i64 x.f7.f2, .slice A10 x.f7.f3.length c10, .slice A11 x.f7.f4.length c11, .int .i64 x.f8.f0, .string x.f8.f1, .int .i64 x.f8.f2, .slice A15 x.f8.f3.length c15, .slice A16 x.f8.f4.length c16] 46) (.cells #[.int .i64 0, .string ⟨#[]⟩, .int .i64 0, .int .i64 0, .int .i64 0, .bool false, .slice none 0 0, .int .i64 0, .string ⟨#[]⟩, .int .i64 0, .slice none 0 0, .slice none 0 0, .int .i64 0, .string ⟨#[]⟩, .int .i64 0, .slice none 0 0, .slice none 0 0] 46)
  rw [hW1] at hb0 hb1 hsz hbA
  have HW1 := Lib.hid hW1
  have HBA := Lib.hid hbA
  have HSZ := Lib.hid hsz
  have HB0 : Hid (W1.heap[w.heap.size]? = some (.cells (obC x (.slice A6 x.f6.length c6) (.slice A10 x.f7.f3.length c10) (.slice A11 x.f7.f4.length c11) (.slice A15 x.f8.f3.length c15) (.slice A16 x.f8.f4.length c16)) 46 (0, 0))) := Lib.hid hb0
  have HB1 : Hid (W1.heap[w.heap.size + 1]? = some (.cells obZ 46 (0, 0))) := Lib.hid hb1
  have G6 := Lib.hid (Kd.C_below g6 hbA)
  have G10 := Lib.hid g10
  have G11 := Lib.hid g11
  have G15 := Lib.hid g15
  have G16 := Lib.hid g16
  have H7 := Lib.hid hx7
  have H8 := Lib.hid hx8
  clear hk hk3 g6 g10 g11 g15 g16 hx7 hx8 hW1 hbA hsz hb0 hb1
  go_enter Try.func77, Try.ntmps77
  go_wp2_with fail
  rw [HW1.out]
  refine (slices_Clone_sstring_string.calls A6 c6 x.f6 x.f6 W1 G6.out l6 HK.out).mono ?_
  rintro e w2 ⟨v6, rfl, hr6, hc2⟩
  have hr6' := Td.Row_of_R hr6
  have hr6b := Kd.R_base hr6
  obtain ⟨B6, e6, rfl⟩ := Kd.R_slice hr6
  have z0 := (hc2.block _ (blk_lt HB0.out)).trans HB0.out
  have z1 := (hc2.block _ (blk_lt HB1.out)).trans HB1.out
  have d6 := ob_c6 z0
  obtain ⟨d7, d8, d9, d10, d11⟩ := ob_c7 z0
  have f6 := blk_frozen z0 6
  obtain ⟨W2, hW2⟩ : ∃ W2, w2.setCell ⟨w.heap.size, 6, none⟩ (.slice B6 x.f6.length e6) = W2 := ⟨_, rfl⟩
  have hs1 := HSZ.out
  have q0 := ob_set6 z0 (.slice B6 x.f6.length e6)
  have cb2 := below_set (j := 6) (v := .slice B6 x.f6.length e6) (below_step HBA.out hc2) (Nat.le_refl _)
  have far2 : ∀ k, k ≠ w.heap.size → (w2.setCell ⟨w.heap.size, 6, none⟩ (.slice B6 x.f6.length e6)).heap[k]? = w2.heap[k]? := fun k hk => Below.heap_setCell _ _ _ _ hk
  have hss : (w2.setCell ⟨w.heap.size, 6, none⟩ (.slice B6 x.f6.length e6)).heap.size = w2.heap.size := by simp [World.setCell]
  rw [hW2] at q0 cb2 far2 hss
  have hrw : Td.string.Row 9 W2 (.slice B6 x.f6.length e6) x.f6 (Value.slice B6 x.f6.length e6).ownBlock.toList := Td.Row_move hr6' (fun k hk => far2 k (by have := hr6b k (by simpa using hk); omega))
  have R6B : Hid (∀ k ∈ (Value.slice B6 x.f6.length e6).ownBlock.toList, w.heap.size + 1 + 1 ≤ k ∧ k < W2.heap.size) := Lib.hid (fun k hk => by
    have h1 := hr6b k (by simpa using hk)
    have h2 := Td.Row_lt hrw k hk
    omega)
  have hw2s : w.heap.size + 1 + 1 ≤ W2.heap.size := by have := hc2.size; omega
  have HW2 := Lib.hid hW2
  have Q0 := Lib.hid q0
  have Q1 := Lib.hid ((far2 (w.heap.size + 1) (by omega)).trans z1)
  have CB2 := Lib.hid cb2
  have R6 := Lib.hid hrw
  have S2 := Lib.hid hw2s
  clear hr6 hr6' hr6b hc2 z0 z1 HB0 HB1 G6 hW2 q0 cb2 hrw hs1 far2 hss hw2s HBA HSZ HK
  go_wp2_with fail
  rw [HW2.out]
  clear d6 d7 d8 d9 d10 d11 f6 HW2 HW1
  refine (cpV_all n x.f7 A10 c10 A11 c11 W2 (Kd.C_below G10.out CB2.out) l10 (Kd.C_below G11.out CB2.out) l11 H7.out).mono ?_
  rintro e w3 ⟨u10, u11, fS, rfl, hTS, hnS, hbS, hb3⟩
  have z0 := (hb3.block _ (blk_lt Q0.out)).trans Q0.out
  have z1 := (hb3.block _ (blk_lt Q1.out)).trans Q1.out
  obtain ⟨d7, d8, d9, d10, d11⟩ := ob_c7 z0
  obtain ⟨d12, d13, d14, d15, d16⟩ := ob_c8 z0
  have f7 := blk_frozen z0 7
  have f8 := blk_frozen z0 8
  have f9 := blk_frozen z0 9
  have f10 := blk_frozen z0 10
  have f11 := blk_frozen z0 11
  obtain ⟨o10, o11⟩ := tV_ones hTS
  have r10 := fun (a_ : Addr) (W_ : World) (q_ : Mode) => run_store Try.prog W_ a_ u10 q_ o10
  have r11 := fun (a_ : Addr) (W_ : World) (q_ : Mode) => run_store Try.prog W_ a_ u11 q_ o11
  obtain ⟨W3, hW3⟩ : ∃ W3, ((((w3.setCell ⟨w.heap.size, 7, none⟩ (.int .i64 x.f7.f0)).setCell ⟨w.heap.size, 8, none⟩ (.string x.f7.f1)).setCell ⟨w.heap.size, 9, none⟩ (.int .i64 x.f7.f2)).setCell ⟨w.heap.size, 10, none⟩ u10).setCell ⟨w.heap.size, 11, none⟩ u11 = W3 := ⟨_, rfl⟩
  have q0 := ob_set7 z0 x.f7 u10 u11
  have far3 : ∀ k, k ≠ w.heap.size → (((((w3.setCell ⟨w.heap.size, 7, none⟩ (.int .i64 x.f7.f0)).setCell ⟨w.heap.size, 8, none⟩ (.string x.f7.f1)).setCell ⟨w.heap.size, 9, none⟩ (.int .i64 x.f7.f2)).setCell ⟨w.heap.size, 10, none⟩ u10).setCell ⟨w.heap.size, 11, none⟩ u11).heap[k]? = w3.heap[k]? := fun k hk => heap5g _ _ _ _ _ _ _ _ _ _ _ _ k hk
  have hss : (((((w3.setCell ⟨w.heap.size, 7, none⟩ (.int .i64 x.f7.f0)).setCell ⟨w.heap.size, 8, none⟩ (.string x.f7.f1)).setCell ⟨w.heap.size, 9, none⟩ (.int .i64 x.f7.f2)).setCell ⟨w.heap.size, 10, none⟩ u10).setCell ⟨w.heap.size, 11, none⟩ u11).heap.size = w3.heap.size := by simp [World.setCell]
  have cb3 := below_set (j := 11) (v := u11) (below_set (j := 10) (v := u10) (below_set (j := 9) (v := .int .i64 x.f7.f2) (below_set (j := 8) (v := .string x.f7.f1) (below_set (j := 7) (v := .int .i64 x.f7.f0) (below_step CB2.out hb3) (Nat.le_refl _)) (Nat.le_refl _)) (Nat.le_refl _)) (Nat.le_refl _)) (Nat.le_refl _)
  rw [hW3] at q0 far3 hss cb3
  have hsS := (tV n).T_lt hTS
  have TS := Lib.hid ((tV n).T_move (w1 := W3) (fun k hk => far3 k (by have := hbS k hk; have := S2.out; omega)) hTS)
  have R63 := Lib.hid (Td.Row_move (w1 := W3) R6.out (fun k hk => by have := R6B.out k hk; rw [far3 k (by omega)]; exact hb3.block k this.2))
  have NS := Lib.hid hnS
  have FS : Hid (∀ k ∈ fS, W2.heap.size ≤ k ∧ k < W3.heap.size) := Lib.hid (fun k hk => by have h1 := hbS k hk; have h2 := hsS k hk; omega)
  have S3 : Hid (W2.heap.size ≤ W3.heap.size) := Lib.hid (by have := hb3.size; omega)
  have HW3 := Lib.hid hW3
  have Q03 := Lib.hid q0
  have Q13 := Lib.hid ((far3 (w.heap.size + 1) (by omega)).trans z1)
  have CB3 := Lib.hid cb3
  have O10 := Lib.hid o10
  have O11 := Lib.hid o11
  clear hTS hnS hbS hb3 z0 z1 Q0 Q1 R6 hW3 q0 far3 hss cb3 hsS CB2
  go_wp2_with fail
  rw [HW3.out]
  clear d7 d8 d9 d10 d11 d12 d13 d14 d15 d16 f7 f8 f9 f10 f11 HW3 o10 o11 r10 r11
  refine (cpV_all n x.f8 A15 c15 A16 c16 W3 (Kd.C_below G15.out CB3.out) l15 (Kd.C_below G16.out CB3.out) l16 H8.out).mono ?_
  rintro e w4 ⟨u15, u16, fT, rfl, hTT, hnT, hbT, hb4⟩
  have z0 := (hb4.block _ (blk_lt Q03.out)).trans Q03.out
  have z1 := (hb4.block _ (blk_lt Q13.out)).trans Q13.out
  obtain ⟨d12, d13, d14, d15, d16⟩ := ob_c8 z0
  have f12 := blk_frozen z0 12
  have f13 := blk_frozen z0 13
  have f14 := blk_frozen z0 14
  have f15 := blk_frozen z0 15
  have f16 := blk_frozen z0 16
  obtain ⟨o15, o16⟩ := tV_ones hTT
  have r15 := fun (a_ : Addr) (W_ : World) (q_ : Mode) => run_store Try.prog W_ a_ u15 q_ o15
  have r16 := fun (a_ : Addr) (W_ : World) (q_ : Mode) => run_store Try.prog W_ a_ u16 q_ o16
  obtain ⟨W4, hW4⟩ : ∃ W4, ((((w4.setCell ⟨w.heap.size, 12, none⟩ (.int .i64 x.f8.f0)).setCell ⟨w.heap.size, 13, none⟩ (.string x.f8.f1)).setCell ⟨w.heap.size, 14, none⟩ (.int .i64 x.f8.f2)).setCell ⟨w.heap.size, 15, none⟩ u15).setCell ⟨w.heap.size, 16, none⟩ u16 = W4 := ⟨_, rfl⟩
  have q0 := ob_set8 z0 x.f8 u15 u16
  have far4 : ∀ k, k ≠ w.heap.size → (((((w4.setCell ⟨w.heap.size, 12, none⟩ (.int .i64 x.f8.f0)).setCell ⟨w.heap.size, 13, none⟩ (.string x.f8.f1)).setCell ⟨w.heap.size, 14, none⟩ (.int .i64 x.f8.f2)).setCell ⟨w.heap.size, 15, none⟩ u15).setCell ⟨w.heap.size, 16, none⟩ u16).heap[k]? = w4.heap[k]? := fun k hk => heap5g _ _ _ _ _ _ _ _ _ _ _ _ k hk
  have hss : (((((w4.setCell ⟨w.heap.size, 12, none⟩ (.int .i64 x.f8.f0)).setCell ⟨w.heap.size, 13, none⟩ (.string x.f8.f1)).setCell ⟨w.heap.size, 14, none⟩ (.int .i64 x.f8.f2)).setCell ⟨w.heap.size, 15, none⟩ u15).setCell ⟨w.heap.size, 16, none⟩ u16).heap.size = w4.heap.size := by simp [World.setCell]
  have cb4 := below_set (j := 16) (v := u16) (below_set (j := 15) (v := u15) (below_set (j := 14) (v := .int .i64 x.f8.f2) (below_set (j := 13) (v := .string x.f8.f1) (below_set (j := 12) (v := .int .i64 x.f8.f0) (below_step CB3.out hb4) (Nat.le_refl _)) (Nat.le_refl _)) (Nat.le_refl _)) (Nat.le_refl _)) (Nat.le_refl _)
  rw [hW4] at q0 far4 hss cb4
  have Q04 := Lib.hid q0
  have Q14 := Lib.hid ((far4 (w.heap.size + 1) (by omega)).trans z1)
  have HW4 := Lib.hid hW4
  have CB4 := Lib.hid cb4
  have FAR4 := Lib.hid far4
  have HSS := Lib.hid hss
  have TT := Lib.hid hTT
  have NT := Lib.hid hnT
  have BT := Lib.hid hbT
  have B4 := Lib.hid hb4
  have HONE := Lib.hid (ob_one (x := x) (v6 := .slice B6 x.f6.length e6) rfl O10.out O11.out o15 o16)
  clear hTT hnT hbT hb4 z0 z1 Q03 Q13 hW4 q0 far4 hss cb4
  go_wp2_with (first | ((with_reducible refine gate_dst (N := 15) rfl ?_); rw [HW4.out]; refine load_event rfl (N := 15) rfl 46 (.tmp 1) rfl ⟨w.heap.size, 0, none⟩ rfl (obC x (.slice B6 x.f6.length e6) u10 u11 u15 u16).toList (blk_row Q04.out) Try.underlying46 rfl (by kernel_rfl) ?_) | ((with_reducible refine gate_store (p := 2) rfl ?_); refine store_event rfl rfl rfl Q14.out rfl rfl rfl (by kernel_rfl) HONE.out ?_; intro w5 hz hs5 hfar5 hB5; have HZ := Lib.hid hz; have HS5 := Lib.hid hs5; have HF5 := Lib.hid hfar5; have HB5 := Lib.hid hB5; clear hz hs5 hfar5 hB5))
  clear d12 d13 d14 d15 d16 f12 f13 f14 f15 f16 o15 o16 r15 r16
  refine bodyPost_ret (results_cell_row rfl _ _ (w.heap.size + 1) 46 _ (0, 0) _ rfl HZ.out Try.underlying46 rfl (by kernel_rfl)) rfl ?_
  have hS2 := S2.out
  have hS3 := S3.out
  have hb4 := B4.out
  have mv4 : ∀ k, w.heap.size + 1 + 1 ≤ k → w5.heap[k]? = w4.heap[k]? := fun k hk => (HF5.out k (by omega)).trans (FAR4.out k (by omega))
  have mv3 : ∀ k, w.heap.size + 1 + 1 ≤ k → k < W3.heap.size → w5.heap[k]? = W3.heap[k]? := fun k hk hlt => (mv4 k hk).trans (hb4.block k hlt)
  have hT7 := (tV n).T_move (w1 := w5) (fun k hk => mv3 k (by have := FS.out k hk; omega) (FS.out k hk).2) TS.out
  have hT8 := (tV n).T_move (w1 := w5) (fun k hk => mv4 k (by have := BT.out k hk; omega)) TT.out
  have hR6 := Td.Row_move (w1 := w5) R63.out (fun k hk => mv3 k (R6B.out k hk).1 (by have := (R6B.out k hk).2; omega))
  refine ⟨_, _, rfl, tO_mk hR6 hT7 hT8, ?_, ?_, HB5.out w (by omega) CB4.out⟩
  · rw [List.nodup_append, List.nodup_append]
    refine ⟨by cases (Value.slice B6 x.f6.length e6).ownBlock <;> simp, ⟨NS.out, NT.out, fun a ha b hb hab => ?_⟩, fun a ha b hb hab => ?_⟩
    · have h1 := FS.out a ha
      have h2 := BT.out b hb
      omega
    · have h1 := R6B.out a ha
      rcases List.mem_append.1 hb with hb | hb
      · have h2 := FS.out b hb; omega
      · have h2 := BT.out b hb; omega
  · intro k hk
    rcases List.mem_append.1 hk with hk | hk
    · have := R6B.out k hk; omega
    · rcases List.mem_append.1 hk with hk | hk
      · have := FS.out k hk; omega
      · have := BT.out k hk; omega
end Go.Proofs.Ytmoiacijklkfaaa.G

/- GKObjTo -/
/-
  toObj: a law's object as one of the program's, in rows of its own.
-/
namespace Go.Proofs.Ytmoiacijklkfaaa.G
open Go.RowKit Go.Proofs.YtmoiacijklkfaaaW.PrintWords Go.Proofs.YtmoiacijklkfaaaW.PrintLast Go.Proofs.YtmoiacijklkfaaaW.PrintMore
attribute [local go_sem] max2_int min2_int max_two min_two max_three min_three max_four min_four
set_option linter.unusedVariables false
set_option linter.unusedSimpArgs false
abbrev LObj := S121
def cOb (n : Nat) (x : LObj) : IObj := ⟨x.f0, x.f1, x.f2, x.f3, x.f4, x.f5, x.f6, cVN n x.f7, cVN n x.f8⟩
def SmLO (n : Nat) (x : LObj) : Prop := (x.f6.length ≤ 1048576 ∧ ∀ y ∈ x.f6, y.size ≤ 1048576) ∧ SmL n x.f7 ∧ SmL n x.f8
/-- The part that is copied first. -/
def obH (x : LObj) : IObj := ⟨x.f0, x.f1, x.f2, x.f3, x.f4, x.f5, [], ⟨0, ⟨#[]⟩, 0, [], []⟩, ⟨0, ⟨#[]⟩, 0, [], []⟩⟩
/-- The cells of a law's object. -/
def lobC (x : LObj) (v6 v10 v11 v15 v16 : Value) : Array Value := #[.int .i64 x.f0, .string x.f1, .int .i64 x.f2, .int .i64 x.f3, .int .i64 x.f4, .bool x.f5, v6, .int .i64 x.f7.f0, .string x.f7.f1, .int .i64 x.f7.f2, v10, v11, .int .i64 x.f8.f0, .string x.f8.f1, .int .i64 x.f8.f2, v15, v16]
section
variable {w : World} {g : Nat} {x : LObj} {v6 v10 v11 v15 v16 : Value}
theorem lob_c7 (h : w.heap[g]? = some (.cells (lobC x v6 v10 v11 v15 v16) 121 (0, 0))) : w.cell? ⟨g, 7, none⟩ = some (.int .i64 x.f7.f0) ∧ w.cell? ⟨g, 8, none⟩ = some (.string x.f7.f1) ∧ w.cell? ⟨g, 9, none⟩ = some (.int .i64 x.f7.f2) ∧ w.cell? ⟨g, 10, none⟩ = some v10 ∧ w.cell? ⟨g, 11, none⟩ = some v11 := ⟨(blk_cell h 7).trans rfl, (blk_cell h 8).trans rfl, (blk_cell h 9).trans rfl, (blk_cell h 10).trans rfl, (blk_cell h 11).trans rfl⟩
theorem lob_c8 (h : w.heap[g]? = some (.cells (lobC x v6 v10 v11 v15 v16) 121 (0, 0))) : w.cell? ⟨g, 12, none⟩ = some (.int .i64 x.f8.f0) ∧ w.cell? ⟨g, 13, none⟩ = some (.string x.f8.f1) ∧ w.cell? ⟨g, 14, none⟩ = some (.int .i64 x.f8.f2) ∧ w.cell? ⟨g, 15, none⟩ = some v15 ∧ w.cell? ⟨g, 16, none⟩ = some v16 := ⟨(blk_cell h 12).trans rfl, (blk_cell h 13).trans rfl, (blk_cell h 14).trans rfl, (blk_cell h 15).trans rfl, (blk_cell h 16).trans rfl⟩
end
theorem alloc3g (w : World) (a b c : Obj) : (((w.alloc a).alloc b).alloc c).heap[w.heap.size]? = some a ∧ (((w.alloc a).alloc b).alloc c).heap[w.heap.size + 1]? = some b ∧ (((w.alloc a).alloc b).alloc c).heap[w.heap.size + 1 + 1]? = some c ∧ (((w.alloc a).alloc b).alloc c).heap.size = w.heap.size + 1 + 1 + 1 := by
  obtain ⟨h0, h1, hs⟩ := alloc2 w a b
  have h2 := heap_alloc_new ((w.alloc a).alloc b) c
  have hb := below_alloc (Below.refl ((w.alloc a).alloc b).heap.size ((w.alloc a).alloc b)) c
  rw [hs] at h2
  exact ⟨(hb.block _ (by omega)).trans h0, (hb.block _ (by omega)).trans h1, h2, by rw [World.size_alloc, hs]⟩
set_option maxHeartbeats 16000000 in
set_option maxRecDepth 100000 in
theorem toO_calls (m : Nat) (x : LObj) (cs : List Value) (w : World) (hk : k121.K w x cs) (hs : SmLO (m + 1) x) :
    Calls Try.prog 115 #[.agg cs.toArray] w fun e w' => ∃ (cs' : List Value) (fp : List Nat), e = .returned (.agg cs'.toArray) ∧ (tO (m + 2)).T w' (cOb (m + 1) x) cs' fp ∧ fp.Nodup ∧ (∀ k ∈ fp, w.heap.size ≤ k) ∧ Below w.heap.size w w' := by
  obtain ⟨A6, c6, A10, c10, A11, c11, A15, c15, A16, c16, rfl, l6, g6, l10, g10, l11, g11, l15, g15, l16, g16⟩ := k121_open hk
  obtain ⟨hx6, hx7, hx8⟩ := hs
  obtain ⟨K, hK⟩ := toStringS_ev x.f6 hx6.1
  have HK := Lib.hid (hK K (Nat.le_refl _))
  obtain ⟨W2, hW2⟩ : ∃ W2, (((w.alloc (.cells #[.int .i64 x.f0, .string x.f1, .int .i64 x.f2, .int .i64 x.f3, .int .i64 x.f4, .bool x.f5, .slice A6 x.f6.length c6, .int .i64 x.f7.f0, .string x.f7.f1, .int .i64 x.f7.f2, .slice A10 x.f7.f3.length c10, .slice A11 x.f7.f4.length c11, .int .i64 x.f8.f0, .string x.f8.f1, .int .i64 x.f8.f2, .slice A15 x.f8.f3.length c15, .slice A16 x.f8.f4.length c16] 121)).alloc (.cells #[.int .i64 0, .string ⟨#[]⟩, .int .i64 0, .int .i64 0, .int .i64 0, .bool false, .slice none 0 0, .int .i64 0, .string ⟨#[]⟩, .int .i64 0, .slice none 0 0, .slice none 0 0, .int .i64 0, .string ⟨#[]⟩, .int .i64 0, .slice none 0 0, .slice none 0 0] 46)).alloc (.cells #[.int .i64 x.f0, .string x.f1, .int .i64 x.f2, .int .i64 x.f3, .int .i64 x.f4, .bool x.f5, .slice none 0 0, .int .i64 0, .string ⟨#[]⟩, .int .i64 0, .slice none 0 0, .slice none 0 0, .int .i64 0, .string ⟨#[]⟩, .int .i64 0, .slice none 0 0, .slice none 0 0] 46)) = W2 := ⟨_, rfl⟩
  have cb2 := below_alloc (below_alloc (below_alloc (Below.refl w.heap.size w) (.cells #[.int .i64 x.f0, .string x.f1, .int .i64 x.f2, .int .i64 x.f3, .int .i64 x.f4, .bool x.f5, .slice A6 x.f6.length c6, .int .i64 x.f7.f0, .string x.f7.f1, .int .i64 x.f7.f2, .slice A10 x.f7.f3.length c10, .slice A11 x.f7.f4.length c11, .int .i64 x.f8.f0, .string x.f8.f1, .int .i64 x.f8.f2, .slice A15 x.f8.f3.length c15, .slice A16 x.f8.f4.length c16] 121)) (.cells #[.int .i64 0, .string ⟨#[]⟩, .int .i64 0, .int .i64 0, .int .i64 0, .bool false, .slice none 0 0, .int .i64 0, .string ⟨#[]⟩, .int .i64 0, .slice none 0 0, .slice none 0 0, .int .i64 0, .string ⟨#[]⟩, .int .i64 0, .slice none 0 0, .slice none 0 0] 46)) (.cells #[.int .i64 x.f0, .string x.f1, .int .i64 x.f2, .int .i64 x.f3, .int .i64 x.f4, .bool x.f5, .slice none 0 0, .int .i64 0, .string ⟨#[]⟩, .int .i64 0, .slice none 0 0, .slice none 0 0, .int .i64 0, .string ⟨#[]⟩, .int .i64 0, .slice none 0 0, .slice none 0 0] 46)
  obtain ⟨hb0, hb1, hb2, hsz⟩ := alloc3g w (.cells #[.int .i64 x.f0, .string x.f1, .int .i64 x.f2, .int .i64 x.f3, .int .i64 x.f4, .bool x.f5, .slice A6 x.f6.length c6, .int .i64 x.f7.f0, .string x.f7.f1, .int .i64 x.f7.f2, .slice A10 x.f7.f3.length c10, .slice A11 x.f7.f4.length c11, .int .i64 x.f8.f0, .string x.f8.f1, .int .i64 x.f8.f2, .slice A15 x.f8.f3.length c15, .slice A16 x.f8.f4.length c16] 121) (.cells #[.int .i64 0, .string ⟨#[]⟩, .int .i64 0, .int .i64 0, .int .i64 0, .bool false, .slice none 0 0, .int .i64 0, .string ⟨#[]⟩, .int .i64 0, .slice none 0 0, .slice none 0 0, .int .i64 0, .string ⟨#[]⟩, .int .i64 0, .slice none 0 0, .slice none 0 0] 46) (.cells #[.int .i64 x.f0, .string x.f1, .int .i64 x.f2, .int .i64 x.f3, .int .i64 x.f4, .bool x.f5, .slice none 0 0, .int .i64 0, .string ⟨#[]⟩, .int .i64 0, .slice none 0 0, .slice none 0 0, .int .i64 0, .string ⟨#[]⟩, .int .i64 0, .slice none 0 0, .slice none 0 0] 46)
  rw [hW2] at hb0 hb1 hb2 hsz cb2
  have HW2 := Lib.hid hW2
  have Q0 : Hid (W2.heap[w.heap.size]? = some (.cells (lobC x (.slice A6 x.f6.length c6) (.slice A10 x.f7.f3.length c10) (.slice A11 x.f7.f4.length c11) (.slice A15 x.f8.f3.length c15) (.slice A16 x.f8.f4.length c16)) 121 (0, 0))) := Lib.hid hb0
  have Q1 : Hid (W2.heap[w.heap.size + 1]? = some (.cells obZ 46 (0, 0))) := Lib.hid hb1
  have Q2 : Hid (W2.heap[w.heap.size + 1 + 1]? = some (.cells (obC (obH x) (.slice none 0 0) (.slice none 0 0) (.slice none 0 0) (.slice none 0 0) (.slice none 0 0)) 46 (0, 0))) := Lib.hid hb2
  have CB2 := Lib.hid cb2
  have S2 : Hid (w.heap.size + 1 + 1 + 1 ≤ W2.heap.size) := Lib.hid (by omega)
  have G6 := Lib.hid (Kd.C_below g6 cb2)
  have G10 := Lib.hid g10
  have G11 := Lib.hid g11
  have G15 := Lib.hid g15
  have G16 := Lib.hid g16
  have H7 := Lib.hid hx7
  have H8 := Lib.hid hx8
  clear hk hK hx6 hx7 hx8 g6 g10 g11 g15 g16 hb0 hb1 hb2 hsz hW2 cb2
  go_enter Try.func115, Try.ntmps115
  go_wp2_with fail
  rw [HW2.out]
  clear HW2
  refine (laws_toStringS.calls K A6 c6 x.f6 x.f6 W2 G6.out l6 HK.out).mono ?_
  rintro e w3 ⟨v6, rfl, hr6, hc3⟩
  have hr6' := Td.Row_of_R hr6
  have hr6b := Kd.R_base hr6
  obtain ⟨B6, e6, rfl⟩ := Kd.R_slice hr6
  have z0 := (hc3.block _ (blk_lt Q0.out)).trans Q0.out
  have z1 := (hc3.block _ (blk_lt Q1.out)).trans Q1.out
  have z2 := (hc3.block _ (blk_lt Q2.out)).trans Q2.out
  have d6 := ob_c6 z2
  have f6 := blk_frozen z2 6
  obtain ⟨d7, d8, d9, d10, d11⟩ := lob_c7 z0
  obtain ⟨W3, hW3⟩ : ∃ W3, w3.setCell ⟨w.heap.size + 1 + 1, 6, none⟩ (.slice B6 x.f6.length e6) = W3 := ⟨_, rfl⟩
  have q2 := ob_set6 z2 (.slice B6 x.f6.length e6)
  have hle : w.heap.size ≤ w.heap.size + 1 + 1 := by omega
  have cb3 := below_set (j := 6) (v := .slice B6 x.f6.length e6) (below_step CB2.out hc3) hle
  have far3 : ∀ k, k ≠ w.heap.size + 1 + 1 → (w3.setCell ⟨w.heap.size + 1 + 1, 6, none⟩ (.slice B6 x.f6.length e6)).heap[k]? = w3.heap[k]? := fun k hk => Below.heap_setCell _ _ _ _ hk
  have hss : (w3.setCell ⟨w.heap.size + 1 + 1, 6, none⟩ (.slice B6 x.f6.length e6)).heap.size = w3.heap.size := by simp [World.setCell]
  rw [hW3] at q2 cb3 far3 hss
  have hs2 := S2.out
  have hrw : Td.string.Row 9 W3 (.slice B6 x.f6.length e6) x.f6 (Value.slice B6 x.f6.length e6).ownBlock.toList := Td.Row_move hr6' (fun k hk => far3 k (by have := hr6b k (by simpa using hk); omega))
  have R6B : Hid (∀ k ∈ (Value.slice B6 x.f6.length e6).ownBlock.toList, w.heap.size + 1 + 1 + 1 ≤ k ∧ k < W3.heap.size) := Lib.hid (fun k hk => by
    have h1 := hr6b k (by simpa using hk)
    have h2 := Td.Row_lt hrw k hk
    omega)
  have S3 : Hid (w.heap.size + 1 + 1 + 1 ≤ W3.heap.size) := Lib.hid (by have := hc3.size; omega)
  have HW3 := Lib.hid hW3
  have P0 := Lib.hid ((far3 w.heap.size (by omega)).trans z0)
  have P1 := Lib.hid ((far3 (w.heap.size + 1) (by omega)).trans z1)
  have P2 := Lib.hid q2
  have CB3 := Lib.hid cb3
  have R6 := Lib.hid hrw
  clear hr6 hr6' hr6b hc3 z0 z1 z2 Q0 Q1 Q2 G6 hW3 q2 cb3 hrw far3 hss hs2 CB2 S2 HK hle
  go_wp2_with fail
  rw [HW3.out]
  clear d6 d7 d8 d9 d10 d11 f6 HW3
  refine (toV_all (m + 1) x.f7 A10 c10 A11 c11 W3 (Kd.C_below G10.out CB3.out) l10 (Kd.C_below G11.out CB3.out) l11 H7.out).mono ?_
  rintro e w4 ⟨u10, u11, fS, rfl, hTS, hnS, hbS, hb4⟩
  have z0 := (hb4.block _ (blk_lt P0.out)).trans P0.out
  have z1 := (hb4.block _ (blk_lt P1.out)).trans P1.out
  have z2 := (hb4.block _ (blk_lt P2.out)).trans P2.out
  obtain ⟨d7, d8, d9, d10, d11⟩ := ob_c7 z2
  obtain ⟨d12, d13, d14, d15, d16⟩ := lob_c8 z0
  have f7 := blk_frozen z2 7
  have f8 := blk_frozen z2 8
  have f9 := blk_frozen z2 9
  have f10 := blk_frozen z2 10
  have f11 := blk_frozen z2 11
  obtain ⟨o10, o11⟩ := tV_ones hTS
  have r10 := fun (a_ : Addr) (W_ : World) (q_ : Mode) => run_store Try.prog W_ a_ u10 q_ o10
  have r11 := fun (a_ : Addr) (W_ : World) (q_ : Mode) => run_store Try.prog W_ a_ u11 q_ o11
  obtain ⟨W4, hW4⟩ : ∃ W4, ((((w4.setCell ⟨w.heap.size + 1 + 1, 7, none⟩ (.int .i64 x.f7.f0)).setCell ⟨w.heap.size + 1 + 1, 8, none⟩ (.string x.f7.f1)).setCell ⟨w.heap.size + 1 + 1, 9, none⟩ (.int .i64 x.f7.f2)).setCell ⟨w.heap.size + 1 + 1, 10, none⟩ u10).setCell ⟨w.heap.size + 1 + 1, 11, none⟩ u11 = W4 := ⟨_, rfl⟩
  have q2 := ob_set7 z2 (cVN (m + 1) x.f7) u10 u11
  have far4 : ∀ k, k ≠ w.heap.size + 1 + 1 → (((((w4.setCell ⟨w.heap.size + 1 + 1, 7, none⟩ (.int .i64 x.f7.f0)).setCell ⟨w.heap.size + 1 + 1, 8, none⟩ (.string x.f7.f1)).setCell ⟨w.heap.size + 1 + 1, 9, none⟩ (.int .i64 x.f7.f2)).setCell ⟨w.heap.size + 1 + 1, 10, none⟩ u10).setCell ⟨w.heap.size + 1 + 1, 11, none⟩ u11).heap[k]? = w4.heap[k]? := fun k hk => heap5g _ _ _ _ _ _ _ _ _ _ _ _ k hk
  have hss : (((((w4.setCell ⟨w.heap.size + 1 + 1, 7, none⟩ (.int .i64 x.f7.f0)).setCell ⟨w.heap.size + 1 + 1, 8, none⟩ (.string x.f7.f1)).setCell ⟨w.heap.size + 1 + 1, 9, none⟩ (.int .i64 x.f7.f2)).setCell ⟨w.heap.size + 1 + 1, 10, none⟩ u10).setCell ⟨w.heap.size + 1 + 1, 11, none⟩ u11).heap.size = w4.heap.size := by simp [World.setCell]
  have hle : w.heap.size ≤ w.heap.size + 1 + 1 := by omega
  have cb4 := below_set (j := 11) (v := u11) (below_set (j := 10) (v := u10) (below_set (j := 9) (v := .int .i64 x.f7.f2) (below_set (j := 8) (v := .string x.f7.f1) (below_set (j := 7) (v := .int .i64 x.f7.f0) (below_step CB3.out hb4) hle) hle) hle) hle) hle
  have q2' : (((((w4.setCell ⟨w.heap.size + 1 + 1, 7, none⟩ (.int .i64 x.f7.f0)).setCell ⟨w.heap.size + 1 + 1, 8, none⟩ (.string x.f7.f1)).setCell ⟨w.heap.size + 1 + 1, 9, none⟩ (.int .i64 x.f7.f2)).setCell ⟨w.heap.size + 1 + 1, 10, none⟩ u10).setCell ⟨w.heap.size + 1 + 1, 11, none⟩ u11).heap[w.heap.size + 1 + 1]? = some (.cells (obC { obH x with f7 := cVN (m + 1) x.f7 } (.slice B6 x.f6.length e6) u10 u11 (.slice none 0 0) (.slice none 0 0)) 46 (0, 0)) := q2
  rw [hW4] at q2' far4 hss cb4
  have hsS := (tV (m + 2)).T_lt hTS
  have TS := Lib.hid ((tV (m + 2)).T_move (w1 := W4) (fun k hk => far4 k (by have := hbS k hk; have := S3.out; omega)) hTS)
  have R64 := Lib.hid (Td.Row_move (w1 := W4) R6.out (fun k hk => by have := R6B.out k hk; rw [far4 k (by omega)]; exact hb4.block k this.2))
  have NS := Lib.hid hnS
  have FS : Hid (∀ k ∈ fS, W3.heap.size ≤ k ∧ k < W4.heap.size) := Lib.hid (fun k hk => by have h1 := hbS k hk; have h2 := hsS k hk; omega)
  have S4 : Hid (W3.heap.size ≤ W4.heap.size) := Lib.hid (by have := hb4.size; omega)
  have HW4 := Lib.hid hW4
  have O1 := Lib.hid ((far4 (w.heap.size + 1) (by omega)).trans z1)
  have O2 := Lib.hid q2'
  have CB4 := Lib.hid cb4
  have O10 := Lib.hid o10
  have O11 := Lib.hid o11
  clear hTS hnS hbS hb4 z0 z1 z2 P0 P1 P2 R6 hW4 q2 q2' far4 hss cb4 hsS CB3 hle
  go_wp2_with fail
  rw [HW4.out]
  clear d7 d8 d9 d10 d11 d12 d13 d14 d15 d16 f7 f8 f9 f10 f11 HW4 o10 o11 r10 r11
  refine (toV_all (m + 1) x.f8 A15 c15 A16 c16 W4 (Kd.C_below G15.out CB4.out) l15 (Kd.C_below G16.out CB4.out) l16 H8.out).mono ?_
  rintro e w5 ⟨u15, u16, fT, rfl, hTT, hnT, hbT, hb5⟩
  have z1 := (hb5.block _ (blk_lt O1.out)).trans O1.out
  have z2 := (hb5.block _ (blk_lt O2.out)).trans O2.out
  obtain ⟨d12, d13, d14, d15, d16⟩ := ob_c8 z2
  have f12 := blk_frozen z2 12
  have f13 := blk_frozen z2 13
  have f14 := blk_frozen z2 14
  have f15 := blk_frozen z2 15
  have f16 := blk_frozen z2 16
  obtain ⟨o15, o16⟩ := tV_ones hTT
  have r15 := fun (a_ : Addr) (W_ : World) (q_ : Mode) => run_store Try.prog W_ a_ u15 q_ o15
  have r16 := fun (a_ : Addr) (W_ : World) (q_ : Mode) => run_store Try.prog W_ a_ u16 q_ o16
  obtain ⟨W5, hW5⟩ : ∃ W5, ((((w5.setCell ⟨w.heap.size + 1 + 1, 12, none⟩ (.int .i64 x.f8.f0)).setCell ⟨w.heap.size + 1 + 1, 13, none⟩ (.string x.f8.f1)).setCell ⟨w.heap.size + 1 + 1, 14, none⟩ (.int .i64 x.f8.f2)).setCell ⟨w.heap.size + 1 + 1, 15, none⟩ u15).setCell ⟨w.heap.size + 1 + 1, 16, none⟩ u16 = W5 := ⟨_, rfl⟩
  have q2 : (((((w5.setCell ⟨w.heap.size + 1 + 1, 12, none⟩ (.int .i64 x.f8.f0)).setCell ⟨w.heap.size + 1 + 1, 13, none⟩ (.string x.f8.f1)).setCell ⟨w.heap.size + 1 + 1, 14, none⟩ (.int .i64 x.f8.f2)).setCell ⟨w.heap.size + 1 + 1, 15, none⟩ u15).setCell ⟨w.heap.size + 1 + 1, 16, none⟩ u16).heap[w.heap.size + 1 + 1]? = some (.cells (obC (cOb (m + 1) x) (.slice B6 x.f6.length e6) u10 u11 u15 u16) 46 (0, 0)) := ob_set8 z2 (cVN (m + 1) x.f8) u15 u16
  have far5 : ∀ k, k ≠ w.heap.size + 1 + 1 → (((((w5.setCell ⟨w.heap.size + 1 + 1, 12, none⟩ (.int .i64 x.f8.f0)).setCell ⟨w.heap.size + 1 + 1, 13, none⟩ (.string x.f8.f1)).setCell ⟨w.heap.size + 1 + 1, 14, none⟩ (.int .i64 x.f8.f2)).setCell ⟨w.heap.size + 1 + 1, 15, none⟩ u15).setCell ⟨w.heap.size + 1 + 1, 16, none⟩ u16).heap[k]? = w5.heap[k]? := fun k hk => heap5g _ _ _ _ _ _ _ _ _ _ _ _ k hk
  have hle : w.heap.size ≤ w.heap.size + 1 + 1 := by omega
  have cb5 := below_set (j := 16) (v := u16) (below_set (j := 15) (v := u15) (below_set (j := 14) (v := .int .i64 x.f8.f2) (below_set (j := 13) (v := .string x.f8.f1) (below_set (j := 12) (v := .int .i64 x.f8.f0) (below_step CB4.out hb5) hle) hle) hle) hle) hle
  rw [hW5] at q2 far5 cb5
  have N1 := Lib.hid ((far5 (w.heap.size + 1) (by omega)).trans z1)
  have N2 := Lib.hid q2
  have HW5 := Lib.hid hW5
  have CB5 := Lib.hid cb5
  have FAR5 := Lib.hid far5
  have TT := Lib.hid hTT
  have NT := Lib.hid hnT
  have BT := Lib.hid hbT
  have B5 := Lib.hid hb5
  have HONE := Lib.hid (ob_one (x := cOb (m + 1) x) (v6 := .slice B6 x.f6.length e6) rfl O10.out O11.out o15 o16)
  clear hTT hnT hbT hb5 z1 z2 O1 O2 hW5 q2 far5 cb5 hle
  go_wp2_with (first | ((with_reducible refine gate_dst (N := 34) rfl ?_); rw [HW5.out]; refine load_event rfl (N := 34) rfl 46 (.tmp 3) rfl ⟨w.heap.size + 1 + 1, 0, none⟩ rfl (obC (cOb (m + 1) x) (.slice B6 x.f6.length e6) u10 u11 u15 u16).toList (blk_row N2.out) Try.underlying46 rfl (by kernel_rfl) ?_) | ((with_reducible refine gate_store (p := 2) rfl ?_); refine store_event rfl rfl rfl N1.out rfl rfl rfl (by kernel_rfl) HONE.out ?_; intro w6 hz hs6 hfar6 hB6; have HZ := Lib.hid hz; have HF6 := Lib.hid hfar6; have HB6 := Lib.hid hB6; clear hz hs6 hfar6 hB6))
  clear d12 d13 d14 d15 d16 f12 f13 f14 f15 f16 o15 o16 r15 r16
  refine bodyPost_ret (results_cell_row rfl _ _ (w.heap.size + 1) 46 _ (0, 0) _ rfl HZ.out Try.underlying46 rfl (by kernel_rfl)) rfl ?_
  have hS3 := S3.out
  have hS4 := S4.out
  have hb5 := B5.out
  have mv5 : ∀ k, w.heap.size + 1 + 1 + 1 ≤ k → w6.heap[k]? = w5.heap[k]? := fun k hk => (HF6.out k (by omega)).trans (FAR5.out k (by omega))
  have mv4 : ∀ k, w.heap.size + 1 + 1 + 1 ≤ k → k < W4.heap.size → w6.heap[k]? = W4.heap[k]? := fun k hk hlt => (mv5 k hk).trans (hb5.block k hlt)
  have hT7 := (tV (m + 2)).T_move (w1 := w6) (fun k hk => mv4 k (by have := FS.out k hk; omega) (FS.out k hk).2) TS.out
  have hT8 := (tV (m + 2)).T_move (w1 := w6) (fun k hk => mv5 k (by have := BT.out k hk; omega)) TT.out
  have hR6 := Td.Row_move (w1 := w6) R64.out (fun k hk => mv4 k (R6B.out k hk).1 (by have := (R6B.out k hk).2; omega))
  refine ⟨_, _, rfl, tO_mk (x := cOb (m + 1) x) hR6 hT7 hT8, ?_, ?_, HB6.out w (by omega) CB5.out⟩
  · rw [List.nodup_append, List.nodup_append]
    refine ⟨by cases (Value.slice B6 x.f6.length e6).ownBlock <;> simp, ⟨NS.out, NT.out, fun a ha b hb hab => ?_⟩, fun a ha b hb hab => ?_⟩
    · have h1 := FS.out a ha
      have h2 := BT.out b hb
      omega
    · have h1 := R6B.out a ha
      rcases List.mem_append.1 hb with hb | hb
      · have h2 := FS.out b hb; omega
      · have h2 := BT.out b hb; omega
  · intro k hk
    rcases List.mem_append.1 hk with hk | hk
    · have := R6B.out k hk; omega
    · rcases List.mem_append.1 hk with hk | hk
      · have := FS.out k hk; omega
      · have := BT.out k hk; omega
end Go.Proofs.Ytmoiacijklkfaaa.G

/- GKObjToS -/
/-
  toObjS: a law's objects as the program's, in rows of their own.
-/
namespace Go.Proofs.Ytmoiacijklkfaaa.G
open Go.RowKit Go.Proofs.YtmoiacijklkfaaaW.PrintWords Go.Proofs.YtmoiacijklkfaaaW.PrintLast Go.Proofs.YtmoiacijklkfaaaW.PrintMore
attribute [local go_sem] max2_int min2_int max_two min_two max_three min_three max_four min_four
set_option linter.unusedVariables false
set_option linter.unusedSimpArgs false
def zO : IObj := ⟨0, ⟨#[]⟩, 0, 0, 0, false, [], ⟨0, ⟨#[]⟩, 0, [], []⟩, ⟨0, ⟨#[]⟩, 0, [], []⟩⟩
theorem zO_T (n : Nat) (w : World) : (tO (n + 1)).T w zO obZ.toList [] :=
  tO_mk (x := zO) (Td.Row_nil _ _ _) (tV_mk (x := zO.f7) (Td.Row_nil _ _ _) (Td.Row_nil _ _ _)) (tV_mk (x := zO.f8) (Td.Row_nil _ _ _) (Td.Row_nil _ _ _))
set_option maxHeartbeats 16000000 in
set_option maxRecDepth 100000 in
theorem toObjS_calls (m : Nat) (xs : List LObj) (A : Option Addr) (c : Nat) (w : World) (hC : Kd.C k121 w A xs.length xs) (hc : xs.length ≤ c) (hl : xs.length ≤ 1048576) (hs : ∀ x ∈ xs, SmLO (m + 1) x) :
    Calls Try.prog 60 #[.slice A xs.length c] w fun e w' => ∃ (v : Value) (fp : List Nat), e = .returned v ∧ (tO (m + 2)).Row 46 w' v (xs.map (cOb (m + 1))) fp ∧ fp.Nodup ∧ (∀ k ∈ fp, w.heap.size ≤ k) ∧ Below w.heap.size w w' := by
  have HC := Lib.hid hC
  have HSM := Lib.hid hs
  clear hC hs
  go_enter Try.func60, Try.ntmps60
  go_wp2_with ((with_reducible refine gate_dst (N := 7) rfl ?_); refine Td.Row_make (tO (m + 2)) (w0 := w) 46 rfl (N := 7) rfl 27 _ _ rfl (xs.length : Int) rfl rfl Try.underlying27 (.agg #[.int .i64 0, .string ⟨#[]⟩, .int .i64 0, .int .i64 0, .int .i64 0, .bool false, .slice none 0 0, .int .i64 0, .string ⟨#[]⟩, .int .i64 0, .slice none 0 0, .slice none 0 0, .int .i64 0, .string ⟨#[]⟩, .int .i64 0, .slice none 0 0, .slice none 0 0]) _ (by rw [tO_sz]; exact info46) (by rw [tO_sz]; rfl) (by rw [tO_sz]; decide) (by decide) zO (zO_T (m + 1) _) (by omega) (by omega) (Below.refl _ _) ?_; intro v7 w4 fp hrow hn hf hb hg_; clear hg_; have HRW := Lib.hid hrow; have HN := Lib.hid hn; have HF := Lib.hid hf; have HB := Lib.hid hb; clear hrow hn hf hb)
  go_loopw [4] (fun vi wr => ∃ (i : Nat) (fq : List Nat), i ≤ xs.length ∧ vi = .int .i64 i ∧ Hid ((tO (m + 2)).Row 46 wr v7 ((xs.take i).map (cOb (m + 1)) ++ List.replicate (xs.length - i) zO) fq) ∧ Hid fq.Nodup ∧ Hid (∀ k ∈ fq, w.heap.size ≤ k) ∧ Hid (Below w.heap.size w wr)) (fun vi _ => xs.length - (intOf vi).toNat)
  case atStart =>
    refine ⟨0, fp, by omega, rfl, ?_, HN, HF, HB⟩
    have h_ := HRW.out
    rw [Int.toNat_natCast] at h_
    rw [List.take_zero, List.map_nil, List.nil_append, Nat.sub_zero]
    exact h_
  case round =>
    clear HRW HN HF HB
    obtain ⟨i, fq, hi, rfl, HR, HN, HF, HB⟩ := hrel
    by_cases hil : i < xs.length
    · obtain ⟨ad, cs, rfl, hcs, hK, hcell⟩ := row_at HC.out i hil
      have hsz : (k121 : Kd LObj).sz = 17 := rfl
      rw [hsz] at hcs hcell
      have HK := Lib.hid hK
      have HCL := Lib.hid (hcell wr HB.out)
      have HCS := Lib.hid hcs
      have hP : ((xs.take i).map (cOb (m + 1))).length = i := by rw [List.length_map, List.length_take]; omega
      have hrep : List.replicate (xs.length - i) zO = zO :: List.replicate (xs.length - (i + 1)) zO := by
        rw [show xs.length - i = (xs.length - (i + 1)) + 1 by omega, List.replicate_succ]
      have HRL := HR.out
      rw [hrep] at HRL
      have hlen : ((xs.take i).map (cOb (m + 1)) ++ zO :: List.replicate (xs.length - (i + 1)) zO).length = xs.length := by
        rw [List.length_append, List.length_cons, List.length_replicate, hP]; omega
      have HR1 := Lib.hid HRL
      have HPL := Lib.hid hP
      have HLN := Lib.hid hlen
      have hfl : Hid (∀ k ∈ fq, k < wr.heap.size) := Lib.hid (Td.Row_lt HRL)
      clear hcs hK hcell hsz HR HRL hP hrep hlen
      go_wp2_with ((with_reducible refine gate_dst (N := 19) rfl ?_); refine load_event rfl (N := 19) rfl 121 (.tmp 18) rfl (ad.add (i * 17)) ?hx cs HCL.out Try.underlying121 rfl ?hi ?_; (case hx => first | rfl | (go_simp; done) | (go_simp; rfl)); (case hi => rw [HCS.out]; kernel_rfl))
      (with_reducible refine (toO_calls m xs[i] cs wr ((k121 : Kd LObj).K_below HB.out HK.out) (HSM.out _ (List.getElem_mem hil))).mono ?_)
      rintro e w2 ⟨cs', fv, rfl, hT, hvn, hvb, hb2⟩
      obtain ⟨g, cap, co, fq', hv, hcl, hcc, hfz, hg, hglt, hrow', hn', hin'⟩ := Td.Row_put (Td.Row_below HR1.out hb2) HN.out (i := i) (by rw [HLN.out]; exact hil) hT hvn (fun k hk hm => by have h1 := hvb k hk; have h2 := hfl.out k hm; omega)
      have hgw := HF.out g hg
      rw [HLN.out] at hv
      subst hv
      have hT17 := (tO (m + 2)).T_len hT
      have hT1 := (tO (m + 2)).T_one hT
      rw [tO_sz] at hcl hcc hrow' hT17
      rw [set_at _ _ _ _ HPL.out] at hrow'
      have HT17 := Lib.hid hT17
      have HT1 := Lib.hid hT1
      have HTH : Hid (∀ j, j < 17 → (w2.cell? ⟨g, i * 17 + j, none⟩).isSome = true ∧ w2.frozen? ⟨g, i * 17 + j, none⟩ = false) := Lib.hid (fun j hj => ⟨by rw [hcc j _ (List.getElem?_eq_getElem (by omega))]; rfl, hfz _⟩)
      have HRN := Lib.hid hrow'
      have HNN := Lib.hid hn'
      have HFN : Hid (∀ k ∈ fq', w.heap.size ≤ k) := Lib.hid (fun k hk => by
        rcases hin' k hk with h | h
        · exact HF.out k h
        · exact Nat.le_trans HB.out.size (hvb k h))
      have HBN := Lib.hid (below_cells (below_step HB.out hb2) hgw (i * 17) cs')
      clear hrow' hn' hin' hcc hfz hcl hT hvn hvb hb2 HR1 HK HCL hT17 hT1
      go_wp2_with ((with_reducible refine gate_store (p := 21) rfl ?_); refine store_mid rfl rfl rfl (g := g) (o := i * 17) ?hp rfl ?ht ?hi ?h1 ?_; (case hp => first | rfl | (go_simp; done) | (go_simp; rfl)); (case ht => simpa [HT17.out] using HTH.out); (case hi => simp only [List.size_toArray, HT17.out]; kernel_rfl); (case h1 => simpa using HT1.out))
      go_roundw
      case rel =>
        refine ⟨i + 1, fq', by omega, by go_num, ?_, HNN, HFN, by simpa using HBN⟩
        have h_ := HRN.out
        unfold Hid
        rw [List.take_succ_eq_append_getElem hil, List.map_append, List.append_assoc, List.map_cons, List.map_nil, List.singleton_append]
        simpa using h_
      case measure => simp [intOf]; omega
    · obtain rfl : i = xs.length := by omega
      go_wp2
      go_ret
      have h_ := HR.out
      rw [List.take_length, Nat.sub_self, List.replicate_zero, List.append_nil] at h_
      exact ⟨_, _, rfl, h_, HN.out, HF.out, HB.out⟩
end Go.Proofs.Ytmoiacijklkfaaa.G

/- GKChgTo -/
/-
  toChange: a law's change as one of the program's, in rows of its own.
-/
namespace Go.Proofs.Ytmoiacijklkfaaa.G
open Go.RowKit Go.Proofs.YtmoiacijklkfaaaW.PrintWords Go.Proofs.YtmoiacijklkfaaaW.PrintLast Go.Proofs.YtmoiacijklkfaaaW.PrintMore
attribute [local go_sem] max2_int min2_int max_two min_two max_three min_three max_four min_four
set_option linter.unusedVariables false
set_option linter.unusedSimpArgs false
abbrev LChg := S124
abbrev IChg := S90
def tC (n : Nat) : Td IChg := Td.iso (Td.pair (Td.int .i64) (Td.pair Td.bool (tO n))) (fun x => (x.f0, x.f1, x.f2))
theorem tC_sz {n : Nat} : (tC n).sz = 19 := by
  show 1 + (1 + (tO n).sz) = 19
  rw [tO_sz]
theorem tC_mk {n : Nat} {w : World} {x : IChg} {cs : List Value} {fp : List Nat} (h : (tO n).T w x.f2 cs fp) : (tC n).T w x (.int .i64 x.f0 :: .bool x.f1 :: cs) fp := ⟨[_], _, [], fp, rfl, rfl, ⟨rfl, rfl⟩, [_], cs, [], fp, rfl, rfl, ⟨rfl, rfl⟩, h⟩
theorem tC_open {n : Nat} {w : World} {x : IChg} {cs : List Value} {fp : List Nat} (h : (tC n).T w x cs fp) : ∃ c2, cs = .int .i64 x.f0 :: .bool x.f1 :: c2 ∧ (tO n).T w x.f2 c2 fp := by
  obtain ⟨_, _, _, q0, e0, p0, ⟨rfl, rfl⟩, _, _, _, q1, e1, p1, ⟨rfl, rfl⟩, h2⟩ := h
  exact ⟨_, by rw [e0, e1]; rfl, by rw [p0, p1]; exact h2⟩
theorem tC_K {n : Nat} {w : World} {x : IChg} {cs : List Value} {fp : List Nat} (h : (tC n).T w x cs fp) : k90.K w x cs := by
  obtain ⟨c2, rfl, h2⟩ := tC_open h
  exact ⟨[_], _, rfl, rfl, [_], _, rfl, rfl, tO_K h2⟩
theorem tC_C {n e : Nat} {w : World} {v : Value} {xs : List IChg} {fp : List Nat} (h : (tC n).Row e w v xs fp) : ∃ A c, v = .slice A xs.length c ∧ xs.length ≤ c ∧ Kd.C k90 w A xs.length xs :=
  Td.Row_C (d := k90) tC_sz.symm (fun _ _ _ h => tC_K h) h
def cCh (n : Nat) (x : LChg) : IChg := ⟨x.f0, x.f1, cOb n x.f2⟩
theorem blk_from {w : World} {g t o : Nat} {C cs : List Value} (h : w.heap[g]? = some (.cells C.toArray t (0, 0))) (hd : C.drop o = cs) : ∀ j v, cs[j]? = some v → w.cell? ((⟨g, o, none⟩ : Addr).add j) = some v := fun j v hv => by
  rw [Addr.add_mid, blk_cell h, ← hv, ← hd, List.getElem?_drop, List.getElem?_toArray]
set_option maxHeartbeats 16000000 in
set_option maxRecDepth 100000 in
theorem toC_calls (m : Nat) (x : LChg) (cs : List Value) (w : World) (hk : k124.K w x cs) (hs : SmLO (m + 1) x.f2) :
    Calls Try.prog 116 #[.agg cs.toArray] w fun e w' => ∃ (cs' : List Value) (fp : List Nat), e = .returned (.agg cs'.toArray) ∧ (tC (m + 2)).T w' (cCh (m + 1) x) cs' fp ∧ fp.Nodup ∧ (∀ k ∈ fp, w.heap.size ≤ k) ∧ Below w.heap.size w w' := by
  obtain ⟨_, _, rfl, rfl, _, c2, rfl, rfl, hk2⟩ := hk
  obtain ⟨W2, hW2⟩ : ∃ W2, (((w.alloc (.cells (Value.int .i64 x.f0 :: Value.bool x.f1 :: c2).toArray 124)).alloc (.cells #[.int .i64 0, .bool false, .int .i64 0, .string ⟨#[]⟩, .int .i64 0, .int .i64 0, .int .i64 0, .bool false, .slice none 0 0, .int .i64 0, .string ⟨#[]⟩, .int .i64 0, .slice none 0 0, .slice none 0 0, .int .i64 0, .string ⟨#[]⟩, .int .i64 0, .slice none 0 0, .slice none 0 0] 90)).alloc (.cells #[.int .i64 x.f0, .bool x.f1, .int .i64 0, .string ⟨#[]⟩, .int .i64 0, .int .i64 0, .int .i64 0, .bool false, .slice none 0 0, .int .i64 0, .string ⟨#[]⟩, .int .i64 0, .slice none 0 0, .slice none 0 0, .int .i64 0, .string ⟨#[]⟩, .int .i64 0, .slice none 0 0, .slice none 0 0] 90)) = W2 := ⟨_, rfl⟩
  have cb2 := below_alloc (below_alloc (below_alloc (Below.refl w.heap.size w) (.cells (Value.int .i64 x.f0 :: Value.bool x.f1 :: c2).toArray 124)) (.cells #[.int .i64 0, .bool false, .int .i64 0, .string ⟨#[]⟩, .int .i64 0, .int .i64 0, .int .i64 0, .bool false, .slice none 0 0, .int .i64 0, .string ⟨#[]⟩, .int .i64 0, .slice none 0 0, .slice none 0 0, .int .i64 0, .string ⟨#[]⟩, .int .i64 0, .slice none 0 0, .slice none 0 0] 90)) (.cells #[.int .i64 x.f0, .bool x.f1, .int .i64 0, .string ⟨#[]⟩, .int .i64 0, .int .i64 0, .int .i64 0, .bool false, .slice none 0 0, .int .i64 0, .string ⟨#[]⟩, .int .i64 0, .slice none 0 0, .slice none 0 0, .int .i64 0, .string ⟨#[]⟩, .int .i64 0, .slice none 0 0, .slice none 0 0] 90)
  obtain ⟨hb0, hb1, hb2, hsz⟩ := alloc3g w (.cells (Value.int .i64 x.f0 :: Value.bool x.f1 :: c2).toArray 124) (.cells #[.int .i64 0, .bool false, .int .i64 0, .string ⟨#[]⟩, .int .i64 0, .int .i64 0, .int .i64 0, .bool false, .slice none 0 0, .int .i64 0, .string ⟨#[]⟩, .int .i64 0, .slice none 0 0, .slice none 0 0, .int .i64 0, .string ⟨#[]⟩, .int .i64 0, .slice none 0 0, .slice none 0 0] 90) (.cells #[.int .i64 x.f0, .bool x.f1, .int .i64 0, .string ⟨#[]⟩, .int .i64 0, .int .i64 0, .int .i64 0, .bool false, .slice none 0 0, .int .i64 0, .string ⟨#[]⟩, .int .i64 0, .slice none 0 0, .slice none 0 0, .int .i64 0, .string ⟨#[]⟩, .int .i64 0, .slice none 0 0, .slice none 0 0] 90)
  rw [hW2] at hb0 hb1 hb2 hsz cb2
  have hl2 := (k121 : Kd LObj).K_len hk2
  have hl2 : c2.length = 17 := hl2
  have HW2 := Lib.hid hW2
  have Q0 := Lib.hid hb0
  have Q1 := Lib.hid hb1
  have Q2 := Lib.hid hb2
  have CB2 := Lib.hid cb2
  have S2 : Hid (w.heap.size + 1 + 1 + 1 ≤ W2.heap.size) := Lib.hid (by omega)
  have HL2 := Lib.hid hl2
  have HK2 := Lib.hid hk2
  have HS := Lib.hid hs
  clear hk2 hs hb0 hb1 hb2 hsz hW2 cb2 hl2
  go_enter Try.func116, Try.ntmps116
  go_wp2_with ((with_reducible refine gate_dst (N := 11) rfl ?_); rw [HW2.out]; refine load_event rfl (N := 11) rfl 121 (.tmp 10) rfl ⟨w.heap.size, 2, none⟩ rfl c2 (blk_from Q0.out rfl) Try.underlying121 rfl ?hi ?_; (case hi => rw [HL2.out]; kernel_rfl))
  refine (toO_calls m x.f2 c2 W2 ((k121 : Kd LObj).K_below CB2.out HK2.out) HS.out).mono ?_
  rintro e w3 ⟨c3, fp, rfl, hT, hn, hb, hb3⟩
  have z1 := (hb3.block _ (blk_lt Q1.out)).trans Q1.out
  have z2 := (hb3.block _ (blk_lt Q2.out)).trans Q2.out
  have hl3 := (tO (m + 2)).T_len hT
  rw [tO_sz] at hl3
  have hone := (tO (m + 2)).T_one hT
  have hle : w.heap.size ≤ w.heap.size + 1 + 1 := by omega
  obtain ⟨cur, h2, h2s, h2l⟩ := setCells_row c3 2 w3 _ z2 (by rw [hl3]; simp)
  have hcur : cur = (Value.int .i64 x.f0 :: Value.bool x.f1 :: c3).toArray := by
    apply Array.toList_inj.1
    rw [h2l]
    simp [hl3]
  rw [hcur] at h2
  have HT := Lib.hid hT
  have HN := Lib.hid hn
  have HBF := Lib.hid hb
  have HB3 := Lib.hid hb3
  have HL3 := Lib.hid hl3
  have H2 := Lib.hid h2
  have Z1 : Hid ((w3.setCells (w.heap.size + 1 + 1) 2 c3).heap[w.heap.size + 1]? = _) := Lib.hid ((setCells_far c3 2 (w.heap.size + 1) (by omega)).trans z1)
  have CB3 := Lib.hid (below_cells (below_step CB2.out hb3) hle 2 c3)
  have HONE := Lib.hid hone
  have HTH : Hid (∀ j, j < 17 → (w3.cell? ⟨w.heap.size + 1 + 1, 2 + j, none⟩).isSome = true ∧ w3.frozen? ⟨w.heap.size + 1 + 1, 2 + j, none⟩ = false) := Lib.hid (fun j hj => ⟨by rw [blk_cell z2, Array.getElem?_eq_getElem (by simp; omega)]; rfl, blk_frozen z2 _⟩)
  clear hT hn hb hb3 hl3 hone z1 z2 h2 h2s h2l hcur cur hle Q0 Q1 Q2 HW2
  go_wp2_with (first | ((with_reducible refine gate_store (p := 13) rfl ?_); refine store_mid rfl rfl rfl (g := w.heap.size + 1 + 1) (o := 2) ?hp rfl ?ht ?hi ?h1 ?_; (case hp => first | rfl | (go_simp; done) | (go_simp; rfl)); (case ht => simpa [HL3.out] using HTH.out); (case hi => simp only [List.size_toArray, HL3.out]; kernel_rfl); (case h1 => simpa using HONE.out)) | ((with_reducible refine gate_dst (N := 14) rfl ?_); refine load_event rfl (N := 14) rfl 90 (.tmp 3) rfl ⟨w.heap.size + 1 + 1, 0, none⟩ rfl (Value.int .i64 x.f0 :: Value.bool x.f1 :: c3) (blk_row' H2.out) Try.underlying90 rfl ?hi ?_; (case hi => rw [List.length_cons, List.length_cons, HL3.out]; kernel_rfl)) | ((with_reducible refine gate_store (p := 2) rfl ?_); refine store_event rfl rfl rfl Z1.out rfl rfl ?hs ?hi ?h1 ?_; (case hs => simp [HL3.out]); (case hi => simp only [List.size_toArray, List.length_cons, HL3.out]; kernel_rfl); (case h1 => intro u hu; simp only [List.mem_cons] at hu; rcases hu with h | h | h; (rw [h]; rfl); (rw [h]; rfl); exact HONE.out u h); intro w6 hz hs6 hfar6 hB6; have HZ := Lib.hid hz; have HF6 := Lib.hid hfar6; have HB6 := Lib.hid hB6; clear hz hs6 hfar6 hB6))
  refine bodyPost_ret (results_cell_row rfl _ _ (w.heap.size + 1) 90 _ (0, 0) _ rfl HZ.out Try.underlying90 rfl ?_) rfl ?_
  · simp only [List.size_toArray, List.length_cons, HL3.out]; kernel_rfl
  have hS2 := S2.out
  have hT2 := (tO (m + 2)).T_move (w1 := w6) (fun k hk => by
    have h1 := HBF.out k hk
    rw [HF6.out k (by omega), setCells_far c3 2 k (by omega)]) HT.out
  exact ⟨_, _, rfl, tC_mk (x := cCh (m + 1) x) hT2, HN.out, fun k hk => by have := HBF.out k hk; omega, HB6.out w (by omega) CB3.out⟩
end Go.Proofs.Ytmoiacijklkfaaa.G
