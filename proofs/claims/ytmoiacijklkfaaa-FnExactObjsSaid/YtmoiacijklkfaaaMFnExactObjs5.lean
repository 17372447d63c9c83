import Derived.Test.YtmoiacijklkfaaaMFnExactObjs4
import Derived.Test.YtmoiacijklkfaaaMFnExactObjs1
import Derived.Test.YtmoiacijklkfaaaMFnExactObjs3
import Derived.Test.YtmoiacijklkfaaaMFnExactObjs2
import Derived.Laws.IdiomCopy
import Derived.Deep.AppendSrc
import Derived.Lib.AppendZeros
import Derived.Lib.Overlaps
import Derived.Laws.Externs
import Derived.Shelf.Spec.SlicesInsert
import Derived.Lib.Bytealg
import Derived.Test.YtmoiacijklkfaaaShelf
/- GKChgToS -/
/-
  toChangeS: a law's changes as the program's, in rows of their own.
-/
namespace Go.Proofs.Ytmoiacijklkfaaa.G
open Go.RowKit Go.Proofs.YtmoiacijklkfaaaW.PrintWords Go.Proofs.YtmoiacijklkfaaaW.PrintLast Go.Proofs.YtmoiacijklkfaaaW.PrintMore
attribute [local go_sem] max2_int min2_int max_two min_two max_three min_three max_four min_four
set_option linter.unusedVariables false
set_option linter.unusedSimpArgs false
def zC : IChg := ⟨0, false, zO⟩
theorem zC_T (n : Nat) (w : World) : (tC (n + 1)).T w zC (.int .i64 0 :: .bool false :: obZ.toList) [] := tC_mk (x := zC) (zO_T n w)
set_option maxHeartbeats 16000000 in
set_option maxRecDepth 100000 in
theorem toChangeS_calls (m : Nat) (xs : List LChg) (A : Option Addr) (c : Nat) (w : World) (hC : Kd.C k124 w A xs.length xs) (hc : xs.length ≤ c) (hl : xs.length ≤ 1048576) (hs : ∀ x ∈ xs, SmLO (m + 1) x.f2) :
    Calls Try.prog 61 #[.slice A xs.length c] w fun e w' => ∃ (v : Value) (fp : List Nat), e = .returned v ∧ (tC (m + 2)).Row 90 w' v (xs.map (cCh (m + 1))) fp ∧ fp.Nodup ∧ (∀ k ∈ fp, w.heap.size ≤ k) ∧ Below w.heap.size w w' := by
  have HC := Lib.hid hC
  have HSM := Lib.hid hs
  clear hC hs
  go_enter Try.func61, Try.ntmps61
  go_wp2_with ((with_reducible refine gate_dst (N := 7) rfl ?_); refine Td.Row_make (tC (m + 2)) (w0 := w) 90 rfl (N := 7) rfl 28 _ _ rfl (xs.length : Int) rfl rfl Try.underlying28 (.agg #[.int .i64 0, .bool false, .int .i64 0, .string ⟨#[]⟩, .int .i64 0, .int .i64 0, .int .i64 0, .bool false, .slice none 0 0, .int .i64 0, .string ⟨#[]⟩, .int .i64 0, .slice none 0 0, .slice none 0 0, .int .i64 0, .string ⟨#[]⟩, .int .i64 0, .slice none 0 0, .slice none 0 0]) _ (by rw [tC_sz]; exact info90) (by rw [tC_sz]; rfl) (by rw [tC_sz]; decide) (by decide) zC (zC_T (m + 1) _) (by omega) (by omega) (Below.refl _ _) ?_; intro v7 w4 fp hrow hn hf hb hg_; clear hg_; have HRW := Lib.hid hrow; have HN := Lib.hid hn; have HF := Lib.hid hf; have HB := Lib.hid hb; clear hrow hn hf hb)
  go_loopw [4] (fun vi wr => ∃ (i : Nat) (fq : List Nat), i ≤ xs.length ∧ vi = .int .i64 i ∧ Hid ((tC (m + 2)).Row 90 wr v7 ((xs.take i).map (cCh (m + 1)) ++ List.replicate (xs.length - i) zC) fq) ∧ Hid fq.Nodup ∧ Hid (∀ k ∈ fq, w.heap.size ≤ k) ∧ Hid (Below w.heap.size w wr)) (fun vi _ => xs.length - (intOf vi).toNat)
  case atStart =>
    refine ⟨0, fp, by omega, rfl, ?_, HN, HF, HB⟩
    have h_ := HRW.out
    rw [Int.toNat_natCast] at h_
    rw [List.take_zero, List.map_nil, List.nil_append, Nat.sub_zero]
    exact h_
  case round =>
    clear HRW HN HF HB
    obtain ⟨i, fq, hi, rfl, HR, HN, HF, HB⟩ := hrel
    by_cases hil : i < xs.length
    · obtain ⟨ad, cs, rfl, hcs, hK, hcell⟩ := row_at HC.out i hil
      have hsz : (k124 : Kd LChg).sz = 19 := rfl
      rw [hsz] at hcs hcell
      have HK := Lib.hid hK
      have HCL := Lib.hid (hcell wr HB.out)
      have HCS := Lib.hid hcs
      have hP : ((xs.take i).map (cCh (m + 1))).length = i := by rw [List.length_map, List.length_take]; omega
      have hrep : List.replicate (xs.length - i) zC = zC :: List.replicate (xs.length - (i + 1)) zC := by
        rw [show xs.length - i = (xs.length - (i + 1)) + 1 by omega, List.replicate_succ]
      have HRL := HR.out
      rw [hrep] at HRL
      have hlen : ((xs.take i).map (cCh (m + 1)) ++ zC :: List.replicate (xs.length - (i + 1)) zC).length = xs.length := by
        rw [List.length_append, List.length_cons, List.length_replicate, hP]; omega
      have HR1 := Lib.hid HRL
      have HPL := Lib.hid hP
      have HLN := Lib.hid hlen
      have hfl : Hid (∀ k ∈ fq, k < wr.heap.size) := Lib.hid (Td.Row_lt HRL)
      clear hcs hK hcell hsz HR HRL hP hrep hlen
      go_wp2_with ((with_reducible refine gate_dst (N := 19) rfl ?_); refine load_event rfl (N := 19) rfl 124 (.tmp 18) rfl (ad.add (i * 19)) ?hx cs HCL.out Try.underlying124 rfl ?hi ?_; (case hx => first | rfl | (go_simp; done) | (go_simp; rfl)); (case hi => rw [HCS.out]; kernel_rfl))
      (with_reducible refine (toC_calls m xs[i] cs wr ((k124 : Kd LChg).K_below HB.out HK.out) (HSM.out _ (List.getElem_mem hil))).mono ?_)
      rintro e w2 ⟨cs', fv, rfl, hT, hvn, hvb, hb2⟩
      obtain ⟨g, cap, co, fq', hv, hcl, hcc, hfz, hg, hglt, hrow', hn', hin'⟩ := Td.Row_put (Td.Row_below HR1.out hb2) HN.out (i := i) (by rw [HLN.out]; exact hil) hT hvn (fun k hk hm => by have h1 := hvb k hk; have h2 := hfl.out k hm; omega)
      have hgw := HF.out g hg
      rw [HLN.out] at hv
      subst hv
      have hT17 := (tC (m + 2)).T_len hT
      have hT1 := (tC (m + 2)).T_one hT
      rw [tC_sz] at hcl hcc hrow' hT17
      rw [set_at _ _ _ _ HPL.out] at hrow'
      have HT17 := Lib.hid hT17
      have HT1 := Lib.hid hT1
      have HTH : Hid (∀ j, j < 19 → (w2.cell? ⟨g, i * 19 + j, none⟩).isSome = true ∧ w2.frozen? ⟨g, i * 19 + j, none⟩ = false) := Lib.hid (fun j hj => ⟨by rw [hcc j _ (List.getElem?_eq_getElem (by omega))]; rfl, hfz _⟩)
      have HRN := Lib.hid hrow'
      have HNN := Lib.hid hn'
      have HFN : Hid (∀ k ∈ fq', w.heap.size ≤ k) := Lib.hid (fun k hk => by
        rcases hin' k hk with h | h
        · exact HF.out k h
        · exact Nat.le_trans HB.out.size (hvb k h))
      have HBN := Lib.hid (below_cells (below_step HB.out hb2) hgw (i * 19) cs')
      clear hrow' hn' hin' hcc hfz hcl hT hvn hvb hb2 HR1 HK HCL hT17 hT1
      go_wp2_with ((with_reducible refine gate_store (p := 21) rfl ?_); refine store_mid rfl rfl rfl (g := g) (o := i * 19) ?hp rfl ?ht ?hi ?h1 ?_; (case hp => first | rfl | (go_simp; done) | (go_simp; rfl)); (case ht => simpa [HT17.out] using HTH.out); (case hi => simp only [List.size_toArray, HT17.out]; kernel_rfl); (case h1 => simpa using HT1.out))
      go_roundw
      case rel =>
        refine ⟨i + 1, fq', by omega, by go_num, ?_, HNN, HFN, by simpa using HBN⟩
        have h_ := HRN.out
        unfold Hid
        rw [List.take_succ_eq_append_getElem hil, List.map_append, List.append_assoc, List.map_cons, List.map_nil, List.singleton_append]
        simpa using h_
      case measure => simp [intOf]; omega
    · obtain rfl : i = xs.length := by omega
      go_wp2
      go_ret
      have h_ := HR.out
      rw [List.take_length, Nat.sub_self, List.replicate_zero, List.append_nil] at h_
      exact ⟨_, _, rfl, h_, HN.out, HF.out, HB.out⟩
end Go.Proofs.Ytmoiacijklkfaaa.G

/- GKBaseTo -/
/-
  toBase: a law's base as one of the program's, in rows of its own.
-/
namespace Go.Proofs.Ytmoiacijklkfaaa.G
open Go.RowKit Go.Proofs.YtmoiacijklkfaaaW.PrintWords Go.Proofs.YtmoiacijklkfaaaW.PrintLast Go.Proofs.YtmoiacijklkfaaaW.PrintMore
attribute [local go_sem] max2_int min2_int max_two min_two max_three min_three max_four min_four
set_option linter.unusedVariables false
set_option linter.unusedSimpArgs false
/-- A base handed: its two rows lie apart. -/
def BaT (n : Nat) (w : World) (os : List IObj) (cs : List IChg) (v0 v3 : Value) (fp : List Nat) : Prop := ∃ f0 f3, fp = f0 ++ f3 ∧ (tO n).Row 46 w v0 os f0 ∧ (tC n).Row 90 w v3 cs f3
def SmLB (n : Nat) (xs : List LObj) (ls : List LChg) : Prop := (xs.length ≤ 1048576 ∧ ∀ x ∈ xs, SmLO n x) ∧ (ls.length ≤ 1048576 ∧ ∀ x ∈ ls, SmLO n x.f2)
set_option maxHeartbeats 16000000 in
set_option maxRecDepth 100000 in
theorem toB_calls (m : Nat) (xs : List LObj) (rv nx : Int) (ls : List LChg) (A0 : Option Addr) (c0 : Nat) (A3 : Option Addr) (c3 : Nat) (w : World) (g0 : Kd.C k121 w A0 xs.length xs) (l0 : xs.length ≤ c0) (g3 : Kd.C k124 w A3 ls.length ls) (l3 : ls.length ≤ c3) (hs : SmLB (m + 1) xs ls) :
    Calls Try.prog 15 #[.agg #[.slice A0 xs.length c0, .int .i64 rv, .int .i64 nx, .slice A3 ls.length c3]] w fun e w' => ∃ (v0 v3 : Value) (fp : List Nat), e = .returned (.agg #[v0, .int .i64 rv, .int .i64 nx, v3]) ∧ BaT (m + 2) w' (xs.map (cOb (m + 1))) (ls.map (cCh (m + 1))) v0 v3 fp ∧ fp.Nodup ∧ (∀ k ∈ fp, w.heap.size ≤ k) ∧ Below w.heap.size w w' := by
  obtain ⟨⟨hs0, hs1⟩, hs2, hs3⟩ := hs
  obtain ⟨W2, hW2⟩ : ∃ W2, (((w.alloc (.cells #[.slice A0 xs.length c0, .int .i64 rv, .int .i64 nx, .slice A3 ls.length c3] 25)).alloc (.cells #[.slice none 0 0, .int .i64 0, .int .i64 0, .slice none 0 0] 30)).alloc (.cells #[.slice none 0 0, .int .i64 0, .int .i64 0, .slice none 0 0] 30)) = W2 := ⟨_, rfl⟩
  have cb2 := below_alloc (below_alloc (below_alloc (Below.refl w.heap.size w) (.cells #[.slice A0 xs.length c0, .int .i64 rv, .int .i64 nx, .slice A3 ls.length c3] 25)) (.cells #[.slice none 0 0, .int .i64 0, .int .i64 0, .slice none 0 0] 30)) (.cells #[.slice none 0 0, .int .i64 0, .int .i64 0, .slice none 0 0] 30)
  obtain ⟨hb0, hb1, hb2, hsz⟩ := alloc3g w (.cells #[.slice A0 xs.length c0, .int .i64 rv, .int .i64 nx, .slice A3 ls.length c3] 25) (.cells #[.slice none 0 0, .int .i64 0, .int .i64 0, .slice none 0 0] 30) (.cells #[.slice none 0 0, .int .i64 0, .int .i64 0, .slice none 0 0] 30)
  rw [hW2] at hb0 hb1 hb2 hsz cb2
  have HW2 := Lib.hid hW2
  have Q0 := Lib.hid hb0
  have Q1 := Lib.hid hb1
  have Q2 := Lib.hid hb2
  have CB2 := Lib.hid cb2
  have S2 : Hid (w.heap.size + 1 + 1 + 1 ≤ W2.heap.size) := Lib.hid (by omega)
  have G0 := Lib.hid (Kd.C_below g0 cb2)
  have G3 := Lib.hid g3
  have H1 := Lib.hid hs1
  have H3 := Lib.hid hs3
  clear g0 g3 hs1 hs3 hb0 hb1 hb2 hsz hW2 cb2
  go_enter Try.func15, Try.ntmps15
  go_wp2_with fail
  rw [HW2.out]
  clear HW2
  refine (toObjS_calls m xs A0 c0 W2 G0.out l0 hs0 H1.out).mono ?_
  rintro e w3 ⟨v0, f0, rfl, hR0, hn0, hf0, hb3⟩
  obtain ⟨B0, e0, rfl⟩ := Td.Row_slice hR0
  rw [List.length_map] at *
  have z0 := (hb3.block _ (blk_lt Q0.out)).trans Q0.out
  have z1 := (hb3.block _ (blk_lt Q1.out)).trans Q1.out
  have z2 := (hb3.block _ (blk_lt Q2.out)).trans Q2.out
  have a0 := blk_cell z0 1
  have a1 := blk_cell z0 2
  have a2 := blk_cell z0 3
  have b0 := blk_cell z2 0
  have b1 := blk_cell z2 1
  have b2 := blk_cell z2 2
  have b3 := blk_cell z2 3
  have f0_ := blk_frozen z2 0
  have f1_ := blk_frozen z2 1
  have f2_ := blk_frozen z2 2
  simp only [List.getElem?_toArray, List.getElem?_cons_succ, List.getElem?_cons_zero] at a0 a1 a2 b0 b1 b2 b3
  obtain ⟨W3, hW3⟩ : ∃ W3, ((w3.setCell ⟨w.heap.size + 1 + 1, 0, none⟩ (.slice B0 xs.length e0)).setCell ⟨w.heap.size + 1 + 1, 1, none⟩ (.int .i64 rv)).setCell ⟨w.heap.size + 1 + 1, 2, none⟩ (.int .i64 nx) = W3 := ⟨_, rfl⟩
  have q2 := blk_set (blk_set (blk_set z2 0 (.slice B0 xs.length e0)) 1 (.int .i64 rv)) 2 (.int .i64 nx)
  simp only [List.setIfInBounds_toArray, List.set_cons_succ, List.set_cons_zero] at q2
  have far3 : ∀ k, k ≠ w.heap.size + 1 + 1 → (((w3.setCell ⟨w.heap.size + 1 + 1, 0, none⟩ (.slice B0 xs.length e0)).setCell ⟨w.heap.size + 1 + 1, 1, none⟩ (.int .i64 rv)).setCell ⟨w.heap.size + 1 + 1, 2, none⟩ (.int .i64 nx)).heap[k]? = w3.heap[k]? := fun k hk => by rw [Below.heap_setCell _ _ _ _ hk, Below.heap_setCell _ _ _ _ hk, Below.heap_setCell _ _ _ _ hk]
  have hle : w.heap.size ≤ w.heap.size + 1 + 1 := by omega
  have cb3 := below_set (j := 2) (v := .int .i64 nx) (below_set (j := 1) (v := .int .i64 rv) (below_set (j := 0) (v := .slice B0 xs.length e0) (below_step CB2.out hb3) hle) hle) hle
  have hss : (((w3.setCell ⟨w.heap.size + 1 + 1, 0, none⟩ (.slice B0 xs.length e0)).setCell ⟨w.heap.size + 1 + 1, 1, none⟩ (.int .i64 rv)).setCell ⟨w.heap.size + 1 + 1, 2, none⟩ (.int .i64 nx)).heap.size = w3.heap.size := by simp [World.setCell]
  rw [hW3] at q2 far3 cb3 hss
  have hs2' := S2.out
  have hlt0 := Td.Row_lt hR0
  have R0 := Lib.hid (Td.Row_move (w1 := W3) hR0 (fun k hk => far3 k (by have := hf0 k hk; omega)))
  have F0 : Hid (∀ k ∈ f0, W2.heap.size ≤ k ∧ k < W3.heap.size) := Lib.hid (fun k hk => by have h1 := hf0 k hk; have h2 := hlt0 k hk; omega)
  have S3 : Hid (w.heap.size + 1 + 1 + 1 ≤ W3.heap.size) := Lib.hid (by have := hb3.size; omega)
  have N0 := Lib.hid hn0
  have HW3 := Lib.hid hW3
  have P1 := Lib.hid ((far3 (w.heap.size + 1) (by omega)).trans z1)
  have P2 := Lib.hid q2
  have CB3 := Lib.hid cb3
  clear hR0 hn0 hf0 hb3 z0 z1 z2 hW3 q2 far3 cb3 hss hs2' hlt0 Q0 Q1 Q2 CB2 G0 H1 hle
  go_wp2_with fail
  rw [HW3.out]
  clear a0 a1 a2 b0 b1 b2 b3 f0_ f1_ f2_ HW3
  refine (toChangeS_calls m ls A3 c3 W3 (Kd.C_below G3.out CB3.out) l3 hs2 H3.out).mono ?_
  rintro e w4 ⟨v3, f3, rfl, hR3, hn3, hf3, hb4⟩
  obtain ⟨B3, e3, rfl⟩ := Td.Row_slice hR3
  rw [List.length_map] at *
  have z1 := (hb4.block _ (blk_lt P1.out)).trans P1.out
  have z2 := (hb4.block _ (blk_lt P2.out)).trans P2.out
  have b0 := blk_cell z2 0
  have b1 := blk_cell z2 1
  have b2 := blk_cell z2 2
  have b3 := blk_cell z2 3
  have d0 := blk_cell z1 0
  have d1 := blk_cell z1 1
  have d2 := blk_cell z1 2
  have d3 := blk_cell z1 3
  have f3_ := blk_frozen z2 3
  have e0_ := blk_frozen z1 0
  have e1_ := blk_frozen z1 1
  have e2_ := blk_frozen z1 2
  have e3_ := blk_frozen z1 3
  simp only [List.getElem?_toArray, List.getElem?_cons_succ, List.getElem?_cons_zero] at b0 b1 b2 b3 d0 d1 d2 d3
  have q1 := blk_set (blk_set (blk_set (blk_set (blk_far z1 (p := ⟨w.heap.size + 1 + 1, 3, none⟩) (by simp) (.slice B3 ls.length e3)) 0 (.slice B0 xs.length e0)) 1 (.int .i64 rv)) 2 (.int .i64 nx)) 3 (.slice B3 ls.length e3)
  simp only [List.setIfInBounds_toArray, List.set_cons_succ, List.set_cons_zero] at q1
  have Z1 := Lib.hid q1
  have HR3 := Lib.hid hR3
  have HN3 := Lib.hid hn3
  have HF3 := Lib.hid hf3
  have HB4 := Lib.hid hb4
  clear hR3 hn3 hf3 hb4 z1 z2 q1 P1 P2
  go_wp2
  refine bodyPost_ret (results_cell_row rfl _ _ (w.heap.size + 1) 30 _ (0, 0) _ rfl Z1.out Try.underlying30 rfl (by kernel_rfl)) rfl ?_
  have hS2 := S2.out
  have hb4 := HB4.out
  have hs3' := CB3.out.size
  have mv : ∀ (v : Value) k, w.heap.size + 1 + 1 + 1 ≤ k → (((((w4.setCell ⟨w.heap.size + 1 + 1, 3, none⟩ v).setCell ⟨w.heap.size + 1, 0, none⟩ (.slice B0 xs.length e0)).setCell ⟨w.heap.size + 1, 1, none⟩ (.int .i64 rv)).setCell ⟨w.heap.size + 1, 2, none⟩ (.int .i64 nx)).setCell ⟨w.heap.size + 1, 3, none⟩ v).heap[k]? = w4.heap[k]? := fun v k hk => by
    rw [Below.heap_setCell _ _ _ _ (show k ≠ w.heap.size + 1 by omega), Below.heap_setCell _ _ _ _ (show k ≠ w.heap.size + 1 by omega), Below.heap_setCell _ _ _ _ (show k ≠ w.heap.size + 1 by omega), Below.heap_setCell _ _ _ _ (show k ≠ w.heap.size + 1 by omega), Below.heap_setCell _ _ _ _ (show k ≠ w.heap.size + 1 + 1 by omega)]
  refine ⟨_, _, f0 ++ f3, rfl, ⟨f0, f3, rfl, Td.Row_move R0.out (fun k hk => (mv _ k (by have := F0.out k hk; omega)).trans (hb4.block k (F0.out k hk).2)), Td.Row_move HR3.out (fun k hk => mv _ k (by have := HF3.out k hk; have := S3.out; omega))⟩, ?_, ?_, ?_⟩
  · rw [List.nodup_append]
    exact ⟨N0.out, HN3.out, fun a ha b hb hab => by have h1 := F0.out a ha; have h2 := HF3.out b hb; omega⟩
  · intro k hk
    rcases List.mem_append.1 hk with hk | hk
    · have := F0.out k hk; omega
    · have := HF3.out k hk; omega
  · exact below_set (below_set (below_set (below_set (below_set (below_step CB3.out hb4) (by omega)) (by omega)) (by omega)) (by omega)) (by omega)
end Go.Proofs.Ytmoiacijklkfaaa.G

/- G45 -/
-- Laid by wip/g/gprint.py out of the translation, by the kit's print program. Lean checks it.
namespace Go.Proofs.Ytmoiacijklkfaaa.G
open Go.RowKit Go.Proofs.YtmoiacijklkfaaaW.PrintWords Go.Proofs.YtmoiacijklkfaaaW.PrintLast Go.Proofs.YtmoiacijklkfaaaW.PrintMore
attribute [local go_sem] max2_int min2_int max_two min_two max_three min_three max_four min_four   -- for this text's walks alone
set_option linter.unusedVariables false
set_option linter.unusedSimpArgs false

-- told with laws_szValueS

end Go.Proofs.Ytmoiacijklkfaaa.G

/- GKReg -/
/-
  Regions in free order, walked by the table: what reads is taken as it comes, a call by its contract.
-/
namespace Go.Proofs.Ytmoiacijklkfaaa.G
open Go.RowKit Go.Proofs.YtmoiacijklkfaaaW.PrintWords Go.Proofs.YtmoiacijklkfaaaW.PrintLast Go.Proofs.YtmoiacijklkfaaaW.PrintMore
set_option linter.unusedVariables false
/-- The first of ks that may be taken now. -/
def nextW (T : Bool × List (List Nat × List Nat)) (B : List Nat) (ds : List Nat) (l : List Bool) (ks : List Nat) : Option Nat := ks.find? (fun i => T.1 && freeT T.2 l i && readyAt T.2 l i && closedT T.2 l && lastW T.2 B l ds i)
/-- The i-th operation, found by steps. -/
def nthO : List Oper → Nat → Option Oper
  | [], _ => none
  | o :: _, 0 => some o
  | _ :: os, n + 1 => nthO os n
theorem nthO_get : ∀ (os : List Oper) (i : Nat), nthO os i = os[i]?
  | [], _ => rfl
  | o :: os, 0 => rfl
  | o :: os, n + 1 => by rw [nthO, nthO_get os n]; rfl
section
variable {P : Program} {ops : Array Oper} {Q : Exit → Act → World → Prop} {S : World → Prop} {ds : List Nat} {md : Region.Mode} {T : Bool × List (List Nat × List Nat)} {B : List Nat}
theorem takeA_ {i : Nat} {oi : Oper} {v : Value} {fuel : Nat} {l l' : Array Bool} {a a' : Act} {w : World} (hT : rtab md ops = T) (hB : waitsOk T.2 B = true) (ks : List Nat) (hn : nextW T B ds l.toList ks = some i) (hi0 : nthO ops.toList i = some oi) (hl : l.setIfInBounds i true = l')
    (hQ : ∀ c a w, Q (.panic c) (a.put oi.dst v) w → Q (.panic c) a w) (hy : YieldsIf P ops S oi v a) (hS : S w) (ha : a.put oi.dst v = a') (h : wpAnyLast P md ops Q S ds fuel l' a' w) : wpAnyLast P md ops Q S ds (fuel + 1) l a w := by
  have hi : ops[i]? = some oi := by rw [← hi0, nthO_get, Array.getElem?_toList]
  have hc := List.find?_some hn
  subst hl
  refine take_ (i := i) (N := oi.dst) (l.setIfInBounds i true) hi rfl (take_ofW hT hB ?_) hQ hy hS ha h
  simp only [takeW, Bool.and_eq_true] at hc ⊢
  exact ⟨hc, by simp⟩
/-- A call, alone ready. -/
theorem callA_ {i : Nat} {oi : Oper} {fuel : Nat} {l l' : Array Bool} {a : Act} {w : World} {f : FuncId} {fn : Func} {ags : Array Operand} {ts : Array TypeId} {args : Array Value} {Post : Ending → World → Prop} (hT : rtab md ops = T) (hn : readyT T.2 l.toList = [i]) (hi0 : nthO ops.toList i = some oi) (hl : l.setIfInBounds i true = l') (hd : i ∉ ds)
    (hf : P.funcs[f]? = some fn) (hname : (fn.name == "runtime.NumGoroutine") = false) (hb : fn.body.isSome = true) (hw : Region.wanted oi (yielded ops a.tmps) = true) (hop : oi.op = .call { callee := .value (.func f), args := ags, argTypes := ts }) (hargs : ags.map a.eval = args)
    (hc : Calls P f args w Post) (h : ∀ e w', Post e w' → ∃ v, e = .returned v ∧ S w' ∧ wpAnyLast P md ops Q S ds fuel l' (a.put oi.dst v) w') : wpAnyLast P md ops Q S ds (fuel + 1) l a w := by
  have hi : ops[i]? = some oi := by rw [← hi0, nthO_get, Array.getElem?_toList]
  subst hl
  refine one_ (i := i) (N := oi.dst) (l.setIfInBounds i true) hi rfl (one_of hT (by simp [hn])) hd (fun K hK => ?_)
  refine goes_ hf hname hb args hw rfl hop hargs (hc.mono ?_)
  intro e w' hp
  obtain ⟨v, he, hS, hh⟩ := h e w' hp
  exact ⟨v, he, hK.out _ _ hS (fun _ => hh)⟩
/-- A whole struct, read. -/
theorem yield_row {oi : Oper} {a : Act} {ty : TypeId} {x : Operand} {ad : Addr} {cs : List Value} {d : TypeDesc} (hw : Region.wanted oi (yielded ops a.tmps) = true) (ho : oi.op = .load ty x) (hx : a.eval x = .pointer (some ad)) (hc : ∀ w', S w' → ∀ j v, cs[j]? = some v → w'.cell? (ad.add j) = some v)
    (hu : P.underlying ty = some d) (hd : d.isRow = true) (hi : (P.info? ty).map (·.size) = some cs.length) : YieldsIf P ops S oi (.agg cs.toArray) a := by
  refine Or.inl ⟨hw, fun w' hS => ?_⟩
  unfold execOp
  simp only [ho, hx, Instr.loadAt, Instr.sureAddr, Sem.run_bind, Sem.run_pure, Result.andThen_ok, loadVar_row (hc w' hS) hu hd hi]
end
end Go.Proofs.Ytmoiacijklkfaaa.G

/- G49 -/
-- Laid by wip/g/gprint.py out of the translation, by the kit's print program. Lean checks it.
namespace Go.Proofs.Ytmoiacijklkfaaa.G
open Go.RowKit Go.Proofs.YtmoiacijklkfaaaW.PrintWords Go.Proofs.YtmoiacijklkfaaaW.PrintLast Go.Proofs.YtmoiacijklkfaaaW.PrintMore
attribute [local go_sem] max2_int min2_int max_two min_two max_three min_three max_four min_four   -- for this text's walks alone
set_option linter.unusedVariables false
set_option linter.unusedSimpArgs false

-- told with laws_eqValueS

end Go.Proofs.Ytmoiacijklkfaaa.G

/- GKEqO -/
/-
  eqObj, eqObjS, eqChange, eqChangeS: what says the same is found the same.
-/
namespace Go.Proofs.Ytmoiacijklkfaaa.G
open Go.RowKit Go.Proofs.YtmoiacijklkfaaaW.PrintWords Go.Proofs.YtmoiacijklkfaaaW.PrintLast Go.Proofs.YtmoiacijklkfaaaW.PrintMore
attribute [local go_sem] max2_int min2_int max_two min_two max_three min_three max_four min_four
set_option linter.unusedVariables false
set_option linter.unusedSimpArgs false
def SmOO (n : Nat) (x : IObj) : Prop := x.f6.length ≤ 9223372036854775807 ∧ SmI n x.f7 ∧ SmI n x.f8
set_option maxHeartbeats 16000000 in
set_option maxRecDepth 100000 in
theorem eqO_calls (n : Nat) (x : IObj) (cs ds : List Value) (w : World) (hk : k46.K w x cs) (hd : k46.K w x ds) (hs : SmOO n x) :
    Calls Try.prog 26 #[.agg cs.toArray, .agg ds.toArray] w fun e w' => e = .returned (.bool true) ∧ Below w.heap.size w w' := by
  obtain ⟨A6, c6, A10, c10, A11, c11, A15, c15, A16, c16, rfl, l6, g6, l10, g10, l11, g11, l15, g15, l16, g16⟩ := k46_open hk
  obtain ⟨B6, d6, B10, d10, B11, d11, B15, d15, B16, d16, rfl, m6, k6, m10, k10, m11, k11, m15, k15, m16, k16⟩ := k46_open hd
  obtain ⟨K6, e6⟩ := eqStringS_ev x.f6 hs.1
  obtain ⟨K7, e7⟩ := eqValue_ev n x.f7 hs.2.1
  obtain ⟨K8, e8⟩ := eqValue_ev n x.f8 hs.2.2
  have E6 := Lib.hid (e6 K6 (Nat.le_refl _))
  have E7 := Lib.hid (e7 K7 (Nat.le_refl _))
  have E8 := Lib.hid (e8 K8 (Nat.le_refl _))
  obtain ⟨W1, hW1⟩ : ∃ W1, (w.alloc (.cells #[.int .i64 x.f0, .string x.f1, .int .i64 x.f2, .int .i64 x.f3, .int .i64 x.f4, .bool x.f5, .slice A6 x.f6.length c6, .int .i64 x.f7.f0, .string x.f7.f1, .int .i64 x.f7.f2, .slice A10 x.f7.f3.length c10, .slice A11 x.f7.f4.length c11, .int .i64 x.f8.f0, .string x.f8.f1, .int .i64 x.f8.f2, .slice A15 x.f8.f3.length c15, .slice A16 x.f8.f4.length c16] 46)).alloc (.cells #[.int .i64 x.f0, .string x.f1, .int .i64 x.f2, .int .i64 x.f3, .int .i64 x.f4, .bool x.f5, .slice B6 x.f6.length d6, .int .i64 x.f7.f0, .string x.f7.f1, .int .i64 x.f7.f2, .slice B10 x.f7.f3.length d10, .slice B11 x.f7.f4.length d11, .int .i64 x.f8.f0, .string x.f8.f1, .int .i64 x.f8.f2, .slice B15 x.f8.f3.length d15, .slice B16 x.f8.f4.length d16] 46) = W1 := ⟨_, rfl⟩
  have hbA := below_alloc (below_alloc (Below.refl w.heap.size w) (.cells #[.int .i64 x.f0, .string x.f1, .int .i64 x.f2, .int .i64 x.f3, .int .i64 x.f4, .bool x.f5, .slice A6 x.f6.length c6, .int .i64 x.f7.f0, .string x.f7.f1, .int .i64 x.f7.f2, .slice A10 x.f7.f3.length c10, .slice A11 x.f7.f4.length c11, .int .i64 x.f8.f0, .string x.f8.f1, .int .i64 x.f8.f2, .slice A15 x.f8.f3.length c15, .slice A16 x.f8.f4.length c16] 46)) (.cells #[.int .i64 x.f0, .string x.f1, .int .i64 x.f2, .int .i64 x.f3, .int .i64 x.f4, .bool x.f5, .slice B6 x.f6.length d6, .int .i64 x.f7.f0, .string x.f7.f1, .int .i64 x.f7.f2, .slice B10 x.f7.f3.length d10, .slice B11 x.f7.f4.length d11, .int .i64 x.f8.f0, .string x.f8.f1, .int .i64 x.f8.f2, .slice B15 x.f8.f3.length d15, .slice B16 x.f8.f4.length d16] 46)
  obtain ⟨hb0, hb1, hsz⟩ := alloc2 w (.cells #[.int .i64 x.f0, .string x.f1, .int .i64 x.f2, .int .i64 x.f3, .int .i64 x.f4, .bool x.f5, .slice A6 x.f6.length c6, .int .i64 x.f7.f0, .string x.f7.f1, .int .i64 x.f7.f2, .slice A10 x.f7.f3.length c10, .slice A11 x.f7.f4.length c11, .int .i64 x.f8.f0, .string x.f8.f1, .int .i64 x.f8.f2, .slice A15 x.f8.f3.length c15, .slice A16 x.f8.f4.length c16] 46) (.cells #[.int .i64 x.f0, .string x.f1, .int .i64 x.f2, .int .i64 x.f3, .int .i64 x.f4, .bool x.f5, .slice B6 x.f6.length d6, .int .i64 x.f7.f0, .string x.f7.f1, .int .i64 x.f7.f2, .slice B10 x.f7.f3.length d10, .slice B11 x.f7.f4.length d11, .int .i64 x.f8.f0, .string x.f8.f1, .int .i64 x.f8.f2, .slice B15 x.f8.f3.length d15, .slice B16 x.f8.f4.length d16] 46)
  rw [hW1] at hb0 hb1 hsz hbA
  have HW1 := Lib.hid hW1
  have HBA := Lib.hid hbA
  have HB0 : Hid (W1.heap[w.heap.size]? = some (.cells (obC x (.slice A6 x.f6.length c6) (.slice A10 x.f7.f3.length c10) (.slice A11 x.f7.f4.length c11) (.slice A15 x.f8.f3.length c15) (.slice A16 x.f8.f4.length c16)) 46 (0, 0))) := Lib.hid hb0
  have HB1 : Hid (W1.heap[w.heap.size + 1]? = some (.cells (obC x (.slice B6 x.f6.length d6) (.slice B10 x.f7.f3.length d10) (.slice B11 x.f7.f4.length d11) (.slice B15 x.f8.f3.length d15) (.slice B16 x.f8.f4.length d16)) 46 (0, 0))) := Lib.hid hb1
  have G6 := Lib.hid (Kd.C_below g6 hbA)
  have G10 := Lib.hid (Kd.C_below g10 hbA)
  have G11 := Lib.hid (Kd.C_below g11 hbA)
  have G15 := Lib.hid (Kd.C_below g15 hbA)
  have G16 := Lib.hid (Kd.C_below g16 hbA)
  have J6 := Lib.hid (Kd.C_below k6 hbA)
  have J10 := Lib.hid (Kd.C_below k10 hbA)
  have J11 := Lib.hid (Kd.C_below k11 hbA)
  have J15 := Lib.hid (Kd.C_below k15 hbA)
  have J16 := Lib.hid (Kd.C_below k16 hbA)
  clear hk hd e6 e7 e8 g6 g10 g11 g15 g16 k6 k10 k11 k15 k16 hW1 hbA hsz hb0 hb1 hs
  go_enter Try.func26, Try.ntmps26
  go_wp2_with fail
  rw [HW1.out]
  refine (laws_eqStringS.calls K6 A6 c6 x.f6 B6 d6 x.f6 true W1 G6.out l6 J6.out m6 E6.out).mono ?_
  rintro e w2 ⟨rfl, hd2⟩
  have hb2 := hd2.below
  have Q0 := Lib.hid ((hb2.block _ (blk_lt HB0.out)).trans HB0.out)
  have Q1 := Lib.hid ((hb2.block _ (blk_lt HB1.out)).trans HB1.out)
  have N2 := Lib.hid hb2
  clear hd2 hb2 HW1
  obtain ⟨s7, s8, s9, s10, s11⟩ := ob_c7 Q0.out
  obtain ⟨t7, t8, t9, t10, t11⟩ := ob_c7 Q1.out
  go_wp2_with fail
  clear s7 s8 s9 s10 s11 t7 t8 t9 t10 t11
  refine (laws_eqValue.calls K7 x.f7.f0 x.f7.f1 x.f7.f2 A10 c10 x.f7.f3 A11 c11 x.f7.f4 x.f7.f0 x.f7.f1 x.f7.f2 B10 d10 x.f7.f3 B11 d11 x.f7.f4 true w2 (Kd.C_below G10.out N2.out) l10 (Kd.C_below G11.out N2.out) l11 (Kd.C_below J10.out N2.out) m10 (Kd.C_below J11.out N2.out) m11 E7.out).mono ?_
  rintro e w3 ⟨rfl, hb3⟩
  have Q03 := Lib.hid ((hb3.block _ (blk_lt Q0.out)).trans Q0.out)
  have Q13 := Lib.hid ((hb3.block _ (blk_lt Q1.out)).trans Q1.out)
  have N3 := Lib.hid (below_step N2.out hb3)
  clear hb3 Q0 Q1
  obtain ⟨s7, s8, s9, s10, s11⟩ := ob_c8 Q03.out
  obtain ⟨t7, t8, t9, t10, t11⟩ := ob_c8 Q13.out
  go_wp2_with fail
  clear s7 s8 s9 s10 s11 t7 t8 t9 t10 t11
  refine (laws_eqValue.calls K8 x.f8.f0 x.f8.f1 x.f8.f2 A15 c15 x.f8.f3 A16 c16 x.f8.f4 x.f8.f0 x.f8.f1 x.f8.f2 B15 d15 x.f8.f3 B16 d16 x.f8.f4 true w3 (Kd.C_below G15.out N3.out) l15 (Kd.C_below G16.out N3.out) l16 (Kd.C_below J15.out N3.out) m15 (Kd.C_below J16.out N3.out) m16 E8.out).mono ?_
  rintro e w4 ⟨rfl, hb4⟩
  have N4 := Lib.hid (below_step N3.out hb4)
  clear hb4
  go_wp2
  go_ret
  exact ⟨rfl, below_step HBA.out N4.out⟩
def T_laws_eqObjS_6 : Bool × List (List Nat × List Nat) := (true, [([], []), ([], []), ([0, 1], [0, 1]), ([2], [2]), ([], []), ([], []), ([4, 5], [4, 5]), ([6], [6]), ([3, 7], [3, 7]), ([8], [8])])
def B_laws_eqObjS_6 : List Nat := [0, 0, 3, 7, 0, 0, 48, 112, 255, 511]
theorem t_laws_eqObjS_6 : rtab .any (opsOf Try.f31 6) = T_laws_eqObjS_6 := by kernel_rfl
theorem b_laws_eqObjS_6 : waitsOk T_laws_eqObjS_6.2 B_laws_eqObjS_6 = true := by kernel_rfl
def T_laws_eqChangeS_6 : Bool × List (List Nat × List Nat) := (true, [([], []), ([], []), ([0, 1], [0, 1]), ([2], [2]), ([], []), ([], []), ([4, 5], [4, 5]), ([6], [6]), ([3, 7], [3, 7]), ([8], [8])])
def B_laws_eqChangeS_6 : List Nat := [0, 0, 3, 7, 0, 0, 48, 112, 255, 511]
theorem t_laws_eqChangeS_6 : rtab .any (opsOf Try.f65 6) = T_laws_eqChangeS_6 := by kernel_rfl
theorem b_laws_eqChangeS_6 : waitsOk T_laws_eqChangeS_6.2 B_laws_eqChangeS_6 = true := by kernel_rfl
set_option maxHeartbeats 16000000 in
set_option maxRecDepth 100000 in
theorem eqOs_calls (n : Nat) (xs : List IObj) (A B : Option Addr) (c d : Nat) (w : World) (hr : Kd.C k46 w A xs.length xs) (hc : xs.length ≤ c) (hq : Kd.C k46 w B xs.length xs) (hd : xs.length ≤ d) (hs : ∀ x ∈ xs, SmOO n x) :
    Calls Try.prog 31 #[.slice A xs.length c, .slice B xs.length d] w fun e w' => e = .returned (.bool true) ∧ Below w.heap.size w w' := by
  have hlen := hr.2.1
  have HR := Lib.hid hr
  have HQ := Lib.hid hq
  have HS := Lib.hid hs
  clear hr hq hs
  go_enter Try.func31, Try.ntmps31
  go_wp2
  go_loopw [5] (fun vi wr => ∃ i : Nat, i ≤ xs.length ∧ vi = .int .i64 i ∧ Hid (Below w.heap.size w wr)) (fun vi _ => xs.length - (intOf vi).toNat)
  case atStart => exact ⟨0, by omega, rfl, Below.refl _ _⟩
  case round =>
    obtain ⟨i, hi, rfl, HB⟩ := hrel
    by_cases hil : i < xs.length
    · obtain ⟨ad, cs, rfl, hcs, hK, hcell⟩ := row_at HR.out i hil
      obtain ⟨ae, ds, rfl, hds, hL, hdell⟩ := row_at HQ.out i hil
      have hsz : (k46 : Kd IObj).sz = 17 := rfl
      rw [hsz] at hcs hcell hds hdell
      have HK := Lib.hid hK
      have HL := Lib.hid hL
      have HC := Lib.hid hcell
      have HD := Lib.hid hdell
      have HCS := Lib.hid hcs
      have HDS := Lib.hid hds
      clear hcs hK hcell hds hL hdell hsz
      go_wp2_with fail
      refine start_ (n := 10) (S := fun w' => Below w.heap.size w w') (ds := []) #[false, false, false, false, false, false, false, false, false, false] (by kernel_rfl) rfl rfl (below_drew HB.out) (fun hHeld => ?_)
      refine with_tabW t_laws_eqObjS_6 b_laws_eqObjS_6 (fun HT_ HW_ => ?_)
      generalize wr.drew = w1 at hHeld ⊢
      repeat (apply takeA_ HT_.out HW_.out [0, 1, 2, 3, 4, 5, 6, 7]; (case hn => exact rfl); (case hi0 => exact rfl); (case hl => simp only [List.setIfInBounds_toArray, List.set_cons_zero, List.set_cons_succ]; rfl); (case hQ => exact fun _ _ _ h => h); (case hy => first | exact Or.inr ⟨by rfl, rfl⟩ | (exact yield_row (ad := ad.add (i * 17)) (cs := cs) (by rfl) rfl rfl (fun w_ hS_ => HC.out w_ hS_) Try.underlying46 rfl (by rw [HCS.out]; kernel_rfl)) | (exact yield_row (ad := ae.add (i * 17)) (cs := ds) (by rfl) rfl rfl (fun w_ hS_ => HD.out w_ hS_) Try.underlying46 rfl (by rw [HDS.out]; kernel_rfl)) | (refine Or.inl ⟨by rfl, ?_⟩; intro w_ hS_; go_simp; with_reducible rfl)); (case hS => exact hHeld); (case ha => simp only [Act.put, List.setIfInBounds_toArray, List.set_cons_zero, List.set_cons_succ, i64_w, i32_w]; rfl))
      have HB1 := Lib.hid hHeld
      refine callA_ (i := 8) (l' := ?_) HT_.out rfl rfl ?_ (by decide) Try.func26 (by kernel_rfl) rfl (by rfl) rfl (by (try simp only [List.map_toArray, List.map_cons, List.map_nil]); first | done | rfl) (eqO_calls n xs[i] cs ds w1 ((k46 : Kd IObj).K_below hHeld HK.out) ((k46 : Kd IObj).K_below hHeld HL.out) (HS.out _ (List.getElem_mem hil))) ?_
      rotate_left
      · simp only [List.setIfInBounds_toArray, List.set_cons_zero, List.set_cons_succ]; rfl
      rintro e w2 ⟨rfl, hb2⟩
      have hHeld2 := below_step HB1.out hb2
      refine ⟨_, rfl, hHeld2, ?_⟩
      refine norm_ (a' := ?_) ?_ ?_
      rotate_left
      · simp only [Act.put, List.setIfInBounds_toArray, List.set_cons_zero, List.set_cons_succ, i64_w, i32_w]; rfl
      repeat (apply takeA_ HT_.out HW_.out [9]; (case hn => exact rfl); (case hi0 => exact rfl); (case hl => simp only [List.setIfInBounds_toArray, List.set_cons_zero, List.set_cons_succ]; rfl); (case hQ => exact fun _ _ _ h => h); (case hy => first | exact Or.inr ⟨by rfl, rfl⟩ | (refine Or.inl ⟨by rfl, ?_⟩; intro w_ hS_; go_simp; with_reducible rfl)); (case hS => exact hHeld2); (case ha => simp only [Act.put, List.setIfInBounds_toArray, List.set_cons_zero, List.set_cons_succ, i64_w, i32_w]; rfl))
      refine done_ (done_of HT_.out (by kernel_rfl)) ?_
      have HB2 := Lib.hid hHeld2
      clear hb2 hHeld hHeld2 HT_ HW_ HC HD
      go_wp2
      go_roundw
      case rel => exact ⟨i + 1, by omega, by go_num, HB2⟩
      case measure => simp [intOf]; omega
    · obtain rfl : i = xs.length := by omega
      go_wp2
      go_ret
      exact ⟨rfl, HB.out⟩
theorem kC_split {w : World} {x : IChg} {cs : List Value} (h : k90.K w x cs) : ∃ c2, cs = .int .i64 x.f0 :: .bool x.f1 :: c2 ∧ k46.K w x.f2 c2 := by
  obtain ⟨_, _, e0, h0, _, c2, e1, h1, h2⟩ := h
  subst e1
  subst e0
  exact ⟨c2, by rw [h0, h1]; rfl, h2⟩
set_option maxHeartbeats 16000000 in
set_option maxRecDepth 100000 in
theorem eqC_calls (n : Nat) (x : IChg) (cs ds : List Value) (w : World) (hk : k90.K w x cs) (hd : k90.K w x ds) (hs : SmOO n x.f2) :
    Calls Try.prog 122 #[.agg cs.toArray, .agg ds.toArray] w fun e w' => e = .returned (.bool true) ∧ Below w.heap.size w w' := by
  obtain ⟨c2, rfl, hk2⟩ := kC_split hk
  obtain ⟨d2, rfl, hd2⟩ := kC_split hd
  have hl2 : c2.length = 17 := (k46 : Kd IObj).K_len hk2
  have hm2 : d2.length = 17 := (k46 : Kd IObj).K_len hd2
  obtain ⟨W1, hW1⟩ : ∃ W1, (w.alloc (.cells (Value.int .i64 x.f0 :: Value.bool x.f1 :: c2).toArray 90)).alloc (.cells (Value.int .i64 x.f0 :: Value.bool x.f1 :: d2).toArray 90) = W1 := ⟨_, rfl⟩
  have hbA := below_alloc (below_alloc (Below.refl w.heap.size w) (.cells (Value.int .i64 x.f0 :: Value.bool x.f1 :: c2).toArray 90)) (.cells (Value.int .i64 x.f0 :: Value.bool x.f1 :: d2).toArray 90)
  obtain ⟨hb0, hb1, hsz⟩ := alloc2 w (.cells (Value.int .i64 x.f0 :: Value.bool x.f1 :: c2).toArray 90) (.cells (Value.int .i64 x.f0 :: Value.bool x.f1 :: d2).toArray 90)
  rw [hW1] at hb0 hb1 hsz hbA
  have HW1 := Lib.hid hW1
  have HBA := Lib.hid hbA
  have Q0 := Lib.hid hb0
  have Q1 := Lib.hid hb1
  have HL2 := Lib.hid hl2
  have HM2 := Lib.hid hm2
  have HK2 := Lib.hid ((k46 : Kd IObj).K_below hbA hk2)
  have HD2 := Lib.hid ((k46 : Kd IObj).K_below hbA hd2)
  have HS := Lib.hid hs
  clear hk hd hk2 hd2 hl2 hm2 hW1 hbA hb0 hb1 hsz hs
  go_enter Try.func122, Try.ntmps122
  go_wp2_with (first | ((with_reducible refine gate_dst (N := 16) rfl ?_); rw [HW1.out]; refine load_event rfl (N := 16) rfl 46 (.tmp 15) rfl ⟨w.heap.size, 2, none⟩ rfl c2 (blk_from Q0.out rfl) Try.underlying46 rfl ?hi ?_; (case hi => rw [HL2.out]; kernel_rfl)) | ((with_reducible refine gate_dst (N := 18) rfl ?_); refine load_event rfl (N := 18) rfl 46 (.tmp 17) rfl ⟨w.heap.size + 1, 2, none⟩ rfl d2 (blk_from Q1.out rfl) Try.underlying46 rfl ?hi ?_; (case hi => rw [HM2.out]; kernel_rfl)))
  refine (eqO_calls n x.f2 c2 d2 W1 HK2.out HD2.out HS.out).mono ?_
  rintro e w2 ⟨rfl, hb2⟩
  have HB2 := Lib.hid (below_step HBA.out hb2)
  clear hb2
  go_wp2
  go_ret
  exact ⟨rfl, HB2.out⟩
set_option maxHeartbeats 16000000 in
set_option maxRecDepth 100000 in
theorem eqCs_calls (n : Nat) (xs : List IChg) (A B : Option Addr) (c d : Nat) (w : World) (hr : Kd.C k90 w A xs.length xs) (hc : xs.length ≤ c) (hq : Kd.C k90 w B xs.length xs) (hd : xs.length ≤ d) (hs : ∀ x ∈ xs, SmOO n x.f2) :
    Calls Try.prog 65 #[.slice A xs.length c, .slice B xs.length d] w fun e w' => e = .returned (.bool true) ∧ Below w.heap.size w w' := by
  have hlen := hr.2.1
  have HR := Lib.hid hr
  have HQ := Lib.hid hq
  have HS := Lib.hid hs
  clear hr hq hs
  go_enter Try.func65, Try.ntmps65
  go_wp2
  go_loopw [5] (fun vi wr => ∃ i : Nat, i ≤ xs.length ∧ vi = .int .i64 i ∧ Hid (Below w.heap.size w wr)) (fun vi _ => xs.length - (intOf vi).toNat)
  case atStart => exact ⟨0, by omega, rfl, Below.refl _ _⟩
  case round =>
    obtain ⟨i, hi, rfl, HB⟩ := hrel
    by_cases hil : i < xs.length
    · obtain ⟨ad, cs, rfl, hcs, hK, hcell⟩ := row_at HR.out i hil
      obtain ⟨ae, ds, rfl, hds, hL, hdell⟩ := row_at HQ.out i hil
      have hsz : (k90 : Kd IChg).sz = 19 := rfl
      rw [hsz] at hcs hcell hds hdell
      have HK := Lib.hid hK
      have HL := Lib.hid hL
      have HC := Lib.hid hcell
      have HD := Lib.hid hdell
      have HCS := Lib.hid hcs
      have HDS := Lib.hid hds
      clear hcs hK hcell hds hL hdell hsz
      go_wp2_with fail
      refine start_ (n := 10) (S := fun w' => Below w.heap.size w w') (ds := []) #[false, false, false, false, false, false, false, false, false, false] (by kernel_rfl) rfl rfl (below_drew HB.out) (fun hHeld => ?_)
      refine with_tabW t_laws_eqChangeS_6 b_laws_eqChangeS_6 (fun HT_ HW_ => ?_)
      generalize wr.drew = w1 at hHeld ⊢
      repeat (apply takeA_ HT_.out HW_.out [0, 1, 2, 3, 4, 5, 6, 7]; (case hn => exact rfl); (case hi0 => exact rfl); (case hl => simp only [List.setIfInBounds_toArray, List.set_cons_zero, List.set_cons_succ]; rfl); (case hQ => exact fun _ _ _ h => h); (case hy => first | exact Or.inr ⟨by rfl, rfl⟩ | (exact yield_row (ad := ad.add (i * 19)) (cs := cs) (by rfl) rfl rfl (fun w_ hS_ => HC.out w_ hS_) Try.underlying90 rfl (by rw [HCS.out]; kernel_rfl)) | (exact yield_row (ad := ae.add (i * 19)) (cs := ds) (by rfl) rfl rfl (fun w_ hS_ => HD.out w_ hS_) Try.underlying90 rfl (by rw [HDS.out]; kernel_rfl)) | (refine Or.inl ⟨by rfl, ?_⟩; intro w_ hS_; go_simp; with_reducible rfl)); (case hS => exact hHeld); (case ha => simp only [Act.put, List.setIfInBounds_toArray, List.set_cons_zero, List.set_cons_succ, i64_w, i32_w]; rfl))
      have HB1 := Lib.hid hHeld
      refine callA_ (i := 8) (l' := ?_) HT_.out rfl rfl ?_ (by decide) Try.func122 (by kernel_rfl) rfl (by rfl) rfl (by (try simp only [List.map_toArray, List.map_cons, List.map_nil]); first | done | rfl) (eqC_calls n xs[i] cs ds w1 ((k90 : Kd IChg).K_below hHeld HK.out) ((k90 : Kd IChg).K_below hHeld HL.out) (HS.out _ (List.getElem_mem hil))) ?_
      rotate_left
      · simp only [List.setIfInBounds_toArray, List.set_cons_zero, List.set_cons_succ]; rfl
      rintro e w2 ⟨rfl, hb2⟩
      have hHeld2 := below_step HB1.out hb2
      refine ⟨_, rfl, hHeld2, ?_⟩
      refine norm_ (a' := ?_) ?_ ?_
      rotate_left
      · simp only [Act.put, List.setIfInBounds_toArray, List.set_cons_zero, List.set_cons_succ, i64_w, i32_w]; rfl
      repeat (apply takeA_ HT_.out HW_.out [9]; (case hn => exact rfl); (case hi0 => exact rfl); (case hl => simp only [List.setIfInBounds_toArray, List.set_cons_zero, List.set_cons_succ]; rfl); (case hQ => exact fun _ _ _ h => h); (case hy => first | exact Or.inr ⟨by rfl, rfl⟩ | (refine Or.inl ⟨by rfl, ?_⟩; intro w_ hS_; go_simp; with_reducible rfl)); (case hS => exact hHeld2); (case ha => simp only [Act.put, List.setIfInBounds_toArray, List.set_cons_zero, List.set_cons_succ, i64_w, i32_w]; rfl))
      refine done_ (done_of HT_.out (by kernel_rfl)) ?_
      have HB2 := Lib.hid hHeld2
      clear hb2 hHeld hHeld2 HT_ HW_ HC HD
      go_wp2
      go_roundw
      case rel => exact ⟨i + 1, by omega, by go_num, HB2⟩
      case measure => simp [intOf]; omega
    · obtain rfl : i = xs.length := by omega
      go_wp2
      go_ret
      exact ⟨rfl, HB.out⟩
end Go.Proofs.Ytmoiacijklkfaaa.G

/- G71 -/
-- Laid by wip/g/gprint.py out of the translation, by the kit's print program. Lean checks it.
namespace Go.Proofs.Ytmoiacijklkfaaa.G
open Go.RowKit Go.Proofs.YtmoiacijklkfaaaW.PrintWords Go.Proofs.YtmoiacijklkfaaaW.PrintLast Go.Proofs.YtmoiacijklkfaaaW.PrintMore
attribute [local go_sem] max2_int min2_int max_two min_two max_three min_three max_four min_four   -- for this text's walks alone
set_option linter.unusedVariables false
set_option linter.unusedSimpArgs false

/-! ### impl_within: function 71 -/
end Go.Proofs.Ytmoiacijklkfaaa.G

/- G91 -/
-- Laid by wip/g/gprint.py out of the translation, by the kit's print program. Lean checks it.
namespace Go.Proofs.Ytmoiacijklkfaaa.G
open Go.RowKit Go.Proofs.YtmoiacijklkfaaaW.PrintWords Go.Proofs.YtmoiacijklkfaaaW.PrintLast Go.Proofs.YtmoiacijklkfaaaW.PrintMore
attribute [local go_sem] max2_int min2_int max_two min_two max_three min_three max_four min_four   -- for this text's walks alone
set_option linter.unusedVariables false
set_option linter.unusedSimpArgs false

/-! ### impl_NameOk: function 91 -/
end Go.Proofs.Ytmoiacijklkfaaa.G

/- G68 -/
-- Laid by wip/g/gprint.py out of the translation, by the kit's print program. Lean checks it.
namespace Go.Proofs.Ytmoiacijklkfaaa.G
open Go.RowKit Go.Proofs.YtmoiacijklkfaaaW.PrintWords Go.Proofs.YtmoiacijklkfaaaW.PrintLast Go.Proofs.YtmoiacijklkfaaaW.PrintMore
attribute [local go_sem] max2_int min2_int max_two min_two max_three min_three max_four min_four   -- for this text's walks alone
set_option linter.unusedVariables false
set_option linter.unusedSimpArgs false

/-! ### spec_l1In: function 68 -/
end Go.Proofs.Ytmoiacijklkfaaa.G

/- G111 -/
-- Laid by wip/g/gprint.py out of the translation, by the kit's print program. Lean checks it.
namespace Go.Proofs.Ytmoiacijklkfaaa.G
open Go.RowKit Go.Proofs.YtmoiacijklkfaaaW.PrintWords Go.Proofs.YtmoiacijklkfaaaW.PrintLast Go.Proofs.YtmoiacijklkfaaaW.PrintMore
attribute [local go_sem] max2_int min2_int max_two min_two max_three min_three max_four min_four   -- for this text's walks alone
set_option linter.unusedVariables false
set_option linter.unusedSimpArgs false

/-! ### spec_NameOk: function 111 -/
end Go.Proofs.Ytmoiacijklkfaaa.G

/- PName -/
/-
  Names and labels that are right: the program's test and the reference's.
-/
namespace Go.Proofs.Ytmoiacijklkfaaa.G
open Go.RowKit Go.Proofs.YtmoiacijklkfaaaW.PrintWords Go.Proofs.YtmoiacijklkfaaaW.PrintLast Go.Proofs.YtmoiacijklkfaaaW.PrintMore
set_option linter.unusedVariables false
set_option linter.unusedSimpArgs false
end Go.Proofs.Ytmoiacijklkfaaa.G

/- G103 -/
-- Laid by wip/g/gprint.py out of the translation, by the kit's print program. Lean checks it.
namespace Go.Proofs.Ytmoiacijklkfaaa.G
open Go.RowKit Go.Proofs.YtmoiacijklkfaaaW.PrintWords Go.Proofs.YtmoiacijklkfaaaW.PrintLast Go.Proofs.YtmoiacijklkfaaaW.PrintMore
attribute [local go_sem] max2_int min2_int max_two min_two max_three min_three max_four min_four   -- for this text's walks alone
set_option linter.unusedVariables false
set_option linter.unusedSimpArgs false

/-! ### impl_namesOk: function 103 -/
end Go.Proofs.Ytmoiacijklkfaaa.G

/- PNames -/
/-
  Names in order.
-/
namespace Go.Proofs.Ytmoiacijklkfaaa.G
open Go.RowKit Go.Proofs.YtmoiacijklkfaaaW.PrintWords Go.Proofs.YtmoiacijklkfaaaW.PrintLast Go.Proofs.YtmoiacijklkfaaaW.PrintMore
set_option linter.unusedVariables false
set_option linter.unusedSimpArgs false
/-! ### names in order; terms and selectors that are right -/
end Go.Proofs.Ytmoiacijklkfaaa.G

/- G152 -/
-- Laid by wip/g/gprint.py out of the translation, by the kit's print program. Lean checks it.
namespace Go.Proofs.Ytmoiacijklkfaaa.G
open Go.RowKit Go.Proofs.YtmoiacijklkfaaaW.PrintWords Go.Proofs.YtmoiacijklkfaaaW.PrintLast Go.Proofs.YtmoiacijklkfaaaW.PrintMore
attribute [local go_sem] max2_int min2_int max_two min_two max_three min_three max_four min_four   -- for this text's walks alone
set_option linter.unusedVariables false
set_option linter.unusedSimpArgs false

/-! ### impl_shapeOk: function 152 -/
end Go.Proofs.Ytmoiacijklkfaaa.G

/- G137 -/
-- Laid by wip/g/gprint.py out of the translation, by the kit's print program. Lean checks it.
namespace Go.Proofs.Ytmoiacijklkfaaa.G
open Go.RowKit Go.Proofs.YtmoiacijklkfaaaW.PrintWords Go.Proofs.YtmoiacijklkfaaaW.PrintLast Go.Proofs.YtmoiacijklkfaaaW.PrintMore
attribute [local go_sem] max2_int min2_int max_two min_two max_three min_three max_four min_four   -- for this text's walks alone
set_option linter.unusedVariables false
set_option linter.unusedSimpArgs false

/-! ### impl_measured: function 137 -/
end Go.Proofs.Ytmoiacijklkfaaa.G

/- G153 -/
-- Laid by wip/g/gprint.py out of the translation, by the kit's print program. Lean checks it.
namespace Go.Proofs.Ytmoiacijklkfaaa.G
open Go.RowKit Go.Proofs.YtmoiacijklkfaaaW.PrintWords Go.Proofs.YtmoiacijklkfaaaW.PrintLast Go.Proofs.YtmoiacijklkfaaaW.PrintMore
attribute [local go_sem] max2_int min2_int max_two min_two max_three min_three max_four min_four   -- for this text's walks alone
set_option linter.unusedVariables false
set_option linter.unusedSimpArgs false

/-! ### spec_l4Text: function 153 -/
end Go.Proofs.Ytmoiacijklkfaaa.G

/- G154 -/
-- Laid by wip/g/gprint.py out of the translation, by the kit's print program. Lean checks it.
namespace Go.Proofs.Ytmoiacijklkfaaa.G
open Go.RowKit Go.Proofs.YtmoiacijklkfaaaW.PrintWords Go.Proofs.YtmoiacijklkfaaaW.PrintLast Go.Proofs.YtmoiacijklkfaaaW.PrintMore
attribute [local go_sem] max2_int min2_int max_two min_two max_three min_three max_four min_four   -- for this text's walks alone
set_option linter.unusedVariables false
set_option linter.unusedSimpArgs false

/-! ### spec_l4Keys: function 154 -/
end Go.Proofs.Ytmoiacijklkfaaa.G

/- G140 -/
-- Laid by wip/g/gprint.py out of the translation, by the kit's print program. Lean checks it.
namespace Go.Proofs.Ytmoiacijklkfaaa.G
open Go.RowKit Go.Proofs.YtmoiacijklkfaaaW.PrintWords Go.Proofs.YtmoiacijklkfaaaW.PrintLast Go.Proofs.YtmoiacijklkfaaaW.PrintMore
attribute [local go_sem] max2_int min2_int max_two min_two max_three min_three max_four min_four   -- for this text's walks alone
set_option linter.unusedVariables false
set_option linter.unusedSimpArgs false

/-! ### spec_l4Look: function 140 -/
end Go.Proofs.Ytmoiacijklkfaaa.G

/- PValueOk -/
/-
  Values that are right, and their size; the laws of ValueOk and SizeOf.
-/
namespace Go.Proofs.Ytmoiacijklkfaaa.G
open Go.RowKit Go.Proofs.YtmoiacijklkfaaaW.PrintWords Go.Proofs.YtmoiacijklkfaaaW.PrintLast Go.Proofs.YtmoiacijklkfaaaW.PrintMore
set_option linter.unusedVariables false
set_option linter.unusedSimpArgs false
end Go.Proofs.Ytmoiacijklkfaaa.G

/- G95 -/
-- Laid by wip/g/gprint.py out of the translation, by the kit's print program. Lean checks it.
namespace Go.Proofs.Ytmoiacijklkfaaa.G
open Go.RowKit Go.Proofs.YtmoiacijklkfaaaW.PrintWords Go.Proofs.YtmoiacijklkfaaaW.PrintLast Go.Proofs.YtmoiacijklkfaaaW.PrintMore
attribute [local go_sem] max2_int min2_int max_two min_two max_three min_three max_four min_four   -- for this text's walks alone
set_option linter.unusedVariables false
set_option linter.unusedSimpArgs false

/-! ### impl_ValueOk: function 95 -/
end Go.Proofs.Ytmoiacijklkfaaa.G

/- G97 -/
-- Laid by wip/g/gprint.py out of the translation, by the kit's print program. Lean checks it.
namespace Go.Proofs.Ytmoiacijklkfaaa.G
open Go.RowKit Go.Proofs.YtmoiacijklkfaaaW.PrintWords Go.Proofs.YtmoiacijklkfaaaW.PrintLast Go.Proofs.YtmoiacijklkfaaaW.PrintMore
attribute [local go_sem] max2_int min2_int max_two min_two max_three min_three max_four min_four   -- for this text's walks alone
set_option linter.unusedVariables false
set_option linter.unusedSimpArgs false

/-! ### spec_ValueOk: function 97 -/
end Go.Proofs.Ytmoiacijklkfaaa.G

/- PValB -/
/-
  ValueOk, both.
-/
namespace Go.Proofs.Ytmoiacijklkfaaa.G
open Go.RowKit Go.Proofs.YtmoiacijklkfaaaW.PrintWords Go.Proofs.YtmoiacijklkfaaaW.PrintLast Go.Proofs.YtmoiacijklkfaaaW.PrintMore
set_option linter.unusedVariables false
set_option linter.unusedSimpArgs false
end Go.Proofs.Ytmoiacijklkfaaa.G

/- G104 -/
-- Laid by wip/g/gprint.py out of the translation, by the kit's print program. Lean checks it.
namespace Go.Proofs.Ytmoiacijklkfaaa.G
open Go.RowKit Go.Proofs.YtmoiacijklkfaaaW.PrintWords Go.Proofs.YtmoiacijklkfaaaW.PrintLast Go.Proofs.YtmoiacijklkfaaaW.PrintMore
attribute [local go_sem] max2_int min2_int max_two min_two max_three min_three max_four min_four   -- for this text's walks alone
set_option linter.unusedVariables false
set_option linter.unusedSimpArgs false

/-! ### spec_l7Waits: function 104 -/
end Go.Proofs.Ytmoiacijklkfaaa.G

/- G117 -/
-- Laid by wip/g/gprint.py out of the translation, by the kit's print program. Lean checks it.
namespace Go.Proofs.Ytmoiacijklkfaaa.G
open Go.RowKit Go.Proofs.YtmoiacijklkfaaaW.PrintWords Go.Proofs.YtmoiacijklkfaaaW.PrintLast Go.Proofs.YtmoiacijklkfaaaW.PrintMore
attribute [local go_sem] max2_int min2_int max_two min_two max_three min_three max_four min_four   -- for this text's walks alone
set_option linter.unusedVariables false
set_option linter.unusedSimpArgs false

/-! ### impl_isKind: function 117 -/
end Go.Proofs.Ytmoiacijklkfaaa.G

/- G155 -/
-- Laid by wip/g/gprint.py out of the translation, by the kit's print program. Lean checks it.
namespace Go.Proofs.Ytmoiacijklkfaaa.G
open Go.RowKit Go.Proofs.YtmoiacijklkfaaaW.PrintWords Go.Proofs.YtmoiacijklkfaaaW.PrintLast Go.Proofs.YtmoiacijklkfaaaW.PrintMore
attribute [local go_sem] max2_int min2_int max_two min_two max_three min_three max_four min_four   -- for this text's walks alone
set_option linter.unusedVariables false
set_option linter.unusedSimpArgs false

/-! ### cmp_isNaN_int: function 155 -/
end Go.Proofs.Ytmoiacijklkfaaa.G

/- G145 -/
-- Laid by wip/g/gprint.py out of the translation, by the kit's print program. Lean checks it.
namespace Go.Proofs.Ytmoiacijklkfaaa.G
open Go.RowKit Go.Proofs.YtmoiacijklkfaaaW.PrintWords Go.Proofs.YtmoiacijklkfaaaW.PrintLast Go.Proofs.YtmoiacijklkfaaaW.PrintMore
attribute [local go_sem] max2_int min2_int max_two min_two max_three min_three max_four min_four   -- for this text's walks alone
set_option linter.unusedVariables false
set_option linter.unusedSimpArgs false

/-! ### cmp_Compare_int: function 145 -/
end Go.Proofs.Ytmoiacijklkfaaa.G

/- GKObjOk -/
/-
  Objects that are right: the reference's test and the program's.
-/
namespace Go.Proofs.Ytmoiacijklkfaaa.G
open Go.RowKit Go.Proofs.YtmoiacijklkfaaaW.PrintWords Go.Proofs.YtmoiacijklkfaaaW.PrintLast Go.Proofs.YtmoiacijklkfaaaW.PrintMore
attribute [local go_sem] max2_int min2_int max_two min_two max_three min_three max_four min_four
set_option linter.unusedVariables false
set_option linter.unusedSimpArgs false
/-- What is small enough to be looked at. -/
def SmX (n : Nat) (x : IObj) : Prop := x.f1.size ≤ 9223372036854775807 ∧ wfStrs x.f6 ∧ SmI n x.f7 ∧ SmI n x.f8
end Go.Proofs.Ytmoiacijklkfaaa.G

/- GKIns -/
/-
  Rows of several cells an element: copied, lengthened by zeros, a new element put in; a search by halves.
-/
namespace Go.Proofs.Ytmoiacijklkfaaa.G
open Go.RowKit Go.Proofs.YtmoiacijklkfaaaW.PrintWords Go.Proofs.YtmoiacijklkfaaaW.PrintLast Go.Proofs.YtmoiacijklkfaaaW.PrintMore
set_option linter.unusedVariables false
set_option linter.unusedSimpArgs false
/-! ### a search by halves, as a function -/
/-! ### elements in a row: cut, joined; a row written anew -/
theorem R_put {α : Type} {d : Kd α} {t base : Nat} {ok : Nat → Prop} {w w' : World} {g' C : Nat} {cur' : Array Value} {zs : List α} {inner : List Value} {own : Option Nat}
    (hr : Reps (d.M w base (fun k => ok k ∧ some k ≠ own)) d.sz zs inner) (hb : base ≤ g') (hh : w'.heap[g']? = some (.cells cur' t (0, 0))) (h1 : zs.length ≤ C) (h2 : C ≤ maxLen) (h3 : cur'.size = C * d.sz)
    (h4 : cur'.toList.take (zs.length * d.sz) = inner) (hok : ok g') (hg : own = some g' ∨ w.heap.size ≤ g') (hm : ∀ k, k < w.heap.size → some k ≠ own → w'.heap[k]? = w.heap[k]?) :
    d.R t w' base ok (.slice (some ⟨g', 0, none⟩) zs.length C) zs := by
  refine R_of_block hb hh h1 h2 h3 hok ?_
  rw [h4]
  refine hr.imp_ (fun q cq hq => ?_)
  have hb := d.M_bound hq
  refine d.M_mono (fun k hk => ⟨hk.1.1, ?_⟩) (d.M_move (fun k hk => hm k hk.2.2.1 hk.1.2) hb)
  rcases hg with hg | hg
  · intro e; exact hk.1.2 (by rw [hg, e])
  · have := hk.2.2.1; omega
end Go.Proofs.Ytmoiacijklkfaaa.G

/- POrder -/
/-
  The order of texts; a search by halves where what is less stands ahead.
-/
namespace Go.Proofs.Ytmoiacijklkfaaa.G
open Go.RowKit Go.Proofs.YtmoiacijklkfaaaW.PrintWords Go.Proofs.YtmoiacijklkfaaaW.PrintLast Go.Proofs.YtmoiacijklkfaaaW.PrintMore
set_option linter.unusedVariables false
set_option linter.unusedSimpArgs false
/-! ### a search by halves -/
end Go.Proofs.Ytmoiacijklkfaaa.G

/- G146 -/
-- Laid by wip/g/gprint.py out of the translation, by the kit's print program. Lean checks it.
namespace Go.Proofs.Ytmoiacijklkfaaa.G
open Go.RowKit Go.Proofs.YtmoiacijklkfaaaW.PrintWords Go.Proofs.YtmoiacijklkfaaaW.PrintLast Go.Proofs.YtmoiacijklkfaaaW.PrintMore
attribute [local go_sem] max2_int min2_int max_two min_two max_three min_three max_four min_four   -- for this text's walks alone
set_option linter.unusedVariables false
set_option linter.unusedSimpArgs false

/-! ### strings_Compare: function 146 -/
--IMPORT Derived.Test.YtmoiacijklkfaaaShelf
end Go.Proofs.Ytmoiacijklkfaaa.G

/- G126 -/
-- Laid by wip/g/gprint.py out of the translation, by the kit's print program. Lean checks it.
namespace Go.Proofs.Ytmoiacijklkfaaa.G
open Go.RowKit Go.Proofs.YtmoiacijklkfaaaW.PrintWords Go.Proofs.YtmoiacijklkfaaaW.PrintLast Go.Proofs.YtmoiacijklkfaaaW.PrintMore
attribute [local go_sem] max2_int min2_int max_two min_two max_three min_three max_four min_four   -- for this text's walks alone
set_option linter.unusedVariables false
set_option linter.unusedSimpArgs false

/-! ### slices_IndexFunc_simpl_Obj_impl_Obj: function 126 -/
set_option maxRecDepth 100000 in
theorem slices_IndexFunc_simpl_Obj_impl_Obj.calls {α : Type} (d : Kd α) (hd : d.sz = 17) (kf : Nat) (hkf : ∀ (zs : Array Value) (W : World), (callFunc kf zs).run Try.prog W = .ok (.enter kf zs) W) (caps : Array Value) (p : α → Option Bool) (A0 : Option Addr) (c0 : Nat) (l0 : List α) (r : Int) (w : World) (hr0 : Kd.C d w A0 l0.length l0) (hc0 : l0.length ≤ c0)
    (hf : ∀ (x : α) (cs : List Value) (b : Bool) (W : World), x ∈ l0 → p x = some b → d.K W x cs → Below w.heap.size w W → Calls Try.prog kf (#[(.agg (cs).toArray)] ++ caps) W fun e w' => e = .returned (.bool b) ∧ Below W.heap.size W w') (h : idxO p l0 0 = some r) :
    Calls Try.prog 126 #[.slice A0 l0.length c0, .func (.func kf) #[] caps] w fun e w' => e = .returned (.int .i64 r) ∧ Below w.heap.size w w' := by
  have hm : l0.length ≤ 9223372036854775807 := hr0.2.1
  have HR := Lib.hid hr0
  have HF := Lib.hid hf
  have HH := Lib.hid h
  have HD := Lib.hid hd
  clear hr0 hf h hd
  go_enter Try.func126, Try.ntmps126
  go_wp2
  go_loopw [5, 8] (fun _ i wr => ∃ k : Nat, k ≤ l0.length ∧ i = .int .i64 k ∧ Hid (idxO p (l0.drop k) k = some r) ∧ Hid (Below w.heap.size w wr)) (fun _ i _ => l0.length - (intOf i).toNat)
  case atStart => exact ⟨0, by omega, rfl, HH, Below.refl _ _⟩
  case round =>
    obtain ⟨k, hk, rfl, HE, HB⟩ := hrel
    by_cases hlt : k < l0.length
    · obtain ⟨b, hp, hb1, hb2⟩ := idxO_step hlt HE.out
      have HP := Lib.hid hp
      have B1 := Lib.hid hb1
      have B2 := Lib.hid hb2
      clear hp hb1 hb2
      obtain ⟨ad, cs, rfl, hcs, hK, hcell⟩ := Kd.C_get HR.out l0[k] (k : Int) (by omega) (by omega)
      rw [HD.out] at hcs hcell
      obtain ⟨y0, y1, y2, y3, y4, y5, y6, y7, y8, y9, y10, y11, y12, y13, y14, y15, y16, rfl⟩ : ∃ y0 y1 y2 y3 y4 y5 y6 y7 y8 y9 y10 y11 y12 y13 y14 y15 y16, cs = [y0, y1, y2, y3, y4, y5, y6, y7, y8, y9, y10, y11, y12, y13, y14, y15, y16] := by match cs, hcs with | [y0, y1, y2, y3, y4, y5, y6, y7, y8, y9, y10, y11, y12, y13, y14, y15, y16], _ => exact ⟨y0, y1, y2, y3, y4, y5, y6, y7, y8, y9, y10, y11, y12, y13, y14, y15, y16, rfl⟩
      clear hcs
      simp only [Int.toNat_natCast, getD_at hlt] at hK hcell
      have HK := Lib.hid (d.K_below HB.out hK)
      clear hK
      have d0 := pw_cell_below HB.out (hcell 0 y0 rfl)
      have d1 := pw_cell_below HB.out (hcell 1 y1 rfl)
      have d2 := pw_cell_below HB.out (hcell 2 y2 rfl)
      have d3 := pw_cell_below HB.out (hcell 3 y3 rfl)
      have d4 := pw_cell_below HB.out (hcell 4 y4 rfl)
      have d5 := pw_cell_below HB.out (hcell 5 y5 rfl)
      have d6 := pw_cell_below HB.out (hcell 6 y6 rfl)
      have d7 := pw_cell_below HB.out (hcell 7 y7 rfl)
      have d8 := pw_cell_below HB.out (hcell 8 y8 rfl)
      have d9 := pw_cell_below HB.out (hcell 9 y9 rfl)
      have d10 := pw_cell_below HB.out (hcell 10 y10 rfl)
      have d11 := pw_cell_below HB.out (hcell 11 y11 rfl)
      have d12 := pw_cell_below HB.out (hcell 12 y12 rfl)
      have d13 := pw_cell_below HB.out (hcell 13 y13 rfl)
      have d14 := pw_cell_below HB.out (hcell 14 y14 rfl)
      have d15 := pw_cell_below HB.out (hcell 15 y15 rfl)
      have d16 := pw_cell_below HB.out (hcell 16 y16 rfl)
      clear hcell
      simp only [Nat.add_zero, Nat.mul_one] at d0
      rw [add_field _ _ 1 (by omega)] at d1
      rw [add_field _ _ 2 (by omega)] at d2
      rw [add_field _ _ 3 (by omega)] at d3
      rw [add_field _ _ 4 (by omega)] at d4
      rw [add_field _ _ 5 (by omega)] at d5
      rw [add_field _ _ 6 (by omega)] at d6
      rw [add_field _ _ 7 (by omega)] at d7
      rw [add_field _ _ 8 (by omega)] at d8
      rw [add_field _ _ 9 (by omega)] at d9
      rw [add_field _ _ 10 (by omega)] at d10
      rw [add_field _ _ 11 (by omega)] at d11
      rw [add_field _ _ 12 (by omega)] at d12
      rw [add_field _ _ 13 (by omega)] at d13
      rw [add_field _ _ 14 (by omega)] at d14
      rw [add_field _ _ 15 (by omega)] at d15
      rw [add_field _ _ 16 (by omega)] at d16
      cases b
      · have B3 := Lib.hid (B2.out rfl)
        clear B1 B2
        go_wp2_with fail
        refine (HF.out l0[k] _ _ _ (List.getElem_mem hlt) HP.out HK.out HB.out).mono ?_
        rintro e w' ⟨rfl, hbx⟩
        have HB2 := hid_below HB hbx
        clear hbx
        go_wp2
        go_roundw
        case rel => exact ⟨k + 1, by omega, by go_num, B3, HB2⟩
        case measure => simp [intOf]; omega
      · have B3 := Lib.hid (B1.out rfl)
        clear B1 B2
        go_wp2_with fail
        refine (HF.out l0[k] _ _ _ (List.getElem_mem hlt) HP.out HK.out HB.out).mono ?_
        rintro e w' ⟨rfl, hbx⟩
        have HB2 := hid_below HB hbx
        clear hbx
        go_wp2
        go_ret
        obtain rfl := B3.out
        exact ⟨rfl, HB2.out⟩
    · obtain rfl : k = l0.length := by omega
      go_wp2
      go_ret
      exact ⟨by rw [idxO_end HE.out]; rfl, HB.out⟩

end Go.Proofs.Ytmoiacijklkfaaa.G

/- G124 -/
-- Laid by wip/g/gprint.py out of the translation, by the kit's print program. Lean checks it.
namespace Go.Proofs.Ytmoiacijklkfaaa.G
open Go.RowKit Go.Proofs.YtmoiacijklkfaaaW.PrintWords Go.Proofs.YtmoiacijklkfaaaW.PrintLast Go.Proofs.YtmoiacijklkfaaaW.PrintMore
attribute [local go_sem] max2_int min2_int max_two min_two max_three min_three max_four min_four   -- for this text's walks alone
set_option linter.unusedVariables false
set_option linter.unusedSimpArgs false

/-! ### slices_ContainsFunc_simpl_Obj_impl_Obj: function 124 -/
theorem slices_ContainsFunc_simpl_Obj_impl_Obj.calls {α : Type} (d : Kd α) (hd : d.sz = 17) (kf : Nat) (hkf : ∀ (zs : Array Value) (W : World), (callFunc kf zs).run Try.prog W = .ok (.enter kf zs) W) (caps : Array Value) (p : α → Option Bool) (A0 : Option Addr) (c0 : Nat) (l0 : List α) (r : Int) (w : World) (hr0 : Kd.C d w A0 l0.length l0) (hc0 : l0.length ≤ c0)
    (hf : ∀ (x : α) (cs : List Value) (b : Bool) (W : World), x ∈ l0 → p x = some b → d.K W x cs → Below w.heap.size w W → Calls Try.prog kf (#[(.agg (cs).toArray)] ++ caps) W fun e w' => e = .returned (.bool b) ∧ Below W.heap.size W w') (h : idxO p l0 0 = some r) :
    Calls Try.prog 124 #[.slice A0 l0.length c0, .func (.func kf) #[] caps] w fun e w' => e = .returned (.bool (decide (0 ≤ r))) ∧ Below w.heap.size w w' := by
  have HR := Lib.hid hr0
  have HF := Lib.hid hf
  have HH := Lib.hid h
  have HD := Lib.hid hd
  clear hr0 hf h hd
  go_enter Try.func124, Try.ntmps124
  go_wp2_with fail
  refine (slices_IndexFunc_simpl_Obj_impl_Obj.calls d HD.out kf hkf caps p A0 c0 l0 r _ HR.out hc0 HF.out HH.out).mono ?_
  rintro e w' ⟨rfl, hb⟩
  have HB := Lib.hid hb
  clear hb
  go_wp2
  go_ret
  exact ⟨rfl, HB.out⟩

end Go.Proofs.Ytmoiacijklkfaaa.G

/- GKLess -/
/-
  The order of objects by kind and name; lists of objects that are right.
-/
namespace Go.Proofs.Ytmoiacijklkfaaa.G
open Go.RowKit Go.Proofs.YtmoiacijklkfaaaW.PrintWords Go.Proofs.YtmoiacijklkfaaaW.PrintLast Go.Proofs.YtmoiacijklkfaaaW.PrintMore
attribute [local go_sem] max2_int min2_int max_two min_two max_three min_three max_four min_four
set_option linter.unusedVariables false
set_option linter.unusedSimpArgs false
end Go.Proofs.Ytmoiacijklkfaaa.G

/- GKObjsOk -/
/-
  Lists of objects that are right: the reference's test and the program's.
-/
namespace Go.Proofs.Ytmoiacijklkfaaa.G
open Go.RowKit Go.Proofs.YtmoiacijklkfaaaW.PrintWords Go.Proofs.YtmoiacijklkfaaaW.PrintLast Go.Proofs.YtmoiacijklkfaaaW.PrintMore
attribute [local go_sem] max2_int min2_int max_two min_two max_three min_three max_four min_four
set_option linter.unusedVariables false
set_option linter.unusedSimpArgs false
theorem add_fld (a : Addr) (k : Nat) (hk : 0 < k) : a.add k = ⟨a.block, a.off + k, none⟩ := by
  unfold Addr.add
  rw [if_neg (by omega)]
end Go.Proofs.Ytmoiacijklkfaaa.G

/- GKBaseOk -/
/-
  Bases that are right: the reference's test and the program's.
-/
namespace Go.Proofs.Ytmoiacijklkfaaa.G
open Go.RowKit Go.Proofs.YtmoiacijklkfaaaW.PrintWords Go.Proofs.YtmoiacijklkfaaaW.PrintLast Go.Proofs.YtmoiacijklkfaaaW.PrintMore
attribute [local go_sem] max2_int min2_int max_two min_two max_three min_three max_four min_four
set_option linter.unusedVariables false
set_option linter.unusedSimpArgs false
theorem cells4 {w : World} {g t : Nat} {a0 a1 a2 a3 : Value} (h : w.heap[g]? = some (.cells #[a0, a1, a2, a3] t (0, 0))) : w.cell? ⟨g, 0, none⟩ = some a0 ∧ w.cell? ⟨g, 1, none⟩ = some a1 ∧ w.cell? ⟨g, 2, none⟩ = some a2 ∧ w.cell? ⟨g, 3, none⟩ = some a3 := ⟨blk_cell h 0, blk_cell h 1, blk_cell h 2, blk_cell h 3⟩
end Go.Proofs.Ytmoiacijklkfaaa.G

/- GKSz -/
/-
  Sizes of bases: what is left says that all is small, and how many marks there are.
-/
namespace Go.Proofs.Ytmoiacijklkfaaa.G
open Go.RowKit Go.Proofs.YtmoiacijklkfaaaW.PrintWords Go.Proofs.YtmoiacijklkfaaaW.PrintLast Go.Proofs.YtmoiacijklkfaaaW.PrintMore
attribute [local go_sem] max2_int min2_int max_two min_two max_three min_three max_four min_four
set_option linter.unusedVariables false
set_option linter.unusedSimpArgs false
def wfLON (n : Nat) (x : LObj) : Prop := wfStr x.f1 ∧ wfStrs x.f6 ∧ wfValN n x.f7 ∧ wfValN n x.f8
def mcLO (n : Nat) (x : LObj) : Nat := x.f6.length + (mcL n x.f7 + mcL n x.f8)
set_option maxHeartbeats 16000000 in
set_option maxRecDepth 100000 in
theorem szO_calls (n : Nat) (x : LObj) (cs : List Value) (left : Int) (w : World) (hk : k121.K w x cs) (hw : wfLON n x) (h0 : 0 ≤ left) (h1 : left ≤ 1048576) :
    Calls Try.prog 109 #[.agg cs.toArray, .int .i64 left] w fun e w' => ∃ r, e = .returned (.int .i64 r) ∧ Left left (SmLO n x ∧ (mcLO n x : Int) ≤ 4 * (left - r)) r ∧ Below w.heap.size w w' := by
  obtain ⟨A6, c6, A10, c10, A11, c11, A15, c15, A16, c16, rfl, l6, g6, l10, g10, l11, g11, l15, g15, l16, g16⟩ := k121_open hk
  obtain ⟨hw1, hw6, hw7, hw8⟩ := hw
  unfold wfStr at hw1
  obtain ⟨W1, hW1⟩ : ∃ W1, w.alloc (.cells #[.int .i64 x.f0, .string x.f1, .int .i64 x.f2, .int .i64 x.f3, .int .i64 x.f4, .bool x.f5, .slice A6 x.f6.length c6, .int .i64 x.f7.f0, .string x.f7.f1, .int .i64 x.f7.f2, .slice A10 x.f7.f3.length c10, .slice A11 x.f7.f4.length c11, .int .i64 x.f8.f0, .string x.f8.f1, .int .i64 x.f8.f2, .slice A15 x.f8.f3.length c15, .slice A16 x.f8.f4.length c16] 121) = W1 := ⟨_, rfl⟩
  have hbA := below_alloc (Below.refl w.heap.size w) (.cells #[.int .i64 x.f0, .string x.f1, .int .i64 x.f2, .int .i64 x.f3, .int .i64 x.f4, .bool x.f5, .slice A6 x.f6.length c6, .int .i64 x.f7.f0, .string x.f7.f1, .int .i64 x.f7.f2, .slice A10 x.f7.f3.length c10, .slice A11 x.f7.f4.length c11, .int .i64 x.f8.f0, .string x.f8.f1, .int .i64 x.f8.f2, .slice A15 x.f8.f3.length c15, .slice A16 x.f8.f4.length c16] 121)
  have hb0 := blk_new w (.cells #[.int .i64 x.f0, .string x.f1, .int .i64 x.f2, .int .i64 x.f3, .int .i64 x.f4, .bool x.f5, .slice A6 x.f6.length c6, .int .i64 x.f7.f0, .string x.f7.f1, .int .i64 x.f7.f2, .slice A10 x.f7.f3.length c10, .slice A11 x.f7.f4.length c11, .int .i64 x.f8.f0, .string x.f8.f1, .int .i64 x.f8.f2, .slice A15 x.f8.f3.length c15, .slice A16 x.f8.f4.length c16] 121)
  rw [hW1] at hbA hb0
  have HW1 := Lib.hid hW1
  have HBA := Lib.hid hbA
  have Q1 : Hid (W1.heap[w.heap.size]? = some (.cells (lobC x (.slice A6 x.f6.length c6) (.slice A10 x.f7.f3.length c10) (.slice A11 x.f7.f4.length c11) (.slice A15 x.f8.f3.length c15) (.slice A16 x.f8.f4.length c16)) 121 (0, 0))) := Lib.hid hb0
  have G6 := Lib.hid (Kd.C_below g6 hbA)
  have G10 := Lib.hid (Kd.C_below g10 hbA)
  have G11 := Lib.hid (Kd.C_below g11 hbA)
  have G15 := Lib.hid (Kd.C_below g15 hbA)
  have G16 := Lib.hid (Kd.C_below g16 hbA)
  clear hk g6 g10 g11 g15 g16 hW1 hbA hb0
  by_cases c1 : left - (x.f1.size : Int) < 0
  · clear hw6 hw7 hw8
    go_enter Try.func109, Try.ntmps109
    go_wp2
    go_ret
    exact ⟨-1, rfl, .inl (by omega), by rw [HW1.out]; exact HBA.out⟩
  have hz := szStringS_ev x.f6 (left - (x.f1.size : Int)) hw6 (by omega) (by omega)
  have hle := szR_le (by omega : 0 ≤ left - (x.f1.size : Int)) (totStrs x.f6)
  have hsm := fun h => strs_small (xs := x.f6) (left := left - (x.f1.size : Int)) (by omega) h
  have hqv := fun (h : 0 ≤ szR (left - (x.f1.size : Int)) (totStrs x.f6)) => szR_pos (szR_nonneg h)
  have htl : x.f6.length ≤ totStrs x.f6 := by unfold totStrs; omega
  generalize hq : szR (left - (x.f1.size : Int)) (totStrs x.f6) = q at hz hle hsm hqv
  obtain ⟨K6, e6⟩ := hz
  have E6 := Lib.hid (e6 K6 (Nat.le_refl _))
  have HSM := Lib.hid hsm
  have HQV := Lib.hid hqv
  have HTL := Lib.hid htl
  have HLE := Lib.hid hle
  have HW7 := Lib.hid hw7
  have HW8 := Lib.hid hw8
  clear e6 hsm hqv htl hw6 hw7 hw8 hq
  go_enter Try.func109, Try.ntmps109
  go_wp2_with fail
  rw [HW1.out]
  refine (laws_szStringS.calls K6 A6 c6 x.f6 (left - (x.f1.size : Int)) q W1 G6.out l6 E6.out).mono ?_
  rintro e w2 ⟨rfl, hd⟩
  have hb2 := hd.below
  have N2 := Lib.hid hb2
  have Q2 := Lib.hid ((hb2.block _ (blk_lt Q1.out)).trans Q1.out)
  clear hd hb2 HW1
  by_cases c2 : q < 0
  · go_wp2
    go_ret
    exact ⟨-1, rfl, .inl (by omega), below_step HBA.out N2.out⟩
  obtain ⟨r1, ⟨K7, e7⟩, hL1⟩ := szValue_cnt n x.f7 q HW7.out (by omega) (by omega)
  have E7 := Lib.hid (e7 K7 (Nat.le_refl _))
  have HL1 := Lib.hid hL1
  clear e7 hL1
  obtain ⟨d7, d8, d9, d10, d11⟩ := lob_c7 Q2.out
  go_wp2_with fail
  clear d7 d8 d9 d10 d11
  refine (laws_szValue.calls K7 x.f7.f0 x.f7.f1 x.f7.f2 A10 c10 x.f7.f3 A11 c11 x.f7.f4 q r1 w2 (Kd.C_below G10.out N2.out) l10 (Kd.C_below G11.out N2.out) l11 E7.out).mono ?_
  rintro e w3 ⟨rfl, hd⟩
  have N3 := Lib.hid (below_step N2.out hd)
  have Q3 := Lib.hid ((hd.block _ (blk_lt Q2.out)).trans Q2.out)
  clear hd
  by_cases c3 : r1 < 0
  · go_wp2
    go_ret
    exact ⟨-1, rfl, .inl (by omega), below_step HBA.out N3.out⟩
  obtain ⟨hp1, hle1, hs1, hm1⟩ : 0 ≤ r1 ∧ r1 ≤ q ∧ SmL n x.f7 ∧ (mcL n x.f7 : Int) ≤ 4 * (q - r1) := by
    rcases HL1.out with h | h
    · omega
    · exact h
  obtain ⟨r2, ⟨K8, e8⟩, hL2⟩ := szValue_cnt n x.f8 r1 HW8.out hp1 (by omega)
  have E8 := Lib.hid (e8 K8 (Nat.le_refl _))
  have HL2 := Lib.hid hL2
  have HS1 := Lib.hid hs1
  have HM1 := Lib.hid hm1
  clear e8 hL2 hs1 hm1
  obtain ⟨d12, d13, d14, d15, d16⟩ := lob_c8 Q3.out
  go_wp2_with fail
  clear d12 d13 d14 d15 d16
  refine (laws_szValue.calls K8 x.f8.f0 x.f8.f1 x.f8.f2 A15 c15 x.f8.f3 A16 c16 x.f8.f4 r1 r2 w3 (Kd.C_below G15.out N3.out) l15 (Kd.C_below G16.out N3.out) l16 E8.out).mono ?_
  rintro e w4 ⟨rfl, hd⟩
  have N4 := Lib.hid (below_step N3.out hd)
  clear hd
  by_cases c4 : r2 < 0
  · go_wp2
    go_ret
    exact ⟨-1, rfl, .inl (by omega), below_step HBA.out N4.out⟩
  go_wp2
  go_ret
  refine ⟨r2, rfl, ?_, below_step HBA.out N4.out⟩
  obtain ⟨hp2, hle2, hs2, hm2⟩ : 0 ≤ r2 ∧ r2 ≤ r1 ∧ SmL n x.f8 ∧ (mcL n x.f8 : Int) ≤ 4 * (r1 - r2) := by
    rcases HL2.out with h | h
    · omega
    · exact h
  have h1' := HQV.out (by omega)
  have h2' := HTL.out
  have h3' := HM1.out
  exact .inr ⟨hp2, by omega, ⟨HSM.out (by omega), HS1.out, hs2⟩, by unfold mcLO; omega⟩
set_option maxHeartbeats 16000000 in
set_option maxRecDepth 100000 in
theorem szOs_calls (n : Nat) (xs : List LObj) (A : Option Addr) (c : Nat) (left : Int) (w : World) (hC : Kd.C k121 w A xs.length xs) (hc : xs.length ≤ c) (hw : ∀ x ∈ xs, wfLON n x) (h0 : 0 ≤ left) (h1 : left ≤ 1048576) :
    Calls Try.prog 54 #[.slice A xs.length c, .int .i64 left] w fun e w' => ∃ r, e = .returned (.int .i64 r) ∧ Left left ((xs.length ≤ 1048576 ∧ ∀ x ∈ xs, SmLO n x) ∧ ((xs.map (fun x => mcLO n x)).sum : Int) ≤ 4 * (left - r)) r ∧ Below w.heap.size w w' := by
  have hlen := hC.2.1
  have HC := Lib.hid hC
  have HW := Lib.hid hw
  clear hC hw
  go_enter Try.func54, Try.ntmps54
  by_cases c1 : left - (xs.length : Int) < 0
  · go_wp2
    go_ret
    exact ⟨-1, rfl, .inl (by omega), Below.refl _ _⟩
  go_wp2
  go_loopw [1, 5] (fun vl vi wr => ∃ (i : Nat) (L : Int), i ≤ xs.length ∧ vl = .int .i64 L ∧ vi = .int .i64 i ∧ 0 ≤ L ∧ L ≤ left - (xs.length : Int) ∧ Hid (∀ x ∈ xs.take i, SmLO n x) ∧ Hid ((((xs.take i).map (fun x => mcLO n x)).sum : Int) ≤ 4 * (left - (xs.length : Int) - L)) ∧ Hid (Below w.heap.size w wr)) (fun _ vi _ => xs.length - (intOf vi).toNat)
  case atStart => exact ⟨0, left - (xs.length : Int), by omega, rfl, rfl, by omega, Int.le_refl _, fun x hx => (by cases hx), (by unfold Hid; simp), Below.refl _ _⟩
  case round =>
    obtain ⟨i, L, hi, rfl, rfl, hL0, hL1, HSM, HSUM, HB⟩ := hrel
    by_cases hil : i < xs.length
    · obtain ⟨ad, cs, rfl, hcs, hK, hcell⟩ := row_at HC.out i hil
      have hsz : (k121 : Kd LObj).sz = 17 := rfl
      rw [hsz] at hcs hcell
      have HK := Lib.hid hK
      have HCL := Lib.hid (hcell wr HB.out)
      have HCS := Lib.hid hcs
      clear hcs hK hcell hsz
      go_wp2_with ((with_reducible refine gate_dst (N := 21) rfl ?_); refine load_event rfl (N := 21) rfl 121 (.tmp 20) rfl (ad.add (i * 17)) ?hx cs HCL.out Try.underlying121 rfl ?hi ?_; (case hx => first | rfl | (go_simp; done) | (go_simp; rfl)); (case hi => rw [HCS.out]; kernel_rfl))
      (with_reducible refine (szO_calls n xs[i] cs L wr ((k121 : Kd LObj).K_below HB.out HK.out) (HW.out _ (List.getElem_mem hil)) hL0 (by omega)).mono ?_)
      rintro e w2 ⟨r, rfl, hLr, hb2⟩
      have HB2 := Lib.hid (below_step HB.out hb2)
      have HLR := Lib.hid hLr
      clear hb2 hLr HCL
      by_cases c2 : r < 0
      · go_wp2
        go_ret
        exact ⟨-1, rfl, .inl (by omega), HB2.out⟩
      obtain ⟨hp, hle, hs, hm⟩ : 0 ≤ r ∧ r ≤ L ∧ SmLO n xs[i] ∧ (mcLO n xs[i] : Int) ≤ 4 * (L - r) := by
        rcases HLR.out with h | h
        · omega
        · exact ⟨h.1, h.2.1, h.2.2.1, h.2.2.2⟩
      have HSM2 : Hid (∀ x ∈ xs.take (i + 1), SmLO n x) := Lib.hid (by
        rw [List.take_succ_eq_append_getElem hil]
        intro y hy
        rcases List.mem_append.1 hy with hy | hy
        · exact HSM.out y hy
        · rw [List.mem_singleton.1 hy]; exact hs)
      have HSUM2 : Hid ((((xs.take (i + 1)).map (fun x => mcLO n x)).sum : Int) ≤ 4 * (left - (xs.length : Int) - r)) := Lib.hid (by
        have := HSUM.out
        rw [List.take_succ_eq_append_getElem hil, List.map_append, List.sum_append, List.map_singleton, List.sum_singleton]
        omega)
      clear hs hm
      go_wp2
      go_roundw
      case rel => exact ⟨i + 1, r, by omega, rfl, by go_num, hp, by omega, HSM2, HSUM2, HB2⟩
      case measure => simp [intOf]; omega
    · obtain rfl : i = xs.length := by omega
      go_wp2
      go_ret
      have h2 := HSM.out
      have h3 := HSUM.out
      rw [List.take_length] at h2 h3
      exact ⟨L, rfl, .inr ⟨hL0, by omega, ⟨by omega, h2⟩, by omega⟩, HB.out⟩
theorem kLC_split {w : World} {x : LChg} {cs : List Value} (h : k124.K w x cs) : ∃ c2, cs = .int .i64 x.f0 :: .bool x.f1 :: c2 ∧ k121.K w x.f2 c2 := by
  obtain ⟨_, _, e0, h0, _, c2, e1, h1, h2⟩ := h
  subst e1
  subst e0
  exact ⟨c2, by rw [h0, h1]; rfl, h2⟩
set_option maxHeartbeats 16000000 in
set_option maxRecDepth 100000 in
theorem szC_calls (n : Nat) (x : LChg) (cs : List Value) (left : Int) (w : World) (hk : k124.K w x cs) (hw : wfLON n x.f2) (h0 : 0 ≤ left) (h1 : left ≤ 1048576) :
    Calls Try.prog 110 #[.agg cs.toArray, .int .i64 left] w fun e w' => ∃ r, e = .returned (.int .i64 r) ∧ Left left (SmLO n x.f2 ∧ (mcLO n x.f2 : Int) ≤ 4 * (left - r)) r ∧ Below w.heap.size w w' := by
  obtain ⟨c2, rfl, hk2⟩ := kLC_split hk
  have hl2 : c2.length = 17 := (k121 : Kd LObj).K_len hk2
  obtain ⟨W1, hW1⟩ : ∃ W1, w.alloc (.cells (Value.int .i64 x.f0 :: Value.bool x.f1 :: c2).toArray 124) = W1 := ⟨_, rfl⟩
  have hbA := below_alloc (Below.refl w.heap.size w) (.cells (Value.int .i64 x.f0 :: Value.bool x.f1 :: c2).toArray 124)
  have hb0 := blk_new w (.cells (Value.int .i64 x.f0 :: Value.bool x.f1 :: c2).toArray 124)
  rw [hW1] at hbA hb0
  have HW1 := Lib.hid hW1
  have HBA := Lib.hid hbA
  have Q1 := Lib.hid hb0
  have HL2 := Lib.hid hl2
  have HK2 := Lib.hid ((k121 : Kd LObj).K_below hbA hk2)
  clear hk hk2 hl2 hW1 hbA hb0
  go_enter Try.func110, Try.ntmps110
  go_wp2_with ((with_reducible refine gate_dst (N := 6) rfl ?_); rw [HW1.out]; refine load_event rfl (N := 6) rfl 121 (.tmp 5) rfl ⟨w.heap.size, 2, none⟩ rfl c2 (blk_from Q1.out rfl) Try.underlying121 rfl ?hi ?_; (case hi => rw [HL2.out]; kernel_rfl))
  refine (szO_calls n x.f2 c2 left W1 HK2.out hw h0 h1).mono ?_
  rintro e w2 ⟨r, rfl, hL, hb2⟩
  have HB2 := Lib.hid (below_step HBA.out hb2)
  have HL := Lib.hid hL
  clear hb2 hL
  by_cases c2 : r < 0
  · go_wp2
    go_ret
    exact ⟨-1, rfl, .inl (by omega), HB2.out⟩
  · go_wp2
    go_ret
    exact ⟨r, rfl, HL.out, HB2.out⟩
set_option maxHeartbeats 16000000 in
set_option maxRecDepth 100000 in
theorem szCs_calls (n : Nat) (xs : List LChg) (A : Option Addr) (c : Nat) (left : Int) (w : World) (hC : Kd.C k124 w A xs.length xs) (hc : xs.length ≤ c) (hw : ∀ x ∈ xs, wfLON n x.f2) (h0 : 0 ≤ left) (h1 : left ≤ 1048576) :
    Calls Try.prog 55 #[.slice A xs.length c, .int .i64 left] w fun e w' => ∃ r, e = .returned (.int .i64 r) ∧ Left left ((xs.length ≤ 1048576 ∧ ∀ x ∈ xs, SmLO n x.f2) ∧ ((xs.map (fun x => mcLO n x.f2)).sum : Int) ≤ 4 * (left - r)) r ∧ Below w.heap.size w w' := by
  have hlen := hC.2.1
  have HC := Lib.hid hC
  have HW := Lib.hid hw
  clear hC hw
  go_enter Try.func55, Try.ntmps55
  by_cases c1 : left - (xs.length : Int) < 0
  · go_wp2
    go_ret
    exact ⟨-1, rfl, .inl (by omega), Below.refl _ _⟩
  go_wp2
  go_loopw [1, 5] (fun vl vi wr => ∃ (i : Nat) (L : Int), i ≤ xs.length ∧ vl = .int .i64 L ∧ vi = .int .i64 i ∧ 0 ≤ L ∧ L ≤ left - (xs.length : Int) ∧ Hid (∀ x ∈ xs.take i, SmLO n x.f2) ∧ Hid ((((xs.take i).map (fun x => mcLO n x.f2)).sum : Int) ≤ 4 * (left - (xs.length : Int) - L)) ∧ Hid (Below w.heap.size w wr)) (fun _ vi _ => xs.length - (intOf vi).toNat)
  case atStart => exact ⟨0, left - (xs.length : Int), by omega, rfl, rfl, by omega, Int.le_refl _, fun x hx => (by cases hx), (by unfold Hid; simp), Below.refl _ _⟩
  case round =>
    obtain ⟨i, L, hi, rfl, rfl, hL0, hL1, HSM, HSUM, HB⟩ := hrel
    by_cases hil : i < xs.length
    · obtain ⟨ad, cs, rfl, hcs, hK, hcell⟩ := row_at HC.out i hil
      have hsz : (k124 : Kd LChg).sz = 19 := rfl
      rw [hsz] at hcs hcell
      have HK := Lib.hid hK
      have HCL := Lib.hid (hcell wr HB.out)
      have HCS := Lib.hid hcs
      clear hcs hK hcell hsz
      go_wp2_with ((with_reducible refine gate_dst (N := 21) rfl ?_); refine load_event rfl (N := 21) rfl 124 (.tmp 20) rfl (ad.add (i * 19)) ?hx cs HCL.out Try.underlying124 rfl ?hi ?_; (case hx => first | rfl | (go_simp; done) | (go_simp; rfl)); (case hi => rw [HCS.out]; kernel_rfl))
      (with_reducible refine (szC_calls n xs[i] cs L wr ((k124 : Kd LChg).K_below HB.out HK.out) (HW.out _ (List.getElem_mem hil)) hL0 (by omega)).mono ?_)
      rintro e w2 ⟨r, rfl, hLr, hb2⟩
      have HB2 := Lib.hid (below_step HB.out hb2)
      have HLR := Lib.hid hLr
      clear hb2 hLr HCL
      by_cases c2 : r < 0
      · go_wp2
        go_ret
        exact ⟨-1, rfl, .inl (by omega), HB2.out⟩
      obtain ⟨hp, hle, hs, hm⟩ : 0 ≤ r ∧ r ≤ L ∧ SmLO n xs[i].f2 ∧ (mcLO n xs[i].f2 : Int) ≤ 4 * (L - r) := by
        rcases HLR.out with h | h
        · omega
        · exact ⟨h.1, h.2.1, h.2.2.1, h.2.2.2⟩
      have HSM2 : Hid (∀ x ∈ xs.take (i + 1), SmLO n x.f2) := Lib.hid (by
        rw [List.take_succ_eq_append_getElem hil]
        intro y hy
        rcases List.mem_append.1 hy with hy | hy
        · exact HSM.out y hy
        · rw [List.mem_singleton.1 hy]; exact hs)
      have HSUM2 : Hid ((((xs.take (i + 1)).map (fun x => mcLO n x.f2)).sum : Int) ≤ 4 * (left - (xs.length : Int) - r)) := Lib.hid (by
        have := HSUM.out
        rw [List.take_succ_eq_append_getElem hil, List.map_append, List.sum_append, List.map_singleton, List.sum_singleton]
        omega)
      clear hs hm
      go_wp2
      go_roundw
      case rel => exact ⟨i + 1, r, by omega, rfl, by go_num, hp, by omega, HSM2, HSUM2, HB2⟩
      case measure => simp [intOf]; omega
    · obtain rfl : i = xs.length := by omega
      go_wp2
      go_ret
      have h2 := HSM.out
      have h3 := HSUM.out
      rw [List.take_length] at h2 h3
      exact ⟨L, rfl, .inr ⟨hL0, by omega, ⟨by omega, h2⟩, by omega⟩, HB.out⟩
set_option maxHeartbeats 16000000 in
set_option maxRecDepth 100000 in
theorem szB_calls (n : Nat) (xs : List LObj) (rv nx : Int) (ls : List LChg) (A0 : Option Addr) (c0 : Nat) (A3 : Option Addr) (c3 : Nat) (left : Int) (w : World) (g0 : Kd.C k121 w A0 xs.length xs) (l0 : xs.length ≤ c0) (g3 : Kd.C k124 w A3 ls.length ls) (l3 : ls.length ≤ c3) (hw : ∀ x ∈ xs, wfLON n x) (hw3 : ∀ x ∈ ls, wfLON n x.f2) (h0 : 0 ≤ left) (h1 : left ≤ 1048576) :
    Calls Try.prog 13 #[.agg #[.slice A0 xs.length c0, .int .i64 rv, .int .i64 nx, .slice A3 ls.length c3], .int .i64 left] w fun e w' => ∃ r, e = .returned (.int .i64 r) ∧ Left left (SmLB n xs ls ∧ ((xs.map (mcLO n)).sum : Int) + ((ls.map (fun x => mcLO n x.f2)).sum : Int) ≤ 4 * (left - r)) r ∧ Below w.heap.size w w' := by
  obtain ⟨W1, hW1⟩ : ∃ W1, w.alloc (.cells #[.slice A0 xs.length c0, .int .i64 rv, .int .i64 nx, .slice A3 ls.length c3] 25) = W1 := ⟨_, rfl⟩
  have hbA := below_alloc (Below.refl w.heap.size w) (.cells #[.slice A0 xs.length c0, .int .i64 rv, .int .i64 nx, .slice A3 ls.length c3] 25)
  have hb0 := blk_new w (.cells #[.slice A0 xs.length c0, .int .i64 rv, .int .i64 nx, .slice A3 ls.length c3] 25)
  rw [hW1] at hbA hb0
  have HW1 := Lib.hid hW1
  have HBA := Lib.hid hbA
  have Q1 := Lib.hid hb0
  have G0 := Lib.hid (Kd.C_below g0 hbA)
  have G3 := Lib.hid (Kd.C_below g3 hbA)
  have HW := Lib.hid hw
  have HW3 := Lib.hid hw3
  clear g0 g3 hW1 hbA hb0 hw hw3
  go_enter Try.func13, Try.ntmps13
  go_wp2_with fail
  rw [HW1.out]
  refine (szOs_calls n xs A0 c0 left W1 G0.out l0 HW.out h0 h1).mono ?_
  rintro e w2 ⟨r, rfl, hL, hb2⟩
  have N2 := Lib.hid hb2
  have Q2 := Lib.hid ((hb2.block _ (blk_lt Q1.out)).trans Q1.out)
  have HL := Lib.hid hL
  clear hb2 hL HW1
  by_cases c2 : r < 0
  · go_wp2
    go_ret
    exact ⟨-1, rfl, .inl (by omega), below_step HBA.out N2.out⟩
  obtain ⟨hp, hle, hs, hm⟩ : 0 ≤ r ∧ r ≤ left ∧ (xs.length ≤ 1048576 ∧ ∀ x ∈ xs, SmLO n x) ∧ ((xs.map (mcLO n)).sum : Int) ≤ 4 * (left - r) := by
    rcases HL.out with h | h
    · omega
    · exact ⟨h.1, h.2.1, h.2.2.1, h.2.2.2⟩
  have HS := Lib.hid hs
  have HM := Lib.hid hm
  clear hs hm
  obtain ⟨b0, b1, b2, b3⟩ := cells4 Q2.out
  go_wp2_with fail
  clear b0 b1 b2 b3
  refine (szCs_calls n ls A3 c3 r w2 (Kd.C_below G3.out N2.out) l3 HW3.out hp (by omega)).mono ?_
  rintro e w3 ⟨r2, rfl, hL2, hb3⟩
  have N3 := Lib.hid (below_step N2.out hb3)
  have HL2 := Lib.hid hL2
  clear hb3 hL2
  by_cases c3 : r2 < 0
  · go_wp2
    go_ret
    exact ⟨-1, rfl, .inl (by omega), below_step HBA.out N3.out⟩
  go_wp2
  go_ret
  refine ⟨r2, rfl, ?_, below_step HBA.out N3.out⟩
  obtain ⟨hp2, hle2, hs2, hm2⟩ : 0 ≤ r2 ∧ r2 ≤ r ∧ (ls.length ≤ 1048576 ∧ ∀ x ∈ ls, SmLO n x.f2) ∧ ((ls.map (fun x => mcLO n x.f2)).sum : Int) ≤ 4 * (r - r2) := by
    rcases HL2.out with h | h
    · omega
    · exact ⟨h.1, h.2.1, h.2.2.1, h.2.2.2⟩
  have := HM.out
  exact .inr ⟨hp2, by omega, ⟨HS.out, hs2⟩, by omega⟩
/-- One depth for all. -/
theorem depth_all {α : Type} (P : Nat → α → Prop) (up : ∀ n m x, n ≤ m → P n x → P m x) : ∀ (xs : List α), (∀ x ∈ xs, ∃ n, P n x) → ∃ n, ∀ x ∈ xs, P n x
  | [], _ => ⟨0, fun x hx => by cases hx⟩
  | x :: xs, h => by
    obtain ⟨a, ha⟩ := h x (by simp)
    obtain ⟨b, hb⟩ := depth_all P up xs (fun y hy => h y (by simp [hy]))
    refine ⟨a + b, fun y hy => ?_⟩
    rcases List.mem_cons.1 hy with rfl | hy
    · exact up a _ _ (by omega) ha
    · exact up b _ _ (by omega) (hb y hy)
theorem wfLON_le {n m : Nat} {x : LObj} (h : n ≤ m) (hw : wfLON n x) : wfLON m x := ⟨hw.1, hw.2.1, wfValN_le h hw.2.2.1, wfValN_le h hw.2.2.2⟩
theorem wfLON_of {x : LObj} (h : wfLObj x) : ∃ n, wfLON n x := by
  obtain ⟨_, h1, _, _, _, _, h6, ⟨a, h7⟩, ⟨b, h8⟩⟩ := h
  exact ⟨a + b, h1, ⟨h6.1, fun y hy => h6.2 y hy⟩, wfValN_le (by omega) h7, wfValN_le (by omega) h8⟩
/-- A base that came in: its values are m + 1 deep at most. -/
theorem wfBase_of {s : LBase} (h : wfBase s) : ∃ m, (∀ x ∈ s.f0, wfLON (m + 1) x) ∧ (∀ x ∈ s.f3, wfLON (m + 1) x.f2) := by
  obtain ⟨a, ha⟩ := depth_all wfLON (fun n m x h => wfLON_le h) s.f0 (fun x hx => wfLON_of (h.1.2 x hx))
  obtain ⟨b, hb⟩ := depth_all (fun n (x : LChg) => wfLON n x.f2) (fun n m x h => wfLON_le h) s.f3 (fun x hx => wfLON_of (h.2.2.2.2 x hx).2.2)
  exact ⟨a + b, fun x hx => wfLON_le (by omega) (ha x hx), fun x hx => wfLON_le (by omega) (hb x hx)⟩
end Go.Proofs.Ytmoiacijklkfaaa.G

/- GKBase1 -/
/-
  Bases (the program's) that are handed: read, compared, tested; made out of a law's.
-/
namespace Go.Proofs.Ytmoiacijklkfaaa.G
open Go.RowKit Go.Proofs.YtmoiacijklkfaaaW.PrintWords Go.Proofs.YtmoiacijklkfaaaW.PrintLast Go.Proofs.YtmoiacijklkfaaaW.PrintMore
attribute [local go_sem] max2_int min2_int max_two min_two max_three min_three max_four min_four
set_option linter.unusedVariables false
set_option linter.unusedSimpArgs false
structure IBase where
  f0 : List IObj
  f1 : Int
  f2 : Int
  f3 : List IChg
/-- A base's two rows, read. -/
def BR (w : World) (y : IBase) (A0 : Option Addr) (c0 : Nat) (A3 : Option Addr) (c3 : Nat) : Prop := y.f0.length ≤ c0 ∧ Kd.C k46 w A0 y.f0.length y.f0 ∧ y.f3.length ≤ c3 ∧ Kd.C k90 w A3 y.f3.length y.f3
theorem BR_below {w w1 : World} {y : IBase} {A0 : Option Addr} {c0 : Nat} {A3 : Option Addr} {c3 : Nat} (h : BR w y A0 c0 A3 c3) (hb : Below w.heap.size w w1) : BR w1 y A0 c0 A3 c3 := ⟨h.1, Kd.C_below h.2.1 hb, h.2.2.1, Kd.C_below h.2.2.2 hb⟩
/-- A base handed: its rows lie apart, from block b on. -/
def BT (n b : Nat) (w : World) (y : IBase) (A0 : Option Addr) (c0 : Nat) (A3 : Option Addr) (c3 : Nat) (fp : List Nat) : Prop :=
  BR w y A0 c0 A3 c3 ∧ (∃ f0 f3, fp = f0 ++ f3 ∧ (tO n).Row 46 w (.slice A0 y.f0.length c0) y.f0 f0 ∧ (tC n).Row 90 w (.slice A3 y.f3.length c3) y.f3 f3) ∧ fp.Nodup ∧ (∀ k ∈ fp, b ≤ k ∧ k < w.heap.size)
theorem BT_of {n b : Nat} {w : World} {y : IBase} {v0 v3 : Value} {fp : List Nat} (h : BaT n w y.f0 y.f3 v0 v3 fp) (hn : fp.Nodup) (hb : ∀ k ∈ fp, b ≤ k) : ∃ A0 c0 A3 c3, v0 = .slice A0 y.f0.length c0 ∧ v3 = .slice A3 y.f3.length c3 ∧ BT n b w y A0 c0 A3 c3 fp := by
  obtain ⟨f0, f3, rfl, r0, r3⟩ := h
  obtain ⟨A0, c0, rfl, l0, C0⟩ := tO_C r0
  obtain ⟨A3, c3, rfl, l3, C3⟩ := tC_C r3
  refine ⟨A0, c0, A3, c3, rfl, rfl, ⟨l0, C0, l3, C3⟩, ⟨f0, f3, rfl, r0, r3⟩, hn, fun k hk => ⟨hb k hk, ?_⟩⟩
  rcases List.mem_append.1 hk with hk | hk
  · exact Td.Row_lt r0 k hk
  · exact Td.Row_lt r3 k hk
theorem BT_below {n b : Nat} {w w1 : World} {y : IBase} {A0 : Option Addr} {c0 : Nat} {A3 : Option Addr} {c3 : Nat} {fp : List Nat} (h : BT n b w y A0 c0 A3 c3 fp) (hb : Below w.heap.size w w1) : BT n b w1 y A0 c0 A3 c3 fp := by
  obtain ⟨hr, ⟨f0, f3, e, r0, r3⟩, hn, hf⟩ := h
  exact ⟨BR_below hr hb, ⟨f0, f3, e, Td.Row_below r0 hb, Td.Row_below r3 hb⟩, hn, fun k hk => ⟨(hf k hk).1, Nat.lt_of_lt_of_le (hf k hk).2 hb.size⟩⟩
/-- What is small enough. -/
def SmB (n : Nat) (y : IBase) : Prop := (y.f0.length ≤ 1048576 ∧ ∀ x ∈ y.f0, SmX n x ∧ x.f6.length ≤ 1048576) ∧ (y.f3.length ≤ 1048576 ∧ ∀ x ∈ y.f3, SmX n x.f2 ∧ x.f2.f6.length ≤ 1048576)
def cB (m : Nat) (s : LBase) : IBase := ⟨s.f0.map (cOb (m + 1)), s.f1, s.f2, s.f3.map (cCh (m + 1))⟩
theorem smX_of {m : Nat} {x : LObj} (hw : wfLON (m + 1) x) (hs : SmLO (m + 1) x) : SmX (m + 1) (cOb (m + 1) x) ∧ (cOb (m + 1) x).f6.length ≤ 1048576 := by
  obtain ⟨h1, h6, h7, h8⟩ := hw
  obtain ⟨s6, s7, s8⟩ := hs
  exact ⟨⟨h1, h6, cVN_sm _ _ h7 s7, cVN_sm _ _ h8 s8⟩, s6.1⟩
theorem smB_of {m : Nat} {s : LBase} (hw : ∀ x ∈ s.f0, wfLON (m + 1) x) (hw3 : ∀ x ∈ s.f3, wfLON (m + 1) x.f2) (hs : SmLB (m + 1) s.f0 s.f3) : SmB (m + 1) (cB m s) := by
  refine ⟨⟨by simpa [cB] using hs.1.1, fun x hx => ?_⟩, ⟨by simpa [cB] using hs.2.1, fun x hx => ?_⟩⟩
  · obtain ⟨z, hz, rfl⟩ := List.mem_map.1 hx
    exact smX_of (hw z hz) (hs.1.2 z hz)
  · obtain ⟨z, hz, rfl⟩ := List.mem_map.1 hx
    exact smX_of (hw3 z hz) (hs.2.2 z hz)
theorem smX_oo {n : Nat} {x : IObj} (h : SmX n x) : SmOO n x := ⟨h.2.1.1, h.2.2.1, h.2.2.2⟩
theorem toBY (m : Nat) (s : LBase) (y : IBase) (hy : cB m s = y) (A0 : Option Addr) (c0 : Nat) (A3 : Option Addr) (c3 : Nat) (w : World) (g0 : Kd.C k121 w A0 s.f0.length s.f0) (l0 : s.f0.length ≤ c0) (g3 : Kd.C k124 w A3 s.f3.length s.f3) (l3 : s.f3.length ≤ c3) (hs : SmLB (m + 1) s.f0 s.f3) :
    Calls Try.prog 15 #[.agg #[.slice A0 s.f0.length c0, .int .i64 s.f1, .int .i64 s.f2, .slice A3 s.f3.length c3]] w fun e w' => ∃ B0 d0 B3 d3 fp, e = .returned (.agg #[.slice B0 y.f0.length d0, .int .i64 y.f1, .int .i64 y.f2, .slice B3 y.f3.length d3]) ∧ BT (m + 2) w.heap.size w' y B0 d0 B3 d3 fp ∧ Below w.heap.size w w' := by
  subst hy
  refine (toB_calls m s.f0 s.f1 s.f2 s.f3 A0 c0 A3 c3 w g0 l0 g3 l3 hs).mono ?_
  rintro e w' ⟨v0, v3, fp, rfl, hT, hn, hb, hbel⟩
  obtain ⟨B0, d0, B3, d3, rfl, rfl, hV⟩ := BT_of (y := cB m s) hT hn hb
  exact ⟨B0, d0, B3, d3, fp, rfl, hV, hbel⟩
set_option maxHeartbeats 16000000 in
set_option maxRecDepth 100000 in
theorem eqB_calls (n : Nat) (y : IBase) (A0 : Option Addr) (c0 : Nat) (A3 : Option Addr) (c3 : Nat) (B0 : Option Addr) (d0 : Nat) (B3 : Option Addr) (d3 : Nat) (w : World) (hr : BR w y A0 c0 A3 c3) (hq : BR w y B0 d0 B3 d3) (hs : SmB n y) :
    Calls Try.prog 17 #[.agg #[.slice A0 y.f0.length c0, .int .i64 y.f1, .int .i64 y.f2, .slice A3 y.f3.length c3], .agg #[.slice B0 y.f0.length d0, .int .i64 y.f1, .int .i64 y.f2, .slice B3 y.f3.length d3]] w fun e w' => e = .returned (.bool true) ∧ Below w.heap.size w w' := by
  obtain ⟨W1, hW1⟩ : ∃ W1, (w.alloc (.cells #[.slice A0 y.f0.length c0, .int .i64 y.f1, .int .i64 y.f2, .slice A3 y.f3.length c3] 30)).alloc (.cells #[.slice B0 y.f0.length d0, .int .i64 y.f1, .int .i64 y.f2, .slice B3 y.f3.length d3] 30) = W1 := ⟨_, rfl⟩
  have hbA := below_alloc (below_alloc (Below.refl w.heap.size w) (.cells #[.slice A0 y.f0.length c0, .int .i64 y.f1, .int .i64 y.f2, .slice A3 y.f3.length c3] 30)) (.cells #[.slice B0 y.f0.length d0, .int .i64 y.f1, .int .i64 y.f2, .slice B3 y.f3.length d3] 30)
  obtain ⟨hb0, hb1, hsz⟩ := alloc2 w (.cells #[.slice A0 y.f0.length c0, .int .i64 y.f1, .int .i64 y.f2, .slice A3 y.f3.length c3] 30) (.cells #[.slice B0 y.f0.length d0, .int .i64 y.f1, .int .i64 y.f2, .slice B3 y.f3.length d3] 30)
  rw [hW1] at hb0 hb1 hsz hbA
  obtain ⟨l0, C0_, l3, C3_⟩ := BR_below hr hbA
  obtain ⟨m0, D0_, m3, D3_⟩ := BR_below hq hbA
  have HW1 := Lib.hid hW1
  have HBA := Lib.hid hbA
  have Q0 := Lib.hid hb0
  have Q1 := Lib.hid hb1
  have G0 := Lib.hid C0_
  have G3 := Lib.hid C3_
  have J0 := Lib.hid D0_
  have J3 := Lib.hid D3_
  have HS := Lib.hid hs
  clear hr hq C0_ C3_ D0_ D3_ hW1 hbA hb0 hb1 hsz hs
  go_enter Try.func17, Try.ntmps17
  go_wp2_with fail
  rw [HW1.out]
  refine (eqOs_calls n y.f0 A0 B0 c0 d0 W1 G0.out l0 J0.out m0 (fun x hx => smX_oo (HS.out.1.2 x hx).1)).mono ?_
  rintro e w2 ⟨rfl, hb2⟩
  have N2 := Lib.hid hb2
  have P0 := Lib.hid ((hb2.block _ (blk_lt Q0.out)).trans Q0.out)
  have P1 := Lib.hid ((hb2.block _ (blk_lt Q1.out)).trans Q1.out)
  clear hb2 HW1
  obtain ⟨a0, a1, a2, a3⟩ := cells4 P0.out
  obtain ⟨b0, b1, b2, b3⟩ := cells4 P1.out
  go_wp2_with fail
  clear a0 a1 a2 a3 b0 b1 b2 b3
  refine (eqCs_calls n y.f3 A3 B3 c3 d3 w2 (Kd.C_below G3.out N2.out) l3 (Kd.C_below J3.out N2.out) m3 (fun x hx => smX_oo (HS.out.2.2 x hx).1)).mono ?_
  rintro e w3 ⟨rfl, hb3⟩
  have N3 := Lib.hid (below_step N2.out hb3)
  clear hb3
  go_wp2
  go_ret
  exact ⟨rfl, below_step HBA.out N3.out⟩
end Go.Proofs.Ytmoiacijklkfaaa.G
