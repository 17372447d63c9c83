import Derived.Test.YtmoiacijklkfaaaMFnExactBaseOk4
import Derived.Test.YtmoiacijklkfaaaMFnExactBaseOk1
/- GKObjToS -/
/-
  toObjS: a law's objects as the program's, in rows of their own.
-/
namespace Go.Proofs.Ytmoiacijklkfaaa.G
open Go.RowKit Go.Proofs.YtmoiacijklkfaaaW.PrintWords Go.Proofs.YtmoiacijklkfaaaW.PrintLast Go.Proofs.YtmoiacijklkfaaaW.PrintMore
attribute [local go_sem] max2_int min2_int max_two min_two max_three min_three max_four min_four
set_option linter.unusedVariables false
set_option linter.unusedSimpArgs false
def zO : IObj := ⟨0, ⟨#[]⟩, 0, 0, 0, false, [], ⟨0, ⟨#[]⟩, 0, [], []⟩, ⟨0, ⟨#[]⟩, 0, [], []⟩⟩
theorem zO_T (n : Nat) (w : World) : (tO (n + 1)).T w zO obZ.toList [] :=
  tO_mk (x := zO) (Td.Row_nil _ _ _) (tV_mk (x := zO.f7) (Td.Row_nil _ _ _) (Td.Row_nil _ _ _)) (tV_mk (x := zO.f8) (Td.Row_nil _ _ _) (Td.Row_nil _ _ _))
set_option maxHeartbeats 16000000 in
set_option maxRecDepth 100000 in
theorem toObjS_calls (m : Nat) (xs : List LObj) (A : Option Addr) (c : Nat) (w : World) (hC : Kd.C k121 w A xs.length xs) (hc : xs.length ≤ c) (hl : xs.length ≤ 1048576) (hs : ∀ x ∈ xs, SmLO (m + 1) x) :
    Calls Try.prog 60 #[.slice A xs.length c] w fun e w' => ∃ (v : Value) (fp : List Nat), e = .returned v ∧ (tO (m + 2)).Row 46 w' v (xs.map (cOb (m + 1))) fp ∧ fp.Nodup ∧ (∀ k ∈ fp, w.heap.size ≤ k) ∧ Below w.heap.size w w' := by
  have HC := Lib.hid hC
  have HSM := Lib.hid hs
  clear hC hs
  go_enter Try.func60, Try.ntmps60
  go_wp2_with ((with_reducible refine gate_dst (N := 7) rfl ?_); refine Td.Row_make (tO (m + 2)) (w0 := w) 46 rfl (N := 7) rfl 27 _ _ rfl (xs.length : Int) rfl rfl Try.underlying27 (.agg #[.int .i64 0, .string ⟨#[]⟩, .int .i64 0, .int .i64 0, .int .i64 0, .bool false, .slice none 0 0, .int .i64 0, .string ⟨#[]⟩, .int .i64 0, .slice none 0 0, .slice none 0 0, .int .i64 0, .string ⟨#[]⟩, .int .i64 0, .slice none 0 0, .slice none 0 0]) _ (by rw [tO_sz]; exact info46) (by rw [tO_sz]; rfl) (by rw [tO_sz]; decide) (by decide) zO (zO_T (m + 1) _) (by omega) (by omega) (Below.refl _ _) ?_; intro v7 w4 fp hrow hn hf hb hg_; clear hg_; have HRW := Lib.hid hrow; have HN := Lib.hid hn; have HF := Lib.hid hf; have HB := Lib.hid hb; clear hrow hn hf hb)
  go_loopw [4] (fun vi wr => ∃ (i : Nat) (fq : List Nat), i ≤ xs.length ∧ vi = .int .i64 i ∧ Hid ((tO (m + 2)).Row 46 wr v7 ((xs.take i).map (cOb (m + 1)) ++ List.replicate (xs.length - i) zO) fq) ∧ Hid fq.Nodup ∧ Hid (∀ k ∈ fq, w.heap.size ≤ k) ∧ Hid (Below w.heap.size w wr)) (fun vi _ => xs.length - (intOf vi).toNat)
  case atStart =>
    refine ⟨0, fp, by omega, rfl, ?_, HN, HF, HB⟩
    have h_ := HRW.out
    rw [Int.toNat_natCast] at h_
    rw [List.take_zero, List.map_nil, List.nil_append, Nat.sub_zero]
    exact h_
  case round =>
    clear HRW HN HF HB
    obtain ⟨i, fq, hi, rfl, HR, HN, HF, HB⟩ := hrel
    by_cases hil : i < xs.length
    · obtain ⟨ad, cs, rfl, hcs, hK, hcell⟩ := row_at HC.out i hil
      have hsz : (k121 : Kd LObj).sz = 17 := rfl
      rw [hsz] at hcs hcell
      have HK := Lib.hid hK
      have HCL := Lib.hid (hcell wr HB.out)
      have HCS := Lib.hid hcs
      have hP : ((xs.take i).map (cOb (m + 1))).length = i := by rw [List.length_map, List.length_take]; omega
      have hrep : List.replicate (xs.length - i) zO = zO :: List.replicate (xs.length - (i + 1)) zO := by
        rw [show xs.length - i = (xs.length - (i + 1)) + 1 by omega, List.replicate_succ]
      have HRL := HR.out
      rw [hrep] at HRL
      have hlen : ((xs.take i).map (cOb (m + 1)) ++ zO :: List.replicate (xs.length - (i + 1)) zO).length = xs.length := by
        rw [List.length_append, List.length_cons, List.length_replicate, hP]; omega
      have HR1 := Lib.hid HRL
      have HPL := Lib.hid hP
      have HLN := Lib.hid hlen
      have hfl : Hid (∀ k ∈ fq, k < wr.heap.size) := Lib.hid (Td.Row_lt HRL)
      clear hcs hK hcell hsz HR HRL hP hrep hlen
      go_wp2_with ((with_reducible refine gate_dst (N := 19) rfl ?_); refine load_event rfl (N := 19) rfl 121 (.tmp 18) rfl (ad.add (i * 17)) ?hx cs HCL.out Try.underlying121 rfl ?hi ?_; (case hx => first | rfl | (go_simp; done) | (go_simp; rfl)); (case hi => rw [HCS.out]; kernel_rfl))
      (with_reducible refine (toO_calls m xs[i] cs wr ((k121 : Kd LObj).K_below HB.out HK.out) (HSM.out _ (List.getElem_mem hil))).mono ?_)
      rintro e w2 ⟨cs', fv, rfl, hT, hvn, hvb, hb2⟩
      obtain ⟨g, cap, co, fq', hv, hcl, hcc, hfz, hg, hglt, hrow', hn', hin'⟩ := Td.Row_put (Td.Row_below HR1.out hb2) HN.out (i := i) (by rw [HLN.out]; exact hil) hT hvn (fun k hk hm => by have h1 := hvb k hk; have h2 := hfl.out k hm; omega)
      have hgw := HF.out g hg
      rw [HLN.out] at hv
      subst hv
      have hT17 := (tO (m + 2)).T_len hT
      have hT1 := (tO (m + 2)).T_one hT
      rw [tO_sz] at hcl hcc hrow' hT17
      rw [set_at _ _ _ _ HPL.out] at hrow'
      have HT17 := Lib.hid hT17
      have HT1 := Lib.hid hT1
      have HTH : Hid (∀ j, j < 17 → (w2.cell? ⟨g, i * 17 + j, none⟩).isSome = true ∧ w2.frozen? ⟨g, i * 17 + j, none⟩ = false) := Lib.hid (fun j hj => ⟨by rw [hcc j _ (List.getElem?_eq_getElem (by omega))]; rfl, hfz _⟩)
      have HRN := Lib.hid hrow'
      have HNN := Lib.hid hn'
      have HFN : Hid (∀ k ∈ fq', w.heap.size ≤ k) := Lib.hid (fun k hk => by
        rcases hin' k hk with h | h
        · exact HF.out k h
        · exact Nat.le_trans HB.out.size (hvb k h))
      have HBN := Lib.hid (below_cells (below_step HB.out hb2) hgw (i * 17) cs')
      clear hrow' hn' hin' hcc hfz hcl hT hvn hvb hb2 HR1 HK HCL hT17 hT1
      go_wp2_with ((with_reducible refine gate_store (p := 21) rfl ?_); refine store_mid rfl rfl rfl (g := g) (o := i * 17) ?hp rfl ?ht ?hi ?h1 ?_; (case hp => first | rfl | (go_simp; done) | (go_simp; rfl)); (case ht => simpa [HT17.out] using HTH.out); (case hi => simp only [List.size_toArray, HT17.out]; kernel_rfl); (case h1 => simpa using HT1.out))
      go_roundw
      case rel =>
        refine ⟨i + 1, fq', by omega, by go_num, ?_, HNN, HFN, by simpa using HBN⟩
        have h_ := HRN.out
        unfold Hid
        rw [List.take_succ_eq_append_getElem hil, List.map_append, List.append_assoc, List.map_cons, List.map_nil, List.singleton_append]
        simpa using h_
      case measure => simp [intOf]; omega
    · obtain rfl : i = xs.length := by omega
      go_wp2
      go_ret
      have h_ := HR.out
      rw [List.take_length, Nat.sub_self, List.replicate_zero, List.append_nil] at h_
      exact ⟨_, _, rfl, h_, HN.out, HF.out, HB.out⟩
end Go.Proofs.Ytmoiacijklkfaaa.G

/- GKChgTo -/
/-
  toChange: a law's change as one of the program's, in rows of its own.
-/
namespace Go.Proofs.Ytmoiacijklkfaaa.G
open Go.RowKit Go.Proofs.YtmoiacijklkfaaaW.PrintWords Go.Proofs.YtmoiacijklkfaaaW.PrintLast Go.Proofs.YtmoiacijklkfaaaW.PrintMore
attribute [local go_sem] max2_int min2_int max_two min_two max_three min_three max_four min_four
set_option linter.unusedVariables false
set_option linter.unusedSimpArgs false
abbrev LChg := S124
abbrev IChg := S90
def tC (n : Nat) : Td IChg := Td.iso (Td.pair (Td.int .i64) (Td.pair Td.bool (tO n))) (fun x => (x.f0, x.f1, x.f2))
theorem tC_sz {n : Nat} : (tC n).sz = 19 := by
  show 1 + (1 + (tO n).sz) = 19
  rw [tO_sz]
theorem tC_mk {n : Nat} {w : World} {x : IChg} {cs : List Value} {fp : List Nat} (h : (tO n).T w x.f2 cs fp) : (tC n).T w x (.int .i64 x.f0 :: .bool x.f1 :: cs) fp := ⟨[_], _, [], fp, rfl, rfl, ⟨rfl, rfl⟩, [_], cs, [], fp, rfl, rfl, ⟨rfl, rfl⟩, h⟩
theorem tC_open {n : Nat} {w : World} {x : IChg} {cs : List Value} {fp : List Nat} (h : (tC n).T w x cs fp) : ∃ c2, cs = .int .i64 x.f0 :: .bool x.f1 :: c2 ∧ (tO n).T w x.f2 c2 fp := by
  obtain ⟨_, _, _, q0, e0, p0, ⟨rfl, rfl⟩, _, _, _, q1, e1, p1, ⟨rfl, rfl⟩, h2⟩ := h
  exact ⟨_, by rw [e0, e1]; rfl, by rw [p0, p1]; exact h2⟩
theorem tC_K {n : Nat} {w : World} {x : IChg} {cs : List Value} {fp : List Nat} (h : (tC n).T w x cs fp) : k90.K w x cs := by
  obtain ⟨c2, rfl, h2⟩ := tC_open h
  exact ⟨[_], _, rfl, rfl, [_], _, rfl, rfl, tO_K h2⟩
theorem tC_C {n e : Nat} {w : World} {v : Value} {xs : List IChg} {fp : List Nat} (h : (tC n).Row e w v xs fp) : ∃ A c, v = .slice A xs.length c ∧ xs.length ≤ c ∧ Kd.C k90 w A xs.length xs :=
  Td.Row_C (d := k90) tC_sz.symm (fun _ _ _ h => tC_K h) h
def cCh (n : Nat) (x : LChg) : IChg := ⟨x.f0, x.f1, cOb n x.f2⟩
theorem blk_from {w : World} {g t o : Nat} {C cs : List Value} (h : w.heap[g]? = some (.cells C.toArray t (0, 0))) (hd : C.drop o = cs) : ∀ j v, cs[j]? = some v → w.cell? ((⟨g, o, none⟩ : Addr).add j) = some v := fun j v hv => by
  rw [Addr.add_mid, blk_cell h, ← hv, ← hd, List.getElem?_drop, List.getElem?_toArray]
set_option maxHeartbeats 16000000 in
set_option maxRecDepth 100000 in
theorem toC_calls (m : Nat) (x : LChg) (cs : List Value) (w : World) (hk : k124.K w x cs) (hs : SmLO (m + 1) x.f2) :
    Calls Try.prog 116 #[.agg cs.toArray] w fun e w' => ∃ (cs' : List Value) (fp : List Nat), e = .returned (.agg cs'.toArray) ∧ (tC (m + 2)).T w' (cCh (m + 1) x) cs' fp ∧ fp.Nodup ∧ (∀ k ∈ fp, w.heap.size ≤ k) ∧ Below w.heap.size w w' := by
  obtain ⟨_, _, rfl, rfl, _, c2, rfl, rfl, hk2⟩ := hk
  obtain ⟨W2, hW2⟩ : ∃ W2, (((w.alloc (.cells (Value.int .i64 x.f0 :: Value.bool x.f1 :: c2).toArray 124)).alloc (.cells #[.int .i64 0, .bool false, .int .i64 0, .string ⟨#[]⟩, .int .i64 0, .int .i64 0, .int .i64 0, .bool false, .slice none 0 0, .int .i64 0, .string ⟨#[]⟩, .int .i64 0, .slice none 0 0, .slice none 0 0, .int .i64 0, .string ⟨#[]⟩, .int .i64 0, .slice none 0 0, .slice none 0 0] 90)).alloc (.cells #[.int .i64 x.f0, .bool x.f1, .int .i64 0, .string ⟨#[]⟩, .int .i64 0, .int .i64 0, .int .i64 0, .bool false, .slice none 0 0, .int .i64 0, .string ⟨#[]⟩, .int .i64 0, .slice none 0 0, .slice none 0 0, .int .i64 0, .string ⟨#[]⟩, .int .i64 0, .slice none 0 0, .slice none 0 0] 90)) = W2 := ⟨_, rfl⟩
  have cb2 := below_alloc (below_alloc (below_alloc (Below.refl w.heap.size w) (.cells (Value.int .i64 x.f0 :: Value.bool x.f1 :: c2).toArray 124)) (.cells #[.int .i64 0, .bool false, .int .i64 0, .string ⟨#[]⟩, .int .i64 0, .int .i64 0, .int .i64 0, .bool false, .slice none 0 0, .int .i64 0, .string ⟨#[]⟩, .int .i64 0, .slice none 0 0, .slice none 0 0, .int .i64 0, .string ⟨#[]⟩, .int .i64 0, .slice none 0 0, .slice none 0 0] 90)) (.cells #[.int .i64 x.f0, .bool x.f1, .int .i64 0, .string ⟨#[]⟩, .int .i64 0, .int .i64 0, .int .i64 0, .bool false, .slice none 0 0, .int .i64 0, .string ⟨#[]⟩, .int .i64 0, .slice none 0 0, .slice none 0 0, .int .i64 0, .string ⟨#[]⟩, .int .i64 0, .slice none 0 0, .slice none 0 0] 90)
  obtain ⟨hb0, hb1, hb2, hsz⟩ := alloc3g w (.cells (Value.int .i64 x.f0 :: Value.bool x.f1 :: c2).toArray 124) (.cells #[.int .i64 0, .bool false, .int .i64 0, .string ⟨#[]⟩, .int .i64 0, .int .i64 0, .int .i64 0, .bool false, .slice none 0 0, .int .i64 0, .string ⟨#[]⟩, .int .i64 0, .slice none 0 0, .slice none 0 0, .int .i64 0, .string ⟨#[]⟩, .int .i64 0, .slice none 0 0, .slice none 0 0] 90) (.cells #[.int .i64 x.f0, .bool x.f1, .int .i64 0, .string ⟨#[]⟩, .int .i64 0, .int .i64 0, .int .i64 0, .bool false, .slice none 0 0, .int .i64 0, .string ⟨#[]⟩, .int .i64 0, .slice none 0 0, .slice none 0 0, .int .i64 0, .string ⟨#[]⟩, .int .i64 0, .slice none 0 0, .slice none 0 0] 90)
  rw [hW2] at hb0 hb1 hb2 hsz cb2
  have hl2 := (k121 : Kd LObj).K_len hk2
  have hl2 : c2.length = 17 := hl2
  have HW2 := Lib.hid hW2
  have Q0 := Lib.hid hb0
  have Q1 := Lib.hid hb1
  have Q2 := Lib.hid hb2
  have CB2 := Lib.hid cb2
  have S2 : Hid (w.heap.size + 1 + 1 + 1 ≤ W2.heap.size) := Lib.hid (by omega)
  have HL2 := Lib.hid hl2
  have HK2 := Lib.hid hk2
  have HS := Lib.hid hs
  clear hk2 hs hb0 hb1 hb2 hsz hW2 cb2 hl2
  go_enter Try.func116, Try.ntmps116
  go_wp2_with ((with_reducible refine gate_dst (N := 11) rfl ?_); rw [HW2.out]; refine load_event rfl (N := 11) rfl 121 (.tmp 10) rfl ⟨w.heap.size, 2, none⟩ rfl c2 (blk_from Q0.out rfl) Try.underlying121 rfl ?hi ?_; (case hi => rw [HL2.out]; kernel_rfl))
  refine (toO_calls m x.f2 c2 W2 ((k121 : Kd LObj).K_below CB2.out HK2.out) HS.out).mono ?_
  rintro e w3 ⟨c3, fp, rfl, hT, hn, hb, hb3⟩
  have z1 := (hb3.block _ (blk_lt Q1.out)).trans Q1.out
  have z2 := (hb3.block _ (blk_lt Q2.out)).trans Q2.out
  have hl3 := (tO (m + 2)).T_len hT
  rw [tO_sz] at hl3
  have hone := (tO (m + 2)).T_one hT
  have hle : w.heap.size ≤ w.heap.size + 1 + 1 := by omega
  obtain ⟨cur, h2, h2s, h2l⟩ := setCells_row c3 2 w3 _ z2 (by rw [hl3]; simp)
  have hcur : cur = (Value.int .i64 x.f0 :: Value.bool x.f1 :: c3).toArray := by
    apply Array.toList_inj.1
    rw [h2l]
    simp [hl3]
  rw [hcur] at h2
  have HT := Lib.hid hT
  have HN := Lib.hid hn
  have HBF := Lib.hid hb
  have HB3 := Lib.hid hb3
  have HL3 := Lib.hid hl3
  have H2 := Lib.hid h2
  have Z1 : Hid ((w3.setCells (w.heap.size + 1 + 1) 2 c3).heap[w.heap.size + 1]? = _) := Lib.hid ((setCells_far c3 2 (w.heap.size + 1) (by omega)).trans z1)
  have CB3 := Lib.hid (below_cells (below_step CB2.out hb3) hle 2 c3)
  have HONE := Lib.hid hone
  have HTH : Hid (∀ j, j < 17 → (w3.cell? ⟨w.heap.size + 1 + 1, 2 + j, none⟩).isSome = true ∧ w3.frozen? ⟨w.heap.size + 1 + 1, 2 + j, none⟩ = false) := Lib.hid (fun j hj => ⟨by rw [blk_cell z2, Array.getElem?_eq_getElem (by simp; omega)]; rfl, blk_frozen z2 _⟩)
  clear hT hn hb hb3 hl3 hone z1 z2 h2 h2s h2l hcur cur hle Q0 Q1 Q2 HW2
  go_wp2_with (first | ((with_reducible refine gate_store (p := 13) rfl ?_); refine store_mid rfl rfl rfl (g := w.heap.size + 1 + 1) (o := 2) ?hp rfl ?ht ?hi ?h1 ?_; (case hp => first | rfl | (go_simp; done) | (go_simp; rfl)); (case ht => simpa [HL3.out] using HTH.out); (case hi => simp only [List.size_toArray, HL3.out]; kernel_rfl); (case h1 => simpa using HONE.out)) | ((with_reducible refine gate_dst (N := 14) rfl ?_); refine load_event rfl (N := 14) rfl 90 (.tmp 3) rfl ⟨w.heap.size + 1 + 1, 0, none⟩ rfl (Value.int .i64 x.f0 :: Value.bool x.f1 :: c3) (blk_row' H2.out) Try.underlying90 rfl ?hi ?_; (case hi => rw [List.length_cons, List.length_cons, HL3.out]; kernel_rfl)) | ((with_reducible refine gate_store (p := 2) rfl ?_); refine store_event rfl rfl rfl Z1.out rfl rfl ?hs ?hi ?h1 ?_; (case hs => simp [HL3.out]); (case hi => simp only [List.size_toArray, List.length_cons, HL3.out]; kernel_rfl); (case h1 => intro u hu; simp only [List.mem_cons] at hu; rcases hu with h | h | h; (rw [h]; rfl); (rw [h]; rfl); exact HONE.out u h); intro w6 hz hs6 hfar6 hB6; have HZ := Lib.hid hz; have HF6 := Lib.hid hfar6; have HB6 := Lib.hid hB6; clear hz hs6 hfar6 hB6))
  refine bodyPost_ret (results_cell_row rfl _ _ (w.heap.size + 1) 90 _ (0, 0) _ rfl HZ.out Try.underlying90 rfl ?_) rfl ?_
  · simp only [List.size_toArray, List.length_cons, HL3.out]; kernel_rfl
  have hS2 := S2.out
  have hT2 := (tO (m + 2)).T_move (w1 := w6) (fun k hk => by
    have h1 := HBF.out k hk
    rw [HF6.out k (by omega), setCells_far c3 2 k (by omega)]) HT.out
  exact ⟨_, _, rfl, tC_mk (x := cCh (m + 1) x) hT2, HN.out, fun k hk => by have := HBF.out k hk; omega, HB6.out w (by omega) CB3.out⟩
end Go.Proofs.Ytmoiacijklkfaaa.G

/- GKChgToS -/
/-
  toChangeS: a law's changes as the program's, in rows of their own.
-/
namespace Go.Proofs.Ytmoiacijklkfaaa.G
open Go.RowKit Go.Proofs.YtmoiacijklkfaaaW.PrintWords Go.Proofs.YtmoiacijklkfaaaW.PrintLast Go.Proofs.YtmoiacijklkfaaaW.PrintMore
attribute [local go_sem] max2_int min2_int max_two min_two max_three min_three max_four min_four
set_option linter.unusedVariables false
set_option linter.unusedSimpArgs false
def zC : IChg := ⟨0, false, zO⟩
theorem zC_T (n : Nat) (w : World) : (tC (n + 1)).T w zC (.int .i64 0 :: .bool false :: obZ.toList) [] := tC_mk (x := zC) (zO_T n w)
set_option maxHeartbeats 16000000 in
set_option maxRecDepth 100000 in
theorem toChangeS_calls (m : Nat) (xs : List LChg) (A : Option Addr) (c : Nat) (w : World) (hC : Kd.C k124 w A xs.length xs) (hc : xs.length ≤ c) (hl : xs.length ≤ 1048576) (hs : ∀ x ∈ xs, SmLO (m + 1) x.f2) :
    Calls Try.prog 61 #[.slice A xs.length c] w fun e w' => ∃ (v : Value) (fp : List Nat), e = .returned v ∧ (tC (m + 2)).Row 90 w' v (xs.map (cCh (m + 1))) fp ∧ fp.Nodup ∧ (∀ k ∈ fp, w.heap.size ≤ k) ∧ Below w.heap.size w w' := by
  have HC := Lib.hid hC
  have HSM := Lib.hid hs
  clear hC hs
  go_enter Try.func61, Try.ntmps61
  go_wp2_with ((with_reducible refine gate_dst (N := 7) rfl ?_); refine Td.Row_make (tC (m + 2)) (w0 := w) 90 rfl (N := 7) rfl 28 _ _ rfl (xs.length : Int) rfl rfl Try.underlying28 (.agg #[.int .i64 0, .bool false, .int .i64 0, .string ⟨#[]⟩, .int .i64 0, .int .i64 0, .int .i64 0, .bool false, .slice none 0 0, .int .i64 0, .string ⟨#[]⟩, .int .i64 0, .slice none 0 0, .slice none 0 0, .int .i64 0, .string ⟨#[]⟩, .int .i64 0, .slice none 0 0, .slice none 0 0]) _ (by rw [tC_sz]; exact info90) (by rw [tC_sz]; rfl) (by rw [tC_sz]; decide) (by decide) zC (zC_T (m + 1) _) (by omega) (by omega) (Below.refl _ _) ?_; intro v7 w4 fp hrow hn hf hb hg_; clear hg_; have HRW := Lib.hid hrow; have HN := Lib.hid hn; have HF := Lib.hid hf; have HB := Lib.hid hb; clear hrow hn hf hb)
  go_loopw [4] (fun vi wr => ∃ (i : Nat) (fq : List Nat), i ≤ xs.length ∧ vi = .int .i64 i ∧ Hid ((tC (m + 2)).Row 90 wr v7 ((xs.take i).map (cCh (m + 1)) ++ List.replicate (xs.length - i) zC) fq) ∧ Hid fq.Nodup ∧ Hid (∀ k ∈ fq, w.heap.size ≤ k) ∧ Hid (Below w.heap.size w wr)) (fun vi _ => xs.length - (intOf vi).toNat)
  case atStart =>
    refine ⟨0, fp, by omega, rfl, ?_, HN, HF, HB⟩
    have h_ := HRW.out
    rw [Int.toNat_natCast] at h_
    rw [List.take_zero, List.map_nil, List.nil_append, Nat.sub_zero]
    exact h_
  case round =>
    clear HRW HN HF HB
    obtain ⟨i, fq, hi, rfl, HR, HN, HF, HB⟩ := hrel
    by_cases hil : i < xs.length
    · obtain ⟨ad, cs, rfl, hcs, hK, hcell⟩ := row_at HC.out i hil
      have hsz : (k124 : Kd LChg).sz = 19 := rfl
      rw [hsz] at hcs hcell
      have HK := Lib.hid hK
      have HCL := Lib.hid (hcell wr HB.out)
      have HCS := Lib.hid hcs
      have hP : ((xs.take i).map (cCh (m + 1))).length = i := by rw [List.length_map, List.length_take]; omega
      have hrep : List.replicate (xs.length - i) zC = zC :: List.replicate (xs.length - (i + 1)) zC := by
        rw [show xs.length - i = (xs.length - (i + 1)) + 1 by omega, List.replicate_succ]
      have HRL := HR.out
      rw [hrep] at HRL
      have hlen : ((xs.take i).map (cCh (m + 1)) ++ zC :: List.replicate (xs.length - (i + 1)) zC).length = xs.length := by
        rw [List.length_append, List.length_cons, List.length_replicate, hP]; omega
      have HR1 := Lib.hid HRL
      have HPL := Lib.hid hP
      have HLN := Lib.hid hlen
      have hfl : Hid (∀ k ∈ fq, k < wr.heap.size) := Lib.hid (Td.Row_lt HRL)
      clear hcs hK hcell hsz HR HRL hP hrep hlen
      go_wp2_with ((with_reducible refine gate_dst (N := 19) rfl ?_); refine load_event rfl (N := 19) rfl 124 (.tmp 18) rfl (ad.add (i * 19)) ?hx cs HCL.out Try.underlying124 rfl ?hi ?_; (case hx => first | rfl | (go_simp; done) | (go_simp; rfl)); (case hi => rw [HCS.out]; kernel_rfl))
      (with_reducible refine (toC_calls m xs[i] cs wr ((k124 : Kd LChg).K_below HB.out HK.out) (HSM.out _ (List.getElem_mem hil))).mono ?_)
      rintro e w2 ⟨cs', fv, rfl, hT, hvn, hvb, hb2⟩
      obtain ⟨g, cap, co, fq', hv, hcl, hcc, hfz, hg, hglt, hrow', hn', hin'⟩ := Td.Row_put (Td.Row_below HR1.out hb2) HN.out (i := i) (by rw [HLN.out]; exact hil) hT hvn (fun k hk hm => by have h1 := hvb k hk; have h2 := hfl.out k hm; omega)
      have hgw := HF.out g hg
      rw [HLN.out] at hv
      subst hv
      have hT17 := (tC (m + 2)).T_len hT
      have hT1 := (tC (m + 2)).T_one hT
      rw [tC_sz] at hcl hcc hrow' hT17
      rw [set_at _ _ _ _ HPL.out] at hrow'
      have HT17 := Lib.hid hT17
      have HT1 := Lib.hid hT1
      have HTH : Hid (∀ j, j < 19 → (w2.cell? ⟨g, i * 19 + j, none⟩).isSome = true ∧ w2.frozen? ⟨g, i * 19 + j, none⟩ = false) := Lib.hid (fun j hj => ⟨by rw [hcc j _ (List.getElem?_eq_getElem (by omega))]; rfl, hfz _⟩)
      have HRN := Lib.hid hrow'
      have HNN := Lib.hid hn'
      have HFN : Hid (∀ k ∈ fq', w.heap.size ≤ k) := Lib.hid (fun k hk => by
        rcases hin' k hk with h | h
        · exact HF.out k h
        · exact Nat.le_trans HB.out.size (hvb k h))
      have HBN := Lib.hid (below_cells (below_step HB.out hb2) hgw (i * 19) cs')
      clear hrow' hn' hin' hcc hfz hcl hT hvn hvb hb2 HR1 HK HCL hT17 hT1
      go_wp2_with ((with_reducible refine gate_store (p := 21) rfl ?_); refine store_mid rfl rfl rfl (g := g) (o := i * 19) ?hp rfl ?ht ?hi ?h1 ?_; (case hp => first | rfl | (go_simp; done) | (go_simp; rfl)); (case ht => simpa [HT17.out] using HTH.out); (case hi => simp only [List.size_toArray, HT17.out]; kernel_rfl); (case h1 => simpa using HT1.out))
      go_roundw
      case rel =>
        refine ⟨i + 1, fq', by omega, by go_num, ?_, HNN, HFN, by simpa using HBN⟩
        have h_ := HRN.out
        unfold Hid
        rw [List.take_succ_eq_append_getElem hil, List.map_append, List.append_assoc, List.map_cons, List.map_nil, List.singleton_append]
        simpa using h_
      case measure => simp [intOf]; omega
    · obtain rfl : i = xs.length := by omega
      go_wp2
      go_ret
      have h_ := HR.out
      rw [List.take_length, Nat.sub_self, List.replicate_zero, List.append_nil] at h_
      exact ⟨_, _, rfl, h_, HN.out, HF.out, HB.out⟩
end Go.Proofs.Ytmoiacijklkfaaa.G

/- GKBaseTo -/
/-
  toBase: a law's base as one of the program's, in rows of its own.
-/
namespace Go.Proofs.Ytmoiacijklkfaaa.G
open Go.RowKit Go.Proofs.YtmoiacijklkfaaaW.PrintWords Go.Proofs.YtmoiacijklkfaaaW.PrintLast Go.Proofs.YtmoiacijklkfaaaW.PrintMore
attribute [local go_sem] max2_int min2_int max_two min_two max_three min_three max_four min_four
set_option linter.unusedVariables false
set_option linter.unusedSimpArgs false
/-- A base handed: its two rows lie apart. -/
def BaT (n : Nat) (w : World) (os : List IObj) (cs : List IChg) (v0 v3 : Value) (fp : List Nat) : Prop := ∃ f0 f3, fp = f0 ++ f3 ∧ (tO n).Row 46 w v0 os f0 ∧ (tC n).Row 90 w v3 cs f3
def SmLB (n : Nat) (xs : List LObj) (ls : List LChg) : Prop := (xs.length ≤ 1048576 ∧ ∀ x ∈ xs, SmLO n x) ∧ (ls.length ≤ 1048576 ∧ ∀ x ∈ ls, SmLO n x.f2)
set_option maxHeartbeats 16000000 in
set_option maxRecDepth 100000 in
theorem toB_calls (m : Nat) (xs : List LObj) (rv nx : Int) (ls : List LChg) (A0 : Option Addr) (c0 : Nat) (A3 : Option Addr) (c3 : Nat) (w : World) (g0 : Kd.C k121 w A0 xs.length xs) (l0 : xs.length ≤ c0) (g3 : Kd.C k124 w A3 ls.length ls) (l3 : ls.length ≤ c3) (hs : SmLB (m + 1) xs ls) :
    Calls Try.prog 15 #[.agg #[.slice A0 xs.length c0, .int .i64 rv, .int .i64 nx, .slice A3 ls.length c3]] w fun e w' => ∃ (v0 v3 : Value) (fp : List Nat), e = .returned (.agg #[v0, .int .i64 rv, .int .i64 nx, v3]) ∧ BaT (m + 2) w' (xs.map (cOb (m + 1))) (ls.map (cCh (m + 1))) v0 v3 fp ∧ fp.Nodup ∧ (∀ k ∈ fp, w.heap.size ≤ k) ∧ Below w.heap.size w w' := by
  obtain ⟨⟨hs0, hs1⟩, hs2, hs3⟩ := hs
  obtain ⟨W2, hW2⟩ : ∃ W2, (((w.alloc (.cells #[.slice A0 xs.length c0, .int .i64 rv, .int .i64 nx, .slice A3 ls.length c3] 25)).alloc (.cells #[.slice none 0 0, .int .i64 0, .int .i64 0, .slice none 0 0] 30)).alloc (.cells #[.slice none 0 0, .int .i64 0, .int .i64 0, .slice none 0 0] 30)) = W2 := ⟨_, rfl⟩
  have cb2 := below_alloc (below_alloc (below_alloc (Below.refl w.heap.size w) (.cells #[.slice A0 xs.length c0, .int .i64 rv, .int .i64 nx, .slice A3 ls.length c3] 25)) (.cells #[.slice none 0 0, .int .i64 0, .int .i64 0, .slice none 0 0] 30)) (.cells #[.slice none 0 0, .int .i64 0, .int .i64 0, .slice none 0 0] 30)
  obtain ⟨hb0, hb1, hb2, hsz⟩ := alloc3g w (.cells #[.slice A0 xs.length c0, .int .i64 rv, .int .i64 nx, .slice A3 ls.length c3] 25) (.cells #[.slice none 0 0, .int .i64 0, .int .i64 0, .slice none 0 0] 30) (.cells #[.slice none 0 0, .int .i64 0, .int .i64 0, .slice none 0 0] 30)
  rw [hW2] at hb0 hb1 hb2 hsz cb2
  have HW2 := Lib.hid hW2
  have Q0 := Lib.hid hb0
  have Q1 := Lib.hid hb1
  have Q2 := Lib.hid hb2
  have CB2 := Lib.hid cb2
  have S2 : Hid (w.heap.size + 1 + 1 + 1 ≤ W2.heap.size) := Lib.hid (by omega)
  have G0 := Lib.hid (Kd.C_below g0 cb2)
  have G3 := Lib.hid g3
  have H1 := Lib.hid hs1
  have H3 := Lib.hid hs3
  clear g0 g3 hs1 hs3 hb0 hb1 hb2 hsz hW2 cb2
  go_enter Try.func15, Try.ntmps15
  go_wp2_with fail
  rw [HW2.out]
  clear HW2
  refine (toObjS_calls m xs A0 c0 W2 G0.out l0 hs0 H1.out).mono ?_
  rintro e w3 ⟨v0, f0, rfl, hR0, hn0, hf0, hb3⟩
  obtain ⟨B0, e0, rfl⟩ := Td.Row_slice hR0
  rw [List.length_map] at *
  have z0 := (hb3.block _ (blk_lt Q0.out)).trans Q0.out
  have z1 := (hb3.block _ (blk_lt Q1.out)).trans Q1.out
  have z2 := (hb3.block _ (blk_lt Q2.out)).trans Q2.out
  have a0 := blk_cell z0 1
  have a1 := blk_cell z0 2
  have a2 := blk_cell z0 3
  have b0 := blk_cell z2 0
  have b1 := blk_cell z2 1
  have b2 := blk_cell z2 2
  have b3 := blk_cell z2 3
  have f0_ := blk_frozen z2 0
  have f1_ := blk_frozen z2 1
  have f2_ := blk_frozen z2 2
  simp only [List.getElem?_toArray, List.getElem?_cons_succ, List.getElem?_cons_zero] at a0 a1 a2 b0 b1 b2 b3
  obtain ⟨W3, hW3⟩ : ∃ W3, ((w3.setCell ⟨w.heap.size + 1 + 1, 0, none⟩ (.slice B0 xs.length e0)).setCell ⟨w.heap.size + 1 + 1, 1, none⟩ (.int .i64 rv)).setCell ⟨w.heap.size + 1 + 1, 2, none⟩ (.int .i64 nx) = W3 := ⟨_, rfl⟩
  have q2 := blk_set (blk_set (blk_set z2 0 (.slice B0 xs.length e0)) 1 (.int .i64 rv)) 2 (.int .i64 nx)
  simp only [List.setIfInBounds_toArray, List.set_cons_succ, List.set_cons_zero] at q2
  have far3 : ∀ k, k ≠ w.heap.size + 1 + 1 → (((w3.setCell ⟨w.heap.size + 1 + 1, 0, none⟩ (.slice B0 xs.length e0)).setCell ⟨w.heap.size + 1 + 1, 1, none⟩ (.int .i64 rv)).setCell ⟨w.heap.size + 1 + 1, 2, none⟩ (.int .i64 nx)).heap[k]? = w3.heap[k]? := fun k hk => by rw [Below.heap_setCell _ _ _ _ hk, Below.heap_setCell _ _ _ _ hk, Below.heap_setCell _ _ _ _ hk]
  have hle : w.heap.size ≤ w.heap.size + 1 + 1 := by omega
  have cb3 := below_set (j := 2) (v := .int .i64 nx) (below_set (j := 1) (v := .int .i64 rv) (below_set (j := 0) (v := .slice B0 xs.length e0) (below_step CB2.out hb3) hle) hle) hle
  have hss : (((w3.setCell ⟨w.heap.size + 1 + 1, 0, none⟩ (.slice B0 xs.length e0)).setCell ⟨w.heap.size + 1 + 1, 1, none⟩ (.int .i64 rv)).setCell ⟨w.heap.size + 1 + 1, 2, none⟩ (.int .i64 nx)).heap.size = w3.heap.size := by simp [World.setCell]
  rw [hW3] at q2 far3 cb3 hss
  have hs2' := S2.out
  have hlt0 := Td.Row_lt hR0
  have R0 := Lib.hid (Td.Row_move (w1 := W3) hR0 (fun k hk => far3 k (by have := hf0 k hk; omega)))
  have F0 : Hid (∀ k ∈ f0, W2.heap.size ≤ k ∧ k < W3.heap.size) := Lib.hid (fun k hk => by have h1 := hf0 k hk; have h2 := hlt0 k hk; omega)
  have S3 : Hid (w.heap.size + 1 + 1 + 1 ≤ W3.heap.size) := Lib.hid (by have := hb3.size; omega)
  have N0 := Lib.hid hn0
  have HW3 := Lib.hid hW3
  have P1 := Lib.hid ((far3 (w.heap.size + 1) (by omega)).trans z1)
  have P2 := Lib.hid q2
  have CB3 := Lib.hid cb3
  clear hR0 hn0 hf0 hb3 z0 z1 z2 hW3 q2 far3 cb3 hss hs2' hlt0 Q0 Q1 Q2 CB2 G0 H1 hle
  go_wp2_with fail
  rw [HW3.out]
  clear a0 a1 a2 b0 b1 b2 b3 f0_ f1_ f2_ HW3
  refine (toChangeS_calls m ls A3 c3 W3 (Kd.C_below G3.out CB3.out) l3 hs2 H3.out).mono ?_
  rintro e w4 ⟨v3, f3, rfl, hR3, hn3, hf3, hb4⟩
  obtain ⟨B3, e3, rfl⟩ := Td.Row_slice hR3
  rw [List.length_map] at *
  have z1 := (hb4.block _ (blk_lt P1.out)).trans P1.out
  have z2 := (hb4.block _ (blk_lt P2.out)).trans P2.out
  have b0 := blk_cell z2 0
  have b1 := blk_cell z2 1
  have b2 := blk_cell z2 2
  have b3 := blk_cell z2 3
  have d0 := blk_cell z1 0
  have d1 := blk_cell z1 1
  have d2 := blk_cell z1 2
  have d3 := blk_cell z1 3
  have f3_ := blk_frozen z2 3
  have e0_ := blk_frozen z1 0
  have e1_ := blk_frozen z1 1
  have e2_ := blk_frozen z1 2
  have e3_ := blk_frozen z1 3
  simp only [List.getElem?_toArray, List.getElem?_cons_succ, List.getElem?_cons_zero] at b0 b1 b2 b3 d0 d1 d2 d3
  have q1 := blk_set (blk_set (blk_set (blk_set (blk_far z1 (p := ⟨w.heap.size + 1 + 1, 3, none⟩) (by simp) (.slice B3 ls.length e3)) 0 (.slice B0 xs.length e0)) 1 (.int .i64 rv)) 2 (.int .i64 nx)) 3 (.slice B3 ls.length e3)
  simp only [List.setIfInBounds_toArray, List.set_cons_succ, List.set_cons_zero] at q1
  have Z1 := Lib.hid q1
  have HR3 := Lib.hid hR3
  have HN3 := Lib.hid hn3
  have HF3 := Lib.hid hf3
  have HB4 := Lib.hid hb4
  clear hR3 hn3 hf3 hb4 z1 z2 q1 P1 P2
  go_wp2
  refine bodyPost_ret (results_cell_row rfl _ _ (w.heap.size + 1) 30 _ (0, 0) _ rfl Z1.out Try.underlying30 rfl (by kernel_rfl)) rfl ?_
  have hS2 := S2.out
  have hb4 := HB4.out
  have hs3' := CB3.out.size
  have mv : ∀ (v : Value) k, w.heap.size + 1 + 1 + 1 ≤ k → (((((w4.setCell ⟨w.heap.size + 1 + 1, 3, none⟩ v).setCell ⟨w.heap.size + 1, 0, none⟩ (.slice B0 xs.length e0)).setCell ⟨w.heap.size + 1, 1, none⟩ (.int .i64 rv)).setCell ⟨w.heap.size + 1, 2, none⟩ (.int .i64 nx)).setCell ⟨w.heap.size + 1, 3, none⟩ v).heap[k]? = w4.heap[k]? := fun v k hk => by
    rw [Below.heap_setCell _ _ _ _ (show k ≠ w.heap.size + 1 by omega), Below.heap_setCell _ _ _ _ (show k ≠ w.heap.size + 1 by omega), Below.heap_setCell _ _ _ _ (show k ≠ w.heap.size + 1 by omega), Below.heap_setCell _ _ _ _ (show k ≠ w.heap.size + 1 by omega), Below.heap_setCell _ _ _ _ (show k ≠ w.heap.size + 1 + 1 by omega)]
  refine ⟨_, _, f0 ++ f3, rfl, ⟨f0, f3, rfl, Td.Row_move R0.out (fun k hk => (mv _ k (by have := F0.out k hk; omega)).trans (hb4.block k (F0.out k hk).2)), Td.Row_move HR3.out (fun k hk => mv _ k (by have := HF3.out k hk; have := S3.out; omega))⟩, ?_, ?_, ?_⟩
  · rw [List.nodup_append]
    exact ⟨N0.out, HN3.out, fun a ha b hb hab => by have h1 := F0.out a ha; have h2 := HF3.out b hb; omega⟩
  · intro k hk
    rcases List.mem_append.1 hk with hk | hk
    · have := F0.out k hk; omega
    · have := HF3.out k hk; omega
  · exact below_set (below_set (below_set (below_set (below_set (below_step CB3.out hb4) (by omega)) (by omega)) (by omega)) (by omega)) (by omega)
end Go.Proofs.Ytmoiacijklkfaaa.G

/- G45 -/
-- Laid by wip/g/gprint.py out of the translation, by the kit's print program. Lean checks it.
namespace Go.Proofs.Ytmoiacijklkfaaa.G
open Go.RowKit Go.Proofs.YtmoiacijklkfaaaW.PrintWords Go.Proofs.YtmoiacijklkfaaaW.PrintLast Go.Proofs.YtmoiacijklkfaaaW.PrintMore
attribute [local go_sem] max2_int min2_int max_two min_two max_three min_three max_four min_four   -- for this text's walks alone
set_option linter.unusedVariables false
set_option linter.unusedSimpArgs false

-- told with laws_szValueS

end Go.Proofs.Ytmoiacijklkfaaa.G

/- GKReg -/
/-
  Regions in free order, walked by the table: what reads is taken as it comes, a call by its contract.
-/
namespace Go.Proofs.Ytmoiacijklkfaaa.G
open Go.RowKit Go.Proofs.YtmoiacijklkfaaaW.PrintWords Go.Proofs.YtmoiacijklkfaaaW.PrintLast Go.Proofs.YtmoiacijklkfaaaW.PrintMore
set_option linter.unusedVariables false
/-- The first of ks that may be taken now. -/
def nextW (T : Bool × List (List Nat × List Nat)) (B : List Nat) (ds : List Nat) (l : List Bool) (ks : List Nat) : Option Nat := ks.find? (fun i => T.1 && freeT T.2 l i && readyAt T.2 l i && closedT T.2 l && lastW T.2 B l ds i)
/-- The i-th operation, found by steps. -/
def nthO : List Oper → Nat → Option Oper
  | [], _ => none
  | o :: _, 0 => some o
  | _ :: os, n + 1 => nthO os n
theorem nthO_get : ∀ (os : List Oper) (i : Nat), nthO os i = os[i]?
  | [], _ => rfl
  | o :: os, 0 => rfl
  | o :: os, n + 1 => by rw [nthO, nthO_get os n]; rfl
section
variable {P : Program} {ops : Array Oper} {Q : Exit → Act → World → Prop} {S : World → Prop} {ds : List Nat} {md : Region.Mode} {T : Bool × List (List Nat × List Nat)} {B : List Nat}
theorem takeA_ {i : Nat} {oi : Oper} {v : Value} {fuel : Nat} {l l' : Array Bool} {a a' : Act} {w : World} (hT : rtab md ops = T) (hB : waitsOk T.2 B = true) (ks : List Nat) (hn : nextW T B ds l.toList ks = some i) (hi0 : nthO ops.toList i = some oi) (hl : l.setIfInBounds i true = l')
    (hQ : ∀ c a w, Q (.panic c) (a.put oi.dst v) w → Q (.panic c) a w) (hy : YieldsIf P ops S oi v a) (hS : S w) (ha : a.put oi.dst v = a') (h : wpAnyLast P md ops Q S ds fuel l' a' w) : wpAnyLast P md ops Q S ds (fuel + 1) l a w := by
  have hi : ops[i]? = some oi := by rw [← hi0, nthO_get, Array.getElem?_toList]
  have hc := List.find?_some hn
  subst hl
  refine take_ (i := i) (N := oi.dst) (l.setIfInBounds i true) hi rfl (take_ofW hT hB ?_) hQ hy hS ha h
  simp only [takeW, Bool.and_eq_true] at hc ⊢
  exact ⟨hc, by simp⟩
/-- A call, alone ready. -/
theorem callA_ {i : Nat} {oi : Oper} {fuel : Nat} {l l' : Array Bool} {a : Act} {w : World} {f : FuncId} {fn : Func} {ags : Array Operand} {ts : Array TypeId} {args : Array Value} {Post : Ending → World → Prop} (hT : rtab md ops = T) (hn : readyT T.2 l.toList = [i]) (hi0 : nthO ops.toList i = some oi) (hl : l.setIfInBounds i true = l') (hd : i ∉ ds)
    (hf : P.funcs[f]? = some fn) (hname : (fn.name == "runtime.NumGoroutine") = false) (hb : fn.body.isSome = true) (hw : Region.wanted oi (yielded ops a.tmps) = true) (hop : oi.op = .call { callee := .value (.func f), args := ags, argTypes := ts }) (hargs : ags.map a.eval = args)
    (hc : Calls P f args w Post) (h : ∀ e w', Post e w' → ∃ v, e = .returned v ∧ S w' ∧ wpAnyLast P md ops Q S ds fuel l' (a.put oi.dst v) w') : wpAnyLast P md ops Q S ds (fuel + 1) l a w := by
  have hi : ops[i]? = some oi := by rw [← hi0, nthO_get, Array.getElem?_toList]
  subst hl
  refine one_ (i := i) (N := oi.dst) (l.setIfInBounds i true) hi rfl (one_of hT (by simp [hn])) hd (fun K hK => ?_)
  refine goes_ hf hname hb args hw rfl hop hargs (hc.mono ?_)
  intro e w' hp
  obtain ⟨v, he, hS, hh⟩ := h e w' hp
  exact ⟨v, he, hK.out _ _ hS (fun _ => hh)⟩
/-- A whole struct, read. -/
theorem yield_row {oi : Oper} {a : Act} {ty : TypeId} {x : Operand} {ad : Addr} {cs : List Value} {d : TypeDesc} (hw : Region.wanted oi (yielded ops a.tmps) = true) (ho : oi.op = .load ty x) (hx : a.eval x = .pointer (some ad)) (hc : ∀ w', S w' → ∀ j v, cs[j]? = some v → w'.cell? (ad.add j) = some v)
    (hu : P.underlying ty = some d) (hd : d.isRow = true) (hi : (P.info? ty).map (·.size) = some cs.length) : YieldsIf P ops S oi (.agg cs.toArray) a := by
  refine Or.inl ⟨hw, fun w' hS => ?_⟩
  unfold execOp
  simp only [ho, hx, Instr.loadAt, Instr.sureAddr, Sem.run_bind, Sem.run_pure, Result.andThen_ok, loadVar_row (hc w' hS) hu hd hi]
end
end Go.Proofs.Ytmoiacijklkfaaa.G

/- G49 -/
-- Laid by wip/g/gprint.py out of the translation, by the kit's print program. Lean checks it.
namespace Go.Proofs.Ytmoiacijklkfaaa.G
open Go.RowKit Go.Proofs.YtmoiacijklkfaaaW.PrintWords Go.Proofs.YtmoiacijklkfaaaW.PrintLast Go.Proofs.YtmoiacijklkfaaaW.PrintMore
attribute [local go_sem] max2_int min2_int max_two min_two max_three min_three max_four min_four   -- for this text's walks alone
set_option linter.unusedVariables false
set_option linter.unusedSimpArgs false

-- told with laws_eqValueS

end Go.Proofs.Ytmoiacijklkfaaa.G

/- GKEqO -/
/-
  eqObj, eqObjS, eqChange, eqChangeS: what says the same is found the same.
-/
namespace Go.Proofs.Ytmoiacijklkfaaa.G
open Go.RowKit Go.Proofs.YtmoiacijklkfaaaW.PrintWords Go.Proofs.YtmoiacijklkfaaaW.PrintLast Go.Proofs.YtmoiacijklkfaaaW.PrintMore
attribute [local go_sem] max2_int min2_int max_two min_two max_three min_three max_four min_four
set_option linter.unusedVariables false
set_option linter.unusedSimpArgs false
def SmOO (n : Nat) (x : IObj) : Prop := x.f6.length ≤ 9223372036854775807 ∧ SmI n x.f7 ∧ SmI n x.f8
set_option maxHeartbeats 16000000 in
set_option maxRecDepth 100000 in
theorem eqO_calls (n : Nat) (x : IObj) (cs ds : List Value) (w : World) (hk : k46.K w x cs) (hd : k46.K w x ds) (hs : SmOO n x) :
    Calls Try.prog 26 #[.agg cs.toArray, .agg ds.toArray] w fun e w' => e = .returned (.bool true) ∧ Below w.heap.size w w' := by
  obtain ⟨A6, c6, A10, c10, A11, c11, A15, c15, A16, c16, rfl, l6, g6, l10, g10, l11, g11, l15, g15, l16, g16⟩ := k46_open hk
  obtain ⟨B6, d6, B10, d10, B11, d11, B15, d15, B16, d16, rfl, m6, k6, m10, k10, m11, k11, m15, k15, m16, k16⟩ := k46_open hd
  obtain ⟨K6, e6⟩ := eqStringS_ev x.f6 hs.1
  obtain ⟨K7, e7⟩ := eqValue_ev n x.f7 hs.2.1
  obtain ⟨K8, e8⟩ := eqValue_ev n x.f8 hs.2.2
  have E6 := Lib.hid (e6 K6 (Nat.le_refl _))
  have E7 := Lib.hid (e7 K7 (Nat.le_refl _))
  have E8 := Lib.hid (e8 K8 (Nat.le_refl _))
  obtain ⟨W1, hW1⟩ : ∃ W1, (w.alloc (.cells #[.int .i64 x.f0, .string x.f1, .int .i64 x.f2, .int .i64 x.f3, .int .i64 x.f4, .bool x.f5, .slice A6 x.f6.length c6, .int .i64 x.f7.f0, .string x.f7.f1, .int .i64 x.f7.f2, .slice A10 x.f7.f3.length c10, .slice A11 x.f7.f4.length c11, .int .i64 x.f8.f0, .string x.f8.f1, .int .i64 x.f8.f2, .slice A15 x.f8.f3.length c15, .slice A16 x.f8.f4.length c16] 46)).alloc (.cells #[.int .i64 x.f0, .string x.f1, .int .i64 x.f2, .int .i64 x.f3, .int .i64 x.f4, .bool x.f5, .slice B6 x.f6.length d6, .int .i64 x.f7.f0, .string x.f7.f1, .int .i64 x.f7.f2, .slice B10 x.f7.f3.length d10, .slice B11 x.f7.f4.length d11, .int .i64 x.f8.f0, .string x.f8.f1, .int .i64 x.f8.f2, .slice B15 x.f8.f3.length d15, .slice B16 x.f8.f4.length d16] 46) = W1 := ⟨_, rfl⟩
  have hbA := below_alloc (below_alloc (Below.refl w.heap.size w) (.cells #[.int .i64 x.f0, .string x.f1, .int .i64 x.f2, .int .i64 x.f3, .int .i64 x.f4, .bool x.f5, .slice A6 x.f6.length c6, .int .i64 x.f7.f0, .string x.f7.f1, .int .i64 x.f7.f2, .slice A10 x.f7.f3.length c10, .slice A11 x.f7.f4.length c11, .int .i64 x.f8.f0, .string x.f8.f1, .int .i64 x.f8.f2, .slice A15 x.f8.f3.length c15, .slice A16 x.f8.f4.length c16] 46)) (.cells #[.int .i64 x.f0, .string x.f1, .int .i64 x.f2, .int .i64 x.f3, .int .i64 x.f4, .bool x.f5, .slice B6 x.f6.length d6, .int .i64 x.f7.f0, .string x.f7.f1, .int .i64 x.f7.f2, .slice B10 x.f7.f3.length d10, .slice B11 x.f7.f4.length d11, .int .i64 x.f8.f0, .string x.f8.f1, .int .i64 x.f8.f2, .slice B15 x.f8.f3.length d15, .slice B16 x.f8.f4.length d16] 46)
  obtain ⟨hb0, hb1, hsz⟩ := alloc2 w (.cells #[.int .i64 x.f0, .string x.f1, .int .i64 x.f2, .int .i64 x.f3, .int .i64 x.f4, .bool x.f5, .slice A6 x.f6.length c6, .int .i64 x.f7.f0, .string x.f7.f1, .int .i64 x.f7.f2, .slice A10 x.f7.f3.length c10, .slice A11 x.f7.f4.length c11, .int .i64 x.f8.f0, .string x.f8.f1, .int .i64 x.f8.f2, .slice A15 x.f8.f3.length c15, .slice A16 x.f8.f4.length c16] 46) (.cells #[.int .i64 x.f0, .string x.f1, .int .i64 x.f2, .int .i64 x.f3, .int .i64 x.f4, .bool x.f5, .slice B6 x.f6.length d6, .int .i64 x.f7.f0, .string x.f7.f1, .int .i64 x.f7.f2, .slice B10 x.f7.f3.length d10, .slice B11 x.f7.f4.length d11, .int .i64 x.f8.f0, .string x.f8.f1, .int .i64 x.f8.f2, .slice B15 x.f8.f3.length d15, .slice B16 x.f8.f4.length d16] 46)
  rw [hW1] at hb0 hb1 hsz hbA
  have HW1 := Lib.hid hW1
  have HBA := Lib.hid hbA
  have HB0 : Hid (W1.heap[w.heap.size]? = some (.cells (obC x (.slice A6 x.f6.length c6) (.slice A10 x.f7.f3.length c10) (.slice A11 x.f7.f4.length c11) (.slice A15 x.f8.f3.length c15) (.slice A16 x.f8.f4.length c16)) 46 (0, 0))) := Lib.hid hb0
  have HB1 : Hid (W1.heap[w.heap.size + 1]? = some (.cells (obC x (.slice B6 x.f6.length d6) (.slice B10 x.f7.f3.length d10) (.slice B11 x.f7.f4.length d11) (.slice B15 x.f8.f3.length d15) (.slice B16 x.f8.f4.length d16)) 46 (0, 0))) := Lib.hid hb1
  have G6 := Lib.hid (Kd.C_below g6 hbA)
  have G10 := Lib.hid (Kd.C_below g10 hbA)
  have G11 := Lib.hid (Kd.C_below g11 hbA)
  have G15 := Lib.hid (Kd.C_below g15 hbA)
  have G16 := Lib.hid (Kd.C_below g16 hbA)
  have J6 := Lib.hid (Kd.C_below k6 hbA)
  have J10 := Lib.hid (Kd.C_below k10 hbA)
  have J11 := Lib.hid (Kd.C_below k11 hbA)
  have J15 := Lib.hid (Kd.C_below k15 hbA)
  have J16 := Lib.hid (Kd.C_below k16 hbA)
  clear hk hd e6 e7 e8 g6 g10 g11 g15 g16 k6 k10 k11 k15 k16 hW1 hbA hsz hb0 hb1 hs
  go_enter Try.func26, Try.ntmps26
  go_wp2_with fail
  rw [HW1.out]
  refine (laws_eqStringS.calls K6 A6 c6 x.f6 B6 d6 x.f6 true W1 G6.out l6 J6.out m6 E6.out).mono ?_
  rintro e w2 ⟨rfl, hd2⟩
  have hb2 := hd2.below
  have Q0 := Lib.hid ((hb2.block _ (blk_lt HB0.out)).trans HB0.out)
  have Q1 := Lib.hid ((hb2.block _ (blk_lt HB1.out)).trans HB1.out)
  have N2 := Lib.hid hb2
  clear hd2 hb2 HW1
  obtain ⟨s7, s8, s9, s10, s11⟩ := ob_c7 Q0.out
  obtain ⟨t7, t8, t9, t10, t11⟩ := ob_c7 Q1.out
  go_wp2_with fail
  clear s7 s8 s9 s10 s11 t7 t8 t9 t10 t11
  refine (laws_eqValue.calls K7 x.f7.f0 x.f7.f1 x.f7.f2 A10 c10 x.f7.f3 A11 c11 x.f7.f4 x.f7.f0 x.f7.f1 x.f7.f2 B10 d10 x.f7.f3 B11 d11 x.f7.f4 true w2 (Kd.C_below G10.out N2.out) l10 (Kd.C_below G11.out N2.out) l11 (Kd.C_below J10.out N2.out) m10 (Kd.C_below J11.out N2.out) m11 E7.out).mono ?_
  rintro e w3 ⟨rfl, hb3⟩
  have Q03 := Lib.hid ((hb3.block _ (blk_lt Q0.out)).trans Q0.out)
  have Q13 := Lib.hid ((hb3.block _ (blk_lt Q1.out)).trans Q1.out)
  have N3 := Lib.hid (below_step N2.out hb3)
  clear hb3 Q0 Q1
  obtain ⟨s7, s8, s9, s10, s11⟩ := ob_c8 Q03.out
  obtain ⟨t7, t8, t9, t10, t11⟩ := ob_c8 Q13.out
  go_wp2_with fail
  clear s7 s8 s9 s10 s11 t7 t8 t9 t10 t11
  refine (laws_eqValue.calls K8 x.f8.f0 x.f8.f1 x.f8.f2 A15 c15 x.f8.f3 A16 c16 x.f8.f4 x.f8.f0 x.f8.f1 x.f8.f2 B15 d15 x.f8.f3 B16 d16 x.f8.f4 true w3 (Kd.C_below G15.out N3.out) l15 (Kd.C_below G16.out N3.out) l16 (Kd.C_below J15.out N3.out) m15 (Kd.C_below J16.out N3.out) m16 E8.out).mono ?_
  rintro e w4 ⟨rfl, hb4⟩
  have N4 := Lib.hid (below_step N3.out hb4)
  clear hb4
  go_wp2
  go_ret
  exact ⟨rfl, below_step HBA.out N4.out⟩
def T_laws_eqObjS_6 : Bool × List (List Nat × List Nat) := (true, [([], []), ([], []), ([0, 1], [0, 1]), ([2], [2]), ([], []), ([], []), ([4, 5], [4, 5]), ([6], [6]), ([3, 7], [3, 7]), ([8], [8])])
def B_laws_eqObjS_6 : List Nat := [0, 0, 3, 7, 0, 0, 48, 112, 255, 511]
theorem t_laws_eqObjS_6 : rtab .any (opsOf Try.f31 6) = T_laws_eqObjS_6 := by kernel_rfl
theorem b_laws_eqObjS_6 : waitsOk T_laws_eqObjS_6.2 B_laws_eqObjS_6 = true := by kernel_rfl
def T_laws_eqChangeS_6 : Bool × List (List Nat × List Nat) := (true, [([], []), ([], []), ([0, 1], [0, 1]), ([2], [2]), ([], []), ([], []), ([4, 5], [4, 5]), ([6], [6]), ([3, 7], [3, 7]), ([8], [8])])
def B_laws_eqChangeS_6 : List Nat := [0, 0, 3, 7, 0, 0, 48, 112, 255, 511]
theorem t_laws_eqChangeS_6 : rtab .any (opsOf Try.f65 6) = T_laws_eqChangeS_6 := by kernel_rfl
theorem b_laws_eqChangeS_6 : waitsOk T_laws_eqChangeS_6.2 B_laws_eqChangeS_6 = true := by kernel_rfl
set_option maxHeartbeats 16000000 in
set_option maxRecDepth 100000 in
theorem eqOs_calls (n : Nat) (xs : List IObj) (A B : Option Addr) (c d : Nat) (w : World) (hr : Kd.C k46 w A xs.length xs) (hc : xs.length ≤ c) (hq : Kd.C k46 w B xs.length xs) (hd : xs.length ≤ d) (hs : ∀ x ∈ xs, SmOO n x) :
    Calls Try.prog 31 #[.slice A xs.length c, .slice B xs.length d] w fun e w' => e = .returned (.bool true) ∧ Below w.heap.size w w' := by
  have hlen := hr.2.1
  have HR := Lib.hid hr
  have HQ := Lib.hid hq
  have HS := Lib.hid hs
  clear hr hq hs
  go_enter Try.func31, Try.ntmps31
  go_wp2
  go_loopw [5] (fun vi wr => ∃ i : Nat, i ≤ xs.length ∧ vi = .int .i64 i ∧ Hid (Below w.heap.size w wr)) (fun vi _ => xs.length - (intOf vi).toNat)
  case atStart => exact ⟨0, by omega, rfl, Below.refl _ _⟩
  case round =>
    obtain ⟨i, hi, rfl, HB⟩ := hrel
    by_cases hil : i < xs.length
    · obtain ⟨ad, cs, rfl, hcs, hK, hcell⟩ := row_at HR.out i hil
      obtain ⟨ae, ds, rfl, hds, hL, hdell⟩ := row_at HQ.out i hil
      have hsz : (k46 : Kd IObj).sz = 17 := rfl
      rw [hsz] at hcs hcell hds hdell
      have HK := Lib.hid hK
      have HL := Lib.hid hL
      have HC := Lib.hid hcell
      have HD := Lib.hid hdell
      have HCS := Lib.hid hcs
      have HDS := Lib.hid hds
      clear hcs hK hcell hds hL hdell hsz
      go_wp2_with fail
      refine start_ (n := 10) (S := fun w' => Below w.heap.size w w') (ds := []) #[false, false, false, false, false, false, false, false, false, false] (by kernel_rfl) rfl rfl (below_drew HB.out) (fun hHeld => ?_)
      refine with_tabW t_laws_eqObjS_6 b_laws_eqObjS_6 (fun HT_ HW_ => ?_)
      generalize wr.drew = w1 at hHeld ⊢
      repeat (apply takeA_ HT_.out HW_.out [0, 1, 2, 3, 4, 5, 6, 7]; (case hn => exact rfl); (case hi0 => exact rfl); (case hl => simp only [List.setIfInBounds_toArray, List.set_cons_zero, List.set_cons_succ]; rfl); (case hQ => exact fun _ _ _ h => h); (case hy => first | exact Or.inr ⟨by rfl, rfl⟩ | (exact yield_row (ad := ad.add (i * 17)) (cs := cs) (by rfl) rfl rfl (fun w_ hS_ => HC.out w_ hS_) Try.underlying46 rfl (by rw [HCS.out]; kernel_rfl)) | (exact yield_row (ad := ae.add (i * 17)) (cs := ds) (by rfl) rfl rfl (fun w_ hS_ => HD.out w_ hS_) Try.underlying46 rfl (by rw [HDS.out]; kernel_rfl)) | (refine Or.inl ⟨by rfl, ?_⟩; intro w_ hS_; go_simp; with_reducible rfl)); (case hS => exact hHeld); (case ha => simp only [Act.put, List.setIfInBounds_toArray, List.set_cons_zero, List.set_cons_succ, i64_w, i32_w]; rfl))
      have HB1 := Lib.hid hHeld
      refine callA_ (i := 8) (l' := ?_) HT_.out rfl rfl ?_ (by decide) Try.func26 (by kernel_rfl) rfl (by rfl) rfl (by (try simp only [List.map_toArray, List.map_cons, List.map_nil]); first | done | rfl) (eqO_calls n xs[i] cs ds w1 ((k46 : Kd IObj).K_below hHeld HK.out) ((k46 : Kd IObj).K_below hHeld HL.out) (HS.out _ (List.getElem_mem hil))) ?_
      rotate_left
      · simp only [List.setIfInBounds_toArray, List.set_cons_zero, List.set_cons_succ]; rfl
      rintro e w2 ⟨rfl, hb2⟩
      have hHeld2 := below_step HB1.out hb2
      refine ⟨_, rfl, hHeld2, ?_⟩
      refine norm_ (a' := ?_) ?_ ?_
      rotate_left
      · simp only [Act.put, List.setIfInBounds_toArray, List.set_cons_zero, List.set_cons_succ, i64_w, i32_w]; rfl
      repeat (apply takeA_ HT_.out HW_.out [9]; (case hn => exact rfl); (case hi0 => exact rfl); (case hl => simp only [List.setIfInBounds_toArray, List.set_cons_zero, List.set_cons_succ]; rfl); (case hQ => exact fun _ _ _ h => h); (case hy => first | exact Or.inr ⟨by rfl, rfl⟩ | (refine Or.inl ⟨by rfl, ?_⟩; intro w_ hS_; go_simp; with_reducible rfl)); (case hS => exact hHeld2); (case ha => simp only [Act.put, List.setIfInBounds_toArray, List.set_cons_zero, List.set_cons_succ, i64_w, i32_w]; rfl))
      refine done_ (done_of HT_.out (by kernel_rfl)) ?_
      have HB2 := Lib.hid hHeld2
      clear hb2 hHeld hHeld2 HT_ HW_ HC HD
      go_wp2
      go_roundw
      case rel => exact ⟨i + 1, by omega, by go_num, HB2⟩
      case measure => simp [intOf]; omega
    · obtain rfl : i = xs.length := by omega
      go_wp2
      go_ret
      exact ⟨rfl, HB.out⟩
theorem kC_split {w : World} {x : IChg} {cs : List Value} (h : k90.K w x cs) : ∃ c2, cs = .int .i64 x.f0 :: .bool x.f1 :: c2 ∧ k46.K w x.f2 c2 := by
  obtain ⟨_, _, e0, h0, _, c2, e1, h1, h2⟩ := h
  subst e1
  subst e0
  exact ⟨c2, by rw [h0, h1]; rfl, h2⟩
set_option maxHeartbeats 16000000 in
set_option maxRecDepth 100000 in
theorem eqC_calls (n : Nat) (x : IChg) (cs ds : List Value) (w : World) (hk : k90.K w x cs) (hd : k90.K w x ds) (hs : SmOO n x.f2) :
    Calls Try.prog 122 #[.agg cs.toArray, .agg ds.toArray] w fun e w' => e = .returned (.bool true) ∧ Below w.heap.size w w' := by
  obtain ⟨c2, rfl, hk2⟩ := kC_split hk
  obtain ⟨d2, rfl, hd2⟩ := kC_split hd
  have hl2 : c2.length = 17 := (k46 : Kd IObj).K_len hk2
  have hm2 : d2.length = 17 := (k46 : Kd IObj).K_len hd2
  obtain ⟨W1, hW1⟩ : ∃ W1, (w.alloc (.cells (Value.int .i64 x.f0 :: Value.bool x.f1 :: c2).toArray 90)).alloc (.cells (Value.int .i64 x.f0 :: Value.bool x.f1 :: d2).toArray 90) = W1 := ⟨_, rfl⟩
  have hbA := below_alloc (below_alloc (Below.refl w.heap.size w) (.cells (Value.int .i64 x.f0 :: Value.bool x.f1 :: c2).toArray 90)) (.cells (Value.int .i64 x.f0 :: Value.bool x.f1 :: d2).toArray 90)
  obtain ⟨hb0, hb1, hsz⟩ := alloc2 w (.cells (Value.int .i64 x.f0 :: Value.bool x.f1 :: c2).toArray 90) (.cells (Value.int .i64 x.f0 :: Value.bool x.f1 :: d2).toArray 90)
  rw [hW1] at hb0 hb1 hsz hbA
  have HW1 := Lib.hid hW1
  have HBA := Lib.hid hbA
  have Q0 := Lib.hid hb0
  have Q1 := Lib.hid hb1
  have HL2 := Lib.hid hl2
  have HM2 := Lib.hid hm2
  have HK2 := Lib.hid ((k46 : Kd IObj).K_below hbA hk2)
  have HD2 := Lib.hid ((k46 : Kd IObj).K_below hbA hd2)
  have HS := Lib.hid hs
  clear hk hd hk2 hd2 hl2 hm2 hW1 hbA hb0 hb1 hsz hs
  go_enter Try.func122, Try.ntmps122
  go_wp2_with (first | ((with_reducible refine gate_dst (N := 16) rfl ?_); rw [HW1.out]; refine load_event rfl (N := 16) rfl 46 (.tmp 15) rfl ⟨w.heap.size, 2, none⟩ rfl c2 (blk_from Q0.out rfl) Try.underlying46 rfl ?hi ?_; (case hi => rw [HL2.out]; kernel_rfl)) | ((with_reducible refine gate_dst (N := 18) rfl ?_); refine load_event rfl (N := 18) rfl 46 (.tmp 17) rfl ⟨w.heap.size + 1, 2, none⟩ rfl d2 (blk_from Q1.out rfl) Try.underlying46 rfl ?hi ?_; (case hi => rw [HM2.out]; kernel_rfl)))
  refine (eqO_calls n x.f2 c2 d2 W1 HK2.out HD2.out HS.out).mono ?_
  rintro e w2 ⟨rfl, hb2⟩
  have HB2 := Lib.hid (below_step HBA.out hb2)
  clear hb2
  go_wp2
  go_ret
  exact ⟨rfl, HB2.out⟩
set_option maxHeartbeats 16000000 in
set_option maxRecDepth 100000 in
theorem eqCs_calls (n : Nat) (xs : List IChg) (A B : Option Addr) (c d : Nat) (w : World) (hr : Kd.C k90 w A xs.length xs) (hc : xs.length ≤ c) (hq : Kd.C k90 w B xs.length xs) (hd : xs.length ≤ d) (hs : ∀ x ∈ xs, SmOO n x.f2) :
    Calls Try.prog 65 #[.slice A xs.length c, .slice B xs.length d] w fun e w' => e = .returned (.bool true) ∧ Below w.heap.size w w' := by
  have hlen := hr.2.1
  have HR := Lib.hid hr
  have HQ := Lib.hid hq
  have HS := Lib.hid hs
  clear hr hq hs
  go_enter Try.func65, Try.ntmps65
  go_wp2
  go_loopw [5] (fun vi wr => ∃ i : Nat, i ≤ xs.length ∧ vi = .int .i64 i ∧ Hid (Below w.heap.size w wr)) (fun vi _ => xs.length - (intOf vi).toNat)
  case atStart => exact ⟨0, by omega, rfl, Below.refl _ _⟩
  case round =>
    obtain ⟨i, hi, rfl, HB⟩ := hrel
    by_cases hil : i < xs.length
    · obtain ⟨ad, cs, rfl, hcs, hK, hcell⟩ := row_at HR.out i hil
      obtain ⟨ae, ds, rfl, hds, hL, hdell⟩ := row_at HQ.out i hil
      have hsz : (k90 : Kd IChg).sz = 19 := rfl
      rw [hsz] at hcs hcell hds hdell
      have HK := Lib.hid hK
      have HL := Lib.hid hL
      have HC := Lib.hid hcell
      have HD := Lib.hid hdell
      have HCS := Lib.hid hcs
      have HDS := Lib.hid hds
      clear hcs hK hcell hds hL hdell hsz
      go_wp2_with fail
      refine start_ (n := 10) (S := fun w' => Below w.heap.size w w') (ds := []) #[false, false, false, false, false, false, false, false, false, false] (by kernel_rfl) rfl rfl (below_drew HB.out) (fun hHeld => ?_)
      refine with_tabW t_laws_eqChangeS_6 b_laws_eqChangeS_6 (fun HT_ HW_ => ?_)
      generalize wr.drew = w1 at hHeld ⊢
      repeat (apply takeA_ HT_.out HW_.out [0, 1, 2, 3, 4, 5, 6, 7]; (case hn => exact rfl); (case hi0 => exact rfl); (case hl => simp only [List.setIfInBounds_toArray, List.set_cons_zero, List.set_cons_succ]; rfl); (case hQ => exact fun _ _ _ h => h); (case hy => first | exact Or.inr ⟨by rfl, rfl⟩ | (exact yield_row (ad := ad.add (i * 19)) (cs := cs) (by rfl) rfl rfl (fun w_ hS_ => HC.out w_ hS_) Try.underlying90 rfl (by rw [HCS.out]; kernel_rfl)) | (exact yield_row (ad := ae.add (i * 19)) (cs := ds) (by rfl) rfl rfl (fun w_ hS_ => HD.out w_ hS_) Try.underlying90 rfl (by rw [HDS.out]; kernel_rfl)) | (refine Or.inl ⟨by rfl, ?_⟩; intro w_ hS_; go_simp; with_reducible rfl)); (case hS => exact hHeld); (case ha => simp only [Act.put, List.setIfInBounds_toArray, List.set_cons_zero, List.set_cons_succ, i64_w, i32_w]; rfl))
      have HB1 := Lib.hid hHeld
      refine callA_ (i := 8) (l' := ?_) HT_.out rfl rfl ?_ (by decide) Try.func122 (by kernel_rfl) rfl (by rfl) rfl (by (try simp only [List.map_toArray, List.map_cons, List.map_nil]); first | done | rfl) (eqC_calls n xs[i] cs ds w1 ((k90 : Kd IChg).K_below hHeld HK.out) ((k90 : Kd IChg).K_below hHeld HL.out) (HS.out _ (List.getElem_mem hil))) ?_
      rotate_left
      · simp only [List.setIfInBounds_toArray, List.set_cons_zero, List.set_cons_succ]; rfl
      rintro e w2 ⟨rfl, hb2⟩
      have hHeld2 := below_step HB1.out hb2
      refine ⟨_, rfl, hHeld2, ?_⟩
      refine norm_ (a' := ?_) ?_ ?_
      rotate_left
      · simp only [Act.put, List.setIfInBounds_toArray, List.set_cons_zero, List.set_cons_succ, i64_w, i32_w]; rfl
      repeat (apply takeA_ HT_.out HW_.out [9]; (case hn => exact rfl); (case hi0 => exact rfl); (case hl => simp only [List.setIfInBounds_toArray, List.set_cons_zero, List.set_cons_succ]; rfl); (case hQ => exact fun _ _ _ h => h); (case hy => first | exact Or.inr ⟨by rfl, rfl⟩ | (refine Or.inl ⟨by rfl, ?_⟩; intro w_ hS_; go_simp; with_reducible rfl)); (case hS => exact hHeld2); (case ha => simp only [Act.put, List.setIfInBounds_toArray, List.set_cons_zero, List.set_cons_succ, i64_w, i32_w]; rfl))
      refine done_ (done_of HT_.out (by kernel_rfl)) ?_
      have HB2 := Lib.hid hHeld2
      clear hb2 hHeld hHeld2 HT_ HW_ HC HD
      go_wp2
      go_roundw
      case rel => exact ⟨i + 1, by omega, by go_num, HB2⟩
      case measure => simp [intOf]; omega
    · obtain rfl : i = xs.length := by omega
      go_wp2
      go_ret
      exact ⟨rfl, HB.out⟩
end Go.Proofs.Ytmoiacijklkfaaa.G

/- G71 -/
-- Laid by wip/g/gprint.py out of the translation, by the kit's print program. Lean checks it.
namespace Go.Proofs.Ytmoiacijklkfaaa.G
open Go.RowKit Go.Proofs.YtmoiacijklkfaaaW.PrintWords Go.Proofs.YtmoiacijklkfaaaW.PrintLast Go.Proofs.YtmoiacijklkfaaaW.PrintMore
attribute [local go_sem] max2_int min2_int max_two min_two max_three min_three max_four min_four   -- for this text's walks alone
set_option linter.unusedVariables false
set_option linter.unusedSimpArgs false

/-! ### impl_within: function 71 -/
def impl_within.f (a0 : Int) (a1 : Int) (a2 : Int) : Option (Bool) := if a0 ≥ a1 then (some (decide (a0 ≤ a2))) else (some false)
set_option maxHeartbeats 8000000 in
set_option maxRecDepth 100000 in
theorem impl_within.calls (a0 : Int) (a1 : Int) (a2 : Int) (r : Bool) (w : World) (h : impl_within.f a0 a1 a2 = some r) :
    Calls Try.prog 71 #[.int .i64 a0, .int .i64 a1, .int .i64 a2] w fun e w' => e = .returned (.bool r) ∧ Drawn0 w w' := by
  have H : (if a0 ≥ a1 then (some (decide (a0 ≤ a2))) else (some false)) = some r := h
  clear h
  by_cases c4 : a0 ≥ a1
  · rw [if_pos c4] at H
    have c4b0 : decide (a1 ≤ a0) = true := decide_eq_true c4
    clear c4
    obtain rfl := Option.some.inj H
    go_enter Try.func71, Try.ntmps71
    go_wp2
    go_ret
    exact ⟨by first | rfl | (simp; done) | (simp [*]; done), by repeat (first | exact Drawn0.refl _ | apply Drawn0.step)⟩
  · rw [if_neg c4] at H
    have c4b0 : decide (a1 ≤ a0) = false := decide_eq_false c4
    clear c4
    obtain rfl := Option.some.inj H
    go_enter Try.func71, Try.ntmps71
    go_wp2
    go_ret
    exact ⟨by first | rfl | (simp; done) | (simp [*]; done), by repeat (first | exact Drawn0.refl _ | apply Drawn0.step)⟩

end Go.Proofs.Ytmoiacijklkfaaa.G

/- G91 -/
-- Laid by wip/g/gprint.py out of the translation, by the kit's print program. Lean checks it.
namespace Go.Proofs.Ytmoiacijklkfaaa.G
open Go.RowKit Go.Proofs.YtmoiacijklkfaaaW.PrintWords Go.Proofs.YtmoiacijklkfaaaW.PrintLast Go.Proofs.YtmoiacijklkfaaaW.PrintMore
attribute [local go_sem] max2_int min2_int max_two min_two max_three min_three max_four min_four   -- for this text's walks alone
set_option linter.unusedVariables false
set_option linter.unusedSimpArgs false

/-! ### impl_NameOk: function 91 -/
def impl_NameOk.l0 : Nat → ByteArray → Int → Int → Option (Bool)
  | 0, _, _, _ => none
  | k + 1, x0, x6, x7 => if x7 < x6 then (if 0 ≤ x7 then (if x7 < (x0.size : Int) then (if (bt x0 x7) < 97 then (if (bt x0 x7) < 48 then (if (bt x0 x7) = 45 then (impl_NameOk.l0 k x0 x6 (wrap64 (x7 + 1))) else (some false)) else (if (bt x0 x7) > 57 then (if (bt x0 x7) = 45 then (impl_NameOk.l0 k x0 x6 (wrap64 (x7 + 1))) else (some false)) else (impl_NameOk.l0 k x0 x6 (wrap64 (x7 + 1))))) else (if (bt x0 x7) > 122 then (if (bt x0 x7) < 48 then (if (bt x0 x7) = 45 then (impl_NameOk.l0 k x0 x6 (wrap64 (x7 + 1))) else (some false)) else (if (bt x0 x7) > 57 then (if (bt x0 x7) = 45 then (impl_NameOk.l0 k x0 x6 (wrap64 (x7 + 1))) else (some false)) else (impl_NameOk.l0 k x0 x6 (wrap64 (x7 + 1))))) else (impl_NameOk.l0 k x0 x6 (wrap64 (x7 + 1))))) else (none)) else (none)) else ((impl_within.f (x0.size : Int) 1 20).bind fun t857 => (if t857 = true then (if 0 < (x0.size : Int) then (if (bt x0 0) = 45 then (some false) else (if 0 ≤ (wrap64 ((x0.size : Int) - 1)) then (if (wrap64 ((x0.size : Int) - 1)) < (x0.size : Int) then (some ((bt x0 (wrap64 ((x0.size : Int) - 1))) != 45)) else (none)) else (none))) else (none)) else (some false)))
def impl_NameOk.f (k : Nat) (a0 : ByteArray) : Option (Bool) := impl_NameOk.l0 k a0 (a0.size : Int) 0
set_option maxHeartbeats 8000000 in
set_option maxRecDepth 100000 in
theorem impl_NameOk.calls (k : Nat) (a0 : ByteArray) (r : Bool) (w : World) (h : impl_NameOk.f k a0 = some r) :
    Calls Try.prog 91 #[.string a0] w fun e w' => e = .returned (.bool r) ∧ Drawn0 w w' := by
  have H : (impl_NameOk.l0 k a0 (a0.size : Int) 0) = some r := h
  clear h
  have H' := Aside0.mk H
  clear H
  go_enter Try.func91, Try.ntmps91
  go_wp2
  go_loopg [7] k (fun kq v7 w' => ∃ (x7_1 : Int), v7 = .int .i64 x7_1 ∧ Aside0 (impl_NameOk.l0 kq a0 (a0.size : Int) x7_1 = some r) ∧ Aside0 (kq ≤ k) ∧ Drawn0 w w')
  case atStart => exact ⟨(0), (by first | rfl | (simp; done) | (simp [*]; done)), H', ⟨Nat.le_refl _⟩, by repeat (first | exact Drawn0.refl _ | apply Drawn0.step)⟩
  case round =>
    clear H'
    obtain ⟨x7_1, rfl, HA, HK1, ⟨m1, rfl⟩⟩ := hrel
    cases gk with
    | zero => exact absurd HA.out (by simp [impl_NameOk.l0])
    | succ k1 =>
      have H := HA.out
      clear HA
      simp only [impl_NameOk.l0] at H
      by_cases c2 : x7_1 < (a0.size : Int)
      · rw [if_pos c2] at H
        have c2b0 : decide (x7_1 < (a0.size : Int)) = true := decide_eq_true c2
        clear c2
        by_cases c3 : 0 ≤ x7_1
        · rw [if_pos c3] at H
          have c3b0 : decide (0 ≤ x7_1) = true := decide_eq_true c3
          clear c3
          by_cases c4 : x7_1 < (a0.size : Int)
          · rw [if_pos c4] at H
            have c4b0 : decide (x7_1 < (a0.size : Int)) = true := decide_eq_true c4
            clear c4
            by_cases c6 : (bt a0 x7_1) < 97
            · rw [if_pos c6] at H
              have c6b0 : decide ((bt a0 x7_1) < 97) = true := decide_eq_true c6
              clear c6
              by_cases c7 : (bt a0 x7_1) < 48
              · rw [if_pos c7] at H
                have c7b0 : decide ((bt a0 x7_1) < 48) = true := decide_eq_true c7
                clear c7
                by_cases c8 : (bt a0 x7_1) = 45
                · rw [if_pos c8] at H
                  have c8b0 : ((bt a0 x7_1) == 45) = true := beq_iff_eq.mpr c8
                  have c8b1 : ((bt a0 x7_1) != 45) = false := bne_eq_false_iff_eq.mpr c8
                  clear c8
                  have H' := Aside0.mk H
                  clear H
                  have p5 : 0 ≤ (x7_1 : Int) := of_decide_eq_true (by first | (with_reducible assumption) | assumption)
                  have q5 : x7_1 < (a0.size : Int) := of_decide_eq_true (by first | (with_reducible assumption) | assumption)
                  have hx5 := bt_at a0 x7_1
                  replace p5 := eq_true p5
                  replace q5 := eq_true q5
                  go_wp2
                  go_roundg k1
                  case measure => have := HK1.out; omega
                  case rel => exact ⟨(wrap64 (x7_1 + 1)), (by first | rfl | (simp; done) | (simp [*]; done)), H', ⟨by have := HK1.out; omega⟩, by repeat (first | exact Drawn0.refl _ | apply Drawn0.step)⟩
                · rw [if_neg c8] at H
                  have c8b0 : ((bt a0 x7_1) == 45) = false := beq_eq_false_iff_ne.mpr c8
                  have c8b1 : ((bt a0 x7_1) != 45) = true := bne_iff_ne.mpr c8
                  obtain rfl := Option.some.inj H
                  have p5 : 0 ≤ (x7_1 : Int) := of_decide_eq_true (by first | (with_reducible assumption) | assumption)
                  have q5 : x7_1 < (a0.size : Int) := of_decide_eq_true (by first | (with_reducible assumption) | assumption)
                  have hx5 := bt_at a0 x7_1
                  replace p5 := eq_true p5
                  replace q5 := eq_true q5
                  go_wp2
                  go_ret
                  exact ⟨by first | rfl | (simp; done) | (simp [*]; done), by repeat (first | exact Drawn0.refl _ | apply Drawn0.step)⟩
              · rw [if_neg c7] at H
                have c7b0 : decide ((bt a0 x7_1) < 48) = false := decide_eq_false c7
                clear c7
                by_cases c9 : (bt a0 x7_1) > 57
                · rw [if_pos c9] at H
                  have c9b0 : decide (57 < (bt a0 x7_1)) = true := decide_eq_true c9
                  clear c9
                  by_cases c10 : (bt a0 x7_1) = 45
                  · rw [if_pos c10] at H
                    have c10b0 : ((bt a0 x7_1) == 45) = true := beq_iff_eq.mpr c10
                    have c10b1 : ((bt a0 x7_1) != 45) = false := bne_eq_false_iff_eq.mpr c10
                    clear c10
                    have H' := Aside0.mk H
                    clear H
                    have p5 : 0 ≤ (x7_1 : Int) := of_decide_eq_true (by first | (with_reducible assumption) | assumption)
                    have q5 : x7_1 < (a0.size : Int) := of_decide_eq_true (by first | (with_reducible assumption) | assumption)
                    have hx5 := bt_at a0 x7_1
                    replace p5 := eq_true p5
                    replace q5 := eq_true q5
                    go_wp2
                    go_roundg k1
                    case measure => have := HK1.out; omega
                    case rel => exact ⟨(wrap64 (x7_1 + 1)), (by first | rfl | (simp; done) | (simp [*]; done)), H', ⟨by have := HK1.out; omega⟩, by repeat (first | exact Drawn0.refl _ | apply Drawn0.step)⟩
                  · rw [if_neg c10] at H
                    have c10b0 : ((bt a0 x7_1) == 45) = false := beq_eq_false_iff_ne.mpr c10
                    have c10b1 : ((bt a0 x7_1) != 45) = true := bne_iff_ne.mpr c10
                    obtain rfl := Option.some.inj H
                    have p5 : 0 ≤ (x7_1 : Int) := of_decide_eq_true (by first | (with_reducible assumption) | assumption)
                    have q5 : x7_1 < (a0.size : Int) := of_decide_eq_true (by first | (with_reducible assumption) | assumption)
                    have hx5 := bt_at a0 x7_1
                    replace p5 := eq_true p5
                    replace q5 := eq_true q5
                    go_wp2
                    go_ret
                    exact ⟨by first | rfl | (simp; done) | (simp [*]; done), by repeat (first | exact Drawn0.refl _ | apply Drawn0.step)⟩
                · rw [if_neg c9] at H
                  have c9b0 : decide (57 < (bt a0 x7_1)) = false := decide_eq_false c9
                  clear c9
                  have H' := Aside0.mk H
                  clear H
                  have p5 : 0 ≤ (x7_1 : Int) := of_decide_eq_true (by first | (with_reducible assumption) | assumption)
                  have q5 : x7_1 < (a0.size : Int) := of_decide_eq_true (by first | (with_reducible assumption) | assumption)
                  have hx5 := bt_at a0 x7_1
                  replace p5 := eq_true p5
                  replace q5 := eq_true q5
                  go_wp2
                  go_roundg k1
                  case measure => have := HK1.out; omega
                  case rel => exact ⟨(wrap64 (x7_1 + 1)), (by first | rfl | (simp; done) | (simp [*]; done)), H', ⟨by have := HK1.out; omega⟩, by repeat (first | exact Drawn0.refl _ | apply Drawn0.step)⟩
            · rw [if_neg c6] at H
              have c6b0 : decide ((bt a0 x7_1) < 97) = false := decide_eq_false c6
              clear c6
              by_cases c11 : (bt a0 x7_1) > 122
              · rw [if_pos c11] at H
                have c11b0 : decide (122 < (bt a0 x7_1)) = true := decide_eq_true c11
                clear c11
                by_cases c12 : (bt a0 x7_1) < 48
                · rw [if_pos c12] at H
                  have c12b0 : decide ((bt a0 x7_1) < 48) = true := decide_eq_true c12
                  clear c12
                  by_cases c13 : (bt a0 x7_1) = 45
                  · rw [if_pos c13] at H
                    have c13b0 : ((bt a0 x7_1) == 45) = true := beq_iff_eq.mpr c13
                    have c13b1 : ((bt a0 x7_1) != 45) = false := bne_eq_false_iff_eq.mpr c13
                    clear c13
                    have H' := Aside0.mk H
                    clear H
                    have p5 : 0 ≤ (x7_1 : Int) := of_decide_eq_true (by first | (with_reducible assumption) | assumption)
                    have q5 : x7_1 < (a0.size : Int) := of_decide_eq_true (by first | (with_reducible assumption) | assumption)
                    have hx5 := bt_at a0 x7_1
                    replace p5 := eq_true p5
                    replace q5 := eq_true q5
                    go_wp2
                    go_roundg k1
                    case measure => have := HK1.out; omega
                    case rel => exact ⟨(wrap64 (x7_1 + 1)), (by first | rfl | (simp; done) | (simp [*]; done)), H', ⟨by have := HK1.out; omega⟩, by repeat (first | exact Drawn0.refl _ | apply Drawn0.step)⟩
                  · rw [if_neg c13] at H
                    have c13b0 : ((bt a0 x7_1) == 45) = false := beq_eq_false_iff_ne.mpr c13
                    have c13b1 : ((bt a0 x7_1) != 45) = true := bne_iff_ne.mpr c13
                    obtain rfl := Option.some.inj H
                    have p5 : 0 ≤ (x7_1 : Int) := of_decide_eq_true (by first | (with_reducible assumption) | assumption)
                    have q5 : x7_1 < (a0.size : Int) := of_decide_eq_true (by first | (with_reducible assumption) | assumption)
                    have hx5 := bt_at a0 x7_1
                    replace p5 := eq_true p5
                    replace q5 := eq_true q5
                    go_wp2
                    go_ret
                    exact ⟨by first | rfl | (simp; done) | (simp [*]; done), by repeat (first | exact Drawn0.refl _ | apply Drawn0.step)⟩
                · rw [if_neg c12] at H
                  have c12b0 : decide ((bt a0 x7_1) < 48) = false := decide_eq_false c12
                  clear c12
                  by_cases c14 : (bt a0 x7_1) > 57
                  · rw [if_pos c14] at H
                    have c14b0 : decide (57 < (bt a0 x7_1)) = true := decide_eq_true c14
                    clear c14
                    by_cases c15 : (bt a0 x7_1) = 45
                    · rw [if_pos c15] at H
                      have c15b0 : ((bt a0 x7_1) == 45) = true := beq_iff_eq.mpr c15
                      have c15b1 : ((bt a0 x7_1) != 45) = false := bne_eq_false_iff_eq.mpr c15
                      clear c15
                      have H' := Aside0.mk H
                      clear H
                      have p5 : 0 ≤ (x7_1 : Int) := of_decide_eq_true (by first | (with_reducible assumption) | assumption)
                      have q5 : x7_1 < (a0.size : Int) := of_decide_eq_true (by first | (with_reducible assumption) | assumption)
                      have hx5 := bt_at a0 x7_1
                      replace p5 := eq_true p5
                      replace q5 := eq_true q5
                      go_wp2
                      go_roundg k1
                      case measure => have := HK1.out; omega
                      case rel => exact ⟨(wrap64 (x7_1 + 1)), (by first | rfl | (simp; done) | (simp [*]; done)), H', ⟨by have := HK1.out; omega⟩, by repeat (first | exact Drawn0.refl _ | apply Drawn0.step)⟩
                    · rw [if_neg c15] at H
                      have c15b0 : ((bt a0 x7_1) == 45) = false := beq_eq_false_iff_ne.mpr c15
                      have c15b1 : ((bt a0 x7_1) != 45) = true := bne_iff_ne.mpr c15
                      obtain rfl := Option.some.inj H
                      have p5 : 0 ≤ (x7_1 : Int) := of_decide_eq_true (by first | (with_reducible assumption) | assumption)
                      have q5 : x7_1 < (a0.size : Int) := of_decide_eq_true (by first | (with_reducible assumption) | assumption)
                      have hx5 := bt_at a0 x7_1
                      replace p5 := eq_true p5
                      replace q5 := eq_true q5
                      go_wp2
                      go_ret
                      exact ⟨by first | rfl | (simp; done) | (simp [*]; done), by repeat (first | exact Drawn0.refl _ | apply Drawn0.step)⟩
                  · rw [if_neg c14] at H
                    have c14b0 : decide (57 < (bt a0 x7_1)) = false := decide_eq_false c14
                    clear c14
                    have H' := Aside0.mk H
                    clear H
                    have p5 : 0 ≤ (x7_1 : Int) := of_decide_eq_true (by first | (with_reducible assumption) | assumption)
                    have q5 : x7_1 < (a0.size : Int) := of_decide_eq_true (by first | (with_reducible assumption) | assumption)
                    have hx5 := bt_at a0 x7_1
                    replace p5 := eq_true p5
                    replace q5 := eq_true q5
                    go_wp2
                    go_roundg k1
                    case measure => have := HK1.out; omega
                    case rel => exact ⟨(wrap64 (x7_1 + 1)), (by first | rfl | (simp; done) | (simp [*]; done)), H', ⟨by have := HK1.out; omega⟩, by repeat (first | exact Drawn0.refl _ | apply Drawn0.step)⟩
              · rw [if_neg c11] at H
                have c11b0 : decide (122 < (bt a0 x7_1)) = false := decide_eq_false c11
                clear c11
                have H' := Aside0.mk H
                clear H
                have p5 : 0 ≤ (x7_1 : Int) := of_decide_eq_true (by first | (with_reducible assumption) | assumption)
                have q5 : x7_1 < (a0.size : Int) := of_decide_eq_true (by first | (with_reducible assumption) | assumption)
                have hx5 := bt_at a0 x7_1
                replace p5 := eq_true p5
                replace q5 := eq_true q5
                go_wp2
                go_roundg k1
                case measure => have := HK1.out; omega
                case rel => exact ⟨(wrap64 (x7_1 + 1)), (by first | rfl | (simp; done) | (simp [*]; done)), H', ⟨by have := HK1.out; omega⟩, by repeat (first | exact Drawn0.refl _ | apply Drawn0.step)⟩
          · rw [if_neg c4] at H
            exact absurd H (by simp)
        · rw [if_neg c3] at H
          exact absurd H (by simp)
      · rw [if_neg c2] at H
        have c2b0 : decide (x7_1 < (a0.size : Int)) = false := decide_eq_false c2
        clear c2
        replace H := Option.bind_eq_some_iff.mp H
        obtain ⟨t857, A160, H⟩ := H
        replace H : (if t857 = true then (if 0 < (a0.size : Int) then (if (bt a0 0) = 45 then (some false) else (if 0 ≤ (wrap64 ((a0.size : Int) - 1)) then (if (wrap64 ((a0.size : Int) - 1)) < (a0.size : Int) then (some ((bt a0 (wrap64 ((a0.size : Int) - 1))) != 45)) else (none)) else (none))) else (none)) else (some false)) = some r := H
        have A16 := Aside0.mk A160
        clear A160
        by_cases c17 : t857 = true
        · subst c17
          have H1 : (if 0 < (a0.size : Int) then (if (bt a0 0) = 45 then (some false) else (if 0 ≤ (wrap64 ((a0.size : Int) - 1)) then (if (wrap64 ((a0.size : Int) - 1)) < (a0.size : Int) then (some ((bt a0 (wrap64 ((a0.size : Int) - 1))) != 45)) else (none)) else (none))) else (none)) = some r := by rw [if_pos rfl] at H; exact H
          clear H
          have H := H1
          clear H1
          by_cases c18 : 0 < (a0.size : Int)
          · rw [if_pos c18] at H
            have c18b0 : decide (0 < (a0.size : Int)) = true := decide_eq_true c18
            have c18b1 : decide (0 < a0.size) = true := decide_eq_true (by omega)
            clear c18
            by_cases c20 : (bt a0 0) = 45
            · rw [if_pos c20] at H
              have c20b0 : ((bt a0 0) == 45) = true := beq_iff_eq.mpr c20
              have c20b1 : ((bt a0 0) != 45) = false := bne_eq_false_iff_eq.mpr c20
              clear c20
              obtain rfl := Option.some.inj H
              go_wp2_with (first | ((with_reducible refine gate_callee (f := 71) rfl ?_); refine goesL_ (some 34) rfl rfl Try.func71 (by kernel_rfl) rfl #[.int .i64 (a0.size : Int), .int .i64 1, .int .i64 20] rfl (by (try simp only [List.map_toArray, List.map_cons, List.map_nil]); first | done | rfl | (simp only [List.length_drop, List.length_take]; rfl)) ?_; (with_reducible refine (impl_within.calls (a0.size : Int) 1 20 true _ A16.out).mono ?_); rintro e w' ⟨rfl, ⟨nd, rfl⟩⟩; refine ⟨_, rfl, ?_⟩; have p19 : 0 ≤ (0 : Int) := (by omega); have q19 : 0 < a0.size := (by have : (0 : Int) < (a0.size : Int) := of_decide_eq_true (by first | (with_reducible assumption) | assumption); omega); have hx19 : ∀ h : 0 < a0.size, ((a0[0]'h).toNat : Int) = bt a0 0 := bt_at a0 0; clear p19; have qi19 : (0 < (a0.size : Int)) = True := eq_true (of_decide_eq_true (by first | (with_reducible assumption) | assumption)); replace q19 := eq_true q19))
              go_ret
              exact ⟨by first | rfl | (simp; done) | (simp [*]; done), by repeat (first | exact Drawn0.refl _ | apply Drawn0.step)⟩
            · rw [if_neg c20] at H
              have c20b0 : ((bt a0 0) == 45) = false := beq_eq_false_iff_ne.mpr c20
              have c20b1 : ((bt a0 0) != 45) = true := bne_iff_ne.mpr c20
              obtain ⟨ji21, hji21⟩ : ∃ j_ : Int, (wrap64 ((a0.size : Int) - 1)) = j_ := ⟨_, rfl⟩
              replace H : (if 0 ≤ (ji21) then (if (ji21) < (a0.size : Int) then (some ((bt a0 (ji21)) != 45)) else (none)) else (none)) = some r := by first | (rw [hji21] at H; exact H) | (simp only [hji21] at H ⊢; exact H)
              (try rw [hji21] at A16)
              have hji21w : (IntKind.i64.wrap ((a0.size : Int) - 1)) = ji21 := (i64_w _).trans hji21
              by_cases c22 : 0 ≤ (ji21)
              · rw [if_pos c22] at H
                have c22b0 : decide (0 ≤ (ji21)) = true := decide_eq_true c22
                clear c22
                by_cases c23 : (ji21) < (a0.size : Int)
                · rw [if_pos c23] at H
                  have c23b0 : decide ((ji21) < (a0.size : Int)) = true := decide_eq_true c23
                  clear c23
                  obtain rfl := Option.some.inj H
                  go_wp2_with (first | ((with_reducible refine gate_callee (f := 71) rfl ?_); refine goesL_ (some 34) rfl rfl Try.func71 (by kernel_rfl) rfl #[.int .i64 (a0.size : Int), .int .i64 1, .int .i64 20] rfl (by (try simp only [List.map_toArray, List.map_cons, List.map_nil]); first | done | rfl | (simp only [List.length_drop, List.length_take]; rfl)) ?_; (with_reducible refine (impl_within.calls (a0.size : Int) 1 20 true _ A16.out).mono ?_); rintro e w' ⟨rfl, ⟨nd, rfl⟩⟩; refine ⟨_, rfl, ?_⟩; have p19 : 0 ≤ (0 : Int) := (by omega); have q19 : 0 < a0.size := (by have : (0 : Int) < (a0.size : Int) := of_decide_eq_true (by first | (with_reducible assumption) | assumption); omega); have hx19 : ∀ h : 0 < a0.size, ((a0[0]'h).toNat : Int) = bt a0 0 := bt_at a0 0; clear p19; have qi19 : (0 < (a0.size : Int)) = True := eq_true (of_decide_eq_true (by first | (with_reducible assumption) | assumption)); replace q19 := eq_true q19; have p24 : 0 ≤ ((ji21) : Int) := of_decide_eq_true (by first | (with_reducible assumption) | assumption); have q24 : (ji21) < (a0.size : Int) := of_decide_eq_true (by first | (with_reducible assumption) | assumption); have hx24 := bt_at a0 (ji21); replace p24 := eq_true p24; replace q24 := eq_true q24))
                  go_ret
                  exact ⟨by first | rfl | (simp; done) | (simp only [← hji21] <;> (first | rfl | simp)) | (simp [*]; done), by repeat (first | exact Drawn0.refl _ | apply Drawn0.step)⟩
                · rw [if_neg c23] at H
                  exact absurd H (by simp)
              · rw [if_neg c22] at H
                exact absurd H (by simp)
          · rw [if_neg c18] at H
            exact absurd H (by simp)
        · replace c17 := Bool.eq_false_iff.mpr c17
          subst c17
          have H1 : (some false) = some r := by rw [if_neg (show ¬ (false = true) by decide)] at H; exact H
          clear H
          have H := H1
          clear H1
          obtain rfl := Option.some.inj H
          go_wp2_with (first | ((with_reducible refine gate_callee (f := 71) rfl ?_); refine goesL_ (some 34) rfl rfl Try.func71 (by kernel_rfl) rfl #[.int .i64 (a0.size : Int), .int .i64 1, .int .i64 20] rfl (by (try simp only [List.map_toArray, List.map_cons, List.map_nil]); first | done | rfl | (simp only [List.length_drop, List.length_take]; rfl)) ?_; (with_reducible refine (impl_within.calls (a0.size : Int) 1 20 false _ A16.out).mono ?_); rintro e w' ⟨rfl, ⟨nd, rfl⟩⟩; refine ⟨_, rfl, ?_⟩))
          go_ret
          exact ⟨by first | rfl | (simp; done) | (simp [*]; done), by repeat (first | exact Drawn0.refl _ | apply Drawn0.step)⟩

end Go.Proofs.Ytmoiacijklkfaaa.G

/- G68 -/
-- Laid by wip/g/gprint.py out of the translation, by the kit's print program. Lean checks it.
namespace Go.Proofs.Ytmoiacijklkfaaa.G
open Go.RowKit Go.Proofs.YtmoiacijklkfaaaW.PrintWords Go.Proofs.YtmoiacijklkfaaaW.PrintLast Go.Proofs.YtmoiacijklkfaaaW.PrintMore
attribute [local go_sem] max2_int min2_int max_two min_two max_three min_three max_four min_four   -- for this text's walks alone
set_option linter.unusedVariables false
set_option linter.unusedSimpArgs false

/-! ### spec_l1In: function 68 -/
def spec_l1In.f (a0 : Int) (a1 : Int) (a2 : Int) : Option (Bool) := if a0 ≥ a1 then (some (decide (a0 ≤ a2))) else (some false)
set_option maxHeartbeats 8000000 in
set_option maxRecDepth 100000 in
theorem spec_l1In.calls (a0 : Int) (a1 : Int) (a2 : Int) (r : Bool) (w : World) (h : spec_l1In.f a0 a1 a2 = some r) :
    Calls Try.prog 68 #[.int .i64 a0, .int .i64 a1, .int .i64 a2] w fun e w' => e = .returned (.bool r) ∧ Drawn0 w w' := by
  have H : (if a0 ≥ a1 then (some (decide (a0 ≤ a2))) else (some false)) = some r := h
  clear h
  by_cases c4 : a0 ≥ a1
  · rw [if_pos c4] at H
    have c4b0 : decide (a1 ≤ a0) = true := decide_eq_true c4
    clear c4
    obtain rfl := Option.some.inj H
    go_enter Try.func68, Try.ntmps68
    go_wp2
    go_ret
    exact ⟨by first | rfl | (simp; done) | (simp [*]; done), by repeat (first | exact Drawn0.refl _ | apply Drawn0.step)⟩
  · rw [if_neg c4] at H
    have c4b0 : decide (a1 ≤ a0) = false := decide_eq_false c4
    clear c4
    obtain rfl := Option.some.inj H
    go_enter Try.func68, Try.ntmps68
    go_wp2
    go_ret
    exact ⟨by first | rfl | (simp; done) | (simp [*]; done), by repeat (first | exact Drawn0.refl _ | apply Drawn0.step)⟩

end Go.Proofs.Ytmoiacijklkfaaa.G
