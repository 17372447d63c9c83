/-
  The laws' helpers on terms of a selector.
-/
import Derived.Test.YtpjpnppoejnafaaStrFam
namespace Go.Proofs.Ytpjpnppoejnafaa
open Go.RowKit
set_option linter.unusedVariables false
set_option linter.unusedSimpArgs false
attribute [local go_sem ↓] Go.wp_at_zero Go.wp_at_succ
structure Term where
  kind : Int
  key : ByteArray
  vals : List ByteArray
def Term.d (x : Term) : D := .agg [.int x.kind, .str x.key, strD x.vals]
def termD (xs : List Term) : D := .sl 3 (xs.map Term.d)
theorem rd_term {o : Bool} {w : World} {x : Term} {cs : List Value} {F : List Nat} :
    rd o w x.d cs F ↔ ∃ v, cs = [.int .i64 x.kind, .string x.key, v] ∧ rd o w (strD x.vals) [v] F ∧ (-9223372036854775808 ≤ x.kind ∧ x.kind ≤ 9223372036854775807) ∧ x.key.size ≤ 9223372036854775807 := by
  unfold Term.d
  rw [rd]
  constructor
  · intro h
    simp only [rdL] at h
    obtain ⟨c1, c2, F1, F2, rfl, rfl, h1, c3, c4, F3, F4, rfl, rfl, h2, c5, c6, F5, F6, rfl, rfl, h3, rfl, rfl⟩ := h
    rw [rd_int] at h1
    rw [rd_str] at h2
    obtain ⟨rfl, rfl, h1⟩ := h1
    obtain ⟨rfl, rfl, h2⟩ := h2
    have hl := rd_width _ _ _ h3
    match c5, hl with
    | [v], _ => exact ⟨v, rfl, by simpa using h3, h1, h2⟩
  · rintro ⟨v, rfl, h3, h1, h2⟩
    simp only [rdL]
    exact ⟨_, _, [], F, rfl, rfl, rd_int.2 ⟨rfl, rfl, h1⟩, _, _, [], F, rfl, rfl, rd_str.2 ⟨rfl, rfl, h2⟩, [v], [], F, [], rfl, by simp, h3, rfl, rfl⟩
/-- A list of terms that is read: its value, and each element's cells. -/
theorem rd_terms {o : Bool} {w : World} {xs : List Term} {v : Value} {F : List Nat} (h : rd o w (termD xs) [v] F) :
    ∃ A c, v = .slice A xs.length c ∧ xs.length ≤ c ∧ c ≤ 9223372036854775807 ∧
      ∀ i (hi : i < xs.length), ∃ b off u G, A = some ⟨b, off, none⟩ ∧ b < w.heap.size ∧ w.cell? ⟨b, off + i * 3, none⟩ = some (.int .i64 xs[i].kind) ∧ w.cell? ⟨b, off + i * 3 + 1, none⟩ = some (.string xs[i].key) ∧ w.cell? ⟨b, off + i * 3 + 2, none⟩ = some u ∧
        rd o w (strD xs[i].vals) [u] G ∧ (-9223372036854775808 ≤ xs[i].kind ∧ xs[i].kind ≤ 9223372036854775807) ∧ xs[i].key.size ≤ 9223372036854775807 := by
  obtain ⟨A, c, h1, h2, h3, h4⟩ := rd_sl h (by intro d hd; obtain ⟨x, _, rfl⟩ := List.mem_map.1 hd; simp [Term.d, width, widthL, strD])
  rw [List.length_map] at h1 h2
  refine ⟨A, c, h1, h2, h3, fun i hi => ?_⟩
  obtain ⟨b, off, cs, G, hA, hb, _, _, hd, _, hc, _⟩ := h4 i (by simpa using hi)
  rw [List.getElem_map, rd_term] at hd
  obtain ⟨u, rfl, hu, k1, k2⟩ := hd
  exact ⟨b, off, u, G, hA, hb, hc 0 _ rfl, hc 1 _ rfl, hc 2 _ rfl, hu, k1, k2⟩
def smallT (xs : List Term) : Prop := xs.length ≤ 1048576 ∧ ∀ i (hi : i < xs.length), xs[i].vals.length ≤ 1048576
theorem szStrS_any (xs : List ByteArray) (v : Value) (F : List Nat) (left : Int) (w : World) (h0 : 0 ≤ left) (h1 : left ≤ 1048576) (hr : rd false w (strD xs) [v] F) :
    Calls Try.prog 81 #[v, .int .i64 left] w fun e w' => (∃ r, e = .returned (.int .i64 r) ∧ -1 ≤ r ∧ r ≤ left ∧ (0 ≤ r → xs.length ≤ 1048576)) ∧ Below w.heap.size w w' := by
  obtain ⟨A, c, rfl, hn, hc, hx⟩ := rd_Strs hr
  by_cases hs : left - xs.length < 0
  · go_enter Try.func81, Try.ntmps81
    go_wp2
    go_ret
    exact ⟨⟨-1, rfl, by omega, by omega, by omega⟩, Below.refl _ _⟩
  · have HX := Lib.hid hx
    have hl : xs.length ≤ 1048576 := by omega
    clear hx hr
    go_enter Try.func81, Try.ntmps81
    go_wp2
    go_loopw [1, 5] (fun l i wr => ∃ k : Nat, ∃ m : Int, k ≤ xs.length ∧ i = .int .i64 k ∧ l = .int .i64 m ∧ 0 ≤ m ∧ m ≤ left ∧ Hid (Below w.heap.size w wr)) (fun _ i _ => xs.length - (intOf i).toNat)
    case atStart => exact ⟨0, _, by omega, rfl, rfl, by omega, by omega, Below.refl _ _⟩
    case round =>
      obtain ⟨k, m, hk, rfl, rfl, hm0, hm1, HB⟩ := hrel
      by_cases hlt : k < xs.length
      · obtain ⟨b, off, rfl, hbl, c0, k0⟩ := HX.out k hlt
        have d0 := below_cell HB.out c0
        have hbw : b < wr.heap.size := by have := HB.out.size; omega
        clear c0
        go_wp2
        · go_ret
          exact ⟨⟨-1, rfl, by omega, by omega, by omega⟩, HB.out⟩
        · go_roundw
          case rel => exact ⟨k + 1, _, by omega, by go_num, rfl, by omega, by omega, HB⟩
          case measure => simp [intOf]; omega
      · obtain rfl : k = xs.length := by omega
        go_wp2
        go_ret
        exact ⟨⟨m, rfl, by omega, by omega, fun _ => hl⟩, HB.out⟩
theorem szTerm_any (x : Term) (u : Value) (F : List Nat) (left : Int) (w : World) (h0 : 0 ≤ left) (h1 : left ≤ 1048576) (hk : x.key.size ≤ 9223372036854775807) (hr : rd false w (strD x.vals) [u] F) :
    Calls Try.prog 53 #[.agg #[.int .i64 x.kind, .string x.key, u], .int .i64 left] w fun e w' => (∃ r, e = .returned (.int .i64 r) ∧ -1 ≤ r ∧ r ≤ left ∧ (0 ≤ r → x.vals.length ≤ 1048576)) ∧ Below w.heap.size w w' := by
  obtain ⟨A, c, rfl, hn, hc, _⟩ := rd_Strs hr
  have HB := Lib.hid (belowA (Below.refl w.heap.size w) (.cells #[.int .i64 x.kind, .string x.key, .slice A x.vals.length c] 73))
  by_cases hs : left - x.key.size < 0
  · go_enter Try.func53, Try.ntmps53
    go_wp2
    go_ret
    exact ⟨⟨-1, rfl, by omega, by omega, by omega⟩, HB.out⟩
  · go_enter Try.func53, Try.ntmps53
    go_wp2_with fail
    refine (szStrS_any x.vals _ F _ _ (by omega) (by omega) (rd_below hr HB.out)).mono ?_
    rintro e w1 ⟨⟨r, rfl, r0, r1, r2⟩, hb⟩
    have b1 := belowT HB.out hb
    have HR2 := Lib.hid r2
    clear r2
    go_wp2
    · go_ret
      exact ⟨⟨-1, rfl, by omega, by omega, by omega⟩, b1⟩
    · go_ret
      exact ⟨⟨r, rfl, by omega, by omega, HR2.out⟩, b1⟩
theorem szTermS_any (xs : List Term) (v : Value) (F : List Nat) (left : Int) (w : World) (h0 : 0 ≤ left) (h1 : left ≤ 1048576) (hr : rd false w (termD xs) [v] F) :
    Calls Try.prog 22 #[v, .int .i64 left] w fun e w' => (∃ r, e = .returned (.int .i64 r) ∧ -1 ≤ r ∧ r ≤ left ∧ (0 ≤ r → smallT xs)) ∧ Below w.heap.size w w' := by
  obtain ⟨A, c, rfl, hn, hc, hx⟩ := rd_terms hr
  by_cases hs : left - xs.length < 0
  · go_enter Try.func22, Try.ntmps22
    go_wp2
    go_ret
    exact ⟨⟨-1, rfl, by omega, by omega, by omega⟩, Below.refl _ _⟩
  · have HX := Lib.hid hx
    have hl : xs.length ≤ 1048576 := by omega
    clear hx hr
    go_enter Try.func22, Try.ntmps22
    go_wp2
    go_loopw [1, 5] (fun l i wr => ∃ k : Nat, ∃ m : Int, k ≤ xs.length ∧ i = .int .i64 k ∧ l = .int .i64 m ∧ 0 ≤ m ∧ m ≤ left ∧ Hid (∀ i (hi : i < xs.length), i < k → xs[i].vals.length ≤ 1048576) ∧ Hid (Below w.heap.size w wr)) (fun _ i _ => xs.length - (intOf i).toNat)
    case atStart => exact ⟨0, _, by omega, rfl, rfl, by omega, by omega, by unfold Hid; omega, Below.refl _ _⟩
    case round =>
      obtain ⟨k, m, hk, rfl, rfl, hm0, hm1, HS, HB⟩ := hrel
      by_cases hlt : k < xs.length
      · obtain ⟨b, off, u, G, rfl, hbl, c0, c1, c2, hu, _, k1⟩ := HX.out k hlt
        have d0 := below_cell HB.out c0
        have d1 := below_cell HB.out c1
        have d2 := below_cell HB.out c2
        have HU := Lib.hid (rd_below hu HB.out)
        obtain ⟨A', c', rfl, _, _, _⟩ := rd_Strs hu
        have hbw : b < wr.heap.size := by have := HB.out.size; omega
        clear c0 c1 c2 hu
        go_wp2_with fail
        refine (szTerm_any xs[k] _ G m _ hm0 (by omega) k1 HU.out).mono ?_
        rintro e w2 ⟨⟨r, rfl, r0, r1, r2⟩, hb2⟩
        have HR2 := Lib.hid r2
        have HB2 := Lib.hid (belowT HB.out hb2)
        clear r2 hb2
        go_wp2
        · go_ret
          exact ⟨⟨-1, rfl, by omega, by omega, by omega⟩, HB2.out⟩
        · go_roundw
          case rel =>
            refine ⟨k + 1, r, by omega, by go_num, rfl, by omega, by omega, ?_, HB2⟩
            intro i hi hik
            by_cases e : i = k
            · subst e; exact HR2.out (by omega)
            · exact HS.out i hi (by omega)
          case measure => simp [intOf]; omega
      · obtain rfl : k = xs.length := by omega
        go_wp2
        go_ret
        exact ⟨⟨m, rfl, by omega, by omega, fun _ => ⟨hl, fun i hi => HS.out i hi hi⟩⟩, HB.out⟩
theorem toTerm_any (x : Term) (u : Value) (F : List Nat) (w : World) (hl : x.vals.length ≤ 1048576) (hr : rd false w (strD x.vals) [u] F) :
    Calls Try.prog 55 #[.agg #[.int .i64 x.kind, .string x.key, u]] w fun e w' => (∃ A n c G, e = .returned (.agg #[.int .i64 x.kind, .string x.key, .slice A n c]) ∧ rd true w' (strD x.vals) [.slice A n c] G ∧ Fresh w.heap.size G) ∧ Below w.heap.size w w' := by
  obtain ⟨A, c, rfl, hn, hc, _⟩ := rd_Strs hr
  go_enter Try.func55, Try.ntmps55
  go_wp2_with fail
  have HB := Lib.hid (belowA (belowA (belowA (Below.refl w.heap.size w) (.cells #[.int .i64 x.kind, .string x.key, .slice A x.vals.length c] 73)) (.cells #[.int .i64 0, .string ⟨#[]⟩, .slice none 0 0] 52)) (.cells #[.int .i64 x.kind, .string x.key, .slice none 0 0] 52))
  refine (toStrS_any x.vals _ _ F _ (rd_below hr HB.out) hl).mono ?_
  rintro e w1 ⟨⟨u1, G1, rfl, hr1, hf1⟩, hb1⟩
  obtain ⟨A1, c1, rfl, hn1, hc1, _⟩ := rd_Strs hr1
  obtain ⟨hc, hf⟩ := bcell hb1
  have hz := hb1.size
  simp only [World.size_alloc] at hz
  have e0 := fun o => hc (w.heap.size + 1) o (by simp only [World.size_alloc]; omega)
  have g0 := fun o => hf (w.heap.size + 1) o (by simp only [World.size_alloc]; omega)
  have e1 := fun o => hc (w.heap.size + 1 + 1) o (by simp only [World.size_alloc]; omega)
  have g1 := fun o => hf (w.heap.size + 1 + 1) o (by simp only [World.size_alloc]; omega)
  have k0 : w.heap.size < w1.heap.size := by omega
  have k1 : w.heap.size + 1 < w1.heap.size := by omega
  have k2 : w.heap.size + 1 + 1 < w1.heap.size := by omega
  have HB1 := Lib.hid (belowT HB.out hb1)
  have HR1 := Lib.hid hr1
  have HF1 := Lib.hid hf1
  clear hb1 hr1 hf1 hc hf hr
  go_wp2
  refine bodyPost_ret (v := .agg #[.int .i64 x.kind, .string x.key, .slice A1 x.vals.length c1]) (by simp [results, Try.results55, go_sem, e0, g0, e1, g1, k0, k1, k2]) rfl ⟨⟨A1, _, c1, G1, rfl, ?_, ?_⟩, belowS (belowS (belowS (belowS HB1.out _ _ (by omega) _) _ _ (by omega) _) _ _ (by omega) _) _ _ (by omega) _⟩
  · have hfr := HF1.out.from_
    simp only [World.size_alloc] at hfr
    refine rd_frame _ _ _ HR1.out (fun b hb => ?_)
    have := hfr b hb
    rw [Below.heap_setCell _ _ _ _ (by show b ≠ w.heap.size + 1; omega), Below.heap_setCell _ _ _ _ (by show b ≠ w.heap.size + 1; omega), Below.heap_setCell _ _ _ _ (by show b ≠ w.heap.size + 1; omega), Below.heap_setCell _ _ _ _ (by show b ≠ w.heap.size + 1 + 1; omega)]
  · exact HF1.out.low (by simp only [World.size_alloc]; omega)
theorem Fresh.append {base base2 : Nat} {F G : List Nat} (h : Fresh base F) (h2 : Fresh base2 G) (hlt : ∀ b, b ∈ F → b < base2) (hb : base ≤ base2) : Fresh base (F ++ G) :=
  ⟨List.nodup_append.2 ⟨h.nodup, h2.nodup, fun a ha b hb e => by have := hlt a ha; have := h2.from_ b hb; omega⟩, fun b hb' => by
    rcases List.mem_append.1 hb' with h' | h'
    · exact h.from_ b h'
    · exact Nat.le_trans hb (h2.from_ b h')⟩
theorem info_term : (Try.prog.info? 52).map (fun i => (i.zero, i.size, i.bytes)) = some (some (.agg #[.int .i64 0, .string ⟨#[]⟩, .slice none 0 0]), 3, 48) := by kernel_rfl
set_option maxHeartbeats 800000 in
theorem toTermS_any (xs : List Term) (v : Value) (F : List Nat) (w : World) (hr : rd false w (termD xs) [v] F) (hs : smallT xs) :
    Calls Try.prog 24 #[v] w fun e w' => (∃ u G, e = .returned u ∧ rd true w' (termD xs) [u] G ∧ Fresh w.heap.size G) ∧ Below w.heap.size w w' := by
  obtain ⟨A, c, rfl, hn, hc, hx⟩ := rd_terms hr
  obtain ⟨hl, hs⟩ := hs
  have HX := Lib.hid hx
  have HS := Lib.hid hs
  clear hx hr hs
  obtain ⟨i0, hi, hz0, hz1, hz2⟩ := info_parts (info_term)
  go_enter Try.func24, Try.ntmps24
  go_wp2_with (first | (refine wpList_make_full _ rfl _ _ 38 rfl w.heap.size 52 i0 (.agg #[.int .i64 0, .string ⟨#[]⟩, .slice none 0 0]) 3 Try.underlying38 hi hz0 hz1 _ _ _ _ xs.length rfl rfl rfl rfl (by rw [hz2]; omega) (by unfold maxLen; omega) (Nat.le_refl _) ?_; intro w1 hown hgr))
  have HO := Lib.hid hown
  have HG := Lib.hid hgr
  clear hown hgr
  go_loopw [4] (fun i wr => ∃ k : Nat, k ≤ xs.length ∧ i = .int .i64 k ∧ Hid (∃ p q F', wr.ownsRow w.heap.size 52 3 (.slice (some ⟨w.heap.size, 0, none⟩) xs.length xs.length) xs.length (p ++ q) ∧ p.length = k * 3 ∧ rdL true wr ((xs.take k).map Term.d) p F' ∧ Fresh (w.heap.size + 1) F') ∧ w.heap.size < wr.heap.size ∧ Below w.heap.size w wr) (fun i _ => xs.length - (intOf i).toNat)
  case atStart => exact ⟨0, by omega, rfl, ⟨[], _, [], HO.out, rfl, by simp [rdL], Fresh.nil _⟩, ((HO.out.lt w.heap.size rfl).2), belowG (Below.refl _ _) HG.out (by simp)⟩
  case round =>
    obtain ⟨k, hk, rfl, HE, hgw, hb⟩ := hrel
    by_cases hlt : k < xs.length
    · obtain ⟨b, off, u, G, rfl, hbl, c0, c1, c2, hu, k0, k1⟩ := HX.out k hlt
      obtain ⟨p, q, F', ho, hp, hd, hfr⟩ := HE.out
      obtain ⟨u0, hu0, e0⟩ := own_cell ho (k * 3) (by omega)
      obtain ⟨u1, hu1, e1⟩ := own_cell ho (k * 3 + 1) (by omega)
      obtain ⟨u2, hu2, e2⟩ := own_cell ho (k * 3 + 2) (by omega)
      have f0 := ho.frozenAt (k * 3)
      have f1 := ho.frozenAt (k * 3 + 1)
      have f2 := ho.frozenAt (k * 3 + 2)
      have d0 := below_cell hb c0
      have d1 := below_cell hb c1
      have d2 := below_cell hb c2
      have HU := Lib.hid (rd_below hu hb)
      obtain ⟨A', c', rfl, _, _, _⟩ := rd_Strs hu
      have HB := Lib.hid hb
      have HOO := Lib.hid ho
      have HP := Lib.hid hp
      have HD := Lib.hid hd
      have HFR := Lib.hid hfr
      have HK := Lib.hid (And.intro k0 k1)
      have hbw : b < wr.heap.size := by have := hb.size; omega
      clear hb c0 c1 c2 HE ho hp hd hu0 hu1 hu2 hfr hu k0 k1
      go_wp2_with fail
      refine (toTerm_any xs[k] _ G _ (HS.out k hlt) HU.out).mono ?_
      rintro e w2 ⟨⟨A2, n2, c2, G2, rfl, hr2, hf2⟩, hbx⟩
      have e0x := below_cell hbx e0
      have e1x := below_cell hbx e1
      have e2x := below_cell hbx e2
      have f0x := (hbx.frozen (World.block_lt_of_cell? _ _ e0)).trans f0
      have f1x := (hbx.frozen (World.block_lt_of_cell? _ _ e1)).trans f1
      have f2x := (hbx.frozen (World.block_lt_of_cell? _ _ e2)).trans f2
      have HBX := Lib.hid hbx
      have HR2 := Lib.hid hr2
      have HF2 := Lib.hid hf2
      clear hbx e0 e1 e2 f0 f1 f2 hr2 hf2
      go_wp2
      go_roundw
      case rel =>
        have hq := own_rest HOO.out HP.out hlt
        obtain ⟨q1, h1, l1⟩ := own_put (own_below HOO.out HBX.out) (by omega) (.int .i64 xs[k].kind)
        obtain ⟨q2, h2, l2⟩ := own_put h1 (by omega) (.string xs[k].key)
        obtain ⟨q3, h3, l3⟩ := own_put h2 (by omega) (.slice A2 n2 c2)
        simp only [List.length_append, List.length_singleton, HP.out] at h3
        have hz := HBX.out.size
        have hsame : ∀ bb, bb ≠ w.heap.size → (((w2.setCell ⟨w.heap.size, k * 3, none⟩ (.int .i64 xs[k].kind)).setCell ⟨w.heap.size, k * 3 + 1, none⟩ (.string xs[k].key)).setCell ⟨w.heap.size, k * 3 + 1 + 1, none⟩ (.slice A2 n2 c2)).heap[bb]? = w2.heap[bb]? := fun bb hbb => by
          rw [Below.heap_setCell _ _ _ _ hbb, Below.heap_setCell _ _ _ _ hbb, Below.heap_setCell _ _ _ _ hbb]
        have hlt2 := rdL_lt _ _ _ HD.out
        refine ⟨k + 1, by omega, by go_num, ⟨_, q3, F' ++ G2, h3, by simp [HP.out]; omega, ?_, ?_⟩, by simp only [World.size_setCell]; omega, belowS (belowS (belowS (belowT HB.out HBX.out) _ _ (Nat.le_refl _) _) _ _ (Nat.le_refl _) _) _ _ (Nat.le_refl _) _⟩
        · rw [take_map_snoc hlt, List.append_assoc, List.append_assoc]
          refine rdL_append (rdL_frame _ _ _ (rdL_below HD.out HBX.out) (fun bb hbb => hsame bb (by have := HFR.out.from_ bb hbb; omega))) (rdL_one (rd_term.2 ⟨_, rfl, rd_frame _ _ _ HR2.out (fun bb hbb => hsame bb (by have := HF2.out.from_ bb hbb; omega)), HK.out.1, HK.out.2⟩))
        · exact HFR.out.append HF2.out hlt2 (by omega)
      case measure => simp [intOf]; omega
    · obtain rfl : k = xs.length := by omega
      obtain ⟨p, q, F', ho, hp, hd, hfr⟩ := HE.out
      obtain rfl := own_all ho hp
      rw [List.append_nil] at ho
      rw [List.take_length] at hd
      have HOO := Lib.hid ho
      have HD := Lib.hid hd
      have HFR := Lib.hid hfr
      clear ho hp hd HE hfr
      go_wp2
      go_ret
      obtain ⟨G, g1, g2, _⟩ := own_rd HOO.out HD.out (by simp) (HFR.out.low (by omega)) (fun bb hbb => by
        have hbb' : some w.heap.size = some bb := hbb
        have hbb'' : w.heap.size = bb := Option.some.inj hbb'
        intro hm
        have := HFR.out.from_ bb hm
        omega)
      exact ⟨⟨_, G, rfl, g1, g2⟩, hb⟩
theorem eqTerm_same (x : Term) (v u : Value) (o o' : Bool) (F G : List Nat) (w : World) (hr : rd o w (strD x.vals) [v] F) (hq : rd o' w (strD x.vals) [u] G) :
    Calls Try.prog 59 #[.agg #[.int .i64 x.kind, .string x.key, v], .agg #[.int .i64 x.kind, .string x.key, u]] w fun e w' => e = .returned (.bool true) ∧ Below w.heap.size w w' := by
  obtain ⟨A, c, rfl, hn, hc, _⟩ := rd_Strs hr
  obtain ⟨A', c', rfl, hn', hc', _⟩ := rd_Strs hq
  have HB := Lib.hid (belowA (belowA (Below.refl w.heap.size w) (.cells #[.int .i64 x.kind, .string x.key, .slice A x.vals.length c] 52)) (.cells #[.int .i64 x.kind, .string x.key, .slice A' x.vals.length c'] 52))
  go_enter Try.func59, Try.ntmps59
  go_wp2_with fail
  refine (eqStrS_any x.vals x.vals _ _ o o' F G _ (rd_below hr HB.out) (rd_below hq HB.out)).mono ?_
  rintro e w1 ⟨⟨bb, rfl, hbb⟩, hb1⟩
  obtain rfl : bb = true := hbb.2 rfl
  have b1 := belowT HB.out hb1
  go_wp2
  go_ret
  exact ⟨rfl, b1⟩
theorem eqTermS_same (xs : List Term) (v u : Value) (o o' : Bool) (F G : List Nat) (w : World) (hr : rd o w (termD xs) [v] F) (hq : rd o' w (termD xs) [u] G) :
    Calls Try.prog 26 #[v, u] w fun e w' => e = .returned (.bool true) ∧ Below w.heap.size w w' := by
  obtain ⟨A, c, rfl, hn, hc, hx⟩ := rd_terms hr
  obtain ⟨A', c', rfl, hn', hc', hy⟩ := rd_terms hq
  have HX := Lib.hid hx
  have HY := Lib.hid hy
  have he : ((xs.length : Int) == (xs.length : Int)) = true := by simp
  clear hx hy hr hq
  go_enter Try.func26, Try.ntmps26
  go_wp2
  go_loopw [5] (fun i wr => ∃ k : Nat, k ≤ xs.length ∧ i = .int .i64 k ∧ Hid (Below w.heap.size w wr)) (fun i _ => xs.length - (intOf i).toNat)
  case atStart => exact ⟨0, by omega, rfl, Below.refl _ _⟩
  case round =>
    obtain ⟨k, hk, rfl, HB⟩ := hrel
    by_cases hlt : k < xs.length
    · obtain ⟨b, off, u1, G1, rfl, hbl, c0, c1, c2, hu1, _, _⟩ := HX.out k hlt
      obtain ⟨b', off', u2, G2, rfl, hbl', c0', c1', c2', hu2, _, _⟩ := HY.out k hlt
      have d0 := below_cell HB.out c0
      have d1 := below_cell HB.out c1
      have d2 := below_cell HB.out c2
      have d0' := below_cell HB.out c0'
      have d1' := below_cell HB.out c1'
      have d2' := below_cell HB.out c2'
      have HU1 := Lib.hid (rd_below hu1 HB.out)
      have HU2 := Lib.hid (rd_below hu2 HB.out)
      obtain ⟨A1, c1x, rfl, _, _, _⟩ := rd_Strs hu1
      obtain ⟨A2, c2x, rfl, _, _, _⟩ := rd_Strs hu2
      have hbw : b < wr.heap.size := by have := HB.out.size; omega
      have hbw' : b' < wr.heap.size := by have := HB.out.size; omega
      clear c0 c1 c2 c0' c1' c2' hu1 hu2
      go_wp2_with fail
      go_region_held3 (fun w' => w'.cell? ⟨b, off + k * 3, none⟩ = some (.int .i64 xs[k].kind) ∧ w'.cell? ⟨b, off + k * 3 + 1, none⟩ = some (.string xs[k].key) ∧ w'.cell? ⟨b, off + k * 3 + 2, none⟩ = some (.slice A1 xs[k].vals.length c1x) ∧ w'.cell? ⟨b', off' + k * 3, none⟩ = some (.int .i64 xs[k].kind) ∧ w'.cell? ⟨b', off' + k * 3 + 1, none⟩ = some (.string xs[k].key) ∧ w'.cell? ⟨b', off' + k * 3 + 2, none⟩ = some (.slice A2 xs[k].vals.length c2x))
        (first | go_keep | (go_split_ands; exact ⟨below_cell hbx (by assumption), below_cell hbx (by assumption), below_cell hbx (by assumption), below_cell hbx (by assumption), below_cell hbx (by assumption), below_cell hbx (by assumption)⟩))
        (first | (go_at_call 59; refine (eqTerm_same xs[k] _ _ o o' G1 G2 _ (rd_below HU1.out (belowD (Below.refl _ _))) (rd_below HU2.out (belowD (Below.refl _ _)))).mono ?_; rintro e w' ⟨rfl, hbx⟩))
      have HB2 := Lib.hid (belowDT HB.out hbx)
      clear hbx
      go_wp2
      go_roundw
      case rel => exact ⟨k + 1, by omega, by go_num, HB2⟩
      case measure => simp [intOf]; omega
    · obtain rfl : k = xs.length := by omega
      go_wp2
      go_ret
      exact ⟨rfl, HB.out⟩
end Go.Proofs.Ytpjpnppoejnafaa
