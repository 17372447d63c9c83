/-
  The laws' helpers on slices of Str.
-/
import Derived.Test.YtpjpnppoejnafaaProg
import Derived.Test.YtpjpnppoejnafaaTypes
namespace Go.Proofs.Ytpjpnppoejnafaa
open Go.RowKit
set_option linter.unusedVariables false
set_option linter.unusedSimpArgs false
attribute [local go_sem ↓] Go.wp_at_zero Go.wp_at_succ
/-- A slice that is read: its value, and each element's cell. -/
theorem rd_Strs {o : Bool} {w : World} {xs : List ByteArray} {v : Value} {F : List Nat} (h : rd o w (strD xs) [v] F) :
    ∃ A c, v = .slice A xs.length c ∧ xs.length ≤ c ∧ c ≤ 9223372036854775807 ∧
      ∀ i (hi : i < xs.length), ∃ b off, A = some ⟨b, off, none⟩ ∧ b < w.heap.size ∧ w.cell? ⟨b, off + i, none⟩ = some (.string xs[i]) ∧ xs[i].size ≤ 9223372036854775807 := by
  obtain ⟨A, c, h1, h2, h3, h4⟩ := rd_sl h (by intro d hd; obtain ⟨x, _, rfl⟩ := List.mem_map.1 hd; simp [width])
  rw [List.length_map] at h1 h2
  refine ⟨A, c, h1, h2, h3, fun i hi => ?_⟩
  obtain ⟨b, off, cs, G, hA, hb, _, _, hd, _, hc, _⟩ := h4 i (by simpa using hi)
  rw [List.getElem_map, rd_str] at hd
  have hk := hd.2.2
  obtain ⟨rfl, _⟩ := hd
  have := hc 0 _ rfl
  rw [Nat.mul_one, Nat.add_zero] at this
  exact ⟨b, off, hA, hb, this, hk⟩
theorem info_str : (Try.prog.info? 9).map (fun i => (i.zero, i.size, i.bytes)) = some (some (.string ⟨#[]⟩), 1, 16) := by kernel_rfl
theorem toStrS_any (xs : List ByteArray) (v : Value) (o : Bool) (F : List Nat) (w : World) (hr : rd o w (strD xs) [v] F) (hl : xs.length ≤ 1048576) :
    Calls Try.prog 82 #[v] w fun e w' => (∃ u G, e = .returned u ∧ rd true w' (strD xs) [u] G ∧ Fresh w.heap.size G) ∧ Below w.heap.size w w' := by
  obtain ⟨A, c, rfl, hn, hc, hx⟩ := rd_Strs hr
  have HX := Lib.hid hx
  clear hx hr
  obtain ⟨i0, hi, hz0, hz1, hz2⟩ := info_parts (info_str)
  go_enter Try.func82, Try.ntmps82
  go_wp2_with (first | (refine wpList_make_full _ rfl _ _ 50 rfl w.heap.size 9 i0 (.string ⟨#[]⟩) 1 Try.underlying50 hi hz0 hz1 _ _ _ _ xs.length rfl rfl rfl rfl (by rw [hz2]; omega) (by unfold maxLen; omega) (Nat.le_refl _) ?_; intro w1 hown hgr))
  have HO := Lib.hid hown
  have HG := Lib.hid hgr
  clear hown hgr
  go_loopw [4] (fun i wr => ∃ k : Nat, k ≤ xs.length ∧ i = .int .i64 k ∧ Hid (∃ p q, wr.ownsRow w.heap.size 9 1 (.slice (some ⟨w.heap.size, 0, none⟩) xs.length xs.length) xs.length (p ++ q) ∧ p.length = k * 1 ∧ rdL true wr ((xs.take k).map D.str) p []) ∧ Below w.heap.size w wr) (fun i _ => xs.length - (intOf i).toNat)
  case atStart => exact ⟨0, by omega, rfl, ⟨[], _, HO.out, rfl, by simp [rdL]⟩, belowG (Below.refl _ _) HG.out (by simp)⟩
  case round =>
    obtain ⟨k, hk, rfl, HE, hb⟩ := hrel
    by_cases hlt : k < xs.length
    · obtain ⟨b, off, rfl, hbl, c0, k0⟩ := HX.out k hlt
      obtain ⟨p, q, ho, hp, hd⟩ := HE.out
      obtain ⟨u0, hu0, e0⟩ := own_cell ho k (by omega)
      have f0 := ho.frozenAt k
      have d0 := below_cell hb c0
      have HB := Lib.hid hb
      have HOO := Lib.hid ho
      have HP := Lib.hid hp
      have HD := Lib.hid hd
      have HK := Lib.hid k0
      have i1 : (0 : Int) ≤ (k : Int) := by omega
      have i2 : (k : Int) < (xs.length : Int) := by omega
      clear hb c0 HE ho hp hd hu0 k0
      go_wp2
      go_roundw
      case rel =>
        have hq := own_rest HOO.out HP.out hlt
        obtain ⟨q1, h1, l1⟩ := own_put HOO.out (by omega) (.string xs[k])
        rw [show p.length = k from by rw [HP.out, Nat.mul_one]] at h1
        refine ⟨k + 1, by omega, by go_num, ⟨_, q1, h1, by simp [HP.out], ?_⟩, belowS HB.out _ _ (Nat.le_refl _) _⟩
        rw [take_map_snoc hlt]
        exact rdL_append (F1 := []) (F2 := []) (rdL_frame _ _ _ HD.out (by simp)) (rdL_one (rd_str.2 ⟨rfl, rfl, HK.out⟩))
      case measure => simp [intOf]; omega
    · obtain rfl : k = xs.length := by omega
      obtain ⟨p, q, ho, hp, hd⟩ := HE.out
      obtain rfl := own_all ho hp
      rw [List.append_nil] at ho
      rw [List.take_length] at hd
      have HOO := Lib.hid ho
      have HD := Lib.hid hd
      clear ho hp hd HE
      go_wp2
      go_ret
      obtain ⟨G, g1, g2, _⟩ := own_rd HOO.out HD.out (by simp) (Fresh.nil _) (by simp)
      exact ⟨⟨_, G, rfl, g1, g2⟩, hb⟩
set_option maxHeartbeats 400000 in
theorem eqStrS_any (xs ys : List ByteArray) (v u : Value) (o o' : Bool) (F G : List Nat) (w : World) (hr : rd o w (strD xs) [v] F) (hq : rd o' w (strD ys) [u] G) :
    Calls Try.prog 85 #[v, u] w fun e w' => (∃ b, e = .returned (.bool b) ∧ (b = true ↔ xs = ys)) ∧ Below w.heap.size w w' := by
  obtain ⟨A, c, rfl, hn, hc, hx⟩ := rd_Strs hr
  obtain ⟨A', c', rfl, hn', hc', hy⟩ := rd_Strs hq
  clear hr hq
  by_cases hs : xs.length = ys.length
  · have HX := Lib.hid hx
    have HY := Lib.hid hy
    have HS := Lib.hid hs
    have hsb : (((xs.length : Int) != (ys.length : Int))) = false := by rw [hs]; simp
    clear hx hy hs
    go_enter Try.func85, Try.ntmps85
    go_wp2
    go_loopw [5] (fun i wr => ∃ k : Nat, k ≤ xs.length ∧ i = .int .i64 k ∧ Hid (xs.take k = ys.take k) ∧ Below w.heap.size w wr) (fun i _ => xs.length - (intOf i).toNat)
    case atStart => exact ⟨0, by omega, rfl, by unfold Hid; simp, Below.refl _ _⟩
    case round =>
      obtain ⟨k, hk, rfl, HE, hb⟩ := hrel
      by_cases hlt : k < xs.length
      · have hlt' : k < ys.length := by have := HS.out; omega
        obtain ⟨b, off, rfl, hbl, c0, _⟩ := HX.out k hlt
        obtain ⟨b', off', rfl, hbl', c0', _⟩ := HY.out k hlt'
        have d0 := below_cell hb c0
        have d0' := below_cell hb c0'
        have i1 : (0 : Int) ≤ (k : Int) := by omega
        have i2 : (k : Int) < (xs.length : Int) := by omega
        have i3 : (k : Int) < (ys.length : Int) := by omega
        have HB := Lib.hid hb
        clear hb c0 c0'
        by_cases he : xs[k] = ys[k]
        · have hk2 : xs.take (k + 1) = ys.take (k + 1) := by rw [List.take_succ_eq_append_getElem hlt, List.take_succ_eq_append_getElem hlt', HE.out, he]
          have HE2 := Lib.hid hk2
          have heb : (!xs[k].toList == ys[k].toList) = false := by simp [he]
          clear hk2 HE he
          go_wp2
          go_quiet (fail)
          go_wp2
          go_roundw
          case rel => exact ⟨k + 1, by omega, by go_num, HE2, belowN HB.out _⟩
          case measure => simp [intOf]; omega
        · have heb : (!xs[k].toList == ys[k].toList) = true := by cases h : (!xs[k].toList == ys[k].toList) with | false => exact absurd (str_eq h) he | true => rfl
          have HN := Lib.hid he
          clear he
          go_wp2
          go_quiet (fail)
          go_wp2
          go_ret
          exact ⟨⟨false, rfl, by simp; intro h; subst h; exact HN.out rfl⟩, belowN HB.out _⟩
      · obtain rfl : k = xs.length := by omega
        go_wp2
        go_ret
        exact ⟨⟨true, rfl, by simp; rw [← List.take_length (l := xs), HE.out, HS.out, List.take_length]⟩, hb⟩
  · have hsb : (((xs.length : Int) != (ys.length : Int))) = true := by simp; omega
    have hne : xs ≠ ys := fun h => hs (by rw [h])
    have HS := Lib.hid hne
    clear hx hy hs hne
    go_enter Try.func85, Try.ntmps85
    go_wp2
    go_ret
    exact ⟨⟨false, rfl, by simp; exact HS.out⟩, Below.refl _ _⟩
end Go.Proofs.Ytpjpnppoejnafaa
