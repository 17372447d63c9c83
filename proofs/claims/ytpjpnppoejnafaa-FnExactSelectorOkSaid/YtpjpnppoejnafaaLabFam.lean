/-
  The laws' helpers on labels: sizes, copies, comparisons.
-/
import Derived.Test.YtpjpnppoejnafaaProg
import Derived.Test.YtpjpnppoejnafaaTypes
import Derived.Deep.LoopGhost
import Derived.Deep.QuietTactic
import Derived.BigQuiet
import Derived.Handy
import Derived.WalkLawsBesides
import Derived.Deep.RegionHeld3
import Derived.Deep.DrawnRows
namespace Go.Proofs.Ytpjpnppoejnafaa
open Go.RowKit
set_option linter.unusedVariables false
set_option linter.unusedSimpArgs false
attribute [local go_sem ↓] Go.wp_at_zero Go.wp_at_succ

def szLab (x : Label) (left : Int) : Int :=
  if left - x.key.size < 0 then -1 else if left - x.key.size - x.value.size < 0 then -1 else left - x.key.size - x.value.size
/-- A list's size: what is left, or -1. -/
def szAll {α : Type} (f : α → Int → Int) : List α → Int → Int
  | [], left => left
  | x :: xs, left => if f x left < 0 then -1 else szAll f xs (f x left)
def szList {α : Type} (f : α → Int → Int) (xs : List α) (left : Int) : Int := if left - xs.length < 0 then -1 else szAll f xs (left - xs.length)
theorem szList_len {α : Type} {f : α → Int → Int} {xs : List α} {left : Int} (h : 0 ≤ szList f xs left) : (xs.length : Int) ≤ left := by
  unfold szList at h
  split at h <;> omega

theorem szLab_le (x : Label) (left : Int) (h : 0 ≤ left) : szLab x left ≤ left ∧ -1 ≤ szLab x left := by
  unfold szLab
  split
  · omega
  · split <;> omega
theorem szLabel_any (x : Label) (left : Int) (w : World) (h0 : 0 ≤ left) (h1 : left ≤ 1048576) (hk : x.key.size ≤ 9223372036854775807) (hv : x.value.size ≤ 9223372036854775807) :
    Calls Try.prog 36 #[.agg #[.string x.key, .string x.value], .int .i64 left] w fun e w' => e = .returned (.int .i64 (szLab x left)) ∧ Below w.heap.size w w' := by
  go_enter Try.func36, Try.ntmps36
  go_wp2
  all_goals go_ret
  all_goals refine ⟨congrArg (fun z => Ending.returned (.int .i64 z)) ?_, belowA (Below.refl _ _) _⟩
  · unfold szLab; rw [if_pos (by assumption)]
  · unfold szLab; rw [if_neg (by omega), if_pos (by assumption)]
  · unfold szLab; rw [if_neg (by omega), if_neg (by omega)]
theorem szLabelS_any (xs : List Label) (v : Value) (F : List Nat) (left : Int) (w : World) (h0 : 0 ≤ left) (h1 : left ≤ 1048576) (hr : rd false w (labD xs) [v] F) :
    Calls Try.prog 11 #[v, .int .i64 left] w fun e w' => e = .returned (.int .i64 (szList szLab xs left)) ∧ Below w.heap.size w w' := by
  obtain ⟨A, c, rfl, hn, hc, hx⟩ := rd_labs hr
  by_cases hs : left - xs.length < 0
  · go_enter Try.func11, Try.ntmps11
    go_wp2
    go_ret
    exact ⟨congrArg (fun z => Ending.returned (.int .i64 z)) (by unfold szList; rw [if_pos hs]), Below.refl _ _⟩
  · have HX := Lib.hid hx
    clear hx hr
    go_enter Try.func11, Try.ntmps11
    go_wp2
    go_loopw [1, 5] (fun l i wr => ∃ k : Nat, ∃ m : Int, k ≤ xs.length ∧ i = .int .i64 k ∧ l = .int .i64 m ∧ 0 ≤ m ∧ m ≤ 1048576 ∧ Hid (szList szLab xs left = szAll szLab (xs.drop k) m) ∧ Below w.heap.size w wr) (fun _ i _ => xs.length - (intOf i).toNat)
    case atStart => exact ⟨0, _, by omega, rfl, rfl, by omega, by omega, by unfold Hid szList; rw [if_neg (by omega)]; rfl, Below.refl _ _⟩
    case round =>
      obtain ⟨k, m, hk, rfl, rfl, hm0, hm1, HE, hb⟩ := hrel
      by_cases hlt : k < xs.length
      · obtain ⟨b, off, rfl, hbl, c0, c1, k0, k1⟩ := HX.out k hlt
        have d0 := below_cell hb c0
        have d1 := below_cell hb c1
        have HB := Lib.hid hb
        have e : xs.drop k = xs[k] :: xs.drop (k + 1) := List.drop_eq_getElem_cons hlt
        have HE2 : Hid (szList szLab xs left = if szLab xs[k] m < 0 then -1 else szAll szLab (xs.drop (k + 1)) (szLab xs[k] m)) := by
          unfold Hid; rw [HE.out, e, szAll]
        have hle := szLab_le xs[k] m hm0
        clear hb c0 c1 HE e
        go_wp2_with (go_at_call 36; refine (szLabel_any xs[k] m _ hm0 hm1 k0 k1).mono ?_; rintro e w' ⟨rfl, hb2⟩)
        · go_ret
          exact ⟨congrArg (fun z => Ending.returned (.int .i64 z)) (by rw [HE2.out, if_pos (by assumption)]), belowT HB.out hb2⟩
        · go_roundw
          case rel => exact ⟨k + 1, _, by omega, by go_num, rfl, by omega, by omega, by unfold Hid; rw [HE2.out, if_neg (by omega)], belowT HB.out hb2⟩
          case measure => simp [intOf]; omega
      · obtain rfl : k = xs.length := by omega
        go_wp2
        go_ret
        exact ⟨congrArg (fun z => Ending.returned (.int .i64 z)) (by rw [HE.out]; simp [szAll]), hb⟩
theorem eqLabel_any (x y : Label) (w : World) :
    Calls Try.prog 41 #[.agg #[.string x.key, .string x.value], .agg #[.string y.key, .string y.value]] w fun e w' => (∃ b, e = .returned (.bool b) ∧ (b = true ↔ x = y)) ∧ Below w.heap.size w w' := by
  obtain ⟨a, b⟩ := x
  obtain ⟨c, d⟩ := y
  go_enter Try.func41, Try.ntmps41
  go_wp2
  all_goals go_ret
  all_goals refine ⟨⟨_, rfl, ?_⟩, belowA (belowA (Below.refl _ _) _) _⟩
  · have := str_ne (a := a) (b := c) (by assumption); simp [this]
  · have := str_ne (a := b) (b := d) (by assumption); simp [this]
  · have := str_eq (a := a) (b := c) (by assumption); have := str_eq (a := b) (b := d) (by assumption); simp [*]
set_option maxHeartbeats 400000 in
theorem eqLabelS_any (xs ys : List Label) (v u : Value) (o o' : Bool) (F G : List Nat) (w : World) (hr : rd o w (labD xs) [v] F) (hq : rd o' w (labD ys) [u] G) :
    Calls Try.prog 15 #[v, u] w fun e w' => (∃ b, e = .returned (.bool b) ∧ (b = true ↔ xs = ys)) ∧ Below w.heap.size w w' := by
  obtain ⟨A, c, rfl, hn, hc, hx⟩ := rd_labs hr
  obtain ⟨A', c', rfl, hn', hc', hy⟩ := rd_labs hq
  clear hr hq
  by_cases hs : xs.length = ys.length
  · have HX := Lib.hid hx
    have HY := Lib.hid hy
    have HS := Lib.hid hs
    have hsb : (((xs.length : Int) != (ys.length : Int))) = false := by rw [hs]; simp
    clear hx hy hs
    go_enter Try.func15, Try.ntmps15
    go_wp2
    go_loopw [5] (fun i wr => ∃ k : Nat, k ≤ xs.length ∧ i = .int .i64 k ∧ Hid (xs.take k = ys.take k) ∧ Below w.heap.size w wr) (fun i _ => xs.length - (intOf i).toNat)
    case atStart => exact ⟨0, by omega, rfl, by unfold Hid; simp, Below.refl _ _⟩
    case round =>
      obtain ⟨k, hk, rfl, HE, hb⟩ := hrel
      by_cases hlt : k < xs.length
      · have hlt' : k < ys.length := by have := HS.out; omega
        obtain ⟨b, off, rfl, hbl, c0, c1, _, _⟩ := HX.out k hlt
        obtain ⟨b', off', rfl, hbl', c0', c1', _, _⟩ := HY.out k hlt'
        have d0 := below_cell hb c0
        have d1 := below_cell hb c1
        have d0' := below_cell hb c0'
        have d1' := below_cell hb c1'
        have HB := Lib.hid hb
        clear hb c0 c1 c0' c1'
        go_wp2
        go_region_held3 (fun w' => w'.cell? ⟨b, off + k * 2, none⟩ = some (.string xs[k].key) ∧ w'.cell? ⟨b, off + k * 2 + 1, none⟩ = some (.string xs[k].value) ∧ w'.cell? ⟨b', off' + k * 2, none⟩ = some (.string ys[k].key) ∧ w'.cell? ⟨b', off' + k * 2 + 1, none⟩ = some (.string ys[k].value))
          (first | go_keep | (go_split_ands; exact ⟨below_cell hbx (by assumption), below_cell hbx (by assumption), below_cell hbx (by assumption), below_cell hbx (by assumption)⟩))
          (first | (go_at_call 41; refine (eqLabel_any xs[k] ys[k] _).mono ?_; rintro e w' ⟨⟨bb, rfl, hbb⟩, hbx⟩))
        have HB2 := belowDT HB.out hbx
        clear hbx HB
        cases bb
        · go_wp2
          go_ret
          exact ⟨⟨false, rfl, by simp; intro h; apply ((not_congr hbb).1 (by simp)); subst h; rfl⟩, HB2⟩
        · have hk2 : xs.take (k + 1) = ys.take (k + 1) := by rw [List.take_succ_eq_append_getElem hlt, List.take_succ_eq_append_getElem hlt', HE.out, hbb.1 rfl]
          have HE2 := Lib.hid hk2
          clear hk2 HE hbb
          go_wp2
          go_roundw
          case rel => exact ⟨k + 1, by omega, by go_num, HE2, HB2⟩
          case measure => simp [intOf]; omega
      · obtain rfl : k = xs.length := by omega
        go_wp2
        go_ret
        exact ⟨⟨true, rfl, by simp; rw [← List.take_length (l := xs), HE.out, HS.out, List.take_length]⟩, hb⟩
  · have hsb : (((xs.length : Int) != (ys.length : Int))) = true := by simp; omega
    have hne : xs ≠ ys := fun h => hs (by rw [h])
    have HS := Lib.hid hne
    clear hx hy hs hne
    go_enter Try.func15, Try.ntmps15
    go_wp2
    go_ret
    exact ⟨⟨false, rfl, by simp; exact HS.out⟩, Below.refl _ _⟩
theorem toLabel_any (x : Label) (w : World) :
    Calls Try.prog 37 #[.agg #[.string x.key, .string x.value]] w fun e w' => e = .returned (.agg #[.string x.key, .string x.value]) ∧ Below w.heap.size w w' := by
  go_enter Try.func37, Try.ntmps37
  go_wp2
  exact bodyPost_ret (v := .agg #[.string x.key, .string x.value]) (by simp [results, Try.results37, go_sem]) rfl ⟨rfl, belowA (belowA (belowA (Below.refl _ _) _) _) _⟩
theorem info_label : (Try.prog.info? 56).map (fun i => (i.zero, i.size, i.bytes)) = some (some (.agg #[.string ⟨#[]⟩, .string ⟨#[]⟩]), 2, 32) := by kernel_rfl
theorem toLabelS_any (xs : List Label) (v : Value) (F : List Nat) (w : World) (hr : rd false w (labD xs) [v] F) (hl : xs.length ≤ 1048576) :
    Calls Try.prog 13 #[v] w fun e w' => (∃ u G, e = .returned u ∧ rd true w' (labD xs) [u] G ∧ Fresh w.heap.size G) ∧ Below w.heap.size w w' := by
  obtain ⟨A, c, rfl, hn, hc, hx⟩ := rd_labs hr
  have HX := Lib.hid hx
  clear hx hr
  obtain ⟨i0, hi, hz0, hz1, hz2⟩ := info_parts (info_label)
  go_enter Try.func13, Try.ntmps13
  go_wp2_with (first | (refine wpList_make_full _ rfl _ _ 24 rfl w.heap.size 56 i0 (.agg #[.string ⟨#[]⟩, .string ⟨#[]⟩]) 2 Try.underlying24 hi hz0 hz1 _ _ _ _ xs.length rfl rfl rfl rfl (by rw [hz2]; omega) (by unfold maxLen; omega) (Nat.le_refl _) ?_; intro w1 hown hgr))
  have HO := Lib.hid hown
  have HG := Lib.hid hgr
  clear hown hgr
  go_loopw [4] (fun i wr => ∃ k : Nat, k ≤ xs.length ∧ i = .int .i64 k ∧ Hid (∃ p q, wr.ownsRow w.heap.size 56 2 (.slice (some ⟨w.heap.size, 0, none⟩) xs.length xs.length) xs.length (p ++ q) ∧ p.length = k * 2 ∧ rdL true wr ((xs.take k).map Label.d) p []) ∧ Below w.heap.size w wr) (fun i _ => xs.length - (intOf i).toNat)
  case atStart => exact ⟨0, by omega, rfl, ⟨[], _, HO.out, rfl, by simp [rdL]⟩, belowG (Below.refl _ _) HG.out (by simp)⟩
  case round =>
    obtain ⟨k, hk, rfl, HE, hb⟩ := hrel
    by_cases hlt : k < xs.length
    · obtain ⟨b, off, rfl, hbl, c0, c1, k0, k1⟩ := HX.out k hlt
      obtain ⟨p, q, ho, hp, hd⟩ := HE.out
      obtain ⟨u0, hu0, e0⟩ := own_cell ho (k * 2) (by omega)
      obtain ⟨u1, hu1, e1⟩ := own_cell ho (k * 2 + 1) (by omega)
      have f0 := ho.frozenAt (k * 2)
      have f1 := ho.frozenAt (k * 2 + 1)
      have d0 := below_cell hb c0
      have d1 := below_cell hb c1
      have HB := Lib.hid hb
      have HOO := Lib.hid ho
      have HP := Lib.hid hp
      have HD := Lib.hid hd
      clear hb c0 c1 HE ho hp hd hu0 hu1
      go_wp2_with (go_at_call 37; refine (toLabel_any xs[k] _).mono ?_; rintro e w' ⟨rfl, hbx⟩; have e0x := below_cell hbx e0; have e1x := below_cell hbx e1; have f0x := (hbx.frozen (World.block_lt_of_cell? _ _ e0)).trans f0; have f1x := (hbx.frozen (World.block_lt_of_cell? _ _ e1)).trans f1; have HBX := Lib.hid hbx; clear hbx e0 e1 f0 f1)
      go_roundw
      case rel =>
        have hq := own_rest HOO.out HP.out hlt
        obtain ⟨q1, h1, l1⟩ := own_put (own_below HOO.out HBX.out) (by omega) (.string xs[k].key)
        obtain ⟨q2, h2, l2⟩ := own_put h1 (by omega) (.string xs[k].value)
        simp only [List.length_append, List.length_singleton, HP.out] at h2
        refine ⟨k + 1, by omega, by go_num, ⟨_, q2, h2, by simp [HP.out]; omega, ?_⟩, belowS (belowS (belowT HB.out HBX.out) _ _ (Nat.le_refl _) _) _ _ (Nat.le_refl _) _⟩
        rw [take_map_snoc hlt, List.append_assoc]
        exact rdL_append (F1 := []) (F2 := []) (rdL_frame _ _ _ HD.out (by simp)) (rdL_one (rd_label.2 ⟨rfl, rfl, k0, k1⟩))
      case measure => simp [intOf]; omega
    · obtain rfl : k = xs.length := by omega
      obtain ⟨p, q, ho, hp, hd⟩ := HE.out
      obtain rfl := own_all ho hp
      rw [List.append_nil] at ho
      rw [List.take_length] at hd
      have HOO := Lib.hid ho
      have HD := Lib.hid hd
      clear ho hp hd HE
      go_wp2
      go_ret
      obtain ⟨G, g1, g2, _⟩ := own_rd HOO.out HD.out (by simp) (Fresh.nil _) (by simp)
      exact ⟨⟨_, G, rfl, g1, g2⟩, hb⟩
end Go.Proofs.Ytpjpnppoejnafaa
