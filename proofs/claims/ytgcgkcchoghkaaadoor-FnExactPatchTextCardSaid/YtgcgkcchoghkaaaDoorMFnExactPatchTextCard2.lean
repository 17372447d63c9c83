import Derived.Test.YtgcgkcchoghkaaaDoorMFnExactPatchTextCard1
import Derived.Lib.ReplaceLaws
import Derived.Test.YtgcgkcchoghkaaaDoorShelf
import Derived.ChangeArms
import Derived.ChangeShapes
import Derived.DataReads
import Derived.Test.YtgcgkcchoghkaaaDoorProg
import Derived.WideShapes
import Derived.KernelRfl
/- PQuote -/
/-
  Texts in quotes; numbers of any size in digits.
-/
namespace Go.Proofs.YtgcgkcchoghkaaaDoor.G
open Go.RowKit Go.Proofs.YtgcgkcchoghkaaaDoorW.PrintWords Go.Proofs.YtgcgkcchoghkaaaDoorW.PrintLast Go.Proofs.YtgcgkcchoghkaaaDoorW.PrintMore
set_option linter.unusedVariables false
set_option linter.unusedSimpArgs false
def rp (c : UInt8) (new : List UInt8) (l : List UInt8) : List UInt8 := l.flatMap (fun b => if b = c then new else [b])
theorem rp_index (c : UInt8) (new : List UInt8) : ∀ (l : List UInt8), (Lib.index l [c] = -1 → rp c new l = l) ∧ ∀ i : Nat, Lib.index l [c] = i → rp c new l = l.take i ++ new ++ rp c new (l.drop (i + 1))
  | [] => by
    refine ⟨fun _ => rfl, fun i h => ?_⟩
    simp [Lib.index] at h
  | b :: t => by
    obtain ⟨h1, h2⟩ := rp_index c new t
    rw [Lib.index]
    by_cases hb : b = c
    · subst hb
      have hp : List.isPrefixOf [b] (b :: t) = true := by simp [List.isPrefixOf]
      rw [if_pos hp]
      refine ⟨fun h => by omega, fun i h => ?_⟩
      obtain rfl : i = 0 := by omega
      simp [rp]
    · have hp : ¬ List.isPrefixOf [c] (b :: t) = true := by
        simp [List.isPrefixOf]; exact fun e => hb e.symm
      rw [if_neg hp]
      have hc : rp c new (b :: t) = b :: rp c new t := by simp [rp, hb]
      by_cases hm : Lib.index t [c] = -1
      · rw [if_pos (beq_iff_eq.2 hm)]
        exact ⟨fun _ => by rw [hc, h1 hm], fun i h => by omega⟩
      · rw [if_neg (fun e => hm (beq_iff_eq.1 e))]
        obtain ⟨j, hj⟩ : ∃ j : Nat, Lib.index t [c] = j := by
          rcases Lib.index_spec t [c] with h | ⟨j, h, _⟩
          · exact absurd h.1 hm
          · exact ⟨j, h⟩
        refine ⟨fun h => by omega, fun i h => ?_⟩
        obtain rfl : i = j + 1 := by omega
        rw [hc, h2 j hj]; simp
theorem replaceK_rp (c : UInt8) (new : List UInt8) : ∀ (k : Nat) (l : List UInt8), Lib.count l [c] = k → Lib.replaceK [c] new k l = rp c new l
  | 0, l, h => by
    rcases Lib.index_spec l [c] with hm | ⟨i, hi, _⟩
    · rw [Lib.replaceK, (rp_index c new l).1 hm.1]
    · rw [Lib.count_hit (by simp) hi] at h; omega
  | k + 1, l, h => by
    rcases Lib.index_spec l [c] with hm | ⟨i, hi, _⟩
    · rw [Lib.replaceK, if_pos (beq_iff_eq.2 hm.1), (rp_index c new l).1 hm.1]
    · rw [Lib.count_hit (by simp) hi, List.length_singleton] at h
      rw [Lib.replaceK_hit _ _ _ _ i hi, (rp_index c new l).2 i hi, List.length_singleton, replaceK_rp c new k _ (by omega)]
theorem replaceAll_rp (c : UInt8) (new l : List UInt8) (h : [c] ≠ new) : Lib.replaceAll l [c] new = rp c new l := by
  unfold Lib.replaceAll Lib.replace
  rw [if_neg (fun e => h (beq_iff_eq.1 e))]
  have : Lib.replaceNum l [c] (-1) = Lib.count l [c] := by unfold Lib.replaceNum; rw [if_pos (.inl (by omega))]
  rw [this, replaceK_rp c new _ l rfl]
theorem rp_len (c : UInt8) (new : List UInt8) (h : new.length ≤ 2) : ∀ l : List UInt8, (rp c new l).length ≤ 2 * l.length
  | [] => by simp [rp]
  | b :: t => by
    have := rp_len c new h t
    unfold rp at this ⊢
    rw [List.flatMap_cons, List.length_append, List.length_cons]
    split
    · omega
    · rw [List.length_singleton]; omega
/-- A text with its quotes and strokes marked. -/
def escL (l : List UInt8) : List UInt8 := l.flatMap (fun b => if b = 34 ∨ b = 92 then [92, b] else [b])
theorem rp_rp : ∀ l : List UInt8, rp 34 [92, 34] (rp 92 [92, 92] l) = escL l
  | [] => rfl
  | b :: t => by
    have ih := rp_rp t
    unfold rp escL at ih ⊢
    rw [List.flatMap_cons, List.flatMap_append, ih, List.flatMap_cons]
    congr 1
    by_cases h1 : b = 92
    · subst h1; decide
    · by_cases h2 : b = 34
      · subst h2; decide
      · rw [if_neg h1, if_neg (by simp [h1, h2])]; simp [h2]
def qtL (l : List UInt8) : List UInt8 := 34 :: (escL l ++ [34])
def qt (s : ByteArray) : ByteArray := mkb (qtL s.data.toList)
theorem escL_len (l : List UInt8) : (escL l).length ≤ 2 * l.length := by
  induction l with
  | nil => simp [escL]
  | cons b t ih =>
    unfold escL at ih ⊢
    rw [List.flatMap_cons, List.length_append, List.length_cons]
    split
    · show 2 + _ ≤ _; omega
    · rw [List.length_singleton]; omega
theorem mkb_sz (l : List UInt8) : (mkb l).size = l.length := by rw [size_data, mkb_data]
theorem qt_size (s : ByteArray) : (qt s).size ≤ 2 * s.size + 2 := by
  unfold qt qtL
  rw [mkb_sz]
  have := escL_len s.data.toList
  rw [← size_data] at this
  simp; omega
theorem mk_eq {a b : ByteArray} (h : a.data.toList = b.data.toList) : a = b := by
  obtain ⟨⟨x⟩⟩ := a
  obtain ⟨⟨y⟩⟩ := b
  have h : x = y := h
  rw [h]
theorem replace_f (s : ByteArray) (c : UInt8) (d : UInt8) (h : s.size ≤ 4194304) : strings_ReplaceAll.f s ⟨#[c]⟩ ⟨#[d, c]⟩ = some (mkb (rp c [d, c] s.data.toList)) := by
  unfold strings_ReplaceAll.f
  have hc := Lib.countB_le ⟨#[c]⟩ (Nat.le_refl 1) _ s (Nat.le_refl _)
  have h2 : (⟨#[d, c]⟩ : ByteArray).size = 2 := rfl
  rw [if_pos ⟨by omega, Nat.le_refl 1, by rw [h2]; omega⟩]
  show some (mkb (Lib.replaceAll s.data.toList [c] [d, c])) = _
  rw [replaceAll_rp c [d, c] _ (by simp)]
theorem quoted_f (s : ByteArray) (h : s.size ≤ 1048576) : impl_quoted.f s = some (qt s) := by
  unfold impl_quoted.f
  have hl := rp_len 92 [92, 92] (by simp) s.data.toList
  rw [← size_data] at hl
  have hl2 := rp_len 34 [92, 34] (by simp) (rp 92 [92, 92] s.data.toList)
  have q1 : (⟨#[34]⟩ : ByteArray).size = 1 := rfl
  rw [replace_f s 92 92 (by omega), Option.bind_some, replace_f _ 34 92 (by rw [mkb_sz]; omega), Option.bind_some, mkb_data, rp_rp]
  have hs : (mkb (escL s.data.toList)).size ≤ 4194304 := by
    rw [mkb_sz]; have := escL_len s.data.toList; rw [← size_data] at this; omega
  rw [if_pos (by omega), if_pos (by rw [ByteArray.size_append, q1]; omega)]
  congr 1
theorem nums_mkb (l : List UInt8) : strOfNums (l.map fun b : UInt8 => (b.toNat : Int)) = mkb l := by
  apply mk_eq
  rw [strOfNums_data, mkb_data, List.map_map]
  conv => rhs; rw [← List.map_id l]
  refine List.map_congr_left (fun b _ => ?_)
  show UInt8.ofNat ((b.toNat : Int).toNat) = b
  rw [Int.toNat_natCast, UInt8.ofNat_toNat]
theorem l4Quoted_l0 (s : ByteArray) (hs : s.size ≤ 1048576) : ∀ (d i : Nat), i + d = s.size → Ev (fun k => spec_l4Quoted.l0 k s ((34 :: escL (s.data.toList.take i)).map fun b : UInt8 => (b.toNat : Int)) i) (qt s)
  | 0, i, hd => by
    have hl := escL_len (s.data.toList.take i)
    have hl2 : (s.data.toList.take i).length ≤ s.size := by rw [List.length_take, ← size_data]; omega
    refine Ev.step (fun k => by rw [spec_l4Quoted.l0]) (ev_if_neg (by omega) (ev_if_pos (by rw [List.length_map, List.length_cons]; omega) (ev_some ?_)))
    rw [List.take_of_length_le (by rw [← size_data]; omega)]
    have e : ((34 :: escL s.data.toList).map fun b : UInt8 => (b.toNat : Int)) ++ [34] = (qtL s.data.toList).map fun b : UInt8 => (b.toNat : Int) := by simp [qtL]
    rw [e, nums_mkb]; rfl
  | d + 1, i, hd => by
    have hi : i < s.data.toList.length := by rw [← size_data]; omega
    have ih := l4Quoted_l0 s hs d (i + 1) (by omega)
    have hl := escL_len (s.data.toList.take i)
    have hl2 : (s.data.toList.take i).length ≤ s.size := by rw [List.length_take, ← size_data]; omega
    have hb : bt s (i : Int) = ((s.data.toList[i].toNat : Nat) : Int) := (bt_byte s _ hi).2 rfl
    rw [List.take_succ_eq_append_getElem hi] at ih
    have ea : ∀ (x : List UInt8) (b : UInt8), escL (x ++ [b]) = escL x ++ (if b = 34 ∨ b = 92 then [92, b] else [b]) := fun x b => by simp [escL]
    rw [ea] at ih
    have hlen : ((34 :: escL (s.data.toList.take i)).map fun b : UInt8 => (b.toNat : Int)).length < 140737488355328 := by rw [List.length_map, List.length_cons]; omega
    have hlen2 : (((34 :: escL (s.data.toList.take i)).map fun b : UInt8 => (b.toNat : Int)) ++ [92]).length < 140737488355328 := by rw [List.length_append, List.length_map, List.length_cons]; simp; omega
    refine Ev.step (fun k => by rw [spec_l4Quoted.l0]) (ev_if_pos (by omega) (ev_if_pos (by omega) ?_))
    rw [wsucc (n := s.size) (by omega) (by omega)]
    by_cases c1 : s.data.toList[i] = 34
    · refine ev_if_pos ((bt_byte s 34 hi).2 c1) (ev_if_pos hlen (Ev.bind (Ev.now _) (ev_if_pos hlen2 ?_)))
      rw [if_pos (.inl c1)] at ih
      rw [hb]
      refine Ev.congr (fun k => ?_) ih
      congr 1; simp [c1]
    · refine ev_if_neg (fun h => c1 ((bt_byte s 34 hi).1 h)) ?_
      by_cases c2 : s.data.toList[i] = 92
      · refine ev_if_pos ((bt_byte s 92 hi).2 c2) (ev_if_pos hlen (Ev.bind (Ev.now _) (ev_if_pos hlen2 ?_)))
        rw [if_pos (.inr c2)] at ih
        rw [hb]
        refine Ev.congr (fun k => ?_) ih
        congr 1; simp [c2]
      · refine ev_if_neg (fun h => c2 ((bt_byte s 92 hi).1 h)) (ev_if_pos hlen ?_)
        rw [if_neg (fun h => h.elim c1 c2)] at ih
        rw [hb]
        refine Ev.congr (fun k => ?_) ih
        congr 1; simp
theorem l4Quoted_ev (s : ByteArray) (hs : s.size ≤ 1048576) : Ev (fun k => spec_l4Quoted.f k s) (qt s) := by
  unfold spec_l4Quoted.f
  exact l4Quoted_l0 s hs s.size 0 (by omega)
/-! ### numbers -/
theorem dg_num {z : Int} (h0 : 0 ≤ z) (h : z < 10) : strOfNums [(IntKind.u64.wrap (48 + z)) % 256] = dg z.toNat := by
  obtain ⟨n, rfl⟩ := Int.eq_ofNat_of_zero_le h0
  have hn : n < 10 := by omega
  match n, hn with
  | 0, _ => decide +kernel
  | 1, _ => decide +kernel
  | 2, _ => decide +kernel
  | 3, _ => decide +kernel
  | 4, _ => decide +kernel
  | 5, _ => decide +kernel
  | 6, _ => decide +kernel
  | 7, _ => decide +kernel
  | 8, _ => decide +kernel
  | 9, _ => decide +kernel
theorem u64w {x : Int} (h : 0 ≤ x) (h' : x < 18446744073709551616) : IntKind.u64.wrap x = x := by
  rw [IntKind.wrap_u64]; omega
theorem l4Int_l0 : ∀ (m : Nat) (x : Int) (s d : ByteArray), 0 ≤ x → x.toNat < 10 ^ (m + 1) → x ≤ 9223372036854775808 → s.size ≤ 10 → d.size + m ≤ 1000 → Ev (fun k => spec_l4Int.l0 k x s d) (s ++ decT x.toNat ++ d)
  | m, x, s, d, h0, hm, hx, hs, hd => by
    by_cases c : x ≥ 10
    · have ht : Int.tdiv x 10 = x / 10 := Int.tdiv_eq_ediv_of_nonneg h0
      have hr : Int.tmod x 10 = x % 10 := Int.tmod_eq_emod_of_nonneg h0
      match m, hm, hd with
      | 0, hm, _ => rw [Nat.zero_add, Nat.pow_one] at hm; omega
      | m + 1, hm, hd =>
        rw [Nat.pow_succ] at hm
        have ih := l4Int_l0 m (x / 10) s (dg (x % 10).toNat ++ d) (by omega) (by omega) (by omega) hs (by rw [ByteArray.size_append, dg_size]; omega)
        refine Ev.step (fun k => by rw [spec_l4Int.l0]) (ev_if_pos c (Ev.bind (Ev.now _) ?_))
        rw [hr, dg_num (by omega) (by omega), ht, u64w (by omega) (by omega)]
        refine ev_if_pos (by rw [dg_size]; omega) (ev_rw ih ?_)
        rw [decZ_ge (z := x) (by omega)]
        simp only [ByteArray.append_assoc]
    · refine Ev.step (fun k => by rw [spec_l4Int.l0]) (ev_if_neg c (Ev.bind (Ev.now _) ?_))
      rw [dg_num h0 (by omega)]
      refine ev_if_pos (by rw [dg_size]; omega) (ev_if_pos (by rw [ByteArray.size_append, dg_size]; omega) (ev_some ?_))
      rw [decZ_lt (z := x) (by omega)]
theorem l4Int_ev (z : Int) (h : -9223372036854775808 ≤ z ∧ z ≤ 9223372036854775807) : Ev (fun k => spec_l4Int.f k z) (decS z) := by
  unfold spec_l4Int.f decS
  have em : ∀ a : ByteArray, a ++ (⟨#[]⟩ : ByteArray) = a := fun a => ByteArray.append_empty
  have en : ∀ a : ByteArray, (⟨#[]⟩ : ByteArray) ++ a = a := fun a => ByteArray.empty_append
  by_cases c : z < 0
  · rw [if_pos c]
    refine ev_if_pos c (Ev.step (fun k => by rw [spec_l4Int.j0]) ?_)
    have e : IntKind.u64.wrap ((IntKind.u64.wrap (wrap64 (-(wrap64 (z + 1))))) + 1) = -z := by
      rw [w64 (x := z + 1) (by omega) (by omega), w64 (by omega) (by omega), u64w (x := -(z + 1)) (by omega) (by omega), u64w (by omega) (by omega)]; omega
    rw [e]
    have := l4Int_l0 19 (-z) ⟨#[45]⟩ ⟨#[]⟩ (by omega) (Nat.lt_of_le_of_lt (show (-z).toNat ≤ 9223372036854775808 by omega) (by decide)) (by omega) (by decide) (by have : (⟨#[]⟩ : ByteArray).size = 0 := rfl; omega)
    rwa [em] at this
  · rw [if_neg c]
    refine ev_if_neg c (Ev.step (fun k => by rw [spec_l4Int.j0]) ?_)
    rw [u64w (by omega) (by omega)]
    have := l4Int_l0 19 z ⟨#[]⟩ ⟨#[]⟩ (by omega) (Nat.lt_of_le_of_lt (show z.toNat ≤ 9223372036854775808 by omega) (by decide)) (by omega) (by decide) (by have : (⟨#[]⟩ : ByteArray).size = 0 := rfl; omega)
    rwa [em, en] at this
end Go.Proofs.YtgcgkcchoghkaaaDoor.G

/- G14 -/
-- Laid by wip/g/gprint.py out of the translation, by the kit's print program. Lean checks it.
namespace Go.Proofs.YtgcgkcchoghkaaaDoor.G
open Go.RowKit Go.Proofs.YtgcgkcchoghkaaaDoorW.PrintWords Go.Proofs.YtgcgkcchoghkaaaDoorW.PrintLast Go.Proofs.YtgcgkcchoghkaaaDoorW.PrintMore
attribute [local go_sem] max2_int min2_int max_two min_two max_three min_three max_four min_four   -- for this text's walks alone
set_option linter.unusedVariables false
set_option linter.unusedSimpArgs false

/-! ### strings_Join: function 14 -/
--IMPORT Derived.Test.YtgcgkcchoghkaaaDoorShelf
def strings_Join.f (l0 : List ByteArray) (a1 : ByteArray) : Option ByteArray :=
  if l0.length ≤ 140737488355328 ∧ (Lib.join (l0.map (·.data.toList)) a1.data.toList).length ≤ 140737488355328 then some ⟨(Lib.join (l0.map (·.data.toList)) a1.data.toList).toArray⟩ else none
theorem strings_Join.calls (A0 : Option Addr) (c0 : Nat) (l0 : List ByteArray) (a1 : ByteArray) (r : ByteArray) (w : World) (hr0 : Kd.C Kd.string w A0 l0.length l0) (hc0 : l0.length ≤ c0) (h : strings_Join.f l0 a1 = some r) :
    Calls Tryd.prog 14 #[.slice A0 l0.length c0, .string a1] w fun e w' => e = .returned (.string r) ∧ Below w.heap.size w w' := by
  unfold strings_Join.f at h
  by_cases hl : l0.length ≤ 140737488355328 ∧ (Lib.join (l0.map (·.data.toList)) a1.data.toList).length ≤ 140737488355328
  · rw [if_pos hl] at h
    obtain rfl := Option.some.inj h
    rcases Nat.eq_zero_or_pos l0.length with h0 | h0
    · obtain rfl := List.eq_nil_of_length_eq_zero h0
      refine (Tryd.strings_Join_none A0 c0 a1 w).mono ?_
      rintro e w' ⟨rfl, rfl⟩
      exact ⟨rfl, Below.refl _ _⟩
    · obtain ⟨bk, o, rfl, hlt, hcells⟩ := C_cells (f := Value.string) (dflt := ByteArray.empty) (Kd.reads_of_C hr0) h0
      exact Tryd.strings_Join bk o c0 l0 a1 w hcells hlt hl.1 hc0 hl.2
  · rw [if_neg hl] at h
    cases h

end Go.Proofs.YtgcgkcchoghkaaaDoor.G

/- PJoin -/
/-
  Joined strings: strings.Join, piece by piece.
-/
namespace Go.Proofs.YtgcgkcchoghkaaaDoor.G
open Go.RowKit Go.Proofs.YtgcgkcchoghkaaaDoorW.PrintWords Go.Proofs.YtgcgkcchoghkaaaDoorW.PrintLast Go.Proofs.YtgcgkcchoghkaaaDoorW.PrintMore
set_option linter.unusedVariables false
set_option linter.unusedSimpArgs false
def jn (xs : List ByteArray) (sep : ByteArray) : ByteArray := ⟨(Lib.join (xs.map (·.data.toList)) sep.data.toList).toArray⟩
theorem join_snoc (x s : List UInt8) : ∀ (ys : List (List UInt8)), Lib.join (ys ++ [x]) s = if ys = [] then x else Lib.join ys s ++ s ++ x
  | [] => by rw [if_pos rfl]; exact Lib.join_one x s
  | y :: ys => by
    rw [if_neg (by simp), List.cons_append, Lib.join_cons, Lib.join_cons]
    simp [Lib.joinTail, List.append_assoc]
theorem ba_eq {a b : ByteArray} (h : a.data.toList = b.data.toList) : a = b := by
  cases a; cases b; simp only at h; congr 1; exact Array.toList_inj.1 h
theorem jn_snoc (ys : List ByteArray) (x s : ByteArray) (h : ys ≠ []) : jn (ys ++ [x]) s = jn ys s ++ s ++ x := by
  apply ba_eq
  unfold jn
  rw [List.map_append, List.map_cons, List.map_nil, join_snoc, if_neg (by simpa using h)]
  simp [ByteArray.data_append]
theorem jn_one (x s : ByteArray) : jn [x] s = x := by
  apply ba_eq
  unfold jn
  rw [List.map_cons, List.map_nil, Lib.join_one]
theorem jn_nil (s : ByteArray) : jn [] s = ⟨#[]⟩ := rfl
theorem jn_size (s : ByteArray) (m : Nat) (hs : s.size ≤ m) : ∀ (xs : List ByteArray) (b : Nat), (∀ x ∈ xs, x.size ≤ b) → (jn xs s).size ≤ xs.length * (b + m) := by
  intro xs b h
  have key : ∀ n, ∀ ys : List ByteArray, ys.length = n → (∀ x ∈ ys, x.size ≤ b) → (jn ys s).size ≤ n * (b + m) := by
    intro n
    induction n with
    | zero => intro ys h0 _; obtain rfl := List.eq_nil_of_length_eq_zero h0; simp [jn_nil, ByteArray.size]
    | succ n ih =>
      intro ys hl hb
      obtain ⟨zs, z, rfl⟩ : ∃ zs z, ys = zs ++ [z] := ⟨ys.dropLast, ys.getLast (by intro h; rw [h] at hl; simp at hl), (List.dropLast_concat_getLast _).symm⟩
      have hzl : zs.length = n := by simpa using hl
      have hz := hb z (by simp)
      have e : (n + 1) * (b + m) = n * (b + m) + (b + m) := Nat.succ_mul _ _
      rcases List.eq_nil_or_concat zs with h0 | ⟨_, _, h0⟩
      · subst h0; rw [List.nil_append, jn_one]; omega
      · rw [jn_snoc zs z s (by rw [h0]; simp), ByteArray.size_append, ByteArray.size_append]
        have := ih zs hzl (fun x hx => hb x (by simp [hx]))
        omega
  exact key _ xs rfl h
theorem join_f (xs : List ByteArray) (s : ByteArray) (h : xs.length ≤ 140737488355328) (h' : (jn xs s).size ≤ 140737488355328) : strings_Join.f xs s = some (jn xs s) := by
  unfold strings_Join.f
  have e : (Lib.join (xs.map (·.data.toList)) s.data.toList).length = (jn xs s).size := by unfold jn ByteArray.size; simp
  rw [if_pos ⟨h, by rw [e]; exact h'⟩]; rfl
/-- A loop that writes the pieces behind a start, with a sign between them. -/
theorem jn_take_succ (xs : List ByteArray) (s a : ByteArray) {i : Nat} (hi : i < xs.length) : a ++ jn (xs.take (i + 1)) s = if 0 < i then (a ++ jn (xs.take i) s) ++ s ++ xs[i] else a ++ xs[i] := by
  rw [List.take_succ_eq_append_getElem hi]
  by_cases c : 0 < i
  · rw [if_pos c, jn_snoc _ _ _ (by intro h; have := congrArg List.length h; rw [List.length_take, List.length_nil] at this; omega)]
    simp only [ByteArray.append_assoc]
  · obtain rfl : i = 0 := by omega
    rw [if_neg (by omega), List.take_zero, List.nil_append, jn_one]
end Go.Proofs.YtgcgkcchoghkaaaDoor.G

/- PStr0 -/
/-
  Lists of texts: read, well formed.
-/
namespace Go.Proofs.YtgcgkcchoghkaaaDoor.G
open Go.RowKit Go.Proofs.YtgcgkcchoghkaaaDoorW.PrintWords Go.Proofs.YtgcgkcchoghkaaaDoorW.PrintLast Go.Proofs.YtgcgkcchoghkaaaDoorW.PrintMore
set_option linter.unusedVariables false
set_option linter.unusedSimpArgs false
theorem rdS {xs : List ByteArray} {i : Nat} (h : i < xs.length) : rdOf ByteArray.empty xs (i : Int) = xs[i] := by unfold rdOf; rw [Int.toNat_natCast]; exact getD_at h _
def wfStrs (xs : List ByteArray) : Prop := xs.length ≤ 9223372036854775807 ∧ ∀ x ∈ xs, x.size ≤ 9223372036854775807
theorem wfStrs_at {xs : List ByteArray} (h : wfStrs xs) {i : Nat} (hi : i < xs.length) : (rdOf ByteArray.empty xs (i : Int)).size ≤ 9223372036854775807 := by rw [rdS hi]; exact h.2 _ (List.getElem_mem hi)

end Go.Proofs.YtgcgkcchoghkaaaDoor.G

/- G17 -/
-- Laid by wip/g/gprint.py out of the translation, by the kit's print program. Lean checks it.
namespace Go.Proofs.YtgcgkcchoghkaaaDoor.G
open Go.RowKit Go.Proofs.YtgcgkcchoghkaaaDoorW.PrintWords Go.Proofs.YtgcgkcchoghkaaaDoorW.PrintLast Go.Proofs.YtgcgkcchoghkaaaDoorW.PrintMore
attribute [local go_sem] max2_int min2_int max_two min_two max_three min_three max_four min_four   -- for this text's walks alone
set_option linter.unusedVariables false
set_option linter.unusedSimpArgs false

/-! ### laws_szStringS: function 17 -/
def laws_szStringS.l0 : Nat → List ByteArray → Int → Int → Option (Int)
  | 0, _, _, _ => none
  | k + 1, x0, x1, x5 => if x5 < (x0.length : Int) then (if 0 ≤ x5 then (if (wrap64 (x1 - ((rdOf ByteArray.empty x0 x5).size : Int))) < 0 then (some (-1)) else (laws_szStringS.l0 k x0 (wrap64 (x1 - ((rdOf ByteArray.empty x0 x5).size : Int))) (wrap64 (x5 + 1)))) else (none)) else (some x1)
def laws_szStringS.f (k : Nat) (l0 : List ByteArray) (a1 : Int) : Option (Int) := if (wrap64 (a1 - (l0.length : Int))) < 0 then (some (-1)) else (laws_szStringS.l0 k l0 (wrap64 (a1 - (l0.length : Int))) 0)
set_option maxHeartbeats 8000000 in
set_option maxRecDepth 100000 in
theorem laws_szStringS.calls (k : Nat) (A0 : Option Addr) (c0 : Nat) (l0 : List ByteArray) (a1 : Int) (r : Int) (w : World) (hr0 : Kd.C Kd.string w A0 l0.length l0) (hc0 : l0.length ≤ c0) (h : laws_szStringS.f k l0 a1 = some r) :
    Calls Tryd.prog 17 #[.slice A0 l0.length c0, .int .i64 a1] w fun e w' => e = .returned (.int .i64 r) ∧ Drawn0 w w' := by
  have HR0 := Aside0.mk hr0
  have HC0 := Aside0.mk hc0
  clear hr0 hc0
  have H : (if (wrap64 (a1 - (l0.length : Int))) < 0 then (some (-1)) else (laws_szStringS.l0 k l0 (wrap64 (a1 - (l0.length : Int))) 0)) = some r := h
  clear h
  by_cases c3 : (wrap64 (a1 - (l0.length : Int))) < 0
  · rw [if_pos c3] at H
    have c3b0 : decide ((wrap64 (a1 - (l0.length : Int))) < 0) = true := decide_eq_true c3
    clear c3
    obtain rfl := Option.some.inj H
    go_enter Tryd.func17, Tryd.ntmps17
    go_wp2
    go_ret
    exact ⟨by first | rfl | (simp; done) | (simp [*]; done), by repeat (first | exact Drawn0.refl _ | apply Drawn0.step)⟩
  · rw [if_neg c3] at H
    have c3b0 : decide ((wrap64 (a1 - (l0.length : Int))) < 0) = false := decide_eq_false c3
    clear c3
    have H' := Aside0.mk H
    clear H
    go_enter Tryd.func17, Tryd.ntmps17
    go_wp2
    go_loopg [1, 5] k (fun kq v1 v5 w' => ∃ (x1_1 : Int) (x5_1 : Int), v1 = .int .i64 x1_1 ∧ v5 = .int .i64 x5_1 ∧ Aside0 (laws_szStringS.l0 kq l0 x1_1 x5_1 = some r) ∧ Aside0 (kq ≤ k) ∧ Drawn0 w w')
    case atStart => exact ⟨(wrap64 (a1 - (l0.length : Int))), (0), (by first | rfl | (simp; done) | (simp [*]; done)), (by first | rfl | (simp; done) | (simp [*]; done)), H', ⟨Nat.le_refl _⟩, by repeat (first | exact Drawn0.refl _ | apply Drawn0.step)⟩
    case round =>
      clear H'
      try clear c1
      try clear p2
      try clear c3
      try clear c3b0
      obtain ⟨x1_1, x5_1, rfl, rfl, HA, HK1, ⟨m1, rfl⟩⟩ := hrel
      cases gk with
      | zero => exact absurd HA.out (by simp [laws_szStringS.l0])
      | succ k1 =>
        have H := HA.out
        clear HA
        simp only [laws_szStringS.l0] at H
        by_cases c4 : x5_1 < (l0.length : Int)
        · rw [if_pos c4] at H
          have c4b0 : decide (x5_1 < (l0.length : Int)) = true := decide_eq_true c4
          clear c4
          by_cases c5 : 0 ≤ x5_1
          · rw [if_pos c5] at H
            have c5b0 : decide (0 ≤ x5_1) = true := decide_eq_true c5
            clear c5
            by_cases c6 : (wrap64 (x1_1 - ((rdOf ByteArray.empty l0 x5_1).size : Int))) < 0
            · rw [if_pos c6] at H
              have c6b0 : decide ((wrap64 (x1_1 - ((rdOf ByteArray.empty l0 x5_1).size : Int))) < 0) = true := decide_eq_true c6
              clear c6
              obtain rfl := Option.some.inj H
              have p101 : 0 ≤ (x5_1 : Int) := of_decide_eq_true (by first | (with_reducible assumption) | assumption)
              have q101 : x5_1 < (l0.length : Int) := of_decide_eq_true (by first | (with_reducible assumption) | assumption)
              obtain ⟨ad101, e101, hx101_0⟩ := Kd.at_string HR0.out x5_1 p101 q101
              cases e101
              replace p101 := eq_true p101
              replace q101 := eq_true q101
              go_wp2
              go_ret
              exact ⟨by first | rfl | (simp; done) | (simp [*]; done), by repeat (first | exact Drawn0.refl _ | apply Drawn0.step)⟩
            · rw [if_neg c6] at H
              have c6b0 : decide ((wrap64 (x1_1 - ((rdOf ByteArray.empty l0 x5_1).size : Int))) < 0) = false := decide_eq_false c6
              clear c6
              have H' := Aside0.mk H
              clear H
              have p101 : 0 ≤ (x5_1 : Int) := of_decide_eq_true (by first | (with_reducible assumption) | assumption)
              have q101 : x5_1 < (l0.length : Int) := of_decide_eq_true (by first | (with_reducible assumption) | assumption)
              obtain ⟨ad101, e101, hx101_0⟩ := Kd.at_string HR0.out x5_1 p101 q101
              cases e101
              replace p101 := eq_true p101
              replace q101 := eq_true q101
              go_wp2
              go_roundg k1
              case measure => have := HK1.out; omega
              case rel => exact ⟨(wrap64 (x1_1 - ((rdOf ByteArray.empty l0 x5_1).size : Int))), (wrap64 (x5_1 + 1)), (by first | rfl | (simp; done) | (simp [*]; done)), (by first | rfl | (simp; done) | (simp [*]; done)), H', ⟨by have := HK1.out; omega⟩, by repeat (first | exact Drawn0.refl _ | apply Drawn0.step)⟩
          · rw [if_neg c5] at H
            exact absurd H (by simp)
        · rw [if_neg c4] at H
          have c4b0 : decide (x5_1 < (l0.length : Int)) = false := decide_eq_false c4
          clear c4
          obtain rfl := Option.some.inj H
          go_wp2
          go_ret
          exact ⟨by first | rfl | (simp; done) | (simp [*]; done), by repeat (first | exact Drawn0.refl _ | apply Drawn0.step)⟩

end Go.Proofs.YtgcgkcchoghkaaaDoor.G

/- G25 -/
-- Laid by wip/g/gprint.py out of the translation, by the kit's print program. Lean checks it.
namespace Go.Proofs.YtgcgkcchoghkaaaDoor.G
open Go.RowKit Go.Proofs.YtgcgkcchoghkaaaDoorW.PrintWords Go.Proofs.YtgcgkcchoghkaaaDoorW.PrintLast Go.Proofs.YtgcgkcchoghkaaaDoorW.PrintMore
attribute [local go_sem] max2_int min2_int max_two min_two max_three min_three max_four min_four   -- for this text's walks alone
set_option linter.unusedVariables false
set_option linter.unusedSimpArgs false

/-! ### laws_toStringS: function 25 -/
def laws_toStringS.l0 : Nat → List ByteArray → List ByteArray → Int → Option (List ByteArray)
  | 0, _, _, _ => none
  | k + 1, x0, x3, x4 => if x4 < (x0.length : Int) then (if 0 ≤ x4 then (if x4 < (x3.length : Int) then (laws_toStringS.l0 k x0 (x3.set (x4 : Int).toNat (rdOf ByteArray.empty x0 x4)) (wrap64 (x4 + 1))) else (none)) else (none)) else (some x3)
def laws_toStringS.f (k : Nat) (l0 : List ByteArray) : Option (List ByteArray) := if 0 ≤ (l0.length : Int) then (if ((l0.length : Int) : Int).toNat ≤ 17592186044416 then (laws_toStringS.l0 k l0 (List.replicate ((l0.length : Int) : Int).toNat (⟨#[]⟩ : ByteArray)) 0) else (none)) else (none)
set_option maxHeartbeats 8000000 in
set_option maxRecDepth 100000 in
theorem laws_toStringS.calls (k : Nat) (A0 : Option Addr) (c0 : Nat) (l0 : List ByteArray) (r : List ByteArray) (w : World) (hr0 : Kd.C Kd.string w A0 l0.length l0) (hc0 : l0.length ≤ c0) (h : laws_toStringS.f k l0 = some r) :
    Calls Tryd.prog 25 #[.slice A0 l0.length c0] w fun e w' => ∃ v0_ : Value, e = .returned (v0_) ∧ Kd.R Kd.string 9 w' w.heap.size (fun _ => True) v0_ r ∧ Below w.heap.size w w' := by
  have HR0 := Aside0.mk hr0
  have HC0 := Aside0.mk hc0
  clear hr0 hc0
  have HB := Aside0.mk (Below.refl w.heap.size w)
  have H : (if 0 ≤ (l0.length : Int) then (if ((l0.length : Int) : Int).toNat ≤ 17592186044416 then (laws_toStringS.l0 k l0 (List.replicate ((l0.length : Int) : Int).toNat (⟨#[]⟩ : ByteArray)) 0) else (none)) else (none)) = some r := h
  clear h
  by_cases c2 : 0 ≤ (l0.length : Int)
  · rw [if_pos c2] at H
    have c2b0 := eq_true c2
    have c2b1 : decide (0 ≤ (l0.length : Int)) = true := decide_eq_true c2
    clear c2
    by_cases c3 : ((l0.length : Int) : Int).toNat ≤ 17592186044416
    · rw [if_pos c3] at H
      have c3b0 := eq_true c3
      have c3b1 : decide (((l0.length : Int) : Int).toNat ≤ 17592186044416) = true := decide_eq_true c3
      clear c3
      obtain ⟨y197, hy197⟩ : ∃ y_ : List ByteArray, y_ = (List.replicate ((l0.length : Int) : Int).toNat (⟨#[]⟩ : ByteArray)) := ⟨_, rfl⟩
      replace H : (laws_toStringS.l0 k l0 y197 0) = some r := by first | (rw [hy197]; with_reducible exact H) | (have H2_ := (Option.bind_some _ _).symm.trans H; rw [hy197]; with_reducible exact H2_) | (have H2_ := (Option.bind_some _ _).symm.trans H; with_reducible exact H2_) | with_reducible exact H | (rw [hy197]; exact H) | exact H
      have Ny197 := Aside0.mk hy197
      clear hy197
      have H' := Aside0.mk H
      clear H
      go_enter Tryd.func25, Tryd.ntmps25
      go_wp2_with (first | ((with_reducible refine gate_dst (N := 7) rfl ?_); refine Kd.R_make Kd.string _ 9 rfl (N := 7) rfl 30 _ _ rfl (l0.length : Int) rfl rfl Tryd.underlying30 (.string ⟨#[]⟩) 16 info9 rfl (by decide) (by omega) (⟨#[]⟩ : ByteArray) (ok := fun _ => True) (okp := fun _ => True) rfl (fun _ hk => hk) trivial (of_decide_eq_true (by first | (with_reducible assumption) | assumption)) (Nat.le_trans (Nat.mul_le_mul_right _ (of_decide_eq_true (by first | (with_reducible assumption) | assumption) : (l0.length : Int).toNat ≤ 17592186044416)) (by omega)) (Below.refl _ _) (Nat.le_refl _) ?_; intro v198 w4 ho5 hb hg_ hnew_; clear hg_ hnew_; (first | rw [← Ny197.out] at ho5 | (simp only [Int.reduceToNat] at ho5; rw [← Ny197.out] at ho5)); have n0_ := Aside0.mk (Kd.R_lower ho5 (below_size (by repeat (first | (with_reducible first | exact HB.out | apply below_alloc | apply pw_below_drewN | apply below_drew1) | exact HB.out)))); have n1_ := Aside0.mk (below_step (by repeat (first | (with_reducible first | exact HB.out | apply below_alloc | apply pw_below_drewN | apply below_drew1) | exact HB.out)) hb); clear HB; have HO199 := n0_; have HB := n1_; clear n0_ n1_; clear hb ho5))
      go_loopg [4] k (fun kq v4 w' => ∃ (x3_1 : List ByteArray) (x4_1 : Int), v4 = .int .i64 x4_1 ∧ Aside0 (laws_toStringS.l0 kq l0 x3_1 x4_1 = some r) ∧ Aside0 (kq ≤ k) ∧ Aside0 (Kd.R Kd.string 9 w' w.heap.size (fun _ => True) v198 x3_1) ∧ Aside0 (Below w.heap.size w w'))
      case atStart => exact ⟨(y197), (0), (by first | rfl | (simp; done) | (simp [*]; done)), H', ⟨Nat.le_refl _⟩, ⟨by (with_reducible repeat (first | apply Kd.R_alloc | apply Kd.R_drewN | apply Kd.R_drew)); exact HO199.out⟩, ⟨by repeat (first | (with_reducible first | exact HB.out | apply below_alloc | apply pw_below_drewN | apply below_drew1) | exact HB.out)⟩⟩
      case round =>
        clear H'
        try clear c2
        try clear c2b0
        try clear c2b1
        try clear p2
        try clear c3
        try clear c3b0
        try clear c3b1
        obtain ⟨x3_1, x4_1, rfl, HA, HK1, HO_3, HB⟩ := hrel
        cases gk with
        | zero => exact absurd HA.out (by simp [laws_toStringS.l0])
        | succ k1 =>
          have H := HA.out
          clear HA
          simp only [laws_toStringS.l0] at H
          by_cases c6 : x4_1 < (l0.length : Int)
          · rw [if_pos c6] at H
            have c6b0 : decide (x4_1 < (l0.length : Int)) = true := decide_eq_true c6
            clear c6
            by_cases c7 : 0 ≤ x4_1
            · rw [if_pos c7] at H
              have c7b0 : decide (0 ≤ x4_1) = true := decide_eq_true c7
              clear c7
              by_cases c8 : x4_1 < (x3_1.length : Int)
              · rw [if_pos c8] at H
                have c8b0 : decide (x4_1 < (x3_1.length : Int)) = true := decide_eq_true c8
                clear c8
                obtain ⟨y201, hy201⟩ : ∃ y_ : List ByteArray, y_ = (x3_1.set (x4_1 : Int).toNat (rdOf ByteArray.empty l0 x4_1)) := ⟨_, rfl⟩
                replace H : (laws_toStringS.l0 k1 l0 y201 (wrap64 (x4_1 + 1))) = some r := by first | (rw [hy201]; with_reducible exact H) | (have H2_ := (Option.bind_some _ _).symm.trans H; rw [hy201]; with_reducible exact H2_) | (have H2_ := (Option.bind_some _ _).symm.trans H; with_reducible exact H2_) | with_reducible exact H | (rw [hy201]; exact H) | exact H
                have Ny201 := Aside0.mk hy201
                clear hy201
                have H' := Aside0.mk H
                clear H
                have p200 : 0 ≤ (x4_1 : Int) := of_decide_eq_true (by first | (with_reducible assumption) | assumption)
                have q200 : x4_1 < (l0.length : Int) := of_decide_eq_true (by first | (with_reducible assumption) | assumption)
                obtain ⟨ad200, e200, hx200_0⟩ := Kd.at_string HR0.out x4_1 p200 q200
                cases e200
                replace hx200_0 := (HB.out.cell (World.block_lt_of_cell? w _ hx200_0)).trans hx200_0
                replace p200 := eq_true p200
                replace q200 := eq_true q200
                have p9 : 0 ≤ (x4_1 : Int) := of_decide_eq_true (by first | (with_reducible assumption) | assumption)
                have q9 : (x4_1 : Int) < ((x3_1.length : Int) : Int) := of_decide_eq_true (by first | (with_reducible assumption) | assumption)
                obtain ⟨go9, co9, eo9, gb9, gl9, cl9, HG9⟩ := Kd.R_form HO_3.out (by omega)
                (first | cases eo9 | (injection eo9 with ea_ en_ ec_; (first | subst ea_ | (injection ea_ with ea_; subst ea_)); subst ec_; clear en_))
                have GB9 := Aside0.mk gb9
                have GG9 := Aside0.mk HG9
                clear gb9 gl9 HG9
                obtain ⟨hx9_0, hf9_0⟩ := Kd.R_celln (⟨#[]⟩ : ByteArray) HO_3.out (x4_1 : Int) p9 q9
                replace p9 := eq_true p9
                replace q9 := eq_true q9
                have HP10 := Kd.R_putg HO_3.out (x4_1 : Int) (rdOf ByteArray.empty l0 x4_1)
                go_wp2_with (first | ((with_reducible refine gate_store (t := 9) (p := 20) rfl ?_); refine store_event (t := 9) (p := 20) (v := ?vo_w11) (w1 := (wr.setCell ⟨go9, (x4_1 : Int).toNat, none⟩ (.string (rdOf ByteArray.empty l0 x4_1)))) ?hg ?ho ?hn ?hr ?_; (case ho => rfl); (case hg => rfl); (case hn => rfl); (case hr => first | (go_simp; done) | (go_simp; rfl)); intro w11 hw; have hg : wr.grownBy w11 (some go9) := (by rw [hw]; exact HP10.2); have hp_ : Kd.R Kd.string 9 w11 w.heap.size (fun _ => True) (.slice (some ⟨go9, 0, none⟩) x3_1.length co9) y201 := (by rw [hw, Ny201.out]; exact HP10.1); clear HP10; have n0_ := Aside0.mk (hp_); have n1_ := Aside0.mk ((by rw [hw]; exact below_set (HB.out) GB9.out : Below w.heap.size w w11)); clear HO_3; clear HB; have HO_3 := n0_; have HB := n1_; clear n0_ n1_; clear hg hw hp_))
                go_roundg k1
                case measure => have := HK1.out; omega
                case rel => exact ⟨(y201), (wrap64 (x4_1 + 1)), (by first | rfl | (simp; done) | (simp [*]; done)), H', ⟨by have := HK1.out; omega⟩, ⟨by (with_reducible repeat (first | apply Kd.R_alloc | apply Kd.R_drewN | apply Kd.R_drew)); exact HO_3.out⟩, ⟨by repeat (first | (with_reducible first | exact HB.out | apply below_alloc | apply pw_below_drewN | apply below_drew1) | exact HB.out)⟩⟩
              · rw [if_neg c8] at H
                exact absurd H (by simp)
            · rw [if_neg c7] at H
              exact absurd H (by simp)
          · rw [if_neg c6] at H
            have c6b0 : decide (x4_1 < (l0.length : Int)) = false := decide_eq_false c6
            clear c6
            obtain rfl := Option.some.inj H
            go_wp2
            go_ret
            exact ⟨_, by first | rfl | (simp [errW_none, errW_some] <;> rfl) | (simp [*, errW_none, errW_some] <;> rfl), by (with_reducible repeat (first | apply Kd.R_alloc | apply Kd.R_drewN | apply Kd.R_drew)); exact HO_3.out, by repeat (first | (with_reducible first | exact HB.out | apply below_alloc | apply pw_below_drewN | apply below_drew1) | exact HB.out)⟩
    · rw [if_neg c3] at H
      exact absurd H (by simp)
  · rw [if_neg c2] at H
    exact absurd H (by simp)

end Go.Proofs.YtgcgkcchoghkaaaDoor.G

/- G35 -/
-- Laid by wip/g/gprint.py out of the translation, by the kit's print program. Lean checks it.
namespace Go.Proofs.YtgcgkcchoghkaaaDoor.G
open Go.RowKit Go.Proofs.YtgcgkcchoghkaaaDoorW.PrintWords Go.Proofs.YtgcgkcchoghkaaaDoorW.PrintLast Go.Proofs.YtgcgkcchoghkaaaDoorW.PrintMore
attribute [local go_sem] max2_int min2_int max_two min_two max_three min_three max_four min_four   -- for this text's walks alone
set_option linter.unusedVariables false
set_option linter.unusedSimpArgs false

/-! ### laws_eqStringS: function 35 -/
def laws_eqStringS.l0 : Nat → List ByteArray → List ByteArray → Int → Option (Bool)
  | 0, _, _, _ => none
  | k + 1, x0, x1, x5 => if x5 < (x0.length : Int) then (if 0 ≤ x5 then (if x5 < (x1.length : Int) then (if (rdOf ByteArray.empty x0 x5).toList = (rdOf ByteArray.empty x1 x5).toList then (laws_eqStringS.l0 k x0 x1 (wrap64 (x5 + 1))) else (some false)) else (none)) else (none)) else (some true)
def laws_eqStringS.f (k : Nat) (l0 : List ByteArray) (l1 : List ByteArray) : Option (Bool) := if (l0.length : Int) = (l1.length : Int) then (laws_eqStringS.l0 k l0 l1 0) else (some false)
set_option maxHeartbeats 8000000 in
set_option maxRecDepth 100000 in
theorem laws_eqStringS.calls (k : Nat) (A0 : Option Addr) (c0 : Nat) (l0 : List ByteArray) (A1 : Option Addr) (c1 : Nat) (l1 : List ByteArray) (r : Bool) (w : World) (hr0 : Kd.C Kd.string w A0 l0.length l0) (hc0 : l0.length ≤ c0) (hr1 : Kd.C Kd.string w A1 l1.length l1) (hc1 : l1.length ≤ c1) (h : laws_eqStringS.f k l0 l1 = some r) :
    Calls Tryd.prog 35 #[.slice A0 l0.length c0, .slice A1 l1.length c1] w fun e w' => e = .returned (.bool r) ∧ Drawn0 w w' := by
  have HR0 := Aside0.mk hr0
  have HC0 := Aside0.mk hc0
  clear hr0 hc0
  have HR1 := Aside0.mk hr1
  have HC1 := Aside0.mk hc1
  clear hr1 hc1
  have H : (if (l0.length : Int) = (l1.length : Int) then (laws_eqStringS.l0 k l0 l1 0) else (some false)) = some r := h
  clear h
  by_cases c3 : (l0.length : Int) = (l1.length : Int)
  · rw [if_pos c3] at H
    have c3b0 : ((l0.length : Int) == (l1.length : Int)) = true := beq_iff_eq.mpr c3
    have c3b1 : ((l0.length : Int) != (l1.length : Int)) = false := bne_eq_false_iff_eq.mpr c3
    have c3b2 : (l0.length == l1.length) = true := by first | simpa using c3 | (simp at c3 ⊢; omega)
    clear c3
    have H' := Aside0.mk H
    clear H
    go_enter Tryd.func35, Tryd.ntmps35
    go_wp2
    repeat (go_quiet (fail); try go_wp2)
    go_loopg [5] k (fun kq v5 w' => ∃ (x5_1 : Int), v5 = .int .i64 x5_1 ∧ Aside0 (laws_eqStringS.l0 kq l0 l1 x5_1 = some r) ∧ Aside0 (kq ≤ k) ∧ Drawn0 w w')
    case atStart => exact ⟨(0), (by first | rfl | (simp; done) | (simp [*]; done)), H', ⟨Nat.le_refl _⟩, by repeat (first | exact Drawn0.refl _ | apply Drawn0.step)⟩
    case round =>
      clear H'
      try clear c1
      try clear p2
      try clear c3
      try clear c3b0
      try clear c3b1
      try clear c3b2
      obtain ⟨x5_1, rfl, HA, HK1, ⟨m1, rfl⟩⟩ := hrel
      cases gk with
      | zero => exact absurd HA.out (by simp [laws_eqStringS.l0])
      | succ k1 =>
        have H := HA.out
        clear HA
        simp only [laws_eqStringS.l0] at H
        by_cases c4 : x5_1 < (l0.length : Int)
        · rw [if_pos c4] at H
          have c4b0 : decide (x5_1 < (l0.length : Int)) = true := decide_eq_true c4
          clear c4
          by_cases c5 : 0 ≤ x5_1
          · rw [if_pos c5] at H
            have c5b0 : decide (0 ≤ x5_1) = true := decide_eq_true c5
            clear c5
            by_cases c6 : x5_1 < (l1.length : Int)
            · rw [if_pos c6] at H
              have c6b0 : decide (x5_1 < (l1.length : Int)) = true := decide_eq_true c6
              clear c6
              by_cases c7 : (rdOf ByteArray.empty l0 x5_1).toList = (rdOf ByteArray.empty l1 x5_1).toList
              · rw [if_pos c7] at H
                have c7b0 : ((rdOf ByteArray.empty l0 x5_1).toList == (rdOf ByteArray.empty l1 x5_1).toList) = true := beq_iff_eq.mpr c7
                have c7b1 : ((rdOf ByteArray.empty l0 x5_1).toList != (rdOf ByteArray.empty l1 x5_1).toList) = false := bne_eq_false_iff_eq.mpr c7
                clear c7
                have H' := Aside0.mk H
                clear H
                have p322 : 0 ≤ (x5_1 : Int) := of_decide_eq_true (by first | (with_reducible assumption) | assumption)
                have q322 : x5_1 < (l0.length : Int) := of_decide_eq_true (by first | (with_reducible assumption) | assumption)
                obtain ⟨ad322, e322, hx322_0⟩ := Kd.at_string HR0.out x5_1 p322 q322
                cases e322
                replace p322 := eq_true p322
                replace q322 := eq_true q322
                have p323 : 0 ≤ (x5_1 : Int) := of_decide_eq_true (by first | (with_reducible assumption) | assumption)
                have q323 : x5_1 < (l1.length : Int) := of_decide_eq_true (by first | (with_reducible assumption) | assumption)
                obtain ⟨ad323, e323, hx323_0⟩ := Kd.at_string HR1.out x5_1 p323 q323
                cases e323
                replace p323 := eq_true p323
                replace q323 := eq_true q323
                go_wp2
                repeat (go_quiet (fail); try go_wp2)
                go_roundg k1
                case measure => have := HK1.out; omega
                case rel => exact ⟨(wrap64 (x5_1 + 1)), (by first | rfl | (simp; done) | (simp [*]; done)), H', ⟨by have := HK1.out; omega⟩, by repeat (first | exact Drawn0.refl _ | apply Drawn0.step)⟩
              · rw [if_neg c7] at H
                have c7b0 : ((rdOf ByteArray.empty l0 x5_1).toList == (rdOf ByteArray.empty l1 x5_1).toList) = false := beq_eq_false_iff_ne.mpr c7
                have c7b1 : ((rdOf ByteArray.empty l0 x5_1).toList != (rdOf ByteArray.empty l1 x5_1).toList) = true := bne_iff_ne.mpr c7
                obtain rfl := Option.some.inj H
                have p322 : 0 ≤ (x5_1 : Int) := of_decide_eq_true (by first | (with_reducible assumption) | assumption)
                have q322 : x5_1 < (l0.length : Int) := of_decide_eq_true (by first | (with_reducible assumption) | assumption)
                obtain ⟨ad322, e322, hx322_0⟩ := Kd.at_string HR0.out x5_1 p322 q322
                cases e322
                replace p322 := eq_true p322
                replace q322 := eq_true q322
                have p323 : 0 ≤ (x5_1 : Int) := of_decide_eq_true (by first | (with_reducible assumption) | assumption)
                have q323 : x5_1 < (l1.length : Int) := of_decide_eq_true (by first | (with_reducible assumption) | assumption)
                obtain ⟨ad323, e323, hx323_0⟩ := Kd.at_string HR1.out x5_1 p323 q323
                cases e323
                replace p323 := eq_true p323
                replace q323 := eq_true q323
                go_wp2
                repeat (go_quiet (fail); try go_wp2)
                go_ret
                exact ⟨by first | rfl | (simp; done) | (simp [*]; done), by repeat (first | exact Drawn0.refl _ | apply Drawn0.step)⟩
            · rw [if_neg c6] at H
              exact absurd H (by simp)
          · rw [if_neg c5] at H
            exact absurd H (by simp)
        · rw [if_neg c4] at H
          have c4b0 : decide (x5_1 < (l0.length : Int)) = false := decide_eq_false c4
          clear c4
          obtain rfl := Option.some.inj H
          go_wp2
          repeat (go_quiet (fail); try go_wp2)
          go_ret
          exact ⟨by first | rfl | (simp; done) | (simp [*]; done), by repeat (first | exact Drawn0.refl _ | apply Drawn0.step)⟩
  · rw [if_neg c3] at H
    have c3b0 : ((l0.length : Int) == (l1.length : Int)) = false := beq_eq_false_iff_ne.mpr c3
    have c3b1 : ((l0.length : Int) != (l1.length : Int)) = true := bne_iff_ne.mpr c3
    have c3b2 : (l0.length == l1.length) = false := by first | simpa using c3 | (simp at c3 ⊢; omega)
    obtain rfl := Option.some.inj H
    go_enter Tryd.func35, Tryd.ntmps35
    go_wp2
    repeat (go_quiet (fail); try go_wp2)
    go_ret
    exact ⟨by first | rfl | (simp; done) | (simp [*]; done), by repeat (first | exact Drawn0.refl _ | apply Drawn0.step)⟩

end Go.Proofs.YtgcgkcchoghkaaaDoor.G

/- PStrs -/
/-
  Lists of strings: sizes, copies, equality.
-/
namespace Go.Proofs.YtgcgkcchoghkaaaDoor.G
open Go.RowKit Go.Proofs.YtgcgkcchoghkaaaDoorW.PrintWords Go.Proofs.YtgcgkcchoghkaaaDoorW.PrintLast Go.Proofs.YtgcgkcchoghkaaaDoorW.PrintMore
set_option linter.unusedVariables false
set_option linter.unusedSimpArgs false
/-! ### lists of strings -/
def totStrs (xs : List ByteArray) : Nat := xs.length + (xs.map ByteArray.size).sum
theorem szStringS_l0 (xs : List ByteArray) (hw : wfStrs xs) : ∀ (d i : Nat) (left : Int), i + d = xs.length → 0 ≤ left → left ≤ 1048576 → Ev (fun k => laws_szStringS.l0 k xs left i) (szR left ((xs.drop i).map ByteArray.size).sum)
  | 0, i, left, hd, h0, h1 => by
    refine Ev.step (f := fun _ => some left) (fun k => by rw [laws_szStringS.l0, if_neg (by omega)]) (ev_some ?_)
    rw [List.drop_of_length_le (by omega)]; exact (szR_zero h0).symm
  | d + 1, i, left, hd, h0, h1 => by
    have hi : i < xs.length := by omega
    have hs := hw.2 _ (List.getElem_mem hi)
    have e : ((xs.drop i).map ByteArray.size).sum = xs[i].size + ((xs.drop (i + 1)).map ByteArray.size).sum := by rw [List.drop_eq_getElem_cons hi, List.map_cons, List.sum_cons]
    rw [e, szR_add h0]
    refine Ev.step (fun k => by rw [laws_szStringS.l0]) ?_
    simp only [wsucc hi hw.1, rdS hi, w64 (by omega : -9223372036854775808 ≤ left - (xs[i].size : Int)) (by omega)]
    refine ev_if_pos (by omega) (ev_if_pos (by omega) ?_)
    by_cases c : left - (xs[i].size : Int) < 0
    · rw [szR_neg (by omega)]; exact ev_if_pos c (Ev.now _)
    · rw [szR_pos (by omega), if_neg c]; exact ev_if_neg c (szStringS_l0 xs hw d (i + 1) (left - (xs[i].size : Int)) (by omega) (by omega) (by omega))
theorem szStringS_ev (xs : List ByteArray) (left : Int) (hw : wfStrs xs) (h0 : 0 ≤ left) (h1 : left ≤ 1048576) : Ev (fun k => laws_szStringS.f k xs left) (szR left (totStrs xs)) := by
  have hl := hw.1
  unfold laws_szStringS.f totStrs
  rw [w64 (by omega) (by omega), szR_add h0]
  by_cases c : left - (xs.length : Int) < 0
  · rw [if_pos (by rw [szR_neg (by omega)]; omega)]; exact ev_if_pos c (Ev.now _)
  · rw [szR_pos (by omega), if_neg c]
    refine ev_if_neg c ?_
    have := szStringS_l0 xs hw xs.length 0 (left - (xs.length : Int)) (by omega) (by omega) (by omega)
    rw [List.drop_zero] at this
    exact this
theorem toStringS_l0 (xs : List ByteArray) (hl : xs.length ≤ 9223372036854775807) : ∀ (d i : Nat) (ys : List ByteArray), i + d = xs.length → ys.length = xs.length → Ev (fun k => laws_toStringS.l0 k xs ys i) (ys.take i ++ xs.drop i)
  | 0, i, ys, hd, hy => by
    refine Ev.step (f := fun _ => some ys) (fun k => by rw [laws_toStringS.l0, if_neg (by omega)]) (ev_some ?_)
    rw [List.take_of_length_le (by omega), List.drop_of_length_le (by omega)]; simp
  | d + 1, i, ys, hd, hy => by
    have hi : i < xs.length := by omega
    refine ev_rw (Ev.step (f := fun k => laws_toStringS.l0 k xs (ys.set i xs[i]) ((i + 1 : Nat) : Int)) (fun k => ?_) (toStringS_l0 xs hl d (i + 1) (ys.set i xs[i]) (by omega) (by simpa using hy))) ?_
    · rw [laws_toStringS.l0, if_pos (by omega), if_pos (by omega), rdS hi, if_pos (by omega), wsucc hi hl, Int.toNat_natCast]
    · rw [take_set_succ _ _ (by omega), List.drop_eq_getElem_cons hi, List.append_assoc]; rfl
theorem toStringS_ev (xs : List ByteArray) (hl : xs.length ≤ 1048576) : Ev (fun k => laws_toStringS.f k xs) xs := by
  unfold laws_toStringS.f
  refine ev_if_pos (by omega) (ev_if_pos (by simp; omega) ?_)
  have := toStringS_l0 xs (by omega) xs.length 0 (List.replicate ((xs.length : Int) : Int).toNat (⟨#[]⟩ : ByteArray)) (by omega) (by simp)
  simpa using this
theorem eqStringS_ev (xs : List ByteArray) (hl : xs.length ≤ 9223372036854775807) : Ev (fun k => laws_eqStringS.f k xs xs) true := by
  unfold laws_eqStringS.f
  refine ev_if_pos rfl ?_
  have := loop_all (g := fun k i => laws_eqStringS.l0 k xs xs i) xs.length (fun _ => true) true (fun i hi _ r hr => ?_) (fun i hi h => by cases h) (Ev.step (fun k => by rw [laws_eqStringS.l0]) (ev_if_neg (by omega) (Ev.now _)))
  · rw [allN_true.2 (fun _ _ => rfl)] at this; exact this
  · refine Ev.step (fun k => by rw [laws_eqStringS.l0]) ?_
    simp only [wsucc hi hl]
    exact ev_if_pos (by omega) (ev_if_pos (by omega) (ev_if_pos (by omega) (ev_if_pos (by first | trivial | rfl) hr)))

end Go.Proofs.YtgcgkcchoghkaaaDoor.G

/- GKOpen -/
/-
  An argument that can be read as data (the form's own reading) is of a kind 'Kd'; and what is known of it besides ('Wf').
-/
namespace Go.Proofs.YtgcgkcchoghkaaaDoor.G
open Go.RowKit Go.Proofs.YtgcgkcchoghkaaaDoorW.PrintWords Go.Proofs.YtgcgkcchoghkaaaDoorW.PrintLast Go.Proofs.YtgcgkcchoghkaaaDoorW.PrintMore
set_option linter.unusedVariables false
section
variable {H : Type} {enc : TypeId × Value → H} {P : Program} {w : World} {base : Nat} {spare : Nat → Bool} {held : Bool}
def KOpens {α : Type} (enc : TypeId × Value → H) (P : Program) (w : World) (base : Nat) (spare : Nat → Bool) (held : Bool) (n : Nat) (t : TypeId) (k : Kd α) (Wf : α → Prop) : Prop :=
  ∀ cs x, DataW.trod enc P w base spare held n t cs = some x → ∃ a, Wf a ∧ k.K w a cs
def wfInt (i : Int) : Prop := -9223372036854775808 ≤ i ∧ i ≤ 9223372036854775807
def wfStr (s : ByteArray) : Prop := s.size ≤ 9223372036854775807
theorem kopens_int {n : Nat} {t : TypeId} (ht : P.underlying t = some (.int .i64)) : KOpens enc P w base spare held n t (Kd.int .i64) wfInt := by
  intro cs x h
  obtain ⟨i, rfl, _, hw⟩ := DataW.trod_int ht h
  have m1 : IntKind.i64.min = -9223372036854775808 := by decide
  have m2 : IntKind.i64.max = 9223372036854775807 := by decide
  simp only [Lit.wf, Bool.and_eq_true, decide_eq_true_eq, m1, m2] at hw
  exact ⟨i, hw, rfl⟩
theorem kopens_str {n : Nat} {t : TypeId} (ht : P.underlying t = some .string) : KOpens enc P w base spare held n t Kd.string wfStr := by
  intro cs x h
  obtain ⟨i, rfl, _, hw⟩ := DataW.trod_string ht h
  unfold maxLen at hw
  exact ⟨i, hw, rfl⟩
theorem list_pick {α : Type} {P : Nat → α → Prop} : ∀ (n : Nat), (∀ i, i < n → ∃ a, P i a) → ∃ xs : List α, xs.length = n ∧ ∀ i (h : i < xs.length), P i xs[i]
  | 0, _ => ⟨[], rfl, by simp⟩
  | n + 1, h => by
    obtain ⟨xs, hl, hx⟩ := list_pick (P := P) n (fun i hi => h i (by omega))
    obtain ⟨a, ha⟩ := h n (by omega)
    refine ⟨xs ++ [a], by simp [hl], fun i hi => ?_⟩
    by_cases hin : i < xs.length
    · rw [List.getElem_append_left hin]; exact hx i hin
    · have : i = n := by simp at hi; omega
      subst this
      rw [List.getElem_append_right (by omega)]
      simpa using ha
theorem kopens_slice {α : Type} {n : Nat} {t e : TypeId} {k : Kd α} {Wf : α → Prop} (ht : P.underlying t = some (.slice e)) (hsz : P.cellsOf e = k.sz) (hpos : 0 < k.sz) (hby : ∀ xs : List α, True → True)
    (ho : ∀ m, m < n → KOpens enc P w base spare held m e k Wf) : KOpens enc P w base spare held n t (Kd.slice e k) (fun xs => xs.length ≤ 9223372036854775807 ∧ ∀ x ∈ xs, Wf x) := by
  intro cs x h
  rcases DataW.trod_slice ht h with ⟨rfl, _⟩ | ⟨a, len, cap, elems, rest, m, hn, rfl, _, hb, hl, hm, hlen, hel, _, _⟩
  · exact ⟨[], ⟨by simp, by simp⟩, none, 0, rfl, by simp, rfl, by simp, fun h => absurd h (by simp)⟩
  · unfold maxLen at hm
    have get : ∀ i, i < len → ∃ p : α, Wf p ∧ ∃ cs', w.cells? base (a.add (i * k.sz)) k.sz = some cs' ∧ k.K w p cs' := by
      intro i hi
      have h1 := hel i hi
      rw [hsz, List.getElem?_eq_getElem (by omega), Option.bind_eq_some_iff] at h1
      obtain ⟨cs', h1, h2⟩ := h1
      obtain ⟨p, hp, hK⟩ := ho m (by omega) _ _ h2
      exact ⟨p, hp, cs', h1, hK⟩
    obtain ⟨xs, hxl, hxs⟩ := list_pick len get
    refine ⟨xs, ⟨by omega, fun p hp => ?_⟩, some a, cap, by rw [hxl], by omega, rfl, by omega, fun _ => ⟨a, rfl, fun j p hj => ?_⟩⟩
    · obtain ⟨i, hi, rfl⟩ := List.getElem_of_mem hp
      exact (hxs i hi).1
    · obtain ⟨hjl, rfl⟩ := List.getElem?_eq_some_iff.1 hj
      obtain ⟨_, cs', hc, hK⟩ := hxs j hjl
      obtain ⟨_, hl', hat'⟩ := World.cells?_some hc
      refine ⟨cs', k.K_len hK, hK, fun i u hu => ?_⟩
      have hi := (List.getElem?_eq_some_iff.1 hu).1
      have h3 := hat' i (by rw [k.K_len hK] at hi; exact hi)
      rw [hu] at h3
      have ha : (a.add (j * k.sz)).add i = a.add (j * k.sz + i) := by
        unfold Addr.add
        by_cases h1 : j * k.sz = 0 <;> by_cases h2 : i = 0 <;> simp [h1, h2, Nat.add_assoc]
      rw [ha] at h3
      exact h3
/-- Fields, one behind the other from offset o on. -/
def KFields {α : Type} (enc : TypeId × Value → H) (P : Program) (w : World) (base : Nat) (spare : Nat → Bool) (held : Bool) (n : Nat) (fs : List (TypeId × Nat)) (o : Nat) (k : Kd α) (Wf : α → Prop) : Prop :=
  ∀ cs : List Value, cs.length = o + k.sz → (∀ f, f ∈ fs → ∃ x, DataW.trod enc P w base spare held n f.1 ((cs.drop f.2).take (P.cellsOf f.1)) = some x) → ∃ a, Wf a ∧ k.K w a (cs.drop o)
theorem kfields_one {α : Type} {n : Nat} {t : TypeId} {o : Nat} {k : Kd α} {Wf : α → Prop} (hsz : P.cellsOf t = k.sz) (h : KOpens enc P w base spare held n t k Wf) : KFields enc P w base spare held n [(t, o)] o k Wf := by
  intro cs hl hx
  obtain ⟨x, hx⟩ := hx (t, o) (by simp)
  simp only [hsz] at hx
  rw [List.take_of_length_le (by rw [List.length_drop]; omega)] at hx
  exact h _ _ hx
theorem kfields_cons {α β : Type} {n : Nat} {t : TypeId} {o o' : Nat} {fs : List (TypeId × Nat)} {k : Kd α} {k' : Kd β} {Wf : α → Prop} {Wf' : β → Prop} (hsz : P.cellsOf t = k.sz) (ho : o' = o + k.sz) (h : KOpens enc P w base spare held n t k Wf) (hs : KFields enc P w base spare held n fs o' k' Wf') :
    KFields enc P w base spare held n ((t, o) :: fs) o (Kd.pair k k') (fun p => Wf p.1 ∧ Wf' p.2) := by
  intro cs hl hx
  subst ho
  obtain ⟨x, h0⟩ := hx (t, o) (by simp)
  simp only [hsz] at h0
  obtain ⟨a, ha, hK⟩ := h _ _ h0
  have hl' : cs.length = o + (k.sz + k'.sz) := hl
  obtain ⟨b, hb, hK'⟩ := hs cs (by omega) (fun f hf => hx f (by simp [hf]))
  refine ⟨(a, b), ⟨ha, hb⟩, _, _, ?_, hK, hK'⟩
  rw [← List.drop_drop, List.take_append_drop]
theorem kopens_struct {α β : Type} {n : Nat} {t : TypeId} {fs : Array Field} {k : Kd α} {f : β → α} {g : α → β} {Wf : α → Prop} (hfg : ∀ a, f (g a) = a) (ht : P.underlying t = some (.struct fs)) (hc : P.cellsOf t = k.sz)
    (hs : ∀ m, m + 1 = n → KFields enc P w base spare held m (fs.toList.map fun f => (f.type, f.offset)) 0 k Wf) : KOpens enc P w base spare held n t (Kd.iso k f) (fun b => Wf (f b)) := by
  intro cs x h
  obtain ⟨xs, m, hn, _, hcl, hxl, hg⟩ := DataW.trod_struct ht h
  obtain ⟨a, ha, hK⟩ := hs m hn.symm cs (by rw [hcl, hc]; omega) (fun q hq => by
    obtain ⟨fl, hfl, rfl⟩ := List.mem_map.1 hq
    obtain ⟨i, hi, rfl⟩ := List.getElem_of_mem hfl
    have hi' : i < fs.size := by simpa using hi
    have := hg i fs[i] (by simp [hi'])
    refine ⟨xs[i]'(by rw [hxl]; exact hi'), ?_⟩
    rw [Array.getElem_toList, this]
    exact List.getElem?_eq_getElem (by rw [hxl]; exact hi'))
  rw [List.drop_zero] at hK
  refine ⟨g a, ?_, ?_⟩
  · show Wf (f (g a)); rw [hfg]; exact ha
  · show k.K w (f (g a)) cs; rw [hfg]; exact hK
end
end Go.Proofs.YtgcgkcchoghkaaaDoor.G

/- GKArgs -/
/-
  The arguments of the laws, opened: at this dump's type numbers.
-/
namespace Go.Proofs.YtgcgkcchoghkaaaDoor.G
open Go.RowKit Go.Proofs.YtgcgkcchoghkaaaDoorW.PrintWords Go.Proofs.YtgcgkcchoghkaaaDoorW.PrintLast Go.Proofs.YtgcgkcchoghkaaaDoorW.PrintMore
set_option linter.unusedVariables false
section
variable {H : Type} {enc : TypeId × Value → H} {w : World} {base : Nat} {spare : Nat → Bool} {held : Bool} {v : Value} {d : DataW H} {p : List MemPlace} {r : Reach} {b0 : Nat}
set_option maxRecDepth 20000 in
/-- A slice of such elements. -/
theorem kopen_of {α : Type} {t e : TypeId} {k : Kd α} {Wf : α → Prop} (ht : Tryd.prog.underlying t = some (.slice e)) (hsz : Tryd.prog.cellsOf e = k.sz) (hpos : 0 < k.sz) (ho : ∀ m, KOpens enc Tryd.prog w base spare held m e k Wf)
    (hv : Value.okWide Tryd.prog w r b0 t v) (h : DataW.Trod enc Tryd.prog w base spare held t v d p) :
    ∃ (xs : List α) (A : Option Addr) (c : Nat), v = .slice A xs.length c ∧ (xs.length ≤ 9223372036854775807 ∧ ∀ x ∈ xs, Wf x) ∧ xs.length ≤ c ∧ Kd.C k w A xs.length xs := by
  obtain ⟨A, n, c, rfl⟩ := Go.WideShapes.okWide_slice ht hv
  obtain ⟨fuel, h⟩ := h
  obtain ⟨xs, hw, A', c', he, hl, hC⟩ := kopens_slice ht hsz hpos (fun _ _ => trivial) (fun m _ => ho m) _ _ h
  have he' : [Value.slice A n c] = [Value.slice A' xs.length c'] := he
  simp only [List.cons.injEq, and_true] at he'
  exact ⟨xs, A', c', he', hw, hl, hC⟩
abbrev VU (n : Nat) : Kd S33 := Kd.upto F33 5 [9, 33] n
def wfValN : Nat → S33 → Prop
  | 0, _ => False
  | n + 1, x => wfInt x.f0 ∧ wfStr x.f1 ∧ wfInt x.f2 ∧ (x.f3.length ≤ 9223372036854775807 ∧ ∀ y ∈ x.f3, wfStr y) ∧ (x.f4.length ≤ 9223372036854775807 ∧ ∀ y ∈ x.f4, wfValN n y)
theorem wfValN_le : ∀ {n m : Nat} {x : S33}, n ≤ m → wfValN n x → wfValN m x
  | 0, _, _, _, h => by rw [wfValN] at h; exact h.elim
  | n + 1, 0, _, hle, _ => by omega
  | n + 1, m + 1, x, hle, h => by
    rw [wfValN] at h ⊢
    exact ⟨h.1, h.2.1, h.2.2.1, h.2.2.2.1, h.2.2.2.2.1, fun y hy => wfValN_le (by omega) (h.2.2.2.2.2 y hy)⟩
def wfVal (x : S33) : Prop := ∃ n, wfValN n x
set_option maxRecDepth 20000 in
theorem kopens_value (n : Nat) : KOpens enc Tryd.prog w base spare held n 33 (VU (n + 1)) (wfValN (n + 1)) := by
  induction n using Nat.strongRecOn with
  | _ n ih =>
  have kid : ∀ m, m + 1 = n → KOpens enc Tryd.prog w base spare held m 31 (Kd.slice 33 (VU n)) (fun xs => xs.length ≤ 9223372036854775807 ∧ ∀ x ∈ xs, wfValN n x) := fun m hm =>
    kopens_slice Tryd.underlying31 (by rw [sz33]; kernel_rfl) (by rw [sz33]; decide) (fun _ _ => trivial) (fun j hj cs x h => by
      obtain ⟨a, ha, hK⟩ := ih j (by omega) cs x h
      exact ⟨a, wfValN_le (by omega) ha, Kd.upto_K_le mono33 sz33 (by omega) hK⟩)
  intro cs x h
  obtain ⟨a, ha, hK⟩ := kopens_struct (n := n) (t := 33) (k := Kd.pair (Kd.int .i64) (Kd.pair Kd.string (Kd.pair (Kd.int .i64) (Kd.pair (Kd.slice 9 Kd.string) (Kd.slice 33 (VU n))))))
    (f := fun x : S33 => (x.f0, x.f1, x.f2, x.f3, x.f4)) (g := fun (p : Int × ByteArray × Int × List ByteArray × List S33) => (⟨p.1, p.2.1, p.2.2.1, p.2.2.2.1, p.2.2.2.2⟩ : S33))
    (Wf := fun (p : Int × ByteArray × Int × List ByteArray × List S33) => wfInt p.1 ∧ wfStr p.2.1 ∧ wfInt p.2.2.1 ∧ (p.2.2.2.1.length ≤ 9223372036854775807 ∧ ∀ y ∈ p.2.2.2.1, wfStr y) ∧ (p.2.2.2.2.length ≤ 9223372036854775807 ∧ ∀ y ∈ p.2.2.2.2, wfValN n y))
    (fun _ => rfl) Tryd.underlying33 (by kernel_rfl)
    (fun m hm => kfields_cons (o' := 1) (by kernel_rfl) rfl (kopens_int Tryd.underlying3) (kfields_cons (o' := 2) (by kernel_rfl) rfl (kopens_str Tryd.underlying9) (kfields_cons (o' := 3) (by kernel_rfl) rfl (kopens_int Tryd.underlying3)
      (kfields_cons (o' := 4) (by kernel_rfl) rfl (kopens_slice Tryd.underlying30 (by kernel_rfl) (by decide) (fun _ _ => trivial) (fun m _ => kopens_str Tryd.underlying9)) (kfields_one (by kernel_rfl) (kid m hm)))))) cs x h
  exact ⟨a, by rw [wfValN]; exact ha, hK⟩
set_option maxRecDepth 20000 in
theorem kopens_valueF (m : Nat) : KOpens enc Tryd.prog w base spare held m 33 k33 wfVal := fun cs x h => by
  obtain ⟨a, ha, hK⟩ := kopens_value m cs x h
  exact ⟨a, ⟨_, ha⟩, ⟨_, hK⟩⟩
def wfOp (x : S35) : Prop := wfInt x.f0 ∧ (x.f1.length ≤ 9223372036854775807 ∧ ∀ y ∈ x.f1, wfStr y) ∧ wfVal x.f2
set_option maxRecDepth 20000 in
theorem kopens_op (m : Nat) : KOpens enc Tryd.prog w base spare held m 35 k35 wfOp :=
  kopens_struct (g := fun (p : Int × List ByteArray × S33) => (⟨p.1, p.2.1, p.2.2⟩ : S35)) (Wf := fun (p : Int × List ByteArray × S33) => wfInt p.1 ∧ (p.2.1.length ≤ 9223372036854775807 ∧ ∀ y ∈ p.2.1, wfStr y) ∧ wfVal p.2.2) (fun _ => rfl) Tryd.underlying35 (by kernel_rfl)
    (fun m _ => kfields_cons (o' := 1) (by kernel_rfl) rfl (kopens_int Tryd.underlying3) (kfields_cons (o' := 2) (by kernel_rfl) rfl (kopens_slice Tryd.underlying30 (by kernel_rfl) (by decide) (fun _ _ => trivial) (fun m _ => kopens_str Tryd.underlying9)) (kfields_one (by kernel_rfl) (kopens_valueF m))))
set_option maxRecDepth 20000 in
theorem kopen_ops (hv : Value.okWide Tryd.prog w r b0 22 v) (h : DataW.Trod enc Tryd.prog w base spare held 22 v d p) :
    ∃ (xs : List S35) (A : Option Addr) (c : Nat), v = .slice A xs.length c ∧ (xs.length ≤ 9223372036854775807 ∧ ∀ x ∈ xs, wfOp x) ∧ xs.length ≤ c ∧ Kd.C k35 w A xs.length xs :=
  kopen_of Tryd.underlying22 (by kernel_rfl) (by decide) kopens_op hv h
end
end Go.Proofs.YtgcgkcchoghkaaaDoor.G

/- G37 -/
-- Laid by wip/g/gprint.py out of the translation, by the kit's print program. Lean checks it.
namespace Go.Proofs.YtgcgkcchoghkaaaDoor.G
open Go.RowKit Go.Proofs.YtgcgkcchoghkaaaDoorW.PrintWords Go.Proofs.YtgcgkcchoghkaaaDoorW.PrintLast Go.Proofs.YtgcgkcchoghkaaaDoorW.PrintMore
attribute [local go_sem] max2_int min2_int max_two min_two max_three min_three max_four min_four   -- for this text's walks alone
set_option linter.unusedVariables false
set_option linter.unusedSimpArgs false

mutual
def laws_szValueS.l0 : Nat → List (S33) → Int → Int → Option (Int)
 | 0, _, _, _ => none
 | k + 1, x0, x1, x5 => if x5 < (x0.length : Int) then (if 0 ≤ x5 then ((laws_szValue.f k ((rd_T33 x0 x5).f0) ((rd_T33 x0 x5).f1) ((rd_T33 x0 x5).f2) ((rd_T33 x0 x5).f3) ((rd_T33 x0 x5).f4) x1).bind fun t103 => (if t103 < 0 then (some (-1)) else (laws_szValueS.l0 k x0 t103 (wrap64 (x5 + 1))))) else (none)) else (some x1)
def laws_szValueS.f : Nat → List (S33) → Int → Option (Int)
 | 0, _, _ => none
 | k + 1, l0, a1 => if (wrap64 (a1 - (l0.length : Int))) < 0 then (some (-1)) else (laws_szValueS.l0 k l0 (wrap64 (a1 - (l0.length : Int))) 0)
def laws_szValue.f : Nat → Int → ByteArray → Int → List ByteArray → List (S33) → Int → Option (Int)
 | 0, _, _, _, _, _, _ => none
 | k + 1, a0_0, a0_1, a0_2, l0_3, l0_4, a1 => if (wrap64 (a1 - (a0_1.size : Int))) < 0 then (some (-1)) else ((laws_szStringS.f k l0_3 (wrap64 (a1 - (a0_1.size : Int)))).bind fun t105 => (if t105 < 0 then (some (-1)) else ((laws_szValueS.f k l0_4 t105).bind fun t106 => (if t106 < 0 then (some (-1)) else (some t106)))))
end
/-! ### laws_szValueS: function 37 -/
set_option maxHeartbeats 8000000 in
set_option maxRecDepth 100000 in
theorem laws_szValueS.calls_ (k : Nat) (ih : ∀ j_ : Nat, j_ < k → ∀ (a0_0 : Int) (a0_1 : ByteArray) (a0_2 : Int) (A0_3 : Option Addr) (c0_3 : Nat) (l0_3 : List ByteArray) (A0_4 : Option Addr) (c0_4 : Nat) (l0_4 : List (S33)) (a1 : Int) (r : Int) (w : World) (hr0_3 : Kd.C Kd.string w A0_3 l0_3.length l0_3) (hc0_3 : l0_3.length ≤ c0_3) (hr0_4 : Kd.C k33 w A0_4 l0_4.length l0_4) (hc0_4 : l0_4.length ≤ c0_4) (h : laws_szValue.f j_ a0_0 a0_1 a0_2 l0_3 l0_4 a1 = some r),
  Calls Tryd.prog 18 #[.agg #[.int .i64 a0_0, .string a0_1, .int .i64 a0_2, .slice A0_3 l0_3.length c0_3, .slice A0_4 l0_4.length c0_4], .int .i64 a1] w fun e w' => e = .returned (.int .i64 r) ∧ Below w.heap.size w w') : ∀ (A0 : Option Addr) (c0 : Nat) (l0 : List (S33)) (a1 : Int) (r : Int) (w : World) (hr0 : Kd.C k33 w A0 l0.length l0) (hc0 : l0.length ≤ c0) (h : laws_szValueS.f k l0 a1 = some r),
  Calls Tryd.prog 37 #[.slice A0 l0.length c0, .int .i64 a1] w fun e w' => e = .returned (.int .i64 r) ∧ Below w.heap.size w w' := by
 intro A0 c0 l0 a1 r w hr0 hc0 h
 cases k with
 | zero => exact absurd h (by simp [laws_szValueS.f])
 | succ k =>
 simp only [laws_szValueS.f] at h
 have hu33 := Tryd.underlying33
 have HR0 := Aside0.mk hr0
 have HC0 := Aside0.mk hc0
 clear hr0 hc0
 have HB := Aside0.mk (Below.refl w.heap.size w)
 have H := h
 clear h
 by_cases c3 : (wrap64 (a1 - (l0.length : Int))) < 0
 ·rw [if_pos c3] at H
  have c3b0 : decide ((wrap64 (a1 - (l0.length : Int))) < 0) = true := decide_eq_true c3
  clear c3
  obtain rfl := Option.some.inj H
  go_enter Tryd.func37, Tryd.ntmps37
  go_wp2
  go_ret
  exact ⟨by first | rfl | (simp [errW_none, errW_some] <;> rfl) | (simp [*, errW_none, errW_some] <;> rfl), by repeat (first | (with_reducible first | exact HB.out | apply below_alloc | apply pw_below_drewN | apply below_drew1) | exact HB.out)⟩
 ·rw [if_neg c3] at H
  have c3b0 : decide ((wrap64 (a1 - (l0.length : Int))) < 0) = false := decide_eq_false c3
  clear c3
  have H' := Aside0.mk H
  clear H
  go_enter Tryd.func37, Tryd.ntmps37
  go_wp2
  go_loopg [1, 5] k (fun kq v1 v5 w' => ∃ (x1_1 : Int) (x5_1 : Int), v1 = .int .i64 x1_1 ∧ v5 = .int .i64 x5_1 ∧ Aside0 (laws_szValueS.l0 kq l0 x1_1 x5_1 = some r) ∧ Aside0 (kq ≤ k) ∧ Aside0 (Below w.heap.size w w'))
  case atStart => exact ⟨(wrap64 (a1 - (l0.length : Int))), (0), (by first | rfl | (simp; done) | (simp [*]; done)), (by first | rfl | (simp; done) | (simp [*]; done)), H', ⟨Nat.le_refl _⟩, ⟨qB HB⟩⟩
  case round =>
   clear H'
   try clear p2
   try clear c3
   try clear c3b0
   obtain ⟨x1_1, x5_1, rfl, rfl, HA, HK1, HB⟩ := hrel
   cases gk with
   | zero => exact absurd HA.out (by simp [laws_szValueS.l0])
   | succ k1 =>
    have H := HA.out
    clear HA
    simp only [laws_szValueS.l0] at H
    by_cases c4 : x5_1 < (l0.length : Int)
    ·rw [if_pos c4] at H
     have c4b0 : decide (x5_1 < (l0.length : Int)) = true := decide_eq_true c4
     clear c4
     by_cases c5 : 0 ≤ x5_1
     ·rw [if_pos c5] at H
      have c5b0 : decide (0 ≤ x5_1) = true := decide_eq_true c5
      clear c5
      replace H := Option.bind_eq_some_iff.mp H
      obtain ⟨t103, A60, H⟩ := H
      try dsimp only at H
      have A6 := Aside0.mk A60
      clear A60
      by_cases c7 : t103 < 0
      ·rw [if_pos c7] at H
       have c7b0 : decide (t103 < 0) = true := decide_eq_true c7
       clear c7
       obtain rfl := Option.some.inj H
       have p102 : 0 ≤ (x5_1 : Int) := of_decide_eq_true (by first | (with_reducible assumption) | assumption)
       have q102 : x5_1 < (l0.length : Int) := of_decide_eq_true (by first | (with_reducible assumption) | assumption)
       obtain ⟨ad102, A102_3, c102_3, A102_4, c102_4, e102, hx102_0, hx102_1, hx102_2, hx102_3, hx102_4, hl102_3, hi102_3, hl102_4, hi102_4⟩ := at_T33 HR0.out x5_1 p102 q102
       cases e102
       replace hx102_0 := (HB.out.cell (World.block_lt_of_cell? w _ hx102_0)).trans hx102_0
       replace hx102_1 := (HB.out.cell (World.block_lt_of_cell? w _ hx102_1)).trans hx102_1
       replace hx102_2 := (HB.out.cell (World.block_lt_of_cell? w _ hx102_2)).trans hx102_2
       replace hx102_3 := (HB.out.cell (World.block_lt_of_cell? w _ hx102_3)).trans hx102_3
       replace hx102_4 := (HB.out.cell (World.block_lt_of_cell? w _ hx102_4)).trans hx102_4
       have HR102_3 := Aside0.mk hi102_3
       have HC102_3 := Aside0.mk hl102_3
       clear hi102_3 hl102_3
       have HR102_4 := Aside0.mk hi102_4
       have HC102_4 := Aside0.mk hl102_4
       clear hi102_4 hl102_4
       replace p102 := eq_true p102
       replace q102 := eq_true q102
       go_wp2_with (first | ((with_reducible refine gate_callee (f := 18) rfl ?_); refine goesL_ (some 23) rfl rfl Tryd.func18 (by kernel_rfl) rfl #[.agg #[.int .i64 ((rd_T33 l0 x5_1).f0), .string ((rd_T33 l0 x5_1).f1), .int .i64 ((rd_T33 l0 x5_1).f2), .slice A102_3 ((rd_T33 l0 x5_1).f3).length c102_3, .slice A102_4 ((rd_T33 l0 x5_1).f4).length c102_4], .int .i64 x1_1] rfl (by (try simp only [List.map_toArray, List.map_cons, List.map_nil]); first | done | rfl | (simp only [List.length_drop, List.length_take]; rfl)) ?_; (with_reducible refine (ih k1 (by have := HK1.out; omega) ((rd_T33 l0 x5_1).f0) ((rd_T33 l0 x5_1).f1) ((rd_T33 l0 x5_1).f2) _ _ ((rd_T33 l0 x5_1).f3) _ _ ((rd_T33 l0 x5_1).f4) x1_1 t103 _ (qC HR102_3 HB) HC102_3.out (qC HR102_4 HB) HC102_4.out A6.out).mono ?_); rintro e w8 ⟨rfl, hb⟩; refine ⟨_, rfl, ?_⟩; have n0_ := Aside0.mk (below_step (qB HB) hb); clear HB; have HB := n0_; clear n0_; (try clear hb); (try clear hb2); (try clear hk); (try clear hi)))
       go_ret
       exact ⟨by first | rfl | (simp [errW_none, errW_some] <;> rfl) | (simp [*, errW_none, errW_some] <;> rfl), by repeat (first | (with_reducible first | exact HB.out | apply below_alloc | apply pw_below_drewN | apply below_drew1) | exact HB.out)⟩
      ·rw [if_neg c7] at H
       have c7b0 : decide (t103 < 0) = false := decide_eq_false c7
       clear c7
       have H' := Aside0.mk H
       clear H
       have p102 : 0 ≤ (x5_1 : Int) := of_decide_eq_true (by first | (with_reducible assumption) | assumption)
       have q102 : x5_1 < (l0.length : Int) := of_decide_eq_true (by first | (with_reducible assumption) | assumption)
       obtain ⟨ad102, A102_3, c102_3, A102_4, c102_4, e102, hx102_0, hx102_1, hx102_2, hx102_3, hx102_4, hl102_3, hi102_3, hl102_4, hi102_4⟩ := at_T33 HR0.out x5_1 p102 q102
       cases e102
       replace hx102_0 := (HB.out.cell (World.block_lt_of_cell? w _ hx102_0)).trans hx102_0
       replace hx102_1 := (HB.out.cell (World.block_lt_of_cell? w _ hx102_1)).trans hx102_1
       replace hx102_2 := (HB.out.cell (World.block_lt_of_cell? w _ hx102_2)).trans hx102_2
       replace hx102_3 := (HB.out.cell (World.block_lt_of_cell? w _ hx102_3)).trans hx102_3
       replace hx102_4 := (HB.out.cell (World.block_lt_of_cell? w _ hx102_4)).trans hx102_4
       have HR102_3 := Aside0.mk hi102_3
       have HC102_3 := Aside0.mk hl102_3
       clear hi102_3 hl102_3
       have HR102_4 := Aside0.mk hi102_4
       have HC102_4 := Aside0.mk hl102_4
       clear hi102_4 hl102_4
       replace p102 := eq_true p102
       replace q102 := eq_true q102
       go_wp2_with (first | ((with_reducible refine gate_callee (f := 18) rfl ?_); refine goesL_ (some 23) rfl rfl Tryd.func18 (by kernel_rfl) rfl #[.agg #[.int .i64 ((rd_T33 l0 x5_1).f0), .string ((rd_T33 l0 x5_1).f1), .int .i64 ((rd_T33 l0 x5_1).f2), .slice A102_3 ((rd_T33 l0 x5_1).f3).length c102_3, .slice A102_4 ((rd_T33 l0 x5_1).f4).length c102_4], .int .i64 x1_1] rfl (by (try simp only [List.map_toArray, List.map_cons, List.map_nil]); first | done | rfl | (simp only [List.length_drop, List.length_take]; rfl)) ?_; (with_reducible refine (ih k1 (by have := HK1.out; omega) ((rd_T33 l0 x5_1).f0) ((rd_T33 l0 x5_1).f1) ((rd_T33 l0 x5_1).f2) _ _ ((rd_T33 l0 x5_1).f3) _ _ ((rd_T33 l0 x5_1).f4) x1_1 t103 _ (qC HR102_3 HB) HC102_3.out (qC HR102_4 HB) HC102_4.out A6.out).mono ?_); rintro e w9 ⟨rfl, hb⟩; refine ⟨_, rfl, ?_⟩; have n0_ := Aside0.mk (below_step (qB HB) hb); clear HB; have HB := n0_; clear n0_; (try clear hb); (try clear hb2); (try clear hk); (try clear hi)))
       go_roundg k1
       case measure => have := HK1.out; omega
       case rel => exact ⟨(t103), (wrap64 (x5_1 + 1)), (by first | rfl | (simp; done) | (simp [*]; done)), (by first | rfl | (simp; done) | (simp [*]; done)), H', ⟨by have := HK1.out; omega⟩, ⟨qB HB⟩⟩
     ·rw [if_neg c5] at H
      exact absurd H (by simp)
    ·rw [if_neg c4] at H
     have c4b0 : decide (x5_1 < (l0.length : Int)) = false := decide_eq_false c4
     clear c4
     obtain rfl := Option.some.inj H
     go_wp2
     go_ret
     exact ⟨by first | rfl | (simp [errW_none, errW_some] <;> rfl) | (simp [*, errW_none, errW_some] <;> rfl), by repeat (first | (with_reducible first | exact HB.out | apply below_alloc | apply pw_below_drewN | apply below_drew1) | exact HB.out)⟩

/-! ### laws_szValue: function 18 -/
set_option maxHeartbeats 8000000 in
set_option maxRecDepth 100000 in
theorem laws_szValue.calls_ (k : Nat) (ih : ∀ j_ : Nat, j_ < k → ∀ (A0 : Option Addr) (c0 : Nat) (l0 : List (S33)) (a1 : Int) (r : Int) (w : World) (hr0 : Kd.C k33 w A0 l0.length l0) (hc0 : l0.length ≤ c0) (h : laws_szValueS.f j_ l0 a1 = some r),
  Calls Tryd.prog 37 #[.slice A0 l0.length c0, .int .i64 a1] w fun e w' => e = .returned (.int .i64 r) ∧ Below w.heap.size w w') : ∀ (a0_0 : Int) (a0_1 : ByteArray) (a0_2 : Int) (A0_3 : Option Addr) (c0_3 : Nat) (l0_3 : List ByteArray) (A0_4 : Option Addr) (c0_4 : Nat) (l0_4 : List (S33)) (a1 : Int) (r : Int) (w : World) (hr0_3 : Kd.C Kd.string w A0_3 l0_3.length l0_3) (hc0_3 : l0_3.length ≤ c0_3) (hr0_4 : Kd.C k33 w A0_4 l0_4.length l0_4) (hc0_4 : l0_4.length ≤ c0_4) (h : laws_szValue.f k a0_0 a0_1 a0_2 l0_3 l0_4 a1 = some r),
  Calls Tryd.prog 18 #[.agg #[.int .i64 a0_0, .string a0_1, .int .i64 a0_2, .slice A0_3 l0_3.length c0_3, .slice A0_4 l0_4.length c0_4], .int .i64 a1] w fun e w' => e = .returned (.int .i64 r) ∧ Below w.heap.size w w' := by
 intro a0_0 a0_1 a0_2 A0_3 c0_3 l0_3 A0_4 c0_4 l0_4 a1 r w hr0_3 hc0_3 hr0_4 hc0_4 h
 cases k with
 | zero => exact absurd h (by simp [laws_szValue.f])
 | succ k =>
 simp only [laws_szValue.f] at h
 have hu33 := Tryd.underlying33
 have HR0_3 := Aside0.mk hr0_3
 have HC0_3 := Aside0.mk hc0_3
 clear hr0_3 hc0_3
 have HR0_4 := Aside0.mk hr0_4
 have HC0_4 := Aside0.mk hc0_4
 clear hr0_4 hc0_4
 have HB := Aside0.mk (Below.refl w.heap.size w)
 have H := h
 clear h
 by_cases c3 : (wrap64 (a1 - (a0_1.size : Int))) < 0
 ·rw [if_pos c3] at H
  have c3b0 : decide ((wrap64 (a1 - (a0_1.size : Int))) < 0) = true := decide_eq_true c3
  clear c3
  obtain rfl := Option.some.inj H
  go_enter Tryd.func18, Tryd.ntmps18
  go_wp2_with (first | ((with_reducible refine gate_dst (N := 2) rfl ?_); refine box_event ?hg (N := 2) ?hd (cs := #[.int .i64 a0_0, .string a0_1, .int .i64 a0_2, .slice A0_3 l0_3.length c0_3, .slice A0_4 l0_4.length c0_4]) (t := 33) ?hr ?_; (case hd => rfl); (case hg => rfl); (case hr => go_simp); intro gb104 hg w4 hbox hb; have n0_ := Aside0.mk (below_step (qB HB) hb); have n1_ := Aside0.mk (hbox); have n2_ := Aside0.mk (qG HB hg); have n3_ := Aside0.mk (qG HB hg); clear HB; have HB := n0_; have BK104 := n1_; have GW104 := n2_; have GE104 := n3_; clear n0_ n1_ n2_ n3_; clear hb hbox hg; obtain ⟨hcz5_0, hcz5_1, hcz5_2, hcz5_3, hcz5_4, hfz5_0, hfz5_1, hfz5_2, hfz5_3, hfz5_4⟩ := blk5 BK104))
  go_ret
  exact ⟨by first | rfl | (simp [errW_none, errW_some] <;> rfl) | (simp [*, errW_none, errW_some] <;> rfl), by repeat (first | (with_reducible first | exact HB.out | apply below_alloc | apply pw_below_drewN | apply below_drew1 | refine below_set ?_ GE104.out) | exact HB.out)⟩
 ·rw [if_neg c3] at H
  have c3b0 : decide ((wrap64 (a1 - (a0_1.size : Int))) < 0) = false := decide_eq_false c3
  clear c3
  replace H := Option.bind_eq_some_iff.mp H
  obtain ⟨t105, A60, H⟩ := H
  try dsimp only at H
  have A6 := Aside0.mk A60
  clear A60
  by_cases c7 : t105 < 0
  ·rw [if_pos c7] at H
   have c7b0 : decide (t105 < 0) = true := decide_eq_true c7
   clear c7
   obtain rfl := Option.some.inj H
   go_enter Tryd.func18, Tryd.ntmps18
   go_wp2_with (first | ((with_reducible refine gate_dst (N := 2) rfl ?_); refine box_event ?hg (N := 2) ?hd (cs := #[.int .i64 a0_0, .string a0_1, .int .i64 a0_2, .slice A0_3 l0_3.length c0_3, .slice A0_4 l0_4.length c0_4]) (t := 33) ?hr ?_; (case hd => rfl); (case hg => rfl); (case hr => go_simp); intro gb104 hg w8 hbox hb; have n0_ := Aside0.mk (below_step (qB HB) hb); have n1_ := Aside0.mk (hbox); have n2_ := Aside0.mk (qG HB hg); have n3_ := Aside0.mk (qG HB hg); clear HB; have HB := n0_; have BK104 := n1_; have GW104 := n2_; have GE104 := n3_; clear n0_ n1_ n2_ n3_; clear hb hbox hg; obtain ⟨hcz9_0, hcz9_1, hcz9_2, hcz9_3, hcz9_4, hfz9_0, hfz9_1, hfz9_2, hfz9_3, hfz9_4⟩ := blk5 BK104) | ((with_reducible refine gate_callee (f := 17) rfl ?_); refine goesL_ (some 15) rfl rfl Tryd.func17 (by kernel_rfl) rfl #[.slice A0_3 l0_3.length c0_3, .int .i64 (wrap64 (a1 - (a0_1.size : Int)))] rfl (by (try simp only [List.map_toArray, List.map_cons, List.map_nil]); first | done | rfl | (simp only [List.length_drop, List.length_take]; rfl)) ?_; (with_reducible refine (laws_szStringS.calls k _ _ l0_3 (wrap64 (a1 - (a0_1.size : Int))) t105 _ (qC HR0_3 HB) HC0_3.out A6.out).mono ?_); rintro e w' ⟨rfl, ⟨nd, rfl⟩⟩; refine ⟨_, rfl, ?_⟩))
   go_ret
   exact ⟨by first | rfl | (simp [errW_none, errW_some] <;> rfl) | (simp [*, errW_none, errW_some] <;> rfl), by repeat (first | (with_reducible first | exact HB.out | apply below_alloc | apply pw_below_drewN | apply below_drew1 | refine below_set ?_ GE104.out) | exact HB.out)⟩
  ·rw [if_neg c7] at H
   have c7b0 : decide (t105 < 0) = false := decide_eq_false c7
   clear c7
   replace H := Option.bind_eq_some_iff.mp H
   obtain ⟨t106, A100, H⟩ := H
   try dsimp only at H
   have A10 := Aside0.mk A100
   clear A100
   by_cases c11 : t106 < 0
   ·rw [if_pos c11] at H
    have c11b0 : decide (t106 < 0) = true := decide_eq_true c11
    clear c11
    obtain rfl := Option.some.inj H
    go_enter Tryd.func18, Tryd.ntmps18
    go_wp2_with (first | ((with_reducible refine gate_dst (N := 2) rfl ?_); refine box_event ?hg (N := 2) ?hd (cs := #[.int .i64 a0_0, .string a0_1, .int .i64 a0_2, .slice A0_3 l0_3.length c0_3, .slice A0_4 l0_4.length c0_4]) (t := 33) ?hr ?_; (case hd => rfl); (case hg => rfl); (case hr => go_simp); intro gb104 hg w12 hbox hb; have n0_ := Aside0.mk (below_step (qB HB) hb); have n1_ := Aside0.mk (hbox); have n2_ := Aside0.mk (qG HB hg); have n3_ := Aside0.mk (qG HB hg); clear HB; have HB := n0_; have BK104 := n1_; have GW104 := n2_; have GE104 := n3_; clear n0_ n1_ n2_ n3_; clear hb hbox hg; obtain ⟨hcz13_0, hcz13_1, hcz13_2, hcz13_3, hcz13_4, hfz13_0, hfz13_1, hfz13_2, hfz13_3, hfz13_4⟩ := blk5 BK104) | ((with_reducible refine gate_callee (f := 17) rfl ?_); refine goesL_ (some 15) rfl rfl Tryd.func17 (by kernel_rfl) rfl #[.slice A0_3 l0_3.length c0_3, .int .i64 (wrap64 (a1 - (a0_1.size : Int)))] rfl (by (try simp only [List.map_toArray, List.map_cons, List.map_nil]); first | done | rfl | (simp only [List.length_drop, List.length_take]; rfl)) ?_; (with_reducible refine (laws_szStringS.calls k _ _ l0_3 (wrap64 (a1 - (a0_1.size : Int))) t105 _ (qC HR0_3 HB) HC0_3.out A6.out).mono ?_); rintro e w' ⟨rfl, ⟨nd, rfl⟩⟩; refine ⟨_, rfl, ?_⟩) | ((with_reducible refine gate_callee (f := 37) rfl ?_); refine goesL_ (some 21) rfl rfl Tryd.func37 (by kernel_rfl) rfl #[.slice A0_4 l0_4.length c0_4, .int .i64 t105] rfl (by (try simp only [List.map_toArray, List.map_cons, List.map_nil]); first | done | rfl | (simp only [List.length_drop, List.length_take]; rfl)) ?_; (with_reducible refine (ih k (by omega) _ _ l0_4 t105 t106 _ (qC HR0_4 HB) HC0_4.out A10.out).mono ?_); rintro e w14 ⟨rfl, hb⟩; refine ⟨_, rfl, ?_⟩; have n0_ := Aside0.mk (blk_below (qK BK104) hb); have n1_ := Aside0.mk (below_step (qB HB) hb); clear BK104; clear HB; have BK104 := n0_; have HB := n1_; clear n0_ n1_; (try clear hb); (try clear hb2); (try clear hk); (try clear hi)))
    go_ret
    exact ⟨by first | rfl | (simp [errW_none, errW_some] <;> rfl) | (simp [*, errW_none, errW_some] <;> rfl), by repeat (first | (with_reducible first | exact HB.out | apply below_alloc | apply pw_below_drewN | apply below_drew1 | refine below_set ?_ GE104.out) | exact HB.out)⟩
   ·rw [if_neg c11] at H
    have c11b0 : decide (t106 < 0) = false := decide_eq_false c11
    clear c11
    obtain rfl := Option.some.inj H
    go_enter Tryd.func18, Tryd.ntmps18
    go_wp2_with (first | ((with_reducible refine gate_dst (N := 2) rfl ?_); refine box_event ?hg (N := 2) ?hd (cs := #[.int .i64 a0_0, .string a0_1, .int .i64 a0_2, .slice A0_3 l0_3.length c0_3, .slice A0_4 l0_4.length c0_4]) (t := 33) ?hr ?_; (case hd => rfl); (case hg => rfl); (case hr => go_simp); intro gb104 hg w15 hbox hb; have n0_ := Aside0.mk (below_step (qB HB) hb); have n1_ := Aside0.mk (hbox); have n2_ := Aside0.mk (qG HB hg); have n3_ := Aside0.mk (qG HB hg); clear HB; have HB := n0_; have BK104 := n1_; have GW104 := n2_; have GE104 := n3_; clear n0_ n1_ n2_ n3_; clear hb hbox hg; obtain ⟨hcz16_0, hcz16_1, hcz16_2, hcz16_3, hcz16_4, hfz16_0, hfz16_1, hfz16_2, hfz16_3, hfz16_4⟩ := blk5 BK104) | ((with_reducible refine gate_callee (f := 17) rfl ?_); refine goesL_ (some 15) rfl rfl Tryd.func17 (by kernel_rfl) rfl #[.slice A0_3 l0_3.length c0_3, .int .i64 (wrap64 (a1 - (a0_1.size : Int)))] rfl (by (try simp only [List.map_toArray, List.map_cons, List.map_nil]); first | done | rfl | (simp only [List.length_drop, List.length_take]; rfl)) ?_; (with_reducible refine (laws_szStringS.calls k _ _ l0_3 (wrap64 (a1 - (a0_1.size : Int))) t105 _ (qC HR0_3 HB) HC0_3.out A6.out).mono ?_); rintro e w' ⟨rfl, ⟨nd, rfl⟩⟩; refine ⟨_, rfl, ?_⟩) | ((with_reducible refine gate_callee (f := 37) rfl ?_); refine goesL_ (some 21) rfl rfl Tryd.func37 (by kernel_rfl) rfl #[.slice A0_4 l0_4.length c0_4, .int .i64 t105] rfl (by (try simp only [List.map_toArray, List.map_cons, List.map_nil]); first | done | rfl | (simp only [List.length_drop, List.length_take]; rfl)) ?_; (with_reducible refine (ih k (by omega) _ _ l0_4 t105 t106 _ (qC HR0_4 HB) HC0_4.out A10.out).mono ?_); rintro e w17 ⟨rfl, hb⟩; refine ⟨_, rfl, ?_⟩; have n0_ := Aside0.mk (blk_below (qK BK104) hb); have n1_ := Aside0.mk (below_step (qB HB) hb); clear BK104; clear HB; have BK104 := n0_; have HB := n1_; clear n0_ n1_; (try clear hb); (try clear hb2); (try clear hk); (try clear hi)))
    go_ret
    exact ⟨by first | rfl | (simp [errW_none, errW_some] <;> rfl) | (simp [*, errW_none, errW_some] <;> rfl), by repeat (first | (with_reducible first | exact HB.out | apply below_alloc | apply pw_below_drewN | apply below_drew1 | refine below_set ?_ GE104.out) | exact HB.out)⟩

theorem laws_szValueS.both (k : Nat) : (∀ (A0 : Option Addr) (c0 : Nat) (l0 : List (S33)) (a1 : Int) (r : Int) (w : World) (hr0 : Kd.C k33 w A0 l0.length l0) (hc0 : l0.length ≤ c0) (h : laws_szValueS.f k l0 a1 = some r),
  Calls Tryd.prog 37 #[.slice A0 l0.length c0, .int .i64 a1] w fun e w' => e = .returned (.int .i64 r) ∧ Below w.heap.size w w') ∧ (∀ (a0_0 : Int) (a0_1 : ByteArray) (a0_2 : Int) (A0_3 : Option Addr) (c0_3 : Nat) (l0_3 : List ByteArray) (A0_4 : Option Addr) (c0_4 : Nat) (l0_4 : List (S33)) (a1 : Int) (r : Int) (w : World) (hr0_3 : Kd.C Kd.string w A0_3 l0_3.length l0_3) (hc0_3 : l0_3.length ≤ c0_3) (hr0_4 : Kd.C k33 w A0_4 l0_4.length l0_4) (hc0_4 : l0_4.length ≤ c0_4) (h : laws_szValue.f k a0_0 a0_1 a0_2 l0_3 l0_4 a1 = some r),
  Calls Tryd.prog 18 #[.agg #[.int .i64 a0_0, .string a0_1, .int .i64 a0_2, .slice A0_3 l0_3.length c0_3, .slice A0_4 l0_4.length c0_4], .int .i64 a1] w fun e w' => e = .returned (.int .i64 r) ∧ Below w.heap.size w w') := by
 induction k using Nat.strongRecOn with
 | _ k ih => exact ⟨laws_szValueS.calls_ k (fun j hj => (ih j hj).2), laws_szValue.calls_ k (fun j hj => (ih j hj).1)⟩
theorem laws_szValue.calls (k : Nat) : ∀ (a0_0 : Int) (a0_1 : ByteArray) (a0_2 : Int) (A0_3 : Option Addr) (c0_3 : Nat) (l0_3 : List ByteArray) (A0_4 : Option Addr) (c0_4 : Nat) (l0_4 : List (S33)) (a1 : Int) (r : Int) (w : World) (hr0_3 : Kd.C Kd.string w A0_3 l0_3.length l0_3) (hc0_3 : l0_3.length ≤ c0_3) (hr0_4 : Kd.C k33 w A0_4 l0_4.length l0_4) (hc0_4 : l0_4.length ≤ c0_4) (h : laws_szValue.f k a0_0 a0_1 a0_2 l0_3 l0_4 a1 = some r),
  Calls Tryd.prog 18 #[.agg #[.int .i64 a0_0, .string a0_1, .int .i64 a0_2, .slice A0_3 l0_3.length c0_3, .slice A0_4 l0_4.length c0_4], .int .i64 a1] w fun e w' => e = .returned (.int .i64 r) ∧ Below w.heap.size w w' := (laws_szValueS.both k).2

end Go.Proofs.YtgcgkcchoghkaaaDoor.G
