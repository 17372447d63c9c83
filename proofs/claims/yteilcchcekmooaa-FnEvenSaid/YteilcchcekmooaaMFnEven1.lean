import Derived.Test.YteilcchcekmooaaMFnEven0
import Derived.Lib.Hide
import Derived.Lib.SliceRun
import Derived.WalkKit
import Derived.IntWalk
import Derived.Deep.LoopGhost
import Derived.WalkLawsBesides
import Derived.Test.YteilcchcekmooaaProg
import Derived.Below
import Derived.Deep.Draws
import Derived.Deep.AppendLies
import Derived.Maps.AppendAt
import Derived.OwnWalk
import Derived.Laws.BytesArg
import Derived.Laws.MakeOwn
import Derived.Laws.OwnMore
import Derived.Deep.OwnRows
import Derived.Tactics
import Derived.Lib.ConvBytes
import Derived.Laws.Slices
import Derived.KernelRfl
import Derived.RowKit3
import Derived.Deep.QuietTactic
import Derived.BigQuiet
import Derived.WideLaws
import Derived.Deep.DeepCutAuto
import Derived.Deep.CutBlock
import Derived.Deep.RegionHeld3
import Derived.Laws.Rows
import Derived.Lib.AppendStr
import Derived.ArgAppend
import Derived.Laws.IdiomCopy
import Derived.OrdersHeld
import Derived.Laws.BitsLemmas
import Derived.RowKit
import Derived.Sort.Lot0
import Derived.Sort.LotA
import Derived.Shelf.SlSortCmp.Kit1
import Derived.Sort.WalkB2
import Derived.Sort.WalkB12
/- GKit -/
/-
  Small words beside the print's: lists searched by a test that may lack an answer, rows that stand below a growing world.
-/
namespace Go.Proofs.Yteilcchcekmooaa.G
open Go.RowKit Go.Proofs.YteilcchcekmooaaW.PrintWords Go.Proofs.YteilcchcekmooaaW.PrintLast Go.Proofs.YteilcchcekmooaaW.PrintMore
set_option linter.unusedVariables false

/-- The place of the first for which p says yes, counted from k on; -1 without one. -/
def idxO {α : Type} (p : α → Option Bool) : List α → Nat → Option Int
  | [], _ => some (-1)
  | x :: xs, k => (p x).bind fun b => if b then some (k : Int) else idxO p xs (k + 1)
theorem idxO_step {α : Type} {p : α → Option Bool} {xs : List α} {k : Nat} {r : Int} (hk : k < xs.length) (h : idxO p (xs.drop k) k = some r) :
    ∃ b, p xs[k] = some b ∧ (b = true → r = k) ∧ (b = false → idxO p (xs.drop (k + 1)) (k + 1) = some r) := by
  rw [List.drop_eq_getElem_cons hk, idxO] at h
  cases hp : p xs[k] with
  | none => rw [hp] at h; cases h
  | some b =>
    rw [hp] at h
    refine ⟨b, rfl, ?_, ?_⟩
    · rintro rfl; simpa using h.symm
    · rintro rfl; simpa using h
theorem idxO_end {α : Type} {p : α → Option Bool} {xs : List α} {r : Int} (h : idxO p (xs.drop xs.length) xs.length = some r) : r = -1 := by
  rw [List.drop_length, idxO] at h
  exact (Option.some.inj h).symm
theorem getD_at {α : Type} {xs : List α} {k : Nat} (hk : k < xs.length) (z : α) : xs.getD k z = xs[k] := by
  rw [List.getD_eq_getElem?_getD, List.getElem?_eq_getElem hk]; rfl
theorem below_trans {w w1 w2 : World} (h : Below w.heap.size w w1) (k : Below w1.heap.size w1 w2) : Below w.heap.size w w2 := below_then h h.size k
theorem hid_below {w w1 w2 : World} (h : Hid (Below w.heap.size w w1)) (k : Below w1.heap.size w1 w2) : Hid (Below w.heap.size w w2) := below_trans h.out k
section
variable {α : Type} {d : Kd α} {e base n c : Nat} {ok : Nat → Prop} {w : World} {A : Option Addr} {xs : List α}
end

/-! ### slices.DeleteFunc: what it leaves, and the state of its loop -/
def delO {α : Type} (p : α → Option Bool) : List α → Option (List α)
  | [] => some []
  | x :: xs => (p x).bind fun b => (delO p xs).bind fun ys => some (if b then ys else x :: ys)
structure DelSt {α : Type} (d : Kd α) (e : Nat) (p : α → Option Bool) (l0 r : List α) (ok : Nat → Prop) (w0 w : World) (g : Nat) (cur : Array Value) (m j : Nat) (wr : World) : Prop where
  st : ∃ (cur' : Array Value) (ys r2 : List α), ys.length = m ∧ wr.heap[g]? = some (.cells cur' e (0, 0)) ∧ cur'.size = cur.size ∧ cur'.toList.drop (j * d.sz) = cur.toList.drop (j * d.sz) ∧
    Reps (d.M wr w0.heap.size (fun k => ok k ∧ k ≠ g)) d.sz ys (cur'.toList.take (m * d.sz)) ∧ delO p (l0.drop j) = some r2 ∧ r = ys ++ r2
  kept : Kept w wr (fun k => k = g)
  below : Below w0.heap.size w0 wr
  pos : m < j
section
variable {α : Type} {d : Kd α} {e c : Nat} {p : α → Option Bool} {l0 r : List α} {ok : Nat → Prop} {w0 w wr W : World} {g m j : Nat} {cur : Array Value}
end
theorem bind_some' {α β : Type} {o : Option α} {f : α → Option β} {r : β} (h : o.bind f = some r) : ∃ a, o = some a ∧ f a = some r := Option.bind_eq_some_iff.1 h
end Go.Proofs.Yteilcchcekmooaa.G

/- G0 -/
-- Laid by wip/g/gprint.py out of the translation, by the kit's print program. Lean checks it.
namespace Go.Proofs.Yteilcchcekmooaa.G
open Go.RowKit Go.Proofs.YteilcchcekmooaaW.PrintWords Go.Proofs.YteilcchcekmooaaW.PrintLast Go.Proofs.YteilcchcekmooaaW.PrintMore
attribute [local go_sem] max2_int min2_int max_two min_two max_three min_three max_four min_four   -- for this text's walks alone
set_option linter.unusedVariables false
set_option linter.unusedSimpArgs false

def errW : Option Int → Value
  | none => .nilIface
  | some c => .iface 0 (.int .i64 c)
theorem errW_none : errW none = .nilIface := rfl
theorem errW_some (c : Int) : errW (some c) = .iface 0 (.int .i64 c) := rfl

theorem info3 : (Try.prog.info? 3).map (fun i => (i.zero, i.size, i.bytes)) = some (some (.int .i64 0), 1, 8) := by kernel_rfl
theorem info4 : (Try.prog.info? 4).map (fun i => (i.zero, i.size, i.bytes)) = some (some (.bool false), 1, 1) := by kernel_rfl
-- the values' own types
end Go.Proofs.Yteilcchcekmooaa.G

/- PBase -/
/-
  Plain facts under the laws: wraps, sizes that are counted down, marks.
-/
namespace Go.Proofs.Yteilcchcekmooaa.G
open Go.RowKit Go.Proofs.YteilcchcekmooaaW.PrintWords Go.Proofs.YteilcchcekmooaaW.PrintLast Go.Proofs.YteilcchcekmooaaW.PrintMore
set_option linter.unusedVariables false
set_option linter.unusedSimpArgs false

theorem w64 {x : Int} (h : -9223372036854775808 ≤ x) (h' : x ≤ 9223372036854775807) : wrap64 x = x := by unfold wrap64; omega
theorem ev_if_pos {α : Type} {c : Prop} [Decidable c] {g f : Nat → Option α} {r : α} (h : c) (k : Ev g r) : Ev (fun n => if c then g n else f n) r := Ev.congr (fun n => if_pos h) k
theorem ev_if_neg {α : Type} {c : Prop} [Decidable c] {g f : Nat → Option α} {r : α} (h : ¬ c) (k : Ev f r) : Ev (fun n => if c then g n else f n) r := Ev.congr (fun n => if_neg h) k
theorem ev_some {α : Type} {a r : α} (h : a = r) : Ev (fun _ => some a) r := h ▸ Ev.now r
theorem ev_rw {α : Type} {g : Nat → Option α} {a b : α} (h : Ev g a) (e : a = b) : Ev g b := e ▸ h
/-! ### loops -/
theorem wsucc {i n : Nat} (h : i < n) (hn : n ≤ 9223372036854775807) : wrap64 ((i : Int) + 1) = ((i + 1 : Nat) : Int) := by rw [w64 (by omega) (by omega)]; rfl
def allN (n : Nat) (ok : Nat → Bool) : Bool := (List.range n).all ok
theorem allN_true {n : Nat} {ok : Nat → Bool} : allN n ok = true ↔ ∀ i, i < n → ok i = true := by simp [allN]
/-- A loop that answers false at the first place that is not right, and fin behind the last. -/
theorem loop_all {g : Nat → Int → Option Bool} (n : Nat) (ok : Nat → Bool) (fin : Bool) (h1 : ∀ i, i < n → ok i = true → ∀ r, Ev (fun k => g k ((i + 1 : Nat) : Int)) r → Ev (fun k => g k (i : Int)) r)
    (h2 : ∀ i, i < n → ok i = false → Ev (fun k => g k (i : Int)) false) (h3 : Ev (fun k => g k (n : Int)) fin) : Ev (fun k => g k 0) (allN n ok && fin) := by
  have key : ∀ d i, i + d = n → (∀ j, j < i → ok j = true) → Ev (fun k => g k (i : Int)) (allN n ok && fin) := by
    intro d
    induction d with
    | zero =>
      intro i hi hok
      obtain rfl : i = n := by omega
      rw [allN_true.2 hok, Bool.true_and]
      exact h3
    | succ d ih =>
      intro i hi hok
      cases hc : ok i with
      | true => exact h1 i (by omega) hc _ (ih (i + 1) (by omega) (fun j hj => by rcases Nat.lt_succ_iff_lt_or_eq.1 hj with h | rfl; exact hok j h; exact hc))
      | false =>
        have : allN n ok = false := by
          rw [← Bool.not_eq_true, allN_true]
          intro h
          rw [h i (by omega)] at hc
          cases hc
        rw [this, Bool.false_and]
        exact h2 i (by omega) hc
  exact key n 0 (by omega) (by intro j hj; omega)
end Go.Proofs.Yteilcchcekmooaa.G

/- PSym -/
/-
  The stable merge of two sorted neighbours, by exchanges, in plain Lean: what swapRange, rotate and symMerge do to a row.
-/
namespace Go.Sort
variable {α : Type} [Inhabited α]

/-- The blocks [a, a + n) and [b, b + n) exchanged. -/
def swG (a b n : Nat) (d : Nat → α) (k : Nat) : α := if a ≤ k ∧ k < a + n then d (k + (b - a)) else if b ≤ k ∧ k < b + n then d (k - (b - a)) else d k
/-- The neighbours [a, m) and [m, b) exchanged. -/
def rotG (a m b : Nat) (d : Nat → α) (k : Nat) : α := if k < a then d k else if k < a + (b - m) then d (k + (m - a)) else if k < b then d (k - (b - m)) else d k
def getG (d : Array α) (k : Nat) : α := d[k]!

omit [Inhabited α] in
theorem swG_zero (a b : Nat) (d : Nat → α) (k : Nat) : swG a b 0 d k = d k := by
  unfold swG
  rw [if_neg (by omega), if_neg (by omega)]

theorem swG_step {a b n : Nat} {d : Nat → α} {e : Array α} (hab : a + n + 1 ≤ b) (hb : b + n < e.size) (h : ∀ k, getG e k = swG a b n d k) (k : Nat) : getG (swp e (a + n) (b + n)) k = swG a b (n + 1) d k := by
  unfold getG at *
  rw [swp_get e (by omega) hb k]
  by_cases h1 : k = b + n
  · subst h1
    rw [if_pos rfl, h (a + n)]
    unfold swG
    rw [if_neg (by omega), if_neg (by omega), if_neg (by omega), if_pos (by omega)]
    congr 1; omega
  · by_cases h2 : k = a + n
    · subst h2
      rw [if_neg (by omega), if_pos rfl, h (b + n)]
      unfold swG
      rw [if_neg (by omega), if_neg (by omega), if_pos (by omega)]
      congr 1; omega
    · rw [if_neg h1, if_neg h2, h k]
      unfold swG
      repeat' split
      all_goals first | rfl | (exfalso; omega)

section
omit [Inhabited α]
/-- rotate's step where the left block is the longer one. -/
theorem rotG_left {m i j : Nat} {d e : Nat → α} (him : i ≤ m) (hij : j < i) (h : ∀ k, e k = swG (m - i) m j d k) (k : Nat) : rotG (m - (i - j)) m (m + j) e k = rotG (m - i) m (m + j) d k := by
  unfold rotG
  simp only [h]
  unfold swG
  repeat' split
  all_goals first | (exfalso; omega) | rfl | (congr 1; omega)
theorem rotG_right {m i j : Nat} {d e : Nat → α} (him : i ≤ m) (hij : i < j) (h : ∀ k, e k = swG (m - i) (m + j - i) i d k) (k : Nat) : rotG (m - i) m (m + (j - i)) e k = rotG (m - i) m (m + j) d k := by
  unfold rotG
  simp only [h]
  unfold swG
  repeat' split
  all_goals first | (exfalso; omega) | rfl | (congr 1; omega)
theorem rotG_same {m i : Nat} {d e : Nat → α} (him : i ≤ m) (h : ∀ k, e k = swG (m - i) m i d k) (k : Nat) : e k = rotG (m - i) m (m + i) d k := by
  rw [h]
  unfold rotG swG
  repeat' split
  all_goals first | (exfalso; omega) | rfl | (congr 1; omega)
theorem rotG_none (a m : Nat) (d : Nat → α) (k : Nat) : rotG a m m d k = d k := by
  unfold rotG
  repeat' split
  all_goals first | (exfalso; omega) | rfl | (congr 1; omega)
theorem rotG_none' (m b : Nat) (hb : m ≤ b) (d : Nat → α) (k : Nat) : rotG m m b d k = d k := by
  unfold rotG
  repeat' split
  all_goals first | (exfalso; omega) | rfl | (congr 1; omega)
end
/-- One element carried to the right. -/
theorem rotG_carryR {a n : Nat} {d : Nat → α} {e : Array α} (hs : a + n + 1 < e.size) (h : ∀ k, getG e k = rotG a (a + 1) (a + n + 1) d k) (k : Nat) : getG (swp e (a + n) (a + n + 1)) k = rotG a (a + 1) (a + n + 2) d k := by
  unfold getG at *
  rw [swp_get e (by omega) hs k]
  simp only [h]
  unfold rotG
  repeat' split
  all_goals first | (exfalso; omega) | rfl | (congr 1; omega)
theorem rotG_carryL {m p : Nat} {d : Nat → α} {e : Array α} (hp : p + 1 ≤ m) (hs : p + 1 < e.size) (h : ∀ k, getG e k = rotG (p + 1) m (m + 1) d k) (k : Nat) : getG (swp e (p + 1) p) k = rotG p m (m + 1) d k := by
  unfold getG at *
  rw [swp_get e hs (by omega) k]
  simp only [h]
  unfold rotG
  repeat' split
  all_goals first | (exfalso; omega) | rfl | (congr 1; omega)

theorem perm_rotG {a m b : Nat} {d e : Array α} (ham : a ≤ m) (hmb : m ≤ b) (hb : b ≤ d.size) (hs : e.size = d.size) (h : ∀ k, getG e k = rotG a m b (getG d) k) : PermIn a b d e := by
  refine ⟨hs, fun i hi => ?_, ?_⟩
  · have := h i
    unfold getG rotG at this
    rw [this]
    repeat' split
    all_goals first | (exfalso; omega) | rfl
  · rw [extract_toList d a b hb, extract_toList e a b (by omega)]
    have e1 : List.range' a (b - a) = List.range' a (b - m) ++ List.range' (a + (b - m)) (m - a) := by
      rw [show b - a = (b - m) + (m - a) by omega, ← List.range'_append (step := 1)]
      simp
    have e2 : List.range' a (b - a) = List.range' a (m - a) ++ List.range' m (b - m) := by
      rw [show b - a = (m - a) + (b - m) by omega, ← List.range'_append (step := 1)]
      simp [show a + (m - a) = m by omega]
    rw [show (List.range' a (b - a)).map (fun i => e[i]!) = (List.range' m (b - m)).map (fun i => d[i]!) ++ (List.range' a (m - a)).map (fun i => d[i]!) by
      rw [e1, List.map_append]
      congr 1
      · apply List.ext_getElem
        · simp
        · intro k h1 h2
          simp only [List.length_map, List.length_range'] at h1
          have := h (a + k)
          unfold getG rotG at this
          simp only [List.getElem_map, List.getElem_range', Nat.one_mul]
          rw [this, if_neg (by omega), if_pos (by omega)]
          congr 1; omega
      · apply List.ext_getElem
        · simp
        · intro k h1 h2
          simp only [List.length_map, List.length_range'] at h1
          have := h (a + (b - m) + k)
          unfold getG rotG at this
          simp only [List.getElem_map, List.getElem_range', Nat.one_mul]
          rw [this, if_neg (by omega), if_neg (by omega), if_pos (by omega)]
          congr 1; omega]
    rw [e2, List.map_append]
    exact List.perm_append_comm

variable {lt : α → α → Bool}
/-- Two sorted neighbours; and the program's comparison of a right one with a left one is 'lt'. -/
structure Mrg (lt c : α → α → Bool) (a m b : Nat) (d : Array α) : Prop where
  left : SortedIn lt a m d
  right : SortedIn lt m b d
  crs : ∀ i j, a ≤ i → i < m → m ≤ j → j < b → c d[j]! d[i]! = lt d[j]! d[i]!

/-- 'not less', with the same one too. -/
theorem SortedIn.le (hS : SWO lt) {a b : Nat} {d : Array α} (h : SortedIn lt a b d) (i j : Nat) (h1 : a ≤ i) (h2 : i ≤ j) (h3 : j < b) : lt d[j]! d[i]! = false := by
  rcases Nat.eq_or_lt_of_le h2 with e | e
  · subst e; exact hS.irrefl _
  · exact h i j h1 e h3

/-- The one element of the left is carried to its place. -/
theorem merge_one (hS : SWO lt) {c : α → α → Bool} {a b i : Nat} {d e : Array α} (M : Mrg lt c a (a + 1) b d) (hai : a + 1 ≤ i) (hib : i ≤ b) (hb : b ≤ d.size) (hs : e.size = d.size) (h1 : i = a + 1 ∨ c d[i - 1]! d[a]! = true) (h2 : i = b ∨ c d[i]! d[a]! = false) (h : ∀ k, getG e k = rotG a (a + 1) i (getG d) k) :
    PermIn a b d e ∧ SortedIn lt a b e := by
  refine ⟨permIn_mono d e a i a b (Nat.le_refl _) hib hb (perm_rotG (by omega) hai (by omega) hs h), ?_⟩
  have lo : ∀ k, a + 1 ≤ k → k < i → lt d[k]! d[a]! = true := fun k hk hki => by
    rcases h1 with rfl | h1
    · omega
    · rw [M.crs a (i - 1) (by omega) (by omega) (by omega) (by omega)] at h1
      cases hl : lt d[k]! d[a]! with
      | true => rfl
      | false =>
        have := hS.ntrans _ _ _ (M.right.le hS k (i - 1) hk (by omega) (by omega)) hl
        rw [h1] at this; cases this
  have hi : ∀ k, i ≤ k → k < b → lt d[k]! d[a]! = false := fun k hk hkb => by
    rcases h2 with rfl | h2
    · omega
    · rw [M.crs a i (by omega) (by omega) (by omega) (by omega)] at h2
      exact hS.ntrans _ _ _ (M.right.le hS i k (by omega) hk hkb) h2
  intro p q hp hpq hqb
  have ep := h p
  have eq := h q
  unfold getG rotG at ep eq
  rw [ep, eq]
  dsimp only
  repeat' split
  all_goals first
    | (exfalso; omega)
    | exact M.right _ _ (by omega) (by omega) (by omega)
    | (rw [show q - (i - (a + 1)) = a by omega]; exact hS.asymmA (lo _ (by omega) (by omega)))
    | (rw [show p - (i - (a + 1)) = a by omega]; exact hi _ (by omega) (by omega))

/-- The one element of the right is carried to its place. -/
theorem merge_last (hS : SWO lt) {c : α → α → Bool} {a m i : Nat} {d e : Array α} (M : Mrg lt c a m (m + 1) d) (hai : a ≤ i) (him : i ≤ m) (hb : m + 1 ≤ d.size) (hs : e.size = d.size) (h1 : i = a ∨ c d[m]! d[i - 1]! = false) (h2 : i = m ∨ c d[m]! d[i]! = true) (h : ∀ k, getG e k = rotG i m (m + 1) (getG d) k) :
    PermIn a (m + 1) d e ∧ SortedIn lt a (m + 1) e := by
  refine ⟨permIn_mono d e i (m + 1) a (m + 1) hai (Nat.le_refl _) hb (perm_rotG him (by omega) hb hs h), ?_⟩
  have lo : ∀ k, a ≤ k → k < i → lt d[m]! d[k]! = false := fun k hk hki => by
    rcases h1 with rfl | h1
    · omega
    · rw [M.crs (i - 1) m (by omega) (by omega) (by omega) (by omega)] at h1
      exact hS.ntrans _ _ _ h1 (M.left.le hS k (i - 1) hk (by omega) (by omega))
  have hi : ∀ k, i ≤ k → k < m → lt d[m]! d[k]! = true := fun k hk hkb => by
    rcases h2 with rfl | h2
    · omega
    · rw [M.crs i m (by omega) (by omega) (by omega) (by omega)] at h2
      cases hl : lt d[m]! d[k]! with
      | true => rfl
      | false =>
        have := hS.ntrans _ _ _ hl (M.left.le hS i k (by omega) hk hkb)
        rw [h2] at this; cases this
  intro p q hp hpq hqb
  have ep := h p
  have eq := h q
  unfold getG rotG at ep eq
  rw [ep, eq]
  dsimp only
  repeat' split
  all_goals first
    | (exfalso; omega)
    | exact M.left _ _ (by omega) (by omega) (by omega)
    | (rw [show q + (m - i) = m by omega]; exact lo _ (by omega) (by omega))
    | (rw [show p + (m - i) = m by omega]; exact hS.asymmA (hi _ (by omega) (by omega)))

/-- The cut: behind the exchange of [s, m) and [m, e) each half has its two sorted parts, and nothing in the second is less than anything in the first. -/
theorem merge_cut (hS : SWO lt) {c : α → α → Bool} {a m b s e : Nat} {d d1 : Array α} (M : Mrg lt c a m b d) (has : a ≤ s) (hsm : s ≤ m) (hme : m ≤ e) (heb : e ≤ b) (hb : b ≤ d.size) (hs : d1.size = d.size)
    (h1 : s = a ∨ e = b ∨ c d[e]! d[s - 1]! = false) (h2 : s = m ∨ e = m ∨ c d[e - 1]! d[s]! = true) (h : ∀ k, getG d1 k = rotG s m e (getG d) k) :
    PermIn a b d d1 ∧ Mrg lt c a s (s + (e - m)) d1 ∧ Mrg lt c (s + (e - m)) e b d1 ∧ (∀ i j, a ≤ i → i < s + (e - m) → s + (e - m) ≤ j → j < b → lt d1[j]! d1[i]! = false) := by
  have lo : ∀ i j, a ≤ i → i < s → e ≤ j → j < b → lt d[j]! d[i]! = false := fun i j hi his hj hjb => by
    rcases h1 with rfl | rfl | h1
    · omega
    · omega
    · rw [M.crs (s - 1) e (by omega) (by omega) (by omega) (by omega)] at h1
      exact hS.ntrans _ _ _ (hS.ntrans _ _ _ (M.right.le hS e j (by omega) hj hjb) h1) (M.left.le hS i (s - 1) hi (by omega) (by omega))
  have hi : ∀ i j, s ≤ i → i < m → m ≤ j → j < e → lt d[j]! d[i]! = true := fun i j hi him hj hje => by
    rcases h2 with rfl | rfl | h2
    · omega
    · omega
    · rw [M.crs s (e - 1) (by omega) (by omega) (by omega) (by omega)] at h2
      cases hl : lt d[j]! d[i]! with
      | true => rfl
      | false =>
        have := hS.ntrans _ _ _ (hS.ntrans _ _ _ (M.right.le hS j (e - 1) hj (by omega) (by omega)) hl) (M.left.le hS s i (by omega) hi him)
        rw [h2] at this; cases this
  have g : ∀ k, d1[k]! = if k < s then d[k]! else if k < s + (e - m) then d[k + (m - s)]! else if k < e then d[k - (e - m)]! else d[k]! := h
  refine ⟨permIn_mono d d1 s e a b has heb hb (perm_rotG hsm hme (by omega) hs h), ⟨?_, ?_, ?_⟩, ⟨?_, ?_, ?_⟩, ?_⟩
  · intro p q hp hpq hq
    rw [g p, g q]
    repeat' split
    all_goals first
      | (exfalso; omega)
      | exact M.left _ _ (by omega) (by omega) (by omega)
      | exact M.right _ _ (by omega) (by omega) (by omega)
      | exact M.crs _ _ (by omega) (by omega) (by omega) (by omega)
  · intro p q hp hpq hq
    rw [g p, g q]
    repeat' split
    all_goals first
      | (exfalso; omega)
      | exact M.left _ _ (by omega) (by omega) (by omega)
      | exact M.right _ _ (by omega) (by omega) (by omega)
      | exact M.crs _ _ (by omega) (by omega) (by omega) (by omega)
  · intro p q hp hps hq hqm
    rw [g p, g q]
    repeat' split
    all_goals first
      | (exfalso; omega)
      | exact M.left _ _ (by omega) (by omega) (by omega)
      | exact M.right _ _ (by omega) (by omega) (by omega)
      | exact M.crs _ _ (by omega) (by omega) (by omega) (by omega)
  · intro p q hp hpq hq
    rw [g p, g q]
    repeat' split
    all_goals first
      | (exfalso; omega)
      | exact M.left _ _ (by omega) (by omega) (by omega)
      | exact M.right _ _ (by omega) (by omega) (by omega)
      | exact M.crs _ _ (by omega) (by omega) (by omega) (by omega)
  · intro p q hp hpq hq
    rw [g p, g q]
    repeat' split
    all_goals first
      | (exfalso; omega)
      | exact M.left _ _ (by omega) (by omega) (by omega)
      | exact M.right _ _ (by omega) (by omega) (by omega)
      | exact M.crs _ _ (by omega) (by omega) (by omega) (by omega)
  · intro p q hp hps hq hqm
    rw [g p, g q]
    repeat' split
    all_goals first
      | (exfalso; omega)
      | exact M.left _ _ (by omega) (by omega) (by omega)
      | exact M.right _ _ (by omega) (by omega) (by omega)
      | exact M.crs _ _ (by omega) (by omega) (by omega) (by omega)
  · intro p q hp hps hq hqm
    rw [g p, g q]
    repeat' split
    all_goals first
      | (exfalso; omega)
      | exact M.left _ _ (by omega) (by omega) (by omega)
      | exact M.right _ _ (by omega) (by omega) (by omega)
      | exact lo _ _ (by omega) (by omega) (by omega) (by omega)
      | exact hS.asymmA (hi _ _ (by omega) (by omega) (by omega) (by omega))

/-- The two halves, each sorted. -/
theorem sorted_halves {a m b : Nat} {d d1 d2 : Array α} (ham : a ≤ m) (hmb : m ≤ b) (hb : b ≤ d.size) (P1 : PermIn a m d d1) (S1 : SortedIn lt a m d1) (P2 : PermIn m b d1 d2) (S2 : SortedIn lt m b d2)
    (h : ∀ i j, a ≤ i → i < m → m ≤ j → j < b → lt d[j]! d[i]! = false) : PermIn a b d d2 ∧ SortedIn lt a b d2 := by
  have hs1 : d1.size = d.size := P1.1
  have hs2 : d2.size = d1.size := P2.1
  refine ⟨permIn_trans _ _ _ _ _ (permIn_mono d d1 a m a b (Nat.le_refl _) hmb hb P1) (permIn_mono d1 d2 m b a b ham (Nat.le_refl _) (by omega) P2), ?_⟩
  have c1 : ∀ j, m ≤ j → j < b → ∀ i, a ≤ i → i < m → lt d[j]! d1[i]! = false := fun j hj hjb =>
    permIn_all d d1 a m (fun x => lt d[j]! x = false) (by omega) P1 (fun i hi him => h i j hi him hj hjb)
  have c2 : ∀ i, a ≤ i → i < m → ∀ j, m ≤ j → j < b → lt d2[j]! d1[i]! = false := fun i hi him =>
    permIn_all d1 d2 m b (fun x => lt x d1[i]! = false) (by omega) P2 (fun j hj hjb => by rw [P1.2.1 j (Or.inr hj)]; exact c1 j hj hjb i hi him)
  intro p q hp hpq hq
  by_cases hqm : q < m
  · rw [P2.2.1 p (Or.inl (by omega)), P2.2.1 q (Or.inl (by omega))]
    exact S1 p q hp hpq hqm
  · by_cases hpm : p < m
    · rw [P2.2.1 p (Or.inl hpm)]
      exact c2 p hp hpm q (by omega) hq
    · exact S2 p q (by omega) hpq hq
end Go.Sort

/- PSortA -/
/-
  The library's stable sort with a comparison, walked: swapRange and rotate.
-/
namespace Go.Proofs.Yteilcchcekmooaa.G
open Go.Shelf Go.RowKit Go.Lib Go.Sort
set_option linter.unusedVariables false
set_option linter.unusedSimpArgs false
variable {α : Type} [Inhabited α]

set_option maxHeartbeats 4000000 in
set_option maxRecDepth 1000000 in
theorem swapRange_calls (enc : α → Value) (g : Nat) (cb : Array Value) (blk off cap a b n : Nat) (d0 d : Array α) (w0 w : World)
    (R : Row1 enc w0 blk off d0) (hs : d0.size = d.size) (S : SW enc w0 blk off d w) (hab : a + n ≤ b) (hb : b + n ≤ d.size) (hsz : d.size < 4611686018427387904) :
    Calls Try.prog 43 #[.slice (some ⟨blk, off, none⟩) d.size cap, .int .i64 a, .int .i64 b, .int .i64 n, .func (.func g) #[] cb] w fun e w' => e = .returned (.tuple #[]) ∧ ∃ d', SW enc w0 blk off d' w' ∧ d'.size = d.size ∧ ∀ k, getG d' k = swG a b n (getG d) k := by
  have hcl0 := R.hO.cells
  simp only [Value.cells] at hcl0
  have hst := R.hO.store Try.prog
  have S0 : Aside (SW enc w0 blk off d w) := S
  clear S
  go_enter Try.func43, Try.ntmps43
  go_wp2
  go_loopg [10] n (fun gk vi wr => ∃ (i : Nat) (dk : Array α), vi = .int .i64 i ∧ i ≤ n ∧ n - i ≤ gk ∧ dk.size = d.size ∧ Aside (SW enc w0 blk off dk wr) ∧ Hid (∀ k, getG dk k = swG a b i (getG d) k))
  case atStart => exact ⟨0, d, rfl, by omega, by omega, rfl, S0, fun k => (swG_zero a b (getG d) k).symm⟩
  case round =>
    clear S0
    obtain ⟨i, dk, rfl, hin, hgk, hds, S1, HE⟩ := hrel
    by_cases hlt : i < n
    · have hltz : (i : Int) < (n : Int) := by omega
      go_wp2_with fail
      obtain ⟨iN, hiN⟩ : ∃ q, q = a + i := ⟨_, rfl⟩
      obtain ⟨jN, hjN⟩ : ∃ q, q = b + i := ⟨_, rfl⟩
      have ea : ((a : Int) + (i : Int)).toNat = iN := by omega
      have pa : (0 : Int) ≤ (a : Int) + (i : Int) := by omega
      have ba : (a : Int) + (i : Int) < (d.size : Int) := by omega
      have ra : IntKind.i64.wrap ((a : Int) + (i : Int)) = (a : Int) + (i : Int) := by rw [IntKind.wrap_i64]; omega
      have ec : ((b : Int) + (i : Int)).toNat = jN := by omega
      have pc : (0 : Int) ≤ (b : Int) + (i : Int) := by omega
      have bc : (b : Int) + (i : Int) < (d.size : Int) := by omega
      have rc : IntKind.i64.wrap ((b : Int) + (i : Int)) = (b : Int) + (i : Int) := by rw [IntKind.wrap_i64]; omega
      obtain ⟨x, hx⟩ : ∃ x, x = dk[a + i]! := ⟨_, rfl⟩
      obtain ⟨y, hy⟩ : ∃ x, x = dk[b + i]! := ⟨_, rfl⟩
      have S2 : Aside (SW enc w0 blk off (swp dk (a + i) (b + i)) ((wr.setCell ⟨blk, off + iN, none⟩ (enc y)).setCell ⟨blk, off + jN, none⟩ (enc x)).drew) := by rw [hiN, hjN, hx, hy]; exact S1.out.swapped R (a + i) (b + i) (by omega) (by omega)
      have ca := S1.out.c1 R (by omega) (a + i) (by omega)
      have cb' := S1.out.c1 R (by omega) (b + i) (by omega)
      have fa := S1.out.f1 R (by omega) (a + i) (by omega)
      have fb := S1.out.f1 R (by omega) (b + i) (by omega)
      obtain ⟨u, cc⟩ := S1.out.c2 R (by omega) (a + i) (b + i) (by omega) (by omega) (enc y)
      rw [← hjN, ← hiN] at cc
      rw [← hx, ← hiN] at ca
      rw [← hy, ← hjN] at cb'
      rw [← hiN] at fa
      rw [← hjN] at fb
      clear S1 hx hy hiN hjN
      go_wp2_with fail
      go_big_region
      clear ca cb' cc fa fb
      generalize ((wr.setCell ⟨blk, off + iN, none⟩ (enc y)).setCell ⟨blk, off + jN, none⟩ (enc x)).drew = w2 at S2 ⊢
      clear ea ec
      go_wp2
      go_roundg (n - (i + 1))
      case measure => omega
      case rel => exact ⟨i + 1, swp dk (a + i) (b + i), by go_num, by omega, Nat.le_refl _, by rw [size_swp]; exact hds, S2, fun k => swG_step (by omega) (by omega) HE.out k⟩
    · have hltz : ¬ (i : Int) < (n : Int) := by omega
      have hE : i = n := by omega
      subst hE
      go_wp2
      go_end0
      exact ⟨rfl, dk, S1.out, hds, HE.out⟩

set_option maxHeartbeats 4000000 in
set_option maxRecDepth 1000000 in
theorem rotate_calls (enc : α → Value) (g : Nat) (cb : Array Value) (blk off cap a m b : Nat) (d0 d : Array α) (w0 w : World)
    (R : Row1 enc w0 blk off d0) (hs : d0.size = d.size) (S : SW enc w0 blk off d w) (ham : a < m) (hmb : m < b) (hb : b ≤ d.size) (hsz : d.size < 4611686018427387904) :
    Calls Try.prog 42 #[.slice (some ⟨blk, off, none⟩) d.size cap, .int .i64 a, .int .i64 m, .int .i64 b, .func (.func g) #[] cb] w fun e w' => e = .returned (.tuple #[]) ∧ ∃ d', SW enc w0 blk off d' w' ∧ d'.size = d.size ∧ ∀ k, getG d' k = rotG a m b (getG d) k := by
  have S0 : Aside (SW enc w0 blk off d w) := S
  clear S
  go_enter Try.func42, Try.ntmps42
  go_wp2
  go_loopg [10, 11] ((m - a) + (b - m)) (fun gk s10 s11 wr => ∃ (i j : Nat) (dk : Array α), s10 = .int .i64 i ∧ s11 = .int .i64 j ∧ 0 < i ∧ 0 < j ∧ i ≤ m ∧ m + j ≤ d.size ∧ i + j ≤ gk ∧ dk.size = d.size ∧ Aside (SW enc w0 blk off dk wr) ∧ Hid (∀ k, rotG (m - i) m (m + j) (getG dk) k = rotG a m b (getG d) k))
  case atStart => exact ⟨m - a, b - m, d, by congr 1; omega, by congr 1; omega, by omega, by omega, by omega, by omega, by omega, rfl, S0, fun k => by rw [show m - (m - a) = a by omega, show m + (b - m) = b by omega]⟩
  case round =>
    clear S0
    obtain ⟨i, j, dk, rfl, rfl, hi0, hj0, him, hmj, hgk, hds, S1, HE⟩ := hrel
    rcases Nat.lt_trichotomy i j with hlt | heq | hgt
    · have h1 : ¬ (i : Int) = (j : Int) := by omega
      have h2 : ¬ (j : Int) < (i : Int) := by omega
      have hc := swapRange_calls enc g cb blk off cap (m - i) (m + j - i) i d0 dk w0 wr R (by omega) S1.out (by omega) (by omega) (by omega)
      rw [hds, show ((m - i : Nat) : Int) = (m : Int) - (i : Int) by omega, show ((m + j - i : Nat) : Int) = (m : Int) + (j : Int) - (i : Int) by omega] at hc
      go_wp2_with fail
      refine hc.mono ?_
      rintro e w2 ⟨rfl, d2, hS2, hs2, hE2⟩
      have S2 : Aside _ := hS2
      have E2 := Lib.hid hE2
      clear hS2 hE2 hc S1
      go_wp2
      go_roundg (i + (j - i))
      case measure => omega
      case rel => exact ⟨i, j - i, d2, rfl, by congr 1; omega, hi0, by omega, him, by omega, by omega, hs2, S2, fun k => (rotG_right him hlt E2.out k).trans (HE.out k)⟩
    · subst heq
      have hc := swapRange_calls enc g cb blk off cap (m - i) m i d0 dk w0 wr R (by omega) S1.out (by omega) (by omega) (by omega)
      rw [hds, show ((m - i : Nat) : Int) = (m : Int) - (i : Int) by omega] at hc
      go_wp2_with fail
      refine hc.mono ?_
      rintro e w2 ⟨rfl, d2, hS2, hs2, hE2⟩
      have S2 : Aside _ := hS2
      have E2 := Lib.hid hE2
      clear hS2 hE2 hc S1
      go_wp2
      go_end0
      exact ⟨rfl, d2, S2.out, hs2, fun k => (rotG_same him E2.out k).trans (HE.out k)⟩
    · have h1 : ¬ (i : Int) = (j : Int) := by omega
      have h2 : (j : Int) < (i : Int) := by omega
      have hc := swapRange_calls enc g cb blk off cap (m - i) m j d0 dk w0 wr R (by omega) S1.out (by omega) (by omega) (by omega)
      rw [hds, show ((m - i : Nat) : Int) = (m : Int) - (i : Int) by omega] at hc
      go_wp2_with fail
      refine hc.mono ?_
      rintro e w2 ⟨rfl, d2, hS2, hs2, hE2⟩
      have S2 : Aside _ := hS2
      have E2 := Lib.hid hE2
      clear hS2 hE2 hc S1
      go_wp2
      go_roundg ((i - j) + j)
      case measure => omega
      case rel => exact ⟨i - j, j, d2, by congr 1; omega, rfl, by omega, hj0, by omega, hmj, by omega, hs2, S2, fun k => (rotG_left him hgt E2.out k).trans (HE.out k)⟩
end Go.Proofs.Yteilcchcekmooaa.G

/- PSortB -/
/-
  The library's stable sort with a comparison, walked: symMerge. (Printed by wip/g/gsort.py.)
-/
namespace Go.Proofs.Yteilcchcekmooaa.G
open Go.Shelf Go.RowKit Go.Lib Go.Sort
set_option linter.unusedVariables false
set_option linter.unusedSimpArgs false
variable {α : Type} [Inhabited α]
def SymAt (enc : α → Value) (lt c : α → α → Bool) (g : Nat) (cb : Array Value) (blk off cap : Nat) (d0 : Array α) (w0 : World) (N : Nat) : Prop :=
  ∀ (a m b : Nat) (d : Array α) (w : World), b - a ≤ N → d0.size = d.size → SW enc w0 blk off d w → a < m → m < b → b ≤ d.size → Mrg lt c a m b d →
    Calls Try.prog 41 #[.slice (some ⟨blk, off, none⟩) d.size cap, .int .i64 a, .int .i64 m, .int .i64 b, .func (.func g) #[] cb] w fun e w' => e = .returned (.tuple #[]) ∧ ∃ d', SW enc w0 blk off d' w' ∧ d'.size = d.size ∧ PermIn a b d d' ∧ SortedIn lt a b d'

set_option maxHeartbeats 16000000 in
set_option maxRecDepth 1000000 in
theorem symMerge_one (enc : α → Value) (cf : α → α → Int) (lt : α → α → Bool) (hO : SWO lt) (g : Nat) (cb : Array Value) (blk off cap a m b : Nat) (d0 d : Array α) (w0 w : World)
    (eg : ∀ args w, (callFunc g args).run Try.prog w = .ok (.enter g args) w) (hcmp : CmpLays1 Try.prog g cb enc cf blk off d0.size w0) (R : Row1 enc w0 blk off d0) (hs : d0.size = d.size) (S : SW enc w0 blk off d w) (hb : b ≤ d.size) (hsz : d.size < 4611686018427387904) (M : Mrg lt (ltOf cf) a m b d) (hm : m = a + 1) (hmb : m < b) :
    Calls Try.prog 41 #[.slice (some ⟨blk, off, none⟩) d.size cap, .int .i64 a, .int .i64 m, .int .i64 b, .func (.func g) #[] cb] w fun e w' => e = .returned (.tuple #[]) ∧ ∃ d', SW enc w0 blk off d' w' ∧ d'.size = d.size ∧ PermIn a b d d' ∧ SortedIn lt a b d' := by
  have mixed : Try.prog.follows Departure.mixedOrders = true := by kernel_rfl
  have hcl0 := R.hO.cells
  simp only [Value.cells] at hcl0
  have hst := R.hO.store Try.prog
  have HC : Aside _ := hcmp
  have HM : Aside _ := M
  have S0 : Aside (SW enc w0 blk off d w) := S
  clear hcmp S M
  have hm1 : (m : Int) - (a : Int) = 1 := by omega
  have hm2 : ((m : Int) - (a : Int) == 1) = true := beq_iff_eq.2 hm1
  have ham : a < m := by omega
  have HMM := Lib.hid hm
  clear hm
  go_enter Try.func41, Try.ntmps41
  go_wp2
  clear hm1 hm2
  go_loopg [10, 11] (b - m) (fun gk s10 s11 wr => ∃ (i j : Nat), s10 = .int .i64 i ∧ s11 = .int .i64 j ∧ m ≤ i ∧ i ≤ j ∧ j ≤ b ∧ j - i ≤ gk ∧ Aside (SW enc w0 blk off d wr) ∧ Hid (i = m ∨ ltOf cf d[i - 1]! d[a]! = true) ∧ Hid (j = b ∨ ltOf cf d[j]! d[a]! = false))
  case atStart => exact ⟨m, b, rfl, rfl, by omega, by omega, by omega, by omega, S0, Or.inl rfl, Or.inl rfl⟩
  case round =>
    clear S0
    obtain ⟨i, j, rfl, rfl, hmi, hij, hjb, hgk, S1, HI, HJ⟩ := hrel
    by_cases hlt : i < j
    · have hltz : (i : Int) < (j : Int) := by omega
      obtain ⟨h, hh⟩ : ∃ h, h = (i + j) / 2 := ⟨_, rfl⟩
      have hz : ((i : Int) + (j : Int)) / 2 = (h : Int) := by omega
      have hih : i ≤ h ∧ h < j := by omega
      have hw1 : IntKind.i64.wrap ((i : Int) + (j : Int)) = (i : Int) + (j : Int) := by rw [IntKind.wrap_i64]; omega
      clear hh
      cases hlv : ltOf cf d[h]! d[a]! with
      | true =>
        obtain ⟨iN1, hiN1⟩ : ∃ q, q = h := ⟨_, rfl⟩
        obtain ⟨jN1, hjN1⟩ : ∃ q, q = a := ⟨_, rfl⟩
        have ea1 : ((h : Int)).toNat = iN1 := by omega
        have pa1 : (0 : Int) ≤ (h : Int) := by omega
        have ba1 : (h : Int) < (d.size : Int) := by omega
        have ra1 : IntKind.i64.wrap ((h : Int)) = (h : Int) := by rw [IntKind.wrap_i64]; omega
        have ec1 : ((a : Int)).toNat = jN1 := by omega
        have pc1 : (0 : Int) ≤ (a : Int) := by omega
        have bc1 : (a : Int) < (d.size : Int) := by omega
        have rc1 : IntKind.i64.wrap ((a : Int)) = (a : Int) := by rw [IntKind.wrap_i64]; omega
        obtain ⟨x1, hx1⟩ : ∃ x, x = d[h]! := ⟨_, rfl⟩
        obtain ⟨y1, hy1⟩ : ∃ x, x = d[a]! := ⟨_, rfl⟩
        have l1a := S1.out.cl R (by omega) (h) (by omega)
        have l1b := S1.out.cl R (by omega) (a) (by omega)
        rw [← hx1, ← hiN1] at l1a
        rw [← hy1, ← hjN1] at l1b
        have hc1 := S1.out.cmp HC.out (by omega) x1 y1
        have hv1 : cf x1 y1 < 0 := by rw [hx1, hy1]; exact of_decide_eq_true hlv
        have hd1 : decide (cf x1 y1 < 0) = true := decide_eq_true hv1
        clear hx1 hy1 hiN1 hjN1
        go_wp2_with fail
        go_quiet_grown (first | (go_at_fn g; refine Calls.grown_of (hc1 _ _)))
        have S2 : Aside (SW enc w0 blk off d (grow (wr.drewN nq) osq)) := S1.out.grown nq osq
        clear l1a l1b hc1 S1
        generalize grow (wr.drewN nq) osq = w2 at S2 ⊢
        clear nq osq
        clear ea1 ec1
        go_wp2
        go_roundg (j - (h + 1))
        case measure => omega
        case rel => exact ⟨h + 1, j, by go_num, rfl, by omega, by omega, hjb, Nat.le_refl _, S2, Or.inr hlv, HJ⟩
      | false =>
        obtain ⟨iN2, hiN2⟩ : ∃ q, q = h := ⟨_, rfl⟩
        obtain ⟨jN2, hjN2⟩ : ∃ q, q = a := ⟨_, rfl⟩
        have ea2 : ((h : Int)).toNat = iN2 := by omega
        have pa2 : (0 : Int) ≤ (h : Int) := by omega
        have ba2 : (h : Int) < (d.size : Int) := by omega
        have ra2 : IntKind.i64.wrap ((h : Int)) = (h : Int) := by rw [IntKind.wrap_i64]; omega
        have ec2 : ((a : Int)).toNat = jN2 := by omega
        have pc2 : (0 : Int) ≤ (a : Int) := by omega
        have bc2 : (a : Int) < (d.size : Int) := by omega
        have rc2 : IntKind.i64.wrap ((a : Int)) = (a : Int) := by rw [IntKind.wrap_i64]; omega
        obtain ⟨x2, hx2⟩ : ∃ x, x = d[h]! := ⟨_, rfl⟩
        obtain ⟨y2, hy2⟩ : ∃ x, x = d[a]! := ⟨_, rfl⟩
        have l2a := S1.out.cl R (by omega) (h) (by omega)
        have l2b := S1.out.cl R (by omega) (a) (by omega)
        rw [← hx2, ← hiN2] at l2a
        rw [← hy2, ← hjN2] at l2b
        have hc2 := S1.out.cmp HC.out (by omega) x2 y2
        have hv2 : ¬ cf x2 y2 < 0 := by rw [hx2, hy2]; exact of_decide_eq_false hlv
        have hd2 : decide (cf x2 y2 < 0) = false := decide_eq_false hv2
        clear hx2 hy2 hiN2 hjN2
        go_wp2_with fail
        go_quiet_grown (first | (go_at_fn g; refine Calls.grown_of (hc2 _ _)))
        have S2 : Aside (SW enc w0 blk off d (grow (wr.drewN nq) osq)) := S1.out.grown nq osq
        clear l2a l2b hc2 S1
        generalize grow (wr.drewN nq) osq = w2 at S2 ⊢
        clear nq osq
        clear ea2 ec2
        go_wp2
        go_roundg (h - i)
        case measure => omega
        case rel => exact ⟨i, h, rfl, rfl, hmi, by omega, by omega, Nat.le_refl _, S2, HI, Or.inr hlv⟩
    · have hltz : ¬ (i : Int) < (j : Int) := by omega
      obtain rfl : i = j := by omega
      obtain ⟨ip, hip⟩ : ∃ ip, i = ip + 1 := ⟨i - 1, by omega⟩
      have hipz : (i : Int) = (ip : Int) + 1 := by omega
      go_wp2
      go_loopg [13] (ip - a) (fun gk s13 wr => ∃ (k : Nat) (dk : Array α), s13 = .int .i64 k ∧ a ≤ k ∧ k ≤ ip ∧ ip - k ≤ gk ∧ dk.size = d.size ∧ Aside (SW enc w0 blk off dk wr) ∧ Hid (∀ q, getG dk q = rotG a (a + 1) (k + 1) (getG d) q))
      case atStart => exact ⟨a, d, rfl, by omega, by omega, by omega, rfl, S1, fun q => (rotG_none a (a + 1) (getG d) q).symm⟩
      case round =>
        clear S1
        obtain ⟨k, dk, rfl, hak, hki, hgk2, hds, S1, HE⟩ := hrel
        by_cases hkl : k < ip
        · have hklz : (k : Int) < (ip : Int) := by omega
          have hklz2 : (k : Int) < (ip : Int) + 1 - 1 := by omega
          obtain ⟨iN3, hiN3⟩ : ∃ q, q = k := ⟨_, rfl⟩
          obtain ⟨jN3, hjN3⟩ : ∃ q, q = k + 1 := ⟨_, rfl⟩
          have ea3 : ((k : Int)).toNat = iN3 := by omega
          have pa3 : (0 : Int) ≤ (k : Int) := by omega
          have ba3 : (k : Int) < (d.size : Int) := by omega
          have ra3 : IntKind.i64.wrap ((k : Int)) = (k : Int) := by rw [IntKind.wrap_i64]; omega
          have ec3 : ((k : Int) + 1).toNat = jN3 := by omega
          have pc3 : (0 : Int) ≤ (k : Int) + 1 := by omega
          have bc3 : (k : Int) + 1 < (d.size : Int) := by omega
          have rc3 : IntKind.i64.wrap ((k : Int) + 1) = (k : Int) + 1 := by rw [IntKind.wrap_i64]; omega
          obtain ⟨x3, hx3⟩ : ∃ x, x = dk[k]! := ⟨_, rfl⟩
          obtain ⟨y3, hy3⟩ : ∃ x, x = dk[k + 1]! := ⟨_, rfl⟩
          have S2 : Aside (SW enc w0 blk off (swp dk (k) (k + 1)) ((wr.setCell ⟨blk, off + iN3, none⟩ (enc y3)).setCell ⟨blk, off + jN3, none⟩ (enc x3)).drew) := by rw [hiN3, hjN3, hx3, hy3]; exact S1.out.swapped R (k) (k + 1) (by omega) (by omega)
          have c3a := S1.out.c1 R (by omega) (k) (by omega)
          have c3b := S1.out.c1 R (by omega) (k + 1) (by omega)
          have f3a := S1.out.f1 R (by omega) (k) (by omega)
          have f3b := S1.out.f1 R (by omega) (k + 1) (by omega)
          obtain ⟨u3, c3c⟩ := S1.out.c2 R (by omega) (k) (k + 1) (by omega) (by omega) (enc y3)
          rw [← hjN3, ← hiN3] at c3c
          rw [← hx3, ← hiN3] at c3a
          rw [← hy3, ← hjN3] at c3b
          rw [← hiN3] at f3a
          rw [← hjN3] at f3b
          clear S1 hx3 hy3 hiN3 hjN3
          go_wp2_with fail
          go_big_region
          clear c3a c3b c3c f3a f3b
          generalize ((wr.setCell ⟨blk, off + iN3, none⟩ (enc y3)).setCell ⟨blk, off + jN3, none⟩ (enc x3)).drew = w3 at S2 ⊢
          clear ea3 ec3
          go_wp2
          go_roundg (ip - (k + 1))
          case measure => omega
          case rel => exact ⟨k + 1, swp dk k (k + 1), by go_num, by omega, by omega, Nat.le_refl _, by rw [size_swp]; exact hds, S2, (show Hid _ from by
            obtain ⟨n, rfl⟩ : ∃ n, k = a + n := ⟨k - a, by omega⟩
            exact fun q => rotG_carryR (by omega) HE.out q)⟩
        · have hklz : ¬ (k : Int) < (ip : Int) := by omega
          have hklz2 : ¬ (k : Int) < (ip : Int) + 1 - 1 := by omega
          obtain rfl : k = ip := by omega
          go_wp2
          (try simp only [Exit.inBlock, Exit.then]); refine bodyPost_ret (results_none rfl _ _ _) rfl ?_
          have hE := HE.out
          rw [← hip] at hE
          have MM := HM.out
          obtain rfl := HMM.out
          exact ⟨rfl, dk, S1.out, hds, merge_one hO MM (by omega) hjb hb hds HI.out HJ.out hE⟩

set_option maxHeartbeats 16000000 in
set_option maxRecDepth 1000000 in
theorem symMerge_last (enc : α → Value) (cf : α → α → Int) (lt : α → α → Bool) (hO : SWO lt) (g : Nat) (cb : Array Value) (blk off cap a m b : Nat) (d0 d : Array α) (w0 w : World)
    (eg : ∀ args w, (callFunc g args).run Try.prog w = .ok (.enter g args) w) (hcmp : CmpLays1 Try.prog g cb enc cf blk off d0.size w0) (R : Row1 enc w0 blk off d0) (hs : d0.size = d.size) (S : SW enc w0 blk off d w) (hb : b ≤ d.size) (hsz : d.size < 4611686018427387904) (M : Mrg lt (ltOf cf) a m b d) (hmb0 : b = m + 1) (ham : a < m) (hma : ¬ m = a + 1) :
    Calls Try.prog 41 #[.slice (some ⟨blk, off, none⟩) d.size cap, .int .i64 a, .int .i64 m, .int .i64 b, .func (.func g) #[] cb] w fun e w' => e = .returned (.tuple #[]) ∧ ∃ d', SW enc w0 blk off d' w' ∧ d'.size = d.size ∧ PermIn a b d d' ∧ SortedIn lt a b d' := by
  have mixed : Try.prog.follows Departure.mixedOrders = true := by kernel_rfl
  have hcl0 := R.hO.cells
  simp only [Value.cells] at hcl0
  have hst := R.hO.store Try.prog
  have HC : Aside _ := hcmp
  have HM : Aside _ := M
  have S0 : Aside (SW enc w0 blk off d w) := S
  clear hcmp S M
  have hm1 : ¬ (m : Int) - (a : Int) = 1 := by omega
  have hm2 : ((m : Int) - (a : Int) == 1) = false := beq_eq_false_iff_ne.2 hm1
  have hn1 : (b : Int) - (m : Int) = 1 := by omega
  have hn2 : ((b : Int) - (m : Int) == 1) = true := beq_iff_eq.2 hn1
  have hmb : m < b := by omega
  have HMM := Lib.hid hmb0
  clear hmb0 hma
  go_enter Try.func41, Try.ntmps41
  go_wp2
  clear hm1 hm2 hn1 hn2
  go_loopg [14, 15] (m - a) (fun gk s10 s11 wr => ∃ (i j : Nat), s10 = .int .i64 i ∧ s11 = .int .i64 j ∧ a ≤ i ∧ i ≤ j ∧ j ≤ m ∧ j - i ≤ gk ∧ Aside (SW enc w0 blk off d wr) ∧ Hid (i = a ∨ ltOf cf d[m]! d[i - 1]! = false) ∧ Hid (j = m ∨ ltOf cf d[m]! d[j]! = true))
  case atStart => exact ⟨a, m, rfl, rfl, by omega, by omega, by omega, by omega, S0, Or.inl rfl, Or.inl rfl⟩
  case round =>
    clear S0
    obtain ⟨i, j, rfl, rfl, hmi, hij, hjb, hgk, S1, HI, HJ⟩ := hrel
    by_cases hlt : i < j
    · have hltz : (i : Int) < (j : Int) := by omega
      obtain ⟨h, hh⟩ : ∃ h, h = (i + j) / 2 := ⟨_, rfl⟩
      have hz : ((i : Int) + (j : Int)) / 2 = (h : Int) := by omega
      have hih : i ≤ h ∧ h < j := by omega
      have hw1 : IntKind.i64.wrap ((i : Int) + (j : Int)) = (i : Int) + (j : Int) := by rw [IntKind.wrap_i64]; omega
      clear hh
      cases hlv : ltOf cf d[m]! d[h]! with
      | false =>
        obtain ⟨iN4, hiN4⟩ : ∃ q, q = m := ⟨_, rfl⟩
        obtain ⟨jN4, hjN4⟩ : ∃ q, q = h := ⟨_, rfl⟩
        have ea4 : ((m : Int)).toNat = iN4 := by omega
        have pa4 : (0 : Int) ≤ (m : Int) := by omega
        have ba4 : (m : Int) < (d.size : Int) := by omega
        have ra4 : IntKind.i64.wrap ((m : Int)) = (m : Int) := by rw [IntKind.wrap_i64]; omega
        have ec4 : ((h : Int)).toNat = jN4 := by omega
        have pc4 : (0 : Int) ≤ (h : Int) := by omega
        have bc4 : (h : Int) < (d.size : Int) := by omega
        have rc4 : IntKind.i64.wrap ((h : Int)) = (h : Int) := by rw [IntKind.wrap_i64]; omega
        obtain ⟨x4, hx4⟩ : ∃ x, x = d[m]! := ⟨_, rfl⟩
        obtain ⟨y4, hy4⟩ : ∃ x, x = d[h]! := ⟨_, rfl⟩
        have l4a := S1.out.cl R (by omega) (m) (by omega)
        have l4b := S1.out.cl R (by omega) (h) (by omega)
        rw [← hx4, ← hiN4] at l4a
        rw [← hy4, ← hjN4] at l4b
        have hc4 := S1.out.cmp HC.out (by omega) x4 y4
        have hv4 : ¬ cf x4 y4 < 0 := by rw [hx4, hy4]; exact of_decide_eq_false hlv
        have hd4 : decide (cf x4 y4 < 0) = false := decide_eq_false hv4
        clear hx4 hy4 hiN4 hjN4
        go_wp2_with fail
        go_quiet_grown (first | (go_at_fn g; refine Calls.grown_of (hc4 _ _)))
        have S2 : Aside (SW enc w0 blk off d (grow (wr.drewN nq) osq)) := S1.out.grown nq osq
        clear l4a l4b hc4 S1
        generalize grow (wr.drewN nq) osq = w2 at S2 ⊢
        clear nq osq
        clear ea4 ec4
        go_wp2
        go_roundg (j - (h + 1))
        case measure => omega
        case rel => exact ⟨h + 1, j, by go_num, rfl, by omega, by omega, hjb, Nat.le_refl _, S2, Or.inr hlv, HJ⟩
      | true =>
        obtain ⟨iN5, hiN5⟩ : ∃ q, q = m := ⟨_, rfl⟩
        obtain ⟨jN5, hjN5⟩ : ∃ q, q = h := ⟨_, rfl⟩
        have ea5 : ((m : Int)).toNat = iN5 := by omega
        have pa5 : (0 : Int) ≤ (m : Int) := by omega
        have ba5 : (m : Int) < (d.size : Int) := by omega
        have ra5 : IntKind.i64.wrap ((m : Int)) = (m : Int) := by rw [IntKind.wrap_i64]; omega
        have ec5 : ((h : Int)).toNat = jN5 := by omega
        have pc5 : (0 : Int) ≤ (h : Int) := by omega
        have bc5 : (h : Int) < (d.size : Int) := by omega
        have rc5 : IntKind.i64.wrap ((h : Int)) = (h : Int) := by rw [IntKind.wrap_i64]; omega
        obtain ⟨x5, hx5⟩ : ∃ x, x = d[m]! := ⟨_, rfl⟩
        obtain ⟨y5, hy5⟩ : ∃ x, x = d[h]! := ⟨_, rfl⟩
        have l5a := S1.out.cl R (by omega) (m) (by omega)
        have l5b := S1.out.cl R (by omega) (h) (by omega)
        rw [← hx5, ← hiN5] at l5a
        rw [← hy5, ← hjN5] at l5b
        have hc5 := S1.out.cmp HC.out (by omega) x5 y5
        have hv5 : cf x5 y5 < 0 := by rw [hx5, hy5]; exact of_decide_eq_true hlv
        have hd5 : decide (cf x5 y5 < 0) = true := decide_eq_true hv5
        clear hx5 hy5 hiN5 hjN5
        go_wp2_with fail
        go_quiet_grown (first | (go_at_fn g; refine Calls.grown_of (hc5 _ _)))
        have S2 : Aside (SW enc w0 blk off d (grow (wr.drewN nq) osq)) := S1.out.grown nq osq
        clear l5a l5b hc5 S1
        generalize grow (wr.drewN nq) osq = w2 at S2 ⊢
        clear nq osq
        clear ea5 ec5
        go_wp2
        go_roundg (h - i)
        case measure => omega
        case rel => exact ⟨i, h, rfl, rfl, hmi, by omega, by omega, Nat.le_refl _, S2, HI, Or.inr hlv⟩
    · have hltz : ¬ (i : Int) < (j : Int) := by omega
      obtain rfl : i = j := by omega
      go_wp2
      go_loopg [17] (m - i) (fun gk s13 wr => ∃ (k : Nat) (dk : Array α), s13 = .int .i64 k ∧ i ≤ k ∧ k ≤ m ∧ k - i ≤ gk ∧ dk.size = d.size ∧ Aside (SW enc w0 blk off dk wr) ∧ Hid (∀ q, getG dk q = rotG k m (m + 1) (getG d) q))
      case atStart => exact ⟨m, d, rfl, by omega, by omega, by omega, rfl, S1, fun q => (rotG_none' m (m + 1) (by omega) (getG d) q).symm⟩
      case round =>
        clear S1
        obtain ⟨k, dk, rfl, hak, hki, hgk2, hds, S1, HE⟩ := hrel
        by_cases hkl : i < k
        · have hklz : (i : Int) < (k : Int) := by omega
          obtain ⟨kp, hkp⟩ : ∃ kp, k = kp + 1 := ⟨k - 1, by omega⟩
          subst hkp
          have hklz2 : (i : Int) < (kp : Int) + 1 := by omega
          have hdk : decide ((kp : Int) + 1 > (i : Int)) = true := decide_eq_true (by omega)
          obtain ⟨iN6, hiN6⟩ : ∃ q, q = kp + 1 := ⟨_, rfl⟩
          obtain ⟨jN6, hjN6⟩ : ∃ q, q = kp := ⟨_, rfl⟩
          have ea6 : ((kp : Int) + 1).toNat = iN6 := by omega
          have pa6 : (0 : Int) ≤ (kp : Int) + 1 := by omega
          have ba6 : (kp : Int) + 1 < (d.size : Int) := by omega
          have ra6 : IntKind.i64.wrap ((kp : Int) + 1) = (kp : Int) + 1 := by rw [IntKind.wrap_i64]; omega
          have ec6 : ((kp : Int)).toNat = jN6 := by omega
          have pc6 : (0 : Int) ≤ (kp : Int) := by omega
          have bc6 : (kp : Int) < (d.size : Int) := by omega
          have rc6 : IntKind.i64.wrap ((kp : Int)) = (kp : Int) := by rw [IntKind.wrap_i64]; omega
          obtain ⟨x6, hx6⟩ : ∃ x, x = dk[kp + 1]! := ⟨_, rfl⟩
          obtain ⟨y6, hy6⟩ : ∃ x, x = dk[kp]! := ⟨_, rfl⟩
          have S2 : Aside (SW enc w0 blk off (swp dk (kp + 1) (kp)) ((wr.setCell ⟨blk, off + iN6, none⟩ (enc y6)).setCell ⟨blk, off + jN6, none⟩ (enc x6)).drew) := by rw [hiN6, hjN6, hx6, hy6]; exact S1.out.swapped R (kp + 1) (kp) (by omega) (by omega)
          have c6a := S1.out.c1 R (by omega) (kp + 1) (by omega)
          have c6b := S1.out.c1 R (by omega) (kp) (by omega)
          have f6a := S1.out.f1 R (by omega) (kp + 1) (by omega)
          have f6b := S1.out.f1 R (by omega) (kp) (by omega)
          obtain ⟨u6, c6c⟩ := S1.out.c2 R (by omega) (kp + 1) (kp) (by omega) (by omega) (enc y6)
          rw [← hiN6, ← hjN6] at c6c
          rw [← hx6, ← hiN6] at c6a
          rw [← hy6, ← hjN6] at c6b
          rw [← hiN6] at f6a
          rw [← hjN6] at f6b
          clear S1 hx6 hy6 hiN6 hjN6
          go_wp2_with fail
          go_big_region
          clear c6a c6b c6c f6a f6b
          generalize ((wr.setCell ⟨blk, off + iN6, none⟩ (enc y6)).setCell ⟨blk, off + jN6, none⟩ (enc x6)).drew = w3 at S2 ⊢
          clear ea6 ec6
          go_wp2
          go_roundg (kp - i)
          case measure => omega
          case rel => exact ⟨kp, swp dk (kp + 1) kp, by first | rfl | go_num | (congr 1; omega), by omega, by omega, Nat.le_refl _, by rw [size_swp]; exact hds, S2, (show Hid _ from fun q => rotG_carryL (by omega) (by omega) HE.out q)⟩
        · have hklz : ¬ (i : Int) < (k : Int) := by omega
          obtain rfl : i = k := by omega
          go_wp2
          (try simp only [Exit.inBlock, Exit.then]); refine bodyPost_ret (results_none rfl _ _ _) rfl ?_
          have hE := HE.out
          have MM := HM.out
          obtain rfl := HMM.out
          exact ⟨rfl, dk, S1.out, hds, merge_last hO MM hmi hjb hb hds HI.out HJ.out hE⟩
end Go.Proofs.Yteilcchcekmooaa.G

/- PSortC -/
/-
  The library's stable sort with a comparison, walked: symMerge, the halves. (Printed by wip/g/gsort.py.)
-/
namespace Go.Proofs.Yteilcchcekmooaa.G
open Go.Shelf Go.RowKit Go.Lib Go.Sort
set_option linter.unusedVariables false
set_option linter.unusedSimpArgs false
variable {α : Type} [Inhabited α]

set_option maxHeartbeats 16000000 in
set_option maxRecDepth 1000000 in
theorem symMerge_up (enc : α → Value) (cf : α → α → Int) (lt : α → α → Bool) (hO : SWO lt) (g : Nat) (cb : Array Value) (blk off cap a m b : Nat) (d0 d : Array α) (w0 w : World)
    (eg : ∀ args w, (callFunc g args).run Try.prog w = .ok (.enter g args) w) (hcmp : CmpLays1 Try.prog g cb enc cf blk off d0.size w0) (R : Row1 enc w0 blk off d0) (hs : d0.size = d.size) (S : SW enc w0 blk off d w) (hb : b ≤ d.size) (hsz : d.size < 4611686018427387904) (M : Mrg lt (ltOf cf) a m b d) (hma : ¬ m = a + 1) (hmb : ¬ b = m + 1) (ham : a < m) (hmb2 : m < b) (cap_ : cap = cap) (N : Nat) (IH : SymAt enc lt (ltOf cf) g cb blk off cap d0 w0 N) (hN : b - a ≤ N + 1) (hmid : (a + b) / 2 < m) :
    Calls Try.prog 41 #[.slice (some ⟨blk, off, none⟩) d.size cap, .int .i64 a, .int .i64 m, .int .i64 b, .func (.func g) #[] cb] w fun e w' => e = .returned (.tuple #[]) ∧ ∃ d', SW enc w0 blk off d' w' ∧ d'.size = d.size ∧ PermIn a b d d' ∧ SortedIn lt a b d' := by
  have mixed : Try.prog.follows Departure.mixedOrders = true := by kernel_rfl
  have hcl0 := R.hO.cells
  simp only [Value.cells] at hcl0
  have hst := R.hO.store Try.prog
  have HC : Aside _ := hcmp
  have HM : Aside _ := M
  have S0 : Aside (SW enc w0 blk off d w) := S
  clear hcmp S M
  have HIH : Aside _ := IH
  have hm1 : ¬ (m : Int) - (a : Int) = 1 := by omega
  have hm2 : ((m : Int) - (a : Int) == 1) = false := beq_eq_false_iff_ne.2 hm1
  have hn1 : ¬ (b : Int) - (m : Int) = 1 := by omega
  have hn2 : ((b : Int) - (m : Int) == 1) = false := beq_eq_false_iff_ne.2 hn1
  obtain ⟨mid, hmd⟩ : ∃ mid, mid = (a + b) / 2 := ⟨_, rfl⟩
  have hmdz : ((a : Int) + (b : Int)) / 2 = (mid : Int) := by omega
  have hmw : IntKind.i64.wrap ((a : Int) + (b : Int)) = (a : Int) + (b : Int) := by rw [IntKind.wrap_i64]; omega
  have hmi : a < mid ∧ mid < b ∧ a + b ≤ 2 * mid + 1 ∧ 2 * mid ≤ a + b := by omega
  have hmc : (mid : Int) < (m : Int) := by omega
  obtain ⟨lo, hlo⟩ : ∃ lo, lo = (mid + m - b) := ⟨_, rfl⟩
  obtain ⟨hi, hhi⟩ : ∃ hi, hi = mid := ⟨_, rfl⟩
  have hloz : (lo : Int) = (mid : Int) + (m : Int) - (b : Int) := by omega
  have hlh : a ≤ lo ∧ lo ≤ hi ∧ hi ≤ m ∧ hi ≤ mid ∧ mid + m ≤ lo + b ∧ m + hi ≤ mid + m := by omega
  have HLO : Hid (lo = a ∨ mid + m = lo + b) := by unfold Hid; omega
  have HHI : Hid (hi = m ∨ hi = mid) := by unfold Hid; omega
  have HLZ := Lib.hid hloz
  have HHZ := Lib.hid hhi
  obtain ⟨pN, hpn⟩ : ∃ pN, pN + 1 = mid + m := ⟨mid + m - 1, by omega⟩
  have hpz : (mid : Int) + (m : Int) - 1 = (pN : Int) := by omega
  clear hma hmb hmid hmd hlo hhi hloz IH
  go_enter Try.func41, Try.ntmps41
  go_wp2
  clear hm1 hm2 hn1 hn2 hmdz hmw hmc hpz
  go_loopg [20, 21] (hi - lo) (fun gk s10 s11 wr => ∃ (i j : Nat), s10 = .int .i64 i ∧ s11 = .int .i64 j ∧ lo ≤ i ∧ i ≤ j ∧ j ≤ hi ∧ j - i ≤ gk ∧ Aside (SW enc w0 blk off d wr) ∧ Hid (i = lo ∨ ltOf cf d[mid + m - i]! d[i - 1]! = false) ∧ Hid (j = hi ∨ ltOf cf d[pN - j]! d[j]! = true))
  case atStart => exact ⟨lo, hi, by rw [HLZ.out], by rw [HHZ.out], by omega, by omega, by omega, by omega, S0, Or.inl rfl, Or.inl rfl⟩
  case round =>
    clear S0
    obtain ⟨i, j, rfl, rfl, hli, hij, hjb, hgk, S1, HI, HJ⟩ := hrel
    by_cases hlt : i < j
    · have hltz : (i : Int) < (j : Int) := by omega
      obtain ⟨h, hh⟩ : ∃ h, h = (i + j) / 2 := ⟨_, rfl⟩
      have hz : ((i : Int) + (j : Int)) / 2 = (h : Int) := by omega
      have hih : i ≤ h ∧ h < j := by omega
      have hw1 : IntKind.i64.wrap ((i : Int) + (j : Int)) = (i : Int) + (j : Int) := by rw [IntKind.wrap_i64]; omega
      clear hh
      obtain ⟨q, hq⟩ : ∃ q, q + h = pN := ⟨pN - h, by omega⟩
      have hqz : (pN : Int) - (h : Int) = (q : Int) := by omega
      cases hlv : ltOf cf d[q]! d[h]! with
      | false =>
        obtain ⟨iN7, hiN7⟩ : ∃ z_, z_ = q := ⟨_, rfl⟩
        obtain ⟨jN7, hjN7⟩ : ∃ z_, z_ = h := ⟨_, rfl⟩
        have ea7 : ((q : Int)).toNat = iN7 := by omega
        have pa7 : (0 : Int) ≤ (q : Int) := by omega
        have ba7 : (q : Int) < (d.size : Int) := by omega
        have ra7 : IntKind.i64.wrap ((q : Int)) = (q : Int) := by rw [IntKind.wrap_i64]; omega
        have ec7 : ((h : Int)).toNat = jN7 := by omega
        have pc7 : (0 : Int) ≤ (h : Int) := by omega
        have bc7 : (h : Int) < (d.size : Int) := by omega
        have rc7 : IntKind.i64.wrap ((h : Int)) = (h : Int) := by rw [IntKind.wrap_i64]; omega
        obtain ⟨x7, hx7⟩ : ∃ z_, z_ = d[q]! := ⟨_, rfl⟩
        obtain ⟨y7, hy7⟩ : ∃ z_, z_ = d[h]! := ⟨_, rfl⟩
        have l7a := S1.out.cl R (by omega) (q) (by omega)
        have l7b := S1.out.cl R (by omega) (h) (by omega)
        rw [← hx7, ← hiN7] at l7a
        rw [← hy7, ← hjN7] at l7b
        have hc7 := S1.out.cmp HC.out (by omega) x7 y7
        have hv7 : ¬ cf x7 y7 < 0 := by rw [hx7, hy7]; exact of_decide_eq_false hlv
        have hd7 : decide (cf x7 y7 < 0) = false := decide_eq_false hv7
        clear hx7 hy7 hiN7 hjN7
        go_wp2_with fail
        go_quiet_grown (first | (go_at_fn g; refine Calls.grown_of (hc7 _ _)))
        have S2 : Aside (SW enc w0 blk off d (grow (wr.drewN nq) osq)) := S1.out.grown nq osq
        clear l7a l7b hc7 S1
        generalize grow (wr.drewN nq) osq = w2 at S2 ⊢
        clear nq osq
        clear ea7 ec7
        go_wp2
        go_roundg (j - (h + 1))
        case measure => omega
        case rel => exact ⟨h + 1, j, by go_num, rfl, by omega, by omega, hjb, Nat.le_refl _, S2, Or.inr (by rw [show mid + m - (h + 1) = q by omega]; exact hlv), HJ⟩
      | true =>
        obtain ⟨iN8, hiN8⟩ : ∃ z_, z_ = q := ⟨_, rfl⟩
        obtain ⟨jN8, hjN8⟩ : ∃ z_, z_ = h := ⟨_, rfl⟩
        have ea8 : ((q : Int)).toNat = iN8 := by omega
        have pa8 : (0 : Int) ≤ (q : Int) := by omega
        have ba8 : (q : Int) < (d.size : Int) := by omega
        have ra8 : IntKind.i64.wrap ((q : Int)) = (q : Int) := by rw [IntKind.wrap_i64]; omega
        have ec8 : ((h : Int)).toNat = jN8 := by omega
        have pc8 : (0 : Int) ≤ (h : Int) := by omega
        have bc8 : (h : Int) < (d.size : Int) := by omega
        have rc8 : IntKind.i64.wrap ((h : Int)) = (h : Int) := by rw [IntKind.wrap_i64]; omega
        obtain ⟨x8, hx8⟩ : ∃ z_, z_ = d[q]! := ⟨_, rfl⟩
        obtain ⟨y8, hy8⟩ : ∃ z_, z_ = d[h]! := ⟨_, rfl⟩
        have l8a := S1.out.cl R (by omega) (q) (by omega)
        have l8b := S1.out.cl R (by omega) (h) (by omega)
        rw [← hx8, ← hiN8] at l8a
        rw [← hy8, ← hjN8] at l8b
        have hc8 := S1.out.cmp HC.out (by omega) x8 y8
        have hv8 : cf x8 y8 < 0 := by rw [hx8, hy8]; exact of_decide_eq_true hlv
        have hd8 : decide (cf x8 y8 < 0) = true := decide_eq_true hv8
        clear hx8 hy8 hiN8 hjN8
        go_wp2_with fail
        go_quiet_grown (first | (go_at_fn g; refine Calls.grown_of (hc8 _ _)))
        have S2 : Aside (SW enc w0 blk off d (grow (wr.drewN nq) osq)) := S1.out.grown nq osq
        clear l8a l8b hc8 S1
        generalize grow (wr.drewN nq) osq = w2 at S2 ⊢
        clear nq osq
        clear ea8 ec8
        go_wp2
        go_roundg (h - i)
        case measure => omega
        case rel => exact ⟨i, h, rfl, rfl, hli, by omega, by omega, Nat.le_refl _, S2, HI, Or.inr (by rw [show pN - h = q by omega]; exact hlv)⟩
    · have hltz : ¬ (i : Int) < (j : Int) := by omega
      obtain rfl : i = j := by omega
      obtain ⟨en, hen⟩ : ∃ en, en = mid + m - i := ⟨_, rfl⟩
      have henz : (mid : Int) + (m : Int) - (i : Int) = (en : Int) := by omega
      have hee : i + en = mid + m := by omega
      have HEN := Lib.hid hen
      clear hen
      have H1 : Hid (i = a ∨ en = b ∨ ltOf cf d[en]! d[i - 1]! = false) := by
        rcases HI.out with h | h
        · rcases HLO.out with h2 | h2
          · exact Or.inl (by omega)
          · exact Or.inr (Or.inl (by omega))
        · exact Or.inr (Or.inr (by rw [HEN.out]; exact h))
      have H2 : Hid (i = m ∨ en = m ∨ ltOf cf d[en - 1]! d[i]! = true) := by
        rcases HJ.out with h | h
        · rcases HHI.out with h2 | h2
          · exact Or.inl (by omega)
          · exact Or.inr (Or.inl (by omega))
        · exact Or.inr (Or.inr (by rw [show en - 1 = pN - i by omega]; exact h))
      have heq : mid = i + (en - m) := by omega
      have him : i ≤ m ∧ m ≤ en ∧ en ≤ b ∧ mid ≤ en ∧ i ≤ mid ∧ a ≤ i := by omega
      have FIN : Aside (∀ (d1 : Array α) (wx : World), SW enc w0 blk off d1 wx → d1.size = d.size → (∀ k, getG d1 k = rotG i m en (getG d) k) → PermIn a b d d1 ∧ Mrg lt (ltOf cf) a i mid d1 ∧ Mrg lt (ltOf cf) mid en b d1 ∧ (∀ p q, a ≤ p → p < mid → mid ≤ q → q < b → lt d1[q]! d1[p]! = false)) := fun d1 wx _ hd1 hE => by
        have := merge_cut hO HM.out him.2.2.2.2.2 him.1 him.2.1 him.2.2.1 hb hd1 H1.out H2.out hE
        rwa [← heq] at this
      clear HI HJ H1 H2 HLO HHI HLZ HHZ hlh HEN heq hee
      by_cases hro : i < m ∧ m < en
      · have hro1 : (i : Int) < (m : Int) := by omega
        have hro2 : (m : Int) < (en : Int) := by omega
        have hc := rotate_calls enc g cb blk off cap i m en d0 d w0 wr R hs S1.out (by omega) (by omega) (by omega) hsz
        go_wp2_with fail
        refine hc.mono ?_
        rintro e w3 ⟨rfl, d1, hS2, hsd1, hE1⟩
        have S2 : Aside _ := hS2
        have HE := Lib.hid hE1
        clear hS2 hE1 hc S1
        obtain ⟨hP1, hML, hMR, hX⟩ := FIN.out d1 _ S2.out hsd1 HE.out
        have P1 := Lib.hid hP1
        have HX := Lib.hid hX
        have ML := Lib.hid hML
        have MR1 := Lib.hid hMR
        clear hP1 hML hMR hX HE FIN
        by_cases hl : a < i ∧ i < mid
        · have hl1 : (a : Int) < (i : Int) := by omega
          have hl2 : (i : Int) < (mid : Int) := by omega
          have hc := HIH.out a i mid d1 _ (by omega) (by omega) S2.out (by omega) (by omega) (by omega) ML.out
          rw [hsd1] at hc
          go_wp2_with fail
          refine hc.mono ?_
          rintro e w4 ⟨rfl, d2, hS2, hsd2, hP2, hO2⟩
          have S3 : Aside _ := hS2
          have PL := Lib.hid hP2
          have SL := Lib.hid hO2
          have MR : Hid (Mrg lt (ltOf cf) mid en b d2) := by
            have h := MR1.out
            have hk : ∀ k, mid ≤ k → d2[k]! = d1[k]! := fun k hk => PL.out.2.1 k (Or.inr hk)
            exact ⟨fun p q h1 h2 h3 => by rw [hk p h1, hk q (by omega)]; exact h.left p q h1 h2 h3, fun p q h1 h2 h3 => by rw [hk p (by omega), hk q (by omega)]; exact h.right p q h1 h2 h3, fun p q h1 h2 h3 h4 => by rw [hk p h1, hk q (by omega)]; exact h.crs p q h1 h2 h3 h4⟩
          clear hS2 hP2 hO2 hc S2
          by_cases hr : mid < en ∧ en < b
          · have hr1 : (mid : Int) < (en : Int) := by omega
            have hr2 : (en : Int) < (b : Int) := by omega
            have hc := HIH.out mid en b d2 _ (by omega) (by omega) S3.out (by omega) (by omega) (by omega) MR.out
            rw [hsd2] at hc
            go_wp2_with fail
            all_goals
              refine hc.mono ?_
              rintro e w5 ⟨rfl, d3, hS3, hs3, hP3, hO3⟩
              have hA : Aside _ := hS3
              have hB := Lib.hid (sorted_halves (lt := lt) (a := a) (m := mid) (b := b) (by omega) (by omega) (by omega) PL.out SL.out hP3 hO3 HX.out)
              clear hS3 hP3 hO3 hc
              go_wp2
              all_goals (go_end0; exact ⟨rfl, d3, hA.out, by omega, permIn_trans _ _ _ _ _ P1.out hB.out.1, hB.out.2⟩)
          · have hB := Lib.hid (sorted_halves (lt := lt) (a := a) (m := mid) (b := b) (by omega) (by omega) (by omega) PL.out SL.out (permIn_refl d2 mid b) (show SortedIn lt mid b d2 by
              have MR2 := MR.out
              by_cases h1 : mid < en
              · have : en = b := by omega
                rw [← this]; exact MR2.left
              · have : en = mid := by omega
                rw [this] at MR2; exact MR2.right) HX.out)
            by_cases hr0 : mid < en
            · have hr1 : (mid : Int) < (en : Int) := by omega
              have hr2 : ¬ (en : Int) < (b : Int) := by omega
              go_wp2
              all_goals (go_end0; exact ⟨rfl, d2, S3.out, by omega, permIn_trans _ _ _ _ _ P1.out hB.out.1, hB.out.2⟩)
            · have hr1 : ¬ (mid : Int) < (en : Int) := by omega
              go_wp2
              all_goals (go_end0; exact ⟨rfl, d2, S3.out, by omega, permIn_trans _ _ _ _ _ P1.out hB.out.1, hB.out.2⟩)
        · obtain ⟨d2, hd2⟩ : ∃ d2, d2 = d1 := ⟨_, rfl⟩
          have PL : Hid (PermIn a mid d1 d2) := by rw [hd2]; exact permIn_refl d1 a mid
          have SL : Hid (SortedIn lt a mid d2) := by
            rw [hd2]
            have h := ML.out
            by_cases h1 : a < i
            · have : i = mid := by omega
              rw [← this]; exact h.left
            · have : i = a := by omega
              rw [this] at h; exact h.right
          have MR : Hid (Mrg lt (ltOf cf) mid en b d2) := by rw [hd2]; exact MR1.out
          rw [← hd2] at S2
          have S3 := S2
          have hsd2 : d2.size = d.size := by rw [hd2]; exact hsd1
          clear hd2 S2
          by_cases hl0 : a < i
          · have hl1 : (a : Int) < (i : Int) := by omega
            have hl2 : ¬ (i : Int) < (mid : Int) := by omega
            by_cases hr : mid < en ∧ en < b
            · have hr1 : (mid : Int) < (en : Int) := by omega
              have hr2 : (en : Int) < (b : Int) := by omega
              have hc := HIH.out mid en b d2 _ (by omega) (by omega) S3.out (by omega) (by omega) (by omega) MR.out
              rw [hsd2] at hc
              go_wp2_with fail
              all_goals
                refine hc.mono ?_
                rintro e w5 ⟨rfl, d3, hS3, hs3, hP3, hO3⟩
                have hA : Aside _ := hS3
                have hB := Lib.hid (sorted_halves (lt := lt) (a := a) (m := mid) (b := b) (by omega) (by omega) (by omega) PL.out SL.out hP3 hO3 HX.out)
                clear hS3 hP3 hO3 hc
                go_wp2
                all_goals (go_end0; exact ⟨rfl, d3, hA.out, by omega, permIn_trans _ _ _ _ _ P1.out hB.out.1, hB.out.2⟩)
            · have hB := Lib.hid (sorted_halves (lt := lt) (a := a) (m := mid) (b := b) (by omega) (by omega) (by omega) PL.out SL.out (permIn_refl d2 mid b) (show SortedIn lt mid b d2 by
                have MR2 := MR.out
                by_cases h1 : mid < en
                · have : en = b := by omega
                  rw [← this]; exact MR2.left
                · have : en = mid := by omega
                  rw [this] at MR2; exact MR2.right) HX.out)
              by_cases hr0 : mid < en
              · have hr1 : (mid : Int) < (en : Int) := by omega
                have hr2 : ¬ (en : Int) < (b : Int) := by omega
                go_wp2
                all_goals (go_end0; exact ⟨rfl, d2, S3.out, by omega, permIn_trans _ _ _ _ _ P1.out hB.out.1, hB.out.2⟩)
              · have hr1 : ¬ (mid : Int) < (en : Int) := by omega
                go_wp2
                all_goals (go_end0; exact ⟨rfl, d2, S3.out, by omega, permIn_trans _ _ _ _ _ P1.out hB.out.1, hB.out.2⟩)
          · have hl1 : ¬ (a : Int) < (i : Int) := by omega
            by_cases hr : mid < en ∧ en < b
            · have hr1 : (mid : Int) < (en : Int) := by omega
              have hr2 : (en : Int) < (b : Int) := by omega
              have hc := HIH.out mid en b d2 _ (by omega) (by omega) S3.out (by omega) (by omega) (by omega) MR.out
              rw [hsd2] at hc
              go_wp2_with fail
              all_goals
                refine hc.mono ?_
                rintro e w5 ⟨rfl, d3, hS3, hs3, hP3, hO3⟩
                have hA : Aside _ := hS3
                have hB := Lib.hid (sorted_halves (lt := lt) (a := a) (m := mid) (b := b) (by omega) (by omega) (by omega) PL.out SL.out hP3 hO3 HX.out)
                clear hS3 hP3 hO3 hc
                go_wp2
                all_goals (go_end0; exact ⟨rfl, d3, hA.out, by omega, permIn_trans _ _ _ _ _ P1.out hB.out.1, hB.out.2⟩)
            · have hB := Lib.hid (sorted_halves (lt := lt) (a := a) (m := mid) (b := b) (by omega) (by omega) (by omega) PL.out SL.out (permIn_refl d2 mid b) (show SortedIn lt mid b d2 by
                have MR2 := MR.out
                by_cases h1 : mid < en
                · have : en = b := by omega
                  rw [← this]; exact MR2.left
                · have : en = mid := by omega
                  rw [this] at MR2; exact MR2.right) HX.out)
              by_cases hr0 : mid < en
              · have hr1 : (mid : Int) < (en : Int) := by omega
                have hr2 : ¬ (en : Int) < (b : Int) := by omega
                go_wp2
                all_goals (go_end0; exact ⟨rfl, d2, S3.out, by omega, permIn_trans _ _ _ _ _ P1.out hB.out.1, hB.out.2⟩)
              · have hr1 : ¬ (mid : Int) < (en : Int) := by omega
                go_wp2
                all_goals (go_end0; exact ⟨rfl, d2, S3.out, by omega, permIn_trans _ _ _ _ _ P1.out hB.out.1, hB.out.2⟩)
      · obtain ⟨d1, hd1⟩ : ∃ d1, d1 = d := ⟨_, rfl⟩
        have HE : Hid (∀ k, getG d1 k = rotG i m en (getG d) k) := fun k => by
          rw [hd1]
          by_cases h1 : i < m
          · have : en = m := by omega
            rw [this, rotG_none]
          · have : i = m := by omega
            rw [this, rotG_none' m en him.2.1]
        have hsd1 : d1.size = d.size := by rw [hd1]
        have S2 : Aside (SW enc w0 blk off d1 wr) := by rw [hd1]; exact S1
        clear S1 hd1
        by_cases hro0 : i < m
        · have hro1 : (i : Int) < (m : Int) := by omega
          have hro2 : ¬ (m : Int) < (en : Int) := by omega
          obtain ⟨hP1, hML, hMR, hX⟩ := FIN.out d1 _ S2.out hsd1 HE.out
          have P1 := Lib.hid hP1
          have HX := Lib.hid hX
          have ML := Lib.hid hML
          have MR1 := Lib.hid hMR
          clear hP1 hML hMR hX HE FIN
          by_cases hl : a < i ∧ i < mid
          · have hl1 : (a : Int) < (i : Int) := by omega
            have hl2 : (i : Int) < (mid : Int) := by omega
            have hc := HIH.out a i mid d1 _ (by omega) (by omega) S2.out (by omega) (by omega) (by omega) ML.out
            rw [hsd1] at hc
            go_wp2_with fail
            refine hc.mono ?_
            rintro e w4 ⟨rfl, d2, hS2, hsd2, hP2, hO2⟩
            have S3 : Aside _ := hS2
            have PL := Lib.hid hP2
            have SL := Lib.hid hO2
            have MR : Hid (Mrg lt (ltOf cf) mid en b d2) := by
              have h := MR1.out
              have hk : ∀ k, mid ≤ k → d2[k]! = d1[k]! := fun k hk => PL.out.2.1 k (Or.inr hk)
              exact ⟨fun p q h1 h2 h3 => by rw [hk p h1, hk q (by omega)]; exact h.left p q h1 h2 h3, fun p q h1 h2 h3 => by rw [hk p (by omega), hk q (by omega)]; exact h.right p q h1 h2 h3, fun p q h1 h2 h3 h4 => by rw [hk p h1, hk q (by omega)]; exact h.crs p q h1 h2 h3 h4⟩
            clear hS2 hP2 hO2 hc S2
            by_cases hr : mid < en ∧ en < b
            · have hr1 : (mid : Int) < (en : Int) := by omega
              have hr2 : (en : Int) < (b : Int) := by omega
              have hc := HIH.out mid en b d2 _ (by omega) (by omega) S3.out (by omega) (by omega) (by omega) MR.out
              rw [hsd2] at hc
              go_wp2_with fail
              all_goals
                refine hc.mono ?_
                rintro e w5 ⟨rfl, d3, hS3, hs3, hP3, hO3⟩
                have hA : Aside _ := hS3
                have hB := Lib.hid (sorted_halves (lt := lt) (a := a) (m := mid) (b := b) (by omega) (by omega) (by omega) PL.out SL.out hP3 hO3 HX.out)
                clear hS3 hP3 hO3 hc
                go_wp2
                all_goals (go_end0; exact ⟨rfl, d3, hA.out, by omega, permIn_trans _ _ _ _ _ P1.out hB.out.1, hB.out.2⟩)
            · have hB := Lib.hid (sorted_halves (lt := lt) (a := a) (m := mid) (b := b) (by omega) (by omega) (by omega) PL.out SL.out (permIn_refl d2 mid b) (show SortedIn lt mid b d2 by
                have MR2 := MR.out
                by_cases h1 : mid < en
                · have : en = b := by omega
                  rw [← this]; exact MR2.left
                · have : en = mid := by omega
                  rw [this] at MR2; exact MR2.right) HX.out)
              by_cases hr0 : mid < en
              · have hr1 : (mid : Int) < (en : Int) := by omega
                have hr2 : ¬ (en : Int) < (b : Int) := by omega
                go_wp2
                all_goals (go_end0; exact ⟨rfl, d2, S3.out, by omega, permIn_trans _ _ _ _ _ P1.out hB.out.1, hB.out.2⟩)
              · have hr1 : ¬ (mid : Int) < (en : Int) := by omega
                go_wp2
                all_goals (go_end0; exact ⟨rfl, d2, S3.out, by omega, permIn_trans _ _ _ _ _ P1.out hB.out.1, hB.out.2⟩)
          · obtain ⟨d2, hd2⟩ : ∃ d2, d2 = d1 := ⟨_, rfl⟩
            have PL : Hid (PermIn a mid d1 d2) := by rw [hd2]; exact permIn_refl d1 a mid
            have SL : Hid (SortedIn lt a mid d2) := by
              rw [hd2]
              have h := ML.out
              by_cases h1 : a < i
              · have : i = mid := by omega
                rw [← this]; exact h.left
              · have : i = a := by omega
                rw [this] at h; exact h.right
            have MR : Hid (Mrg lt (ltOf cf) mid en b d2) := by rw [hd2]; exact MR1.out
            rw [← hd2] at S2
            have S3 := S2
            have hsd2 : d2.size = d.size := by rw [hd2]; exact hsd1
            clear hd2 S2
            by_cases hl0 : a < i
            · have hl1 : (a : Int) < (i : Int) := by omega
              have hl2 : ¬ (i : Int) < (mid : Int) := by omega
              by_cases hr : mid < en ∧ en < b
              · have hr1 : (mid : Int) < (en : Int) := by omega
                have hr2 : (en : Int) < (b : Int) := by omega
                have hc := HIH.out mid en b d2 _ (by omega) (by omega) S3.out (by omega) (by omega) (by omega) MR.out
                rw [hsd2] at hc
                go_wp2_with fail
                all_goals
                  refine hc.mono ?_
                  rintro e w5 ⟨rfl, d3, hS3, hs3, hP3, hO3⟩
                  have hA : Aside _ := hS3
                  have hB := Lib.hid (sorted_halves (lt := lt) (a := a) (m := mid) (b := b) (by omega) (by omega) (by omega) PL.out SL.out hP3 hO3 HX.out)
                  clear hS3 hP3 hO3 hc
                  go_wp2
                  all_goals (go_end0; exact ⟨rfl, d3, hA.out, by omega, permIn_trans _ _ _ _ _ P1.out hB.out.1, hB.out.2⟩)
              · have hB := Lib.hid (sorted_halves (lt := lt) (a := a) (m := mid) (b := b) (by omega) (by omega) (by omega) PL.out SL.out (permIn_refl d2 mid b) (show SortedIn lt mid b d2 by
                  have MR2 := MR.out
                  by_cases h1 : mid < en
                  · have : en = b := by omega
                    rw [← this]; exact MR2.left
                  · have : en = mid := by omega
                    rw [this] at MR2; exact MR2.right) HX.out)
                by_cases hr0 : mid < en
                · have hr1 : (mid : Int) < (en : Int) := by omega
                  have hr2 : ¬ (en : Int) < (b : Int) := by omega
                  go_wp2
                  all_goals (go_end0; exact ⟨rfl, d2, S3.out, by omega, permIn_trans _ _ _ _ _ P1.out hB.out.1, hB.out.2⟩)
                · have hr1 : ¬ (mid : Int) < (en : Int) := by omega
                  go_wp2
                  all_goals (go_end0; exact ⟨rfl, d2, S3.out, by omega, permIn_trans _ _ _ _ _ P1.out hB.out.1, hB.out.2⟩)
            · have hl1 : ¬ (a : Int) < (i : Int) := by omega
              by_cases hr : mid < en ∧ en < b
              · have hr1 : (mid : Int) < (en : Int) := by omega
                have hr2 : (en : Int) < (b : Int) := by omega
                have hc := HIH.out mid en b d2 _ (by omega) (by omega) S3.out (by omega) (by omega) (by omega) MR.out
                rw [hsd2] at hc
                go_wp2_with fail
                all_goals
                  refine hc.mono ?_
                  rintro e w5 ⟨rfl, d3, hS3, hs3, hP3, hO3⟩
                  have hA : Aside _ := hS3
                  have hB := Lib.hid (sorted_halves (lt := lt) (a := a) (m := mid) (b := b) (by omega) (by omega) (by omega) PL.out SL.out hP3 hO3 HX.out)
                  clear hS3 hP3 hO3 hc
                  go_wp2
                  all_goals (go_end0; exact ⟨rfl, d3, hA.out, by omega, permIn_trans _ _ _ _ _ P1.out hB.out.1, hB.out.2⟩)
              · have hB := Lib.hid (sorted_halves (lt := lt) (a := a) (m := mid) (b := b) (by omega) (by omega) (by omega) PL.out SL.out (permIn_refl d2 mid b) (show SortedIn lt mid b d2 by
                  have MR2 := MR.out
                  by_cases h1 : mid < en
                  · have : en = b := by omega
                    rw [← this]; exact MR2.left
                  · have : en = mid := by omega
                    rw [this] at MR2; exact MR2.right) HX.out)
                by_cases hr0 : mid < en
                · have hr1 : (mid : Int) < (en : Int) := by omega
                  have hr2 : ¬ (en : Int) < (b : Int) := by omega
                  go_wp2
                  all_goals (go_end0; exact ⟨rfl, d2, S3.out, by omega, permIn_trans _ _ _ _ _ P1.out hB.out.1, hB.out.2⟩)
                · have hr1 : ¬ (mid : Int) < (en : Int) := by omega
                  go_wp2
                  all_goals (go_end0; exact ⟨rfl, d2, S3.out, by omega, permIn_trans _ _ _ _ _ P1.out hB.out.1, hB.out.2⟩)
        · have hro1 : ¬ (i : Int) < (m : Int) := by omega
          obtain ⟨hP1, hML, hMR, hX⟩ := FIN.out d1 _ S2.out hsd1 HE.out
          have P1 := Lib.hid hP1
          have HX := Lib.hid hX
          have ML := Lib.hid hML
          have MR1 := Lib.hid hMR
          clear hP1 hML hMR hX HE FIN
          by_cases hl : a < i ∧ i < mid
          · have hl1 : (a : Int) < (i : Int) := by omega
            have hl2 : (i : Int) < (mid : Int) := by omega
            have hc := HIH.out a i mid d1 _ (by omega) (by omega) S2.out (by omega) (by omega) (by omega) ML.out
            rw [hsd1] at hc
            go_wp2_with fail
            refine hc.mono ?_
            rintro e w4 ⟨rfl, d2, hS2, hsd2, hP2, hO2⟩
            have S3 : Aside _ := hS2
            have PL := Lib.hid hP2
            have SL := Lib.hid hO2
            have MR : Hid (Mrg lt (ltOf cf) mid en b d2) := by
              have h := MR1.out
              have hk : ∀ k, mid ≤ k → d2[k]! = d1[k]! := fun k hk => PL.out.2.1 k (Or.inr hk)
              exact ⟨fun p q h1 h2 h3 => by rw [hk p h1, hk q (by omega)]; exact h.left p q h1 h2 h3, fun p q h1 h2 h3 => by rw [hk p (by omega), hk q (by omega)]; exact h.right p q h1 h2 h3, fun p q h1 h2 h3 h4 => by rw [hk p h1, hk q (by omega)]; exact h.crs p q h1 h2 h3 h4⟩
            clear hS2 hP2 hO2 hc S2
            by_cases hr : mid < en ∧ en < b
            · have hr1 : (mid : Int) < (en : Int) := by omega
              have hr2 : (en : Int) < (b : Int) := by omega
              have hc := HIH.out mid en b d2 _ (by omega) (by omega) S3.out (by omega) (by omega) (by omega) MR.out
              rw [hsd2] at hc
              go_wp2_with fail
              all_goals
                refine hc.mono ?_
                rintro e w5 ⟨rfl, d3, hS3, hs3, hP3, hO3⟩
                have hA : Aside _ := hS3
                have hB := Lib.hid (sorted_halves (lt := lt) (a := a) (m := mid) (b := b) (by omega) (by omega) (by omega) PL.out SL.out hP3 hO3 HX.out)
                clear hS3 hP3 hO3 hc
                go_wp2
                all_goals (go_end0; exact ⟨rfl, d3, hA.out, by omega, permIn_trans _ _ _ _ _ P1.out hB.out.1, hB.out.2⟩)
            · have hB := Lib.hid (sorted_halves (lt := lt) (a := a) (m := mid) (b := b) (by omega) (by omega) (by omega) PL.out SL.out (permIn_refl d2 mid b) (show SortedIn lt mid b d2 by
                have MR2 := MR.out
                by_cases h1 : mid < en
                · have : en = b := by omega
                  rw [← this]; exact MR2.left
                · have : en = mid := by omega
                  rw [this] at MR2; exact MR2.right) HX.out)
              by_cases hr0 : mid < en
              · have hr1 : (mid : Int) < (en : Int) := by omega
                have hr2 : ¬ (en : Int) < (b : Int) := by omega
                go_wp2
                all_goals (go_end0; exact ⟨rfl, d2, S3.out, by omega, permIn_trans _ _ _ _ _ P1.out hB.out.1, hB.out.2⟩)
              · have hr1 : ¬ (mid : Int) < (en : Int) := by omega
                go_wp2
                all_goals (go_end0; exact ⟨rfl, d2, S3.out, by omega, permIn_trans _ _ _ _ _ P1.out hB.out.1, hB.out.2⟩)
          · obtain ⟨d2, hd2⟩ : ∃ d2, d2 = d1 := ⟨_, rfl⟩
            have PL : Hid (PermIn a mid d1 d2) := by rw [hd2]; exact permIn_refl d1 a mid
            have SL : Hid (SortedIn lt a mid d2) := by
              rw [hd2]
              have h := ML.out
              by_cases h1 : a < i
              · have : i = mid := by omega
                rw [← this]; exact h.left
              · have : i = a := by omega
                rw [this] at h; exact h.right
            have MR : Hid (Mrg lt (ltOf cf) mid en b d2) := by rw [hd2]; exact MR1.out
            rw [← hd2] at S2
            have S3 := S2
            have hsd2 : d2.size = d.size := by rw [hd2]; exact hsd1
            clear hd2 S2
            by_cases hl0 : a < i
            · have hl1 : (a : Int) < (i : Int) := by omega
              have hl2 : ¬ (i : Int) < (mid : Int) := by omega
              by_cases hr : mid < en ∧ en < b
              · have hr1 : (mid : Int) < (en : Int) := by omega
                have hr2 : (en : Int) < (b : Int) := by omega
                have hc := HIH.out mid en b d2 _ (by omega) (by omega) S3.out (by omega) (by omega) (by omega) MR.out
                rw [hsd2] at hc
                go_wp2_with fail
                all_goals
                  refine hc.mono ?_
                  rintro e w5 ⟨rfl, d3, hS3, hs3, hP3, hO3⟩
                  have hA : Aside _ := hS3
                  have hB := Lib.hid (sorted_halves (lt := lt) (a := a) (m := mid) (b := b) (by omega) (by omega) (by omega) PL.out SL.out hP3 hO3 HX.out)
                  clear hS3 hP3 hO3 hc
                  go_wp2
                  all_goals (go_end0; exact ⟨rfl, d3, hA.out, by omega, permIn_trans _ _ _ _ _ P1.out hB.out.1, hB.out.2⟩)
              · have hB := Lib.hid (sorted_halves (lt := lt) (a := a) (m := mid) (b := b) (by omega) (by omega) (by omega) PL.out SL.out (permIn_refl d2 mid b) (show SortedIn lt mid b d2 by
                  have MR2 := MR.out
                  by_cases h1 : mid < en
                  · have : en = b := by omega
                    rw [← this]; exact MR2.left
                  · have : en = mid := by omega
                    rw [this] at MR2; exact MR2.right) HX.out)
                by_cases hr0 : mid < en
                · have hr1 : (mid : Int) < (en : Int) := by omega
                  have hr2 : ¬ (en : Int) < (b : Int) := by omega
                  go_wp2
                  all_goals (go_end0; exact ⟨rfl, d2, S3.out, by omega, permIn_trans _ _ _ _ _ P1.out hB.out.1, hB.out.2⟩)
                · have hr1 : ¬ (mid : Int) < (en : Int) := by omega
                  go_wp2
                  all_goals (go_end0; exact ⟨rfl, d2, S3.out, by omega, permIn_trans _ _ _ _ _ P1.out hB.out.1, hB.out.2⟩)
            · have hl1 : ¬ (a : Int) < (i : Int) := by omega
              by_cases hr : mid < en ∧ en < b
              · have hr1 : (mid : Int) < (en : Int) := by omega
                have hr2 : (en : Int) < (b : Int) := by omega
                have hc := HIH.out mid en b d2 _ (by omega) (by omega) S3.out (by omega) (by omega) (by omega) MR.out
                rw [hsd2] at hc
                go_wp2_with fail
                all_goals
                  refine hc.mono ?_
                  rintro e w5 ⟨rfl, d3, hS3, hs3, hP3, hO3⟩
                  have hA : Aside _ := hS3
                  have hB := Lib.hid (sorted_halves (lt := lt) (a := a) (m := mid) (b := b) (by omega) (by omega) (by omega) PL.out SL.out hP3 hO3 HX.out)
                  clear hS3 hP3 hO3 hc
                  go_wp2
                  all_goals (go_end0; exact ⟨rfl, d3, hA.out, by omega, permIn_trans _ _ _ _ _ P1.out hB.out.1, hB.out.2⟩)
              · have hB := Lib.hid (sorted_halves (lt := lt) (a := a) (m := mid) (b := b) (by omega) (by omega) (by omega) PL.out SL.out (permIn_refl d2 mid b) (show SortedIn lt mid b d2 by
                  have MR2 := MR.out
                  by_cases h1 : mid < en
                  · have : en = b := by omega
                    rw [← this]; exact MR2.left
                  · have : en = mid := by omega
                    rw [this] at MR2; exact MR2.right) HX.out)
                by_cases hr0 : mid < en
                · have hr1 : (mid : Int) < (en : Int) := by omega
                  have hr2 : ¬ (en : Int) < (b : Int) := by omega
                  go_wp2
                  all_goals (go_end0; exact ⟨rfl, d2, S3.out, by omega, permIn_trans _ _ _ _ _ P1.out hB.out.1, hB.out.2⟩)
                · have hr1 : ¬ (mid : Int) < (en : Int) := by omega
                  go_wp2
                  all_goals (go_end0; exact ⟨rfl, d2, S3.out, by omega, permIn_trans _ _ _ _ _ P1.out hB.out.1, hB.out.2⟩)
end Go.Proofs.Yteilcchcekmooaa.G
