import Derived.Test.YtpjpnppoejnafaaDoorMFnSelectorsCard1
import Derived.Test.YtpjpnppoejnafaaDoorMFnSelectorsCard6
import Derived.Test.YtpjpnppoejnafaaDoorMFnSelectorsCard13
/- G31 -/
-- Laid by wip/g/gprint.py out of the translation, by the kit's print program. Lean checks it.
namespace Go.Proofs.YtpjpnppoejnafaaDoor.G
open Go.RowKit Go.Proofs.YtpjpnppoejnafaaDoorW.PrintWords Go.Proofs.YtpjpnppoejnafaaDoorW.PrintLast Go.Proofs.YtpjpnppoejnafaaDoorW.PrintMore
attribute [local go_sem] max2_int min2_int max_two min_two max_three min_three max_four min_four   -- for this text's walks alone
set_option linter.unusedVariables false
set_option linter.unusedSimpArgs false

/-! ### impl_Never: function 31 -/
--IMPORT Derived.Test.YtpjpnppoejnafaaDoorGKOpen
/-! #### a copy of terms: their cells -/
abbrev kRaw : Kd (List Value) := Kd.raw 3
def Pw {α β : Type} (R : α → β → Prop) : List α → List β → Prop
 | [], [] => True
 | a :: ps, b :: qs => R a b ∧ Pw R ps qs
 | _, _ => False
theorem Pw.of {α β : Type} {R : α → β → Prop} : ∀ {xs : List α} {ys : List β}, ys.length = xs.length → (∀ i (h : i < xs.length) (h' : i < ys.length), R xs[i] ys[i]) → Pw R xs ys
 | [], [], _, _ => trivial
 | a :: ps, b :: qs, hl, h => ⟨h 0 (by simp) (by simp), Pw.of (by simpa using hl) (fun i hi hi' => by have h_ := h (i + 1) (by simpa using hi) (by simpa using hi'); simp only [List.getElem_cons_succ] at h_; exact h_)⟩
 | [], b :: qs, hl, _ => by simp at hl
 | a :: ps, [], hl, _ => by simp at hl
theorem Pw.len {α β : Type} {R : α → β → Prop} : ∀ {xs : List α} {ys : List β}, Pw R xs ys → ys.length = xs.length
 | [], [], _ => rfl
 | a :: ps, b :: qs, h => by rw [List.length_cons, List.length_cons, Pw.len h.2]
 | [], b :: qs, h => h.elim
 | a :: ps, [], h => h.elim
theorem Pw.at {α β : Type} {R : α → β → Prop} : ∀ {xs : List α} {ys : List β}, Pw R xs ys → ∀ i (h : i < xs.length) (h' : i < ys.length), R xs[i] ys[i]
 | a :: ps, b :: qs, h, 0, _, _ => h.1
 | a :: ps, b :: qs, h, i + 1, h1, h2 => by simpa using Pw.at h.2 i (by simpa using h1) (by simpa using h2)
 | [], [], _, i, h1, _ => by simp at h1
 | [], b :: qs, h, _, _, _ => h.elim
 | a :: ps, [], h, _, _, _ => h.elim
theorem Pw.mem {α β : Type} {R : α → β → Prop} {xs : List α} {ys : List β} (h : Pw R xs ys) {y : β} (hy : y ∈ ys) : ∃ x ∈ xs, R x y := by
 obtain ⟨i, hi, rfl⟩ := List.getElem_of_mem hy
 have hl := h.len
 exact ⟨xs[i], List.getElem_mem (by omega), h.at i (by omega) hi⟩
theorem Pw.filter {α β : Type} {R : α → β → Prop} (p : α → Bool) (q : β → Bool) (hpq : ∀ a b, R a b → p a = q b) : ∀ {xs : List α} {ys : List β}, Pw R xs ys → Pw R (xs.filter p) (ys.filter q)
 | [], [], _ => trivial
 | a :: ps, b :: qs, h => by
  have e := hpq a b h.1
  cases hq : q b with
  | true => rw [List.filter_cons_of_pos (by rw [e, hq]), List.filter_cons_of_pos hq]; exact ⟨h.1, Pw.filter p q hpq h.2⟩
  | false => rw [List.filter_cons_of_neg (by rw [e, hq]; simp), List.filter_cons_of_neg (by rw [hq]; simp)]; exact Pw.filter p q hpq h.2
 | [], b :: qs, h => h.elim
 | a :: ps, [], h => h.elim
theorem Pw.imp {α β : Type} {R R' : α → β → Prop} (h : ∀ a b, R a b → R' a b) : ∀ {xs : List α} {ys : List β}, Pw R xs ys → Pw R' xs ys
 | [], [], _ => trivial
 | a :: ps, b :: qs, hh => ⟨h _ _ hh.1, Pw.imp h hh.2⟩
 | [], b :: qs, hh => hh.elim
 | a :: ps, [], hh => hh.elim
/-- The cells of terms that are read. -/
theorem raw_of {w : World} {A : Option Addr} {n : Nat} {xs : List (S59)} (h : Kd.C k59 w A n xs) : ∃ rows : List (List Value), Kd.C kRaw w A n rows ∧ Pw (k59.K w) xs rows := by
 obtain ⟨hl, hm, hh⟩ := h
 by_cases hp : 0 < n
 ·obtain ⟨ad, rfl, hc⟩ := hh hp
  obtain ⟨rows, hrl, hr⟩ := list_pick (P := fun i cs => ∀ h : i < xs.length, k59.K w xs[i] cs ∧ ∀ j u, cs[j]? = some u → w.cell? (ad.add (i * k59.sz + j)) = some u) xs.length (fun i hi => by
   obtain ⟨cs, h1, h2, h3⟩ := hc i _ (List.getElem?_eq_getElem hi)
   exact ⟨cs, fun _ => ⟨h2, h3⟩⟩)
  refine ⟨rows, ⟨by omega, hm, fun _ => ⟨ad, rfl, fun j p hj => ?_⟩⟩, Pw.of hrl (fun i hi hi' => (hr i hi' hi).1)⟩
  obtain ⟨hjl, rfl⟩ := List.getElem?_eq_some_iff.1 hj
  obtain ⟨q1, q2⟩ := hr j hjl (by omega)
  exact ⟨rows[j], k59.K_len q1, ⟨rfl, k59.K_len q1, k59.K_one q1⟩, q2⟩
 ·have h0 : xs = [] := List.eq_nil_of_length_eq_zero (by omega)
  subst h0
  exact ⟨[], ⟨by simpa using hl, hm, fun h => absurd h hp⟩, trivial⟩
/-- And back. -/
theorem of_raw {w : World} {A : Option Addr} {n : Nat} {xs : List (S59)} {rows : List (List Value)} (h : Kd.C kRaw w A n rows) (hp : Pw (k59.K w) xs rows) : Kd.C k59 w A n xs := by
 obtain ⟨hl, hm, hh⟩ := h
 have hlen := hp.len
 refine ⟨by omega, hm, fun h0 => ?_⟩
 obtain ⟨ad, rfl, hc⟩ := hh h0
 refine ⟨ad, rfl, fun j p hj => ?_⟩
 obtain ⟨hjl, rfl⟩ := List.getElem?_eq_some_iff.1 hj
 obtain ⟨cs, h1, ⟨rfl, _, _⟩, h3⟩ := hc j _ (List.getElem?_eq_getElem (by omega))
 exact ⟨rows[j], h1, hp.at j hjl (by omega), h3⟩
def nvKey : List Value → ByteArray
 | [_, .string s, _] => s
 | _ => ByteArray.empty
theorem nvKey_of {w : World} {x : S59} {cs : List Value} (h : k59.K w x cs) : x.f1 = nvKey cs := by
 obtain ⟨A2, c2, rfl, _, _⟩ := k59_open h
 rfl
theorem delO_filter {α : Type} (q : α → Bool) : ∀ l : List α, delO (fun x => some (q x)) l = some (l.filter (fun x => !q x))
 | [] => rfl
 | x :: xs => by
  rw [delO, delO_filter q xs]
  cases hq : q x with
  | true => simp [hq]
  | false => simp [hq]
set_option maxHeartbeats 4000000 in
theorem Clone_raw_calls (A0 : Option Addr) (c0 : Nat) (l0 : List (List Value)) (w : World) (hr0 : Kd.C kRaw w A0 l0.length l0) (hc0 : l0.length ≤ c0) (hl : l0.length < 2932031007402) :
  Calls Tryd.prog 97 #[.slice A0 l0.length c0] w fun e w' => ∃ v0_ : Value, e = .returned (v0_) ∧ Kd.R kRaw 59 w' w.heap.size (fun _ => True) v0_ l0 ∧ Below w.heap.size w w' := by
 cases A0 with
 | none =>
  have h0 : l0 = [] := by
   rcases Nat.eq_zero_or_pos l0.length with h | h
   ·exact List.eq_nil_of_length_eq_zero h
   ·obtain ⟨ad, e, _⟩ := hr0.2.2 h
    cases e
  subst h0
  have hne := fun W => Lib.run_eql_slice_nil (P := Tryd.prog) W 28 59 none 0 c0 0 0 Tryd.underlying28
  simp only [List.length_nil]
  go_enter Tryd.func97, Tryd.ntmps97
  go_wp2
  go_ret
  exact ⟨_, rfl, Kd.R_nil _ _ _ _ _, Below.refl _ _⟩
 | some ad =>
  have hne := fun W => Lib.run_eql_slice_nil (P := Tryd.prog) W 28 59 (some ad) l0.length c0 0 0 Tryd.underlying28
  have HR0 := Aside0.mk hr0
  have HL := Aside0.mk hl
  have HB := Aside0.mk (Below.refl w.heap.size w)
  clear hr0 hl
  go_enter Tryd.func97, Tryd.ntmps97
  go_wp2_with (first | ((with_reducible refine gate_dst (N := 5) rfl ?_); refine Kd.R_lit kRaw _ 59 ?hg (N := 5) ?hd (xs := ([] : List (List Value))) (inner := []) (ok := fun _ => True) (okp := fun _ => True) ?hr ?hp (fun _ hk => hk) trivial (Below.refl _ _) (Nat.le_refl _) (by simp) ?_; (case hd => rfl); (case hg => rfl); (case hr => go_simp); (case hp => exact (Reps.none _ _)); intro v189 w3 ho4 hb hg_ hnew_; clear hg_ hnew_; have n0_ := Aside0.mk (Kd.R_lower ho4 (below_size (qB HB))); have n1_ := Aside0.mk (below_step (qB HB) hb); clear HB; have HO190 := n0_; have HB := n1_; clear n0_ n1_; clear hb ho4) | ((with_reducible refine gate_builtin (b := .append) (xs := #[.tmp 5, .tmp 6]) rfl ?_); at_builtin; refine Kd.R_append_rows kRaw (w0 := w) w.heap.size rfl (.tmp 5) (.tmp 6) 28 59 (.agg #[(.int .i64 0), (.string ⟨#[]⟩), (.slice none 0 0)]) 48 rfl Tryd.underlying28 info59 rfl (by decide) (by omega) v189 ([] : List (List Value)) l0 _ _ _ (fun _ => True) (fun _ => False) rfl rfl ?aO ?aR (fun _ _ h => h) (fun _ h => h.elim) ?aF ?aB ?aS ?aL ?_; (case aR => exact qC HR0 HB); (case aB => exact (qB HB)); (case aF => exact (fun _ _ => trivial)); (case aO => exact (by (with_reducible repeat (first | apply Kd.R_alloc | apply Kd.R_drewN | apply Kd.R_drew)); exact HO190.out)); (case aS => exact (below_size (qB HB))); (case aL => have := HL.out; simp only [List.length_nil]; omega); intro v192 w5 ho hb hg hat; rw [List.nil_append] at ho; have n0_ := Aside0.mk (hb); have n1_ := Aside0.mk (ho); clear HB; clear HO190; have HB := n0_; have HO193 := n1_; clear n0_ n1_; clear ho hb hg hat))
  go_ret
  exact ⟨_, rfl, by (with_reducible repeat (first | apply Kd.R_alloc | apply Kd.R_drewN | apply Kd.R_drew)); exact HO193.out, (qB HB)⟩
/-! #### the closures -/
theorem impl_possible_1.calls (a : Int) (s : ByteArray) (A2 : Option Addr) (n2 c2 : Nat) (key : ByteArray) (g : Nat) (W : World) (hb : W.heap[g]? = some (.cells #[.string key] 9 (0, 0))) :
  Calls Tryd.prog 98 #[.agg #[.int .i64 a, .string s, .slice A2 n2 c2], .pointer (some ⟨g, 0, none⟩)] W fun e w' => e = .returned (.bool (!(s.toList == key.toList))) ∧ Below W.heap.size W w' := by
 have hlt := blk_lt hb
 have hc := blk_cell hb 0
 simp only [List.getElem?_toArray, List.getElem?_cons_zero] at hc
 clear hb
 go_enter Tryd.func98, Tryd.ntmps98
 go_wp2
 go_ret
 exact ⟨by first | rfl | simp, by repeat (first | exact Below.refl _ _ | apply below_alloc | apply pw_below_drewN | apply below_drew1)⟩
theorem impl_possible_2_1.calls (k : Nat) (x : S59) (A2 : Option Addr) (c2 : Nat) (A : Option Addr) (c : Nat) (ls : List S42) (g : Nat) (b : Bool) (W : World) (h2 : Kd.C Kd.string W A2 x.f2.length x.f2) (hc2 : x.f2.length ≤ c2)
  (hb : W.heap[g]? = some (.cells #[.slice A ls.length c] 22 (0, 0))) (hl : Kd.C k42 W A ls.length ls) (hc : ls.length ≤ c) (h : impl_holds.f k x.f0 x.f1 x.f2 ls = some b) :
  Calls Tryd.prog 101 #[.agg #[.int .i64 x.f0, .string x.f1, .slice A2 x.f2.length c2], .pointer (some ⟨g, 0, none⟩)] W fun e w' => e = .returned (.bool (!b)) ∧ Below W.heap.size W w' := by
 have hlt := blk_lt hb
 have hcell := blk_cell hb 0
 simp only [List.getElem?_toArray, List.getElem?_cons_zero] at hcell
 have HB := Lib.hid (below_alloc (Below.refl W.heap.size W) (.cells #[.int .i64 x.f0, .string x.f1, .slice A2 x.f2.length c2] 59))
 have H2 := Lib.hid (Kd.C_below h2 HB.out)
 have HL := Lib.hid (Kd.C_below hl HB.out)
 have HH := Lib.hid h
 clear hb h2 hl h
 go_enter Tryd.func101, Tryd.ntmps101
 go_wp2_with fail
 refine (impl_holds.calls k x.f0 x.f1 A2 c2 x.f2 A c ls b _ H2.out hc2 HL.out hc HH.out).mono ?_
 rintro e w2 ⟨rfl, hb2⟩
 have HB2 := Lib.hid (below_then HB.out HB.out.size hb2)
 clear hb2
 go_wp2
 go_ret
 exact ⟨rfl, HB2.out⟩
theorem impl_possible_2.calls (k : Nat) (ls : List S42) (A : Option Addr) (c : Nat) (ts : List S59) (At : Option Addr) (ct : Nat) (g : Nat) (i : Int) (W : World)
  (hb : W.heap[g]? = some (.cells #[.slice At ts.length ct] 28 (0, 0))) (ht : Kd.C k59 W At ts.length ts) (hct : ts.length ≤ ct) (hl : Kd.C k42 W A ls.length ls) (hc : ls.length ≤ c)
  (h : idxO (fun x => (impl_holds.f k x.f0 x.f1 x.f2 ls).map (!·)) ts 0 = some i) :
  Calls Tryd.prog 100 #[.slice A ls.length c, .pointer (some ⟨g, 0, none⟩)] W fun e w' => e = .returned (.bool (!decide (0 ≤ i))) ∧ Below W.heap.size W w' := by
 have hlt := blk_lt hb
 have hcell := blk_cell hb 0
 simp only [List.getElem?_toArray, List.getElem?_cons_zero] at hcell
 have HB := Lib.hid (below_alloc (Below.refl W.heap.size W) (.cells #[.slice A ls.length c] 22))
 have HK : Hid ((W.alloc (.cells #[.slice A ls.length c] 22)).heap[W.heap.size]? = some (.cells #[.slice A ls.length c] 22 (0, 0))) := by exact heap_alloc_new _ _
 have HT := Lib.hid (Kd.C_below ht HB.out)
 have HL := Lib.hid (Kd.C_below hl HB.out)
 have HH := Lib.hid h
 clear hb ht hl h
 go_enter Tryd.func100, Tryd.ntmps100
 go_wp2_with fail
 refine (slices_ContainsFunc_simpl_Term_impl_Term.calls k59 rfl 101 (fun _ _ => by kernel_rfl) #[.pointer (some ⟨W.heap.size, 0, none⟩)] _ At ct ts i _ HT.out hct ?_ HH.out).mono ?_
 ·intro x cs b W2 hx hp hk hb2
  obtain ⟨A2, c2, rfl, hl2, hC2⟩ := k59_open hk
  obtain ⟨b', hb', rfl⟩ := Option.map_eq_some_iff.1 hp
  exact impl_possible_2_1.calls k x A2 c2 A c ls W.heap.size b' W2 hC2 hl2 ((hb2.block _ (blk_lt HK.out)).trans HK.out) (Kd.C_below HL.out hb2) hc hb'
 ·rintro e w2 ⟨rfl, hb2⟩
  have HB2 := Lib.hid (below_then HB.out HB.out.size hb2)
  clear hb2
  go_wp2
  go_ret
  exact ⟨rfl, HB2.out⟩
/-! #### impl.possible -/
def nvTs (key : ByteArray) (l0 : List (S59)) : List (S59) := l0.filter (fun t => t.f1.toList == key.toList)
def nvVals (ts : List (S59)) : List ByteArray := ts.flatMap (·.f2)
def nvNamed (vs : List ByteArray) : ByteArray := vs.foldl (· ++ ·) ⟨#[]⟩
def nvTries (ts : List (S59)) (key : ByteArray) : List (List (S42)) := ([] :: (nvVals ts).map (fun v => [⟨key, v⟩])) ++ [[⟨key, nvNamed (nvVals ts) ++ ⟨#[120]⟩⟩]]
def nvTry (k : Nat) (ts : List (S59)) (ls : List (S42)) : Option Bool := (idxO (fun x => (impl_holds.f k x.f0 x.f1 x.f2 ls).map (!·)) ts 0).bind fun j => some (!decide (0 ≤ j))
theorem nvTake {ts : List (S59)} {i : Nat} (h : i < ts.length) : nvVals (ts.take (i + 1)) = nvVals (ts.take i) ++ ts[i].f2 := by
 unfold nvVals
 rw [List.take_succ_eq_append_getElem h, List.flatMap_append]; simp
theorem nvNamed_app (a b : List ByteArray) : nvNamed (a ++ b) = b.foldl (· ++ ·) (nvNamed a) := by
 unfold nvNamed; rw [List.foldl_append]
theorem nvFold_size : ∀ (vs : List ByteArray) (a : ByteArray), (vs.foldl (· ++ ·) a).size = a.size + (vs.map ByteArray.size).sum
 | [], a => by simp
 | v :: vs, a => by rw [List.foldl_cons, nvFold_size vs, ByteArray.size_append, List.map_cons, List.sum_cons]; omega
theorem nvNamed_size (vs : List ByteArray) : (nvNamed vs).size = (vs.map ByteArray.size).sum := by
 unfold nvNamed; rw [nvFold_size]; simp [ByteArray.size]
theorem nvSum_take (ts : List (S59)) (i : Nat) (h : i < ts.length) (j : Nat) : ((nvVals (ts.take i)).map ByteArray.size).sum + ((ts[i].f2.take j).map ByteArray.size).sum ≤ ((nvVals ts).map ByteArray.size).sum := by
 have e : ts = ts.take i ++ ts[i] :: ts.drop (i + 1) := by rw [← List.drop_eq_getElem_cons h, List.take_append_drop]
 have e2 : nvVals ts = nvVals (ts.take i) ++ (ts[i].f2 ++ nvVals (ts.drop (i + 1))) := by
  conv => lhs; rw [e]
  unfold nvVals; rw [List.flatMap_append, List.flatMap_cons]
 rw [e2, List.map_append, List.map_append, List.sum_append, List.sum_append]
 have h3 : ((ts[i].f2.take j).map ByteArray.size).sum ≤ (ts[i].f2.map ByteArray.size).sum := by
  conv => rhs; rw [← List.take_append_drop j ts[i].f2, List.map_append, List.sum_append]
  omega
 omega
theorem nvLen_take (ts : List (S59)) (i : Nat) (h : i < ts.length) : (nvVals (ts.take i)).length + ts[i].f2.length ≤ (nvVals ts).length := by
 have e : ts = ts.take i ++ ts[i] :: ts.drop (i + 1) := by rw [← List.drop_eq_getElem_cons h, List.take_append_drop]
 have e2 : nvVals ts = nvVals (ts.take i) ++ (ts[i].f2 ++ nvVals (ts.drop (i + 1))) := by
  conv => lhs; rw [e]
  unfold nvVals; rw [List.flatMap_append, List.flatMap_cons]
 rw [e2, List.length_append, List.length_append]; omega
theorem nvInfo : (Tryd.prog.info? 22).map (fun i => (i.zero, i.size, i.bytes)) = some (some (.slice none 0 0), 1, 24) := by kernel_rfl
theorem NvLit (w : World) (base : Nat) (ok : Nat → Prop) (a b : ByteArray) : Reps (k42.M w base ok) k42.sz ([⟨a, b⟩] : List (S42)) [.string a, .string b] := by
 refine ⟨rfl, fun j p hj => ?_⟩
 match j, hj with
 | 0, hj =>
  obtain rfl := Option.some.inj hj
  exact k42_mkM w base ok _
 | j + 1, hj => simp at hj
theorem NvTries_nil (w : World) (base : Nat) (ok : Nat → Prop) : Reps ((Kd.slice 42 k42).M w base ok) (Kd.slice 42 k42).sz ([[]] : List (List (S42))) [.slice none 0 0] := by
 refine ⟨rfl, fun j p hj => ?_⟩
 match j, hj with
 | 0, hj =>
  obtain rfl := Option.some.inj hj
  exact Kd.M_row (Kd.R_nil _ _ _ _ _)
 | j + 1, hj => simp at hj
set_option maxHeartbeats 4000000 in
set_option maxRecDepth 100000 in
theorem impl_possible.calls (k : Nat) (l0 : List (S59)) (A0 : Option Addr) (c0 : Nat) (key : ByteArray) (i : Int) (w : World) (hr0 : Kd.C k59 w A0 l0.length l0) (hc0 : l0.length ≤ c0) (hl : l0.length ≤ 1000)
  (hv : (nvVals (nvTs key l0)).length ≤ 1000) (hs : ((nvVals (nvTs key l0)).map ByteArray.size).sum ≤ 1000000) (h : idxO (nvTry k (nvTs key l0)) (nvTries (nvTs key l0) key) 0 = some i) :
  Calls Tryd.prog 72 #[.slice A0 l0.length c0, .string key] w fun e w' => e = .returned (.bool (decide (0 ≤ i))) ∧ Below w.heap.size w w' := by
 obtain ⟨rows, hraw, hpw⟩ := raw_of hr0
 have hrl := hpw.len
 have hpf := hpw.filter (fun t => t.f1.toList == key.toList) (fun cs => !!((nvKey cs).toList == key.toList)) (fun a b hab => by rw [nvKey_of hab, Bool.not_not])
 have hdel := delO_filter (fun cs => !((nvKey cs).toList == key.toList)) rows
 obtain ⟨R3, hR3⟩ : ∃ R3, rows.filter (fun cs => !!((nvKey cs).toList == key.toList)) = R3 := ⟨_, rfl⟩
 obtain ⟨ts, hts⟩ : ∃ ts, nvTs key l0 = ts := ⟨_, rfl⟩
 rw [hR3] at hpf hdel
 unfold nvTs at hts
 rw [hts] at hpf
 have hts' : nvTs key l0 = ts := hts
 rw [hts'] at hv hs h
 have h3l := hpf.len
 have HB0 := Lib.hid (below_alloc (Below.refl w.heap.size w) (.cells #[.string key] 9))
 have HKEY : Hid ((w.alloc (.cells #[.string key] 9)).heap[w.heap.size]? = some (.cells #[.string key] 9 (0, 0))) := by exact heap_alloc_new _ _
 have HRAW := Lib.hid (Kd.C_below hraw HB0.out)
 have HPW := Lib.hid hpw
 have HPF := Lib.hid hpf
 have HDEL := Lib.hid hdel
 have HL3 := Lib.hid h3l
 have HCL := Lib.hid (Clone_raw_calls A0 c0 rows _ (by rw [hrl]; exact HRAW.out) (by omega) (by omega))
 have HC2 := HCL.out
 rw [hrl] at HC2
 have HC3 := Lib.hid HC2
 have HH := Lib.hid h
 have HV := Lib.hid hv
 have HS := Lib.hid hs
 have hlt : ts.length ≤ 1000 := by
  have := List.length_filter_le (fun t : S59 => t.f1.toList == key.toList) l0
  rw [hts] at this; omega
 clear hr0 hraw hpw hrl HC2 HCL h hv hs hts hts' hR3 hpf hdel h3l
 go_enter Tryd.func72, Tryd.ntmps72
 go_wp2_with fail
 refine HC3.out.mono ?_
 rintro e w2 ⟨v, rfl, hvr, hb2⟩
 have HVR := Lib.hid hvr
 have HB2 := Lib.hid hb2
 clear hvr hb2 HC3
 go_wp2_with fail
 refine (slices_DeleteFunc_simpl_Term_impl_Term.calls kRaw rfl 98 (fun _ _ => by kernel_rfl) #[.pointer (some ⟨w.heap.size, 0, none⟩)] _ v rows R3 (fun _ => True) _ _ HB2.out HVR.out ?_ HDEL.out).mono ?_
 ·intro x cs b W hx hp hk hkept
  obtain ⟨rfl, _, _⟩ := hk
  obtain ⟨t, _, hK⟩ := HPW.out.mem hx
  obtain ⟨A2, c2, rfl, _, _⟩ := k59_open hK
  cases hp
  refine impl_possible_1.calls t.f0 t.f1 A2 t.f2.length c2 key w.heap.size W ?_
  have h1 := (HB2.out.block w.heap.size (blk_lt HKEY.out)).trans HKEY.out
  refine blk_kept h1 hkept (fun e => ?_)
  have h3 := Kd.R_base HVR.out w.heap.size e.symm
  have h4 : w.heap.size + 1 ≤ w.heap.size := by simpa using h3
  omega
 ·rintro e w3 ⟨v3, rfl, hv3, hb3, hkp, _⟩
  obtain ⟨A3, c3, rfl, hl3, hC3⟩ := Kd.R_reads hv3
  rw [HL3.out] at hl3 hC3 ⊢
  have hB3 := below_then HB0.out HB0.out.size hb3
  have HT3 := of_raw hC3 (Pw.imp (fun a b hab => k59.K_below hB3 hab) HPF.out)
  have hb4 := below_alloc (Below.refl w3.heap.size w3) (.cells #[.slice A3 ts.length c3] 28)
  have HT := Lib.hid (Kd.C_below HT3 hb4)
  have HB4 := Lib.hid (below_then hB3 hB3.size hb4)
  have HGT : Hid ((w3.alloc (.cells #[.slice A3 ts.length c3] 28)).heap[w3.heap.size]? = some (.cells #[.slice A3 ts.length c3] 28 (0, 0))) := by exact heap_alloc_new _ _
  have hk3 : w3.heap[w.heap.size]? = some (.cells #[.string key] 9 (0, 0)) := by
   have h1 := (HB2.out.block w.heap.size (blk_lt HKEY.out)).trans HKEY.out
   refine blk_kept h1 hkp (fun e => ?_)
   have h3 := Kd.R_base HVR.out w.heap.size e.symm
   have h4 : w.heap.size + 1 ≤ w.heap.size := by simpa using h3
   omega
  have hk4 := (hb4.block w.heap.size (blk_lt hk3)).trans hk3
  have HK4 := Lib.hid hk4
  have hg0 := blk_cell HGT.out 0
  simp only [List.getElem?_toArray, List.getElem?_cons_zero] at hg0
  have HG0 := Lib.hid hg0
  have hq0 := blk_cell hk4 0
  simp only [List.getElem?_toArray, List.getElem?_cons_zero] at hq0
  have HQ0 := Lib.hid hq0
  clear hg0 hq0 hk4 hb3 hkp hv3 HVR HB2 HRAW HPW HL3 HT3 hC3 hb4 hB3 hk3 HDEL HPF HB0 HKEY
  go_wp2_with ((with_reducible refine gate_dst (N := 19) rfl ?_); refine Kd.R_lit Kd.string _ 9 ?hg (N := 19) ?hd (xs := ([] : List ByteArray)) (inner := []) (ok := fun _ => True) (okp := fun _ => True) ?hr ?hp (fun _ hk => hk) trivial (Below.refl _ _) (Nat.le_refl _) (by simp) ?_; (case hd => rfl); (case hg => rfl); (case hr => go_simp); (case hp => exact (Reps.none _ _)); intro v7 w5 ho5 hb5 hg_ hnew_; clear hg_ hnew_; have hgt := pw_cell_below hb5 HG0.out; have HO := Lib.hid ho5; have HB := Lib.hid hb5; clear ho5 hb5)
  clear hgt
  generalize (w3.alloc (.cells #[.slice A3 ts.length c3] 28)) = W4 at HT HB4 HGT HK4 HG0 HQ0 HO HB
  generalize w3.heap.size = GT at HGT HG0 ⊢
  generalize w.heap.size = GK at HK4 HQ0 ⊢
  go_loopw [6, 7, 22] (fun v6 vall v22 wr => ∃ j : Nat, j ≤ ts.length ∧ v6 = .string (nvNamed (nvVals (ts.take j))) ∧ v22 = .int .i64 j ∧ Hid (Kd.string.R 9 wr W4.heap.size (fun _ => True) vall (nvVals (ts.take j))) ∧ Hid (Below W4.heap.size W4 wr)) (fun _ _ vj _ => ts.length - (intOf vj).toNat)
  case atStart => exact ⟨0, by omega, rfl, rfl, HO, HB⟩
  case round =>
   clear HO HB
   obtain ⟨j, hj, rfl, rfl, HO, HB⟩ := hrel
   by_cases hjl : j < ts.length
   ·have hrd : rd_T59 ts (j : Int) = ts[j] := by unfold rd_T59; rw [Int.toNat_natCast]; exact getD_at hjl _
    obtain ⟨ad, A2, c2, rfl, d0, d1, d2, hl2, hC2⟩ := at_T59 HT.out (j : Int) (by omega) (by omega)
    rw [hrd] at d0 d1 d2 hl2 hC2
    simp only [Int.toNat_natCast] at d0 d1 d2
    have d0 := pw_cell_below HB.out d0
    have d1 := pw_cell_below HB.out d1
    have d2 := pw_cell_below HB.out d2
    have HC2 := Lib.hid hC2
    have HL2 := Lib.hid hl2
    have hlen1 := nvLen_take ts j hjl
    have hLn : Hid ((nvVals (List.take j ts)).length + ts[j].f2.length ≤ 1000) := Lib.hid (by have := HV.out; omega)
    have HBX := Lib.hid (Kd.R_lt HO.out)
    clear hC2 hl2 hrd hlen1
    go_wp2_with ((with_reducible refine gate_builtin (b := .append) (xs := #[.tmp 26, .tmp 28]) rfl ?_); at_builtin; refine Kd.R_append_rows Kd.string (w0 := W4) W4.heap.size rfl (.tmp 26) (.tmp 28) 51 9 (.string ⟨#[]⟩) 16 rfl Tryd.underlying51 info9 rfl (by decide) (by omega) _ (nvVals (List.take j ts)) ts[j].f2 _ _ _ (fun _ => True) (fun _ => False) rfl rfl ?aO ?aR (fun _ _ h => h) (fun _ h => h.elim) ?aF ?aB ?aS ?aL ?_; (case aR => exact (Kd.C_below HC2.out (by repeat (first | (with_reducible first | exact HB.out | apply below_alloc | apply pw_below_drewN | apply below_drew1) | exact HB.out)))); (case aB => exact (by repeat (first | (with_reducible first | exact HB.out | apply below_alloc | apply pw_below_drewN | apply below_drew1) | exact HB.out))); (case aF => exact (fun _ _ => trivial)); (case aO => exact (by (with_reducible repeat (first | apply Kd.R_alloc | apply Kd.R_drewN | apply Kd.R_drew)); exact HO.out)); (case aS => exact (below_size (by repeat (first | (with_reducible first | exact HB.out | apply below_alloc | apply pw_below_drewN | apply below_drew1) | exact HB.out)))); (case aL => have := hLn.out; omega); intro v29 w29 ho hb hg hat; have hx := hg.block wr.heap.size (by simp) (by intro e; have := HBX.out _ e.symm; omega); rw [heap_alloc_new] at hx; have d28 := blk_cell hx 2; simp only [List.getElem?_toArray, List.getElem?_cons_zero, List.getElem?_cons_succ] at d28; have n0_ := Lib.hid hb; have n1_ := Lib.hid ho; clear HB; clear HO; have HB := n0_; have HO := n1_; clear n0_ n1_; clear ho hb hg hat hx d0 d1 d2)
    clear d28
    have hf2 : ts[j].f2.length ≤ 1000 := by have := hLn.out; omega
    have HC3 := Lib.hid (Kd.C_below HC2.out HB.out)
    obtain ⟨acc, hacc⟩ : ∃ acc, nvNamed (nvVals (List.take j ts)) = acc := ⟨_, rfl⟩
    have HACC := Lib.hid hacc
    rw [hacc]
    clear hacc
    go_loopw [6, 33] (fun v6 v33 wi => ∃ q : Nat, q ≤ ts[j].f2.length ∧ v6 = .string ((ts[j].f2.take q).foldl (· ++ ·) acc) ∧ v33 = .int .i64 q ∧ Hid (Below w29.heap.size w29 wi)) (fun _ vq _ => ts[j].f2.length - (intOf vq).toNat)
    case atStart => exact ⟨0, by omega, rfl, rfl, Below.refl _ _⟩
    case round =>
     obtain ⟨q, hq, rfl, rfl, HBI⟩ := hrel
     by_cases hql : q < ts[j].f2.length
     ·have hrd : rdOf ByteArray.empty ts[j].f2 (q : Int) = ts[j].f2[q] := by unfold rdOf; rw [Int.toNat_natCast]; exact getD_at hql _
      obtain ⟨ad2, hA2, d0⟩ := Kd.at_string HC3.out (q : Int) (by omega) (by omega)
      rw [hrd] at d0
      simp only [Int.toNat_natCast] at d0
      have d0 := pw_cell_below HBI.out d0
      have hsum := nvSum_take ts j hjl (q + 1)
      have hsz := nvFold_size (ts[j].f2.take (q + 1)) acc
      have hacs : acc.size = ((nvVals (ts.take j)).map ByteArray.size).sum := by rw [← HACC.out, nvNamed_size]
      have hnx : (ts[j].f2.take (q + 1)).foldl (· ++ ·) acc = (ts[j].f2.take q).foldl (· ++ ·) acc ++ ts[j].f2[q] := by
       rw [List.take_succ_eq_append_getElem hql, List.foldl_append]; rfl
      have HNX := Lib.hid hnx
      rw [hnx] at hsz
      have hS := HS.out
      generalize (ts[j].f2.take q).foldl (· ++ ·) acc = F at *
      have hle : (F ++ ts[j].f2[q]).size ≤ 1000000 := by omega
      have hle2 : F.size + ts[j].f2[q].size ≤ 1000000 := by rw [ByteArray.size_append] at hle; exact hle
      clear hrd hsum hsz hacs hnx hS
      cases hA2
      go_wp2
      go_roundw
      case rel => exact ⟨q + 1, by omega, by rw [HNX.out], by go_num, HBI⟩
      case measure => simp [intOf]; omega
     ·obtain rfl : q = ts[j].f2.length := by omega
      go_wp2
      go_roundw
      case rel =>
       refine ⟨j + 1, by omega, ?_, by go_num, ?_, ?_⟩
       ·rw [nvTake hjl, nvNamed_app, HACC.out, List.take_length]
       ·rw [nvTake hjl]; exact Kd.R_below HO.out HBI.out
       ·exact below_then HB.out HB.out.size HBI.out
      case measure => simp [intOf]; omega
   ·obtain rfl : j = ts.length := by omega
    rw [List.take_length] at HO ⊢
    obtain ⟨vs, hvs⟩ : ∃ vs, nvVals ts = vs := ⟨_, rfl⟩
    obtain ⟨nm, hnm⟩ : ∃ nm, nvNamed (nvVals ts) = nm := ⟨_, rfl⟩
    have HNM := Lib.hid hnm
    have HVS := Lib.hid hvs
    rw [hnm]
    rw [hvs] at HO HV HS
    clear hvs hnm
    obtain ⟨A7, c7, rfl⟩ := Kd.R_slice HO.out
    go_wp2_with ((with_reducible refine gate_dst (N := 42) rfl ?_); refine Kd.R_lit (Kd.slice 42 k42) (w0 := W4) W4.heap.size 22 ?hg (N := 42) ?hd (xs := ([[]] : List (List (S42)))) (inner := [.slice none 0 0]) (ok := fun _ => True) (okp := fun _ => True) ?hr ?hp (fun _ hk => hk) trivial ?hb ?hs (by simp) ?_; (case hd => rfl); (case hg => rfl); (case hr => first | (go_simp; done) | (go_simp; rfl)); (case hp => exact NvTries_nil _ _ _); (case hb => exact (by repeat (first | (with_reducible first | exact HB.out | apply below_alloc | apply pw_below_drewN | apply below_drew1) | exact HB.out))); (case hs => exact (below_size (by repeat (first | (with_reducible first | exact HB.out | apply below_alloc | apply pw_below_drewN | apply below_drew1) | exact HB.out)))); intro v12 w12 ho hb hg hnew; have n0_ := Lib.hid hb; have n1_ := Lib.hid ho; have n2_ := Lib.hid (Kd.R_grown HO.out hg (by simp)); clear HB HO; have HB := n0_; have HT12 := n1_; have HO := n2_; clear n0_ n1_ n2_ ho hb hg hnew)
    have HVL : Hid (vs.length ≤ 1000) := HV
    have hvl : vs.length ≤ 1000 := HV.out
    go_loopw [12, 45] (fun v12 v45 wr => ∃ q : Nat, q ≤ vs.length ∧ v45 = .int .i64 q ∧ Hid (Kd.R (Kd.slice 42 k42) 22 wr W4.heap.size (fun _ => True) v12 ([] :: (vs.take q).map (fun v => [⟨key, v⟩]))) ∧ Hid (Kd.string.R 9 wr W4.heap.size (fun _ => True) (.slice A7 vs.length c7) vs) ∧ Hid (Below W4.heap.size W4 wr)) (fun _ vq _ => vs.length - (intOf vq).toNat)
    case atStart => exact ⟨0, by omega, rfl, HT12, HO, HB⟩
    case round =>
     clear HT12 HO HB
     obtain ⟨q, hq, rfl, HT12, HO, HB⟩ := hrel
     by_cases hql : q < vs.length
     ·have hrd : rdOf ByteArray.empty vs (q : Int) = vs[q] := by unfold rdOf; rw [Int.toNat_natCast]; exact getD_at hql _
      obtain ⟨ad2, hA2, d0⟩ := Kd.at_string (Kd.R_reads' HO.out).2.2 (q : Int) (by omega) (by omega)
      rw [hrd] at d0
      simp only [Int.toNat_natCast] at d0
      cases hA2
      have dk := pw_cell_below HB.out HQ0.out
      clear hrd
      go_wp2_with (first | ((with_reducible refine gate_dst (N := 53) rfl ?_); refine Kd.R_lit k42 (w0 := W4) W4.heap.size 42 ?hg (N := 53) ?hd (xs := ([⟨key, vs[q]⟩] : List (S42))) (inner := [.string key, .string (vs[q])]) (ok := fun k_ => wr.heap.size ≤ k_) (okp := fun _ => False) ?hr ?hp (fun _ hk => hk.elim) ?hf ?hb ?hs (by simp) ?_; (case hd => rfl); (case hg => rfl); (case hr => first | (go_simp; done) | (go_simp; rfl)); (case hp => exact NvLit _ _ _ _ _); (case hf => exact Nat.le_refl _); (case hb => exact (by repeat (first | (with_reducible first | exact HB.out | apply below_alloc | apply pw_below_drewN | apply below_drew1) | exact HB.out))); (case hs => exact (below_size (by repeat (first | (with_reducible first | exact HB.out | apply below_alloc | apply pw_below_drewN | apply below_drew1) | exact HB.out)))); intro v53 w53 ho hb hg hnew; obtain ⟨A53, c53, rfl⟩ := Kd.R_slice ho; have n0_ := Lib.hid hb; have n1_ := Lib.hid (Kd.R_grown HT12.out hg (by simp)); have n2_ := Lib.hid (Kd.R_grown HO.out hg (by simp)); have HL53 := Lib.hid ho; have HLT := Lib.hid (Kd.R_lt HT12.out); clear HB HT12 HO; have HB := n0_; have HT12 := n1_; have HO := n2_; clear n0_ n1_ n2_ ho hb hg hnew) | ((with_reducible refine gate_builtin (b := .append) (xs := #[.tmp 49, .tmp 54]) rfl ?_); at_builtin; refine Kd.R_append (Kd.slice 42 k42) (w0 := W4) W4.heap.size rfl (.tmp 49) (.tmp 54) 112 22 (.slice none 0 0) 24 rfl Tryd.underlying112 nvInfo rfl (by decide) (by omega) _ ([] :: (List.take q vs).map (fun v => [⟨key, v⟩])) ([⟨key, vs[q]⟩] : List (S42)) [.slice A53 _ c53] (fun _ => True) (fun k_ => wr.heap.size ≤ k_) rfl rfl ?aP ?aF (fun _ _ => trivial) ?aO ?aB ?aS ?aL ?_; (case aP => exact Kd.M_row HL53.out); (case aF => exact fun k_ hk_ => ⟨trivial, fun e_ => by have := HLT.out k_ e_.symm; omega⟩); (case aO => exact HT12.out); (case aB => exact HB.out); (case aS => exact below_size HB.out); (case aL => (have := HVL.out; simp only [List.length_cons, List.length_map, List.length_take]; omega)); intro v55 w55 ho hb hg hat; have n0_ := Lib.hid hb; have n1_ := Lib.hid ho; have n2_ := Lib.hid (Kd.R_over' HO.out (Kd.R_typed HT12.out) (by decide) hg); clear HB HT12 HO; have HB := n0_; have HT12 := n1_; have HO := n2_; clear n0_ n1_ n2_ ho hb hg hat HL53 HLT))
      go_roundw
      case rel =>
       refine ⟨q + 1, by omega, by go_num, ?_, HO, HB⟩
       rw [List.take_succ_eq_append_getElem hql, List.map_append]
       exact HT12
      case measure => simp [intOf]; omega
     ·obtain rfl : q = vs.length := by omega
      rw [List.take_length] at HT12
      have dk := pw_cell_below HB.out HQ0.out
      have hnsz := nvNamed_size (nvVals ts)
      rw [HNM.out, HVS.out] at hnsz
      have hle : nm.size ≤ 1000000 := by have := HS.out; omega
      have hle2 : (nm ++ ⟨#[120]⟩).size ≤ 1000001 := by rw [ByteArray.size_append]; have : (⟨#[120]⟩ : ByteArray).size = 1 := rfl; omega
      clear hnsz
      go_wp2_with (first | ((with_reducible refine gate_dst (N := 62) rfl ?_); refine Kd.R_lit k42 (w0 := W4) W4.heap.size 42 ?hg (N := 62) ?hd (xs := ([⟨key, nm ++ ⟨#[120]⟩⟩] : List (S42))) (inner := [.string key, .string (nm ++ ⟨#[120]⟩)]) (ok := fun k_ => wr.heap.size ≤ k_) (okp := fun _ => False) ?hr ?hp (fun _ hk => hk.elim) ?hf ?hb ?hs (by simp) ?_; (case hd => rfl); (case hg => rfl); (case hr => first | (go_simp; done) | (go_simp; rfl)); (case hp => exact NvLit _ _ _ _ _); (case hf => exact Nat.le_refl _); (case hb => exact (by repeat (first | (with_reducible first | exact HB.out | apply below_alloc | apply pw_below_drewN | apply below_drew1) | exact HB.out))); (case hs => exact (below_size (by repeat (first | (with_reducible first | exact HB.out | apply below_alloc | apply pw_below_drewN | apply below_drew1) | exact HB.out)))); intro v53 w53 ho hb hg hnew; obtain ⟨A53, c53, rfl⟩ := Kd.R_slice ho; have n0_ := Lib.hid hb; have n1_ := Lib.hid (Kd.R_grown HT12.out hg (by simp)); have n2_ := Lib.hid (Kd.R_grown HO.out hg (by simp)); have HL53 := Lib.hid ho; have HLT := Lib.hid (Kd.R_lt HT12.out); clear HB HT12 HO; have HB := n0_; have HT12 := n1_; have HO := n2_; clear n0_ n1_ n2_ ho hb hg hnew) | ((with_reducible refine gate_builtin (b := .append) (xs := #[.tmp 57, .tmp 63]) rfl ?_); at_builtin; refine Kd.R_append (Kd.slice 42 k42) (w0 := W4) W4.heap.size rfl (.tmp 57) (.tmp 63) 112 22 (.slice none 0 0) 24 rfl Tryd.underlying112 nvInfo rfl (by decide) (by omega) _ ([] :: vs.map (fun v => [⟨key, v⟩])) ([⟨key, nm ++ ⟨#[120]⟩⟩] : List (S42)) [.slice A53 _ c53] (fun _ => True) (fun k_ => wr.heap.size ≤ k_) rfl rfl ?aP ?aF (fun _ _ => trivial) ?aO ?aB ?aS ?aL ?_; (case aP => exact Kd.M_row HL53.out); (case aF => exact fun k_ hk_ => ⟨trivial, fun e_ => by have := HLT.out k_ e_.symm; omega⟩); (case aO => exact HT12.out); (case aB => exact HB.out); (case aS => exact below_size HB.out); (case aL => (have := HVL.out; simp only [List.length_cons, List.length_map, List.length_take]; omega)); intro v55 w55 ho hb hg hat; have n0_ := Lib.hid hb; have n1_ := Lib.hid ho; have n2_ := Lib.hid (Kd.R_over' HO.out (Kd.R_typed HT12.out) (by decide) hg); clear HB HT12 HO; have HB := n0_; have HT12 := n1_; have HO := n2_; clear n0_ n1_ n2_ ho hb hg hat HL53 HLT))
      have htl : nvTries ts key = ([] :: vs.map (fun v => [⟨key, v⟩])) ++ [[⟨key, nm ++ ⟨#[120]⟩⟩]] := by unfold nvTries; rw [HNM.out, HVS.out]
      have hHH := HH.out
      rw [htl] at hHH
      obtain ⟨Ar, cr, rfl, hlr, hCr⟩ := Kd.R_reads HT12.out
      refine (slices_ContainsFunc_ssimpl_Label_simpl_Label.calls (Kd.slice 42 k42) rfl 100 (fun _ _ => by kernel_rfl) #[.pointer (some ⟨GT, 0, none⟩)] (nvTry k ts) Ar cr _ i _ hCr hlr ?_ hHH).mono ?_
      ·intro x cs b W hx hp hk hb2
       obtain ⟨A, c, rfl, hl2, hC2⟩ := hk
       obtain ⟨j, hj, hr⟩ := bind_some' hp
       cases hr
       have hB5 := below_then HB.out HB.out.size hb2
       exact impl_possible_2.calls k x A c ts A3 c3 GT j W ((hB5.block GT (blk_lt HGT.out)).trans HGT.out) (Kd.C_below HT.out hB5) hl3 hC2 hl2 hj
      ·rintro e w70 ⟨rfl, hb7⟩
       have HB7 := Lib.hid (below_then HB4.out HB4.out.size (below_then HB.out HB.out.size hb7))
       clear hb7 hCr hlr hHH htl HT12 HO HB
       go_wp2
       go_ret
       exact ⟨rfl, HB7.out⟩
/-! #### impl.Never -/
set_option maxHeartbeats 4000000 in
theorem impl_Never_1.calls (k : Nat) (x : S59) (A2 : Option Addr) (n2 c2 : Nat) (A : Option Addr) (c : Nat) (sel : List S59) (g : Nat) (i : Int) (W : World)
  (hb : W.heap[g]? = some (.cells #[.slice A sel.length c] 28 (0, 0))) (ht : Kd.C k59 W A sel.length sel) (hc : sel.length ≤ c) (hl : sel.length ≤ 1000)
  (hv : (nvVals (nvTs x.f1 sel)).length ≤ 1000) (hs : ((nvVals (nvTs x.f1 sel)).map ByteArray.size).sum ≤ 1000000) (h : idxO (nvTry k (nvTs x.f1 sel)) (nvTries (nvTs x.f1 sel) x.f1) 0 = some i) :
  Calls Tryd.prog 71 #[.agg #[.int .i64 x.f0, .string x.f1, .slice A2 n2 c2], .pointer (some ⟨g, 0, none⟩)] W fun e w' => e = .returned (.bool (!decide (0 ≤ i))) ∧ Below W.heap.size W w' := by
 have hlt := blk_lt hb
 have hcell := blk_cell hb 0
 simp only [List.getElem?_toArray, List.getElem?_cons_zero] at hcell
 have HB := Lib.hid (below_alloc (Below.refl W.heap.size W) (.cells #[.int .i64 x.f0, .string x.f1, .slice A2 n2 c2] 59))
 have HT := Lib.hid (Kd.C_below ht HB.out)
 have HV := Lib.hid hv
 have HS := Lib.hid hs
 have HH := Lib.hid h
 clear hb ht h hv hs
 go_enter Tryd.func71, Tryd.ntmps71
 go_wp2_with fail
 refine (impl_possible.calls k sel A c x.f1 i _ HT.out hc hl HV.out HS.out HH.out).mono ?_
 rintro e w2 ⟨rfl, hb2⟩
 have HB2 := Lib.hid (below_then HB.out HB.out.size hb2)
 clear hb2
 go_wp2
 go_ret
 exact ⟨rfl, HB2.out⟩
def nvOk (l0 : List (S59)) : Bool := decide (l0.length ≤ 8) && l0.all (fun x => decide (x.f2.length ≤ 6) && x.f2.all (fun s => decide (s.size ≤ 20)))
theorem nvOk_vals {l0 : List (S59)} (h : nvOk l0 = true) : l0.length ≤ 8 ∧ ∀ key, (nvVals (nvTs key l0)).length ≤ 48 ∧ ((nvVals (nvTs key l0)).map ByteArray.size).sum ≤ 960 := by
 simp only [nvOk, Bool.and_eq_true, decide_eq_true_eq, List.all_eq_true] at h
 obtain ⟨h8, hx⟩ := h
 have str : ∀ (l : List ByteArray), (∀ s ∈ l, s.size ≤ 20) → (l.map ByteArray.size).sum ≤ 20 * l.length := by
  intro l
  induction l with
  | nil => simp
  | cons s l ih =>
   intro h
   have := ih (fun x hx => h x (by simp [hx]))
   have := h s (by simp)
   rw [List.map_cons, List.sum_cons, List.length_cons]; omega
 have key : ∀ (ts : List (S59)), (∀ x ∈ ts, x.f2.length ≤ 6 ∧ ∀ s ∈ x.f2, s.size ≤ 20) → (nvVals ts).length ≤ 6 * ts.length ∧ ((nvVals ts).map ByteArray.size).sum ≤ 120 * ts.length := by
  intro ts
  induction ts with
  | nil => intro _; simp [nvVals]
  | cons x ts ih =>
   intro h
   obtain ⟨a, b⟩ := ih (fun y hy => h y (by simp [hy]))
   obtain ⟨c, d⟩ := h x (by simp)
   have := str x.f2 d
   have e : nvVals (x :: ts) = x.f2 ++ nvVals ts := by unfold nvVals; rw [List.flatMap_cons]
   rw [e, List.length_append, List.map_append, List.sum_append, List.length_cons]
   omega
 refine ⟨h8, fun k => ?_⟩
 have hlen : (nvTs k l0).length ≤ 8 := Nat.le_trans (List.length_filter_le _ _) h8
 obtain ⟨a, b⟩ := key (nvTs k l0) (fun x hxm => hx x (List.mem_filter.1 hxm).1)
 omega
def nvAll (k : Nat) (l0 : List (S59)) (x : S59) : Option Bool := (idxO (nvTry k (nvTs x.f1 l0)) (nvTries (nvTs x.f1 l0) x.f1) 0).map (fun i => !decide (0 ≤ i))
def impl_Never.f (k : Nat) (l0 : List (S59)) : Option Bool :=
 (impl_SelectorOk.f k l0).bind fun a => if a = true then (if nvOk l0 = true then (idxO (nvAll k l0) l0 0).bind fun j => some (decide (0 ≤ j)) else none) else some false
set_option maxHeartbeats 4000000 in
theorem impl_Never.calls (k : Nat) (A0 : Option Addr) (c0 : Nat) (l0 : List (S59)) (r : Bool) (w : World) (hr0 : Kd.C k59 w A0 l0.length l0) (hc0 : l0.length ≤ c0) (h : impl_Never.f k l0 = some r) :
  Calls Tryd.prog 31 #[.slice A0 l0.length c0] w fun e w' => e = .returned (.bool r) ∧ Below w.heap.size w w' := by
 unfold impl_Never.f at h
 obtain ⟨a, ha, h⟩ := bind_some' h
 have HB := Lib.hid (below_alloc (Below.refl w.heap.size w) (.cells #[.slice A0 l0.length c0] 28))
 have HK : Hid ((w.alloc (.cells #[.slice A0 l0.length c0] 28)).heap[w.heap.size]? = some (.cells #[.slice A0 l0.length c0] 28 (0, 0))) := by exact heap_alloc_new _ _
 have HR0 := Lib.hid (Kd.C_below hr0 HB.out)
 have HA := Lib.hid ha
 clear hr0 ha
 cases a with
 | false =>
  cases h
  go_enter Tryd.func31, Tryd.ntmps31
  go_wp2_with fail
  refine (impl_SelectorOk.calls k A0 c0 l0 false _ HR0.out hc0 HA.out).mono ?_
  rintro e w2 ⟨rfl, hb2⟩
  have HB2 := Lib.hid (below_then HB.out HB.out.size hb2)
  clear hb2
  go_wp2
  go_ret
  exact ⟨rfl, HB2.out⟩
 | true =>
  rw [if_pos rfl] at h
  by_cases ho : nvOk l0 = true
  ·rw [if_pos ho] at h
   obtain ⟨j, hj, h⟩ := bind_some' h
   cases h
   have HI := Lib.hid hj
   have HOK := Lib.hid (nvOk_vals ho)
   clear hj ho
   go_enter Tryd.func31, Tryd.ntmps31
   go_wp2_with fail
   refine (impl_SelectorOk.calls k A0 c0 l0 true _ HR0.out hc0 HA.out).mono ?_
   rintro e w2 ⟨rfl, hb2⟩
   have hK2 := (hb2.block w.heap.size (blk_lt HK.out)).trans HK.out
   have HK2 := Lib.hid hK2
   have hc2 := blk_cell hK2 0
   simp only [List.getElem?_toArray, List.getElem?_cons_zero] at hc2
   have HB2 := Lib.hid (below_then HB.out HB.out.size hb2)
   have HR2 := Lib.hid (Kd.C_below HR0.out hb2)
   clear hb2 hK2
   go_wp2_with fail
   refine (slices_ContainsFunc_simpl_Term_impl_Term.calls k59 rfl 71 (fun _ _ => by kernel_rfl) #[.pointer (some ⟨w.heap.size, 0, none⟩)] (nvAll k l0) A0 c0 l0 j _ HR2.out hc0 ?_ HI.out).mono ?_
   ·intro x cs b W hx hp hk hb3
    obtain ⟨A2, c2, rfl, hl2, hC2⟩ := k59_open hk
    obtain ⟨i, hi, rfl⟩ := Option.map_eq_some_iff.1 hp
    have ho := HOK.out
    have hx2 := ho.2 x.f1
    exact impl_Never_1.calls k x A2 x.f2.length c2 A0 c0 l0 w.heap.size i W ((hb3.block _ (blk_lt HK2.out)).trans HK2.out) (Kd.C_below HR2.out hb3) hc0 (by omega) (by omega) (by omega) hi
   ·rintro e w3 ⟨rfl, hb3⟩
    have HB3 := Lib.hid (below_then HB2.out HB2.out.size hb3)
    clear hb3
    go_wp2
    go_ret
    exact ⟨rfl, HB3.out⟩
  ·rw [if_neg ho] at h
   cases h

end Go.Proofs.YtpjpnppoejnafaaDoor.G

/- G73 -/
-- Laid by wip/g/gprint.py out of the translation, by the kit's print program. Lean checks it.
namespace Go.Proofs.YtpjpnppoejnafaaDoor.G
open Go.RowKit Go.Proofs.YtpjpnppoejnafaaDoorW.PrintWords Go.Proofs.YtpjpnppoejnafaaDoorW.PrintLast Go.Proofs.YtpjpnppoejnafaaDoorW.PrintMore
attribute [local go_sem] max2_int min2_int max_two min_two max_three min_three max_four min_four   -- for this text's walks alone
set_option linter.unusedVariables false
set_option linter.unusedSimpArgs false

/-! ### spec_l2Alone: function 73 -/
mutual
def spec_l2Alone.l0 : Nat → List (S59) → ByteArray → List ByteArray → Int → Option (Bool)
 | 0, _, _, _, _ => none
 | k + 1, x0, x1, x5, x6 => if x6 < 60 then (if x5.length < 8796093022208 then (spec_l2Alone.l0 k x0 x1 (x5 ++ [strOfNums (([122, (wrap64 (48 + (wrap64 (Int.tdiv x6 10)))) % 256, (wrap64 (48 + (Int.tmod x6 10))) % 256] : List Int))]) (wrap64 (x6 + 1))) else (none)) else (spec_l2Alone.l1 k x0 x1 x5 0)
def spec_l2Alone.l1 : Nat → List (S59) → ByteArray → List ByteArray → Int → Option (Bool)
 | 0, _, _, _, _ => none
 | k + 1, x0, x1, x5, x7 => if x7 < (x0.length : Int) then (if 0 ≤ x7 then (if ((rd_T59 x0 x7).f1).toList = x1.toList then (if x5.length + ((rd_T59 x0 x7).f2).length < 8796093022208 then (spec_l2Alone.l1 k x0 x1 (x5 ++ ((rd_T59 x0 x7).f2)) (wrap64 (x7 + 1))) else (none)) else (spec_l2Alone.l1 k x0 x1 x5 (wrap64 (x7 + 1)))) else (none)) else (spec_l2Alone.l2 k x0 x1 x5 (-1))
def spec_l2Alone.l2 : Nat → List (S59) → ByteArray → List ByteArray → Int → Option (Bool)
 | 0, _, _, _, _ => none
 | k + 1, x0, x1, x5, x8 => if x8 < (x5.length : Int) then (spec_l2Alone.l3 k x0 x1 x5 x8 true 0) else (some true)
def spec_l2Alone.l3 : Nat → List (S59) → ByteArray → List ByteArray → Int → Bool → Int → Option (Bool)
 | 0, _, _, _, _, _, _ => none
 | k + 1, x0, x1, x5, x8, x9, x10 => if x10 < (x0.length : Int) then (if x8 ≥ 0 then (if 0 ≤ x8 then (if x8 < (x5.length : Int) then (if x9 = true then (if 0 ≤ x10 then (if ((rd_T59 x0 x10).f1).toList = x1.toList then ((spec_l2Holds.f k ((rd_T59 x0 x10).f0) ((rd_T59 x0 x10).f1) ((rd_T59 x0 x10).f2) (rdOf ByteArray.empty x5 x8) (decide (x8 ≥ 0))).bind fun t727 => (spec_l2Alone.l3 k x0 x1 x5 x8 t727 (wrap64 (x10 + 1)))) else (spec_l2Alone.l3 k x0 x1 x5 x8 true (wrap64 (x10 + 1)))) else (none)) else (spec_l2Alone.l3 k x0 x1 x5 x8 false (wrap64 (x10 + 1)))) else (none)) else (none)) else (if x9 = true then (if 0 ≤ x10 then (if ((rd_T59 x0 x10).f1).toList = x1.toList then ((spec_l2Holds.f k ((rd_T59 x0 x10).f0) ((rd_T59 x0 x10).f1) ((rd_T59 x0 x10).f2) (⟨#[]⟩ : ByteArray) (decide (x8 ≥ 0))).bind fun t730 => (spec_l2Alone.l3 k x0 x1 x5 x8 t730 (wrap64 (x10 + 1)))) else (spec_l2Alone.l3 k x0 x1 x5 x8 true (wrap64 (x10 + 1)))) else (none)) else (spec_l2Alone.l3 k x0 x1 x5 x8 false (wrap64 (x10 + 1))))) else (if x9 = true then (some false) else (spec_l2Alone.l2 k x0 x1 x5 (wrap64 (x8 + 1))))
end
def spec_l2Alone.f (k : Nat) (l0 : List (S59)) (a1 : ByteArray) : Option (Bool) := spec_l2Alone.l0 k l0 a1 (([] : List ByteArray)) 0
set_option maxHeartbeats 8000000 in
set_option maxRecDepth 100000 in
theorem spec_l2Alone.calls (k : Nat) (A0 : Option Addr) (c0 : Nat) (l0 : List (S59)) (a1 : ByteArray) (r : Bool) (w : World) (hr0 : Kd.C k59 w A0 l0.length l0) (hc0 : l0.length ≤ c0) (h : spec_l2Alone.f k l0 a1 = some r) :
  Calls Tryd.prog 73 #[.slice A0 l0.length c0, .string a1] w fun e w' => e = .returned (.bool r) ∧ Below w.heap.size w w' := by
 have hu59 := Tryd.underlying59
 have HR0 := Aside0.mk hr0
 have HC0 := Aside0.mk hc0
 clear hr0 hc0
 have HB := Aside0.mk (Below.refl w.heap.size w)
 unfold spec_l2Alone.f at h; have H := h
 clear h
 obtain ⟨y710, hy710⟩ : ∃ y_ : List ByteArray, y_ = (([] : List ByteArray)) := ⟨_, rfl⟩
 replace H : (spec_l2Alone.l0 k l0 a1 y710 0) = some r := by first | (rw [hy710]; with_reducible exact H) | (have H2_ := (Option.bind_some _ _).symm.trans H; rw [hy710]; with_reducible exact H2_) | (have H2_ := (Option.bind_some _ _).symm.trans H; with_reducible exact H2_) | with_reducible exact H | (rw [hy710]; exact H) | exact H
 have Ny710 := Aside0.mk hy710
 clear hy710
 have H' := Aside0.mk H
 clear H
 go_enter Tryd.func73, Tryd.ntmps73
 go_wp2_with (first | ((with_reducible refine gate_dst (N := 12) rfl ?_); refine Kd.R_lit Kd.string _ 9 ?hg (N := 12) ?hd (xs := ([] : List ByteArray)) (inner := []) (ok := fun _ => True) (okp := fun _ => True) ?hr ?hp (fun _ hk => hk) trivial (Below.refl _ _) (Nat.le_refl _) (by simp) ?_; (case hd => rfl); (case hg => rfl); (case hr => go_simp); (case hp => exact (Reps.none _ _)); intro v711 w3 ho4 hb hg_ hnew_; clear hg_ hnew_; (first | rw [← Ny710.out] at ho4 | (simp only [Int.reduceToNat] at ho4; rw [← Ny710.out] at ho4)); have n0_ := Aside0.mk (Kd.R_lower ho4 (below_size (qB HB))); have n1_ := Aside0.mk (below_step (qB HB) hb); clear HB; have HO712 := n0_; have HB := n1_; clear n0_ n1_; clear hb ho4))
 go_loopg [5, 6] k (fun kq v5 v6 w' => ∃ (x5_1 : List ByteArray) (x6_1 : Int), v6 = .int .i64 x6_1 ∧ Aside0 (spec_l2Alone.l0 kq l0 a1 x5_1 x6_1 = some r) ∧ Aside0 (kq ≤ k) ∧ Aside0 (Kd.R Kd.string 9 w' w.heap.size (fun _ => True) v5 x5_1) ∧ Aside0 (Below w.heap.size w w'))
 case atStart => exact ⟨(y710), (0), (by first | rfl | (simp; done) | (simp [*]; done)), H', ⟨Nat.le_refl _⟩, ⟨by (with_reducible repeat (first | apply Kd.R_alloc | apply Kd.R_drewN | apply Kd.R_drew)); exact HO712.out⟩, ⟨qB HB⟩⟩
 case round =>
  clear H'
  try clear p2
  obtain ⟨x5_1, x6_1, rfl, HA, HK1, HO_5, HB⟩ := hrel
  cases gk with
  | zero => exact absurd HA.out (by simp [spec_l2Alone.l0])
  | succ k1 =>
   have H := HA.out
   clear HA
   simp only [spec_l2Alone.l0] at H
   by_cases c5 : x6_1 < 60
   ·rw [if_pos c5] at H
    have c5b0 : decide (x6_1 < 60) = true := decide_eq_true c5
    clear c5
    obtain ⟨y713, hy713⟩ : ∃ y_ : List Int, y_ = (([122, (wrap64 (48 + (wrap64 (Int.tdiv x6_1 10)))) % 256, (wrap64 (48 + (Int.tmod x6_1 10))) % 256] : List Int)) := ⟨_, rfl⟩
    replace H : (if x5_1.length < 8796093022208 then (spec_l2Alone.l0 k1 l0 a1 (x5_1 ++ [strOfNums y713]) (wrap64 (x6_1 + 1))) else (none)) = some r := by first | (rw [hy713]; with_reducible exact H) | (have H2_ := (Option.bind_some _ _).symm.trans H; rw [hy713]; with_reducible exact H2_) | (have H2_ := (Option.bind_some _ _).symm.trans H; with_reducible exact H2_) | with_reducible exact H | (rw [hy713]; exact H) | exact H
    have Ny713 := Aside0.mk hy713
    clear hy713
    by_cases c6 : x5_1.length < 8796093022208
    ·rw [if_pos c6] at H
     have LMc6 := Aside0.mk c6
     clear c6
     obtain ⟨y716, hy716⟩ : ∃ y_ : List ByteArray, y_ = (x5_1 ++ [strOfNums y713]) := ⟨_, rfl⟩
     replace H : (spec_l2Alone.l0 k1 l0 a1 y716 (wrap64 (x6_1 + 1))) = some r := by first | (rw [hy716]; with_reducible exact H) | (have H2_ := (Option.bind_some _ _).symm.trans H; rw [hy716]; with_reducible exact H2_) | (have H2_ := (Option.bind_some _ _).symm.trans H; with_reducible exact H2_) | with_reducible exact H | (rw [hy716]; exact H) | exact H
     have Ny716 := Aside0.mk hy716
     clear hy716
     have H' := Aside0.mk H
     clear H
     go_wp2_with (first | ((with_reducible refine gate_dst (N := 26) rfl ?_); refine Kd.R_lit (Kd.int .u8) _ 5 ?hg (N := 26) ?hd (xs := ([122, (wrap64 (48 + (wrap64 (Int.tdiv x6_1 10)))) % 256, (wrap64 (48 + (Int.tmod x6_1 10))) % 256] : List Int)) (inner := [.int .u8 122, .int .u8 ((wrap64 (48 + (wrap64 (Int.tdiv x6_1 10)))) % 256), .int .u8 ((wrap64 (48 + (Int.tmod x6_1 10))) % 256)]) (ok := fun _ => True) (okp := fun _ => True) ?hr ?hp (fun _ hk => hk) trivial (Below.refl _ _) (Nat.le_refl _) (by simp) ?_; (case hd => rfl); (case hg => rfl); (case hr => go_simp); (case hp => exact (Reps.one (show Kd.M (Kd.int .u8) _ _ _ 122 [.int .u8 122] from rfl) (Reps.one (show Kd.M (Kd.int .u8) _ _ _ ((wrap64 (48 + (wrap64 (Int.tdiv x6_1 10)))) % 256) [.int .u8 ((wrap64 (48 + (wrap64 (Int.tdiv x6_1 10)))) % 256)] from rfl) (Reps.one (show Kd.M (Kd.int .u8) _ _ _ ((wrap64 (48 + (Int.tmod x6_1 10))) % 256) [.int .u8 ((wrap64 (48 + (Int.tmod x6_1 10))) % 256)] from rfl) (Reps.none _ _))))); intro v714 w7 ho8 hb hg_ hnew_; clear hg_ hnew_; (first | rw [← Ny713.out] at ho8 | (simp only [Int.reduceToNat] at ho8; rw [← Ny713.out] at ho8)); have n0_ := Aside0.mk (Kd.R_below (by (with_reducible repeat (first | apply Kd.R_alloc | apply Kd.R_drewN | apply Kd.R_drew)); exact HO_5.out) hb); have n1_ := Aside0.mk (Kd.R_lower ho8 (below_size (qB HB))); have n2_ := Aside0.mk (below_step (qB HB) hb); clear HO_5; clear HB; have HO_5 := n0_; have HO715 := n1_; have HB := n2_; clear n0_ n1_ n2_; clear hb ho8; have hcv9 := own_string (P := Tryd.prog) Tryd.underlying33 Tryd.underlying5 Tryd.underlying9 (Kd.own_of_R HO715.out)) | ((with_reducible refine gate_builtin (b := .append) (xs := #[.tmp 17, .tmp 28]) rfl ?_); at_builtin; refine Kd.R_append Kd.string (w0 := w) w.heap.size rfl (.tmp 17) (.tmp 28) 51 9 (.string ⟨#[]⟩) 16 rfl Tryd.underlying51 info9 rfl (by decide) (by omega) u5 x5_1 (strOfNums y713) [.string (strOfNums y713)] (fun _ => True) (fun _ => False) rfl rfl ?aP (fun _ hk => hk.elim) ?aF ?aO ?aB ?aS ?aL ?_; (case aP => exact rfl); (case aB => exact (qB HB)); (case aF => exact (fun _ _ => trivial)); (case aO => exact (by (with_reducible repeat (first | apply Kd.R_alloc | apply Kd.R_drewN | apply Kd.R_drew)); exact HO_5.out)); (case aS => exact (below_size (qB HB))); (case aL => have := LMc6.out; omega); intro v717 w10 ho hb hg hat; rw [← Ny716.out] at ho; have n0_ := Aside0.mk (Kd.R_over' (by (with_reducible repeat (first | apply Kd.R_alloc | apply Kd.R_drewN | apply Kd.R_drew)); exact HO715.out) (Kd.R_typed (by (with_reducible repeat (first | apply Kd.R_alloc | apply Kd.R_drewN | apply Kd.R_drew)); exact HO_5.out)) (by decide) hg); have n1_ := Aside0.mk (hb); have n2_ := Aside0.mk (ho); clear HO715; clear HB; clear HO_5; have HO715 := n0_; have HB := n1_; have HO718 := n2_; clear n0_ n1_ n2_; clear ho hb hg hat))
     go_roundg k1
     case measure => have := HK1.out; omega
     case rel => exact ⟨(y716), (wrap64 (x6_1 + 1)), (by first | rfl | (simp; done) | (simp [*]; done)), H', ⟨by have := HK1.out; omega⟩, ⟨by (with_reducible repeat (first | apply Kd.R_alloc | apply Kd.R_drewN | apply Kd.R_drew)); exact HO718.out⟩, ⟨qB HB⟩⟩
    ·rw [if_neg c6] at H
     exact absurd H (by simp)
   ·rw [if_neg c5] at H
    have c5b0 : decide (x6_1 < 60) = false := decide_eq_false c5
    clear c5
    have H' := Aside0.mk H
    clear H
    go_wp2
    go_loopg [5, 7] k1 (fun kq v5 v7 w' => ∃ (x5_2 : List ByteArray) (x7_2 : Int), v7 = .int .i64 x7_2 ∧ Aside0 (spec_l2Alone.l1 kq l0 a1 x5_2 x7_2 = some r) ∧ Aside0 (kq ≤ k1) ∧ Aside0 (Kd.R Kd.string 9 w' w.heap.size (fun _ => True) v5 x5_2) ∧ Aside0 (Below w.heap.size w w'))
    case atStart => exact ⟨(x5_1), (0), (by first | rfl | (simp; done) | (simp [*]; done)), H', ⟨Nat.le_refl _⟩, ⟨by (with_reducible repeat (first | apply Kd.R_alloc | apply Kd.R_drewN | apply Kd.R_drew)); exact HO_5.out⟩, ⟨qB HB⟩⟩
    case round =>
     clear H'
     try clear p2
     try clear c5
     try clear c5b0
     try clear c6
     try clear p6
     try clear c7
     try clear hcv9
     try clear p2
     obtain ⟨x5_2, x7_2, rfl, HA, HK2, HO_5, HB⟩ := hrel
     cases gk with
     | zero => exact absurd HA.out (by simp [spec_l2Alone.l1])
     | succ k2 =>
      have H := HA.out
      clear HA
      simp only [spec_l2Alone.l1] at H
      by_cases c11 : x7_2 < (l0.length : Int)
      ·rw [if_pos c11] at H
       have c11b0 : decide (x7_2 < (l0.length : Int)) = true := decide_eq_true c11
       clear c11
       by_cases c12 : 0 ≤ x7_2
       ·rw [if_pos c12] at H
        have c12b0 : decide (0 ≤ x7_2) = true := decide_eq_true c12
        clear c12
        by_cases c13 : ((rd_T59 l0 x7_2).f1).toList = a1.toList
        ·rw [if_pos c13] at H
         have c13b0 : (((rd_T59 l0 x7_2).f1).toList == a1.toList) = true := beq_iff_eq.mpr c13
         have c13b1 : (((rd_T59 l0 x7_2).f1).toList != a1.toList) = false := bne_eq_false_iff_eq.mpr c13
         clear c13
         by_cases c14 : x5_2.length + ((rd_T59 l0 x7_2).f2).length < 8796093022208
         ·rw [if_pos c14] at H
          have LMc14 := Aside0.mk c14
          clear c14
          obtain ⟨y721, hy721⟩ : ∃ y_ : List ByteArray, y_ = (x5_2 ++ ((rd_T59 l0 x7_2).f2)) := ⟨_, rfl⟩
          replace H : (spec_l2Alone.l1 k2 l0 a1 y721 (wrap64 (x7_2 + 1))) = some r := by first | (rw [hy721]; with_reducible exact H) | (have H2_ := (Option.bind_some _ _).symm.trans H; rw [hy721]; with_reducible exact H2_) | (have H2_ := (Option.bind_some _ _).symm.trans H; with_reducible exact H2_) | with_reducible exact H | (rw [hy721]; exact H) | exact H
          have Ny721 := Aside0.mk hy721
          clear hy721
          have H' := Aside0.mk H
          clear H
          have p719 : 0 ≤ (x7_2 : Int) := of_decide_eq_true (by first | (with_reducible assumption) | assumption)
          have q719 : x7_2 < (l0.length : Int) := of_decide_eq_true (by first | (with_reducible assumption) | assumption)
          obtain ⟨ad719, A719_2, c719_2, e719, hx719_0, hx719_1, hx719_2, hl719_2, hi719_2⟩ := at_T59 HR0.out x7_2 p719 q719
          cases e719
          replace hx719_0 := (HB.out.cell (World.block_lt_of_cell? w _ hx719_0)).trans hx719_0
          replace hx719_1 := (HB.out.cell (World.block_lt_of_cell? w _ hx719_1)).trans hx719_1
          replace hx719_2 := (HB.out.cell (World.block_lt_of_cell? w _ hx719_2)).trans hx719_2
          have HR719_2 := Aside0.mk hi719_2
          have HC719_2 := Aside0.mk hl719_2
          clear hi719_2 hl719_2
          replace p719 := eq_true p719
          replace q719 := eq_true q719
          have p720 : 0 ≤ (x7_2 : Int) := of_decide_eq_true (by first | (with_reducible assumption) | assumption)
          have q720 : x7_2 < (l0.length : Int) := of_decide_eq_true (by first | (with_reducible assumption) | assumption)
          obtain ⟨ad720, A720_2, c720_2, e720, hx720_0, hx720_1, hx720_2, hl720_2, hi720_2⟩ := at_T59 HR0.out x7_2 p720 q720
          obtain rfl : ad719 = ad720 := (by injection e720)
          replace hx720_0 := (HB.out.cell (World.block_lt_of_cell? w _ hx720_0)).trans hx720_0
          replace hx720_1 := (HB.out.cell (World.block_lt_of_cell? w _ hx720_1)).trans hx720_1
          replace hx720_2 := (HB.out.cell (World.block_lt_of_cell? w _ hx720_2)).trans hx720_2
          have HR720_2 := Aside0.mk hi720_2
          have HC720_2 := Aside0.mk hl720_2
          clear hi720_2 hl720_2
          replace p720 := eq_true p720
          replace q720 := eq_true q720
          have ea_ := Option.some.inj (hx719_2.symm.trans hx720_2)
          injection ea_ with ea_ en_ ec_
          subst ea_
          subst ec_
          clear en_
          go_wp2_with (first | ((with_reducible refine gate_builtin (b := .append) (xs := #[.tmp 43, .tmp 48]) rfl ?_); at_builtin; refine Kd.R_append_rows Kd.string (w0 := w) w.heap.size rfl (.tmp 43) (.tmp 48) 51 9 (.string ⟨#[]⟩) 16 rfl Tryd.underlying51 info9 rfl (by decide) (by omega) u5 x5_2 ((rd_T59 l0 x7_2).f2) _ _ _ (fun _ => True) (fun _ => False) rfl rfl ?aO ?aR (fun _ _ h => h) (fun _ h => h.elim) ?aF ?aB ?aS ?aL ?_; (case aR => exact qC HR720_2 HB); (case aB => exact (qB HB)); (case aF => exact (fun _ _ => trivial)); (case aO => exact (by (with_reducible repeat (first | apply Kd.R_alloc | apply Kd.R_drewN | apply Kd.R_drew)); exact HO_5.out)); (case aS => exact (below_size (qB HB))); (case aL => have := LMc14.out; omega); intro v722 w15 ho hb hg hat; rw [← Ny721.out] at ho; have n0_ := Aside0.mk (hb); have n1_ := Aside0.mk (ho); clear HB; clear HO_5; have HB := n0_; have HO723 := n1_; clear n0_ n1_; clear ho hb hg hat))
          go_roundg k2
          case measure => have := HK1.out; have := HK2.out; omega
          case rel => exact ⟨(y721), (wrap64 (x7_2 + 1)), (by first | rfl | (simp; done) | (simp [*]; done)), H', ⟨by have := HK1.out; have := HK2.out; omega⟩, ⟨by (with_reducible repeat (first | apply Kd.R_alloc | apply Kd.R_drewN | apply Kd.R_drew)); exact HO723.out⟩, ⟨qB HB⟩⟩
         ·rw [if_neg c14] at H
          exact absurd H (by simp)
        ·rw [if_neg c13] at H
         have c13b0 : (((rd_T59 l0 x7_2).f1).toList == a1.toList) = false := beq_eq_false_iff_ne.mpr c13
         have c13b1 : (((rd_T59 l0 x7_2).f1).toList != a1.toList) = true := bne_iff_ne.mpr c13
         have H' := Aside0.mk H
         clear H
         have p719 : 0 ≤ (x7_2 : Int) := of_decide_eq_true (by first | (with_reducible assumption) | assumption)
         have q719 : x7_2 < (l0.length : Int) := of_decide_eq_true (by first | (with_reducible assumption) | assumption)
         obtain ⟨ad719, A719_2, c719_2, e719, hx719_0, hx719_1, hx719_2, hl719_2, hi719_2⟩ := at_T59 HR0.out x7_2 p719 q719
         cases e719
         replace hx719_0 := (HB.out.cell (World.block_lt_of_cell? w _ hx719_0)).trans hx719_0
         replace hx719_1 := (HB.out.cell (World.block_lt_of_cell? w _ hx719_1)).trans hx719_1
         replace hx719_2 := (HB.out.cell (World.block_lt_of_cell? w _ hx719_2)).trans hx719_2
         have HR719_2 := Aside0.mk hi719_2
         have HC719_2 := Aside0.mk hl719_2
         clear hi719_2 hl719_2
         replace p719 := eq_true p719
         replace q719 := eq_true q719
         go_wp2
         go_roundg k2
         case measure => have := HK1.out; have := HK2.out; omega
         case rel => exact ⟨(x5_2), (wrap64 (x7_2 + 1)), (by first | rfl | (simp; done) | (simp [*]; done)), H', ⟨by have := HK1.out; have := HK2.out; omega⟩, ⟨by (with_reducible repeat (first | apply Kd.R_alloc | apply Kd.R_drewN | apply Kd.R_drew)); exact HO_5.out⟩, ⟨qB HB⟩⟩
       ·rw [if_neg c12] at H
        exact absurd H (by simp)
      ·rw [if_neg c11] at H
       have c11b0 : decide (x7_2 < (l0.length : Int)) = false := decide_eq_false c11
       clear c11
       have H' := Aside0.mk H
       clear H
       go_wp2
       go_loopg [8] k2 (fun kq v8 w' => ∃ (x8_3 : Int), v8 = .int .i64 x8_3 ∧ Aside0 (spec_l2Alone.l2 kq l0 a1 x5_2 x8_3 = some r) ∧ Aside0 (kq ≤ k2) ∧ Aside0 (Kd.R Kd.string 9 w' w.heap.size (fun _ => True) u5 x5_2) ∧ Aside0 (Below w.heap.size w w'))
       case atStart => exact ⟨((-1)), (by first | rfl | (simp; done) | (simp [*]; done)), H', ⟨Nat.le_refl _⟩, ⟨by (with_reducible repeat (first | apply Kd.R_alloc | apply Kd.R_drewN | apply Kd.R_drew)); exact HO_5.out⟩, ⟨qB HB⟩⟩
       case round =>
        clear H'
        try clear c1
        try clear p2
        try clear c5
        try clear c5b0
        try clear c6
        try clear p6
        try clear c7
        try clear p7
        try clear q7
        try clear hx7
        try clear hcv9
        try clear c11
        try clear c11b0
        try clear c12
        try clear c12b0
        try clear c13
        try clear c13b0
        try clear c13b1
        try clear c14
        try clear hx719_0
        try clear hx719_1
        try clear hx719_2
        try clear hx720_0
        try clear hx720_1
        try clear hx720_2
        try clear p2
        try clear p6
        try clear p719
        try clear p720
        try clear q719
        try clear q720
        obtain ⟨x8_3, rfl, HA, HK3, HO_5, HB⟩ := hrel
        cases gk with
        | zero => exact absurd HA.out (by simp [spec_l2Alone.l2])
        | succ k3 =>
         have H := HA.out
         clear HA
         simp only [spec_l2Alone.l2] at H
         by_cases c16 : x8_3 < (x5_2.length : Int)
         ·rw [if_pos c16] at H
          have c16b0 : decide (x8_3 < (x5_2.length : Int)) = true := decide_eq_true c16
          clear c16
          have H' := Aside0.mk H
          clear H
          obtain ⟨Ao17, co17, eo17⟩ := Kd.R_slice HO_5.out
          subst eo17
          go_wp2
          go_loopg [9, 10] k3 (fun kq v9 v10 w' => ∃ (x9_4 : Bool) (x10_4 : Int), v9 = .bool x9_4 ∧ v10 = .int .i64 x10_4 ∧ Aside0 (spec_l2Alone.l3 kq l0 a1 x5_2 x8_3 x9_4 x10_4 = some r) ∧ Aside0 (kq ≤ k3) ∧ Aside0 (Kd.R Kd.string 9 w' w.heap.size (fun _ => True) (.slice Ao17 x5_2.length co17) x5_2) ∧ Aside0 (Below w.heap.size w w'))
          case atStart => exact ⟨(true), (0), (by first | rfl | (simp; done) | (simp [*]; done)), (by first | rfl | (simp; done) | (simp [*]; done)), H', ⟨Nat.le_refl _⟩, ⟨by (with_reducible repeat (first | apply Kd.R_alloc | apply Kd.R_drewN | apply Kd.R_drew)); exact HO_5.out⟩, ⟨qB HB⟩⟩
          case round =>
           clear H'
           try clear c1
           try clear p2
           try clear c5
           try clear c5b0
           try clear c6
           try clear p6
           try clear c7
           try clear p7
           try clear q7
           try clear hx7
           try clear hcv9
           try clear c11
           try clear c11b0
           try clear c12
           try clear c12b0
           try clear c13
           try clear c13b0
           try clear c13b1
           try clear c14
           try clear c16
           try clear c16b0
           try clear hx719_0
           try clear hx719_1
           try clear hx719_2
           try clear hx720_0
           try clear hx720_1
           try clear hx720_2
           try clear p2
           try clear p6
           try clear p7
           try clear p719
           try clear p720
           try clear q7
           try clear q719
           try clear q720
           obtain ⟨x9_4, x10_4, rfl, rfl, HA, HK4, HO_5, HB⟩ := hrel
           cases gk with
           | zero => exact absurd HA.out (by simp [spec_l2Alone.l3])
           | succ k4 =>
            have H := HA.out
            clear HA
            simp only [spec_l2Alone.l3] at H
            by_cases c18 : x10_4 < (l0.length : Int)
            ·rw [if_pos c18] at H
             have c18b0 : decide (x10_4 < (l0.length : Int)) = true := decide_eq_true c18
             clear c18
             by_cases c19 : x8_3 ≥ 0
             ·rw [if_pos c19] at H
              have c19b0 : decide (0 ≤ x8_3) = true := decide_eq_true c19
              clear c19
              by_cases c20 : 0 ≤ x8_3
              ·rw [if_pos c20] at H
               have c20b0 : decide (0 ≤ x8_3) = true := decide_eq_true c20
               clear c20
               by_cases c21 : x8_3 < (x5_2.length : Int)
               ·rw [if_pos c21] at H
                have c21b0 : decide (x8_3 < (x5_2.length : Int)) = true := decide_eq_true c21
                clear c21
                by_cases c22 : x9_4 = true
                ·subst c22
                 have H1 : (if 0 ≤ x10_4 then (if ((rd_T59 l0 x10_4).f1).toList = a1.toList then ((spec_l2Holds.f k4 ((rd_T59 l0 x10_4).f0) ((rd_T59 l0 x10_4).f1) ((rd_T59 l0 x10_4).f2) (rdOf ByteArray.empty x5_2 x8_3) (decide (x8_3 ≥ 0))).bind fun t727 => (spec_l2Alone.l3 k4 l0 a1 x5_2 x8_3 t727 (wrap64 (x10_4 + 1)))) else (spec_l2Alone.l3 k4 l0 a1 x5_2 x8_3 true (wrap64 (x10_4 + 1)))) else (none)) = some r := by rw [if_pos rfl] at H; exact H
                 clear H
                 have H := H1
                 clear H1
                 by_cases c23 : 0 ≤ x10_4
                 ·rw [if_pos c23] at H
                  have c23b0 : decide (0 ≤ x10_4) = true := decide_eq_true c23
                  clear c23
                  by_cases c24 : ((rd_T59 l0 x10_4).f1).toList = a1.toList
                  ·rw [if_pos c24] at H
                   have c24b0 : (((rd_T59 l0 x10_4).f1).toList == a1.toList) = true := beq_iff_eq.mpr c24
                   have c24b1 : (((rd_T59 l0 x10_4).f1).toList != a1.toList) = false := bne_eq_false_iff_eq.mpr c24
                   clear c24
                   replace H := Option.bind_eq_some_iff.mp H
                   obtain ⟨t727, A250, H⟩ := H
                   try dsimp only at H
                   have A25 := Aside0.mk A250
                   clear A250
                   have H' := Aside0.mk H
                   clear H
                   have p724 : 0 ≤ (x8_3 : Int) := of_decide_eq_true (by first | (with_reducible assumption) | assumption)
                   have q724 : x8_3 < (x5_2.length : Int) := of_decide_eq_true (by first | (with_reducible assumption) | assumption)
                   obtain ⟨ad724, e724, hx724_0⟩ := Kd.at_string (Kd.R_reads' HO_5.out).2.2 x8_3 p724 q724
                   cases e724
                   replace p724 := eq_true p724
                   replace q724 := eq_true q724
                   have p725 : 0 ≤ (x10_4 : Int) := of_decide_eq_true (by first | (with_reducible assumption) | assumption)
                   have q725 : x10_4 < (l0.length : Int) := of_decide_eq_true (by first | (with_reducible assumption) | assumption)
                   obtain ⟨ad725, A725_2, c725_2, e725, hx725_0, hx725_1, hx725_2, hl725_2, hi725_2⟩ := at_T59 HR0.out x10_4 p725 q725
                   cases e725
                   replace hx725_0 := (HB.out.cell (World.block_lt_of_cell? w _ hx725_0)).trans hx725_0
                   replace hx725_1 := (HB.out.cell (World.block_lt_of_cell? w _ hx725_1)).trans hx725_1
                   replace hx725_2 := (HB.out.cell (World.block_lt_of_cell? w _ hx725_2)).trans hx725_2
                   have HR725_2 := Aside0.mk hi725_2
                   have HC725_2 := Aside0.mk hl725_2
                   clear hi725_2 hl725_2
                   replace p725 := eq_true p725
                   replace q725 := eq_true q725
                   have p726 : 0 ≤ (x10_4 : Int) := of_decide_eq_true (by first | (with_reducible assumption) | assumption)
                   have q726 : x10_4 < (l0.length : Int) := of_decide_eq_true (by first | (with_reducible assumption) | assumption)
                   obtain ⟨ad726, A726_2, c726_2, e726, hx726_0, hx726_1, hx726_2, hl726_2, hi726_2⟩ := at_T59 HR0.out x10_4 p726 q726
                   obtain rfl : ad725 = ad726 := (by injection e726)
                   replace hx726_0 := (HB.out.cell (World.block_lt_of_cell? w _ hx726_0)).trans hx726_0
                   replace hx726_1 := (HB.out.cell (World.block_lt_of_cell? w _ hx726_1)).trans hx726_1
                   replace hx726_2 := (HB.out.cell (World.block_lt_of_cell? w _ hx726_2)).trans hx726_2
                   have HR726_2 := Aside0.mk hi726_2
                   have HC726_2 := Aside0.mk hl726_2
                   clear hi726_2 hl726_2
                   replace p726 := eq_true p726
                   replace q726 := eq_true q726
                   have ea_ := Option.some.inj (hx725_2.symm.trans hx726_2)
                   injection ea_ with ea_ en_ ec_
                   subst ea_
                   subst ec_
                   clear en_
                   go_wp2_with (first | (go_at_call 102; (with_reducible refine (spec_l2Holds.calls k4 ((rd_T59 l0 x10_4).f0) ((rd_T59 l0 x10_4).f1) _ _ ((rd_T59 l0 x10_4).f2) (rdOf ByteArray.empty x5_2 x8_3) _ t727 _ (qC HR726_2 HB) HC726_2.out (by have h_ := A25.out; first | exact h_ | (rw [show decide (x8_3 ≥ 0) = true from by assumption] at h_; exact h_) | (rw [show decide (x8_3 ≥ 0) = false from by assumption] at h_; exact h_))).mono ?_); rintro e w26 ⟨rfl, hb⟩; have n0_ := Aside0.mk (Kd.R_below (by (with_reducible repeat (first | apply Kd.R_alloc | apply Kd.R_drewN | apply Kd.R_drew)); exact HO_5.out) hb); have n1_ := Aside0.mk (below_step (qB HB) hb); clear HO_5; clear HB; have HO_5 := n0_; have HB := n1_; clear n0_ n1_; (try clear hb); (try clear hb2); (try clear hk); (try clear hi)))
                   go_roundg k4
                   case measure => have := HK1.out; have := HK2.out; have := HK3.out; have := HK4.out; omega
                   case rel => exact ⟨(t727), (wrap64 (x10_4 + 1)), (by first | rfl | (simp; done) | (simp [*]; done)), (by first | rfl | (simp; done) | (simp [*]; done)), H', ⟨by have := HK1.out; have := HK2.out; have := HK3.out; have := HK4.out; omega⟩, ⟨by (with_reducible repeat (first | apply Kd.R_alloc | apply Kd.R_drewN | apply Kd.R_drew)); exact HO_5.out⟩, ⟨qB HB⟩⟩
                  ·rw [if_neg c24] at H
                   have c24b0 : (((rd_T59 l0 x10_4).f1).toList == a1.toList) = false := beq_eq_false_iff_ne.mpr c24
                   have c24b1 : (((rd_T59 l0 x10_4).f1).toList != a1.toList) = true := bne_iff_ne.mpr c24
                   have H' := Aside0.mk H
                   clear H
                   have p724 : 0 ≤ (x8_3 : Int) := of_decide_eq_true (by first | (with_reducible assumption) | assumption)
                   have q724 : x8_3 < (x5_2.length : Int) := of_decide_eq_true (by first | (with_reducible assumption) | assumption)
                   obtain ⟨ad724, e724, hx724_0⟩ := Kd.at_string (Kd.R_reads' HO_5.out).2.2 x8_3 p724 q724
                   cases e724
                   replace p724 := eq_true p724
                   replace q724 := eq_true q724
                   have p725 : 0 ≤ (x10_4 : Int) := of_decide_eq_true (by first | (with_reducible assumption) | assumption)
                   have q725 : x10_4 < (l0.length : Int) := of_decide_eq_true (by first | (with_reducible assumption) | assumption)
                   obtain ⟨ad725, A725_2, c725_2, e725, hx725_0, hx725_1, hx725_2, hl725_2, hi725_2⟩ := at_T59 HR0.out x10_4 p725 q725
                   cases e725
                   replace hx725_0 := (HB.out.cell (World.block_lt_of_cell? w _ hx725_0)).trans hx725_0
                   replace hx725_1 := (HB.out.cell (World.block_lt_of_cell? w _ hx725_1)).trans hx725_1
                   replace hx725_2 := (HB.out.cell (World.block_lt_of_cell? w _ hx725_2)).trans hx725_2
                   have HR725_2 := Aside0.mk hi725_2
                   have HC725_2 := Aside0.mk hl725_2
                   clear hi725_2 hl725_2
                   replace p725 := eq_true p725
                   replace q725 := eq_true q725
                   go_wp2
                   go_roundg k4
                   case measure => have := HK1.out; have := HK2.out; have := HK3.out; have := HK4.out; omega
                   case rel => exact ⟨(true), (wrap64 (x10_4 + 1)), (by first | rfl | (simp; done) | (simp [*]; done)), (by first | rfl | (simp; done) | (simp [*]; done)), H', ⟨by have := HK1.out; have := HK2.out; have := HK3.out; have := HK4.out; omega⟩, ⟨by (with_reducible repeat (first | apply Kd.R_alloc | apply Kd.R_drewN | apply Kd.R_drew)); exact HO_5.out⟩, ⟨qB HB⟩⟩
                 ·rw [if_neg c23] at H
                  exact absurd H (by simp)
                ·replace c22 := Bool.eq_false_iff.mpr c22
                 subst c22
                 have H1 : (spec_l2Alone.l3 k4 l0 a1 x5_2 x8_3 false (wrap64 (x10_4 + 1))) = some r := by rw [if_neg (show ¬ (false = true) by decide)] at H; exact H
                 clear H
                 have H := H1
                 clear H1
                 have H' := Aside0.mk H
                 clear H
                 have p724 : 0 ≤ (x8_3 : Int) := of_decide_eq_true (by first | (with_reducible assumption) | assumption)
                 have q724 : x8_3 < (x5_2.length : Int) := of_decide_eq_true (by first | (with_reducible assumption) | assumption)
                 obtain ⟨ad724, e724, hx724_0⟩ := Kd.at_string (Kd.R_reads' HO_5.out).2.2 x8_3 p724 q724
                 cases e724
                 replace p724 := eq_true p724
                 replace q724 := eq_true q724
                 go_wp2
                 go_roundg k4
                 case measure => have := HK1.out; have := HK2.out; have := HK3.out; have := HK4.out; omega
                 case rel => exact ⟨(false), (wrap64 (x10_4 + 1)), (by first | rfl | (simp; done) | (simp [*]; done)), (by first | rfl | (simp; done) | (simp [*]; done)), H', ⟨by have := HK1.out; have := HK2.out; have := HK3.out; have := HK4.out; omega⟩, ⟨by (with_reducible repeat (first | apply Kd.R_alloc | apply Kd.R_drewN | apply Kd.R_drew)); exact HO_5.out⟩, ⟨qB HB⟩⟩
               ·rw [if_neg c21] at H
                exact absurd H (by simp)
              ·rw [if_neg c20] at H
               exact absurd H (by simp)
             ·rw [if_neg c19] at H
              have c19b0 : decide (0 ≤ x8_3) = false := decide_eq_false c19
              clear c19
              by_cases c27 : x9_4 = true
              ·subst c27
               have H1 : (if 0 ≤ x10_4 then (if ((rd_T59 l0 x10_4).f1).toList = a1.toList then ((spec_l2Holds.f k4 ((rd_T59 l0 x10_4).f0) ((rd_T59 l0 x10_4).f1) ((rd_T59 l0 x10_4).f2) (⟨#[]⟩ : ByteArray) (decide (x8_3 ≥ 0))).bind fun t730 => (spec_l2Alone.l3 k4 l0 a1 x5_2 x8_3 t730 (wrap64 (x10_4 + 1)))) else (spec_l2Alone.l3 k4 l0 a1 x5_2 x8_3 true (wrap64 (x10_4 + 1)))) else (none)) = some r := by rw [if_pos rfl] at H; exact H
               clear H
               have H := H1
               clear H1
               by_cases c28 : 0 ≤ x10_4
               ·rw [if_pos c28] at H
                have c28b0 : decide (0 ≤ x10_4) = true := decide_eq_true c28
                clear c28
                by_cases c29 : ((rd_T59 l0 x10_4).f1).toList = a1.toList
                ·rw [if_pos c29] at H
                 have c29b0 : (((rd_T59 l0 x10_4).f1).toList == a1.toList) = true := beq_iff_eq.mpr c29
                 have c29b1 : (((rd_T59 l0 x10_4).f1).toList != a1.toList) = false := bne_eq_false_iff_eq.mpr c29
                 clear c29
                 replace H := Option.bind_eq_some_iff.mp H
                 obtain ⟨t730, A300, H⟩ := H
                 try dsimp only at H
                 have A30 := Aside0.mk A300
                 clear A300
                 have H' := Aside0.mk H
                 clear H
                 have p728 : 0 ≤ (x10_4 : Int) := of_decide_eq_true (by first | (with_reducible assumption) | assumption)
                 have q728 : x10_4 < (l0.length : Int) := of_decide_eq_true (by first | (with_reducible assumption) | assumption)
                 obtain ⟨ad728, A728_2, c728_2, e728, hx728_0, hx728_1, hx728_2, hl728_2, hi728_2⟩ := at_T59 HR0.out x10_4 p728 q728
                 cases e728
                 replace hx728_0 := (HB.out.cell (World.block_lt_of_cell? w _ hx728_0)).trans hx728_0
                 replace hx728_1 := (HB.out.cell (World.block_lt_of_cell? w _ hx728_1)).trans hx728_1
                 replace hx728_2 := (HB.out.cell (World.block_lt_of_cell? w _ hx728_2)).trans hx728_2
                 have HR728_2 := Aside0.mk hi728_2
                 have HC728_2 := Aside0.mk hl728_2
                 clear hi728_2 hl728_2
                 replace p728 := eq_true p728
                 replace q728 := eq_true q728
                 have p729 : 0 ≤ (x10_4 : Int) := of_decide_eq_true (by first | (with_reducible assumption) | assumption)
                 have q729 : x10_4 < (l0.length : Int) := of_decide_eq_true (by first | (with_reducible assumption) | assumption)
                 obtain ⟨ad729, A729_2, c729_2, e729, hx729_0, hx729_1, hx729_2, hl729_2, hi729_2⟩ := at_T59 HR0.out x10_4 p729 q729
                 obtain rfl : ad728 = ad729 := (by injection e729)
                 replace hx729_0 := (HB.out.cell (World.block_lt_of_cell? w _ hx729_0)).trans hx729_0
                 replace hx729_1 := (HB.out.cell (World.block_lt_of_cell? w _ hx729_1)).trans hx729_1
                 replace hx729_2 := (HB.out.cell (World.block_lt_of_cell? w _ hx729_2)).trans hx729_2
                 have HR729_2 := Aside0.mk hi729_2
                 have HC729_2 := Aside0.mk hl729_2
                 clear hi729_2 hl729_2
                 replace p729 := eq_true p729
                 replace q729 := eq_true q729
                 have ea_ := Option.some.inj (hx728_2.symm.trans hx729_2)
                 injection ea_ with ea_ en_ ec_
                 subst ea_
                 subst ec_
                 clear en_
                 go_wp2_with (first | (go_at_call 102; (with_reducible refine (spec_l2Holds.calls k4 ((rd_T59 l0 x10_4).f0) ((rd_T59 l0 x10_4).f1) _ _ ((rd_T59 l0 x10_4).f2) (⟨#[]⟩ : ByteArray) _ t730 _ (qC HR729_2 HB) HC729_2.out (by have h_ := A30.out; first | exact h_ | (rw [show decide (x8_3 ≥ 0) = true from by assumption] at h_; exact h_) | (rw [show decide (x8_3 ≥ 0) = false from by assumption] at h_; exact h_))).mono ?_); rintro e w31 ⟨rfl, hb⟩; have n0_ := Aside0.mk (Kd.R_below (by (with_reducible repeat (first | apply Kd.R_alloc | apply Kd.R_drewN | apply Kd.R_drew)); exact HO_5.out) hb); have n1_ := Aside0.mk (below_step (qB HB) hb); clear HO_5; clear HB; have HO_5 := n0_; have HB := n1_; clear n0_ n1_; (try clear hb); (try clear hb2); (try clear hk); (try clear hi)))
                 go_roundg k4
                 case measure => have := HK1.out; have := HK2.out; have := HK3.out; have := HK4.out; omega
                 case rel => exact ⟨(t730), (wrap64 (x10_4 + 1)), (by first | rfl | (simp; done) | (simp [*]; done)), (by first | rfl | (simp; done) | (simp [*]; done)), H', ⟨by have := HK1.out; have := HK2.out; have := HK3.out; have := HK4.out; omega⟩, ⟨by (with_reducible repeat (first | apply Kd.R_alloc | apply Kd.R_drewN | apply Kd.R_drew)); exact HO_5.out⟩, ⟨qB HB⟩⟩
                ·rw [if_neg c29] at H
                 have c29b0 : (((rd_T59 l0 x10_4).f1).toList == a1.toList) = false := beq_eq_false_iff_ne.mpr c29
                 have c29b1 : (((rd_T59 l0 x10_4).f1).toList != a1.toList) = true := bne_iff_ne.mpr c29
                 have H' := Aside0.mk H
                 clear H
                 have p728 : 0 ≤ (x10_4 : Int) := of_decide_eq_true (by first | (with_reducible assumption) | assumption)
                 have q728 : x10_4 < (l0.length : Int) := of_decide_eq_true (by first | (with_reducible assumption) | assumption)
                 obtain ⟨ad728, A728_2, c728_2, e728, hx728_0, hx728_1, hx728_2, hl728_2, hi728_2⟩ := at_T59 HR0.out x10_4 p728 q728
                 cases e728
                 replace hx728_0 := (HB.out.cell (World.block_lt_of_cell? w _ hx728_0)).trans hx728_0
                 replace hx728_1 := (HB.out.cell (World.block_lt_of_cell? w _ hx728_1)).trans hx728_1
                 replace hx728_2 := (HB.out.cell (World.block_lt_of_cell? w _ hx728_2)).trans hx728_2
                 have HR728_2 := Aside0.mk hi728_2
                 have HC728_2 := Aside0.mk hl728_2
                 clear hi728_2 hl728_2
                 replace p728 := eq_true p728
                 replace q728 := eq_true q728
                 go_wp2
                 go_roundg k4
                 case measure => have := HK1.out; have := HK2.out; have := HK3.out; have := HK4.out; omega
                 case rel => exact ⟨(true), (wrap64 (x10_4 + 1)), (by first | rfl | (simp; done) | (simp [*]; done)), (by first | rfl | (simp; done) | (simp [*]; done)), H', ⟨by have := HK1.out; have := HK2.out; have := HK3.out; have := HK4.out; omega⟩, ⟨by (with_reducible repeat (first | apply Kd.R_alloc | apply Kd.R_drewN | apply Kd.R_drew)); exact HO_5.out⟩, ⟨qB HB⟩⟩
               ·rw [if_neg c28] at H
                exact absurd H (by simp)
              ·replace c27 := Bool.eq_false_iff.mpr c27
               subst c27
               have H1 : (spec_l2Alone.l3 k4 l0 a1 x5_2 x8_3 false (wrap64 (x10_4 + 1))) = some r := by rw [if_neg (show ¬ (false = true) by decide)] at H; exact H
               clear H
               have H := H1
               clear H1
               have H' := Aside0.mk H
               clear H
               go_wp2
               go_roundg k4
               case measure => have := HK1.out; have := HK2.out; have := HK3.out; have := HK4.out; omega
               case rel => exact ⟨(false), (wrap64 (x10_4 + 1)), (by first | rfl | (simp; done) | (simp [*]; done)), (by first | rfl | (simp; done) | (simp [*]; done)), H', ⟨by have := HK1.out; have := HK2.out; have := HK3.out; have := HK4.out; omega⟩, ⟨by (with_reducible repeat (first | apply Kd.R_alloc | apply Kd.R_drewN | apply Kd.R_drew)); exact HO_5.out⟩, ⟨qB HB⟩⟩
            ·rw [if_neg c18] at H
             have c18b0 : decide (x10_4 < (l0.length : Int)) = false := decide_eq_false c18
             clear c18
             by_cases c32 : x9_4 = true
             ·subst c32
              have H1 : (some false) = some r := by rw [if_pos rfl] at H; exact H
              clear H
              have H := H1
              clear H1
              obtain rfl := Option.some.inj H
              go_wp2
              go_ret
              exact ⟨by first | rfl | (simp [errW_none, errW_some] <;> rfl) | (simp [*, errW_none, errW_some] <;> rfl), by repeat (first | (with_reducible first | exact HB.out | apply below_alloc | apply pw_below_drewN | apply below_drew1) | exact HB.out)⟩
             ·replace c32 := Bool.eq_false_iff.mpr c32
              subst c32
              have H1 : (spec_l2Alone.l2 k4 l0 a1 x5_2 (wrap64 (x8_3 + 1))) = some r := by rw [if_neg (show ¬ (false = true) by decide)] at H; exact H
              clear H
              have H := H1
              clear H1
              have H' := Aside0.mk H
              clear H
              go_wp2
              go_roundg k4
              case measure => have := HK1.out; have := HK2.out; have := HK3.out; have := HK4.out; omega
              case rel => exact ⟨(wrap64 (x8_3 + 1)), (by first | rfl | (simp; done) | (simp [*]; done)), H', ⟨by have := HK1.out; have := HK2.out; have := HK3.out; have := HK4.out; omega⟩, ⟨by (with_reducible repeat (first | apply Kd.R_alloc | apply Kd.R_drewN | apply Kd.R_drew)); exact HO_5.out⟩, ⟨qB HB⟩⟩
         ·rw [if_neg c16] at H
          have c16b0 : decide (x8_3 < (x5_2.length : Int)) = false := decide_eq_false c16
          clear c16
          obtain rfl := Option.some.inj H
          obtain ⟨Ao33, co33, eo33⟩ := Kd.R_slice HO_5.out
          subst eo33
          go_wp2
          go_ret
          exact ⟨by first | rfl | (simp [errW_none, errW_some] <;> rfl) | (simp [*, errW_none, errW_some] <;> rfl), by repeat (first | (with_reducible first | exact HB.out | apply below_alloc | apply pw_below_drewN | apply below_drew1) | exact HB.out)⟩

end Go.Proofs.YtpjpnppoejnafaaDoor.G
