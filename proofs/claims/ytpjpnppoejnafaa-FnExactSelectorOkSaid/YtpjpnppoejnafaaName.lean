/-
  NameOk of the program and of the reference.
-/
import Derived.Test.YtpjpnppoejnafaaProg
import Derived.Test.YtpjpnppoejnafaaBase
import Derived.Deep.LoopGhost
import Derived.Deep.QuietTactic
import Derived.BigQuiet
import Derived.Handy
import Derived.WalkLawsBesides
namespace Go.Proofs.Ytpjpnppoejnafaa
open Go.RowKit
set_option linter.unusedVariables false
set_option linter.unusedSimpArgs false

def inB (a b c : Int) : Bool := decide (b ≤ a) && decide (a ≤ c)
theorem inB_iff {a b c : Int} : inB a b c = true ↔ b ≤ a ∧ a ≤ c := by simp [inB]
theorem inB_false {a b c : Int} : inB a b c = false ↔ ¬ (b ≤ a ∧ a ≤ c) := by rw [← inB_iff]; simp
def okc (c : Int) : Bool := inB c 97 122 || inB c 48 57 || decide (c = 45)
theorem okc_iff {c : Int} : okc c = true ↔ (97 ≤ c ∧ c ≤ 122) ∨ (48 ≤ c ∧ c ≤ 57) ∨ c = 45 := by simp [okc, inB, or_assoc]
theorem okc_false {c : Int} : okc c = false ↔ ¬ ((97 ≤ c ∧ c ≤ 122) ∨ (48 ≤ c ∧ c ≤ 57) ∨ c = 45) := by rw [← okc_iff]; simp
/-- From byte k on all are letters, digits or '-'. -/
def okFrom (s : ByteArray) : Nat → Nat → Bool
  | 0, _ => true
  | d + 1, k => (if h : k < s.size then okc (s[k].toNat : Int) else true) && okFrom s d (k + 1)
def nameOk (s : ByteArray) : Bool :=
  okFrom s s.size 0 && inB (s.size : Int) 1 20 && (if h : 0 < s.size then ((s[0].toNat : Int) != 45) else false) && (if h : 0 < s.size then (((s[s.size - 1]'(by omega)).toNat : Int) != 45) else false)
theorem okFrom_step (s : ByteArray) (d k : Nat) (hd : k + d = s.size) (hk : k < s.size) : okFrom s d k = (okc (s[k].toNat : Int) && okFrom s (d - 1) (k + 1)) := by
  obtain ⟨d, rfl⟩ : ∃ m, d = m + 1 := ⟨d - 1, by omega⟩
  rw [okFrom, dif_pos hk]; rfl
theorem okFrom_end (s : ByteArray) (d k : Nat) (hd : k + d = s.size) (hk : ¬ k < s.size) : okFrom s d k = true := by
  obtain rfl : d = 0 := by omega
  rfl
theorem l1In_any (a b c : Int) (w : World) : Calls Try.prog 76 #[.int .i64 a, .int .i64 b, .int .i64 c] w fun e w' => e = .returned (.bool (inB a b c)) ∧ w = w' := by
  by_cases h : b ≤ a
  · have hd : decide (b ≤ a) = true := decide_eq_true h
    go_enter Try.func76, Try.ntmps76
    go_wp2
    go_ret
    exact ⟨by unfold inB; rw [hd]; rfl, rfl⟩
  · have hd : decide (b ≤ a) = false := decide_eq_false h
    go_enter Try.func76, Try.ntmps76
    go_wp2
    go_ret
    exact ⟨by unfold inB; rw [hd]; rfl, rfl⟩
theorem within_any (a b c : Int) (w : World) : Calls Try.prog 78 #[.int .i64 a, .int .i64 b, .int .i64 c] w fun e w' => e = .returned (.bool (inB a b c)) ∧ w = w' := by
  by_cases h : b ≤ a
  · have hd : decide (b ≤ a) = true := decide_eq_true h
    go_enter Try.func78, Try.ntmps78
    go_wp2
    go_ret
    exact ⟨by unfold inB; rw [hd]; rfl, rfl⟩
  · have hd : decide (b ≤ a) = false := decide_eq_false h
    go_enter Try.func78, Try.ntmps78
    go_wp2
    go_ret
    exact ⟨by unfold inB; rw [hd]; rfl, rfl⟩
theorem specNameOk_any (s : ByteArray) (w : World) (hs : s.size ≤ 9223372036854775807) : Calls Try.prog 46 #[.string s] w fun e w' => e = .returned (.bool (nameOk s)) ∧ w = w' := by
  go_enter Try.func46, Try.ntmps46
  go_wp2
  go_loop [3] (fun i => ∃ k d : Nat, k ≤ s.size ∧ i = .int .i64 k ∧ k + d = s.size ∧ Hid (okFrom s s.size 0 = okFrom s d k)) (fun i => s.size - (intOf i).toNat)
  case atStart => exact ⟨0, s.size, by omega, rfl, by omega, rfl⟩
  case round =>
    obtain ⟨k, d, hk, rfl, hd, HE⟩ := hrel
    by_cases hlt : k < s.size
    · have hst := okFrom_step s d k hd hlt
      have HST := Lib.hid hst
      have hbyte : s[k].toNat < 256 := s[k].toNat_lt
      clear hst
      by_cases ha : inB (s[k].toNat : Int) 97 122 = true
      · go_wp2_with (go_at_call 76; refine (l1In_any _ _ _ _).mono ?_; rintro e w' ⟨rfl, rfl⟩)
        go_round
        case rel => exact ⟨k + 1, d - 1, by omega, by go_num, by omega, by unfold Hid; rw [HE.out, HST.out, okc_iff.2 (.inl (inB_iff.1 ha))]; rfl⟩
        case measure => simp [intOf]; omega
      · have ha' : inB (s[k].toNat : Int) 97 122 = false := by simpa using ha
        by_cases hb : inB (s[k].toNat : Int) 48 57 = true
        · clear ha
          go_wp2_with (go_at_call 76; refine (l1In_any _ _ _ _).mono ?_; rintro e w' ⟨rfl, rfl⟩)
          go_round
          case rel => exact ⟨k + 1, d - 1, by omega, by go_num, by omega, by unfold Hid; rw [HE.out, HST.out, okc_iff.2 (.inr (.inl (inB_iff.1 hb)))]; rfl⟩
          case measure => simp [intOf]; omega
        · have hb' : inB (s[k].toNat : Int) 48 57 = false := by simpa using hb
          clear ha hb
          by_cases hc : (s[k].toNat : Int) = 45
          · have hcb : ((s[k].toNat : Int) != 45) = false := by rw [hc]; rfl
            have HC := Lib.hid hc
            clear hc
            go_wp2_with (go_at_call 76; refine (l1In_any _ _ _ _).mono ?_; rintro e w' ⟨rfl, rfl⟩)
            go_round
            case rel => exact ⟨k + 1, d - 1, by omega, by go_num, by omega, by unfold Hid; rw [HE.out, HST.out, okc_iff.2 (.inr (.inr HC.out))]; rfl⟩
            case measure => simp [intOf]; omega
          · have hcb : ((s[k].toNat : Int) != 45) = true := by simpa using hc
            have hn : okc (s[k].toNat : Int) = false := by unfold okc; rw [ha', hb']; simpa using hc
            have HN := Lib.hid hn
            clear hc hn
            go_wp2_with (go_at_call 76; refine (l1In_any _ _ _ _).mono ?_; rintro e w' ⟨rfl, rfl⟩)
            go_ret
            exact ⟨by unfold nameOk; rw [HE.out, HST.out, HN.out]; rfl, rfl⟩
    · obtain rfl : k = s.size := by omega
      have hend := okFrom_end s d s.size hd (by omega)
      have HN : Hid (nameOk s = (inB (s.size : Int) 1 20 && (if h : 0 < s.size then ((s[0].toNat : Int) != 45) else false) && (if h : 0 < s.size then (((s[s.size - 1]'(by omega)).toNat : Int) != 45) else false))) := by
        unfold Hid nameOk; rw [HE.out, hend]; simp
      clear hend HE
      by_cases ha : inB (s.size : Int) 1 20 = true
      · have hr := inB_iff.1 ha
        have h0 : 0 < s.size := by omega
        go_wp2_with (go_at_call 76; refine (l1In_any _ _ _ _).mono ?_; rintro e w' ⟨rfl, rfl⟩)
        all_goals go_ret
        all_goals exact ⟨by rw [HN.out, ha, dif_pos h0, dif_pos h0]; simp [*], rfl⟩
      · have ha' : inB (s.size : Int) 1 20 = false := by simpa using ha
        clear ha
        go_wp2_with (go_at_call 76; refine (l1In_any _ _ _ _).mono ?_; rintro e w' ⟨rfl, rfl⟩)
        go_ret
        exact ⟨by rw [HN.out, ha']; rfl, rfl⟩
theorem implNameOk_any (s : ByteArray) (w : World) (hs : s.size ≤ 9223372036854775807) : Calls Try.prog 51 #[.string s] w fun e w' => e = .returned (.bool (nameOk s)) ∧ w = w' := by
  go_enter Try.func51, Try.ntmps51
  go_wp2
  go_loop [3, 4, 7] (fun _ _ i => ∃ k d : Nat, k ≤ s.size ∧ i = .int .i64 k ∧ k + d = s.size ∧ Hid (okFrom s s.size 0 = okFrom s d k)) (fun _ _ i => s.size - (intOf i).toNat)
  case atStart => exact ⟨0, s.size, by omega, rfl, by omega, rfl⟩
  case round =>
    obtain ⟨k, d, hk, rfl, hd, HE⟩ := hrel
    by_cases hlt : k < s.size
    · have hst := okFrom_step s d k hd hlt
      have HST := Lib.hid hst
      have hbyte : s[k].toNat < 256 := s[k].toNat_lt
      clear hst
      by_cases hc : (s[k].toNat : Int) = 45
      · have hcb : ((s[k].toNat : Int) != 45) = false := by rw [hc]; rfl
        have HC := Lib.hid hc
        clear hc
        go_wp2
        all_goals
          go_round
          case rel => exact ⟨k + 1, d - 1, by omega, by go_num, by omega, by unfold Hid; rw [HE.out, HST.out, okc_iff.2 (.inr (.inr HC.out))]; rfl⟩
          case measure => simp [intOf]; omega
      · have hcb : ((s[k].toNat : Int) != 45) = true := by simpa using hc
        have HC := Lib.hid hc
        clear hc
        go_wp2
        all_goals first
          | (go_ret
             have hcc := HC.out
             exact ⟨by unfold nameOk; rw [HE.out, HST.out, okc_false.2 (by omega)]; rfl, rfl⟩)
          | (go_round
             case rel => exact ⟨k + 1, d - 1, by omega, by go_num, by omega, by unfold Hid; rw [HE.out, HST.out, okc_iff.2 (by omega)]; rfl⟩
             case measure => simp [intOf]; omega)
    · obtain rfl : k = s.size := by omega
      have hend := okFrom_end s d s.size hd (by omega)
      have HN : Hid (nameOk s = (inB (s.size : Int) 1 20 && (if h : 0 < s.size then ((s[0].toNat : Int) != 45) else false) && (if h : 0 < s.size then (((s[s.size - 1]'(by omega)).toNat : Int) != 45) else false))) := by
        unfold Hid nameOk; rw [HE.out, hend]; simp
      clear hend HE
      by_cases ha : inB (s.size : Int) 1 20 = true
      · have hr := inB_iff.1 ha
        have h0 : 0 < s.size := by omega
        go_wp2_with (go_at_call 78; refine (within_any _ _ _ _).mono ?_; rintro e w' ⟨rfl, rfl⟩)
        all_goals go_ret
        all_goals exact ⟨by rw [HN.out, ha, dif_pos h0, dif_pos h0]; simp [*], rfl⟩
      · have ha' : inB (s.size : Int) 1 20 = false := by simpa using ha
        clear ha
        go_wp2_with (go_at_call 78; refine (within_any _ _ _ _).mono ?_; rintro e w' ⟨rfl, rfl⟩)
        go_ret
        exact ⟨by rw [HN.out, ha']; rfl, rfl⟩
end Go.Proofs.Ytpjpnppoejnafaa
