/- What the Go functions letter, digit, run, sign, number, Word, Name of package lex compute, walked once each. Conditions: texts have at most 2^63 - 1 bytes. -/
import Derived.Test.YtnbclbphggmenaaRows
import Derived.WalkKit
import Derived.WalkSpells
import Derived.Lib.Hide
import Derived.Test.YtnbclbphggmenaaLexP
namespace Go.Proofs.Ytnbclbphggmenaa.Lx
open Go.RowKit
def bl (s : ByteArray) : List UInt8 := s.data.toList
theorem bl_len (s : ByteArray) : (bl s).length = s.size := by unfold bl; simp
theorem bl_drop (s : ByteArray) (k : Nat) (h : k < s.size) : (bl s).drop k = s[k] :: (bl s).drop (k + 1) := by
  rw [List.drop_eq_getElem_cons (by rw [bl_len]; exact h)]
  rfl
theorem bl_end (s : ByteArray) (k : Nat) (h : s.size ≤ k) : (bl s).drop k = [] := List.drop_eq_nil_of_le (by rw [bl_len]; exact h)
theorem toList_bl (s : ByteArray) : s.toList = bl s := ByteArray.toList_eq s
theorem ext_bl (s : ByteArray) (a b : Nat) : bl (s.extract a b) = ((bl s).drop a).take (b - a) := by
  unfold bl
  rw [ByteArray.data_extract, Array.toList_extract, List.extract_eq_take_drop]
theorem ret1 {k : IntKind} {a b : Int} (h : a = b) : Ending.returned (.int k a) = .returned (.int k b) := by rw [h]
theorem retb {a b : Bool} (h : a = b) : Ending.returned (.bool a) = .returned (.bool b) := by rw [h]
theorem runLen_cons_yes {p : UInt8 → Bool} {c : UInt8} (r : List UInt8) (h : p c = true) : runLen p (c :: r) = runLen p r + 1 := by
  unfold runLen; rw [List.takeWhile_cons, if_pos h]; simp
theorem runLen_cons_no {p : UInt8 → Bool} {c : UInt8} (r : List UInt8) (h : p c = false) : runLen p (c :: r) = 0 := by
  unfold runLen; rw [List.takeWhile_cons, if_neg (by simp [h])]; rfl
theorem runLen_nil (p : UInt8 → Bool) : runLen p [] = 0 := rfl
/-- Where a run from a byte on ends. -/
def endAt (p : UInt8 → Bool) (s : ByteArray) (k : Nat) : Nat := k + runLen p ((bl s).drop k)
theorem endAt_yes {p : UInt8 → Bool} {s : ByteArray} {k : Nat} (h : k < s.size) (hp : p s[k] = true) : endAt p s (k + 1) = endAt p s k := by
  unfold endAt; rw [bl_drop s k h, runLen_cons_yes _ hp]; omega
theorem endAt_no {p : UInt8 → Bool} {s : ByteArray} {k : Nat} (h : k < s.size) (hp : p s[k] = false) : endAt p s k = k := by
  unfold endAt; rw [bl_drop s k h, runLen_cons_no _ hp]; omega
theorem endAt_end {p : UInt8 → Bool} {s : ByteArray} {k : Nat} (h : s.size ≤ k) : endAt p s k = k := by
  unfold endAt; rw [bl_end s k h, runLen_nil]; omega
theorem endAt_le {p : UInt8 → Bool} {s : ByteArray} {k : Nat} (h : k ≤ s.size) : k ≤ endAt p s k ∧ endAt p s k ≤ s.size := by
  have := runLen_le p ((bl s).drop k)
  rw [List.length_drop, bl_len] at this
  unfold endAt
  omega
theorem letter_any (c : UInt8) (w : World) : Calls Try.prog 102 #[.int .u8 (c.toNat : Int)] w fun e w' => e = .returned (.bool (small c)) ∧ w = w' := by
  by_cases h1 : 97 ≤ c.toNat
  · by_cases h2 : c.toNat ≤ 122
    · rw [show small c = true from by simp [small, h1, h2]]
      have h3 : decide ((c.toNat : Int) ≤ 122) = true := by simp; omega
      go_enter Try.func102, Try.ntmps102
      go_wp2
      go_ret
      exact ⟨rfl, rfl⟩
    · rw [show small c = false from by simp [small]; omega]
      have h3 : decide ((c.toNat : Int) ≤ 122) = false := by simp; omega
      go_enter Try.func102, Try.ntmps102
      go_wp2
      go_ret
      exact ⟨rfl, rfl⟩
  · rw [show small c = false from by simp [small]; omega]
    have h3 : decide (97 ≤ (c.toNat : Int)) = false := by simp; omega
    go_enter Try.func102, Try.ntmps102
    go_wp2
    go_ret
    exact ⟨rfl, rfl⟩
theorem digit_any (c : UInt8) (w : World) : Calls Try.prog 123 #[.int .u8 (c.toNat : Int)] w fun e w' => e = .returned (.bool (digit c)) ∧ w = w' := by
  by_cases h1 : 48 ≤ c.toNat
  · by_cases h2 : c.toNat ≤ 57
    · rw [show digit c = true from by simp [digit, h1, h2]]
      have h3 : decide ((c.toNat : Int) ≤ 57) = true := by simp; omega
      go_enter Try.func123, Try.ntmps123
      go_wp2
      go_ret
      exact ⟨rfl, rfl⟩
    · rw [show digit c = false from by simp [digit]; omega]
      have h3 : decide ((c.toNat : Int) ≤ 57) = false := by simp; omega
      go_enter Try.func123, Try.ntmps123
      go_wp2
      go_ret
      exact ⟨rfl, rfl⟩
  · rw [show digit c = false from by simp [digit]; omega]
    have h3 : decide (48 ≤ (c.toNat : Int)) = false := by simp; omega
    go_enter Try.func123, Try.ntmps123
    go_wp2
    go_ret
    exact ⟨rfl, rfl⟩
theorem run_any (s : ByteArray) (i : Nat) (w : World) (hi : i ≤ s.size) (hs : s.size ≤ 9223372036854775807) :
    Calls Try.prog 103 #[.string s, .int .i64 i] w fun e w' => e = .returned (.int .i64 (endAt alnum s i : Nat)) ∧ w = w' := by
  go_enter Try.func103, Try.ntmps103
  go_wp2_with fail
  go_loop [1] (fun v => ∃ k : Nat, k ≤ s.size ∧ v = .int .i64 k ∧ endAt alnum s k = endAt alnum s i) (fun v => (s.size - intOf v).toNat)
  case atStart => exact ⟨i, hi, rfl, rfl⟩
  case round =>
    obtain ⟨k, hk, rfl, he⟩ := hrel
    have HE := Lib.hid he
    clear he
    by_cases hlt : k < s.size
    · have hl : (k : Int) < (s.size : Int) := by omega
      cases hsm : small s[k] with
      | true =>
        have HN := Lib.hid (endAt_yes (p := alnum) hlt (by simp [alnum, hsm]))
        go_wp2_with (go_at_call 102; refine (letter_any _ _).mono ?_; rintro e w' ⟨rfl, rfl⟩)
        go_round
        case rel => exact ⟨k + 1, by omega, by go_num, by rw [HN.out, HE.out]⟩
        case measure => simp [intOf]; omega
      | false =>
        cases hdg : digit s[k] with
        | true =>
          have HN := Lib.hid (endAt_yes (p := alnum) hlt (by simp [alnum, hdg]))
          go_wp2_with (first | (go_at_call 102; refine (letter_any _ _).mono ?_; rintro e w' ⟨rfl, rfl⟩) | (go_at_call 123; refine (digit_any _ _).mono ?_; rintro e w' ⟨rfl, rfl⟩))
          go_round
          case rel => exact ⟨k + 1, by omega, by go_num, by rw [HN.out, HE.out]⟩
          case measure => simp [intOf]; omega
        | false =>
          have HN := Lib.hid (endAt_no (p := alnum) hlt (by simp [alnum, hsm, hdg]))
          go_wp2_with (first | (go_at_call 102; refine (letter_any _ _).mono ?_; rintro e w' ⟨rfl, rfl⟩) | (go_at_call 123; refine (digit_any _ _).mono ?_; rintro e w' ⟨rfl, rfl⟩))
          go_ret
          exact ⟨ret1 (by rw [← HE.out, HN.out]), rfl⟩
    · have HN := Lib.hid (endAt_end (p := alnum) (s := s) (k := k) (by omega))
      have hl : decide ((k : Int) < (s.size : Int)) = false := by simp; omega
      have hl2 : decide (k < s.size) = false := by simp; omega
      go_wp2_with fail
      go_ret
      exact ⟨ret1 (by rw [← HE.out, HN.out]), rfl⟩
end Go.Proofs.Ytnbclbphggmenaa.Lx
