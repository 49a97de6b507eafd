/- Parts of BWord, BLex, BMay: walks and plain laws that later texts use. Conditions: as each statement says. -/
import Derived.WalkKit
import Derived.Test.YtghlmengcidmdaaRows
import Derived.WalkSpells
import Derived.Lib.Hide
import Derived.Below
import Derived.Laws.BitsAllLaws
import Derived.Deep.QuietTactic
import Derived.BigQuiet
import Derived.WalkSmall
import Derived.IntWalk
import Derived.StillTailTactics
section
/- Plain definitions: what the reckoning of one and of two numbers of 64 bits comes to. No program. Conditions: none.
   What the Go functions word.bit, word.divide, word.compare, word.One, word.Two, word.Truth compute, walked once each. Conditions: the numbers fit 64 bits.
   Plain laws of numbers of 64 bits. Conditions: none.
   Plain laws of reckoning modulo 2^64. No program. Conditions: none.
   What the Go functions of the reference that reckon with halves and bits compute (low, high, add, turned, mul, div, size, quotient, less, compare, One, Two). Conditions: the numbers fit 64 bits.
   What the Go functions of the reference quotient, truth, less, compare, One, Two compute. Conditions: the numbers fit 64 bits.
   What the Go functions One and Two of the reference compute: the same as those of the program. Conditions: the numbers fit 64 bits. -/
section
namespace Go.Proofs.Ytghlmengcidmdaa.Wd
open Go.RowKit
end Go.Proofs.Ytghlmengcidmdaa.Wd
end
section
namespace Go.Proofs.Ytghlmengcidmdaa.Wd
open Go.RowKit
end Go.Proofs.Ytghlmengcidmdaa.Wd
end
section
namespace Go.Proofs.Ytghlmengcidmdaa.Wd
open Go.RowKit
theorem wrap_bd (x : Int) : -9223372036854775808 ≤ wrap64 x ∧ wrap64 x ≤ 9223372036854775807 := by unfold wrap64; omega
def InI (x : Int) : Prop := -9223372036854775808 ≤ x ∧ x ≤ 9223372036854775807
theorem InI_zero : InI 0 := by unfold InI; omega
end Go.Proofs.Ytghlmengcidmdaa.Wd
end
section
namespace Go.Proofs.Ytghlmengcidmdaa.Wd
open Go.RowKit
end Go.Proofs.Ytghlmengcidmdaa.Wd
end
section
namespace Go.Proofs.Ytghlmengcidmdaa.Wd
open Go.RowKit
end Go.Proofs.Ytghlmengcidmdaa.Wd
end
section
namespace Go.Proofs.Ytghlmengcidmdaa.Wd
open Go.RowKit
end Go.Proofs.Ytghlmengcidmdaa.Wd
end
section
namespace Go.Proofs.Ytghlmengcidmdaa.Wd
open Go.RowKit
end Go.Proofs.Ytghlmengcidmdaa.Wd
end
end
section
/- Plain definitions: what cutting a text into tokens comes to, and first laws of it. No program. Conditions: none.
   What the Go functions letter, digit, run, sign, number, Word, Name of package lex compute, walked once each. Conditions: texts have at most 2^63 - 1 bytes.
   What the Go function lex.Word computes: is a text one of the thirteen words? Conditions: none.
   What the Go functions small, digit, blank, Words, Word, from, Worth, sign of the reference compute. Conditions: texts have at most 2^63 - 1 bytes; Worth: digits, no 0 ahead of others.
   What lex.Name and the reference's Name compute: is a text a name? Conditions: it has at most 2^63 - 1 bytes.
   Plain definitions: expressions, which may be, what they are worth. No program. Conditions: none.
   How expressions, lists of texts, lists of numbers lie in memory. Conditions: none. -/
section
namespace Go.Proofs.Ytghlmengcidmdaa.Lx
def small (c : UInt8) : Bool := decide (97 ≤ c.toNat) && decide (c.toNat ≤ 122)
def digit (c : UInt8) : Bool := decide (48 ≤ c.toNat) && decide (c.toNat ≤ 57)
def alnum (c : UInt8) : Bool := small c || digit c
def words : List (List UInt8) := [[103, 108, 111, 98, 97, 108], [112, 114, 111, 99], [118, 97, 114], [114, 101, 102], [105, 102], [101, 108, 115, 101], [119, 104, 105, 108, 101], [98, 114, 101, 97, 107], [99, 111, 110, 116, 105, 110, 117, 101], [114, 101, 116, 117, 114, 110], [103, 111, 116, 111], [114, 101, 97, 100], [112, 114, 105, 110, 116]]
def isWord (t : List UInt8) : Bool := words.contains t
def runLen (p : UInt8 → Bool) (l : List UInt8) : Nat := (l.takeWhile p).length
/-- A name: 1 to 8 small letters and digits, a letter first, and no word. -/
def isName (l : List UInt8) : Bool :=
  match l with
  | [] => false
  | c :: _ => small c && decide (l.length ≤ 8) && l.all alnum && !isWord l
end Go.Proofs.Ytghlmengcidmdaa.Lx
end
section
namespace Go.Proofs.Ytghlmengcidmdaa.Lx
open Go.RowKit
def bl (s : ByteArray) : List UInt8 := s.data.toList
theorem bl_len (s : ByteArray) : (bl s).length = s.size := by unfold bl; simp
theorem bl_drop (s : ByteArray) (k : Nat) (h : k < s.size) : (bl s).drop k = s[k] :: (bl s).drop (k + 1) := by
  rw [List.drop_eq_getElem_cons (by rw [bl_len]; exact h)]
  rfl
theorem bl_end (s : ByteArray) (k : Nat) (h : s.size ≤ k) : (bl s).drop k = [] := List.drop_eq_nil_of_le (by rw [bl_len]; exact h)
theorem toList_bl (s : ByteArray) : s.toList = bl s := ByteArray.toList_eq s
theorem ret1 {k : IntKind} {a b : Int} (h : a = b) : Ending.returned (.int k a) = .returned (.int k b) := by rw [h]
theorem runLen_cons_yes {p : UInt8 → Bool} {c : UInt8} (r : List UInt8) (h : p c = true) : runLen p (c :: r) = runLen p r + 1 := by
  unfold runLen; rw [List.takeWhile_cons, if_pos h]; simp
theorem runLen_cons_no {p : UInt8 → Bool} {c : UInt8} (r : List UInt8) (h : p c = false) : runLen p (c :: r) = 0 := by
  unfold runLen; rw [List.takeWhile_cons, if_neg (by simp [h])]; rfl
theorem runLen_nil (p : UInt8 → Bool) : runLen p [] = 0 := rfl
/-- Where a run from a byte on ends. -/
def endAt (p : UInt8 → Bool) (s : ByteArray) (k : Nat) : Nat := k + runLen p ((bl s).drop k)
theorem endAt_yes {p : UInt8 → Bool} {s : ByteArray} {k : Nat} (h : k < s.size) (hp : p s[k] = true) : endAt p s (k + 1) = endAt p s k := by
  unfold endAt; rw [bl_drop s k h, runLen_cons_yes _ hp]; omega
theorem endAt_no {p : UInt8 → Bool} {s : ByteArray} {k : Nat} (h : k < s.size) (hp : p s[k] = false) : endAt p s k = k := by
  unfold endAt; rw [bl_drop s k h, runLen_cons_no _ hp]; omega
theorem endAt_end {p : UInt8 → Bool} {s : ByteArray} {k : Nat} (h : s.size ≤ k) : endAt p s k = k := by
  unfold endAt; rw [bl_end s k h, runLen_nil]; omega
theorem letter_any (c : UInt8) (w : World) : Calls Try.prog 92 #[.int .u8 (c.toNat : Int)] w fun e w' => e = .returned (.bool (small c)) ∧ w = w' := by
  by_cases h1 : 97 ≤ c.toNat
  · by_cases h2 : c.toNat ≤ 122
    · rw [show small c = true from by simp [small, h1, h2]]
      have h3 : decide ((c.toNat : Int) ≤ 122) = true := by simp; omega
      go_enter Try.func92, Try.ntmps92
      go_wp2
      go_ret
      exact ⟨rfl, rfl⟩
    · rw [show small c = false from by simp [small]; omega]
      have h3 : decide ((c.toNat : Int) ≤ 122) = false := by simp; omega
      go_enter Try.func92, Try.ntmps92
      go_wp2
      go_ret
      exact ⟨rfl, rfl⟩
  · rw [show small c = false from by simp [small]; omega]
    have h3 : decide (97 ≤ (c.toNat : Int)) = false := by simp; omega
    go_enter Try.func92, Try.ntmps92
    go_wp2
    go_ret
    exact ⟨rfl, rfl⟩
theorem digit_any (c : UInt8) (w : World) : Calls Try.prog 127 #[.int .u8 (c.toNat : Int)] w fun e w' => e = .returned (.bool (digit c)) ∧ w = w' := by
  by_cases h1 : 48 ≤ c.toNat
  · by_cases h2 : c.toNat ≤ 57
    · rw [show digit c = true from by simp [digit, h1, h2]]
      have h3 : decide ((c.toNat : Int) ≤ 57) = true := by simp; omega
      go_enter Try.func127, Try.ntmps127
      go_wp2
      go_ret
      exact ⟨rfl, rfl⟩
    · rw [show digit c = false from by simp [digit]; omega]
      have h3 : decide ((c.toNat : Int) ≤ 57) = false := by simp; omega
      go_enter Try.func127, Try.ntmps127
      go_wp2
      go_ret
      exact ⟨rfl, rfl⟩
  · rw [show digit c = false from by simp [digit]; omega]
    have h3 : decide (48 ≤ (c.toNat : Int)) = false := by simp; omega
    go_enter Try.func127, Try.ntmps127
    go_wp2
    go_ret
    exact ⟨rfl, rfl⟩
theorem run_any (s : ByteArray) (i : Nat) (w : World) (hi : i ≤ s.size) (hs : s.size ≤ 9223372036854775807) :
    Calls Try.prog 93 #[.string s, .int .i64 i] w fun e w' => e = .returned (.int .i64 (endAt alnum s i : Nat)) ∧ w = w' := by
  go_enter Try.func93, Try.ntmps93
  go_wp2_with fail
  go_loop [1] (fun v => ∃ k : Nat, k ≤ s.size ∧ v = .int .i64 k ∧ endAt alnum s k = endAt alnum s i) (fun v => (s.size - intOf v).toNat)
  case atStart => exact ⟨i, hi, rfl, rfl⟩
  case round =>
    obtain ⟨k, hk, rfl, he⟩ := hrel
    have HE := Lib.hid he
    clear he
    by_cases hlt : k < s.size
    · have hl : (k : Int) < (s.size : Int) := by omega
      cases hsm : small s[k] with
      | true =>
        have HN := Lib.hid (endAt_yes (p := alnum) hlt (by simp [alnum, hsm]))
        go_wp2_with (go_at_call 92; refine (letter_any _ _).mono ?_; rintro e w' ⟨rfl, rfl⟩)
        go_round
        case rel => exact ⟨k + 1, by omega, by go_num, by rw [HN.out, HE.out]⟩
        case measure => simp [intOf]; omega
      | false =>
        cases hdg : digit s[k] with
        | true =>
          have HN := Lib.hid (endAt_yes (p := alnum) hlt (by simp [alnum, hdg]))
          go_wp2_with (first | (go_at_call 92; refine (letter_any _ _).mono ?_; rintro e w' ⟨rfl, rfl⟩) | (go_at_call 127; refine (digit_any _ _).mono ?_; rintro e w' ⟨rfl, rfl⟩))
          go_round
          case rel => exact ⟨k + 1, by omega, by go_num, by rw [HN.out, HE.out]⟩
          case measure => simp [intOf]; omega
        | false =>
          have HN := Lib.hid (endAt_no (p := alnum) hlt (by simp [alnum, hsm, hdg]))
          go_wp2_with (first | (go_at_call 92; refine (letter_any _ _).mono ?_; rintro e w' ⟨rfl, rfl⟩) | (go_at_call 127; refine (digit_any _ _).mono ?_; rintro e w' ⟨rfl, rfl⟩))
          go_ret
          exact ⟨ret1 (by rw [← HE.out, HN.out]), rfl⟩
    · have HN := Lib.hid (endAt_end (p := alnum) (s := s) (k := k) (by omega))
      have hl : decide ((k : Int) < (s.size : Int)) = false := by simp; omega
      have hl2 : decide (k < s.size) = false := by simp; omega
      go_wp2_with fail
      go_ret
      exact ⟨ret1 (by rw [← HE.out, HN.out]), rfl⟩
end Go.Proofs.Ytghlmengcidmdaa.Lx
end
section
namespace Go.Proofs.Ytghlmengcidmdaa.Lx
open Go.RowKit
set_option maxHeartbeats 2000000 in
theorem word_any (s : ByteArray) (w : World) : Calls Try.prog 94 #[.string s] w fun e w' => e = .returned (.bool (isWord (bl s))) ∧ w = w' := by
  have he := toList_bl s
  by_cases h0 : bl s = [103, 108, 111, 98, 97, 108]
  · have hr : isWord (bl s) = true := by rw [h0]; rfl
    rw [hr]; rw [h0] at he
    have q0 : (s.toList == [103, 108, 111, 98, 97, 108]) = true := by rw [he]; rfl
    clear he hr h0
    go_enter Try.func94, Try.ntmps94
    go_wp2_with fail
    go_ret
    exact ⟨rfl, rfl⟩
  by_cases h1 : bl s = [112, 114, 111, 99]
  · have hr : isWord (bl s) = true := by rw [h1]; rfl
    rw [hr]; rw [h1] at he
    have q0 : (s.toList == [103, 108, 111, 98, 97, 108]) = false := by rw [he]; rfl
    have q1 : (s.toList == [112, 114, 111, 99]) = true := by rw [he]; rfl
    clear he hr h0 h1
    go_enter Try.func94, Try.ntmps94
    go_wp2_with fail
    go_ret
    exact ⟨rfl, rfl⟩
  by_cases h2 : bl s = [118, 97, 114]
  · have hr : isWord (bl s) = true := by rw [h2]; rfl
    rw [hr]; rw [h2] at he
    have q0 : (s.toList == [103, 108, 111, 98, 97, 108]) = false := by rw [he]; rfl
    have q1 : (s.toList == [112, 114, 111, 99]) = false := by rw [he]; rfl
    have q2 : (s.toList == [118, 97, 114]) = true := by rw [he]; rfl
    clear he hr h0 h1 h2
    go_enter Try.func94, Try.ntmps94
    go_wp2_with fail
    go_ret
    exact ⟨rfl, rfl⟩
  by_cases h3 : bl s = [114, 101, 102]
  · have hr : isWord (bl s) = true := by rw [h3]; rfl
    rw [hr]; rw [h3] at he
    have q0 : (s.toList == [103, 108, 111, 98, 97, 108]) = false := by rw [he]; rfl
    have q1 : (s.toList == [112, 114, 111, 99]) = false := by rw [he]; rfl
    have q2 : (s.toList == [118, 97, 114]) = false := by rw [he]; rfl
    have q3 : (s.toList == [114, 101, 102]) = true := by rw [he]; rfl
    clear he hr h0 h1 h2 h3
    go_enter Try.func94, Try.ntmps94
    go_wp2_with fail
    go_ret
    exact ⟨rfl, rfl⟩
  by_cases h4 : bl s = [105, 102]
  · have hr : isWord (bl s) = true := by rw [h4]; rfl
    rw [hr]; rw [h4] at he
    have q0 : (s.toList == [103, 108, 111, 98, 97, 108]) = false := by rw [he]; rfl
    have q1 : (s.toList == [112, 114, 111, 99]) = false := by rw [he]; rfl
    have q2 : (s.toList == [118, 97, 114]) = false := by rw [he]; rfl
    have q3 : (s.toList == [114, 101, 102]) = false := by rw [he]; rfl
    have q4 : (s.toList == [105, 102]) = true := by rw [he]; rfl
    clear he hr h0 h1 h2 h3 h4
    go_enter Try.func94, Try.ntmps94
    go_wp2_with fail
    go_ret
    exact ⟨rfl, rfl⟩
  by_cases h5 : bl s = [101, 108, 115, 101]
  · have hr : isWord (bl s) = true := by rw [h5]; rfl
    rw [hr]; rw [h5] at he
    have q0 : (s.toList == [103, 108, 111, 98, 97, 108]) = false := by rw [he]; rfl
    have q1 : (s.toList == [112, 114, 111, 99]) = false := by rw [he]; rfl
    have q2 : (s.toList == [118, 97, 114]) = false := by rw [he]; rfl
    have q3 : (s.toList == [114, 101, 102]) = false := by rw [he]; rfl
    have q4 : (s.toList == [105, 102]) = false := by rw [he]; rfl
    have q5 : (s.toList == [101, 108, 115, 101]) = true := by rw [he]; rfl
    clear he hr h0 h1 h2 h3 h4 h5
    go_enter Try.func94, Try.ntmps94
    go_wp2_with fail
    go_ret
    exact ⟨rfl, rfl⟩
  by_cases h6 : bl s = [119, 104, 105, 108, 101]
  · have hr : isWord (bl s) = true := by rw [h6]; rfl
    rw [hr]; rw [h6] at he
    have q0 : (s.toList == [103, 108, 111, 98, 97, 108]) = false := by rw [he]; rfl
    have q1 : (s.toList == [112, 114, 111, 99]) = false := by rw [he]; rfl
    have q2 : (s.toList == [118, 97, 114]) = false := by rw [he]; rfl
    have q3 : (s.toList == [114, 101, 102]) = false := by rw [he]; rfl
    have q4 : (s.toList == [105, 102]) = false := by rw [he]; rfl
    have q5 : (s.toList == [101, 108, 115, 101]) = false := by rw [he]; rfl
    have q6 : (s.toList == [119, 104, 105, 108, 101]) = true := by rw [he]; rfl
    clear he hr h0 h1 h2 h3 h4 h5 h6
    go_enter Try.func94, Try.ntmps94
    go_wp2_with fail
    go_ret
    exact ⟨rfl, rfl⟩
  by_cases h7 : bl s = [98, 114, 101, 97, 107]
  · have hr : isWord (bl s) = true := by rw [h7]; rfl
    rw [hr]; rw [h7] at he
    have q0 : (s.toList == [103, 108, 111, 98, 97, 108]) = false := by rw [he]; rfl
    have q1 : (s.toList == [112, 114, 111, 99]) = false := by rw [he]; rfl
    have q2 : (s.toList == [118, 97, 114]) = false := by rw [he]; rfl
    have q3 : (s.toList == [114, 101, 102]) = false := by rw [he]; rfl
    have q4 : (s.toList == [105, 102]) = false := by rw [he]; rfl
    have q5 : (s.toList == [101, 108, 115, 101]) = false := by rw [he]; rfl
    have q6 : (s.toList == [119, 104, 105, 108, 101]) = false := by rw [he]; rfl
    have q7 : (s.toList == [98, 114, 101, 97, 107]) = true := by rw [he]; rfl
    clear he hr h0 h1 h2 h3 h4 h5 h6 h7
    go_enter Try.func94, Try.ntmps94
    go_wp2_with fail
    go_ret
    exact ⟨rfl, rfl⟩
  by_cases h8 : bl s = [99, 111, 110, 116, 105, 110, 117, 101]
  · have hr : isWord (bl s) = true := by rw [h8]; rfl
    rw [hr]; rw [h8] at he
    have q0 : (s.toList == [103, 108, 111, 98, 97, 108]) = false := by rw [he]; rfl
    have q1 : (s.toList == [112, 114, 111, 99]) = false := by rw [he]; rfl
    have q2 : (s.toList == [118, 97, 114]) = false := by rw [he]; rfl
    have q3 : (s.toList == [114, 101, 102]) = false := by rw [he]; rfl
    have q4 : (s.toList == [105, 102]) = false := by rw [he]; rfl
    have q5 : (s.toList == [101, 108, 115, 101]) = false := by rw [he]; rfl
    have q6 : (s.toList == [119, 104, 105, 108, 101]) = false := by rw [he]; rfl
    have q7 : (s.toList == [98, 114, 101, 97, 107]) = false := by rw [he]; rfl
    have q8 : (s.toList == [99, 111, 110, 116, 105, 110, 117, 101]) = true := by rw [he]; rfl
    clear he hr h0 h1 h2 h3 h4 h5 h6 h7 h8
    go_enter Try.func94, Try.ntmps94
    go_wp2_with fail
    go_ret
    exact ⟨rfl, rfl⟩
  by_cases h9 : bl s = [114, 101, 116, 117, 114, 110]
  · have hr : isWord (bl s) = true := by rw [h9]; rfl
    rw [hr]; rw [h9] at he
    have q0 : (s.toList == [103, 108, 111, 98, 97, 108]) = false := by rw [he]; rfl
    have q1 : (s.toList == [112, 114, 111, 99]) = false := by rw [he]; rfl
    have q2 : (s.toList == [118, 97, 114]) = false := by rw [he]; rfl
    have q3 : (s.toList == [114, 101, 102]) = false := by rw [he]; rfl
    have q4 : (s.toList == [105, 102]) = false := by rw [he]; rfl
    have q5 : (s.toList == [101, 108, 115, 101]) = false := by rw [he]; rfl
    have q6 : (s.toList == [119, 104, 105, 108, 101]) = false := by rw [he]; rfl
    have q7 : (s.toList == [98, 114, 101, 97, 107]) = false := by rw [he]; rfl
    have q8 : (s.toList == [99, 111, 110, 116, 105, 110, 117, 101]) = false := by rw [he]; rfl
    have q9 : (s.toList == [114, 101, 116, 117, 114, 110]) = true := by rw [he]; rfl
    clear he hr h0 h1 h2 h3 h4 h5 h6 h7 h8 h9
    go_enter Try.func94, Try.ntmps94
    go_wp2_with fail
    go_ret
    exact ⟨rfl, rfl⟩
  by_cases h10 : bl s = [103, 111, 116, 111]
  · have hr : isWord (bl s) = true := by rw [h10]; rfl
    rw [hr]; rw [h10] at he
    have q0 : (s.toList == [103, 108, 111, 98, 97, 108]) = false := by rw [he]; rfl
    have q1 : (s.toList == [112, 114, 111, 99]) = false := by rw [he]; rfl
    have q2 : (s.toList == [118, 97, 114]) = false := by rw [he]; rfl
    have q3 : (s.toList == [114, 101, 102]) = false := by rw [he]; rfl
    have q4 : (s.toList == [105, 102]) = false := by rw [he]; rfl
    have q5 : (s.toList == [101, 108, 115, 101]) = false := by rw [he]; rfl
    have q6 : (s.toList == [119, 104, 105, 108, 101]) = false := by rw [he]; rfl
    have q7 : (s.toList == [98, 114, 101, 97, 107]) = false := by rw [he]; rfl
    have q8 : (s.toList == [99, 111, 110, 116, 105, 110, 117, 101]) = false := by rw [he]; rfl
    have q9 : (s.toList == [114, 101, 116, 117, 114, 110]) = false := by rw [he]; rfl
    have q10 : (s.toList == [103, 111, 116, 111]) = true := by rw [he]; rfl
    clear he hr h0 h1 h2 h3 h4 h5 h6 h7 h8 h9 h10
    go_enter Try.func94, Try.ntmps94
    go_wp2_with fail
    go_ret
    exact ⟨rfl, rfl⟩
  by_cases h11 : bl s = [114, 101, 97, 100]
  · have hr : isWord (bl s) = true := by rw [h11]; rfl
    rw [hr]; rw [h11] at he
    have q0 : (s.toList == [103, 108, 111, 98, 97, 108]) = false := by rw [he]; rfl
    have q1 : (s.toList == [112, 114, 111, 99]) = false := by rw [he]; rfl
    have q2 : (s.toList == [118, 97, 114]) = false := by rw [he]; rfl
    have q3 : (s.toList == [114, 101, 102]) = false := by rw [he]; rfl
    have q4 : (s.toList == [105, 102]) = false := by rw [he]; rfl
    have q5 : (s.toList == [101, 108, 115, 101]) = false := by rw [he]; rfl
    have q6 : (s.toList == [119, 104, 105, 108, 101]) = false := by rw [he]; rfl
    have q7 : (s.toList == [98, 114, 101, 97, 107]) = false := by rw [he]; rfl
    have q8 : (s.toList == [99, 111, 110, 116, 105, 110, 117, 101]) = false := by rw [he]; rfl
    have q9 : (s.toList == [114, 101, 116, 117, 114, 110]) = false := by rw [he]; rfl
    have q10 : (s.toList == [103, 111, 116, 111]) = false := by rw [he]; rfl
    have q11 : (s.toList == [114, 101, 97, 100]) = true := by rw [he]; rfl
    clear he hr h0 h1 h2 h3 h4 h5 h6 h7 h8 h9 h10 h11
    go_enter Try.func94, Try.ntmps94
    go_wp2_with fail
    go_ret
    exact ⟨rfl, rfl⟩
  by_cases h12 : bl s = [112, 114, 105, 110, 116]
  · have hr : isWord (bl s) = true := by rw [h12]; rfl
    rw [hr]; rw [h12] at he
    have q0 : (s.toList == [103, 108, 111, 98, 97, 108]) = false := by rw [he]; rfl
    have q1 : (s.toList == [112, 114, 111, 99]) = false := by rw [he]; rfl
    have q2 : (s.toList == [118, 97, 114]) = false := by rw [he]; rfl
    have q3 : (s.toList == [114, 101, 102]) = false := by rw [he]; rfl
    have q4 : (s.toList == [105, 102]) = false := by rw [he]; rfl
    have q5 : (s.toList == [101, 108, 115, 101]) = false := by rw [he]; rfl
    have q6 : (s.toList == [119, 104, 105, 108, 101]) = false := by rw [he]; rfl
    have q7 : (s.toList == [98, 114, 101, 97, 107]) = false := by rw [he]; rfl
    have q8 : (s.toList == [99, 111, 110, 116, 105, 110, 117, 101]) = false := by rw [he]; rfl
    have q9 : (s.toList == [114, 101, 116, 117, 114, 110]) = false := by rw [he]; rfl
    have q10 : (s.toList == [103, 111, 116, 111]) = false := by rw [he]; rfl
    have q11 : (s.toList == [114, 101, 97, 100]) = false := by rw [he]; rfl
    have q12 : (s.toList == [112, 114, 105, 110, 116]) = true := by rw [he]; rfl
    clear he hr h0 h1 h2 h3 h4 h5 h6 h7 h8 h9 h10 h11 h12
    go_enter Try.func94, Try.ntmps94
    go_wp2_with fail
    go_ret
    exact ⟨rfl, rfl⟩
  have hr : isWord (bl s) = false := by simp [isWord, words, h0, h1, h2, h3, h4, h5, h6, h7, h8, h9, h10, h11, h12]
  rw [hr]; rw [← he] at h0 h1 h2 h3 h4 h5 h6 h7 h8 h9 h10 h11 h12
  have q0 : (s.toList == [103, 108, 111, 98, 97, 108]) = false := by simp [h0]
  have q1 : (s.toList == [112, 114, 111, 99]) = false := by simp [h1]
  have q2 : (s.toList == [118, 97, 114]) = false := by simp [h2]
  have q3 : (s.toList == [114, 101, 102]) = false := by simp [h3]
  have q4 : (s.toList == [105, 102]) = false := by simp [h4]
  have q5 : (s.toList == [101, 108, 115, 101]) = false := by simp [h5]
  have q6 : (s.toList == [119, 104, 105, 108, 101]) = false := by simp [h6]
  have q7 : (s.toList == [98, 114, 101, 97, 107]) = false := by simp [h7]
  have q8 : (s.toList == [99, 111, 110, 116, 105, 110, 117, 101]) = false := by simp [h8]
  have q9 : (s.toList == [114, 101, 116, 117, 114, 110]) = false := by simp [h9]
  have q10 : (s.toList == [103, 111, 116, 111]) = false := by simp [h10]
  have q11 : (s.toList == [114, 101, 97, 100]) = false := by simp [h11]
  have q12 : (s.toList == [112, 114, 105, 110, 116]) = false := by simp [h12]
  clear he hr h0 h1 h2 h3 h4 h5 h6 h7 h8 h9 h10 h11 h12
  go_enter Try.func94, Try.ntmps94
  go_wp2_with fail
  go_ret
  exact ⟨rfl, rfl⟩
end Go.Proofs.Ytghlmengcidmdaa.Lx
end
section
namespace Go.Proofs.Ytghlmengcidmdaa.Lx
open Go.RowKit
end Go.Proofs.Ytghlmengcidmdaa.Lx
end
section
namespace Go.Proofs.Ytghlmengcidmdaa.Lx
open Go.RowKit
theorem all_run (p : UInt8 → Bool) (l : List UInt8) : runLen p l = l.length ↔ l.all p = true := by
  induction l with
  | nil => simp [runLen]
  | cons c r ih =>
    cases h : p c with
    | true => rw [runLen_cons_yes _ h]; simp [h, ih]
    | false => rw [runLen_cons_no _ h]; simp [h]
theorem isName_cons (s : ByteArray) (h : 0 < s.size) : isName (bl s) = (small s[0] && decide (s.size ≤ 8) && (bl s).all alnum && !isWord (bl s)) := by
  have e := bl_drop s 0 h
  rw [List.drop_zero] at e
  have hl := bl_len s
  generalize hr : (bl s).drop (0 + 1) = r at e
  show (match bl s with | [] => false | c :: _ => small c && decide ((bl s).length ≤ 8) && (bl s).all alnum && !isWord (bl s)) = _
  rw [hl]
  generalize (bl s).all alnum = x
  generalize isWord (bl s) = y
  rw [e]
theorem name_any (s : ByteArray) (w : World) (hs : s.size ≤ 9223372036854775807) :
    Calls Try.prog 41 #[.string s] w fun e w' => e = .returned (.bool (isName (bl s))) ∧ w = w' := by
  have HR := Lib.hid fun w => run_any s 0 w (by omega) hs
  by_cases h0 : s.size < 1
  · have hz : bl s = [] := List.eq_nil_of_length_eq_zero (by rw [bl_len]; omega)
    rw [show isName (bl s) = false from by rw [hz]; rfl]
    have h0' : (s.size : Int) < 1 := by omega
    clear hz
    go_enter Try.func41, Try.ntmps41
    go_wp2_with (first | (go_at_call 92; refine (letter_any _ _).mono ?_; rintro e w' ⟨rfl, rfl⟩) | (go_at_call 93; refine (HR.out _).mono ?_; rintro e w' ⟨rfl, rfl⟩) | (go_at_call 94; refine (word_any _ _).mono ?_; rintro e w' ⟨rfl, rfl⟩))
    go_ret
    exact ⟨rfl, rfl⟩
  · have h0' : ¬ (s.size : Int) < 1 := by omega
    have hp : 0 < s.size := by omega
    rw [isName_cons s hp]
    by_cases h8 : 8 < s.size
    · rw [show decide (s.size ≤ 8) = false from by simp; omega, Bool.and_false, Bool.false_and, Bool.false_and]
      have h8' : 8 < (s.size : Int) := by omega
      go_enter Try.func41, Try.ntmps41
      go_wp2_with (first | (go_at_call 92; refine (letter_any _ _).mono ?_; rintro e w' ⟨rfl, rfl⟩) | (go_at_call 93; refine (HR.out _).mono ?_; rintro e w' ⟨rfl, rfl⟩) | (go_at_call 94; refine (word_any _ _).mono ?_; rintro e w' ⟨rfl, rfl⟩))
      go_ret
      exact ⟨rfl, rfl⟩
    · have h8' : ¬ 8 < (s.size : Int) := by omega
      rw [show decide (s.size ≤ 8) = true from by simp; omega, Bool.and_true]
      cases hsm : small s[0] with
      | false =>
        rw [Bool.false_and, Bool.false_and]
        go_enter Try.func41, Try.ntmps41
        go_wp2_with (first | (go_at_call 92; refine (letter_any _ _).mono ?_; rintro e w' ⟨rfl, rfl⟩) | (go_at_call 93; refine (HR.out _).mono ?_; rintro e w' ⟨rfl, rfl⟩) | (go_at_call 94; refine (word_any _ _).mono ?_; rintro e w' ⟨rfl, rfl⟩))
        go_ret
        exact ⟨rfl, rfl⟩
      | true =>
        rw [Bool.true_and]
        have hr : endAt alnum s 0 = runLen alnum (bl s) := by unfold endAt; rw [List.drop_zero]; omega
        have hall := all_run alnum (bl s)
        rw [← hr, bl_len] at hall
        cases hal : (bl s).all alnum with
        | false =>
          rw [Bool.false_and]
          have hne : ((endAt alnum s 0 : Int) == (s.size : Int)) = false := by
            have : ¬ endAt alnum s 0 = s.size := by rw [hall, hal]; simp
            simp; omega
          clear hall hr
          go_enter Try.func41, Try.ntmps41
          go_wp2_with (first | (go_at_call 92; refine (letter_any _ _).mono ?_; rintro e w' ⟨rfl, rfl⟩) | (go_at_call 93; refine (HR.out _).mono ?_; rintro e w' ⟨rfl, rfl⟩) | (go_at_call 94; refine (word_any _ _).mono ?_; rintro e w' ⟨rfl, rfl⟩))
          go_ret
          exact ⟨rfl, rfl⟩
        | true =>
          rw [Bool.true_and]
          have hne : ((endAt alnum s 0 : Int) == (s.size : Int)) = true := by
            have : endAt alnum s 0 = s.size := by rw [hall, hal]
            simp; omega
          clear hall hr
          go_enter Try.func41, Try.ntmps41
          go_wp2_with (first | (go_at_call 92; refine (letter_any _ _).mono ?_; rintro e w' ⟨rfl, rfl⟩) | (go_at_call 93; refine (HR.out _).mono ?_; rintro e w' ⟨rfl, rfl⟩) | (go_at_call 94; refine (word_any _ _).mono ?_; rintro e w' ⟨rfl, rfl⟩))
          go_ret
          exact ⟨rfl, rfl⟩
end Go.Proofs.Ytghlmengcidmdaa.Lx
end
section
namespace Go.Proofs.Ytghlmengcidmdaa.Tr
open Go.Proofs.Ytghlmengcidmdaa.Lx Go.Proofs.Ytghlmengcidmdaa.Wd
/-- An expression: its kind, its number, its name, its kids. -/
inductive Ex where
  | mk (op n : Int) (nm : ByteArray) (ks : List Ex)
def Ex.op : Ex → Int | .mk o _ _ _ => o
def Ex.n : Ex → Int | .mk _ n _ _ => n
def Ex.nm : Ex → ByteArray | .mk _ _ s _ => s
def Ex.ks : Ex → List Ex | .mk _ _ _ k => k
/-- How many kids a kind has; -1: it is none. -/
def kidsOf (op : Int) : Int := if op = 1 ∨ op = 2 then 0 else if op = 3 ∨ op = 4 then 1 else if 5 ≤ op ∧ op ≤ 17 then 2 else -1
def noName (s : ByteArray) : Bool := s.toList.isEmpty
/-- May it be one by itself, its kids unasked? -/
def headE (x : Ex) : Bool :=
  if x.op = 1 then decide (0 ≤ x.n) && noName x.nm else if x.op = 2 then x.n == 0 && isName (bl x.nm) else x.n == 0 && noName x.nm
/-- May it be an expression, with so many at most in one another? -/
def mayE : Nat → Ex → Bool
  | 0, _ => false
  | l + 1, x => (x.ks.length : Int) == kidsOf x.op && headE x && x.ks.all (mayE l)
/-- Where a name stands first. -/
def at_ (s : ByteArray) (ns : List ByteArray) : Option Nat := ns.findIdx? (fun m => s.toList == m.toList)
end Go.Proofs.Ytghlmengcidmdaa.Tr
end
section
namespace Go.Proofs.Ytghlmengcidmdaa.Tr
open Go.RowKit Go.Proofs.Ytghlmengcidmdaa.Lx Go.Proofs.Ytghlmengcidmdaa.Wd
theorem cell_lt {w : World} {g j : Nat} {u : Value} (h : w.cell? ⟨g, j, none⟩ = some u) : g < w.heap.size := by
  apply Decidable.byContradiction
  intro hn
  have e : w.heap[g]? = none := Array.getElem?_eq_none (by omega)
  simp [World.cell?, e] at h
theorem cell_next {w w' : World} {g j : Nat} {u : Value} (hb : Below w.heap.size w w') (h : w.cell? ⟨g, j, none⟩ = some u) : w'.cell? ⟨g, j, none⟩ = some u :=
  (hb.cell (p := ⟨g, j, none⟩) (cell_lt h)).trans h
/-- The expression's own fields fit. -/
structure OkE (x : Ex) : Prop where
  op : InI x.op
  n : InI x.n
  nm : x.nm.size ≤ 9223372036854775807
/-- A slice of expressions that lie in memory, so many at most in one another. -/
def ExK : Nat → World → Value → List Ex → Prop
  | 0, _, _, _ => False
  | d + 1, w, kv, ks => ∃ a cap, kv = .slice a ks.length cap ∧ ks.length ≤ cap ∧ cap ≤ 9223372036854775807 ∧ (ks ≠ [] → ∃ g off, a = some ⟨g, off, none⟩ ∧
      ∀ i (h : i < ks.length), OkE ks[i] ∧ ∃ u, w.cell? ⟨g, off + i * 4, none⟩ = some (.int .i64 ks[i].op) ∧ w.cell? ⟨g, off + i * 4 + 1, none⟩ = some (.int .i64 ks[i].n) ∧
        w.cell? ⟨g, off + i * 4 + 2, none⟩ = some (.string ks[i].nm) ∧ w.cell? ⟨g, off + i * 4 + 3, none⟩ = some u ∧ ExK d w u ks[i].ks)
theorem ExK.next {w w' : World} (hb : Below w.heap.size w w') : ∀ {d : Nat} {kv : Value} {ks : List Ex}, ExK d w kv ks → ExK d w' kv ks := by
  intro d
  induction d with
  | zero => intro kv ks h; exact h
  | succ d ih =>
    intro kv ks h
    obtain ⟨a, cap, h1, h2, h3, h4⟩ := h
    refine ⟨a, cap, h1, h2, h3, fun hne => ?_⟩
    obtain ⟨g, off, h5, h6⟩ := h4 hne
    refine ⟨g, off, h5, fun i hi => ?_⟩
    obtain ⟨h7, u, c0, c1, c2, c3, hk⟩ := h6 i hi
    exact ⟨h7, u, cell_next hb c0, cell_next hb c1, cell_next hb c2, cell_next hb c3, ih hk⟩
/-- The kids of one, opened. -/
theorem ExK.kids {w : World} {d : Nat} {kv : Value} {ks : List Ex} (h : ExK (d + 1) w kv ks) (hne : ks ≠ []) : ∃ g off cap, kv = .slice (some ⟨g, off, none⟩) ks.length cap ∧ ks.length ≤ cap ∧ cap ≤ 9223372036854775807 ∧
    ∀ i (h : i < ks.length), OkE ks[i] ∧ ∃ u, w.cell? ⟨g, off + i * 4, none⟩ = some (.int .i64 ks[i].op) ∧ w.cell? ⟨g, off + i * 4 + 1, none⟩ = some (.int .i64 ks[i].n) ∧
        w.cell? ⟨g, off + i * 4 + 2, none⟩ = some (.string ks[i].nm) ∧ w.cell? ⟨g, off + i * 4 + 3, none⟩ = some u ∧ ExK d w u ks[i].ks := by
  obtain ⟨a, cap, h1, h2, h3, h4⟩ := h
  obtain ⟨g, off, rfl, h6⟩ := h4 hne
  exact ⟨g, off, cap, h1, h2, h3, h6⟩
theorem ExK.form {w : World} {d : Nat} {kv : Value} {ks : List Ex} (h : ExK d w kv ks) : ∃ a cap, kv = .slice a ks.length cap ∧ ks.length ≤ cap ∧ cap ≤ 9223372036854775807 := by
  cases d with
  | zero => exact h.elim
  | succ d =>
    obtain ⟨a, cap, h1, h2, h3, h4⟩ := h
    exact ⟨a, cap, h1, h2, h3⟩
/-- The expression as a value. -/
def exV (x : Ex) (kv : Value) : Value := .agg #[.int .i64 x.op, .int .i64 x.n, .string x.nm, kv]
/-- A slice of texts. -/
def StrsAt (w : World) (v : Value) (l : List ByteArray) : Prop :=
  ∃ a cap, v = .slice a l.length cap ∧ l.length ≤ cap ∧ cap ≤ 9223372036854775807 ∧ (l ≠ [] → ∃ g off, a = some ⟨g, off, none⟩ ∧ ∀ i (h : i < l.length), l[i].size ≤ 9223372036854775807 ∧ w.cell? ⟨g, off + i, none⟩ = some (.string l[i]))
theorem StrsAt.next {w w' : World} {v : Value} {l : List ByteArray} (h : StrsAt w v l) (hb : Below w.heap.size w w') : StrsAt w' v l := by
  obtain ⟨a, cap, h1, h2, h3, h4⟩ := h
  refine ⟨a, cap, h1, h2, h3, fun hne => ?_⟩
  obtain ⟨g, off, h5, h6⟩ := h4 hne
  exact ⟨g, off, h5, fun i hi => ⟨(h6 i hi).1, cell_next hb (h6 i hi).2⟩⟩
/-- What is known below W's size, once a box has been made. -/
theorem boxed (w : World) (o : Obj) : Below w.heap.size w (w.alloc o) := (Below.refl _ _).alloc (Nat.le_refl _) _
end Go.Proofs.Ytghlmengcidmdaa.Tr
end
end
section
/- What tree.kids, tree.deep, tree.MayExpr and the reference's Arity compute. Conditions: the expression lies in memory.
   What the reference's deep, form, MayExpr compute. Conditions: the expression lies in memory.
   The reference's MayExpr is the program's: which expressions may be. Conditions: the expression lies in memory.
   What slices.Index at texts and the reference's look compute. Conditions: the slices lie in memory. -/
section
namespace Go.Proofs.Ytghlmengcidmdaa.Tr
open Go.RowKit Go.Proofs.Ytghlmengcidmdaa.Lx Go.Proofs.Ytghlmengcidmdaa.Wd
theorem kids_any (op : Int) (w : World) : Calls Try.prog 131 #[.int .i64 op] w fun e w' => e = .returned (.int .i64 (kidsOf op)) ∧ w = w' := by
  unfold kidsOf
  by_cases h1 : op = 1
  · subst h1
    go_enter Try.func131, Try.ntmps131
    go_wp2
    go_ret
    exact ⟨rfl, rfl⟩
  by_cases h2 : op = 2
  · subst h2
    go_enter Try.func131, Try.ntmps131
    go_wp2
    go_ret
    exact ⟨rfl, rfl⟩
  by_cases h3 : op = 3
  · subst h3
    go_enter Try.func131, Try.ntmps131
    go_wp2
    go_ret
    exact ⟨rfl, rfl⟩
  by_cases h4 : op = 4
  · subst h4
    go_enter Try.func131, Try.ntmps131
    go_wp2
    go_ret
    exact ⟨rfl, rfl⟩
  rw [if_neg (by omega), if_neg (by omega)]
  have b1 : (op == 1) = false := by simpa using h1
  have b2 : (op == 2) = false := by simpa using h2
  have b3 : (op == 3) = false := by simpa using h3
  have b4 : (op == 4) = false := by simpa using h4
  by_cases h5 : 5 ≤ op
  · by_cases h17 : op ≤ 17
    · rw [if_pos ⟨h5, h17⟩]
      clear h1 h2 h3 h4
      go_enter Try.func131, Try.ntmps131
      go_wp2
      go_ret
      exact ⟨rfl, rfl⟩
    · rw [if_neg (by omega)]
      clear h1 h2 h3 h4
      go_enter Try.func131, Try.ntmps131
      go_wp2
      go_ret
      exact ⟨rfl, rfl⟩
  · rw [if_neg (by omega)]
    clear h1 h2 h3 h4
    go_enter Try.func131, Try.ntmps131
    go_wp2
    go_ret
    exact ⟨rfl, rfl⟩
theorem mayE_succ (l : Nat) (x : Ex) : mayE (l + 1) x = ((x.ks.length : Int) == kidsOf x.op && headE x && x.ks.all (mayE l)) := rfl
theorem bool_toList {s : ByteArray} : (noName s = true → s.toList = [] ∧ s.toList.isEmpty = true ∧ (s.toList == []) = true) ∧ (noName s = false → s.toList.isEmpty = false ∧ (s.toList == []) = false) := by
  unfold noName
  refine ⟨fun h => ?_, fun h => ?_⟩
  · have h1 : s.toList = [] := by simpa using h
    exact ⟨h1, h, by rw [h1]; rfl⟩
  · exact ⟨h, by cases hs : s.toList with
      | nil => rw [hs] at h; cases h
      | cons a b => rfl⟩
set_option maxHeartbeats 2000000 in
theorem deep_any : ∀ (l : Nat) (d : Nat) (x : Ex) (kv : Value) (w : World), l ≤ 100 → OkE x → ExK d w kv x.ks →
    Calls Try.prog 107 #[exV x kv, .int .i64 l] w fun e w' => e = .returned (.bool (mayE l x)) ∧ Below w.heap.size w w' := by
  intro l
  induction l with
  | zero =>
    intro d x kv w _ hok hk
    have hbox := boxed w (.cells #[.int .i64 x.op, .int .i64 x.n, .string x.nm, kv] 37)
    have HBOX := Lib.hid hbox
    obtain ⟨a, cap, rfl, -, -⟩ := hk.form
    clear hbox hok hk
    unfold exV
    go_enter Try.func107, Try.ntmps107
    go_wp2_with fail
    go_quiet (fail)
    go_wp2_with fail
    go_ret
    exact ⟨rfl, below_drewN HBOX.out nq⟩
  | succ l ih =>
    intro d x kv w hl hok hk
    obtain ⟨d, rfl⟩ : ∃ e, d = e + 1 := by
      cases d with
      | zero => exact hk.elim
      | succ e => exact ⟨e, rfl⟩
    have IH := Lib.hid ih
    obtain ⟨a, cap, rfl, hc1, hc2⟩ := hk.form
    have hbox := boxed w (.cells #[.int .i64 x.op, .int .i64 x.n, .string x.nm, .slice a x.ks.length cap] 37)
    have HBOX := Lib.hid hbox
    have HK1 := Lib.hid (hk.next hbox)
    have hnm := hok.nm
    have hl1 : (1 : Int) ≤ (l : Int) + 1 := by omega
    have hl2 : (l : Int) + 1 ≤ 101 := by omega
    have hlc : ((l + 1 : Nat) : Int) = (l : Int) + 1 := rfl
    rw [mayE_succ, hlc]
    clear ih hbox hk hok hlc
    unfold exV
    by_cases hkb : ((x.ks.length : Int) == kidsOf x.op) = true
    · have hkb2 : ((x.ks.length : Int) != kidsOf x.op) = false := by
        have : (x.ks.length : Int) = kidsOf x.op := by simpa using hkb
        simp [this]
      rw [hkb, Bool.true_and]
      by_cases h1 : x.op = 1
      · have hz : x.ks = [] := by
          have e : (x.ks.length : Int) = kidsOf x.op := by simpa using hkb
          rw [h1] at e
          exact List.eq_nil_of_length_eq_zero (by have : kidsOf 1 = 0 := rfl; omega)
        have hall : x.ks.all (mayE l) = true := by rw [hz]; rfl
        have b1 : (x.op == 1) = true := by simpa using h1
        have hh : headE x = (decide (0 ≤ x.n) && noName x.nm) := by unfold headE; rw [if_pos h1]
        rw [hall, Bool.and_true, hh]
        clear hz hall hkb hh h1
        by_cases hn : 0 ≤ x.n
        · have hn2 : decide (0 ≤ x.n) = true := by simpa using hn
          rw [hn2, Bool.true_and]
          cases hm : noName x.nm with
          | true =>
            obtain ⟨-, n1, n2⟩ := bool_toList.1 hm
            clear hm
            go_enter Try.func107, Try.ntmps107
            go_wp2_with fail
            go_quiet ((go_at_call 131; exact Calls.quiet_of_same ((kids_any _ _).mono fun e w' h => ⟨h.1, h.2.symm⟩)))
            go_wp2_with fail
            go_ret
            exact ⟨rfl, below_drewN HBOX.out nq⟩
          | false =>
            obtain ⟨n1, n2⟩ := bool_toList.2 hm
            clear hm
            go_enter Try.func107, Try.ntmps107
            go_wp2_with fail
            go_quiet ((go_at_call 131; exact Calls.quiet_of_same ((kids_any _ _).mono fun e w' h => ⟨h.1, h.2.symm⟩)))
            go_wp2_with fail
            go_ret
            exact ⟨rfl, below_drewN HBOX.out nq⟩
        · have hn2 : decide (0 ≤ x.n) = false := by simpa using hn
          rw [hn2, Bool.false_and]
          go_enter Try.func107, Try.ntmps107
          go_wp2_with fail
          go_quiet ((go_at_call 131; exact Calls.quiet_of_same ((kids_any _ _).mono fun e w' h => ⟨h.1, h.2.symm⟩)))
          go_wp2_with fail
          go_ret
          exact ⟨rfl, below_drewN HBOX.out nq⟩
      by_cases h2 : x.op = 2
      · have hz : x.ks = [] := by
          have e : (x.ks.length : Int) = kidsOf x.op := by simpa using hkb
          rw [h2] at e
          exact List.eq_nil_of_length_eq_zero (by have : kidsOf 2 = 0 := rfl; omega)
        have hall : x.ks.all (mayE l) = true := by rw [hz]; rfl
        have b1 : (x.op == 1) = false := by simpa using h1
        have b2 : (x.op == 2) = true := by simpa using h2
        have hh : headE x = (x.n == 0 && isName (bl x.nm)) := by unfold headE; rw [if_neg h1, if_pos h2]
        rw [hall, Bool.and_true, hh]
        clear hz hall hkb hh h1 h2
        cases hn : (x.n == 0) with
        | true =>
          rw [Bool.true_and]
          go_enter Try.func107, Try.ntmps107
          go_wp2_with fail
          go_quiet ((go_at_call 131; exact Calls.quiet_of_same ((kids_any _ _).mono fun e w' h => ⟨h.1, h.2.symm⟩)))
          go_wp2_with (go_at_call 41; refine (name_any _ _ hnm).mono ?_; rintro e w' ⟨rfl, rfl⟩)
          go_ret
          exact ⟨rfl, below_drewN HBOX.out nq⟩
        | false =>
          rw [Bool.false_and]
          go_enter Try.func107, Try.ntmps107
          go_wp2_with fail
          go_quiet ((go_at_call 131; exact Calls.quiet_of_same ((kids_any _ _).mono fun e w' h => ⟨h.1, h.2.symm⟩)))
          go_wp2_with fail
          go_ret
          exact ⟨rfl, below_drewN HBOX.out nq⟩
      have b1 : (x.op == 1) = false := by simpa using h1
      have b2 : (x.op == 2) = false := by simpa using h2
      have hh : headE x = (x.n == 0 && noName x.nm) := by unfold headE; rw [if_neg h1, if_neg h2]
      rw [hh]
      clear hkb hh h1 h2
      cases hn : (x.n == 0) with
      | false =>
        rw [Bool.false_and, Bool.false_and]
        have hn' : (x.n != 0) = true := by simpa using hn
        go_enter Try.func107, Try.ntmps107
        go_wp2_with fail
        go_quiet ((go_at_call 131; exact Calls.quiet_of_same ((kids_any _ _).mono fun e w' h => ⟨h.1, h.2.symm⟩)))
        go_wp2_with fail
        go_ret
        exact ⟨rfl, below_drewN HBOX.out nq⟩
      | true =>
        rw [Bool.true_and]
        have hn' : (x.n != 0) = false := by simpa using hn
        cases hm : noName x.nm with
        | false =>
          rw [Bool.false_and]
          obtain ⟨n1, n2⟩ := bool_toList.2 hm
          have n3 : (x.nm.toList != []) = true := by simpa using n2
          clear hm
          go_enter Try.func107, Try.ntmps107
          go_wp2_with fail
          go_quiet ((go_at_call 131; exact Calls.quiet_of_same ((kids_any _ _).mono fun e w' h => ⟨h.1, h.2.symm⟩)))
          go_wp2_with fail
          go_ret
          exact ⟨rfl, below_drewN HBOX.out nq⟩
        | true =>
          rw [Bool.true_and]
          obtain ⟨n0, n1, n2⟩ := bool_toList.1 hm
          have n3 : (x.nm.toList != []) = false := by simpa using n2
          clear hm
          go_enter Try.func107, Try.ntmps107
          go_wp2_with fail
          go_quiet ((go_at_call 131; exact Calls.quiet_of_same ((kids_any _ _).mono fun e w' h => ⟨h.1, h.2.symm⟩)))
          have HB2 := Lib.hid (below_drewN HBOX.out nq)
          have HK2 := Lib.hid (HK1.out.next (below_drewN (Below.refl _ _) nq))
          go_wp2_with fail
          generalize (w.alloc (.cells #[.int .i64 x.op, .int .i64 x.n, .string x.nm, .slice a x.ks.length cap] 37)).drewN nq = W2 at *
          go_loopw [51] (fun i wr => ∃ k : Nat, k ≤ x.ks.length ∧ i = .int .i64 k ∧ Below W2.heap.size W2 wr ∧ (x.ks.take k).all (mayE l) = true) (fun i _ => (x.ks.length - intOf i).toNat)
          case atStart => exact ⟨0, by omega, rfl, Below.refl _ _, rfl⟩
          case round =>
            obtain ⟨k, hk, rfl, hbel, hall⟩ := hrel
            have HBel := Lib.hid hbel
            have HALL := Lib.hid hall
            clear hall
            by_cases hlt : k < x.ks.length
            · have hlt' : (k : Int) < (x.ks.length : Int) := by omega
              have hne : x.ks ≠ [] := by intro h; rw [h] at hlt; simp at hlt
              obtain ⟨g, off, cap', hv, _, _, hcells⟩ := (HK2.out.next hbel).kids hne
              simp only [Value.slice.injEq] at hv
              obtain ⟨rfl, -, rfl⟩ := hv
              obtain ⟨hok2, u, c0, c1, c2, c3, hku⟩ := hcells k hlt
              obtain ⟨au, cu, rfl, -, -⟩ := hku.form
              have HKU := Lib.hid (hku.next (boxed wr (.cells #[.int .i64 x.ks[k].op, .int .i64 x.ks[k].n, .string x.ks[k].nm, .slice au x.ks[k].ks.length cu] 37)))
              have HOK := Lib.hid hok2
              have hgl := cell_lt c0
              clear hcells hku hok2 hbel hne
              obtain ⟨bk, hbk⟩ : ∃ bk, Hid (mayE l x.ks[k] = bk) := ⟨_, Lib.hid rfl⟩
              go_wp2_with fail
              refine (IH.out d x.ks[k] _ _ (by omega) HOK.out HKU.out).mono ?_
              rintro e w3 ⟨rfl, hb3⟩
              rw [hbk.out]
              have HB3 := Lib.hid (HBel.out.trans (((boxed wr _).trans (hb3.mono (boxed wr _).size)).mono HBel.out.size))
              clear hb3
              cases bk with
              | true =>
                go_wp2_with fail
                go_roundw
                case rel =>
                  refine ⟨k + 1, by omega, by go_num, HB3.out, ?_⟩
                  rw [List.take_succ_eq_append_getElem hlt, List.all_append, HALL.out]
                  simp [hbk.out]
                case measure => simp [intOf]; omega
              | false =>
                go_wp2_with fail
                go_ret
                refine ⟨?_, HB2.out.trans (HB3.out.mono HB2.out.size)⟩
                have hno : x.ks.all (mayE l) = false := by
                  cases h : x.ks.all (mayE l) with
                  | false => rfl
                  | true =>
                    have := List.all_eq_true.1 h x.ks[k] (List.getElem_mem hlt)
                    rw [hbk.out] at this; cases this
                rw [hno]; rfl
            · have hlt' : ¬ (k : Int) < (x.ks.length : Int) := by omega
              have hyes : x.ks.all (mayE l) = true := by
                have := HALL.out
                rwa [List.take_of_length_le (by omega)] at this
              have HY := Lib.hid hyes
              clear hyes
              go_wp2_with fail
              go_ret
              exact ⟨by rw [HY.out]; rfl, HB2.out.trans (HBel.out.mono HB2.out.size)⟩
    · have hkb1 : ((x.ks.length : Int) == kidsOf x.op) = false := by simpa using hkb
      have hkb2 : ((x.ks.length : Int) != kidsOf x.op) = true := by simpa using hkb
      rw [hkb1, Bool.false_and, Bool.false_and]
      clear hkb
      go_enter Try.func107, Try.ntmps107
      go_wp2_with fail
      go_quiet ((go_at_call 131; exact Calls.quiet_of_same ((kids_any _ _).mono fun e w' h => ⟨h.1, h.2.symm⟩)))
      go_wp2_with fail
      go_ret
      exact ⟨rfl, below_drewN HBOX.out nq⟩
theorem mayExpr_any (d : Nat) (x : Ex) (kv : Value) (w : World) (hok : OkE x) (hk : ExK d w kv x.ks) :
    Calls Try.prog 57 #[exV x kv] w fun e w' => e = .returned (.bool (mayE 20 x)) ∧ Below w.heap.size w w' := by
  have hbox := boxed w (.cells #[.int .i64 x.op, .int .i64 x.n, .string x.nm, kv] 37)
  have HBOX := Lib.hid hbox
  have HK1 := Lib.hid (hk.next hbox)
  have HOK := Lib.hid hok
  obtain ⟨a, cap, rfl, -, -⟩ := hk.form
  clear hbox hk hok
  unfold exV
  go_enter Try.func57, Try.ntmps57
  go_wp2_with fail
  refine (deep_any 20 d x _ _ (by omega) HOK.out HK1.out).mono ?_
  rintro e w1 ⟨rfl, hb⟩
  have HB := Lib.hid hb
  clear hb
  go_wp2_with fail
  go_ret
  exact ⟨rfl, HBOX.out.trans (HB.out.mono HBOX.out.size)⟩
end Go.Proofs.Ytghlmengcidmdaa.Tr
end
section
namespace Go.Proofs.Ytghlmengcidmdaa.Tr
open Go.RowKit Go.Proofs.Ytghlmengcidmdaa.Lx Go.Proofs.Ytghlmengcidmdaa.Wd
theorem cut_world {P : Program} {c : Code} {Q : Exit → Act → World → Prop} {a : Act} {w : World} (F : World → Prop) (hF : F w) (h : ∀ w', F w' → c.wp P Q a w') : c.wp P Q a w := h w hF
end Go.Proofs.Ytghlmengcidmdaa.Tr
end
section
namespace Go.Proofs.Ytghlmengcidmdaa.Tr
open Go.RowKit Go.Proofs.Ytghlmengcidmdaa.Lx Go.Proofs.Ytghlmengcidmdaa.Wd
end Go.Proofs.Ytghlmengcidmdaa.Tr
end
section
namespace Go.Proofs.Ytghlmengcidmdaa.Tr
open Go.RowKit Go.Proofs.Ytghlmengcidmdaa.Lx Go.Proofs.Ytghlmengcidmdaa.Wd
theorem at_some {s : ByteArray} {ns : List ByteArray} {k : Nat} (h : k < ns.length) (hk : (s.toList == ns[k].toList) = true) (hb : ∀ j (hj : j < k), (s.toList == ns[j].toList) = false) : at_ s ns = some k := by
  unfold at_
  rw [List.findIdx?_eq_some_iff_getElem]
  exact ⟨h, hk, fun j hj => by rw [hb j hj]; simp⟩
theorem at_none {s : ByteArray} {ns : List ByteArray} (h : ∀ j (hj : j < ns.length), (s.toList == ns[j].toList) = false) : at_ s ns = none := by
  unfold at_
  rw [List.findIdx?_eq_none_iff]
  intro m hm
  obtain ⟨j, hj, rfl⟩ := List.getElem_of_mem hm
  exact h j hj
/-- Where it stands, as Index tells it. -/
def atI (s : ByteArray) (ns : List ByteArray) : Int := match at_ s ns with
  | some i => i
  | none => -1
theorem StrsAt.form {w : World} {v : Value} {l : List ByteArray} (h : StrsAt w v l) : ∃ a cap, v = .slice a l.length cap ∧ l.length ≤ cap ∧ cap ≤ 9223372036854775807 := by
  obtain ⟨a, cap, h1, h2, h3, _⟩ := h
  exact ⟨a, cap, h1, h2, h3⟩
theorem StrsAt.cells {w : World} {v : Value} {l : List ByteArray} (h : StrsAt w v l) (hne : l ≠ []) : ∃ g off cap, v = .slice (some ⟨g, off, none⟩) l.length cap ∧ ∀ i (h : i < l.length), l[i].size ≤ 9223372036854775807 ∧ w.cell? ⟨g, off + i, none⟩ = some (.string l[i]) := by
  obtain ⟨a, cap, h1, h2, h3, h4⟩ := h
  obtain ⟨g, off, rfl, h6⟩ := h4 hne
  exact ⟨g, off, cap, h1, h6⟩
theorem ret_i {k : IntKind} {a b : Int} (h : a = b) : Ending.returned (.int k a) = .returned (.int k b) := by rw [h]
set_option maxHeartbeats 1000000 in
theorem index_any (ns : List ByteArray) (nv : Value) (s : ByteArray) (w : World) (hn : StrsAt w nv ns) :
    Calls Try.prog 83 #[nv, .string s] w fun e w' => e = .returned (.int .i64 (atI s ns)) ∧ w = w' := by
  obtain ⟨a, cap, rfl, hc1, hc2⟩ := hn.form
  have HN := Lib.hid hn
  clear hn
  go_enter Try.func83, Try.ntmps83
  go_wp2_with fail
  go_loop [8] (fun i => ∃ k : Nat, k ≤ ns.length ∧ i = .int .i64 k ∧ ∀ j (hj : j < ns.length), j < k → (s.toList == ns[j].toList) = false) (fun i => (ns.length - intOf i).toNat)
  case atStart => exact ⟨0, by omega, rfl, fun j _ h => absurd h (by omega)⟩
  case round =>
    obtain ⟨k, hk, rfl, hno⟩ := hrel
    have HNO := Lib.hid hno
    clear hno
    by_cases hlt : k < ns.length
    · have hlt' : (k : Int) < (ns.length : Int) := by omega
      have hne : ns ≠ [] := by intro h; rw [h] at hlt; simp at hlt
      obtain ⟨g, off, cap', hv, hcells⟩ := HN.out.cells hne
      simp only [Value.slice.injEq] at hv
      obtain ⟨rfl, -, rfl⟩ := hv
      obtain ⟨-, c0⟩ := hcells k hlt
      clear hcells hne
      cases hq : (s.toList == ns[k].toList) with
      | true =>
        have HQ := Lib.hid hq
        obtain ⟨m, hm⟩ : ∃ m, Hid (ns[k] = m) := ⟨_, Lib.hid rfl⟩
        rw [hm.out] at hq c0
        go_wp2_with fail
        go_ret
        refine ⟨ret_i ?_, rfl⟩
        unfold atI
        rw [at_some hlt HQ.out (fun j hj => HNO.out j (by omega) hj)]
      | false =>
        have HQ := Lib.hid hq
        obtain ⟨m, hm⟩ : ∃ m, Hid (ns[k] = m) := ⟨_, Lib.hid rfl⟩
        rw [hm.out] at hq c0
        go_wp2_with fail
        go_round
        case rel =>
          refine ⟨k + 1, by omega, by go_num, fun j hj hjk => ?_⟩
          rcases Nat.lt_or_ge j k with h | h
          · exact HNO.out j hj h
          · obtain rfl : j = k := by omega
            exact HQ.out
        case measure => simp [intOf]; omega
    · have hlt' : ¬ (k : Int) < (ns.length : Int) := by omega
      go_wp2_with fail
      go_ret
      refine ⟨ret_i ?_, rfl⟩
      unfold atI
      rw [at_none (fun j hj => HNO.out j hj (by omega))]
end Go.Proofs.Ytghlmengcidmdaa.Tr
end
end
