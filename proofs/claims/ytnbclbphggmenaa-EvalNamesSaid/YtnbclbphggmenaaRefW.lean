/- What the Go functions small, digit, blank, Words, Word, from, Worth, sign of the reference compute. Conditions: texts have at most 2^63 - 1 bytes; Worth: digits, no 0 ahead of others. -/
import Derived.Test.YtnbclbphggmenaaLexWord
import Derived.Below
import Derived.Deep.QuietTactic
import Derived.BigQuiet
namespace Go.Proofs.Ytnbclbphggmenaa.Lx
open Go.RowKit
theorem rsmall_any (c : UInt8) (w : World) : Calls Try.prog 106 #[.int .u8 (c.toNat : Int)] w fun e w' => e = .returned (.bool (small c)) ∧ w = w' := by
  by_cases h1 : 97 ≤ c.toNat
  · by_cases h2 : c.toNat ≤ 122
    · rw [show small c = true from by simp [small, h1, h2]]
      have h3 : decide ((c.toNat : Int) ≤ 122) = true := by simp; omega
      go_enter Try.func106, Try.ntmps106
      go_wp2
      go_ret
      exact ⟨rfl, rfl⟩
    · rw [show small c = false from by simp [small]; omega]
      have h3 : decide ((c.toNat : Int) ≤ 122) = false := by simp; omega
      go_enter Try.func106, Try.ntmps106
      go_wp2
      go_ret
      exact ⟨rfl, rfl⟩
  · rw [show small c = false from by simp [small]; omega]
    have h3 : decide (97 ≤ (c.toNat : Int)) = false := by simp; omega
    go_enter Try.func106, Try.ntmps106
    go_wp2
    go_ret
    exact ⟨rfl, rfl⟩
theorem rdigit_any (c : UInt8) (w : World) : Calls Try.prog 107 #[.int .u8 (c.toNat : Int)] w fun e w' => e = .returned (.bool (digit c)) ∧ w = w' := by
  by_cases h1 : 48 ≤ c.toNat
  · by_cases h2 : c.toNat ≤ 57
    · rw [show digit c = true from by simp [digit, h1, h2]]
      have h3 : decide ((c.toNat : Int) ≤ 57) = true := by simp; omega
      go_enter Try.func107, Try.ntmps107
      go_wp2
      go_ret
      exact ⟨rfl, rfl⟩
    · rw [show digit c = false from by simp [digit]; omega]
      have h3 : decide ((c.toNat : Int) ≤ 57) = false := by simp; omega
      go_enter Try.func107, Try.ntmps107
      go_wp2
      go_ret
      exact ⟨rfl, rfl⟩
  · rw [show digit c = false from by simp [digit]; omega]
    have h3 : decide (48 ≤ (c.toNat : Int)) = false := by simp; omega
    go_enter Try.func107, Try.ntmps107
    go_wp2
    go_ret
    exact ⟨rfl, rfl⟩
def wordAt (k : Nat) : ByteArray := ⟨(words.getD k []).toArray⟩
def wordArr : Array Value := ((List.range 13).map fun k => Value.string (wordAt k)).toArray
theorem wordArr_get (k : Nat) (h : k < 13) : wordArr[k]? = some (.string (wordAt k)) := by
  unfold wordArr; simp [h]
theorem words_any (w : World) : Calls Try.prog 127 #[] w fun e w' => e = .returned (.slice (some ⟨w.heap.size, 0, none⟩) 13 13) ∧ w' = w.alloc (.cells wordArr 9) := by
  go_enter Try.func127, Try.ntmps127
  go_wp2
  go_ret
  exact ⟨rfl, rfl⟩
theorem wordAt_bl (k : Nat) : (wordAt k).toList = words.getD k [] := by unfold wordAt; exact ByteArray.toList_mk _
theorem word_before (t : List UInt8) (h : ∀ i, i < 13 → words.getD i [] ≠ t) : isWord t = false := by
  have h0 := h 0 (by decide); have h1 := h 1 (by decide); have h2 := h 2 (by decide); have h3 := h 3 (by decide); have h4 := h 4 (by decide)
  have h5 := h 5 (by decide); have h6 := h 6 (by decide); have h7 := h 7 (by decide); have h8 := h 8 (by decide); have h9 := h 9 (by decide)
  have h10 := h 10 (by decide); have h11 := h 11 (by decide); have h12 := h 12 (by decide)
  simp only [words, List.getD_cons_zero, List.getD_cons_succ, ne_eq] at h0 h1 h2 h3 h4 h5 h6 h7 h8 h9 h10 h11 h12
  simp [isWord, words, Ne.symm h0, Ne.symm h1, Ne.symm h2, Ne.symm h3, Ne.symm h4, Ne.symm h5, Ne.symm h6, Ne.symm h7, Ne.symm h8, Ne.symm h9, Ne.symm h10, Ne.symm h11, Ne.symm h12]
theorem word_found (t : List UInt8) (i : Nat) (hi : i < 13) (h : words.getD i [] = t) : isWord t = true := by
  rw [← h]
  have hl : i < words.length := hi
  rw [show words.getD i [] = words[i] from by simp [hl]]
  exact List.contains_iff_mem.2 (List.getElem_mem hl)
set_option maxHeartbeats 400000 in
theorem rword_any (s : ByteArray) (w : World) : Calls Try.prog 108 #[.string s] w fun e w' => e = .returned (.bool (isWord (bl s))) ∧ Below w.heap.size w w' := by
  go_enter Try.func108, Try.ntmps108
  go_wp2_with (go_at_call 127; refine (words_any _).mono ?_; rintro e w' ⟨rfl, rfl⟩)
  go_loop [7] (fun v => ∃ k : Nat, k ≤ 13 ∧ v = .int .i64 k ∧ ∀ i, i < k → words.getD i [] ≠ bl s) (fun v => (13 - intOf v).toNat)
  case atStart => exact ⟨0, by omega, rfl, fun i h => by omega⟩
  case round =>
    obtain ⟨k, hk, rfl, hno⟩ := hrel
    have HNO := Lib.hid hno
    clear hno
    by_cases hlt : k < 13
    · have hlt' : (k : Int) < 13 := by omega
      have hg := wordArr_get k hlt
      by_cases hw : words.getD k [] = bl s
      · have ht : ((wordAt k).toList == s.toList) = true := by rw [wordAt_bl, toList_bl, hw]; simp
        have HR := Lib.hid (word_found (bl s) k hlt hw)
        clear hw
        go_wp2_with fail
        go_ret
        exact ⟨by rw [HR.out]; rfl, (Below.refl _ _).alloc (Nat.le_refl _) _⟩
      · have ht : ((wordAt k).toList == s.toList) = false := by rw [wordAt_bl, toList_bl]; simpa using hw
        have HW := Lib.hid hw
        clear hw
        go_wp2_with fail
        go_round
        case rel => exact ⟨k + 1, by omega, by go_num, fun i hi => by
          by_cases e : i = k
          · subst e; exact HW.out
          · exact HNO.out i (by omega)⟩
        case measure => simp [intOf]; omega
    · have hlt' : ¬ (k : Int) < 13 := by omega
      have HR := Lib.hid (word_before (bl s) (fun i hi => HNO.out i (by omega)))
      go_wp2_with fail
      go_ret
      exact ⟨by rw [HR.out]; rfl, (Below.refl _ _).alloc (Nat.le_refl _) _⟩
end Go.Proofs.Ytnbclbphggmenaa.Lx
