/- What the Go functions small, digit, blank, Words, Word, from, Worth, sign of the reference compute. Conditions: texts have at most 2^63 - 1 bytes; Worth: digits, no 0 ahead of others. -/
import Derived.Test.YtbaffdehhcfffaaLexNum
import Derived.Test.YtbaffdehhcfffaaLexSign
import Derived.Below
import Derived.Deep.QuietTactic
import Derived.BigQuiet
namespace Go.Proofs.Ytbaffdehhcfffaa.Lx
open Go.RowKit
theorem rsmall_any (c : UInt8) (w : World) : Calls Try.prog 36 #[.int .u8 (c.toNat : Int)] w fun e w' => e = .returned (.bool (small c)) ∧ w = w' := by
  by_cases h1 : 97 ≤ c.toNat
  · by_cases h2 : c.toNat ≤ 122
    · rw [show small c = true from by simp [small, h1, h2]]
      have h3 : decide ((c.toNat : Int) ≤ 122) = true := by simp; omega
      go_enter Try.func36, Try.ntmps36
      go_wp2
      go_ret
      exact ⟨rfl, rfl⟩
    · rw [show small c = false from by simp [small]; omega]
      have h3 : decide ((c.toNat : Int) ≤ 122) = false := by simp; omega
      go_enter Try.func36, Try.ntmps36
      go_wp2
      go_ret
      exact ⟨rfl, rfl⟩
  · rw [show small c = false from by simp [small]; omega]
    have h3 : decide (97 ≤ (c.toNat : Int)) = false := by simp; omega
    go_enter Try.func36, Try.ntmps36
    go_wp2
    go_ret
    exact ⟨rfl, rfl⟩
theorem rdigit_any (c : UInt8) (w : World) : Calls Try.prog 39 #[.int .u8 (c.toNat : Int)] w fun e w' => e = .returned (.bool (digit c)) ∧ w = w' := by
  by_cases h1 : 48 ≤ c.toNat
  · by_cases h2 : c.toNat ≤ 57
    · rw [show digit c = true from by simp [digit, h1, h2]]
      have h3 : decide ((c.toNat : Int) ≤ 57) = true := by simp; omega
      go_enter Try.func39, Try.ntmps39
      go_wp2
      go_ret
      exact ⟨rfl, rfl⟩
    · rw [show digit c = false from by simp [digit]; omega]
      have h3 : decide ((c.toNat : Int) ≤ 57) = false := by simp; omega
      go_enter Try.func39, Try.ntmps39
      go_wp2
      go_ret
      exact ⟨rfl, rfl⟩
  · rw [show digit c = false from by simp [digit]; omega]
    have h3 : decide (48 ≤ (c.toNat : Int)) = false := by simp; omega
    go_enter Try.func39, Try.ntmps39
    go_wp2
    go_ret
    exact ⟨rfl, rfl⟩
theorem rblank_any (c : UInt8) (w : World) : Calls Try.prog 33 #[.int .u8 (c.toNat : Int)] w fun e w' => e = .returned (.bool (blank c)) ∧ w = w' := by
  by_cases b0 : c.toNat = 32
  · rw [show blank c = true from by simp [blank, b0]]
    have t0 : ((c.toNat : Int) == 32) = true := by simp; omega
    clear b0
    go_enter Try.func33, Try.ntmps33
    go_wp2
    go_ret
    exact ⟨rfl, rfl⟩
  by_cases b1 : c.toNat = 9
  · rw [show blank c = true from by simp [blank, b1]]
    have t0 : ((c.toNat : Int) == 32) = false := by simp; omega
    have t1 : ((c.toNat : Int) == 9) = true := by simp; omega
    clear b0 b1
    go_enter Try.func33, Try.ntmps33
    go_wp2
    go_ret
    exact ⟨rfl, rfl⟩
  by_cases b2 : c.toNat = 10
  · rw [show blank c = true from by simp [blank, b2]]
    have t0 : ((c.toNat : Int) == 32) = false := by simp; omega
    have t1 : ((c.toNat : Int) == 9) = false := by simp; omega
    have t2 : ((c.toNat : Int) == 10) = true := by simp; omega
    clear b0 b1 b2
    go_enter Try.func33, Try.ntmps33
    go_wp2
    go_ret
    exact ⟨rfl, rfl⟩
  by_cases b3 : c.toNat = 13
  · rw [show blank c = true from by simp [blank, b3]]
    have t0 : ((c.toNat : Int) == 32) = false := by simp; omega
    have t1 : ((c.toNat : Int) == 9) = false := by simp; omega
    have t2 : ((c.toNat : Int) == 10) = false := by simp; omega
    have t3 : ((c.toNat : Int) == 13) = true := by simp; omega
    clear b0 b1 b2 b3
    go_enter Try.func33, Try.ntmps33
    go_wp2
    go_ret
    exact ⟨rfl, rfl⟩
  rw [show blank c = false from by simp [blank, b0, b1, b2, b3]]
  have t0 : ((c.toNat : Int) == 32) = false := by simp; omega
  have t1 : ((c.toNat : Int) == 9) = false := by simp; omega
  have t2 : ((c.toNat : Int) == 10) = false := by simp; omega
  have t3 : ((c.toNat : Int) == 13) = false := by simp; omega
  clear b0 b1 b2 b3
  go_enter Try.func33, Try.ntmps33
  go_wp2
  go_ret
  exact ⟨rfl, rfl⟩
def wordAt (k : Nat) : ByteArray := ⟨(words.getD k []).toArray⟩
def wordArr : Array Value := ((List.range 13).map fun k => Value.string (wordAt k)).toArray
theorem wordArr_get (k : Nat) (h : k < 13) : wordArr[k]? = some (.string (wordAt k)) := by
  unfold wordArr; simp [h]
theorem words_any (w : World) : Calls Try.prog 42 #[] w fun e w' => e = .returned (.slice (some ⟨w.heap.size, 0, none⟩) 13 13) ∧ w' = w.alloc (.cells wordArr 9) := by
  go_enter Try.func42, Try.ntmps42
  go_wp2
  go_ret
  exact ⟨rfl, rfl⟩
theorem wordAt_bl (k : Nat) : (wordAt k).toList = words.getD k [] := by unfold wordAt; exact ByteArray.toList_mk _
theorem word_before (t : List UInt8) (h : ∀ i, i < 13 → words.getD i [] ≠ t) : isWord t = false := by
  have h0 := h 0 (by decide); have h1 := h 1 (by decide); have h2 := h 2 (by decide); have h3 := h 3 (by decide); have h4 := h 4 (by decide)
  have h5 := h 5 (by decide); have h6 := h 6 (by decide); have h7 := h 7 (by decide); have h8 := h 8 (by decide); have h9 := h 9 (by decide)
  have h10 := h 10 (by decide); have h11 := h 11 (by decide); have h12 := h 12 (by decide)
  simp only [words, List.getD_cons_zero, List.getD_cons_succ, ne_eq] at h0 h1 h2 h3 h4 h5 h6 h7 h8 h9 h10 h11 h12
  simp [isWord, words, Ne.symm h0, Ne.symm h1, Ne.symm h2, Ne.symm h3, Ne.symm h4, Ne.symm h5, Ne.symm h6, Ne.symm h7, Ne.symm h8, Ne.symm h9, Ne.symm h10, Ne.symm h11, Ne.symm h12]
theorem word_found (t : List UInt8) (i : Nat) (hi : i < 13) (h : words.getD i [] = t) : isWord t = true := by
  rw [← h]
  have hl : i < words.length := hi
  rw [show words.getD i [] = words[i] from by simp [hl]]
  exact List.contains_iff_mem.2 (List.getElem_mem hl)
set_option maxHeartbeats 400000 in
theorem rword_any (s : ByteArray) (w : World) : Calls Try.prog 38 #[.string s] w fun e w' => e = .returned (.bool (isWord (bl s))) ∧ Below w.heap.size w w' := by
  go_enter Try.func38, Try.ntmps38
  go_wp2_with (go_at_call 42; refine (words_any _).mono ?_; rintro e w' ⟨rfl, rfl⟩)
  go_loop [7] (fun v => ∃ k : Nat, k ≤ 13 ∧ v = .int .i64 k ∧ ∀ i, i < k → words.getD i [] ≠ bl s) (fun v => (13 - intOf v).toNat)
  case atStart => exact ⟨0, by omega, rfl, fun i h => by omega⟩
  case round =>
    obtain ⟨k, hk, rfl, hno⟩ := hrel
    have HNO := Lib.hid hno
    clear hno
    by_cases hlt : k < 13
    · have hlt' : (k : Int) < 13 := by omega
      have hg := wordArr_get k hlt
      by_cases hw : words.getD k [] = bl s
      · have ht : ((wordAt k).toList == s.toList) = true := by rw [wordAt_bl, toList_bl, hw]; simp
        have HR := Lib.hid (word_found (bl s) k hlt hw)
        clear hw
        go_wp2_with fail
        go_ret
        exact ⟨by rw [HR.out]; rfl, (Below.refl _ _).alloc (Nat.le_refl _) _⟩
      · have ht : ((wordAt k).toList == s.toList) = false := by rw [wordAt_bl, toList_bl]; simpa using hw
        have HW := Lib.hid hw
        clear hw
        go_wp2_with fail
        go_round
        case rel => exact ⟨k + 1, by omega, by go_num, fun i hi => by
          by_cases e : i = k
          · subst e; exact HW.out
          · exact HNO.out i (by omega)⟩
        case measure => simp [intOf]; omega
    · have hlt' : ¬ (k : Int) < 13 := by omega
      have HR := Lib.hid (word_before (bl s) (fun i hi => HNO.out i (by omega)))
      go_wp2_with fail
      go_ret
      exact ⟨by rw [HR.out]; rfl, (Below.refl _ _).alloc (Nat.le_refl _) _⟩
theorem from_true (s : ByteArray) (w : World) (hs : s.size ≤ 9223372036854775807) :
    Calls Try.prog 37 #[.string s, .bool true] w fun e w' => e = .returned (.int .i64 (endAt alnum s 0 : Nat)) ∧ w = w' := by
  go_enter Try.func37, Try.ntmps37
  go_wp2_with fail
  go_loop [5] (fun v => ∃ k : Nat, k ≤ s.size ∧ v = .int .i64 k ∧ endAt alnum s k = endAt alnum s 0) (fun v => (s.size - intOf v).toNat)
  case atStart => exact ⟨0, by omega, rfl, rfl⟩
  case round =>
    obtain ⟨k, hk, rfl, he⟩ := hrel
    have HE := Lib.hid he
    clear he
    by_cases hlt : k < s.size
    · have hl : (k : Int) < (s.size : Int) := by omega
      cases hdg : digit s[k] with
      | true =>
        have HN := Lib.hid (endAt_yes (p := alnum) hlt (by simp [alnum, hdg]))
        go_wp2_with (first | (go_at_call 36; refine (rsmall_any _ _).mono ?_; rintro e w' ⟨rfl, rfl⟩) | (go_at_call 39; refine (rdigit_any _ _).mono ?_; rintro e w' ⟨rfl, rfl⟩))
        go_round
        case rel => exact ⟨k + 1, by omega, by go_num, by rw [HN.out, HE.out]⟩
        case measure => simp [intOf]; omega
      | false =>
        cases hsm : small s[k] with
        | true =>
          have HN := Lib.hid (endAt_yes (p := alnum) hlt (by simp [alnum, hsm]))
          go_wp2_with (first | (go_at_call 36; refine (rsmall_any _ _).mono ?_; rintro e w' ⟨rfl, rfl⟩) | (go_at_call 39; refine (rdigit_any _ _).mono ?_; rintro e w' ⟨rfl, rfl⟩))
          go_round
          case rel => exact ⟨k + 1, by omega, by go_num, by rw [HN.out, HE.out]⟩
          case measure => simp [intOf]; omega
        | false =>
          have HN := Lib.hid (endAt_no (p := alnum) hlt (by simp [alnum, hsm, hdg]))
          go_wp2_with (first | (go_at_call 36; refine (rsmall_any _ _).mono ?_; rintro e w' ⟨rfl, rfl⟩) | (go_at_call 39; refine (rdigit_any _ _).mono ?_; rintro e w' ⟨rfl, rfl⟩))
          go_ret
          exact ⟨ret1 (by rw [← HE.out, HN.out]), rfl⟩
    · have HN := Lib.hid (endAt_end (p := alnum) (s := s) (k := k) (by omega))
      have hl : decide ((k : Int) < (s.size : Int)) = false := by simp; omega
      have hl2 : decide (k < s.size) = false := by simp; omega
      go_wp2_with fail
      go_ret
      exact ⟨ret1 (by rw [← HE.out, HN.out]), rfl⟩
theorem from_false (s : ByteArray) (w : World) (hs : s.size ≤ 9223372036854775807) :
    Calls Try.prog 37 #[.string s, .bool false] w fun e w' => e = .returned (.int .i64 (endAt digit s 0 : Nat)) ∧ w = w' := by
  go_enter Try.func37, Try.ntmps37
  go_wp2_with fail
  go_loop [5] (fun v => ∃ k : Nat, k ≤ s.size ∧ v = .int .i64 k ∧ endAt digit s k = endAt digit s 0) (fun v => (s.size - intOf v).toNat)
  case atStart => exact ⟨0, by omega, rfl, rfl⟩
  case round =>
    obtain ⟨k, hk, rfl, he⟩ := hrel
    have HE := Lib.hid he
    clear he
    by_cases hlt : k < s.size
    · have hl : (k : Int) < (s.size : Int) := by omega
      cases hdg : digit s[k] with
      | true =>
        have HN := Lib.hid (endAt_yes (p := digit) hlt hdg)
        go_wp2_with (first | (go_at_call 36; refine (rsmall_any _ _).mono ?_; rintro e w' ⟨rfl, rfl⟩) | (go_at_call 39; refine (rdigit_any _ _).mono ?_; rintro e w' ⟨rfl, rfl⟩))
        go_round
        case rel => exact ⟨k + 1, by omega, by go_num, by rw [HN.out, HE.out]⟩
        case measure => simp [intOf]; omega
      | false =>
        have HN := Lib.hid (endAt_no (p := digit) hlt hdg)
        go_wp2_with (first | (go_at_call 36; refine (rsmall_any _ _).mono ?_; rintro e w' ⟨rfl, rfl⟩) | (go_at_call 39; refine (rdigit_any _ _).mono ?_; rintro e w' ⟨rfl, rfl⟩))
        go_ret
        exact ⟨ret1 (by rw [← HE.out, HN.out]), rfl⟩
    · have HN := Lib.hid (endAt_end (p := digit) (s := s) (k := k) (by omega))
      have hl : decide ((k : Int) < (s.size : Int)) = false := by simp; omega
      have hl2 : decide (k < s.size) = false := by simp; omega
      go_wp2_with fail
      go_ret
      exact ⟨ret1 (by rw [← HE.out, HN.out]), rfl⟩
theorem Wd_ret2 {a c : Int} {b d : Bool} (h : a = c) (k : b = d) : Ending.returned (.tuple #[.int .i64 a, .bool b]) = .returned (.tuple #[.int .i64 c, .bool d]) := by rw [h, k]
theorem i64_left (x : Int) : IntKind.i64.wrap x = wrap64 x := IntWalk.i64_left x
theorem value_lt_pow (s : ByteArray) (hd : ∀ c ∈ bl s, digit c = true) : ∀ k, k ≤ s.size → value ((bl s).take k) < 10 ^ k := by
  intro k
  induction k with
  | zero => intro _; simp [value, digitsFrom]
  | succ k ih =>
    intro h
    have h1 := ih (by omega)
    have hdg := digit_bd (hd s[k] (by have h1 := bl_drop s k (by omega); exact List.mem_of_mem_drop (i := k) (by rw [h1]; simp)))
    rw [value_step s k (by omega), Nat.pow_succ]
    omega
theorem value_big (s : ByteArray) (h0 : 0 < s.size) (hd : digit s[0] = true) (hz : s[0].toNat ≠ 48) : ∀ k, k < s.size → 10 ^ k ≤ value ((bl s).take (k + 1)) := by
  intro k
  induction k with
  | zero =>
    intro h
    have hb := digit_bd hd
    rw [value_step s 0 h]
    simp only [List.take_zero, Nat.pow_zero]
    omega
  | succ k ih =>
    intro h
    have h1 := ih (by omega)
    rw [value_step s (k + 1) h, Nat.pow_succ]
    omega
theorem pow19 : (10 : Nat) ^ 19 = 10000000000000000000 := by decide
def worthN (s : ByteArray) : Int := if 19 < s.size then 0 else IntKind.i64.wrap (value (bl s) : Nat)
set_option maxHeartbeats 400000 in
theorem worth_has (s : ByteArray) (w : World) (hd : ∀ c ∈ bl s, digit c = true) (hz : ∀ h : 1 < s.size, (s[0]'(by omega)).toNat ≠ 48) :
    (numB (bl s) = true → worthN s = (numV (bl s) : Nat)) ∧ Calls Try.prog 40 #[.string s] w fun e w' => e = .returned (.tuple #[.int .i64 (worthN s), .bool (numB (bl s))]) ∧ w = w' := by
  by_cases h19 : 19 < s.size
  · have h19' : (19 : Int) < (s.size : Int) := by omega
    have hb : numB (bl s) = false := by
      have h1 := value_big s (by omega) (hd s[0] (by have h1 := bl_drop s 0 (by omega); rw [List.drop_zero] at h1; rw [h1]; simp)) (hz (by omega)) 19 (by omega)
      have h2 := value_take_le (bl s) (19 + 1)
      rw [pow19] at h1
      simp [numB]
      omega
    rw [hb]
    rw [show worthN s = 0 from if_pos h19]
    refine ⟨(fun h => nomatch h), ?_⟩
    clear hb hd hz
    go_enter Try.func40, Try.ntmps40
    go_wp2_with fail
    go_ret2
    exact ⟨rfl, rfl⟩
  · have h19' : ¬ (19 : Int) < (s.size : Int) := by omega
    have hbig : value (bl s) < 18446744073709551616 := by
      have h1 := value_lt_pow s hd s.size (Nat.le_refl _)
      rw [List.take_of_length_le (by rw [bl_len]; omega)] at h1
      have h2 : (10 : Nat) ^ s.size ≤ 10 ^ 19 := Nat.pow_le_pow_right (by omega) (by omega)
      rw [pow19] at h2
      omega
    rw [show worthN s = IntKind.i64.wrap (value (bl s) : Nat) from if_neg h19]
    refine ⟨?_, ?_⟩
    · intro h
      have hv : value (bl s) ≤ 9223372036854775807 := of_decide_eq_true h
      rw [show numV (bl s) = value (bl s) from if_pos hv, IntKind.wrap_i64]
      omega
    · have HD := Lib.hid hd
      have HB := Lib.hid hbig
      clear hd hz hbig
      go_enter Try.func40, Try.ntmps40
      go_wp2_with fail
      go_loop [4, 5] (fun n i => ∃ k v : Nat, k ≤ s.size ∧ i = .int .i64 k ∧ n = .int .u64 v ∧ v = value ((bl s).take k)) (fun _ i => (s.size - intOf i).toNat)
      case atStart => exact ⟨0, 0, by omega, rfl, rfl, rfl⟩
      case round =>
        obtain ⟨k, v, hk, rfl, rfl, hv⟩ := hrel
        have HV := Lib.hid hv
        clear hv
        by_cases hlt : k < s.size
        · have hl : (k : Int) < (s.size : Int) := by omega
          have hdg := digit_bd (HD.out s[k] (by have h1 := bl_drop s k hlt; exact List.mem_of_mem_drop (i := k) (by rw [h1]; simp)))
          have h1 : 48 ≤ (s[k].toNat : Int) := by omega
          have h2 : (s[k].toNat : Int) ≤ 57 := by omega
          have HS := Lib.hid (value_step s k hlt)
          have hov : v * 10 + (s[k].toNat - 48) < 18446744073709551616 := by
            have := value_take_le (bl s) (k + 1)
            have := HB.out
            rw [HS.out, ← HV.out] at *
            omega
          have hb1 : (v : Int) * 10 + ((s[k].toNat : Int) - 48) < 18446744073709551616 := by omega
          have hb2 : (v : Int) * 10 < 18446744073709551616 := by omega
          clear hdg hov
          go_wp2
          go_round
          case rel => exact ⟨k + 1, v * 10 + (s[k].toNat - 48), by omega, by go_num, by congr 1; omega, by rw [HS.out, HV.out]⟩
          case measure => simp [intOf]; omega
        · have hl : ¬ (k : Int) < (s.size : Int) := by omega
          have he : value (bl s) = v := by rw [HV.out, List.take_of_length_le (by rw [bl_len]; omega)]
          have HE := Lib.hid he
          clear he
          by_cases hm : v ≤ 9223372036854775807
          · have hB : numB (bl s) = true := by have := HE.out; simp [numB]; omega
            have KB := Lib.hid hB
            have hm' : (v : Int) ≤ 9223372036854775807 := by omega
            clear hB hm
            go_wp2
            go_ret2
            exact ⟨by rw [KB.out, HE.out]; simp only [IntKind.wrap_i64]; exact Wd_ret2 (by omega) rfl, rfl⟩
          · have hB : numB (bl s) = false := by have := HE.out; simp [numB]; omega
            have KB := Lib.hid hB
            have hm' : ¬ (v : Int) ≤ 9223372036854775807 := by omega
            clear hB hm
            go_wp2
            go_ret2
            exact ⟨by rw [KB.out, HE.out, i64_left]; rfl, rfl⟩
end Go.Proofs.Ytbaffdehhcfffaa.Lx
