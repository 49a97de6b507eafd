/- What the Go functions lex.number and lex.Name compute. Conditions: the text's bytes are digits (number); it has at most 2^63 - 1 bytes. -/
import Derived.Test.YtbaffdehhcfffaaLexWord
namespace Go.Proofs.Ytbaffdehhcfffaa.Lx
open Go.RowKit
def maxI : Nat := 9223372036854775807
def numB (l : List UInt8) : Bool := decide (value l ≤ 9223372036854775807)
def numV (l : List UInt8) : Nat := if value l ≤ 9223372036854775807 then value l else 0
theorem digitsFrom_ge (l : List UInt8) : ∀ n, n ≤ digitsFrom n l := by
  induction l with
  | nil => intro n; exact Nat.le_refl _
  | cons c r ih =>
    intro n
    have := ih (n * 10 + (c.toNat - 48))
    show n ≤ digitsFrom (n * 10 + (c.toNat - 48)) r
    omega
theorem digitsFrom_append (l r : List UInt8) (n : Nat) : digitsFrom n (l ++ r) = digitsFrom (digitsFrom n l) r := List.foldl_append
theorem value_take_le (l : List UInt8) (k : Nat) : value (l.take k) ≤ value l := by
  have h := digitsFrom_append (l.take k) (l.drop k) 0
  rw [List.take_append_drop] at h
  unfold value
  rw [h]
  exact digitsFrom_ge _ _
theorem value_step (s : ByteArray) (k : Nat) (h : k < s.size) : value ((bl s).take (k + 1)) = value ((bl s).take k) * 10 + (s[k].toNat - 48) := by
  have e : (bl s).take (k + 1) = (bl s).take k ++ [s[k]] := by
    rw [List.take_succ_eq_append_getElem (by rw [bl_len]; exact h)]
    rfl
  rw [e]
  unfold value
  rw [digitsFrom_append]
  rfl
theorem digit_bd {c : UInt8} (h : digit c = true) : 48 ≤ c.toNat ∧ c.toNat ≤ 57 := by
  simpa [digit] using h
set_option maxHeartbeats 400000 in
theorem number_any (s : ByteArray) (w : World) (hd : ∀ c ∈ bl s, digit c = true) (hs : s.size ≤ 9223372036854775807) :
    Calls Try.prog 32 #[.string s] w fun e w' => e = .returned (.tuple #[.int .i64 (numV (bl s) : Nat), .bool (numB (bl s))]) ∧ w = w' := by
  have HD := Lib.hid hd
  clear hd
  go_enter Try.func32, Try.ntmps32
  go_wp2_with fail
  go_loop [4, 5] (fun n i => ∃ k v : Nat, k ≤ s.size ∧ i = .int .i64 k ∧ n = .int .i64 v ∧ v = value ((bl s).take k) ∧ v ≤ 9223372036854775807) (fun _ i => (s.size - intOf i).toNat)
  case atStart => exact ⟨0, 0, by omega, rfl, rfl, rfl, by omega⟩
  case round =>
    obtain ⟨k, v, hk, rfl, rfl, hv, hv2⟩ := hrel
    have HV := Lib.hid hv
    clear hv
    by_cases hlt : k < s.size
    · have hl : (k : Int) < (s.size : Int) := by omega
      have hdg := digit_bd (HD.out s[k] (by have h1 := bl_drop s k hlt; exact List.mem_of_mem_drop (i := k) (by rw [h1]; simp)))
      have h1 : 48 ≤ (s[k].toNat : Int) := by omega
      have h2 : (s[k].toNat : Int) ≤ 57 := by omega
      have HS := Lib.hid (value_step s k hlt)
      clear hdg
      by_cases hov : v * 10 + (s[k].toNat - 48) ≤ 9223372036854775807
      · have ht : ¬ ((9223372036854775807 - ((s[k].toNat : Int) - 48)) / 10 < (v : Int)) := by omega
        have hb : (v : Int) * 10 + ((s[k].toNat : Int) - 48) ≤ 9223372036854775807 := by omega
        have HO := Lib.hid hov
        clear hov
        go_wp2
        go_round
        case rel => exact ⟨k + 1, v * 10 + (s[k].toNat - 48), by omega, by go_num, by congr 1; omega, by rw [HS.out, HV.out], HO.out⟩
        case measure => simp [intOf]; omega
      · have ht : (9223372036854775807 - ((s[k].toNat : Int) - 48)) / 10 < (v : Int) := by omega
        have hbig : ¬ value (bl s) ≤ 9223372036854775807 := by
          have := value_take_le (bl s) (k + 1)
          rw [HS.out, ← HV.out] at this
          omega
        have hB : numB (bl s) = false := by simp [numB]; omega
        have hV : numV (bl s) = 0 := by simp [numV]; omega
        clear hbig hov
        have KB := Lib.hid hB
        have KV := Lib.hid hV
        clear hB hV
        go_wp2
        go_ret2
        exact ⟨by rw [KB.out, KV.out]; rfl, rfl⟩
    · have hl : ¬ (k : Int) < (s.size : Int) := by omega
      have he : value (bl s) = v := by rw [HV.out, List.take_of_length_le (by rw [bl_len]; omega)]
      have hB : numB (bl s) = true := by simp [numB]; omega
      have hV : numV (bl s) = v := by unfold numV; rw [if_pos (by omega), he]
      clear he
      have KB := Lib.hid hB
      have KV := Lib.hid hV
      clear hB hV
      go_wp2
      go_ret2
      exact ⟨by rw [KB.out, KV.out]; rfl, rfl⟩
theorem all_run (p : UInt8 → Bool) (l : List UInt8) : runLen p l = l.length ↔ l.all p = true := by
  induction l with
  | nil => simp [runLen]
  | cons c r ih =>
    cases h : p c with
    | true => rw [runLen_cons_yes _ h]; simp [h, ih]
    | false => rw [runLen_cons_no _ h]; simp [h]
theorem isName_cons (s : ByteArray) (h : 0 < s.size) : isName (bl s) = (small s[0] && decide (s.size ≤ 8) && (bl s).all alnum && !isWord (bl s)) := by
  have e := bl_drop s 0 h
  rw [List.drop_zero] at e
  have hl := bl_len s
  generalize hr : (bl s).drop (0 + 1) = r at e
  show (match bl s with | [] => false | c :: _ => small c && decide ((bl s).length ≤ 8) && (bl s).all alnum && !isWord (bl s)) = _
  rw [hl]
  generalize (bl s).all alnum = x
  generalize isWord (bl s) = y
  rw [e]
theorem name_any (s : ByteArray) (w : World) (hs : s.size ≤ 9223372036854775807) :
    Calls Try.prog 21 #[.string s] w fun e w' => e = .returned (.bool (isName (bl s))) ∧ w = w' := by
  have HR := Lib.hid fun w => run_any s 0 w (by omega) hs
  by_cases h0 : s.size < 1
  · have hz : bl s = [] := List.eq_nil_of_length_eq_zero (by rw [bl_len]; omega)
    rw [show isName (bl s) = false from by rw [hz]; rfl]
    have h0' : (s.size : Int) < 1 := by omega
    clear hz
    go_enter Try.func21, Try.ntmps21
    go_wp2_with (first | (go_at_call 28; refine (letter_any _ _).mono ?_; rintro e w' ⟨rfl, rfl⟩) | (go_at_call 31; refine (HR.out _).mono ?_; rintro e w' ⟨rfl, rfl⟩) | (go_at_call 22; refine (word_any _ _).mono ?_; rintro e w' ⟨rfl, rfl⟩))
    go_ret
    exact ⟨rfl, rfl⟩
  · have h0' : ¬ (s.size : Int) < 1 := by omega
    have hp : 0 < s.size := by omega
    rw [isName_cons s hp]
    by_cases h8 : 8 < s.size
    · rw [show decide (s.size ≤ 8) = false from by simp; omega, Bool.and_false, Bool.false_and, Bool.false_and]
      have h8' : 8 < (s.size : Int) := by omega
      go_enter Try.func21, Try.ntmps21
      go_wp2_with (first | (go_at_call 28; refine (letter_any _ _).mono ?_; rintro e w' ⟨rfl, rfl⟩) | (go_at_call 31; refine (HR.out _).mono ?_; rintro e w' ⟨rfl, rfl⟩) | (go_at_call 22; refine (word_any _ _).mono ?_; rintro e w' ⟨rfl, rfl⟩))
      go_ret
      exact ⟨rfl, rfl⟩
    · have h8' : ¬ 8 < (s.size : Int) := by omega
      rw [show decide (s.size ≤ 8) = true from by simp; omega, Bool.and_true]
      cases hsm : small s[0] with
      | false =>
        rw [Bool.false_and, Bool.false_and]
        go_enter Try.func21, Try.ntmps21
        go_wp2_with (first | (go_at_call 28; refine (letter_any _ _).mono ?_; rintro e w' ⟨rfl, rfl⟩) | (go_at_call 31; refine (HR.out _).mono ?_; rintro e w' ⟨rfl, rfl⟩) | (go_at_call 22; refine (word_any _ _).mono ?_; rintro e w' ⟨rfl, rfl⟩))
        go_ret
        exact ⟨rfl, rfl⟩
      | true =>
        rw [Bool.true_and]
        have hr : endAt alnum s 0 = runLen alnum (bl s) := by unfold endAt; rw [List.drop_zero]; omega
        have hall := all_run alnum (bl s)
        rw [← hr, bl_len] at hall
        cases hal : (bl s).all alnum with
        | false =>
          rw [Bool.false_and]
          have hne : ((endAt alnum s 0 : Int) == (s.size : Int)) = false := by
            have : ¬ endAt alnum s 0 = s.size := by rw [hall, hal]; simp
            simp; omega
          clear hall hr
          go_enter Try.func21, Try.ntmps21
          go_wp2_with (first | (go_at_call 28; refine (letter_any _ _).mono ?_; rintro e w' ⟨rfl, rfl⟩) | (go_at_call 31; refine (HR.out _).mono ?_; rintro e w' ⟨rfl, rfl⟩) | (go_at_call 22; refine (word_any _ _).mono ?_; rintro e w' ⟨rfl, rfl⟩))
          go_ret
          exact ⟨rfl, rfl⟩
        | true =>
          rw [Bool.true_and]
          have hne : ((endAt alnum s 0 : Int) == (s.size : Int)) = true := by
            have : endAt alnum s 0 = s.size := by rw [hall, hal]
            simp; omega
          clear hall hr
          go_enter Try.func21, Try.ntmps21
          go_wp2_with (first | (go_at_call 28; refine (letter_any _ _).mono ?_; rintro e w' ⟨rfl, rfl⟩) | (go_at_call 31; refine (HR.out _).mono ?_; rintro e w' ⟨rfl, rfl⟩) | (go_at_call 22; refine (word_any _ _).mono ?_; rintro e w' ⟨rfl, rfl⟩))
          go_ret
          exact ⟨rfl, rfl⟩
end Go.Proofs.Ytbaffdehhcfffaa.Lx
