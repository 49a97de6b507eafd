/- What lex.Name and the reference's Name compute: is a text a name? Conditions: it has at most 2^63 - 1 bytes. -/
import Derived.Test.YtnbclbphggmenaaRefW
namespace Go.Proofs.Ytnbclbphggmenaa.Lx
open Go.RowKit
theorem all_run (p : UInt8 → Bool) (l : List UInt8) : runLen p l = l.length ↔ l.all p = true := by
  induction l with
  | nil => simp [runLen]
  | cons c r ih =>
    cases h : p c with
    | true => rw [runLen_cons_yes _ h]; simp [h, ih]
    | false => rw [runLen_cons_no _ h]; simp [h]
theorem isName_cons (s : ByteArray) (h : 0 < s.size) : isName (bl s) = (small s[0] && decide (s.size ≤ 8) && (bl s).all alnum && !isWord (bl s)) := by
  have e := bl_drop s 0 h
  rw [List.drop_zero] at e
  have hl := bl_len s
  generalize hr : (bl s).drop (0 + 1) = r at e
  show (match bl s with | [] => false | c :: _ => small c && decide ((bl s).length ≤ 8) && (bl s).all alnum && !isWord (bl s)) = _
  rw [hl]
  generalize (bl s).all alnum = x
  generalize isWord (bl s) = y
  rw [e]
theorem name_any (s : ByteArray) (w : World) (hs : s.size ≤ 9223372036854775807) :
    Calls Try.prog 69 #[.string s] w fun e w' => e = .returned (.bool (isName (bl s))) ∧ w = w' := by
  have HR := Lib.hid fun w => run_any s 0 w (by omega) hs
  by_cases h0 : s.size < 1
  · have hz : bl s = [] := List.eq_nil_of_length_eq_zero (by rw [bl_len]; omega)
    rw [show isName (bl s) = false from by rw [hz]; rfl]
    have h0' : (s.size : Int) < 1 := by omega
    clear hz
    go_enter Try.func69, Try.ntmps69
    go_wp2_with (first | (go_at_call 102; refine (letter_any _ _).mono ?_; rintro e w' ⟨rfl, rfl⟩) | (go_at_call 103; refine (HR.out _).mono ?_; rintro e w' ⟨rfl, rfl⟩) | (go_at_call 104; refine (word_any _ _).mono ?_; rintro e w' ⟨rfl, rfl⟩))
    go_ret
    exact ⟨rfl, rfl⟩
  · have h0' : ¬ (s.size : Int) < 1 := by omega
    have hp : 0 < s.size := by omega
    rw [isName_cons s hp]
    by_cases h8 : 8 < s.size
    · rw [show decide (s.size ≤ 8) = false from by simp; omega, Bool.and_false, Bool.false_and, Bool.false_and]
      have h8' : 8 < (s.size : Int) := by omega
      go_enter Try.func69, Try.ntmps69
      go_wp2_with (first | (go_at_call 102; refine (letter_any _ _).mono ?_; rintro e w' ⟨rfl, rfl⟩) | (go_at_call 103; refine (HR.out _).mono ?_; rintro e w' ⟨rfl, rfl⟩) | (go_at_call 104; refine (word_any _ _).mono ?_; rintro e w' ⟨rfl, rfl⟩))
      go_ret
      exact ⟨rfl, rfl⟩
    · have h8' : ¬ 8 < (s.size : Int) := by omega
      rw [show decide (s.size ≤ 8) = true from by simp; omega, Bool.and_true]
      cases hsm : small s[0] with
      | false =>
        rw [Bool.false_and, Bool.false_and]
        go_enter Try.func69, Try.ntmps69
        go_wp2_with (first | (go_at_call 102; refine (letter_any _ _).mono ?_; rintro e w' ⟨rfl, rfl⟩) | (go_at_call 103; refine (HR.out _).mono ?_; rintro e w' ⟨rfl, rfl⟩) | (go_at_call 104; refine (word_any _ _).mono ?_; rintro e w' ⟨rfl, rfl⟩))
        go_ret
        exact ⟨rfl, rfl⟩
      | true =>
        rw [Bool.true_and]
        have hr : endAt alnum s 0 = runLen alnum (bl s) := by unfold endAt; rw [List.drop_zero]; omega
        have hall := all_run alnum (bl s)
        rw [← hr, bl_len] at hall
        cases hal : (bl s).all alnum with
        | false =>
          rw [Bool.false_and]
          have hne : ((endAt alnum s 0 : Int) == (s.size : Int)) = false := by
            have : ¬ endAt alnum s 0 = s.size := by rw [hall, hal]; simp
            simp; omega
          clear hall hr
          go_enter Try.func69, Try.ntmps69
          go_wp2_with (first | (go_at_call 102; refine (letter_any _ _).mono ?_; rintro e w' ⟨rfl, rfl⟩) | (go_at_call 103; refine (HR.out _).mono ?_; rintro e w' ⟨rfl, rfl⟩) | (go_at_call 104; refine (word_any _ _).mono ?_; rintro e w' ⟨rfl, rfl⟩))
          go_ret
          exact ⟨rfl, rfl⟩
        | true =>
          rw [Bool.true_and]
          have hne : ((endAt alnum s 0 : Int) == (s.size : Int)) = true := by
            have : endAt alnum s 0 = s.size := by rw [hall, hal]
            simp; omega
          clear hall hr
          go_enter Try.func69, Try.ntmps69
          go_wp2_with (first | (go_at_call 102; refine (letter_any _ _).mono ?_; rintro e w' ⟨rfl, rfl⟩) | (go_at_call 103; refine (HR.out _).mono ?_; rintro e w' ⟨rfl, rfl⟩) | (go_at_call 104; refine (word_any _ _).mono ?_; rintro e w' ⟨rfl, rfl⟩))
          go_ret
          exact ⟨rfl, rfl⟩
theorem take_byte (s : ByteArray) (k : Nat) (h : k < s.size) : (bl s).take (k + 1) = (bl s).take k ++ [s[k]] := by
  have h' : k < (bl s).length := by rw [bl_len]; exact h
  rw [List.take_succ_eq_append_getElem h']
  rfl
set_option maxHeartbeats 1000000 in
theorem rname_any (s : ByteArray) (w : World) (hs : s.size ≤ 9223372036854775807) :
    Calls Try.prog 72 #[.string s] w fun e w' => e = .returned (.bool (isName (bl s))) ∧ Below w.heap.size w w' := by
  have HW := Lib.hid (rword_any s)
  by_cases h0 : s.size < 1
  · have hz : bl s = [] := List.eq_nil_of_length_eq_zero (by rw [bl_len]; omega)
    rw [show isName (bl s) = false from by rw [hz]; rfl]
    have hz1 : s.toList = [] := by rw [toList_bl]; exact hz
    have hz2 : s.toList.isEmpty = true := by rw [hz1]; rfl
    clear hz
    go_enter Try.func72, Try.ntmps72
    go_wp2
    go_ret
    exact ⟨rfl, Below.refl _ _⟩
  · have hp : 0 < s.size := by omega
    have hp' : (0 : Int) < (s.size : Int) := by omega
    have hz : bl s ≠ [] := by intro h; have := bl_len s; rw [h] at this; simp at this; omega
    have hz2 : s.toList.isEmpty = false := by rw [toList_bl]; simpa using hz
    have hz3 : (s.toList == []) = false := by rw [toList_bl]; simpa using hz
    clear hz
    rw [isName_cons s hp]
    by_cases h8 : 8 < s.size
    · rw [show decide (s.size ≤ 8) = false from by simp; omega, Bool.and_false, Bool.false_and, Bool.false_and]
      have h8' : 8 < (s.size : Int) := by omega
      go_enter Try.func72, Try.ntmps72
      go_wp2
      go_ret
      exact ⟨rfl, Below.refl _ _⟩
    · have h8' : ¬ 8 < (s.size : Int) := by omega
      rw [show decide (s.size ≤ 8) = true from by simp; omega, Bool.and_true]
      cases hsm : small s[0] with
      | false =>
        rw [Bool.false_and, Bool.false_and]
        go_enter Try.func72, Try.ntmps72
        go_wp2_with (go_at_call 106; refine (rsmall_any _ _).mono ?_; rintro e w' ⟨rfl, rfl⟩)
        go_ret
        exact ⟨rfl, Below.refl _ _⟩
      | true =>
        rw [Bool.true_and]
        have hfirst : ((bl s).take 1).all alnum = true := by rw [take_byte s 0 hp]; simp [alnum, hsm]
        have HFI := Lib.hid hfirst
        clear hfirst
        go_enter Try.func72, Try.ntmps72
        go_wp2_with (go_at_call 106; refine (rsmall_any _ _).mono ?_; rintro e w' ⟨rfl, rfl⟩)
        go_loop [3] (fun i => ∃ k : Nat, 1 ≤ k ∧ k ≤ s.size ∧ i = .int .i64 k ∧ ((bl s).take k).all alnum = true) (fun i => (s.size - intOf i).toNat)
        case atStart => exact ⟨1, by omega, by omega, rfl, HFI.out⟩
        case round =>
          obtain ⟨k, hk1, hk, rfl, hall⟩ := hrel
          have HA := Lib.hid hall
          clear hall
          by_cases hlt : k < s.size
          · have hlt' : (k : Int) < (s.size : Int) := by omega
            have htb := take_byte s k hlt
            cases hal : alnum s[k] with
            | true =>
              have HTB := Lib.hid htb
              have hor : small s[k] = true ∨ digit s[k] = true := by simpa [alnum] using hal
              have HAL := Lib.hid hal
              clear hal htb
              rcases hor with h1 | h1
              · go_wp2_with (first | (go_at_call 106; refine (rsmall_any _ _).mono ?_; rintro e w' ⟨rfl, rfl⟩) | (go_at_call 107; refine (rdigit_any _ _).mono ?_; rintro e w' ⟨rfl, rfl⟩))
                go_round
                case rel => exact ⟨k + 1, by omega, by omega, by go_num, by rw [HTB.out, List.all_append, HA.out]; simp [HAL.out]⟩
                case measure => simp [intOf]; omega
              · cases h2 : small s[k] with
                | true =>
                  go_wp2_with (first | (go_at_call 106; refine (rsmall_any _ _).mono ?_; rintro e w' ⟨rfl, rfl⟩) | (go_at_call 107; refine (rdigit_any _ _).mono ?_; rintro e w' ⟨rfl, rfl⟩))
                  go_round
                  case rel => exact ⟨k + 1, by omega, by omega, by go_num, by rw [HTB.out, List.all_append, HA.out]; simp [HAL.out]⟩
                  case measure => simp [intOf]; omega
                | false =>
                  go_wp2_with (first | (go_at_call 106; refine (rsmall_any _ _).mono ?_; rintro e w' ⟨rfl, rfl⟩) | (go_at_call 107; refine (rdigit_any _ _).mono ?_; rintro e w' ⟨rfl, rfl⟩))
                  go_round
                  case rel => exact ⟨k + 1, by omega, by omega, by go_num, by rw [HTB.out, List.all_append, HA.out]; simp [HAL.out]⟩
                  case measure => simp [intOf]; omega
            | false =>
              have h1 : small s[k] = false := by cases h : small s[k] with
                | false => rfl
                | true => simp [alnum, h] at hal
              have h2 : digit s[k] = false := by cases h : digit s[k] with
                | false => rfl
                | true => simp [alnum, h] at hal
              have hno : (bl s).all alnum = false := by
                cases h : (bl s).all alnum with
                | false => rfl
                | true =>
                  have := List.all_eq_true.1 h s[k] (by
                    have : s[k] ∈ (bl s).take (k + 1) := by rw [htb]; simp
                    exact List.mem_of_mem_take this)
                  rw [hal] at this; cases this
              have HNO := Lib.hid hno
              clear hno hal htb
              go_wp2_with (first | (go_at_call 106; refine (rsmall_any _ _).mono ?_; rintro e w' ⟨rfl, rfl⟩) | (go_at_call 107; refine (rdigit_any _ _).mono ?_; rintro e w' ⟨rfl, rfl⟩))
              go_ret
              exact ⟨by rw [HNO.out]; rfl, Below.refl _ _⟩
          · have hlt' : ¬ (k : Int) < (s.size : Int) := by omega
            have hyes : (bl s).all alnum = true := by
              have := HA.out
              rwa [List.take_of_length_le (by rw [bl_len]; omega)] at this
            have HY := Lib.hid hyes
            clear hyes
            go_wp2_with fail
            refine (HW.out _).mono ?_
            rintro e w1 ⟨rfl, hb⟩
            have HB := Lib.hid hb
            clear hb
            go_wp2_with fail
            go_ret
            exact ⟨by rw [HY.out, Bool.true_and]; rfl, HB.out⟩
end Go.Proofs.Ytnbclbphggmenaa.Lx
