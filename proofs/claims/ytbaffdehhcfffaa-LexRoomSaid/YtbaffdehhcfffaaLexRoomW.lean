/- The law LexRoom, walked: it returns true. Conditions: the text has at most 2^63 - 1 bytes. -/
import Derived.Test.YtbaffdehhcfffaaMod
namespace Go.Proofs.Ytbaffdehhcfffaa.Lx
open Go.RowKit
theorem ownsForm' {w : World} {v : Value} {ts : List Tok} (h : Row w v ts) : ∃ a c, v = .slice a ts.length c := by
  obtain ⟨a, c, hv, _⟩ := h
  exact ⟨a, c, hv⟩
theorem i64_wf {n : Int} (h : (Lit.int .i64 n).wf = true) : -9223372036854775808 ≤ n ∧ n ≤ 9223372036854775807 := by
  simp only [Lit.wf, Bool.and_eq_true, decide_eq_true_eq] at h
  exact h
theorem bl_app (a b : ByteArray) : bl (a ++ b) = bl a ++ bl b := by unfold bl; simp
set_option maxHeartbeats 4000000 in
set_option maxRecDepth 100000 in
theorem law_room (n : Int) (hn : (Lit.int .i64 n).wf = true) (sg : Bool) (w : World) :
    Calls Try.prog 13 #[.int .i64 n, .bool sg] w fun e w' => e = .returned (.bool true) ∧ Below w.heap.size w w' := by
  obtain ⟨hn3, hn4⟩ := i64_wf hn
  clear hn
  have h50 := Int.emod_nonneg n (b := 5) (by omega)
  have h51 := Int.emod_lt_of_pos n (b := 5) (by omega)
  obtain ⟨r, hrr⟩ : ∃ r, Hid (n % 5 = r) := ⟨_, Lib.hid rfl⟩
  rw [hrr.out] at h50 h51
  obtain ⟨M, hM⟩ : ∃ M : Nat, Hid (1998 + r = (M : Int)) := ⟨(1998 + r).toNat, Lib.hid (by omega)⟩
  have hM1 : 1998 ≤ M ∧ M ≤ 2002 := by have := hM.out; omega
  obtain ⟨hM1, hM2⟩ := hM1
  cases sg with
  | true =>
    have hrep := all_rep (s := [59]) (by simp) (n := M) (by omega)
    have HREP := Lib.hid hrep
    clear hrep
    go_enter Try.func13, Try.ntmps13
    go_wp2_with fail
    refine (lexed_any _).mono ?_
    rintro e w1 ⟨rfl, hb1⟩
    have HB1 := Lib.hid hb1
    clear hb1
    go_wp2_with fail
    refine (mod_any n 5 r _ hn3 hn4 (by omega) (by omega) hrr.out).mono ?_
    rintro e w' ⟨rfl, rfl⟩
    go_wp2_with fail
    rw [hM.out]
    go_loop [5, 6] (fun sv i => ∃ (k : Nat) (y : ByteArray), k ≤ M ∧ i = .int .i64 k ∧ sv = .string y ∧ bl y = rep [59] k) (fun _ i => (M - intOf i).toNat)
    case atStart => exact ⟨0, ⟨#[]⟩, by omega, rfl, rfl, rfl⟩
    case round =>
      obtain ⟨k, y, hk, rfl, rfl, hy⟩ := hrel
      have hys : y.size ≤ 6000 := by rw [← bl_len, hy, rep_len]; simp only [List.length_cons, List.length_nil]; omega
      have HY := Lib.hid hy
      clear hy
      by_cases hlt : k < M
      · have hlt' : (k : Int) < (M : Int) := by omega
        go_wp2_with fail
        go_round
        case rel => exact ⟨k + 1, y ++ ⟨#[59]⟩, by omega, by go_num, rfl, by rw [bl_app, HY.out, ← rep_snoc]; rfl⟩
        case measure => simp [intOf]; omega
      · have hlt' : ¬ (k : Int) < (M : Int) := by omega
        obtain rfl : k = M := by omega
        have hb : bl (y ++ ⟨#[32, 35, 32, 97, 110, 100, 32, 110, 111, 32, 109, 111, 114, 101]⟩) = rep [59] k ++ tailR := by rw [bl_app, HY.out]; rfl
        rw [← hb] at HREP
        have hsz : (y ++ ⟨#[32, 35, 32, 97, 110, 100, 32, 110, 111, 32, 109, 111, 114, 101]⟩ : ByteArray).size ≤ 9223372036854775807 := by rw [ByteArray.size_append]; show y.size + 14 ≤ _; omega
        have HSZ := Lib.hid hsz
        clear hb hsz
        by_cases hfit : k ≤ 2000
        · obtain ⟨f1, f2⟩ := HREP.out.1 hfit
          rcases hq : lexAll (bl (y ++ ⟨#[32, 35, 32, 97, 110, 100, 32, 110, 111, 32, 109, 111, 114, 101]⟩)) with ⟨q1, q2, q3⟩
          rw [hq] at f1 f2
          dsimp only at f1 f2
          subst f1
          have hfit' : (k : Int) ≤ 2000 := by omega
          have HQ := Lib.hid hq
          have HF := Lib.hid f2
          clear hq f2
          go_wp2_with fail
          refine (all_gives _ HSZ.out HQ.out).mono ?_
          rintro e w2 ⟨v1, rfl, hb2, ho2⟩
          obtain ⟨ta, tc, rfl⟩ := ownsForm' (Row.of ho2)
          have HB2 := Lib.hid (HB1.out.trans (hb2.mono HB1.out.size))
          clear hb2 ho2
          rw [HF.out]
          go_wp2_with fail
          go_ret
          exact ⟨rfl, HB2.out.alloc HB2.out.size _⟩
        · have hfit' : ¬ (k : Int) ≤ 2000 := by omega
          have HQ := Lib.hid (HREP.out.2 (by omega))
          go_wp2_with fail
          refine (all_gives _ HSZ.out HQ.out).mono ?_
          rintro e w2 ⟨v1, rfl, hb2, ho2⟩
          obtain ⟨ta, tc, rfl⟩ := ownsForm' (Row.of ho2)
          have HB2 := Lib.hid (HB1.out.trans (hb2.mono HB1.out.size))
          clear hb2 ho2
          have hu2 : ([] : List Tok).length = 0 := rfl
          have hu3 : ((2000 * ([59] : List UInt8).length : Nat) : Int) = 2000 := rfl
          rw [hu2, hu3]
          clear hu2 hu3
          go_wp2_with fail
          go_ret
          exact ⟨rfl, HB2.out.alloc HB2.out.size _⟩
  | false =>
    have hrep := all_rep (s := [97, 32]) (by simp) (n := M) (by omega)
    have HREP := Lib.hid hrep
    clear hrep
    go_enter Try.func13, Try.ntmps13
    go_wp2_with fail
    refine (lexed_any _).mono ?_
    rintro e w1 ⟨rfl, hb1⟩
    have HB1 := Lib.hid hb1
    clear hb1
    go_wp2_with fail
    refine (mod_any n 5 r _ hn3 hn4 (by omega) (by omega) hrr.out).mono ?_
    rintro e w' ⟨rfl, rfl⟩
    go_wp2_with fail
    rw [hM.out]
    go_loop [5, 6] (fun sv i => ∃ (k : Nat) (y : ByteArray), k ≤ M ∧ i = .int .i64 k ∧ sv = .string y ∧ bl y = rep [97, 32] k) (fun _ i => (M - intOf i).toNat)
    case atStart => exact ⟨0, ⟨#[]⟩, by omega, rfl, rfl, rfl⟩
    case round =>
      obtain ⟨k, y, hk, rfl, rfl, hy⟩ := hrel
      have hys : y.size ≤ 6000 := by rw [← bl_len, hy, rep_len]; simp only [List.length_cons, List.length_nil]; omega
      have HY := Lib.hid hy
      clear hy
      by_cases hlt : k < M
      · have hlt' : (k : Int) < (M : Int) := by omega
        go_wp2_with fail
        go_round
        case rel => exact ⟨k + 1, y ++ ⟨#[97, 32]⟩, by omega, by go_num, rfl, by rw [bl_app, HY.out, ← rep_snoc]; rfl⟩
        case measure => simp [intOf]; omega
      · have hlt' : ¬ (k : Int) < (M : Int) := by omega
        obtain rfl : k = M := by omega
        have hb : bl (y ++ ⟨#[32, 35, 32, 97, 110, 100, 32, 110, 111, 32, 109, 111, 114, 101]⟩) = rep [97, 32] k ++ tailR := by rw [bl_app, HY.out]; rfl
        rw [← hb] at HREP
        have hsz : (y ++ ⟨#[32, 35, 32, 97, 110, 100, 32, 110, 111, 32, 109, 111, 114, 101]⟩ : ByteArray).size ≤ 9223372036854775807 := by rw [ByteArray.size_append]; show y.size + 14 ≤ _; omega
        have HSZ := Lib.hid hsz
        clear hb hsz
        by_cases hfit : k ≤ 2000
        · obtain ⟨f1, f2⟩ := HREP.out.1 hfit
          rcases hq : lexAll (bl (y ++ ⟨#[32, 35, 32, 97, 110, 100, 32, 110, 111, 32, 109, 111, 114, 101]⟩)) with ⟨q1, q2, q3⟩
          rw [hq] at f1 f2
          dsimp only at f1 f2
          subst f1
          have hfit' : (k : Int) ≤ 2000 := by omega
          have HQ := Lib.hid hq
          have HF := Lib.hid f2
          clear hq f2
          go_wp2_with fail
          refine (all_gives _ HSZ.out HQ.out).mono ?_
          rintro e w2 ⟨v1, rfl, hb2, ho2⟩
          obtain ⟨ta, tc, rfl⟩ := ownsForm' (Row.of ho2)
          have HB2 := Lib.hid (HB1.out.trans (hb2.mono HB1.out.size))
          clear hb2 ho2
          rw [HF.out]
          go_wp2_with fail
          go_ret
          exact ⟨rfl, HB2.out.alloc HB2.out.size _⟩
        · have hfit' : ¬ (k : Int) ≤ 2000 := by omega
          have HQ := Lib.hid (HREP.out.2 (by omega))
          go_wp2_with fail
          refine (all_gives _ HSZ.out HQ.out).mono ?_
          rintro e w2 ⟨v1, rfl, hb2, ho2⟩
          obtain ⟨ta, tc, rfl⟩ := ownsForm' (Row.of ho2)
          have HB2 := Lib.hid (HB1.out.trans (hb2.mono HB1.out.size))
          clear hb2 ho2
          have hu2 : ([] : List Tok).length = 0 := rfl
          have hu3 : ((2000 * ([97, 32] : List UInt8).length : Nat) : Int) = 4000 := rfl
          rw [hu2, hu3]
          clear hu2 hu3
          go_wp2_with fail
          go_ret
          exact ⟨rfl, HB2.out.alloc HB2.out.size _⟩
end Go.Proofs.Ytbaffdehhcfffaa.Lx
