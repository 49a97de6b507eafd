/- What the Go function lex.sign computes: how many bytes the sign at a byte has. Conditions: the byte lies in the text; the text has at most 2^63 - 1 bytes. -/
import Derived.Test.YtbaffdehhcfffaaLexW
namespace Go.Proofs.Ytbaffdehhcfffaa.Lx
open Go.RowKit
theorem u8_ne {c : UInt8} {n : Nat} (h : c.toNat ≠ n) : ((c.toNat : Int) == (n : Int)) = false := by simp; omega
set_option maxHeartbeats 4000000 in
theorem sign_any (s : ByteArray) (i : Nat) (w : World) (hi : i < s.size) (hs : s.size ≤ 9223372036854775807) :
    Calls Try.prog 30 #[.string s, .int .i64 i] w fun e w' => e = .returned (.int .i64 (signLen ((bl s).drop i) : Nat)) ∧ w = w' := by
  have he : (s.extract i (i + 2)).toList = ((bl s).drop i).take 2 := by rw [toList_bl, ext_bl]; congr 1; omega
  have hd := bl_drop s i hi
  by_cases hp : i + 1 < s.size
  · have hp' : (i : Int) + 1 < (s.size : Int) := by omega
    have hp2 : (i : Int) + 2 ≤ (s.size : Int) := by omega
    by_cases p0 : ((bl s).drop i).take 2 = [61, 61]
    · rw [show signLen ((bl s).drop i) = 2 from by unfold signLen; rw [p0]; rfl]
      rw [p0] at he
      have q0 : ((s.extract i (i + 2)).toList == [61, 61]) = true := by rw [he]; rfl
      clear he hd p0
      go_enter Try.func30, Try.ntmps30
      go_wp2_with fail
      go_ret
      exact ⟨rfl, rfl⟩
    by_cases p1 : ((bl s).drop i).take 2 = [33, 61]
    · rw [show signLen ((bl s).drop i) = 2 from by unfold signLen; rw [p1]; rfl]
      rw [p1] at he
      have q0 : ((s.extract i (i + 2)).toList == [61, 61]) = false := by rw [he]; rfl
      have q1 : ((s.extract i (i + 2)).toList == [33, 61]) = true := by rw [he]; rfl
      clear he hd p0 p1
      go_enter Try.func30, Try.ntmps30
      go_wp2_with fail
      go_ret
      exact ⟨rfl, rfl⟩
    by_cases p2 : ((bl s).drop i).take 2 = [60, 61]
    · rw [show signLen ((bl s).drop i) = 2 from by unfold signLen; rw [p2]; rfl]
      rw [p2] at he
      have q0 : ((s.extract i (i + 2)).toList == [61, 61]) = false := by rw [he]; rfl
      have q1 : ((s.extract i (i + 2)).toList == [33, 61]) = false := by rw [he]; rfl
      have q2 : ((s.extract i (i + 2)).toList == [60, 61]) = true := by rw [he]; rfl
      clear he hd p0 p1 p2
      go_enter Try.func30, Try.ntmps30
      go_wp2_with fail
      go_ret
      exact ⟨rfl, rfl⟩
    by_cases p3 : ((bl s).drop i).take 2 = [62, 61]
    · rw [show signLen ((bl s).drop i) = 2 from by unfold signLen; rw [p3]; rfl]
      rw [p3] at he
      have q0 : ((s.extract i (i + 2)).toList == [61, 61]) = false := by rw [he]; rfl
      have q1 : ((s.extract i (i + 2)).toList == [33, 61]) = false := by rw [he]; rfl
      have q2 : ((s.extract i (i + 2)).toList == [60, 61]) = false := by rw [he]; rfl
      have q3 : ((s.extract i (i + 2)).toList == [62, 61]) = true := by rw [he]; rfl
      clear he hd p0 p1 p2 p3
      go_enter Try.func30, Try.ntmps30
      go_wp2_with fail
      go_ret
      exact ⟨rfl, rfl⟩
    by_cases p4 : ((bl s).drop i).take 2 = [38, 38]
    · rw [show signLen ((bl s).drop i) = 2 from by unfold signLen; rw [p4]; rfl]
      rw [p4] at he
      have q0 : ((s.extract i (i + 2)).toList == [61, 61]) = false := by rw [he]; rfl
      have q1 : ((s.extract i (i + 2)).toList == [33, 61]) = false := by rw [he]; rfl
      have q2 : ((s.extract i (i + 2)).toList == [60, 61]) = false := by rw [he]; rfl
      have q3 : ((s.extract i (i + 2)).toList == [62, 61]) = false := by rw [he]; rfl
      have q4 : ((s.extract i (i + 2)).toList == [38, 38]) = true := by rw [he]; rfl
      clear he hd p0 p1 p2 p3 p4
      go_enter Try.func30, Try.ntmps30
      go_wp2_with fail
      go_ret
      exact ⟨rfl, rfl⟩
    by_cases p5 : ((bl s).drop i).take 2 = [124, 124]
    · rw [show signLen ((bl s).drop i) = 2 from by unfold signLen; rw [p5]; rfl]
      rw [p5] at he
      have q0 : ((s.extract i (i + 2)).toList == [61, 61]) = false := by rw [he]; rfl
      have q1 : ((s.extract i (i + 2)).toList == [33, 61]) = false := by rw [he]; rfl
      have q2 : ((s.extract i (i + 2)).toList == [60, 61]) = false := by rw [he]; rfl
      have q3 : ((s.extract i (i + 2)).toList == [62, 61]) = false := by rw [he]; rfl
      have q4 : ((s.extract i (i + 2)).toList == [38, 38]) = false := by rw [he]; rfl
      have q5 : ((s.extract i (i + 2)).toList == [124, 124]) = true := by rw [he]; rfl
      clear he hd p0 p1 p2 p3 p4 p5
      go_enter Try.func30, Try.ntmps30
      go_wp2_with fail
      go_ret
      exact ⟨rfl, rfl⟩
    have hc : pairs.contains (((bl s).drop i).take 2) = false := by simp [pairs, p0, p1, p2, p3, p4, p5]
    rw [← he] at p0 p1 p2 p3 p4 p5
    have q0 : ((s.extract i (i + 2)).toList == [61, 61]) = false := by simp [p0]
    have q1 : ((s.extract i (i + 2)).toList == [33, 61]) = false := by simp [p1]
    have q2 : ((s.extract i (i + 2)).toList == [60, 61]) = false := by simp [p2]
    have q3 : ((s.extract i (i + 2)).toList == [62, 61]) = false := by simp [p3]
    have q4 : ((s.extract i (i + 2)).toList == [38, 38]) = false := by simp [p4]
    have q5 : ((s.extract i (i + 2)).toList == [124, 124]) = false := by simp [p5]
    clear he p0 p1 p2 p3 p4 p5
    by_cases c0 : s[i].toNat = 40
    · rw [show signLen ((bl s).drop i) = 1 from by unfold signLen; rw [hc, hd]; simp [c0, singles]]
      have t0 : ((s[i].toNat : Int) == 40) = true := by simp [c0]
      clear hd hc c0
      go_enter Try.func30, Try.ntmps30
      go_wp2_with fail
      go_ret
      exact ⟨rfl, rfl⟩
    by_cases c1 : s[i].toNat = 41
    · rw [show signLen ((bl s).drop i) = 1 from by unfold signLen; rw [hc, hd]; simp [c1, singles]]
      have t0 : ((s[i].toNat : Int) == 40) = false := u8_ne c0
      have t1 : ((s[i].toNat : Int) == 41) = true := by simp [c1]
      clear hd hc c0 c1
      go_enter Try.func30, Try.ntmps30
      go_wp2_with fail
      go_ret
      exact ⟨rfl, rfl⟩
    by_cases c2 : s[i].toNat = 123
    · rw [show signLen ((bl s).drop i) = 1 from by unfold signLen; rw [hc, hd]; simp [c2, singles]]
      have t0 : ((s[i].toNat : Int) == 40) = false := u8_ne c0
      have t1 : ((s[i].toNat : Int) == 41) = false := u8_ne c1
      have t2 : ((s[i].toNat : Int) == 123) = true := by simp [c2]
      clear hd hc c0 c1 c2
      go_enter Try.func30, Try.ntmps30
      go_wp2_with fail
      go_ret
      exact ⟨rfl, rfl⟩
    by_cases c3 : s[i].toNat = 125
    · rw [show signLen ((bl s).drop i) = 1 from by unfold signLen; rw [hc, hd]; simp [c3, singles]]
      have t0 : ((s[i].toNat : Int) == 40) = false := u8_ne c0
      have t1 : ((s[i].toNat : Int) == 41) = false := u8_ne c1
      have t2 : ((s[i].toNat : Int) == 123) = false := u8_ne c2
      have t3 : ((s[i].toNat : Int) == 125) = true := by simp [c3]
      clear hd hc c0 c1 c2 c3
      go_enter Try.func30, Try.ntmps30
      go_wp2_with fail
      go_ret
      exact ⟨rfl, rfl⟩
    by_cases c4 : s[i].toNat = 44
    · rw [show signLen ((bl s).drop i) = 1 from by unfold signLen; rw [hc, hd]; simp [c4, singles]]
      have t0 : ((s[i].toNat : Int) == 40) = false := u8_ne c0
      have t1 : ((s[i].toNat : Int) == 41) = false := u8_ne c1
      have t2 : ((s[i].toNat : Int) == 123) = false := u8_ne c2
      have t3 : ((s[i].toNat : Int) == 125) = false := u8_ne c3
      have t4 : ((s[i].toNat : Int) == 44) = true := by simp [c4]
      clear hd hc c0 c1 c2 c3 c4
      go_enter Try.func30, Try.ntmps30
      go_wp2_with fail
      go_ret
      exact ⟨rfl, rfl⟩
    by_cases c5 : s[i].toNat = 59
    · rw [show signLen ((bl s).drop i) = 1 from by unfold signLen; rw [hc, hd]; simp [c5, singles]]
      have t0 : ((s[i].toNat : Int) == 40) = false := u8_ne c0
      have t1 : ((s[i].toNat : Int) == 41) = false := u8_ne c1
      have t2 : ((s[i].toNat : Int) == 123) = false := u8_ne c2
      have t3 : ((s[i].toNat : Int) == 125) = false := u8_ne c3
      have t4 : ((s[i].toNat : Int) == 44) = false := u8_ne c4
      have t5 : ((s[i].toNat : Int) == 59) = true := by simp [c5]
      clear hd hc c0 c1 c2 c3 c4 c5
      go_enter Try.func30, Try.ntmps30
      go_wp2_with fail
      go_ret
      exact ⟨rfl, rfl⟩
    by_cases c6 : s[i].toNat = 58
    · rw [show signLen ((bl s).drop i) = 1 from by unfold signLen; rw [hc, hd]; simp [c6, singles]]
      have t0 : ((s[i].toNat : Int) == 40) = false := u8_ne c0
      have t1 : ((s[i].toNat : Int) == 41) = false := u8_ne c1
      have t2 : ((s[i].toNat : Int) == 123) = false := u8_ne c2
      have t3 : ((s[i].toNat : Int) == 125) = false := u8_ne c3
      have t4 : ((s[i].toNat : Int) == 44) = false := u8_ne c4
      have t5 : ((s[i].toNat : Int) == 59) = false := u8_ne c5
      have t6 : ((s[i].toNat : Int) == 58) = true := by simp [c6]
      clear hd hc c0 c1 c2 c3 c4 c5 c6
      go_enter Try.func30, Try.ntmps30
      go_wp2_with fail
      go_ret
      exact ⟨rfl, rfl⟩
    by_cases c7 : s[i].toNat = 61
    · rw [show signLen ((bl s).drop i) = 1 from by unfold signLen; rw [hc, hd]; simp [c7, singles]]
      have t0 : ((s[i].toNat : Int) == 40) = false := u8_ne c0
      have t1 : ((s[i].toNat : Int) == 41) = false := u8_ne c1
      have t2 : ((s[i].toNat : Int) == 123) = false := u8_ne c2
      have t3 : ((s[i].toNat : Int) == 125) = false := u8_ne c3
      have t4 : ((s[i].toNat : Int) == 44) = false := u8_ne c4
      have t5 : ((s[i].toNat : Int) == 59) = false := u8_ne c5
      have t6 : ((s[i].toNat : Int) == 58) = false := u8_ne c6
      have t7 : ((s[i].toNat : Int) == 61) = true := by simp [c7]
      clear hd hc c0 c1 c2 c3 c4 c5 c6 c7
      go_enter Try.func30, Try.ntmps30
      go_wp2_with fail
      go_ret
      exact ⟨rfl, rfl⟩
    by_cases c8 : s[i].toNat = 33
    · rw [show signLen ((bl s).drop i) = 1 from by unfold signLen; rw [hc, hd]; simp [c8, singles]]
      have t0 : ((s[i].toNat : Int) == 40) = false := u8_ne c0
      have t1 : ((s[i].toNat : Int) == 41) = false := u8_ne c1
      have t2 : ((s[i].toNat : Int) == 123) = false := u8_ne c2
      have t3 : ((s[i].toNat : Int) == 125) = false := u8_ne c3
      have t4 : ((s[i].toNat : Int) == 44) = false := u8_ne c4
      have t5 : ((s[i].toNat : Int) == 59) = false := u8_ne c5
      have t6 : ((s[i].toNat : Int) == 58) = false := u8_ne c6
      have t7 : ((s[i].toNat : Int) == 61) = false := u8_ne c7
      have t8 : ((s[i].toNat : Int) == 33) = true := by simp [c8]
      clear hd hc c0 c1 c2 c3 c4 c5 c6 c7 c8
      go_enter Try.func30, Try.ntmps30
      go_wp2_with fail
      go_ret
      exact ⟨rfl, rfl⟩
    by_cases c9 : s[i].toNat = 60
    · rw [show signLen ((bl s).drop i) = 1 from by unfold signLen; rw [hc, hd]; simp [c9, singles]]
      have t0 : ((s[i].toNat : Int) == 40) = false := u8_ne c0
      have t1 : ((s[i].toNat : Int) == 41) = false := u8_ne c1
      have t2 : ((s[i].toNat : Int) == 123) = false := u8_ne c2
      have t3 : ((s[i].toNat : Int) == 125) = false := u8_ne c3
      have t4 : ((s[i].toNat : Int) == 44) = false := u8_ne c4
      have t5 : ((s[i].toNat : Int) == 59) = false := u8_ne c5
      have t6 : ((s[i].toNat : Int) == 58) = false := u8_ne c6
      have t7 : ((s[i].toNat : Int) == 61) = false := u8_ne c7
      have t8 : ((s[i].toNat : Int) == 33) = false := u8_ne c8
      have t9 : ((s[i].toNat : Int) == 60) = true := by simp [c9]
      clear hd hc c0 c1 c2 c3 c4 c5 c6 c7 c8 c9
      go_enter Try.func30, Try.ntmps30
      go_wp2_with fail
      go_ret
      exact ⟨rfl, rfl⟩
    by_cases c10 : s[i].toNat = 62
    · rw [show signLen ((bl s).drop i) = 1 from by unfold signLen; rw [hc, hd]; simp [c10, singles]]
      have t0 : ((s[i].toNat : Int) == 40) = false := u8_ne c0
      have t1 : ((s[i].toNat : Int) == 41) = false := u8_ne c1
      have t2 : ((s[i].toNat : Int) == 123) = false := u8_ne c2
      have t3 : ((s[i].toNat : Int) == 125) = false := u8_ne c3
      have t4 : ((s[i].toNat : Int) == 44) = false := u8_ne c4
      have t5 : ((s[i].toNat : Int) == 59) = false := u8_ne c5
      have t6 : ((s[i].toNat : Int) == 58) = false := u8_ne c6
      have t7 : ((s[i].toNat : Int) == 61) = false := u8_ne c7
      have t8 : ((s[i].toNat : Int) == 33) = false := u8_ne c8
      have t9 : ((s[i].toNat : Int) == 60) = false := u8_ne c9
      have t10 : ((s[i].toNat : Int) == 62) = true := by simp [c10]
      clear hd hc c0 c1 c2 c3 c4 c5 c6 c7 c8 c9 c10
      go_enter Try.func30, Try.ntmps30
      go_wp2_with fail
      go_ret
      exact ⟨rfl, rfl⟩
    by_cases c11 : s[i].toNat = 43
    · rw [show signLen ((bl s).drop i) = 1 from by unfold signLen; rw [hc, hd]; simp [c11, singles]]
      have t0 : ((s[i].toNat : Int) == 40) = false := u8_ne c0
      have t1 : ((s[i].toNat : Int) == 41) = false := u8_ne c1
      have t2 : ((s[i].toNat : Int) == 123) = false := u8_ne c2
      have t3 : ((s[i].toNat : Int) == 125) = false := u8_ne c3
      have t4 : ((s[i].toNat : Int) == 44) = false := u8_ne c4
      have t5 : ((s[i].toNat : Int) == 59) = false := u8_ne c5
      have t6 : ((s[i].toNat : Int) == 58) = false := u8_ne c6
      have t7 : ((s[i].toNat : Int) == 61) = false := u8_ne c7
      have t8 : ((s[i].toNat : Int) == 33) = false := u8_ne c8
      have t9 : ((s[i].toNat : Int) == 60) = false := u8_ne c9
      have t10 : ((s[i].toNat : Int) == 62) = false := u8_ne c10
      have t11 : ((s[i].toNat : Int) == 43) = true := by simp [c11]
      clear hd hc c0 c1 c2 c3 c4 c5 c6 c7 c8 c9 c10 c11
      go_enter Try.func30, Try.ntmps30
      go_wp2_with fail
      go_ret
      exact ⟨rfl, rfl⟩
    by_cases c12 : s[i].toNat = 45
    · rw [show signLen ((bl s).drop i) = 1 from by unfold signLen; rw [hc, hd]; simp [c12, singles]]
      have t0 : ((s[i].toNat : Int) == 40) = false := u8_ne c0
      have t1 : ((s[i].toNat : Int) == 41) = false := u8_ne c1
      have t2 : ((s[i].toNat : Int) == 123) = false := u8_ne c2
      have t3 : ((s[i].toNat : Int) == 125) = false := u8_ne c3
      have t4 : ((s[i].toNat : Int) == 44) = false := u8_ne c4
      have t5 : ((s[i].toNat : Int) == 59) = false := u8_ne c5
      have t6 : ((s[i].toNat : Int) == 58) = false := u8_ne c6
      have t7 : ((s[i].toNat : Int) == 61) = false := u8_ne c7
      have t8 : ((s[i].toNat : Int) == 33) = false := u8_ne c8
      have t9 : ((s[i].toNat : Int) == 60) = false := u8_ne c9
      have t10 : ((s[i].toNat : Int) == 62) = false := u8_ne c10
      have t11 : ((s[i].toNat : Int) == 43) = false := u8_ne c11
      have t12 : ((s[i].toNat : Int) == 45) = true := by simp [c12]
      clear hd hc c0 c1 c2 c3 c4 c5 c6 c7 c8 c9 c10 c11 c12
      go_enter Try.func30, Try.ntmps30
      go_wp2_with fail
      go_ret
      exact ⟨rfl, rfl⟩
    by_cases c13 : s[i].toNat = 42
    · rw [show signLen ((bl s).drop i) = 1 from by unfold signLen; rw [hc, hd]; simp [c13, singles]]
      have t0 : ((s[i].toNat : Int) == 40) = false := u8_ne c0
      have t1 : ((s[i].toNat : Int) == 41) = false := u8_ne c1
      have t2 : ((s[i].toNat : Int) == 123) = false := u8_ne c2
      have t3 : ((s[i].toNat : Int) == 125) = false := u8_ne c3
      have t4 : ((s[i].toNat : Int) == 44) = false := u8_ne c4
      have t5 : ((s[i].toNat : Int) == 59) = false := u8_ne c5
      have t6 : ((s[i].toNat : Int) == 58) = false := u8_ne c6
      have t7 : ((s[i].toNat : Int) == 61) = false := u8_ne c7
      have t8 : ((s[i].toNat : Int) == 33) = false := u8_ne c8
      have t9 : ((s[i].toNat : Int) == 60) = false := u8_ne c9
      have t10 : ((s[i].toNat : Int) == 62) = false := u8_ne c10
      have t11 : ((s[i].toNat : Int) == 43) = false := u8_ne c11
      have t12 : ((s[i].toNat : Int) == 45) = false := u8_ne c12
      have t13 : ((s[i].toNat : Int) == 42) = true := by simp [c13]
      clear hd hc c0 c1 c2 c3 c4 c5 c6 c7 c8 c9 c10 c11 c12 c13
      go_enter Try.func30, Try.ntmps30
      go_wp2_with fail
      go_ret
      exact ⟨rfl, rfl⟩
    by_cases c14 : s[i].toNat = 47
    · rw [show signLen ((bl s).drop i) = 1 from by unfold signLen; rw [hc, hd]; simp [c14, singles]]
      have t0 : ((s[i].toNat : Int) == 40) = false := u8_ne c0
      have t1 : ((s[i].toNat : Int) == 41) = false := u8_ne c1
      have t2 : ((s[i].toNat : Int) == 123) = false := u8_ne c2
      have t3 : ((s[i].toNat : Int) == 125) = false := u8_ne c3
      have t4 : ((s[i].toNat : Int) == 44) = false := u8_ne c4
      have t5 : ((s[i].toNat : Int) == 59) = false := u8_ne c5
      have t6 : ((s[i].toNat : Int) == 58) = false := u8_ne c6
      have t7 : ((s[i].toNat : Int) == 61) = false := u8_ne c7
      have t8 : ((s[i].toNat : Int) == 33) = false := u8_ne c8
      have t9 : ((s[i].toNat : Int) == 60) = false := u8_ne c9
      have t10 : ((s[i].toNat : Int) == 62) = false := u8_ne c10
      have t11 : ((s[i].toNat : Int) == 43) = false := u8_ne c11
      have t12 : ((s[i].toNat : Int) == 45) = false := u8_ne c12
      have t13 : ((s[i].toNat : Int) == 42) = false := u8_ne c13
      have t14 : ((s[i].toNat : Int) == 47) = true := by simp [c14]
      clear hd hc c0 c1 c2 c3 c4 c5 c6 c7 c8 c9 c10 c11 c12 c13 c14
      go_enter Try.func30, Try.ntmps30
      go_wp2_with fail
      go_ret
      exact ⟨rfl, rfl⟩
    by_cases c15 : s[i].toNat = 37
    · rw [show signLen ((bl s).drop i) = 1 from by unfold signLen; rw [hc, hd]; simp [c15, singles]]
      have t0 : ((s[i].toNat : Int) == 40) = false := u8_ne c0
      have t1 : ((s[i].toNat : Int) == 41) = false := u8_ne c1
      have t2 : ((s[i].toNat : Int) == 123) = false := u8_ne c2
      have t3 : ((s[i].toNat : Int) == 125) = false := u8_ne c3
      have t4 : ((s[i].toNat : Int) == 44) = false := u8_ne c4
      have t5 : ((s[i].toNat : Int) == 59) = false := u8_ne c5
      have t6 : ((s[i].toNat : Int) == 58) = false := u8_ne c6
      have t7 : ((s[i].toNat : Int) == 61) = false := u8_ne c7
      have t8 : ((s[i].toNat : Int) == 33) = false := u8_ne c8
      have t9 : ((s[i].toNat : Int) == 60) = false := u8_ne c9
      have t10 : ((s[i].toNat : Int) == 62) = false := u8_ne c10
      have t11 : ((s[i].toNat : Int) == 43) = false := u8_ne c11
      have t12 : ((s[i].toNat : Int) == 45) = false := u8_ne c12
      have t13 : ((s[i].toNat : Int) == 42) = false := u8_ne c13
      have t14 : ((s[i].toNat : Int) == 47) = false := u8_ne c14
      have t15 : ((s[i].toNat : Int) == 37) = true := by simp [c15]
      clear hd hc c0 c1 c2 c3 c4 c5 c6 c7 c8 c9 c10 c11 c12 c13 c14 c15
      go_enter Try.func30, Try.ntmps30
      go_wp2_with fail
      go_ret
      exact ⟨rfl, rfl⟩
    rw [show signLen ((bl s).drop i) = 0 from by unfold signLen; rw [hc, hd]; simp [singles, c0, c1, c2, c3, c4, c5, c6, c7, c8, c9, c10, c11, c12, c13, c14, c15]]
    have t0 : ((s[i].toNat : Int) == 40) = false := u8_ne c0
    have t1 : ((s[i].toNat : Int) == 41) = false := u8_ne c1
    have t2 : ((s[i].toNat : Int) == 123) = false := u8_ne c2
    have t3 : ((s[i].toNat : Int) == 125) = false := u8_ne c3
    have t4 : ((s[i].toNat : Int) == 44) = false := u8_ne c4
    have t5 : ((s[i].toNat : Int) == 59) = false := u8_ne c5
    have t6 : ((s[i].toNat : Int) == 58) = false := u8_ne c6
    have t7 : ((s[i].toNat : Int) == 61) = false := u8_ne c7
    have t8 : ((s[i].toNat : Int) == 33) = false := u8_ne c8
    have t9 : ((s[i].toNat : Int) == 60) = false := u8_ne c9
    have t10 : ((s[i].toNat : Int) == 62) = false := u8_ne c10
    have t11 : ((s[i].toNat : Int) == 43) = false := u8_ne c11
    have t12 : ((s[i].toNat : Int) == 45) = false := u8_ne c12
    have t13 : ((s[i].toNat : Int) == 42) = false := u8_ne c13
    have t14 : ((s[i].toNat : Int) == 47) = false := u8_ne c14
    have t15 : ((s[i].toNat : Int) == 37) = false := u8_ne c15
    clear hd hc c0 c1 c2 c3 c4 c5 c6 c7 c8 c9 c10 c11 c12 c13 c14 c15
    go_enter Try.func30, Try.ntmps30
    go_wp2_with fail
    go_ret
    exact ⟨rfl, rfl⟩
  · have hp' : ¬ ((i : Int) + 1 < (s.size : Int)) := by omega
    have hc : pairs.contains (((bl s).drop i).take 2) = false := by
      rw [hd, bl_end s (i + 1) (by omega)]
      simp [pairs]
    clear he
    by_cases c0 : s[i].toNat = 40
    · rw [show signLen ((bl s).drop i) = 1 from by unfold signLen; rw [hc, hd]; simp [c0, singles]]
      have t0 : ((s[i].toNat : Int) == 40) = true := by simp [c0]
      clear hd hc c0
      go_enter Try.func30, Try.ntmps30
      go_wp2_with fail
      go_ret
      exact ⟨rfl, rfl⟩
    by_cases c1 : s[i].toNat = 41
    · rw [show signLen ((bl s).drop i) = 1 from by unfold signLen; rw [hc, hd]; simp [c1, singles]]
      have t0 : ((s[i].toNat : Int) == 40) = false := u8_ne c0
      have t1 : ((s[i].toNat : Int) == 41) = true := by simp [c1]
      clear hd hc c0 c1
      go_enter Try.func30, Try.ntmps30
      go_wp2_with fail
      go_ret
      exact ⟨rfl, rfl⟩
    by_cases c2 : s[i].toNat = 123
    · rw [show signLen ((bl s).drop i) = 1 from by unfold signLen; rw [hc, hd]; simp [c2, singles]]
      have t0 : ((s[i].toNat : Int) == 40) = false := u8_ne c0
      have t1 : ((s[i].toNat : Int) == 41) = false := u8_ne c1
      have t2 : ((s[i].toNat : Int) == 123) = true := by simp [c2]
      clear hd hc c0 c1 c2
      go_enter Try.func30, Try.ntmps30
      go_wp2_with fail
      go_ret
      exact ⟨rfl, rfl⟩
    by_cases c3 : s[i].toNat = 125
    · rw [show signLen ((bl s).drop i) = 1 from by unfold signLen; rw [hc, hd]; simp [c3, singles]]
      have t0 : ((s[i].toNat : Int) == 40) = false := u8_ne c0
      have t1 : ((s[i].toNat : Int) == 41) = false := u8_ne c1
      have t2 : ((s[i].toNat : Int) == 123) = false := u8_ne c2
      have t3 : ((s[i].toNat : Int) == 125) = true := by simp [c3]
      clear hd hc c0 c1 c2 c3
      go_enter Try.func30, Try.ntmps30
      go_wp2_with fail
      go_ret
      exact ⟨rfl, rfl⟩
    by_cases c4 : s[i].toNat = 44
    · rw [show signLen ((bl s).drop i) = 1 from by unfold signLen; rw [hc, hd]; simp [c4, singles]]
      have t0 : ((s[i].toNat : Int) == 40) = false := u8_ne c0
      have t1 : ((s[i].toNat : Int) == 41) = false := u8_ne c1
      have t2 : ((s[i].toNat : Int) == 123) = false := u8_ne c2
      have t3 : ((s[i].toNat : Int) == 125) = false := u8_ne c3
      have t4 : ((s[i].toNat : Int) == 44) = true := by simp [c4]
      clear hd hc c0 c1 c2 c3 c4
      go_enter Try.func30, Try.ntmps30
      go_wp2_with fail
      go_ret
      exact ⟨rfl, rfl⟩
    by_cases c5 : s[i].toNat = 59
    · rw [show signLen ((bl s).drop i) = 1 from by unfold signLen; rw [hc, hd]; simp [c5, singles]]
      have t0 : ((s[i].toNat : Int) == 40) = false := u8_ne c0
      have t1 : ((s[i].toNat : Int) == 41) = false := u8_ne c1
      have t2 : ((s[i].toNat : Int) == 123) = false := u8_ne c2
      have t3 : ((s[i].toNat : Int) == 125) = false := u8_ne c3
      have t4 : ((s[i].toNat : Int) == 44) = false := u8_ne c4
      have t5 : ((s[i].toNat : Int) == 59) = true := by simp [c5]
      clear hd hc c0 c1 c2 c3 c4 c5
      go_enter Try.func30, Try.ntmps30
      go_wp2_with fail
      go_ret
      exact ⟨rfl, rfl⟩
    by_cases c6 : s[i].toNat = 58
    · rw [show signLen ((bl s).drop i) = 1 from by unfold signLen; rw [hc, hd]; simp [c6, singles]]
      have t0 : ((s[i].toNat : Int) == 40) = false := u8_ne c0
      have t1 : ((s[i].toNat : Int) == 41) = false := u8_ne c1
      have t2 : ((s[i].toNat : Int) == 123) = false := u8_ne c2
      have t3 : ((s[i].toNat : Int) == 125) = false := u8_ne c3
      have t4 : ((s[i].toNat : Int) == 44) = false := u8_ne c4
      have t5 : ((s[i].toNat : Int) == 59) = false := u8_ne c5
      have t6 : ((s[i].toNat : Int) == 58) = true := by simp [c6]
      clear hd hc c0 c1 c2 c3 c4 c5 c6
      go_enter Try.func30, Try.ntmps30
      go_wp2_with fail
      go_ret
      exact ⟨rfl, rfl⟩
    by_cases c7 : s[i].toNat = 61
    · rw [show signLen ((bl s).drop i) = 1 from by unfold signLen; rw [hc, hd]; simp [c7, singles]]
      have t0 : ((s[i].toNat : Int) == 40) = false := u8_ne c0
      have t1 : ((s[i].toNat : Int) == 41) = false := u8_ne c1
      have t2 : ((s[i].toNat : Int) == 123) = false := u8_ne c2
      have t3 : ((s[i].toNat : Int) == 125) = false := u8_ne c3
      have t4 : ((s[i].toNat : Int) == 44) = false := u8_ne c4
      have t5 : ((s[i].toNat : Int) == 59) = false := u8_ne c5
      have t6 : ((s[i].toNat : Int) == 58) = false := u8_ne c6
      have t7 : ((s[i].toNat : Int) == 61) = true := by simp [c7]
      clear hd hc c0 c1 c2 c3 c4 c5 c6 c7
      go_enter Try.func30, Try.ntmps30
      go_wp2_with fail
      go_ret
      exact ⟨rfl, rfl⟩
    by_cases c8 : s[i].toNat = 33
    · rw [show signLen ((bl s).drop i) = 1 from by unfold signLen; rw [hc, hd]; simp [c8, singles]]
      have t0 : ((s[i].toNat : Int) == 40) = false := u8_ne c0
      have t1 : ((s[i].toNat : Int) == 41) = false := u8_ne c1
      have t2 : ((s[i].toNat : Int) == 123) = false := u8_ne c2
      have t3 : ((s[i].toNat : Int) == 125) = false := u8_ne c3
      have t4 : ((s[i].toNat : Int) == 44) = false := u8_ne c4
      have t5 : ((s[i].toNat : Int) == 59) = false := u8_ne c5
      have t6 : ((s[i].toNat : Int) == 58) = false := u8_ne c6
      have t7 : ((s[i].toNat : Int) == 61) = false := u8_ne c7
      have t8 : ((s[i].toNat : Int) == 33) = true := by simp [c8]
      clear hd hc c0 c1 c2 c3 c4 c5 c6 c7 c8
      go_enter Try.func30, Try.ntmps30
      go_wp2_with fail
      go_ret
      exact ⟨rfl, rfl⟩
    by_cases c9 : s[i].toNat = 60
    · rw [show signLen ((bl s).drop i) = 1 from by unfold signLen; rw [hc, hd]; simp [c9, singles]]
      have t0 : ((s[i].toNat : Int) == 40) = false := u8_ne c0
      have t1 : ((s[i].toNat : Int) == 41) = false := u8_ne c1
      have t2 : ((s[i].toNat : Int) == 123) = false := u8_ne c2
      have t3 : ((s[i].toNat : Int) == 125) = false := u8_ne c3
      have t4 : ((s[i].toNat : Int) == 44) = false := u8_ne c4
      have t5 : ((s[i].toNat : Int) == 59) = false := u8_ne c5
      have t6 : ((s[i].toNat : Int) == 58) = false := u8_ne c6
      have t7 : ((s[i].toNat : Int) == 61) = false := u8_ne c7
      have t8 : ((s[i].toNat : Int) == 33) = false := u8_ne c8
      have t9 : ((s[i].toNat : Int) == 60) = true := by simp [c9]
      clear hd hc c0 c1 c2 c3 c4 c5 c6 c7 c8 c9
      go_enter Try.func30, Try.ntmps30
      go_wp2_with fail
      go_ret
      exact ⟨rfl, rfl⟩
    by_cases c10 : s[i].toNat = 62
    · rw [show signLen ((bl s).drop i) = 1 from by unfold signLen; rw [hc, hd]; simp [c10, singles]]
      have t0 : ((s[i].toNat : Int) == 40) = false := u8_ne c0
      have t1 : ((s[i].toNat : Int) == 41) = false := u8_ne c1
      have t2 : ((s[i].toNat : Int) == 123) = false := u8_ne c2
      have t3 : ((s[i].toNat : Int) == 125) = false := u8_ne c3
      have t4 : ((s[i].toNat : Int) == 44) = false := u8_ne c4
      have t5 : ((s[i].toNat : Int) == 59) = false := u8_ne c5
      have t6 : ((s[i].toNat : Int) == 58) = false := u8_ne c6
      have t7 : ((s[i].toNat : Int) == 61) = false := u8_ne c7
      have t8 : ((s[i].toNat : Int) == 33) = false := u8_ne c8
      have t9 : ((s[i].toNat : Int) == 60) = false := u8_ne c9
      have t10 : ((s[i].toNat : Int) == 62) = true := by simp [c10]
      clear hd hc c0 c1 c2 c3 c4 c5 c6 c7 c8 c9 c10
      go_enter Try.func30, Try.ntmps30
      go_wp2_with fail
      go_ret
      exact ⟨rfl, rfl⟩
    by_cases c11 : s[i].toNat = 43
    · rw [show signLen ((bl s).drop i) = 1 from by unfold signLen; rw [hc, hd]; simp [c11, singles]]
      have t0 : ((s[i].toNat : Int) == 40) = false := u8_ne c0
      have t1 : ((s[i].toNat : Int) == 41) = false := u8_ne c1
      have t2 : ((s[i].toNat : Int) == 123) = false := u8_ne c2
      have t3 : ((s[i].toNat : Int) == 125) = false := u8_ne c3
      have t4 : ((s[i].toNat : Int) == 44) = false := u8_ne c4
      have t5 : ((s[i].toNat : Int) == 59) = false := u8_ne c5
      have t6 : ((s[i].toNat : Int) == 58) = false := u8_ne c6
      have t7 : ((s[i].toNat : Int) == 61) = false := u8_ne c7
      have t8 : ((s[i].toNat : Int) == 33) = false := u8_ne c8
      have t9 : ((s[i].toNat : Int) == 60) = false := u8_ne c9
      have t10 : ((s[i].toNat : Int) == 62) = false := u8_ne c10
      have t11 : ((s[i].toNat : Int) == 43) = true := by simp [c11]
      clear hd hc c0 c1 c2 c3 c4 c5 c6 c7 c8 c9 c10 c11
      go_enter Try.func30, Try.ntmps30
      go_wp2_with fail
      go_ret
      exact ⟨rfl, rfl⟩
    by_cases c12 : s[i].toNat = 45
    · rw [show signLen ((bl s).drop i) = 1 from by unfold signLen; rw [hc, hd]; simp [c12, singles]]
      have t0 : ((s[i].toNat : Int) == 40) = false := u8_ne c0
      have t1 : ((s[i].toNat : Int) == 41) = false := u8_ne c1
      have t2 : ((s[i].toNat : Int) == 123) = false := u8_ne c2
      have t3 : ((s[i].toNat : Int) == 125) = false := u8_ne c3
      have t4 : ((s[i].toNat : Int) == 44) = false := u8_ne c4
      have t5 : ((s[i].toNat : Int) == 59) = false := u8_ne c5
      have t6 : ((s[i].toNat : Int) == 58) = false := u8_ne c6
      have t7 : ((s[i].toNat : Int) == 61) = false := u8_ne c7
      have t8 : ((s[i].toNat : Int) == 33) = false := u8_ne c8
      have t9 : ((s[i].toNat : Int) == 60) = false := u8_ne c9
      have t10 : ((s[i].toNat : Int) == 62) = false := u8_ne c10
      have t11 : ((s[i].toNat : Int) == 43) = false := u8_ne c11
      have t12 : ((s[i].toNat : Int) == 45) = true := by simp [c12]
      clear hd hc c0 c1 c2 c3 c4 c5 c6 c7 c8 c9 c10 c11 c12
      go_enter Try.func30, Try.ntmps30
      go_wp2_with fail
      go_ret
      exact ⟨rfl, rfl⟩
    by_cases c13 : s[i].toNat = 42
    · rw [show signLen ((bl s).drop i) = 1 from by unfold signLen; rw [hc, hd]; simp [c13, singles]]
      have t0 : ((s[i].toNat : Int) == 40) = false := u8_ne c0
      have t1 : ((s[i].toNat : Int) == 41) = false := u8_ne c1
      have t2 : ((s[i].toNat : Int) == 123) = false := u8_ne c2
      have t3 : ((s[i].toNat : Int) == 125) = false := u8_ne c3
      have t4 : ((s[i].toNat : Int) == 44) = false := u8_ne c4
      have t5 : ((s[i].toNat : Int) == 59) = false := u8_ne c5
      have t6 : ((s[i].toNat : Int) == 58) = false := u8_ne c6
      have t7 : ((s[i].toNat : Int) == 61) = false := u8_ne c7
      have t8 : ((s[i].toNat : Int) == 33) = false := u8_ne c8
      have t9 : ((s[i].toNat : Int) == 60) = false := u8_ne c9
      have t10 : ((s[i].toNat : Int) == 62) = false := u8_ne c10
      have t11 : ((s[i].toNat : Int) == 43) = false := u8_ne c11
      have t12 : ((s[i].toNat : Int) == 45) = false := u8_ne c12
      have t13 : ((s[i].toNat : Int) == 42) = true := by simp [c13]
      clear hd hc c0 c1 c2 c3 c4 c5 c6 c7 c8 c9 c10 c11 c12 c13
      go_enter Try.func30, Try.ntmps30
      go_wp2_with fail
      go_ret
      exact ⟨rfl, rfl⟩
    by_cases c14 : s[i].toNat = 47
    · rw [show signLen ((bl s).drop i) = 1 from by unfold signLen; rw [hc, hd]; simp [c14, singles]]
      have t0 : ((s[i].toNat : Int) == 40) = false := u8_ne c0
      have t1 : ((s[i].toNat : Int) == 41) = false := u8_ne c1
      have t2 : ((s[i].toNat : Int) == 123) = false := u8_ne c2
      have t3 : ((s[i].toNat : Int) == 125) = false := u8_ne c3
      have t4 : ((s[i].toNat : Int) == 44) = false := u8_ne c4
      have t5 : ((s[i].toNat : Int) == 59) = false := u8_ne c5
      have t6 : ((s[i].toNat : Int) == 58) = false := u8_ne c6
      have t7 : ((s[i].toNat : Int) == 61) = false := u8_ne c7
      have t8 : ((s[i].toNat : Int) == 33) = false := u8_ne c8
      have t9 : ((s[i].toNat : Int) == 60) = false := u8_ne c9
      have t10 : ((s[i].toNat : Int) == 62) = false := u8_ne c10
      have t11 : ((s[i].toNat : Int) == 43) = false := u8_ne c11
      have t12 : ((s[i].toNat : Int) == 45) = false := u8_ne c12
      have t13 : ((s[i].toNat : Int) == 42) = false := u8_ne c13
      have t14 : ((s[i].toNat : Int) == 47) = true := by simp [c14]
      clear hd hc c0 c1 c2 c3 c4 c5 c6 c7 c8 c9 c10 c11 c12 c13 c14
      go_enter Try.func30, Try.ntmps30
      go_wp2_with fail
      go_ret
      exact ⟨rfl, rfl⟩
    by_cases c15 : s[i].toNat = 37
    · rw [show signLen ((bl s).drop i) = 1 from by unfold signLen; rw [hc, hd]; simp [c15, singles]]
      have t0 : ((s[i].toNat : Int) == 40) = false := u8_ne c0
      have t1 : ((s[i].toNat : Int) == 41) = false := u8_ne c1
      have t2 : ((s[i].toNat : Int) == 123) = false := u8_ne c2
      have t3 : ((s[i].toNat : Int) == 125) = false := u8_ne c3
      have t4 : ((s[i].toNat : Int) == 44) = false := u8_ne c4
      have t5 : ((s[i].toNat : Int) == 59) = false := u8_ne c5
      have t6 : ((s[i].toNat : Int) == 58) = false := u8_ne c6
      have t7 : ((s[i].toNat : Int) == 61) = false := u8_ne c7
      have t8 : ((s[i].toNat : Int) == 33) = false := u8_ne c8
      have t9 : ((s[i].toNat : Int) == 60) = false := u8_ne c9
      have t10 : ((s[i].toNat : Int) == 62) = false := u8_ne c10
      have t11 : ((s[i].toNat : Int) == 43) = false := u8_ne c11
      have t12 : ((s[i].toNat : Int) == 45) = false := u8_ne c12
      have t13 : ((s[i].toNat : Int) == 42) = false := u8_ne c13
      have t14 : ((s[i].toNat : Int) == 47) = false := u8_ne c14
      have t15 : ((s[i].toNat : Int) == 37) = true := by simp [c15]
      clear hd hc c0 c1 c2 c3 c4 c5 c6 c7 c8 c9 c10 c11 c12 c13 c14 c15
      go_enter Try.func30, Try.ntmps30
      go_wp2_with fail
      go_ret
      exact ⟨rfl, rfl⟩
    rw [show signLen ((bl s).drop i) = 0 from by unfold signLen; rw [hc, hd]; simp [singles, c0, c1, c2, c3, c4, c5, c6, c7, c8, c9, c10, c11, c12, c13, c14, c15]]
    have t0 : ((s[i].toNat : Int) == 40) = false := u8_ne c0
    have t1 : ((s[i].toNat : Int) == 41) = false := u8_ne c1
    have t2 : ((s[i].toNat : Int) == 123) = false := u8_ne c2
    have t3 : ((s[i].toNat : Int) == 125) = false := u8_ne c3
    have t4 : ((s[i].toNat : Int) == 44) = false := u8_ne c4
    have t5 : ((s[i].toNat : Int) == 59) = false := u8_ne c5
    have t6 : ((s[i].toNat : Int) == 58) = false := u8_ne c6
    have t7 : ((s[i].toNat : Int) == 61) = false := u8_ne c7
    have t8 : ((s[i].toNat : Int) == 33) = false := u8_ne c8
    have t9 : ((s[i].toNat : Int) == 60) = false := u8_ne c9
    have t10 : ((s[i].toNat : Int) == 62) = false := u8_ne c10
    have t11 : ((s[i].toNat : Int) == 43) = false := u8_ne c11
    have t12 : ((s[i].toNat : Int) == 45) = false := u8_ne c12
    have t13 : ((s[i].toNat : Int) == 42) = false := u8_ne c13
    have t14 : ((s[i].toNat : Int) == 47) = false := u8_ne c14
    have t15 : ((s[i].toNat : Int) == 37) = false := u8_ne c15
    clear hd hc c0 c1 c2 c3 c4 c5 c6 c7 c8 c9 c10 c11 c12 c13 c14 c15
    go_enter Try.func30, Try.ntmps30
    go_wp2_with fail
    go_ret
    exact ⟨rfl, rfl⟩
end Go.Proofs.Ytbaffdehhcfffaa.Lx
