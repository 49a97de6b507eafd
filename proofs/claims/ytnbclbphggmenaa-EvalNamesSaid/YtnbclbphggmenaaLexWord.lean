/- What the Go function lex.Word computes: is a text one of the thirteen words? Conditions: none. -/
import Derived.Test.YtnbclbphggmenaaLexW
namespace Go.Proofs.Ytnbclbphggmenaa.Lx
open Go.RowKit
set_option maxHeartbeats 2000000 in
theorem word_any (s : ByteArray) (w : World) : Calls Try.prog 104 #[.string s] w fun e w' => e = .returned (.bool (isWord (bl s))) ∧ w = w' := by
  have he := toList_bl s
  by_cases h0 : bl s = [103, 108, 111, 98, 97, 108]
  · have hr : isWord (bl s) = true := by rw [h0]; rfl
    rw [hr]; rw [h0] at he
    have q0 : (s.toList == [103, 108, 111, 98, 97, 108]) = true := by rw [he]; rfl
    clear he hr h0
    go_enter Try.func104, Try.ntmps104
    go_wp2_with fail
    go_ret
    exact ⟨rfl, rfl⟩
  by_cases h1 : bl s = [112, 114, 111, 99]
  · have hr : isWord (bl s) = true := by rw [h1]; rfl
    rw [hr]; rw [h1] at he
    have q0 : (s.toList == [103, 108, 111, 98, 97, 108]) = false := by rw [he]; rfl
    have q1 : (s.toList == [112, 114, 111, 99]) = true := by rw [he]; rfl
    clear he hr h0 h1
    go_enter Try.func104, Try.ntmps104
    go_wp2_with fail
    go_ret
    exact ⟨rfl, rfl⟩
  by_cases h2 : bl s = [118, 97, 114]
  · have hr : isWord (bl s) = true := by rw [h2]; rfl
    rw [hr]; rw [h2] at he
    have q0 : (s.toList == [103, 108, 111, 98, 97, 108]) = false := by rw [he]; rfl
    have q1 : (s.toList == [112, 114, 111, 99]) = false := by rw [he]; rfl
    have q2 : (s.toList == [118, 97, 114]) = true := by rw [he]; rfl
    clear he hr h0 h1 h2
    go_enter Try.func104, Try.ntmps104
    go_wp2_with fail
    go_ret
    exact ⟨rfl, rfl⟩
  by_cases h3 : bl s = [114, 101, 102]
  · have hr : isWord (bl s) = true := by rw [h3]; rfl
    rw [hr]; rw [h3] at he
    have q0 : (s.toList == [103, 108, 111, 98, 97, 108]) = false := by rw [he]; rfl
    have q1 : (s.toList == [112, 114, 111, 99]) = false := by rw [he]; rfl
    have q2 : (s.toList == [118, 97, 114]) = false := by rw [he]; rfl
    have q3 : (s.toList == [114, 101, 102]) = true := by rw [he]; rfl
    clear he hr h0 h1 h2 h3
    go_enter Try.func104, Try.ntmps104
    go_wp2_with fail
    go_ret
    exact ⟨rfl, rfl⟩
  by_cases h4 : bl s = [105, 102]
  · have hr : isWord (bl s) = true := by rw [h4]; rfl
    rw [hr]; rw [h4] at he
    have q0 : (s.toList == [103, 108, 111, 98, 97, 108]) = false := by rw [he]; rfl
    have q1 : (s.toList == [112, 114, 111, 99]) = false := by rw [he]; rfl
    have q2 : (s.toList == [118, 97, 114]) = false := by rw [he]; rfl
    have q3 : (s.toList == [114, 101, 102]) = false := by rw [he]; rfl
    have q4 : (s.toList == [105, 102]) = true := by rw [he]; rfl
    clear he hr h0 h1 h2 h3 h4
    go_enter Try.func104, Try.ntmps104
    go_wp2_with fail
    go_ret
    exact ⟨rfl, rfl⟩
  by_cases h5 : bl s = [101, 108, 115, 101]
  · have hr : isWord (bl s) = true := by rw [h5]; rfl
    rw [hr]; rw [h5] at he
    have q0 : (s.toList == [103, 108, 111, 98, 97, 108]) = false := by rw [he]; rfl
    have q1 : (s.toList == [112, 114, 111, 99]) = false := by rw [he]; rfl
    have q2 : (s.toList == [118, 97, 114]) = false := by rw [he]; rfl
    have q3 : (s.toList == [114, 101, 102]) = false := by rw [he]; rfl
    have q4 : (s.toList == [105, 102]) = false := by rw [he]; rfl
    have q5 : (s.toList == [101, 108, 115, 101]) = true := by rw [he]; rfl
    clear he hr h0 h1 h2 h3 h4 h5
    go_enter Try.func104, Try.ntmps104
    go_wp2_with fail
    go_ret
    exact ⟨rfl, rfl⟩
  by_cases h6 : bl s = [119, 104, 105, 108, 101]
  · have hr : isWord (bl s) = true := by rw [h6]; rfl
    rw [hr]; rw [h6] at he
    have q0 : (s.toList == [103, 108, 111, 98, 97, 108]) = false := by rw [he]; rfl
    have q1 : (s.toList == [112, 114, 111, 99]) = false := by rw [he]; rfl
    have q2 : (s.toList == [118, 97, 114]) = false := by rw [he]; rfl
    have q3 : (s.toList == [114, 101, 102]) = false := by rw [he]; rfl
    have q4 : (s.toList == [105, 102]) = false := by rw [he]; rfl
    have q5 : (s.toList == [101, 108, 115, 101]) = false := by rw [he]; rfl
    have q6 : (s.toList == [119, 104, 105, 108, 101]) = true := by rw [he]; rfl
    clear he hr h0 h1 h2 h3 h4 h5 h6
    go_enter Try.func104, Try.ntmps104
    go_wp2_with fail
    go_ret
    exact ⟨rfl, rfl⟩
  by_cases h7 : bl s = [98, 114, 101, 97, 107]
  · have hr : isWord (bl s) = true := by rw [h7]; rfl
    rw [hr]; rw [h7] at he
    have q0 : (s.toList == [103, 108, 111, 98, 97, 108]) = false := by rw [he]; rfl
    have q1 : (s.toList == [112, 114, 111, 99]) = false := by rw [he]; rfl
    have q2 : (s.toList == [118, 97, 114]) = false := by rw [he]; rfl
    have q3 : (s.toList == [114, 101, 102]) = false := by rw [he]; rfl
    have q4 : (s.toList == [105, 102]) = false := by rw [he]; rfl
    have q5 : (s.toList == [101, 108, 115, 101]) = false := by rw [he]; rfl
    have q6 : (s.toList == [119, 104, 105, 108, 101]) = false := by rw [he]; rfl
    have q7 : (s.toList == [98, 114, 101, 97, 107]) = true := by rw [he]; rfl
    clear he hr h0 h1 h2 h3 h4 h5 h6 h7
    go_enter Try.func104, Try.ntmps104
    go_wp2_with fail
    go_ret
    exact ⟨rfl, rfl⟩
  by_cases h8 : bl s = [99, 111, 110, 116, 105, 110, 117, 101]
  · have hr : isWord (bl s) = true := by rw [h8]; rfl
    rw [hr]; rw [h8] at he
    have q0 : (s.toList == [103, 108, 111, 98, 97, 108]) = false := by rw [he]; rfl
    have q1 : (s.toList == [112, 114, 111, 99]) = false := by rw [he]; rfl
    have q2 : (s.toList == [118, 97, 114]) = false := by rw [he]; rfl
    have q3 : (s.toList == [114, 101, 102]) = false := by rw [he]; rfl
    have q4 : (s.toList == [105, 102]) = false := by rw [he]; rfl
    have q5 : (s.toList == [101, 108, 115, 101]) = false := by rw [he]; rfl
    have q6 : (s.toList == [119, 104, 105, 108, 101]) = false := by rw [he]; rfl
    have q7 : (s.toList == [98, 114, 101, 97, 107]) = false := by rw [he]; rfl
    have q8 : (s.toList == [99, 111, 110, 116, 105, 110, 117, 101]) = true := by rw [he]; rfl
    clear he hr h0 h1 h2 h3 h4 h5 h6 h7 h8
    go_enter Try.func104, Try.ntmps104
    go_wp2_with fail
    go_ret
    exact ⟨rfl, rfl⟩
  by_cases h9 : bl s = [114, 101, 116, 117, 114, 110]
  · have hr : isWord (bl s) = true := by rw [h9]; rfl
    rw [hr]; rw [h9] at he
    have q0 : (s.toList == [103, 108, 111, 98, 97, 108]) = false := by rw [he]; rfl
    have q1 : (s.toList == [112, 114, 111, 99]) = false := by rw [he]; rfl
    have q2 : (s.toList == [118, 97, 114]) = false := by rw [he]; rfl
    have q3 : (s.toList == [114, 101, 102]) = false := by rw [he]; rfl
    have q4 : (s.toList == [105, 102]) = false := by rw [he]; rfl
    have q5 : (s.toList == [101, 108, 115, 101]) = false := by rw [he]; rfl
    have q6 : (s.toList == [119, 104, 105, 108, 101]) = false := by rw [he]; rfl
    have q7 : (s.toList == [98, 114, 101, 97, 107]) = false := by rw [he]; rfl
    have q8 : (s.toList == [99, 111, 110, 116, 105, 110, 117, 101]) = false := by rw [he]; rfl
    have q9 : (s.toList == [114, 101, 116, 117, 114, 110]) = true := by rw [he]; rfl
    clear he hr h0 h1 h2 h3 h4 h5 h6 h7 h8 h9
    go_enter Try.func104, Try.ntmps104
    go_wp2_with fail
    go_ret
    exact ⟨rfl, rfl⟩
  by_cases h10 : bl s = [103, 111, 116, 111]
  · have hr : isWord (bl s) = true := by rw [h10]; rfl
    rw [hr]; rw [h10] at he
    have q0 : (s.toList == [103, 108, 111, 98, 97, 108]) = false := by rw [he]; rfl
    have q1 : (s.toList == [112, 114, 111, 99]) = false := by rw [he]; rfl
    have q2 : (s.toList == [118, 97, 114]) = false := by rw [he]; rfl
    have q3 : (s.toList == [114, 101, 102]) = false := by rw [he]; rfl
    have q4 : (s.toList == [105, 102]) = false := by rw [he]; rfl
    have q5 : (s.toList == [101, 108, 115, 101]) = false := by rw [he]; rfl
    have q6 : (s.toList == [119, 104, 105, 108, 101]) = false := by rw [he]; rfl
    have q7 : (s.toList == [98, 114, 101, 97, 107]) = false := by rw [he]; rfl
    have q8 : (s.toList == [99, 111, 110, 116, 105, 110, 117, 101]) = false := by rw [he]; rfl
    have q9 : (s.toList == [114, 101, 116, 117, 114, 110]) = false := by rw [he]; rfl
    have q10 : (s.toList == [103, 111, 116, 111]) = true := by rw [he]; rfl
    clear he hr h0 h1 h2 h3 h4 h5 h6 h7 h8 h9 h10
    go_enter Try.func104, Try.ntmps104
    go_wp2_with fail
    go_ret
    exact ⟨rfl, rfl⟩
  by_cases h11 : bl s = [114, 101, 97, 100]
  · have hr : isWord (bl s) = true := by rw [h11]; rfl
    rw [hr]; rw [h11] at he
    have q0 : (s.toList == [103, 108, 111, 98, 97, 108]) = false := by rw [he]; rfl
    have q1 : (s.toList == [112, 114, 111, 99]) = false := by rw [he]; rfl
    have q2 : (s.toList == [118, 97, 114]) = false := by rw [he]; rfl
    have q3 : (s.toList == [114, 101, 102]) = false := by rw [he]; rfl
    have q4 : (s.toList == [105, 102]) = false := by rw [he]; rfl
    have q5 : (s.toList == [101, 108, 115, 101]) = false := by rw [he]; rfl
    have q6 : (s.toList == [119, 104, 105, 108, 101]) = false := by rw [he]; rfl
    have q7 : (s.toList == [98, 114, 101, 97, 107]) = false := by rw [he]; rfl
    have q8 : (s.toList == [99, 111, 110, 116, 105, 110, 117, 101]) = false := by rw [he]; rfl
    have q9 : (s.toList == [114, 101, 116, 117, 114, 110]) = false := by rw [he]; rfl
    have q10 : (s.toList == [103, 111, 116, 111]) = false := by rw [he]; rfl
    have q11 : (s.toList == [114, 101, 97, 100]) = true := by rw [he]; rfl
    clear he hr h0 h1 h2 h3 h4 h5 h6 h7 h8 h9 h10 h11
    go_enter Try.func104, Try.ntmps104
    go_wp2_with fail
    go_ret
    exact ⟨rfl, rfl⟩
  by_cases h12 : bl s = [112, 114, 105, 110, 116]
  · have hr : isWord (bl s) = true := by rw [h12]; rfl
    rw [hr]; rw [h12] at he
    have q0 : (s.toList == [103, 108, 111, 98, 97, 108]) = false := by rw [he]; rfl
    have q1 : (s.toList == [112, 114, 111, 99]) = false := by rw [he]; rfl
    have q2 : (s.toList == [118, 97, 114]) = false := by rw [he]; rfl
    have q3 : (s.toList == [114, 101, 102]) = false := by rw [he]; rfl
    have q4 : (s.toList == [105, 102]) = false := by rw [he]; rfl
    have q5 : (s.toList == [101, 108, 115, 101]) = false := by rw [he]; rfl
    have q6 : (s.toList == [119, 104, 105, 108, 101]) = false := by rw [he]; rfl
    have q7 : (s.toList == [98, 114, 101, 97, 107]) = false := by rw [he]; rfl
    have q8 : (s.toList == [99, 111, 110, 116, 105, 110, 117, 101]) = false := by rw [he]; rfl
    have q9 : (s.toList == [114, 101, 116, 117, 114, 110]) = false := by rw [he]; rfl
    have q10 : (s.toList == [103, 111, 116, 111]) = false := by rw [he]; rfl
    have q11 : (s.toList == [114, 101, 97, 100]) = false := by rw [he]; rfl
    have q12 : (s.toList == [112, 114, 105, 110, 116]) = true := by rw [he]; rfl
    clear he hr h0 h1 h2 h3 h4 h5 h6 h7 h8 h9 h10 h11 h12
    go_enter Try.func104, Try.ntmps104
    go_wp2_with fail
    go_ret
    exact ⟨rfl, rfl⟩
  have hr : isWord (bl s) = false := by simp [isWord, words, h0, h1, h2, h3, h4, h5, h6, h7, h8, h9, h10, h11, h12]
  rw [hr]; rw [← he] at h0 h1 h2 h3 h4 h5 h6 h7 h8 h9 h10 h11 h12
  have q0 : (s.toList == [103, 108, 111, 98, 97, 108]) = false := by simp [h0]
  have q1 : (s.toList == [112, 114, 111, 99]) = false := by simp [h1]
  have q2 : (s.toList == [118, 97, 114]) = false := by simp [h2]
  have q3 : (s.toList == [114, 101, 102]) = false := by simp [h3]
  have q4 : (s.toList == [105, 102]) = false := by simp [h4]
  have q5 : (s.toList == [101, 108, 115, 101]) = false := by simp [h5]
  have q6 : (s.toList == [119, 104, 105, 108, 101]) = false := by simp [h6]
  have q7 : (s.toList == [98, 114, 101, 97, 107]) = false := by simp [h7]
  have q8 : (s.toList == [99, 111, 110, 116, 105, 110, 117, 101]) = false := by simp [h8]
  have q9 : (s.toList == [114, 101, 116, 117, 114, 110]) = false := by simp [h9]
  have q10 : (s.toList == [103, 111, 116, 111]) = false := by simp [h10]
  have q11 : (s.toList == [114, 101, 97, 100]) = false := by simp [h11]
  have q12 : (s.toList == [112, 114, 105, 110, 116]) = false := by simp [h12]
  clear he hr h0 h1 h2 h3 h4 h5 h6 h7 h8 h9 h10 h11 h12
  go_enter Try.func104, Try.ntmps104
  go_wp2_with fail
  go_ret
  exact ⟨rfl, rfl⟩
end Go.Proofs.Ytnbclbphggmenaa.Lx
