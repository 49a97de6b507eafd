/- What the Go function Lex of the reference computes, at every text. Conditions: the text has at most 2^63 - 1 bytes. -/
import Derived.Test.YtbaffdehhcfffaaRefLex
namespace Go.Proofs.Ytbaffdehhcfffaa.Lx
open Go.RowKit
set_option maxRecDepth 100000 in
theorem rlex_any (s : ByteArray) (w : World) (hs : s.size ≤ 9223372036854775807) : Calls Try.prog 19 #[.string s] w (AllPost s w) := by
  by_cases h1 : 100000 < s.size
  · have h1' : (100000 : Int) < (s.size : Int) := by omega
    have hr : lexAll (bl s) = ⟨4, 0, []⟩ := by unfold lexAll; rw [if_pos (by rw [bl_len]; exact h1)]
    have HR := Lib.hid hr
    clear hr
    go_enter Try.func19, Try.ntmps19
    go_wp2_with fail
    refine bodyPost_ret (v := .tuple #[.slice none 0 0, .agg #[.int .i64 4, .int .i64 0]]) (by simp [results, Try.results19, go_sem]) rfl (all_fault (c := 4) (p := 0) ?_ HR.out)
    exact (Below.refl _ _).alloc (Nat.le_refl _) _
  · exact rlex_fits s w hs h1
end Go.Proofs.Ytbaffdehhcfffaa.Lx
