/- What the Go function lex.All computes, at every text. Conditions: the text has at most 2^63 - 1 bytes. -/
import Derived.Test.YtbaffdehhcfffaaLexAll
namespace Go.Proofs.Ytbaffdehhcfffaa.Lx
open Go.RowKit
set_option maxRecDepth 100000 in
theorem all_any (s : ByteArray) (w : World) (hs : s.size ≤ 9223372036854775807) : Calls Try.prog 18 #[.string s] w (AllPost s w) := by
  by_cases h1 : 100000 < s.size
  · have h1' : (100000 : Int) < (s.size : Int) := by omega
    have hr : lexAll (bl s) = ⟨4, 0, []⟩ := by unfold lexAll; rw [if_pos (by rw [bl_len]; exact h1)]
    have HR := Lib.hid hr
    clear hr
    go_enter Try.func18, Try.ntmps18
    go_wp2_with fail
    apply Lands.scope_of
    go_wp2_with fail
    refine bodyPost_ret (v := .tuple #[.slice none 0 0, .agg #[.int .i64 4, .int .i64 0]]) (by simp [results, Try.results18, go_sem]) rfl (all_fault (c := 4) (p := 0) ?_ HR.out)
    exact (((Below.refl _ _).alloc (Nat.le_refl _) _).alloc (by simp) _)
  · exact all_fits s w hs (by omega)
end Go.Proofs.Ytbaffdehhcfffaa.Lx
