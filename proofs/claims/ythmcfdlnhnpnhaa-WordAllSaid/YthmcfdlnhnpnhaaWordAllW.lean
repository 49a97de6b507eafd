/- The law WordAll, walked: it returns true. Conditions: the numbers fit 64 bits. -/
import Derived.Test.YthmcfdlnhnpnhaaWordRefC
import Derived.OpenShut
namespace Go.Proofs.Ythmcfdlnhnpnhaa.Wd
open Go.RowKit
set_option maxHeartbeats 1000000 in
theorem all_walk (op : Int) (_wop : (Lit.int .i64 op).wf = true) (a : Int) (wa : (Lit.int .i64 a).wf = true) (b : Int) (wb : (Lit.int .i64 b).wf = true) (w : World) :
    Calls Try.prog 6 #[.int .i64 op, .int .i64 a, .int .i64 b] w fun e w' => e = .returned (.bool true) ∧ Below w.heap.size w w' := by
  have ha : InI a := bounds_i64 wa
  have hb : InI b := bounds_i64 wb
  go_enter Try.func6, Try.ntmps6
  go_wp2_with (first | (go_at_call 10; refine (worthy_any _).mono ?_; rintro e w' ⟨rfl, rfl⟩) | (go_at_call 14; refine (one_any _ _ _).mono ?_; rintro e w' ⟨rfl, rfl⟩) | (go_at_call 15; refine (rone_any _ _ _).mono ?_; rintro e w' ⟨rfl, rfl⟩) | (go_at_call 11; refine (two_any _ _ _ _ ha hb).mono ?_; rintro e w' ⟨rfl, rfl⟩) | (go_at_call 16; refine (rtwo_any _ _ _ _ ha hb).mono ?_; rintro e w' ⟨rfl, rfl⟩) | (go_at_call 17; refine (truth_any _ _).mono ?_; rintro e w' ⟨rfl, rfl⟩))
  go_ret
  exact ⟨rfl, Below.refl _ _⟩
end Go.Proofs.Ythmcfdlnhnpnhaa.Wd
