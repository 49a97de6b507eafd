/- What the Go text of Names computes: true; it lays new blocks and writes nothing that was there. Conditions: none. -/
import Derived.Test.YthmcfdlnhnpnhaaRows
import Derived.Below
import Derived.WalkSmall
import Derived.WalkKit
import Derived.WalkSpells
import Derived.Great.BuildSlice
import Derived.Deep.QuietTactic
import Derived.BigQuiet
namespace Go.Proofs.Ythmcfdlnhnpnhaa.names
open Go.RowKit
def zs : List Int := [0, 1, 2, 3, 4, 5, 6, 7, 8, 9, 100000, 2000, 8, 16, 16, 8, 16, 200, 12, 20, 100, 1000000, 0, 1, 2, 3, 4, 1, 2, 3, 4, 5, 6, 7, 8, 9, 10, 11, 12, 13, 14, 15, 16, 17, 1, 2, 3, 4, 5, 6, 7, 8, 9, 10, 1, 2, 3, 4, 5, 1, 2, 3, 0, -1, 1, 2, 3, 4, 5, 6, 1, 2, 3, 4, 5, 6, 1, 2, 3, 4]
theorem zs_len : 80 = zs.length := by decide
def arr : Array Value := (zs.map (Value.int .i64)).toArray
theorem arr_get (k : Nat) (h : k < 80) : arr[k]? = some (.int .i64 (zs.getD k 0)) := by
  unfold arr
  have : k < zs.length := by rw [← zs_len]; exact h
  simp [this]
set_option maxHeartbeats 400000 in
set_option maxRecDepth 100000 in
theorem walk (w : World) :
    Calls Try.prog 3 #[] w fun e w' => e = .returned (.bool true) ∧ Below w.heap.size w w' := by
  go_enter Try.func3, Try.ntmps3
  go_wp2_with (refine wpList_buildFlat (h := ?_) (hg := rfl) 22 3 80 _ rfl .i64 zs Try.underlying22 (by kernel_rfl) (by kernel_rfl) zs_len (by decide) (by decide) (by kernel_rfl); (try change wpList _ _ _ _ _ (World.alloc _ (.cells arr 3))))
  have hlt : w.heap.size < w.heap.size + 1 := by omega
  go_loopw [3] (fun i wr => ∃ k n : Nat, k ≤ 80 ∧ i = .int .i64 k ∧ wr = ((w.alloc (.cells arr 3)).alloc (.cells arr 3)).drewN n) (fun i _ => (80 - intOf i).toNat)
  case atStart => exact ⟨0, 0, by omega, rfl, rfl⟩
  case round =>
    obtain ⟨k, n, hk, rfl, rfl⟩ := hrel
    by_cases hk2 : k < 80
    · have hg := arr_get k hk2
      have h80 : (k : Int) < 80 := by omega
      have h0 : (0 : Int) ≤ (k : Int) := by omega
      go_wp2_with fail
      go_quiet (fail)
      go_wp2
      go_roundw
      case rel => exact ⟨k + 1, n + nq, by omega, by go_num, rfl⟩
      case measure => simp [intOf]; omega
    · have hk3 : ¬ (k : Int) < 80 := by omega
      go_wp2
      go_ret
      exact ⟨rfl, below_drewN (((Below.refl _ w).alloc (Nat.le_refl _) _).alloc (by simp) _) n⟩
end Go.Proofs.Ythmcfdlnhnpnhaa.names
