/- What Dec of the reference computes: a number's digits. Conditions: the number is not below 0. -/
import Derived.Test.YtbaffdehhcfffaaMod
import Derived.RegionTactic
import Derived.Deep.RegionWith
import Derived.Laws.IdiomStrings
namespace Go.Proofs.Ytbaffdehhcfffaa.Lx
open Go.RowKit
/-- A number's digits as a string. -/
def decS (n : Nat) : ByteArray := ⟨(dec n).toArray⟩
theorem bl_decS (n : Nat) : bl (decS n) = dec n := by unfold bl decS; simp
theorem dec_short : ∀ n : Nat, (dec n).length ≤ n / 10 + 1 := by
  intro n
  induction n using Nat.strongRecOn with
  | ind n ih =>
    by_cases h : n < 10
    · rw [dec_small h]; simp
    · have := ih (n / 10) (by omega)
      rw [dec_big h]; simp; omega
theorem decS_size (n : Nat) : (decS n).size = (dec n).length := by unfold decS; show (dec n).toArray.size = _; simp
theorem one_byte (d : Nat) (hd : d < 256) (z : Int) (hz : z = d) (w : World) (g : Nat) (h : w.cell? ⟨g, 0, none⟩ = some (.int .u8 z)) :
    (convert 52 9 (.slice (some ⟨g, 0, none⟩) 1 1)).run Try.prog w = .ok (.string ⟨#[UInt8.ofNat d]⟩) w := by
  subst hz
  refine run_convert_bytes_back w 52 9 5 ⟨g, 0, none⟩ 1 [UInt8.ofNat d] Try.underlying52 Try.underlying5 Try.underlying9 ?_
  intro j hj
  obtain rfl : j = 0 := by simpa using hj
  rw [Addr.add_lit, h]
  simp only [List.getElem_cons_zero]
  rw [show (UInt8.ofNat d).toNat = d by rw [UInt8.toNat_ofNat']; omega]
theorem bcell {W w1 : World} (hb : Below W.heap.size W w1) : ∀ b o, b < W.heap.size → w1.cell? ⟨b, o, none⟩ = W.cell? ⟨b, o, none⟩ :=
  fun b o h => hb.cell (p := ⟨b, o, none⟩) h
set_option maxHeartbeats 2000000 in
theorem digits_any : ∀ (n : Nat) (w : World), n ≤ 18446744073709551615 →
    Calls Try.prog 35 #[.int .u64 n] w fun e w' => e = .returned (.string (decS n)) ∧ Below w.heap.size w w' := by
  intro n
  induction n using Nat.strongRecOn with
  | ind n ih =>
    intro w hn
    by_cases h : n < 10
    · have h' : (n : Int) < 10 := by omega
      have hb : decS n = ⟨#[UInt8.ofNat (48 + n)]⟩ := by unfold decS; rw [dec_small h]
      have HB := Lib.hid hb
      have kc := one_byte (48 + n) (by omega) (48 + (n : Int)) rfl
      clear hb ih
      go_enter Try.func35, Try.ntmps35
      go_wp2
      go_ret
      refine ⟨?_, (Below.refl _ _).alloc (Nat.le_refl _) _⟩
      rw [HB.out]; simp
    · have h' : ¬ (n : Int) < 10 := by omega
      have h10 : n / 10 < n := by omega
      have hb : decS n = decS (n / 10) ++ ⟨#[UInt8.ofNat (48 + n % 10)]⟩ := by unfold decS; rw [dec_big h]; rfl
      have HB := Lib.hid hb
      have IH := Lib.hid (fun w => ih (n / 10) h10 w (by omega))
      have q1 : IntKind.u64.wrap ((n : Int) / 10) = ((n / 10 : Nat) : Int) := IntWalk.u64_in _ (by omega)
      have q2 : (n : Int).tmod 10 = (n : Int) % 10 := rfl
      have hm : n % 10 ≤ 9 := by omega
      have q3 : IntKind.u64.wrap (48 + (n : Int) % 10) = ((48 + n % 10 : Nat) : Int) := IntWalk.u64_in _ (by omega)
      have q4 : IntKind.u8.wrap ((48 + n % 10 : Nat) : Int) = ((48 + n % 10 : Nat) : Int) := IntWalk.u8_in _ (by omega)
      have kc := one_byte (48 + n % 10) (by omega) _ rfl
      have hsz : (decS (n / 10)).size ≤ 1000000000000000000 := by rw [decS_size]; have := dec_short (n / 10); omega
      generalize n / 10 = a at *
      generalize 48 + n % 10 = d at *
      clear hb ih h10 h
      go_enter Try.func35, Try.ntmps35
      go_wp2
      go_region_with (go_at_call 35; refine (IH.out _).mono ?_; rintro e w' ⟨rfl, hb⟩; have hc := bcell hb; have HBX := Lib.hid hb; clear hb)
      all_goals
        go_wp2
        go_ret
        refine ⟨(show Ending.returned (.string (decS a ++ ⟨#[UInt8.ofNat d]⟩)) = _ by rw [HB.out]), ?_⟩
        first
          | exact ((Below.refl _ w).drew.trans HBX.out).alloc HBX.out.size _
          | exact (((Below.refl _ w).alloc (Nat.le_refl _) _).drew).trans (HBX.out.mono (by simp))
          | (go_goals; sorry)
theorem dec_any (n : Nat) (w : World) (hn : n ≤ 9223372036854775807) :
    Calls Try.prog 27 #[.int .i64 n] w fun e w' => e = .returned (.string (decS n)) ∧ Below w.heap.size w w' := by
  have h0 : ¬ (n : Int) < 0 := by omega
  have q1 : IntKind.u64.wrap (n : Int) = (n : Int) := IntWalk.u64_in _ (by omega)
  go_enter Try.func27, Try.ntmps27
  go_wp2_with fail
  refine (digits_any n _ (by omega)).mono ?_
  rintro e w' ⟨rfl, hb⟩
  have HB := Lib.hid hb
  clear hb
  go_wp2
  go_ret
  exact ⟨rfl, HB.out⟩
end Go.Proofs.Ytbaffdehhcfffaa.Lx
