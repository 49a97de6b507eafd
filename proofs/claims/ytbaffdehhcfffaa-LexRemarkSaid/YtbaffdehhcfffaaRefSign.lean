/- What the Go function sign of the reference computes: how long the sign is with which a text begins. Conditions: the text is not empty. -/
import Derived.Test.YtbaffdehhcfffaaRefW
import Derived.Test.YtbaffdehhcfffaaLexMem
import Derived.Lib.SlBytesConst
namespace Go.Proofs.Ytbaffdehhcfffaa.Lx
open Go.RowKit
def pairAt (k : Nat) : ByteArray := ⟨(pairs.getD k []).toArray⟩
def pairArr : Array Value := ((List.range 6).map fun k => Value.string (pairAt k)).toArray
theorem pairArr_get (k : Nat) (h : k < 6) : pairArr[k]? = some (.string (pairAt k)) := by
  unfold pairArr; simp [h]
theorem pairAt_bl (k : Nat) : (pairAt k).toList = pairs.getD k [] := by unfold pairAt; exact ByteArray.toList_mk _
def oneAt (k : Nat) : Int := singles.getD k 0
def oneArr : Array Value := ((List.range 16).map fun k => Value.int .u8 (oneAt k)).toArray
theorem oneArr_get (k : Nat) (h : k < 16) : oneArr[k]? = some (.int .u8 (oneAt k)) := by
  unfold oneArr; simp [h]
theorem pair_before (t : List UInt8) (h : ∀ i, i < 6 → pairs.getD i [] ≠ t) : pairs.contains t = false := by
  have h0 := h 0 (by decide); have h1 := h 1 (by decide); have h2 := h 2 (by decide); have h3 := h 3 (by decide); have h4 := h 4 (by decide); have h5 := h 5 (by decide)
  simp only [pairs, List.getD_cons_zero, List.getD_cons_succ, ne_eq] at h0 h1 h2 h3 h4 h5
  simp [pairs, Ne.symm h0, Ne.symm h1, Ne.symm h2, Ne.symm h3, Ne.symm h4, Ne.symm h5]
theorem pair_found (t : List UInt8) (i : Nat) (hi : i < 6) (h : pairs.getD i [] = t) : pairs.contains t = true := by
  rw [← h]
  have hl : i < pairs.length := hi
  rw [show pairs.getD i [] = pairs[i] from by simp [hl]]
  exact List.contains_iff_mem.2 (List.getElem_mem hl)
theorem one_before (c : Nat) (h : ∀ i, i < 16 → singles.getD i 0 ≠ c) : singles.contains c = false := by
  have h0 := h 0 (by decide); have h1 := h 1 (by decide); have h2 := h 2 (by decide); have h3 := h 3 (by decide); have h4 := h 4 (by decide); have h5 := h 5 (by decide)
  have h6 := h 6 (by decide); have h7 := h 7 (by decide); have h8 := h 8 (by decide); have h9 := h 9 (by decide); have h10 := h 10 (by decide); have h11 := h 11 (by decide)
  have h12 := h 12 (by decide); have h13 := h 13 (by decide); have h14 := h 14 (by decide); have h15 := h 15 (by decide)
  simp only [singles, List.getD_cons_zero, List.getD_cons_succ, ne_eq] at h0 h1 h2 h3 h4 h5 h6 h7 h8 h9 h10 h11 h12 h13 h14 h15
  simp [singles, Ne.symm h0, Ne.symm h1, Ne.symm h2, Ne.symm h3, Ne.symm h4, Ne.symm h5, Ne.symm h6, Ne.symm h7, Ne.symm h8, Ne.symm h9, Ne.symm h10, Ne.symm h11, Ne.symm h12, Ne.symm h13, Ne.symm h14, Ne.symm h15]
theorem one_found (c : Nat) (i : Nat) (hi : i < 16) (h : singles.getD i 0 = c) : singles.contains c = true := by
  rw [← h]
  have hl : i < singles.length := hi
  rw [show singles.getD i 0 = singles[i] from by simp [hl]]
  exact List.contains_iff_mem.2 (List.getElem_mem hl)
theorem pair_two (i : Nat) (hi : i < 6) : (pairs.getD i []).length = 2 := by
  rcases (show i = 0 ∨ i = 1 ∨ i = 2 ∨ i = 3 ∨ i = 4 ∨ i = 5 by omega) with rfl | rfl | rfl | rfl | rfl | rfl <;> rfl
set_option maxHeartbeats 1000000 in
theorem rsign_any (s : ByteArray) (w : World) (h0 : 0 < s.size) :
    Calls Try.prog 41 #[.string s] w fun e w' => e = .returned (.int .i64 (signLen (bl s) : Nat)) ∧ Below w.heap.size w w' := by
  have hc0 : bl s = s[0] :: (bl s).drop 1 := by have := bl_drop s 0 h0; rwa [List.drop_zero] at this
  have HC := Lib.hid hc0
  clear hc0
  have hex : (s.extract 0 2).toList = (bl s).take 2 := by rw [toList_bl, ext_bl, List.drop_zero]
  have HX := Lib.hid hex
  clear hex
  go_enter Try.func41, Try.ntmps41
  go_wp2_with fail
  refine cut_world (fun w' => w' = w.alloc (.cells pairArr 9)) rfl ?_
  rintro _ rfl
  go_loop [9] (fun v => ∃ k : Nat, k ≤ 6 ∧ v = .int .i64 k ∧ ∀ i, i < k → pairs.getD i [] ≠ (bl s).take 2) (fun v => (6 - intOf v).toNat)
  case atStart => exact ⟨0, by omega, rfl, fun i h => by omega⟩
  case round =>
    obtain ⟨k, hk, rfl, hno⟩ := hrel
    have HNO := Lib.hid hno
    clear hno
    by_cases hlt : k < 6
    · have hlt' : (k : Int) < 6 := by omega
      have hg := pairArr_get k hlt
      by_cases h2 : 2 ≤ s.size
      · have h2' : (2 : Int) ≤ (s.size : Int) := by omega
        by_cases hw : pairs.getD k [] = (bl s).take 2
        · have ht : ((s.extract 0 2).toList == (pairAt k).toList) = true := by rw [pairAt_bl, HX.out, hw]; simp
          have hR : signLen (bl s) = 2 := by unfold signLen; rw [pair_found _ k hlt hw]; rfl
          have HR := Lib.hid hR
          clear hw hR
          go_wp2_with fail
          go_ret
          exact ⟨by rw [HR.out]; rfl, (Below.refl _ _).alloc (Nat.le_refl _) _⟩
        · have ht : ((s.extract 0 2).toList == (pairAt k).toList) = false := by rw [pairAt_bl, HX.out]; simpa using Ne.symm hw
          have HW := Lib.hid hw
          clear hw
          go_wp2_with fail
          go_round
          case rel => exact ⟨k + 1, by omega, by go_num, fun i hi => by
            by_cases e : i = k
            · subst e; exact HW.out
            · exact HNO.out i (by omega)⟩
          case measure => simp [intOf]; omega
      · have h2' : ¬ (2 : Int) ≤ (s.size : Int) := by omega
        have HW : Hid (pairs.getD k [] ≠ (bl s).take 2) := by
          refine Lib.hid fun h => ?_
          have h3 := pair_two k hlt
          rw [h, List.length_take, bl_len] at h3
          omega
        go_wp2_with fail
        go_round
        case rel => exact ⟨k + 1, by omega, by go_num, fun i hi => by
          by_cases e : i = k
          · subst e; exact HW.out
          · exact HNO.out i (by omega)⟩
        case measure => simp [intOf]; omega
    · have hlt' : ¬ (k : Int) < 6 := by omega
      have HP := Lib.hid (pair_before _ (fun i hi => HNO.out i (by omega)))
      have kc := fun (C : Array Value) => Lib.run_convert_bytes_const (P := Try.prog) (w.alloc (.cells pairArr 9)) 52 5 C 16 16 Try.underlying52 Try.underlying5
      simp only [show (w.alloc (.cells pairArr 9)).heap.size = w.heap.size + 1 from by simp] at kc
      go_wp2_with fail
      clear kc
      refine cut_world (fun w' => w' = (w.alloc (.cells pairArr 9)).alloc (.cells oneArr 5 (16, 17))) rfl ?_
      rintro _ rfl
      have hsp : (0 : Int) < (s.size : Int) := by omega
      go_loop [26] (fun v => ∃ q : Nat, q ≤ 16 ∧ v = .int .i64 q ∧ ∀ i, i < q → singles.getD i 0 ≠ s[0].toNat) (fun v => (16 - intOf v).toNat)
      case atStart => exact ⟨0, by omega, rfl, fun i h => by omega⟩
      case round =>
        obtain ⟨q, hq, rfl, hno⟩ := hrel
        have HN1 := Lib.hid hno
        clear hno
        by_cases hq16 : q < 16
        · have hq' : (q : Int) < 16 := by omega
          have hcell : ((w.alloc (.cells pairArr 9)).alloc (.cells oneArr 5 (16, 17))).cell? ⟨w.heap.size + 1, q, none⟩ = some (.int .u8 (oneAt q)) := by
            have h := World.cell?_alloc_mark (w.alloc (.cells pairArr 9)) oneArr 5 (16, 17) q
            rw [show (w.alloc (.cells pairArr 9)).heap.size = w.heap.size + 1 from by simp] at h
            rw [h, oneArr_get q hq16]
          by_cases hw : singles.getD q 0 = s[0].toNat
          · have ht : ((s[0].toNat : Int) == oneAt q) = true := by unfold oneAt; rw [hw]; simp
            have hR : signLen (bl s) = 1 := by
              have h3 := one_found _ q hq16 hw
              have h4 := HP.out
              unfold signLen
              rw [h4, HC.out]
              simp only [Bool.false_eq_true, if_false]
              rw [if_pos h3]
            have HR := Lib.hid hR
            clear hw hR
            go_wp2_with fail
            go_ret
            exact ⟨by rw [HR.out]; rfl, ((Below.refl _ _).alloc (Nat.le_refl _) _).alloc (by simp) _⟩
          · have ht : ((s[0].toNat : Int) == oneAt q) = false := by unfold oneAt; rw [beq_eq_false_iff_ne]; intro h; exact hw (by omega)
            have HW := Lib.hid hw
            clear hw
            go_wp2_with fail
            go_round
            case rel => exact ⟨q + 1, by omega, by go_num, fun i hi => by
              by_cases e : i = q
              · subst e; exact HW.out
              · exact HN1.out i (by omega)⟩
            case measure => simp [intOf]; omega
        · have hq' : ¬ (q : Int) < 16 := by omega
          have hR : signLen (bl s) = 0 := by
            have h3 := one_before _ (fun i hi => HN1.out i (by omega))
            have h4 := HP.out
            unfold signLen
            rw [h4, HC.out]
            simp only [Bool.false_eq_true, if_false]
            rw [if_neg (by rw [h3]; decide)]
          have HR := Lib.hid hR
          clear hR
          go_wp2_with fail
          go_ret
          exact ⟨by rw [HR.out]; rfl, ((Below.refl _ _).alloc (Nat.le_refl _) _).alloc (by simp) _⟩
end Go.Proofs.Ytbaffdehhcfffaa.Lx
