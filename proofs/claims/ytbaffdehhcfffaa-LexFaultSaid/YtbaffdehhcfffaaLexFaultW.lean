/- The law LexFault, walked: it returns true. Conditions: the text has at most 2^63 - 1 bytes. -/
import Derived.Test.YtbaffdehhcfffaaMod
namespace Go.Proofs.Ytbaffdehhcfffaa.Lx
open Go.RowKit
theorem ownsForm' {w : World} {v : Value} {ts : List Tok} (h : Row w v ts) : ∃ a c, v = .slice a ts.length c := by
  obtain ⟨a, c, hv, _⟩ := h
  exact ⟨a, c, hv⟩
theorem i64_wf {n : Int} (h : (Lit.int .i64 n).wf = true) : -9223372036854775808 ≤ n ∧ n ≤ 9223372036854775807 := by
  simp only [Lit.wf, Bool.and_eq_true, decide_eq_true_eq] at h
  exact h
theorem bl_take (x : ByteArray) (k : Nat) : bl (x.extract 0 k) = (bl x).take k := by rw [ext_bl]; rfl
set_option maxHeartbeats 4000000 in
set_option maxRecDepth 100000 in
theorem law_fault (s : ByteArray) (hs : s.size ≤ maxLen) (n : Int) (hn : (Lit.int .i64 n).wf = true) (w : World) :
    Calls Try.prog 11 #[.string s, .int .i64 n] w fun e w' => e = .returned (.bool true) ∧ Below w.heap.size w w' := by
  obtain ⟨hn3, hn4⟩ := i64_wf hn
  clear hn
  unfold maxLen at hs
  have hx := cut_size s
  obtain ⟨x, hxe⟩ : ∃ x, Hid (s.extract 0 (min s.size 100100) = x) := ⟨_, Lib.hid rfl⟩
  rw [hxe.out] at hx
  have HC := Lib.hid (hxe.out ▸ fun w => cut_any s w hs)
  obtain ⟨c, p, ts, hr⟩ : ∃ c p ts, Hid (lexAll (bl x) = ⟨c, p, ts⟩) := ⟨_, _, _, Lib.hid rfl⟩
  by_cases hc0 : c = 0
  · subst hc0
    go_enter Try.func11, Try.ntmps11
    go_wp2_with fail
    refine (lexed_any _).mono ?_
    rintro e w1 ⟨rfl, hb1⟩
    have HB1 := Lib.hid hb1
    clear hb1
    go_wp2_with fail
    refine (HC.out _).mono ?_
    rintro e w' ⟨rfl, rfl⟩
    go_wp2_with fail
    refine (all_gives _ (by omega) hr.out).mono ?_
    rintro e w2 ⟨v1, rfl, hb2, ho2⟩
    have HO2 := Lib.hid ho2
    have HB2 := Lib.hid (HB1.out.trans (hb2.mono HB1.out.size))
    clear hb2 ho2
    obtain ⟨va, vc, rfl⟩ := ownsForm HO2.out
    go_wp2_with fail
    go_ret
    exact ⟨rfl, HB2.out.alloc HB2.out.size _⟩
  · by_cases hbig : 100000 < x.size
    · have hl := all_long (T := bl x) (by rw [bl_len]; exact hbig)
      rw [hr.out] at hl
      simp only [Res.mk.injEq] at hl
      obtain ⟨rfl, rfl, rfl⟩ := hl
      have hbig' : (100000 : Int) < (x.size : Int) := by omega
      go_enter Try.func11, Try.ntmps11
      go_wp2_with fail
      refine (lexed_any _).mono ?_
      rintro e w1 ⟨rfl, hb1⟩
      have HB1 := Lib.hid hb1
      clear hb1
      go_wp2_with fail
      refine (HC.out _).mono ?_
      rintro e w' ⟨rfl, rfl⟩
      go_wp2_with fail
      refine (all_gives _ (by omega) hr.out).mono ?_
      rintro e w2 ⟨v1, rfl, hb2, ho2⟩
      have HO2 := Lib.hid ho2
      have HB2 := Lib.hid (HB1.out.trans (hb2.mono HB1.out.size))
      clear hb2 ho2
      obtain ⟨va, vc, rfl⟩ := ownsForm HO2.out
      have hu2 : ([] : List Tok).length = 0 := rfl
      rw [hu2]
      clear hu2
      go_wp2_with fail
      go_ret
      exact ⟨rfl, HB2.out.alloc HB2.out.size _⟩
    · have hbig' : ¬ (100000 : Int) < (x.size : Int) := by omega
      obtain ⟨hp1, hcc, rfl, hf1, hf2⟩ := fault_all hr.out hc0 (by rw [bl_len]; omega)
      rw [bl_len] at hp1 hf2
      have h2 : ∃ p2 ts2, Hid (lexAll (bl (x.extract 0 p)) = ⟨0, p2, ts2⟩) := by
        rw [← bl_take] at hf1
        rcases hq : lexAll (bl (x.extract 0 p)) with ⟨q1, q2, q3⟩
        rw [hq] at hf1
        dsimp only at hf1
        subst hf1
        exact ⟨_, _, Lib.hid rfl⟩
      obtain ⟨p2, ts2, h2⟩ := h2
      have h50 := Int.emod_nonneg n (b := 30) (by omega)
      have h51 := Int.emod_lt_of_pos n (b := 30) (by omega)
      obtain ⟨r, hrr⟩ : ∃ r, Hid (n % 30 = r) := ⟨_, Lib.hid rfl⟩
      rw [hrr.out] at h50 h51
      clear hf1 hc0
      by_cases hfar : (x.size : Int) - (p : Int) < 21 + r
      · have hsum : (p : Int) + ((x.size : Int) - (p : Int)) = (x.size : Int) := by omega
        clear hf2
        rcases hcc with rfl | rfl
        · go_enter Try.func11, Try.ntmps11
          go_wp2_with fail
          refine (lexed_any _).mono ?_
          rintro e w1 ⟨rfl, hb1⟩
          have HB1 := Lib.hid hb1
          clear hb1
          go_wp2_with fail
          refine (HC.out _).mono ?_
          rintro e w' ⟨rfl, rfl⟩
          go_wp2_with fail
          refine (all_gives _ (by omega) hr.out).mono ?_
          rintro e w2 ⟨v1, rfl, hb2, ho2⟩
          have HB2 := Lib.hid (HB1.out.trans (hb2.mono HB1.out.size))
          obtain ⟨va, vc, rfl⟩ := ownsForm' (Row.of ho2)
          clear hb2 ho2
          have hu2 : ([] : List Tok).length = 0 := rfl
          rw [hu2]
          clear hu2
          go_wp2_with fail
          refine (all_gives _ (by rw [ByteArray.size_extract]; omega) h2.out).mono ?_
          rintro e w3 ⟨v2, rfl, hb3, ho3⟩
          obtain ⟨ua, uc, rfl⟩ := ownsForm' (Row.of ho3)
          have a0 : w3.cell? ⟨w2.heap.size, 0, none⟩ = some (.int .i64 2) := (hb3.cell (by simp)).trans (by simp [go_sem])
          have a1 : w3.cell? ⟨w2.heap.size, 1, none⟩ = some (.int .i64 p) := (hb3.cell (by simp)).trans (by simp [go_sem])
          have hsz3 : w2.heap.size < w3.heap.size := by have := hb3.size; simp at this; omega
          have HB3 := Lib.hid ((HB2.out.alloc HB2.out.size (.cells #[.int .i64 2, .int .i64 p] 27)).trans (hb3.mono (by have := HB2.out.size; simp; omega)))
          clear hb3 ho3
          go_wp2_with fail
          refine (mod_any n 30 r _ hn3 hn4 (by omega) (by omega) hrr.out).mono ?_
          rintro e w' ⟨rfl, rfl⟩
          go_wp2_with fail
          refine (all_gives _ (by omega) hr.out).mono ?_
          rintro e w4 ⟨v3, rfl, hb4, ho4⟩
          obtain ⟨ta, tc, rfl⟩ := ownsForm' (Row.of ho4)
          have b0 : w4.cell? ⟨w2.heap.size, 0, none⟩ = some (.int .i64 2) := (hb4.cell (by simp; omega)).trans ((World.cell?_alloc_past _ _ _ hsz3).trans a0)
          have b1 : w4.cell? ⟨w2.heap.size, 1, none⟩ = some (.int .i64 p) := (hb4.cell (by simp; omega)).trans ((World.cell?_alloc_past _ _ _ hsz3).trans a1)
          have c0 : w4.cell? ⟨w3.heap.size, 0, none⟩ = some (.int .i64 0) := (hb4.cell (by simp)).trans (by simp [go_sem])
          have hsz4 : w3.heap.size < w4.heap.size := by have := hb4.size; simp at this; omega
          have hsz42 : w2.heap.size < w4.heap.size := by omega
          have HB4 := Lib.hid ((HB3.out.alloc HB3.out.size (.cells #[.int .i64 0, .int .i64 p2] 27)).trans (hb4.mono (by have := HB3.out.size; simp; omega)))
          clear hb4 ho4 a0 a1
          have hu2 : ([] : List Tok).length = 0 := rfl
          rw [hu2]
          clear hu2
          go_wp2_with fail
          go_ret
          exact ⟨rfl, HB4.out.alloc HB4.out.size _⟩

        · go_enter Try.func11, Try.ntmps11
          go_wp2_with fail
          refine (lexed_any _).mono ?_
          rintro e w1 ⟨rfl, hb1⟩
          have HB1 := Lib.hid hb1
          clear hb1
          go_wp2_with fail
          refine (HC.out _).mono ?_
          rintro e w' ⟨rfl, rfl⟩
          go_wp2_with fail
          refine (all_gives _ (by omega) hr.out).mono ?_
          rintro e w2 ⟨v1, rfl, hb2, ho2⟩
          have HB2 := Lib.hid (HB1.out.trans (hb2.mono HB1.out.size))
          obtain ⟨va, vc, rfl⟩ := ownsForm' (Row.of ho2)
          clear hb2 ho2
          have hu2 : ([] : List Tok).length = 0 := rfl
          rw [hu2]
          clear hu2
          go_wp2_with fail
          refine (all_gives _ (by rw [ByteArray.size_extract]; omega) h2.out).mono ?_
          rintro e w3 ⟨v2, rfl, hb3, ho3⟩
          obtain ⟨ua, uc, rfl⟩ := ownsForm' (Row.of ho3)
          have a0 : w3.cell? ⟨w2.heap.size, 0, none⟩ = some (.int .i64 4) := (hb3.cell (by simp)).trans (by simp [go_sem])
          have a1 : w3.cell? ⟨w2.heap.size, 1, none⟩ = some (.int .i64 p) := (hb3.cell (by simp)).trans (by simp [go_sem])
          have hsz3 : w2.heap.size < w3.heap.size := by have := hb3.size; simp at this; omega
          have HB3 := Lib.hid ((HB2.out.alloc HB2.out.size (.cells #[.int .i64 4, .int .i64 p] 27)).trans (hb3.mono (by have := HB2.out.size; simp; omega)))
          clear hb3 ho3
          go_wp2_with fail
          refine (mod_any n 30 r _ hn3 hn4 (by omega) (by omega) hrr.out).mono ?_
          rintro e w' ⟨rfl, rfl⟩
          go_wp2_with fail
          refine (all_gives _ (by omega) hr.out).mono ?_
          rintro e w4 ⟨v3, rfl, hb4, ho4⟩
          obtain ⟨ta, tc, rfl⟩ := ownsForm' (Row.of ho4)
          have b0 : w4.cell? ⟨w2.heap.size, 0, none⟩ = some (.int .i64 4) := (hb4.cell (by simp; omega)).trans ((World.cell?_alloc_past _ _ _ hsz3).trans a0)
          have b1 : w4.cell? ⟨w2.heap.size, 1, none⟩ = some (.int .i64 p) := (hb4.cell (by simp; omega)).trans ((World.cell?_alloc_past _ _ _ hsz3).trans a1)
          have c0 : w4.cell? ⟨w3.heap.size, 0, none⟩ = some (.int .i64 0) := (hb4.cell (by simp)).trans (by simp [go_sem])
          have hsz4 : w3.heap.size < w4.heap.size := by have := hb4.size; simp at this; omega
          have hsz42 : w2.heap.size < w4.heap.size := by omega
          have HB4 := Lib.hid ((HB3.out.alloc HB3.out.size (.cells #[.int .i64 0, .int .i64 p2] 27)).trans (hb4.mono (by have := HB3.out.size; simp; omega)))
          clear hb4 ho4 a0 a1
          have hu2 : ([] : List Tok).length = 0 := rfl
          rw [hu2]
          clear hu2
          go_wp2_with fail
          go_ret
          exact ⟨rfl, HB4.out.alloc HB4.out.size _⟩
      · obtain ⟨r, rfl⟩ : ∃ r' : Nat, r = r' := ⟨r.toNat, by omega⟩
        have h3 : Hid (lexAll (bl (x.extract 0 (p + (21 + r)))) = ⟨c, p, []⟩) := Lib.hid (by
          have := hf2 (21 + r) (.inl (by omega)) (by omega)
          rw [bl_take]
          exact this)
        clear hf2
        rcases hcc with rfl | rfl
        · go_enter Try.func11, Try.ntmps11
          go_wp2_with fail
          refine (lexed_any _).mono ?_
          rintro e w1 ⟨rfl, hb1⟩
          have HB1 := Lib.hid hb1
          clear hb1
          go_wp2_with fail
          refine (HC.out _).mono ?_
          rintro e w' ⟨rfl, rfl⟩
          go_wp2_with fail
          refine (all_gives _ (by omega) hr.out).mono ?_
          rintro e w2 ⟨v1, rfl, hb2, ho2⟩
          have HB2 := Lib.hid (HB1.out.trans (hb2.mono HB1.out.size))
          obtain ⟨va, vc, rfl⟩ := ownsForm' (Row.of ho2)
          clear hb2 ho2
          have hu2 : ([] : List Tok).length = 0 := rfl
          rw [hu2]
          clear hu2
          go_wp2_with fail
          refine (all_gives _ (by rw [ByteArray.size_extract]; omega) h2.out).mono ?_
          rintro e w3 ⟨v2, rfl, hb3, ho3⟩
          obtain ⟨ua, uc, rfl⟩ := ownsForm' (Row.of ho3)
          have a0 : w3.cell? ⟨w2.heap.size, 0, none⟩ = some (.int .i64 2) := (hb3.cell (by simp)).trans (by simp [go_sem])
          have a1 : w3.cell? ⟨w2.heap.size, 1, none⟩ = some (.int .i64 p) := (hb3.cell (by simp)).trans (by simp [go_sem])
          have hsz3 : w2.heap.size < w3.heap.size := by have := hb3.size; simp at this; omega
          have HB3 := Lib.hid ((HB2.out.alloc HB2.out.size (.cells #[.int .i64 2, .int .i64 p] 27)).trans (hb3.mono (by have := HB2.out.size; simp; omega)))
          clear hb3 ho3
          go_wp2_with fail
          refine (mod_any n 30 r _ hn3 hn4 (by omega) (by omega) hrr.out).mono ?_
          rintro e w' ⟨rfl, rfl⟩
          go_wp2_with fail
          refine (all_gives _ (by rw [ByteArray.size_extract]; omega) h3.out).mono ?_
          rintro e w4 ⟨v3, rfl, hb4, ho4⟩
          obtain ⟨ta, tc, rfl⟩ := ownsForm' (Row.of ho4)
          have b0 : w4.cell? ⟨w2.heap.size, 0, none⟩ = some (.int .i64 2) := (hb4.cell (by simp; omega)).trans ((World.cell?_alloc_past _ _ _ hsz3).trans a0)
          have b1 : w4.cell? ⟨w2.heap.size, 1, none⟩ = some (.int .i64 p) := (hb4.cell (by simp; omega)).trans ((World.cell?_alloc_past _ _ _ hsz3).trans a1)
          have c0 : w4.cell? ⟨w3.heap.size, 0, none⟩ = some (.int .i64 0) := (hb4.cell (by simp)).trans (by simp [go_sem])
          have hsz4 : w3.heap.size < w4.heap.size := by have := hb4.size; simp at this; omega
          have hsz42 : w2.heap.size < w4.heap.size := by omega
          have HB4 := Lib.hid ((HB3.out.alloc HB3.out.size (.cells #[.int .i64 0, .int .i64 p2] 27)).trans (hb4.mono (by have := HB3.out.size; simp; omega)))
          clear hb4 ho4 a0 a1
          have hu2 : ([] : List Tok).length = 0 := rfl
          rw [hu2]
          clear hu2
          go_wp2_with fail
          go_ret
          exact ⟨rfl, HB4.out.alloc HB4.out.size _⟩

        · go_enter Try.func11, Try.ntmps11
          go_wp2_with fail
          refine (lexed_any _).mono ?_
          rintro e w1 ⟨rfl, hb1⟩
          have HB1 := Lib.hid hb1
          clear hb1
          go_wp2_with fail
          refine (HC.out _).mono ?_
          rintro e w' ⟨rfl, rfl⟩
          go_wp2_with fail
          refine (all_gives _ (by omega) hr.out).mono ?_
          rintro e w2 ⟨v1, rfl, hb2, ho2⟩
          have HB2 := Lib.hid (HB1.out.trans (hb2.mono HB1.out.size))
          obtain ⟨va, vc, rfl⟩ := ownsForm' (Row.of ho2)
          clear hb2 ho2
          have hu2 : ([] : List Tok).length = 0 := rfl
          rw [hu2]
          clear hu2
          go_wp2_with fail
          refine (all_gives _ (by rw [ByteArray.size_extract]; omega) h2.out).mono ?_
          rintro e w3 ⟨v2, rfl, hb3, ho3⟩
          obtain ⟨ua, uc, rfl⟩ := ownsForm' (Row.of ho3)
          have a0 : w3.cell? ⟨w2.heap.size, 0, none⟩ = some (.int .i64 4) := (hb3.cell (by simp)).trans (by simp [go_sem])
          have a1 : w3.cell? ⟨w2.heap.size, 1, none⟩ = some (.int .i64 p) := (hb3.cell (by simp)).trans (by simp [go_sem])
          have hsz3 : w2.heap.size < w3.heap.size := by have := hb3.size; simp at this; omega
          have HB3 := Lib.hid ((HB2.out.alloc HB2.out.size (.cells #[.int .i64 4, .int .i64 p] 27)).trans (hb3.mono (by have := HB2.out.size; simp; omega)))
          clear hb3 ho3
          go_wp2_with fail
          refine (mod_any n 30 r _ hn3 hn4 (by omega) (by omega) hrr.out).mono ?_
          rintro e w' ⟨rfl, rfl⟩
          go_wp2_with fail
          refine (all_gives _ (by rw [ByteArray.size_extract]; omega) h3.out).mono ?_
          rintro e w4 ⟨v3, rfl, hb4, ho4⟩
          obtain ⟨ta, tc, rfl⟩ := ownsForm' (Row.of ho4)
          have b0 : w4.cell? ⟨w2.heap.size, 0, none⟩ = some (.int .i64 4) := (hb4.cell (by simp; omega)).trans ((World.cell?_alloc_past _ _ _ hsz3).trans a0)
          have b1 : w4.cell? ⟨w2.heap.size, 1, none⟩ = some (.int .i64 p) := (hb4.cell (by simp; omega)).trans ((World.cell?_alloc_past _ _ _ hsz3).trans a1)
          have c0 : w4.cell? ⟨w3.heap.size, 0, none⟩ = some (.int .i64 0) := (hb4.cell (by simp)).trans (by simp [go_sem])
          have hsz4 : w3.heap.size < w4.heap.size := by have := hb4.size; simp at this; omega
          have hsz42 : w2.heap.size < w4.heap.size := by omega
          have HB4 := Lib.hid ((HB3.out.alloc HB3.out.size (.cells #[.int .i64 0, .int .i64 p2] 27)).trans (hb4.mono (by have := HB3.out.size; simp; omega)))
          clear hb4 ho4 a0 a1
          have hu2 : ([] : List Tok).length = 0 := rfl
          rw [hu2]
          clear hu2
          go_wp2_with fail
          go_ret
          exact ⟨rfl, HB4.out.alloc HB4.out.size _⟩
end Go.Proofs.Ytbaffdehhcfffaa.Lx
