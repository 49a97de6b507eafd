/- The law LexFront, walked: it returns true. Conditions: the text has at most 2^63 - 1 bytes. -/
import Derived.Test.YtbaffdehhcfffaaMod
import Derived.Deep.QuietTactic
import Derived.BigQuiet
namespace Go.Proofs.Ytbaffdehhcfffaa.Lx
open Go.RowKit
theorem i64_wf {n : Int} (h : (Lit.int .i64 n).wf = true) : -9223372036854775808 ≤ n ∧ n ≤ 9223372036854775807 := by
  simp only [Lit.wf, Bool.and_eq_true, decide_eq_true_eq] at h
  exact h
theorem bl_take (x : ByteArray) (k : Nat) : bl (x.extract 0 k) = (bl x).take k := by rw [ext_bl]; rfl
theorem all_end (T : List UInt8) : ∀ t ∈ (lexAll T).toks, t.pos ≤ T.length := by
  intro t h
  unfold lexAll at h
  split at h
  · cases h
  · have := tokN_bound T 0 2000 t h
    omega
set_option maxHeartbeats 4000000 in
set_option maxRecDepth 100000 in
theorem law_front (s : ByteArray) (hs : s.size ≤ maxLen) (n : Int) (hn : (Lit.int .i64 n).wf = true) (w : World) :
    Calls Try.prog 10 #[.string s, .int .i64 n] w fun e w' => e = .returned (.bool true) ∧ Below w.heap.size w w' := by
  obtain ⟨hn3, hn4⟩ := i64_wf hn
  clear hn
  unfold maxLen at hs
  have hx := cut_size s
  obtain ⟨x, hxe⟩ : ∃ x, Hid (s.extract 0 (min s.size 100100) = x) := ⟨_, Lib.hid rfl⟩
  rw [hxe.out] at hx
  have HC := Lib.hid (hxe.out ▸ fun w => cut_any s w hs)
  obtain ⟨c, p, ts, hr⟩ : ∃ c p ts, Hid (lexAll (bl x) = ⟨c, p, ts⟩) := ⟨_, _, _, Lib.hid rfl⟩
  by_cases hc0 : c = 0
  · subst hc0
    have hrm : ts.length ≤ 100000 := by have := all_room (bl x); rw [hr.out] at this; dsimp only at this; omega
    have hne := all_ne hr.out
    have hlen : 0 < ts.length := List.length_pos_iff.2 hne
    have h50 := Int.emod_nonneg n (b := (ts.length : Int)) (by omega)
    have h51 := Int.emod_lt_of_pos n (b := (ts.length : Int)) (by omega)
    obtain ⟨k, hk⟩ : ∃ k : Nat, Hid (n % (ts.length : Int) = (k : Int)) := ⟨(n % (ts.length : Int)).toNat, Lib.hid (by omega)⟩
    have hkl : k < ts.length := by have := hk.out; omega
    have hps : ∀ t ∈ ts.take k, t.pos ≤ 1000000 := fun t h => by have := all_pos (bl x) t (by rw [hr.out]; exact List.mem_of_mem_take h); omega
    have HP := Lib.hid hps
    have hpe := all_end (bl x) ts[k] (by rw [hr.out]; exact List.getElem_mem hkl)
    rw [bl_len] at hpe
    have hfr := all_front hr.out hkl
    obtain ⟨P, hP⟩ : ∃ P, Hid (ts[k].pos = P) := ⟨_, Lib.hid rfl⟩
    rw [hP.out] at hpe hfr
    have h2 : Hid (lexAll (bl (x.extract 0 P)) = ⟨0, 0, ts.take k ++ [⟨0, [], 0, P⟩]⟩) := Lib.hid (by rw [bl_take]; exact hfr)
    clear h50 h51 hps hfr
    go_enter Try.func10, Try.ntmps10
    go_wp2_with fail
    refine (lexed_any _).mono ?_
    rintro e w1 ⟨rfl, hb1⟩
    have HB1 := Lib.hid hb1
    clear hb1
    go_wp2_with fail
    refine (HC.out _).mono ?_
    rintro e w' ⟨rfl, rfl⟩
    go_wp2_with fail
    refine (all_gives _ (by omega) hr.out).mono ?_
    rintro e w2 ⟨v1, rfl, hb2, ho2⟩
    have hR1 := (Row.of ho2).next ((Below.refl _ _).alloc (Nat.le_refl _) (.cells #[.int .i64 0, .int .i64 p] 27))
    obtain ⟨g1, c1, rfl, hc1, hcell⟩ := hR1.cells hne
    obtain ⟨_, _, _, q3⟩ := hcell k hkl
    rw [hP.out] at q3
    have HC1 := Lib.hid hcell
    have HR1 := Lib.hid hR1
    have HB2 := Lib.hid ((HB1.out.trans (hb2.mono HB1.out.size)).alloc (HB1.out.trans (hb2.mono HB1.out.size)).size (.cells #[.int .i64 0, .int .i64 p] 27))
    clear hb2 ho2 hR1 hcell
    go_wp2_with fail
    generalize hW : w2.alloc (.cells #[.int .i64 0, .int .i64 p] 27) = W2 at *
    have hWs : w2.heap.size < W2.heap.size := by rw [← hW]; simp
    have hWc : W2.cell? ⟨w2.heap.size, 0, none⟩ = some (.int .i64 0) := by rw [← hW]; simp [go_sem]
    clear hW
    refine (mod_any n ts.length k _ hn3 hn4 (by omega) (by omega) hk.out).mono ?_
    rintro e w' ⟨rfl, rfl⟩
    have k0 : (0 : Int) ≤ (k : Int) := by omega
    have k1 : (k : Int) < (ts.length : Int) := by omega
    have P0 : ¬ (P : Int) < 0 := by omega
    have P1 : ¬ (x.size : Int) < (P : Int) := by omega
    have hnz : ((ts.length : Int) == 0) = false := by simp; omega
    go_wp2_with fail
    refine (all_gives _ (by rw [ByteArray.size_extract]; omega) h2.out).mono ?_
    rintro e w3 ⟨v2, rfl, hb3, ho3⟩
    have hml : (ts.take k ++ [(⟨0, [], 0, P⟩ : Tok)]).length = k + 1 := by rw [List.length_append, List.length_take]; simp; omega
    have hmn : ts.take k ++ [(⟨0, [], 0, P⟩ : Tok)] ≠ [] := by simp
    have hR2 := (Row.of ho3).next ((Below.refl _ _).alloc (Nat.le_refl _) (.cells #[.int .i64 0, .int .i64 0] 27))
    obtain ⟨g2, c2, rfl, hc2, hcell2⟩ := hR2.cells hmn
    have hmk := hcell2 k (by omega)
    have hgk : (ts.take k ++ [(⟨0, [], 0, P⟩ : Tok)])[k]'(by omega) = ⟨0, [], 0, P⟩ := by
      rw [List.getElem_append_right (by rw [List.length_take]; omega)]
      simp
    rw [hgk] at hmk
    obtain ⟨m0, _, _, m3⟩ := hmk
    rw [hml] at hR2 hc2 ⊢
    have hR1 := (HR1.out.next hb3).next ((Below.refl _ _).alloc (Nat.le_refl _) (.cells #[.int .i64 0, .int .i64 0] 27))
    obtain ⟨g1', c1', hv, _, hcell⟩ := hR1.cells hne
    simp only [Value.slice.injEq, Option.some.injEq, Addr.mk.injEq] at hv
    obtain ⟨⟨rfl, -⟩, -, rfl⟩ := hv
    obtain ⟨_, _, _, l3⟩ := hcell k hkl
    rw [hP.out] at l3
    have hT1 := hR1.take k (by omega)
    have hT2 := hR2.take k (by rw [hml]; omega)
    have hte : (ts.take k ++ [(⟨0, [], 0, P⟩ : Tok)]).take k = ts.take k := by
      rw [List.take_append_of_le_length (by rw [List.length_take]; omega), List.take_take, Nat.min_self]
    rw [hte] at hT2
    have hWc3 : (w3.alloc (.cells #[.int .i64 0, .int .i64 0] 27)).cell? ⟨w3.heap.size, 0, none⟩ = some (.int .i64 0) := by simp [go_sem]
    have HB3 := Lib.hid ((HB2.out.trans (hb3.mono HB2.out.size)).alloc (HB2.out.trans (hb3.mono HB2.out.size)).size (.cells #[.int .i64 0, .int .i64 0] 27))
    have hks : (ts.take k).length ≤ 100000 := by rw [List.length_take]; omega
    have HSAME : Hid (∀ (q : Nat), Calls Try.prog 20 #[.slice (some ⟨g1, 0, none⟩) k c1, .slice (some ⟨g2, 0, none⟩) k c2, .int .i64 0] ((w3.alloc (.cells #[.int .i64 0, .int .i64 0] 27)).drewN q) fun e w' => e = .returned (.bool true) ∧ ∃ n, w' = ((w3.alloc (.cells #[.int .i64 0, .int .i64 0] 27)).drewN q).drewN n) :=
      Lib.hid fun q => same_zero _ (hT1.next (below_drewN (Below.refl _ _) q)) (hT2.next (below_drewN (Below.refl _ _) q)) hks HP.out
    clear hb3 ho3 hR1 hR2 hT1 hT2 hcell hcell2 hte hgk hmn hml hks q3 hWc
    go_wp2_with fail
    generalize hW : w3.alloc (.cells #[.int .i64 0, .int .i64 0] 27) = W3 at *
    have hWs3 : w3.heap.size < W3.heap.size := by rw [← hW]; simp
    clear hW
    have s1 : IntKind.i64.wrap ((k : Int) + 1) = (k : Int) + 1 := IntWalk.i64_in _ (by omega)
    have s2 : (k : Int) < (k : Int) + 1 := by omega
    have s3 : ((k : Int) == (k : Int)) = true := by simp
    have s4 : (k : Int) ≤ (c1 : Int) := by omega
    have s5 : (k : Int) ≤ (c2 : Int) := by omega
    have s6 : k ≤ c1 := by omega
    have s7 : k ≤ c2 := by omega
    have s8 : ((P : Int) == (P : Int)) = true := by simp
    go_quiet ((go_at_call 20; exact Calls.quiet_of (HSAME.out _)))
    go_wp2_with fail
    go_ret
    exact ⟨rfl, below_drewN HB3.out nq⟩

  · have hcb : ((c : Int) != 0) = true := by simp; omega
    clear hc0
    go_enter Try.func10, Try.ntmps10
    go_wp2_with fail
    refine (lexed_any _).mono ?_
    rintro e w1 ⟨rfl, hb1⟩
    have HB1 := Lib.hid hb1
    clear hb1
    go_wp2_with fail
    refine (HC.out _).mono ?_
    rintro e w' ⟨rfl, rfl⟩
    go_wp2_with fail
    refine (all_gives _ (by omega) hr.out).mono ?_
    rintro e w2 ⟨v1, rfl, hb2, ho2⟩
    have HO2 := Lib.hid ho2
    have HB2 := Lib.hid (HB1.out.trans (hb2.mono HB1.out.size))
    clear hb2 ho2
    obtain ⟨va, vc, rfl⟩ := ownsForm HO2.out
    go_wp2_with fail
    go_ret
    exact ⟨rfl, HB2.out.alloc HB2.out.size _⟩
end Go.Proofs.Ytbaffdehhcfffaa.Lx
