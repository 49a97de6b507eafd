/- The law LexDigits, walked: it returns true. Conditions: the text has at most 2^63 - 1 bytes. -/
import Derived.Test.YtbaffdehhcfffaaDec
namespace Go.Proofs.Ytbaffdehhcfffaa.Lx
open Go.RowKit
theorem ownsForm' {w : World} {v : Value} {ts : List Tok} (h : Row w v ts) : ∃ a c, v = .slice a ts.length c := by
  obtain ⟨a, c, hv, _⟩ := h
  exact ⟨a, c, hv⟩
theorem i64_wf {n : Int} (h : (Lit.int .i64 n).wf = true) : -9223372036854775808 ≤ n ∧ n ≤ 9223372036854775807 := by
  simp only [Lit.wf, Bool.and_eq_true, decide_eq_true_eq] at h
  exact h
theorem bl_app (a b : ByteArray) : bl (a ++ b) = bl a ++ bl b := by unfold bl; simp
set_option maxHeartbeats 4000000 in
set_option maxRecDepth 100000 in
theorem law_digits (n : Int) (hn : (Lit.int .i64 n).wf = true) (w : World) :
    Calls Try.prog 12 #[.int .i64 n] w fun e w' => e = .returned (.bool true) ∧ Below w.heap.size w w' := by
  obtain ⟨hn3, hn4⟩ := i64_wf hn
  clear hn
  by_cases hneg : n < 0
  · go_enter Try.func12, Try.ntmps12
    go_wp2_with fail
    refine (lexed_any _).mono ?_
    rintro e w1 ⟨rfl, hb1⟩
    have HB1 := Lib.hid hb1
    clear hb1
    go_wp2_with fail
    go_ret
    exact ⟨rfl, HB1.out⟩
  · obtain ⟨N, rfl⟩ : ∃ N : Nat, n = N := ⟨n.toNat, by omega⟩
    have hN : N ≤ 9223372036854775807 := by omega
    have h19 := dec_len hN
    rw [← decS_size] at h19
    have hT : Hid ((⟨(dec N).toArray⟩ : ByteArray) = decS N) := Lib.hid rfl
    have hb := bl_decS N
    have e1 := all_dec hN
    have e2 := all_zero_dec hN
    have e3 := all_dec_zero hN
    obtain ⟨S, hS⟩ : ∃ S, Hid (decS N = S) := ⟨_, Lib.hid rfl⟩
    rw [hS.out] at h19 hb
    have hT : Hid ((⟨(dec N).toArray⟩ : ByteArray) = S) := Lib.hid (hT.out.trans hS.out)
    have hz1 : Hid ((⟨#[48]⟩ ++ S : ByteArray).size ≤ 9223372036854775807) := Lib.hid (by rw [ByteArray.size_append]; show 1 + S.size ≤ _; omega)
    have hz2 : Hid ((S ++ ⟨#[48]⟩ : ByteArray).size ≤ 9223372036854775807) := Lib.hid (by rw [ByteArray.size_append]; show S.size + 1 ≤ _; omega)
    have h1 : Hid (lexAll (bl S) = ⟨0, 0, [⟨2, dec N, N, 0⟩, ⟨0, [], 0, (dec N).length⟩]⟩) := Lib.hid (by rw [hb]; exact e1)
    have h2 : Hid (lexAll (bl (⟨#[48]⟩ ++ S)) = ⟨2, 0, []⟩) := Lib.hid (by rw [bl_app, hb]; exact e2)
    by_cases hz : N = 0
    · have hz' : ((N : Int) == 0) = true := by simp; omega
      have h3 : Hid (lexAll (bl (S ++ ⟨#[48]⟩)) = ⟨2, 0, []⟩) := Lib.hid (by rw [bl_app, hb, hz, dec_zero]; kernel_rfl)
      clear e1 e2 e3 hb hz
      go_enter Try.func12, Try.ntmps12
      go_wp2_with fail
      refine (lexed_any _).mono ?_
      rintro e w1 ⟨rfl, hb1⟩
      have HB1 := Lib.hid hb1
      clear hb1
      go_wp2_with fail
      refine (dec_any N _ hN).mono ?_
      rintro e w2 ⟨rfl, hb2⟩
      have HB2 := Lib.hid (HB1.out.trans (hb2.mono HB1.out.size))
      clear hb2
      rw [hS.out]
      go_wp2_with fail
      refine (all_gives _ (by omega) h1.out).mono ?_
      rintro e w3 ⟨v1, rfl, hb3, ho3⟩
      have HO3 := Lib.hid ho3
      have HB3 := Lib.hid (HB2.out.trans (hb3.mono HB2.out.size))
      clear hb3 ho3
      rcases ownsSize HO3.out with hnil | ⟨g, cp, rfl, hg1, hg2⟩
      · cases hnil
      obtain ⟨g', cp', hv, hc, hcell⟩ := (Row.of HO3.out).cells (by simp)
      simp only [Value.slice.injEq, Option.some.injEq, Addr.mk.injEq] at hv
      obtain ⟨⟨rfl, -⟩, -, rfl⟩ := hv
      obtain ⟨q0, q1, q2, _⟩ := hcell 0 (by simp)
      simp only [List.getElem_cons_zero] at q0 q1 q2
      rw [hT.out] at q1
      clear hcell hc
      have hl2 : ([⟨2, dec N, N, 0⟩, ⟨0, [], 0, (dec N).length⟩] : List Tok).length = 2 := rfl
      rw [hl2]
      clear hl2
      go_wp2_with fail
      refine (all_gives _ hz1.out h2.out).mono ?_
      rintro e w4 ⟨v2, rfl, hb4, ho4⟩
      obtain ⟨ua, uc, rfl⟩ := ownsForm' (Row.of ho4)
      have hsz4 : w3.heap.size < w4.heap.size := by have := hb4.size; simp at this; omega
      have HB4 := Lib.hid ((HB3.out.alloc HB3.out.size (.cells #[.int .i64 0, .int .i64 0] 27)).trans (hb4.mono (by have := HB3.out.size; simp; omega)))
      clear hb4 ho4
      have hu2 : ([] : List Tok).length = 0 := rfl
      rw [hu2]
      clear hu2
      go_wp2_with fail
      refine (all_gives _ hz2.out h3.out).mono ?_
      rintro e w5 ⟨v3, rfl, hb5, ho5⟩
      obtain ⟨ta, tc, rfl⟩ := ownsForm' (Row.of ho5)
      have c0 : w5.cell? ⟨w4.heap.size, 0, none⟩ = some (.int .i64 2) := (hb5.cell (by simp)).trans (by simp [go_sem])
      have c1 : w5.cell? ⟨w4.heap.size, 1, none⟩ = some (.int .i64 0) := (hb5.cell (by simp)).trans (by simp [go_sem])
      have hsz5 : w4.heap.size < w5.heap.size := by have := hb5.size; simp at this; omega
      have HB5 := Lib.hid ((HB4.out.alloc HB4.out.size (.cells #[.int .i64 2, .int .i64 0] 27)).trans (hb5.mono (by have := HB4.out.size; simp; omega)))
      clear hb5 ho5
      go_wp2_with fail
      go_ret
      exact ⟨rfl, HB5.out.alloc HB5.out.size _⟩
    · have hz' : ((N : Int) == 0) = false := by simp; omega
      have e3 := e3 hz
      by_cases hbig : N ≤ 922337203685477580
      · have hb1 : decide ((922337203685477580 : Int) < (N : Int)) = false := by simp; omega
        have hb2 : decide ((N : Int) ≤ 922337203685477580) = true := by simp; omega
        rw [if_pos hbig] at e3
        have h3 : Hid (lexAll (bl (S ++ ⟨#[48]⟩)) = ⟨0, 0, [⟨2, dec N ++ [48], N * 10, 0⟩, ⟨0, [], 0, (dec N).length + 1⟩]⟩) := Lib.hid (by rw [bl_app, hb]; exact e3)
        clear e1 e2 e3 hb hz
        go_enter Try.func12, Try.ntmps12
        go_wp2_with fail
        refine (lexed_any _).mono ?_
        rintro e w1 ⟨rfl, hb1⟩
        have HB1 := Lib.hid hb1
        clear hb1
        go_wp2_with fail
        refine (dec_any N _ hN).mono ?_
        rintro e w2 ⟨rfl, hb2⟩
        have HB2 := Lib.hid (HB1.out.trans (hb2.mono HB1.out.size))
        clear hb2
        rw [hS.out]
        go_wp2_with fail
        refine (all_gives _ (by omega) h1.out).mono ?_
        rintro e w3 ⟨v1, rfl, hb3, ho3⟩
        have HO3 := Lib.hid ho3
        have HB3 := Lib.hid (HB2.out.trans (hb3.mono HB2.out.size))
        clear hb3 ho3
        rcases ownsSize HO3.out with hnil | ⟨g, cp, rfl, hg1, hg2⟩
        · cases hnil
        obtain ⟨g', cp', hv, hc, hcell⟩ := (Row.of HO3.out).cells (by simp)
        simp only [Value.slice.injEq, Option.some.injEq, Addr.mk.injEq] at hv
        obtain ⟨⟨rfl, -⟩, -, rfl⟩ := hv
        obtain ⟨q0, q1, q2, _⟩ := hcell 0 (by simp)
        simp only [List.getElem_cons_zero] at q0 q1 q2
        rw [hT.out] at q1
        clear hcell hc
        have hl2 : ([⟨2, dec N, N, 0⟩, ⟨0, [], 0, (dec N).length⟩] : List Tok).length = 2 := rfl
        rw [hl2]
        clear hl2
        go_wp2_with fail
        refine (all_gives _ hz1.out h2.out).mono ?_
        rintro e w4 ⟨v2, rfl, hb4, ho4⟩
        obtain ⟨ua, uc, rfl⟩ := ownsForm' (Row.of ho4)
        have hsz4 : w3.heap.size < w4.heap.size := by have := hb4.size; simp at this; omega
        have HB4 := Lib.hid ((HB3.out.alloc HB3.out.size (.cells #[.int .i64 0, .int .i64 0] 27)).trans (hb4.mono (by have := HB3.out.size; simp; omega)))
        clear hb4 ho4
        have hu2 : ([] : List Tok).length = 0 := rfl
        rw [hu2]
        clear hu2
        go_wp2_with fail
        refine (all_gives _ hz2.out h3.out).mono ?_
        rintro e w5 ⟨v3, rfl, hb5, ho5⟩
        obtain ⟨ta, tc, rfl⟩ := ownsForm' (Row.of ho5)
        have c0 : w5.cell? ⟨w4.heap.size, 0, none⟩ = some (.int .i64 2) := (hb5.cell (by simp)).trans (by simp [go_sem])
        have c1 : w5.cell? ⟨w4.heap.size, 1, none⟩ = some (.int .i64 0) := (hb5.cell (by simp)).trans (by simp [go_sem])
        have hsz5 : w4.heap.size < w5.heap.size := by have := hb5.size; simp at this; omega
        have HB5 := Lib.hid ((HB4.out.alloc HB4.out.size (.cells #[.int .i64 2, .int .i64 0] 27)).trans (hb5.mono (by have := HB4.out.size; simp; omega)))
        clear hb5 ho5
        go_wp2_with fail
        go_ret
        exact ⟨rfl, HB5.out.alloc HB5.out.size _⟩
      · have hb1 : decide ((922337203685477580 : Int) < (N : Int)) = true := by simp; omega
        have hb2 : decide ((N : Int) ≤ 922337203685477580) = false := by simp; omega
        rw [if_neg hbig] at e3
        have h3 : Hid (lexAll (bl (S ++ ⟨#[48]⟩)) = ⟨4, 0, []⟩) := Lib.hid (by rw [bl_app, hb]; exact e3)
        clear e1 e2 e3 hb hz
        go_enter Try.func12, Try.ntmps12
        go_wp2_with fail
        refine (lexed_any _).mono ?_
        rintro e w1 ⟨rfl, hb1⟩
        have HB1 := Lib.hid hb1
        clear hb1
        go_wp2_with fail
        refine (dec_any N _ hN).mono ?_
        rintro e w2 ⟨rfl, hb2⟩
        have HB2 := Lib.hid (HB1.out.trans (hb2.mono HB1.out.size))
        clear hb2
        rw [hS.out]
        go_wp2_with fail
        refine (all_gives _ (by omega) h1.out).mono ?_
        rintro e w3 ⟨v1, rfl, hb3, ho3⟩
        have HO3 := Lib.hid ho3
        have HB3 := Lib.hid (HB2.out.trans (hb3.mono HB2.out.size))
        clear hb3 ho3
        rcases ownsSize HO3.out with hnil | ⟨g, cp, rfl, hg1, hg2⟩
        · cases hnil
        obtain ⟨g', cp', hv, hc, hcell⟩ := (Row.of HO3.out).cells (by simp)
        simp only [Value.slice.injEq, Option.some.injEq, Addr.mk.injEq] at hv
        obtain ⟨⟨rfl, -⟩, -, rfl⟩ := hv
        obtain ⟨q0, q1, q2, _⟩ := hcell 0 (by simp)
        simp only [List.getElem_cons_zero] at q0 q1 q2
        rw [hT.out] at q1
        clear hcell hc
        have hl2 : ([⟨2, dec N, N, 0⟩, ⟨0, [], 0, (dec N).length⟩] : List Tok).length = 2 := rfl
        rw [hl2]
        clear hl2
        go_wp2_with fail
        refine (all_gives _ hz1.out h2.out).mono ?_
        rintro e w4 ⟨v2, rfl, hb4, ho4⟩
        obtain ⟨ua, uc, rfl⟩ := ownsForm' (Row.of ho4)
        have hsz4 : w3.heap.size < w4.heap.size := by have := hb4.size; simp at this; omega
        have HB4 := Lib.hid ((HB3.out.alloc HB3.out.size (.cells #[.int .i64 0, .int .i64 0] 27)).trans (hb4.mono (by have := HB3.out.size; simp; omega)))
        clear hb4 ho4
        have hu2 : ([] : List Tok).length = 0 := rfl
        rw [hu2]
        clear hu2
        go_wp2_with fail
        refine (all_gives _ hz2.out h3.out).mono ?_
        rintro e w5 ⟨v3, rfl, hb5, ho5⟩
        obtain ⟨ta, tc, rfl⟩ := ownsForm' (Row.of ho5)
        have c0 : w5.cell? ⟨w4.heap.size, 0, none⟩ = some (.int .i64 2) := (hb5.cell (by simp)).trans (by simp [go_sem])
        have c1 : w5.cell? ⟨w4.heap.size, 1, none⟩ = some (.int .i64 0) := (hb5.cell (by simp)).trans (by simp [go_sem])
        have hsz5 : w4.heap.size < w5.heap.size := by have := hb5.size; simp at this; omega
        have HB5 := Lib.hid ((HB4.out.alloc HB4.out.size (.cells #[.int .i64 2, .int .i64 0] 27)).trans (hb5.mono (by have := HB4.out.size; simp; omega)))
        clear hb5 ho5
        go_wp2_with fail
        go_ret
        exact ⟨rfl, HB5.out.alloc HB5.out.size _⟩
end Go.Proofs.Ytbaffdehhcfffaa.Lx
