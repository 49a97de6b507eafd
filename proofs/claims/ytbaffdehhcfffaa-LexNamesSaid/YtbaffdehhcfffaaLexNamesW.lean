/- The law LexNames, walked: it returns true. Conditions: the text has at most 2^63 - 1 bytes. -/
import Derived.Test.YtbaffdehhcfffaaNamesP
namespace Go.Proofs.Ytbaffdehhcfffaa.Lx
open Go.RowKit
set_option maxHeartbeats 2000000 in
theorem law_names (s : ByteArray) (hs : s.size ≤ maxLen) (w : World) :
    Calls Try.prog 4 #[.string s] w fun e w' => e = .returned (.bool true) ∧ Below w.heap.size w w' := by
  unfold maxLen at hs
  have hx := cut_size s
  obtain ⟨x, hxe⟩ : ∃ x, Hid (s.extract 0 (min s.size 100100) = x) := ⟨_, Lib.hid rfl⟩
  rw [hxe.out] at hx
  have HC := Lib.hid (hxe.out ▸ fun w => cut_any s w hs)
  obtain ⟨c, p, ts, hr⟩ : ∃ c p ts, Hid (lexAll (bl x) = ⟨c, p, ts⟩) := ⟨_, _, _, Lib.hid rfl⟩
  by_cases hc0 : c = 0
  · subst hc0
    by_cases h2 : ts.length = 2
    · obtain ⟨t, e2, rfl⟩ : ∃ t e2, ts = [t, e2] := by
        match ts, h2 with
        | [t, e2], _ => exact ⟨t, e2, rfl⟩
      have hlen : ([t, e2] : List Tok).length = 2 := rfl
      by_cases hx2 : t.text = bl x
      · have hA := names_alone hr.out hx2
        have ht : (t.text == x.toList) = true := by rw [toList_bl, hx2]; simp
        obtain ⟨hA1, hA2⟩ := hA
        have k1 : ((t.kind : Int) == 1) = isName (bl x) := by rw [hA1, Bool.eq_iff_iff]; simp; omega
        have k3 : ((t.kind : Int) == 3) = isWord (bl x) := by rw [hA2, Bool.eq_iff_iff]; simp; omega
        clear hA1 hA2 hx2
        go_enter Try.func4, Try.ntmps4
        go_wp2_with fail
        refine (lexed_any _).mono ?_
        rintro e w1 ⟨rfl, hb1⟩
        have HB1 := Lib.hid hb1
        clear hb1
        go_wp2_with fail
        refine (HC.out _).mono ?_
        rintro e w' ⟨rfl, rfl⟩
        go_wp2_with fail
        refine (all_gives _ (by omega) hr.out).mono ?_
        rintro e w2 ⟨v1, rfl, hb2, ho2⟩
        have HO2 := Lib.hid ho2
        have HB2 := Lib.hid (HB1.out.trans (hb2.mono HB1.out.size))
        clear hb2 ho2
        have hne : [t, e2] ≠ [] := by simp
        rcases ownsSize HO2.out with hnil | ⟨g, cp, rfl, hg1, hg2⟩
        · exact absurd hnil hne
        obtain ⟨g', cp', hv, hc, hcell⟩ := (Row.of HO2.out).cells hne
        simp only [Value.slice.injEq, Option.some.injEq, Addr.mk.injEq] at hv
        obtain ⟨⟨rfl, _⟩, _, rfl⟩ := hv
        obtain ⟨q0, q1, _, _⟩ := hcell 0 (by simp)
        simp only [List.getElem_cons_zero] at q0 q1
        clear hcell hne
        go_wp2_with (first | (go_at_call 22; refine (word_any _ _).mono ?_; rintro e w' ⟨rfl, rfl⟩) | (go_at_call 21; refine (name_any _ _ (by omega)).mono ?_; rintro e w' ⟨rfl, rfl⟩))
        go_ret
        exact ⟨rfl, HB2.out.alloc HB2.out.size _⟩
      · have hN := names_not (l := bl x) (fun p' t' e' h => by
          rw [hr.out] at h
          simp only [Res.mk.injEq, List.cons.injEq] at h
          obtain ⟨_, _, rfl, _⟩ := h
          exact hx2)
        obtain ⟨hN1, hN2⟩ := hN
        have ht : (t.text == x.toList) = false := by rw [toList_bl]; simpa using hx2
        clear hx2
        go_enter Try.func4, Try.ntmps4
        go_wp2_with fail
        refine (lexed_any _).mono ?_
        rintro e w1 ⟨rfl, hb1⟩
        have HB1 := Lib.hid hb1
        clear hb1
        go_wp2_with fail
        refine (HC.out _).mono ?_
        rintro e w' ⟨rfl, rfl⟩
        go_wp2_with fail
        refine (all_gives _ (by omega) hr.out).mono ?_
        rintro e w2 ⟨v1, rfl, hb2, ho2⟩
        have HO2 := Lib.hid ho2
        have HB2 := Lib.hid (HB1.out.trans (hb2.mono HB1.out.size))
        clear hb2 ho2
        have hne : [t, e2] ≠ [] := by simp
        rcases ownsSize HO2.out with hnil | ⟨g, cp, rfl, hg1, hg2⟩
        · exact absurd hnil hne
        obtain ⟨g', cp', hv, hc, hcell⟩ := (Row.of HO2.out).cells hne
        simp only [Value.slice.injEq, Option.some.injEq, Addr.mk.injEq] at hv
        obtain ⟨⟨rfl, _⟩, _, rfl⟩ := hv
        obtain ⟨q0, q1, _, _⟩ := hcell 0 (by simp)
        simp only [List.getElem_cons_zero] at q0 q1
        clear hcell hne
        go_wp2_with (first | (go_at_call 22; refine (word_any _ _).mono ?_; rintro e w' ⟨rfl, rfl⟩) | (go_at_call 21; refine (name_any _ _ (by omega)).mono ?_; rintro e w' ⟨rfl, rfl⟩))
        go_ret
        exact ⟨rfl, HB2.out.alloc HB2.out.size _⟩
    · have hN := names_not (l := bl x) (fun p' t' e' h => by
        rw [hr.out] at h
        simp only [Res.mk.injEq] at h
        obtain ⟨_, _, rfl⟩ := h
        exact absurd rfl h2)
      obtain ⟨hN1, hN2⟩ := hN
      have ht : ((ts.length : Int) == 2) = false := by simp; omega
      clear h2
      go_enter Try.func4, Try.ntmps4
      go_wp2_with fail
      refine (lexed_any _).mono ?_
      rintro e w1 ⟨rfl, hb1⟩
      have HB1 := Lib.hid hb1
      clear hb1
      go_wp2_with fail
      refine (HC.out _).mono ?_
      rintro e w' ⟨rfl, rfl⟩
      go_wp2_with fail
      refine (all_gives _ (by omega) hr.out).mono ?_
      rintro e w2 ⟨v1, rfl, hb2, ho2⟩
      have HO2 := Lib.hid ho2
      have HB2 := Lib.hid (HB1.out.trans (hb2.mono HB1.out.size))
      clear hb2 ho2
      obtain ⟨va, vc, rfl⟩ := ownsForm HO2.out
      go_wp2_with (first | (go_at_call 22; refine (word_any _ _).mono ?_; rintro e w' ⟨rfl, rfl⟩) | (go_at_call 21; refine (name_any _ _ (by omega)).mono ?_; rintro e w' ⟨rfl, rfl⟩))
      go_ret
      exact ⟨rfl, HB2.out.alloc HB2.out.size _⟩
  · have hN := names_not (l := bl x) (fun p' t' e' h => by
      rw [hr.out] at h
      simp only [Res.mk.injEq] at h
      exact absurd h.1 hc0)
    obtain ⟨hN1, hN2⟩ := hN
    have ht : ((c : Int) == 0) = false := by simp; omega
    clear hc0
    go_enter Try.func4, Try.ntmps4
    go_wp2_with fail
    refine (lexed_any _).mono ?_
    rintro e w1 ⟨rfl, hb1⟩
    have HB1 := Lib.hid hb1
    clear hb1
    go_wp2_with fail
    refine (HC.out _).mono ?_
    rintro e w' ⟨rfl, rfl⟩
    go_wp2_with fail
    refine (all_gives _ (by omega) hr.out).mono ?_
    rintro e w2 ⟨v1, rfl, hb2, ho2⟩
    have HO2 := Lib.hid ho2
    have HB2 := Lib.hid (HB1.out.trans (hb2.mono HB1.out.size))
    clear hb2 ho2
    obtain ⟨va, vc, rfl⟩ := ownsForm HO2.out
    go_wp2_with (first | (go_at_call 22; refine (word_any _ _).mono ?_; rintro e w' ⟨rfl, rfl⟩) | (go_at_call 21; refine (name_any _ _ (by omega)).mono ?_; rintro e w' ⟨rfl, rfl⟩))
    go_ret
    exact ⟨rfl, HB2.out.alloc HB2.out.size _⟩
end Go.Proofs.Ytbaffdehhcfffaa.Lx
