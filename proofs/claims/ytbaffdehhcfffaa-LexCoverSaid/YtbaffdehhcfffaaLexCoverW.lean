/- The law LexCover, walked: it returns true. Conditions: the text has at most 2^63 - 1 bytes. -/
import Derived.Test.YtbaffdehhcfffaaChainQ
namespace Go.Proofs.Ytbaffdehhcfffaa.Lx
open Go.RowKit
theorem gap_bad (e : Bool) {c : UInt8} (r : List UInt8) (h : blank c = false) (hc : c.toNat ≠ 35) : gap e (c :: r) = false := by
  have hc' : (c.toNat == 35) = false := by simp [hc]
  show gapF (r.length + 1 + 1) e (c :: r) = _
  simp [gapF, h, hc']
set_option maxHeartbeats 2000000 in
theorem gap_any (s : ByteArray) (b : Bool) (w : World) (hs : s.size ≤ 1000000) :
    Calls Try.prog 23 #[.string s, .bool b] w fun e w' => e = .returned (.bool (gap b (bl s))) ∧ w = w' := by
  go_enter Try.func23, Try.ntmps23
  go_wp2_with fail
  go_loop [5] (fun v => ∃ k : Nat, k ≤ s.size ∧ v = .int .i64 k ∧ gap b (bl s) = gap b ((bl s).drop k)) (fun v => (s.size - intOf v).toNat)
  case atStart => exact ⟨0, by omega, rfl, by rw [List.drop_zero]⟩
  case round =>
    obtain ⟨k, hk, rfl, he⟩ := hrel
    have HE := Lib.hid he
    clear he
    by_cases hlt : k < s.size
    · have hl : (k : Int) < (s.size : Int) := by omega
      have HD := Lib.hid (bl_drop s k hlt)
      by_cases h35 : s[k].toNat = 35
      · have h35b : ((s[k].toNat : Int) == 35) = true := by simp; omega
        have H35 := Lib.hid h35
        clear h35
        go_wp2_with fail
        go_loop [5] (fun v => ∃ j : Nat, j ≤ s.size ∧ k ≤ j ∧ v = .int .i64 j ∧ endAt noEnd s j = endAt noEnd s k) (fun v => (s.size - intOf v).toNat)
        case atStart => exact ⟨k, hk, by omega, rfl, rfl⟩
        case round =>
          obtain ⟨j, hj, hkj, rfl, hje⟩ := hrel
          have HJ := Lib.hid hje
          clear hje
          by_cases hlj : j < s.size
          · have hl2 : (j : Int) < (s.size : Int) := by omega
            by_cases h10 : s[j].toNat = 10
            · have h10b : ((s[j].toNat : Int) != 10) = false := by simp; omega
              have hne : ((j : Int) == (s.size : Int)) = false := beq_false_of_ne (by omega)
              have HN := Lib.hid (endAt_no (p := noEnd) hlj (by simp [noEnd, h10]))
              clear h10
              go_wp2_with fail
              go_round
              case rel =>
                refine ⟨j + 1, by omega, by go_num, ?_⟩
                have hr : runLen noEnd ((bl s).drop k) = j - k := by have h1 := HJ.out; rw [HN.out] at h1; unfold endAt at h1; omega
                rw [HE.out, HD.out]
                refine gap_remark b _ _ H35.out ?_ (d := s[j])
                rw [← HD.out, hr, List.drop_drop, show k + (j - k) = j from by omega]
                exact bl_drop s j hlj
              case measure => simp [intOf]; omega
            · have h10b : ((s[j].toNat : Int) != 10) = true := by simp; omega
              have HN := Lib.hid (endAt_yes (p := noEnd) hlj (by simp [noEnd, h10]))
              clear h10
              go_wp2_with fail
              go_round
              case rel => exact ⟨j + 1, by omega, by omega, by go_num, by rw [HN.out, HJ.out]⟩
              case measure => simp [intOf]; omega
          · have hl2 : ¬ (j : Int) < (s.size : Int) := by omega
            have hne : ((j : Int) == (s.size : Int)) = true := by simp; omega
            have hg : gap b (bl s) = b := by
              have hr : runLen noEnd ((bl s).drop k) = j - k := by
                have h1 := HJ.out
                rw [endAt_end (by omega)] at h1
                unfold endAt at h1; omega
              rw [HE.out, HD.out]
              refine gap_remark_end b _ H35.out ?_
              rw [← HD.out, hr, List.drop_drop]
              exact bl_end s _ (by omega)
            have HG := Lib.hid hg
            clear hg
            go_wp2_with fail
            go_ret
            exact ⟨retb HG.out.symm, rfl⟩
      · have h35b : ((s[k].toNat : Int) == 35) = false := by simp; omega
        cases hbk : blank s[k] with
        | true =>
          have hg : gap b (bl s) = gap b ((bl s).drop (k + 1)) := by rw [HE.out, HD.out, gap_blank b _ hbk]
          have HG := Lib.hid hg
          clear hg h35
          have hc : s[k].toNat = 32 ∨ s[k].toNat = 9 ∨ s[k].toNat = 10 ∨ s[k].toNat = 13 := by simp [blank] at hbk; omega
          clear hbk
          rcases hc with hc | hc | hc | hc
          · have q1 : ((s[k].toNat : Int) != 32) = false := by simp; omega
            clear hc
            go_wp2_with fail
            go_round
            case rel => exact ⟨k + 1, by omega, by go_num, HG.out⟩
            case measure => simp [intOf]; omega
          · have q1 : ((s[k].toNat : Int) != 32) = true := by simp; omega
            have q2 : ((s[k].toNat : Int) != 9) = false := by simp; omega
            clear hc
            go_wp2_with fail
            go_round
            case rel => exact ⟨k + 1, by omega, by go_num, HG.out⟩
            case measure => simp [intOf]; omega
          · have q1 : ((s[k].toNat : Int) != 32) = true := by simp; omega
            have q2 : ((s[k].toNat : Int) != 9) = true := by simp; omega
            have q3 : ((s[k].toNat : Int) != 10) = false := by simp; omega
            clear hc
            go_wp2_with fail
            go_round
            case rel => exact ⟨k + 1, by omega, by go_num, HG.out⟩
            case measure => simp [intOf]; omega
          · have q1 : ((s[k].toNat : Int) != 32) = true := by simp; omega
            have q2 : ((s[k].toNat : Int) != 9) = true := by simp; omega
            have q3 : ((s[k].toNat : Int) != 10) = true := by simp; omega
            have q4 : ((s[k].toNat : Int) != 13) = false := by simp; omega
            clear hc
            go_wp2_with fail
            go_round
            case rel => exact ⟨k + 1, by omega, by go_num, HG.out⟩
            case measure => simp [intOf]; omega
        | false =>
          have hg : gap b (bl s) = false := by rw [HE.out, HD.out]; exact gap_bad b _ hbk h35
          have hc : s[k].toNat ≠ 32 ∧ s[k].toNat ≠ 9 ∧ s[k].toNat ≠ 10 ∧ s[k].toNat ≠ 13 := by simp [blank] at hbk; omega
          have q1 : ((s[k].toNat : Int) != 32) = true := by simp; omega
          have q2 : ((s[k].toNat : Int) != 9) = true := by simp; omega
          have q3 : ((s[k].toNat : Int) != 10) = true := by simp; omega
          have q4 : ((s[k].toNat : Int) != 13) = true := by simp; omega
          clear hc hbk h35
          have HG := Lib.hid hg
          clear hg
          go_wp2_with fail
          go_ret
          exact ⟨retb HG.out.symm, rfl⟩
    · have hl : ¬ (k : Int) < (s.size : Int) := by omega
      have hg : gap b (bl s) = true := by rw [HE.out, bl_end s k (by omega)]; rfl
      have HG := Lib.hid hg
      clear hg
      go_wp2_with fail
      go_ret
      exact ⟨retb HG.out.symm, rfl⟩
theorem byteName (l : List UInt8) : ∃ x : ByteArray, (⟨l.toArray⟩ : ByteArray) = x ∧ bl x = l ∧ x.size = l.length := ⟨_, rfl, by unfold bl; simp, by show (l.toArray).size = _; simp⟩
theorem chain_step {T : List UInt8} {q : Nat} {t : Tok} {rest : List Tok} (h : Chain T q (t :: rest)) :
    q ≤ t.pos ∧ t.pos ≤ T.length ∧ t.text.length ≤ T.length - t.pos ∧ (T.drop t.pos).take t.text.length = t.text ∧ gap (t.kind == 0) ((T.drop q).take (t.pos - q)) = true ∧
    (t.kind = 0 → rest = [] ∧ t.text = [] ∧ t.pos = T.length) ∧ (t.kind ≠ 0 → rest ≠ [] ∧ t.text ≠ [] ∧ Chain T (t.pos + t.text.length) rest) := by
  obtain ⟨hq, ⟨h1, rfl, rfl⟩ | ⟨hp, ⟨c, r, hcr, hb, h35⟩, ht, htx, hch⟩⟩ := h
  · refine ⟨hq, by simp, by simp, by simp, ?_, fun _ => ⟨rfl, rfl, rfl⟩, fun h => absurd rfl h⟩
    rw [← List.drop_drop] at h1
    have hg := (gap_skip (T.drop q)).1 h1
    rw [List.take_of_length_le (by rw [List.length_drop]; exact Nat.le_refl _)]
    exact hg
  · have hk := tok_kind ht
    have hsk := skip_le (T.drop q)
    rw [List.length_drop] at hsk
    have hl := tokOf_len (l := T.drop t.pos) (by rw [ht])
    rw [ht, List.length_drop] at hl
    dsimp only at hl
    refine ⟨by omega, by omega, hl.2, htx.symm, ?_, fun h => by omega, fun _ => ⟨?_, ?_, hch⟩⟩
    · rw [hp, ← List.drop_drop] at hcr
      have hg := (gap_skip (T.drop q)).2 c r hcr
      have h0 : (t.kind == 0) = false := by simp; omega
      rw [h0, show t.pos - q = skip (T.drop q) from by omega]
      exact hg
    · intro h; rw [h] at hch; exact hch
    · intro h; rw [h] at hk; simp at hk
set_option maxHeartbeats 4000000 in
set_option maxRecDepth 100000 in
theorem law_cover (s : ByteArray) (hs : s.size ≤ maxLen) (w : World) :
    Calls Try.prog 5 #[.string s] w fun e w' => e = .returned (.bool true) ∧ Below w.heap.size w w' := by
  unfold maxLen at hs
  have hx := cut_size s
  obtain ⟨x, hxe⟩ : ∃ x, Hid (s.extract 0 (min s.size 100100) = x) := ⟨_, Lib.hid rfl⟩
  rw [hxe.out] at hx
  have HC := Lib.hid (hxe.out ▸ fun w => cut_any s w hs)
  obtain ⟨c, p, ts, hr⟩ : ∃ c p ts, Hid (lexAll (bl x) = ⟨c, p, ts⟩) := ⟨_, _, _, Lib.hid rfl⟩
  have hrm : ts.length ≤ 100000 := by have := all_room (bl x); rw [hr.out] at this; dsimp only at this; omega
  by_cases hc0 : c = 0
  · subst hc0
    have hch : Chain (bl x) 0 ts := chain_all hr.out
    have hne : 0 < ts.length := by cases ts with
      | nil => exact hch.elim
      | cons a b => simp
    have HCH := Lib.hid hch
    clear hch
    go_enter Try.func5, Try.ntmps5
    go_wp2_with fail
    refine (lexed_any _).mono ?_
    rintro e w1 ⟨rfl, hb1⟩
    have HB1 := Lib.hid hb1
    clear hb1
    go_wp2_with fail
    refine (HC.out _).mono ?_
    rintro e w' ⟨rfl, rfl⟩
    go_wp2_with fail
    refine (all_gives _ (by omega) hr.out).mono ?_
    rintro e w2 ⟨v1, rfl, hb2, ho2⟩
    have HO2 := Lib.hid ho2
    have HB2 := Lib.hid (HB1.out.trans (hb2.mono HB1.out.size))
    clear hb2 ho2
    have hrow := Row.of HO2.out
    obtain ⟨va, vc, rfl⟩ := ownsForm HO2.out
    have HROW := Lib.hid (hrow.next ((Below.refl _ _).alloc (Nat.le_refl _) (.cells #[.int .i64 0, .int .i64 p] 27)))
    have HB := Lib.hid (HB2.out.alloc HB2.out.size (.cells #[.int .i64 0, .int .i64 p] 27))
    clear hrow HO2
    go_wp2_with fail
    go_loopw [25, 5] (fun i at_ wr => ∃ k q : Nat, k ≤ ts.length ∧ q ≤ x.size ∧ i = .int .i64 k ∧ at_ = .int .i64 q ∧ Below w.heap.size w wr ∧ Row wr (.slice va ts.length vc) ts ∧ (k < ts.length → Chain (bl x) q (ts.drop k)) ∧ (k = ts.length → q = x.size)) (fun i _ _ => (ts.length - intOf i).toNat)
    case atStart => exact ⟨0, 0, by omega, by omega, rfl, rfl, HB.out, HROW.out, fun _ => HCH.out, fun h => by omega⟩
    case round =>
      obtain ⟨k, q, hk, hq, rfl, rfl, hbel, hrow, hcn, hend⟩ := hrel
      by_cases hlt : k < ts.length
      · have hlt' : (k : Int) < (ts.length : Int) := by omega
        obtain ⟨g, cp, hv, hcap, hcell⟩ := hrow.cells (by intro h; rw [h] at hlt; simp at hlt)
        simp only [Value.slice.injEq] at hv
        obtain ⟨rfl, _, rfl⟩ := hv
        have hd := hcn hlt
        rw [List.drop_eq_getElem_cons hlt] at hd
        obtain ⟨e1, e2, e3, e4, e5, e6, e7⟩ := chain_step hd
        rw [bl_len] at e2 e3 e6
        obtain ⟨a0, a1, a2, a3⟩ := hcell k (by omega)
        have hgl : g < wr.heap.size := cell_lt a0
        obtain ⟨xt, hxt, hxt1, hxt2⟩ := byteName ts[k].text
        rw [hxt] at a1
        rw [← hxt2] at e3 e4 e7
        rw [← hxt1] at e4 e6 e7
        generalize ts[k].pos = P at *
        generalize ts[k].kind = kd at *
        generalize ts[k].n = nn at *
        have hcut : ((x.extract P (P + xt.size)).toList != xt.toList) = false := by
          rw [toList_bl, toList_bl, ext_bl, show P + xt.size - P = xt.size from by omega, e4]; simp
        have hgs : (x.extract q P).size ≤ 1000000 := by simp; omega
        have hgap : gap (kd == 0) (bl (x.extract q P)) = true := by rw [ext_bl]; exact e5
        have HBel := Lib.hid hbel
        have HRow := Lib.hid hrow
        clear hbel hrow hcn hcell hd hcap hxt hxt1 hxt2 e4 e5 hend
        by_cases hkd : kd = 0
        · obtain ⟨f1, f2, f3⟩ := e6 hkd
          subst hkd
          have f1l := congrArg List.length f1
          rw [List.length_drop] at f1l
          simp only [List.length_nil] at f1l
          have hz : xt.size = 0 := by rw [← bl_len, f2]; rfl
          have ht1 : xt.toList = [] := by rw [toList_bl]; exact f2
          have ht2 : (xt.toList == []) = true := by rw [ht1]; rfl
          have hk1 : ((k : Int) == (ts.length : Int) - 1) = true := by simp; omega
          have hcut2 : (x.extract P (P + xt.size)).toList.isEmpty = true := by
            rw [toList_bl, ext_bl, show P + xt.size - P = xt.size from by omega, hz]; simp
          clear hcut
          have HGAP : Hid (∀ u, Calls Try.prog 23 #[.string (x.extract q P), .bool true] u fun e w' => e = .returned (.bool true) ∧ u = w') := Lib.hid (fun u => by
            refine (gap_any _ _ u hgs).mono ?_
            rintro e w' ⟨rfl, rfl⟩
            exact ⟨retb (hgap), rfl⟩)
          clear hgap
          have HZ := Lib.hid hz
          have HF3 := Lib.hid f3
          clear e6 e7 f1 f2 hz f3
          go_wp2_with fail
          have g1 : decide (P < q) = false := by simp; omega
          have g2 : decide (x.size < P) = false := by simp; omega
          have g3 : decide ((x.size : Int) - (P : Int) < (xt.size : Int)) = false := by simp; omega
          have wr1 : IntKind.i64.wrap ((x.size : Int) - (P : Int)) = (x.size : Int) - (P : Int) := IntWalk.i64_in _ (by omega)
          have wr2 : IntKind.i64.wrap ((P : Int) + (xt.size : Int)) = (P : Int) + (xt.size : Int) := IntWalk.i64_in _ (by omega)
          have wr3 : 0 ≤ (P : Int) + (xt.size : Int) := by omega
          have wr4 : ((P : Int) + (xt.size : Int)).toNat = P + xt.size := by omega
          have wr5 : (P : Int) ≤ (P : Int) + (xt.size : Int) := by omega
          have wr6 : (P : Int) + (xt.size : Int) ≤ (x.size : Int) := by omega
          have wr7 : P + xt.size ≤ x.size := by omega
          have wr8 : (0 : Int) ≤ (P : Int) := by omega
          have wr9 : (q : Int) ≤ (P : Int) := by omega
          have wr10 : (P : Int) ≤ (x.size : Int) := by omega
          go_quiet ((go_at_call 23; exact Calls.quiet_of_same ((HGAP.out _).mono fun e w' h => ⟨h.1, h.2.symm⟩)))
          clear wr1 wr2 wr3 wr4
          go_wp2_with fail
          go_roundw
          case rel => exact ⟨k + 1, P + xt.size, by omega, by omega, by go_num, by go_num, HBel.out.trans ((below_drewN ((Below.refl _ _).alloc (Nat.le_refl _) _) nq).mono HBel.out.size), HRow.out.next (below_drewN ((Below.refl _ _).alloc (Nat.le_refl _) _) nq), fun h => by omega, fun _ => by have := HF3.out; have := HZ.out; omega⟩
          case measure => simp [intOf]; omega
        · obtain ⟨f1, f2, f3⟩ := e7 hkd
          have f1l : k + 1 < ts.length := by
            rcases Nat.lt_or_ge (k + 1) ts.length with h | h
            · exact h
            · exact absurd (List.drop_eq_nil_of_le h) f1
          have hkz : ((kd : Int) == 0) = false := by simp; omega
          have hcut3 : ((x.extract P (P + xt.size)).toList == xt.toList) = true := by simpa using hcut
          clear hcut
          have ht2 : (xt.toList == []) = false := by rw [toList_bl]; simpa using f2
          have hk1 : ((k : Int) == (ts.length : Int) - 1) = false := beq_false_of_ne (by omega)
          have HGAP : Hid (∀ u, Calls Try.prog 23 #[.string (x.extract q P), .bool false] u fun e w' => e = .returned (.bool true) ∧ u = w') := Lib.hid (fun u => by
            refine (gap_any _ _ u hgs).mono ?_
            rintro e w' ⟨rfl, rfl⟩
            exact ⟨retb (by have h := hgap; rw [show (kd == 0) = false from by simp [hkd]] at h; exact h), rfl⟩)
          clear hgap
          have HF3 := Lib.hid f3
          clear e6 e7 f1 f2 hkd f3
          go_wp2_with fail
          have g1 : decide (P < q) = false := by simp; omega
          have g2 : decide (x.size < P) = false := by simp; omega
          have g3 : decide ((x.size : Int) - (P : Int) < (xt.size : Int)) = false := by simp; omega
          have wr1 : IntKind.i64.wrap ((x.size : Int) - (P : Int)) = (x.size : Int) - (P : Int) := IntWalk.i64_in _ (by omega)
          have wr2 : IntKind.i64.wrap ((P : Int) + (xt.size : Int)) = (P : Int) + (xt.size : Int) := IntWalk.i64_in _ (by omega)
          have wr3 : 0 ≤ (P : Int) + (xt.size : Int) := by omega
          have wr4 : ((P : Int) + (xt.size : Int)).toNat = P + xt.size := by omega
          have wr5 : (P : Int) ≤ (P : Int) + (xt.size : Int) := by omega
          have wr6 : (P : Int) + (xt.size : Int) ≤ (x.size : Int) := by omega
          have wr7 : P + xt.size ≤ x.size := by omega
          have wr8 : (0 : Int) ≤ (P : Int) := by omega
          have wr9 : (q : Int) ≤ (P : Int) := by omega
          have wr10 : (P : Int) ≤ (x.size : Int) := by omega
          go_quiet ((go_at_call 23; exact Calls.quiet_of_same ((HGAP.out _).mono fun e w' h => ⟨h.1, h.2.symm⟩)))
          clear wr1 wr2 wr3 wr4
          go_wp2_with fail
          go_roundw
          case rel => exact ⟨k + 1, P + xt.size, by omega, by omega, by go_num, by go_num, HBel.out.trans ((below_drewN ((Below.refl _ _).alloc (Nat.le_refl _) _) nq).mono HBel.out.size), HRow.out.next (below_drewN ((Below.refl _ _).alloc (Nat.le_refl _) _) nq), fun _ => HF3.out, fun h => by omega⟩
          case measure => simp [intOf]; omega
      · have hlt' : ¬ (k : Int) < (ts.length : Int) := by omega
        have hqe : q = x.size := hend (by omega)
        have hne' : (0 : Int) < (ts.length : Int) := by omega
        have hqb : ((q : Int) == (x.size : Int)) = true := by simp; omega
        clear hqe hend
        go_wp2_with fail
        go_ret
        exact ⟨rfl, hbel⟩
  · have hnil : ts = [] := by have := bad_nil (l := bl x) (by rw [hr.out]; exact hc0); rw [hr.out] at this; exact this
    subst hnil
    have hcb : ((c : Int) != 0) = true := by simp; omega
    clear hc0
    go_enter Try.func5, Try.ntmps5
    go_wp2_with fail
    refine (lexed_any _).mono ?_
    rintro e w1 ⟨rfl, hb1⟩
    have HB1 := Lib.hid hb1
    clear hb1
    go_wp2_with fail
    refine (HC.out _).mono ?_
    rintro e w' ⟨rfl, rfl⟩
    go_wp2_with fail
    refine (all_gives _ (by omega) hr.out).mono ?_
    rintro e w2 ⟨v1, rfl, hb2, ho2⟩
    have HO2 := Lib.hid ho2
    have HB2 := Lib.hid (HB1.out.trans (hb2.mono HB1.out.size))
    clear hb2 ho2
    obtain ⟨va, vc, rfl⟩ := ownsForm HO2.out
    go_wp2_with fail
    go_ret
    exact ⟨rfl, HB2.out.alloc HB2.out.size _⟩
end Go.Proofs.Ytbaffdehhcfffaa.Lx
