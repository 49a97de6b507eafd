/- The law LexLong, walked: it returns true. Conditions: the text has at most 2^63 - 1 bytes. -/
import Derived.Test.YtbaffdehhcfffaaChainQ
namespace Go.Proofs.Ytbaffdehhcfffaa.Lx
open Go.RowKit
theorem ldigit_any (c : UInt8) (w : World) : Calls Try.prog 24 #[.int .u8 (c.toNat : Int)] w fun e w' => e = .returned (.bool (digit c)) ∧ w = w' := by
  by_cases h1 : 48 ≤ c.toNat
  · by_cases h2 : c.toNat ≤ 57
    · rw [show digit c = true from by simp [digit, h1, h2]]
      have h3 : decide ((c.toNat : Int) ≤ 57) = true := by simp; omega
      go_enter Try.func24, Try.ntmps24
      go_wp2
      go_ret
      exact ⟨rfl, rfl⟩
    · rw [show digit c = false from by simp [digit]; omega]
      have h3 : decide ((c.toNat : Int) ≤ 57) = false := by simp; omega
      go_enter Try.func24, Try.ntmps24
      go_wp2
      go_ret
      exact ⟨rfl, rfl⟩
  · rw [show digit c = false from by simp [digit]; omega]
    have h3 : decide (48 ≤ (c.toNat : Int)) = false := by simp; omega
    go_enter Try.func24, Try.ntmps24
    go_wp2
    go_ret
    exact ⟨rfl, rfl⟩
theorem lletter_any (c : UInt8) (w : World) : Calls Try.prog 25 #[.int .u8 (c.toNat : Int)] w fun e w' => e = .returned (.bool (alnum c)) ∧ w = w' := by
  by_cases h1 : 97 ≤ c.toNat
  · by_cases h2 : c.toNat ≤ 122
    · have q1 : (97 : Int) ≤ (c.toNat : Int) := by omega
      have q2 : decide ((c.toNat : Int) ≤ 122) = true := by simp; omega
      rw [show alnum c = true from by simp [alnum, small, digit]; omega]
      go_enter Try.func25, Try.ntmps25
      go_wp2
      go_ret
      exact ⟨rfl, rfl⟩
    · have q1 : (97 : Int) ≤ (c.toNat : Int) := by omega
      have q2 : decide ((c.toNat : Int) ≤ 122) = false := by simp; omega
      have q3 : (48 : Int) ≤ (c.toNat : Int) := by omega
      have q4 : decide ((c.toNat : Int) ≤ 57) = false := by simp; omega
      rw [show alnum c = false from by simp [alnum, small, digit]; omega]
      go_enter Try.func25, Try.ntmps25
      go_wp2
      go_ret
      exact ⟨rfl, rfl⟩
  · have q1 : decide ((97 : Int) ≤ (c.toNat : Int)) = false := by simp; omega
    by_cases h3 : 48 ≤ c.toNat
    · have q3 : (48 : Int) ≤ (c.toNat : Int) := by omega
      by_cases h4 : c.toNat ≤ 57
      · have q4 : decide ((c.toNat : Int) ≤ 57) = true := by simp; omega
        rw [show alnum c = true from by simp [alnum, small, digit]; omega]
        go_enter Try.func25, Try.ntmps25
        go_wp2
        go_ret
        exact ⟨rfl, rfl⟩
      · have q4 : decide ((c.toNat : Int) ≤ 57) = false := by simp; omega
        rw [show alnum c = false from by simp [alnum, small, digit]; omega]
        go_enter Try.func25, Try.ntmps25
        go_wp2
        go_ret
        exact ⟨rfl, rfl⟩
    · have q3 : decide ((48 : Int) ≤ (c.toNat : Int)) = false := by simp; omega
      rw [show alnum c = false from by simp [alnum, small, digit]; omega]
      go_enter Try.func25, Try.ntmps25
      go_wp2
      go_ret
      exact ⟨rfl, rfl⟩
theorem Chain.drop_one {T : List UInt8} {k : Nat} {a b : Tok} {ts : List Tok} (h : Chain T k (a :: b :: ts)) : Chain T (a.pos + a.text.length) (b :: ts) := by
  obtain ⟨_, h | ⟨_, _, _, _, h⟩⟩ := h
  · cases h.2.2
  · exact h
theorem drop_two {ts : List Tok} {i : Nat} (h : i + 2 < ts.length) : ∃ r, r ≠ [] ∧ ts.drop i = ts[i] :: ts[i + 1] :: r ∧ ts.drop (i + 1) = ts[i + 1] :: r := by
  refine ⟨ts.drop (i + 2), ?_, ?_, ?_⟩
  · intro hh; have := congrArg List.length hh; rw [List.length_drop] at this; simp at this; omega
  · rw [List.drop_eq_getElem_cons (by omega), List.drop_eq_getElem_cons (i := i + 1) (by omega)]
  · rw [List.drop_eq_getElem_cons (i := i + 1) (by omega)]
theorem byteName (l : List UInt8) : ∃ x : ByteArray, (⟨l.toArray⟩ : ByteArray) = x ∧ bl x = l ∧ x.size = l.length := ⟨_, rfl, by unfold bl; simp, by show (l.toArray).size = _; simp⟩
theorem not_pair {y : ByteArray} {l : List UInt8} (h : bl y = l) (hp : pairs.contains l = false) (q : List UInt8) (hq : q ∈ pairs) : (y.toList == q) = false := by
  rw [toList_bl, h]
  exact beq_eq_false_iff_ne.2 (fun e => by subst e; rw [List.contains_iff_mem.2 hq] at hp; cases hp)
set_option maxHeartbeats 4000000 in
set_option maxRecDepth 100000 in
theorem law_long (s : ByteArray) (hs : s.size ≤ maxLen) (w : World) :
    Calls Try.prog 6 #[.string s] w fun e w' => e = .returned (.bool true) ∧ Below w.heap.size w w' := by
  unfold maxLen at hs
  have hx := cut_size s
  obtain ⟨x, hxe⟩ : ∃ x, Hid (s.extract 0 (min s.size 100100) = x) := ⟨_, Lib.hid rfl⟩
  rw [hxe.out] at hx
  have HC := Lib.hid (hxe.out ▸ fun w => cut_any s w hs)
  obtain ⟨c, p, ts, hr⟩ : ∃ c p ts, Hid (lexAll (bl x) = ⟨c, p, ts⟩) := ⟨_, _, _, Lib.hid rfl⟩
  have hps : ∀ t ∈ ts, t.pos ≤ 1000000 := fun t h => by have := all_pos (bl x) t (by rw [hr.out]; exact h); omega
  have hrm : ts.length ≤ 100000 := by have := all_room (bl x); rw [hr.out] at this; dsimp only at this; omega
  have hch : ts ≠ [] → Chain (bl x) 0 ts := fun hne => by
    by_cases h0 : c = 0
    · subst h0; exact chain_all hr.out
    · exact absurd (bad_nil (by rw [hr.out]; exact h0)) (by rw [hr.out]; exact hne)
  have HP := Lib.hid hps
  have HCH := Lib.hid hch
  clear hps hch
  go_enter Try.func6, Try.ntmps6
  go_wp2_with fail
  refine (lexed_any _).mono ?_
  rintro e w1 ⟨rfl, hb1⟩
  have HB1 := Lib.hid hb1
  clear hb1
  go_wp2_with fail
  refine (HC.out _).mono ?_
  rintro e w' ⟨rfl, rfl⟩
  go_wp2_with fail
  refine (all_gives _ (by omega) hr.out).mono ?_
  rintro e w2 ⟨v1, rfl, hb2, ho2⟩
  have HO2 := Lib.hid ho2
  have HB2 := Lib.hid (HB1.out.trans (hb2.mono HB1.out.size))
  clear hb2 ho2
  have hrow := Row.of HO2.out
  obtain ⟨va, vc, rfl⟩ := ownsForm HO2.out
  have HROW := Lib.hid (hrow.next ((Below.refl _ _).alloc (Nat.le_refl _) (.cells #[.int .i64 c, .int .i64 p] 27)))
  have HB := Lib.hid (HB2.out.alloc HB2.out.size (.cells #[.int .i64 c, .int .i64 p] 27))
  clear hrow HO2
  go_wp2_with fail
  go_loopw [5] (fun i wr => ∃ k : Nat, k ≤ ts.length ∧ i = .int .i64 k ∧ Below w.heap.size w wr ∧ Row wr (.slice va ts.length vc) ts ∧ (ts.drop k ≠ [] → ∃ q, Chain (bl x) q (ts.drop k))) (fun i _ => (ts.length - intOf i).toNat)
  case atStart => exact ⟨0, by omega, rfl, HB.out, HROW.out, fun h => ⟨0, HCH.out h⟩⟩
  case round =>
    obtain ⟨k, hk, rfl, hbel, hrow, hcn⟩ := hrel
    by_cases hlt : k + 2 < ts.length
    · have hlt' : (k : Int) + 2 < (ts.length : Int) := by omega
      have hlt1 : (k : Int) < (ts.length : Int) := by omega
      have hlt2 : (k : Int) + 1 < (ts.length : Int) := by omega
      have hne : ts ≠ [] := by intro h; rw [h] at hlt; simp at hlt
      obtain ⟨g, cp, hv, hcap, hcell⟩ := hrow.cells hne
      simp only [Value.slice.injEq] at hv
      obtain ⟨rfl, _, rfl⟩ := hv
      obtain ⟨rest, hrest, hd1, hd2⟩ := drop_two hlt
      obtain ⟨q, hq⟩ := hcn (by rw [hd1]; simp)
      rw [hd1] at hq
      obtain ⟨d, r, hbt, hlong⟩ := chain_long hq hrest
      have hnext := hq.drop_one
      rw [← hd2] at hnext
      have hkind := hq.kind
      have hpa := HP.out ts[k] (List.getElem_mem _)
      have hpb := HP.out ts[k + 1] (List.getElem_mem _)
      have hta := hq.len
      obtain ⟨a0, a1, a2, a3⟩ := hcell k (by omega)
      obtain ⟨b0, b1, b2, b3⟩ := hcell (k + 1) (by omega)
      have hgl : g < wr.heap.size := cell_lt a0
      obtain ⟨xa, hxa, hxa1, hxa2⟩ := byteName ts[k].text
      obtain ⟨xb, hxb, hxb1, hxb2⟩ := byteName ts[k + 1].text
      rw [hxa] at a1
      rw [hxb] at b1
      have HBel := Lib.hid hbel
      have HRow := Lib.hid hrow
      have HNX := Lib.hid (fun (_ : ts.drop (k + 1) ≠ []) => (⟨_, hnext⟩ : ∃ q, Chain (bl x) q (ts.drop (k + 1))))
      clear hbel hrow hcn hcell hq hnext hd1 hd2 hrest hcap
      have hxl := bl_len x
      have hbs : 0 < xb.size := by rw [hxb2, hbt]; simp
      have hb0 : ((xb.size : Int) == 0) = false := beq_false_of_ne (by omega)
      have hd0 : xb[0] = d := by
        have h := bl_drop xb 0 hbs
        rw [List.drop_zero, hxb1, hbt] at h
        exact (List.cons.inj h).1.symm
      have hsum : (ts[k].pos : Int) + (xa.size : Int) < 2 ^ 62 := by omega
      have hbo : bl (xa ++ xb.extract 0 1) = ts[k].text ++ [d] := by
        have h : bl (xa ++ xb.extract 0 1) = bl xa ++ bl (xb.extract 0 1) := by unfold bl; simp
        rw [h, ext_bl, hxa1, hxb1, hbt]; rfl
      have HLO := Lib.hid hlong
      have HBO := Lib.hid hbo
      have HD0 := Lib.hid hd0
      have HXA2 := Lib.hid hxa2
      clear hlong hbo hd0 hxa2 hxa hxa1 hxb hxb1 hxb2 hbt hxl hta
      by_cases hto : ts[k + 1].pos = ts[k].pos + ts[k].text.length
      · have hto' : ((ts[k + 1].pos : Int) != (ts[k].pos : Int) + (xa.size : Int)) = false := by have := HXA2.out; simp; omega
        obtain ⟨hl1, hl2, hl3⟩ := HLO.out hto
        clear hto
        have HPC := Lib.hid hl3
        have hbl0 : ((0 : Int) < (xb.size : Int)) := by omega
        clear hl3
        have HL1 := Lib.hid hl1
        have HL2 := Lib.hid hl2
        clear hl1 hl2
        go_wp2_with fail
        go_region
        · generalize hW : World.drew _ = W
          have c0 : W.cell? ⟨wr.heap.size, 0, none⟩ = some (.int .i64 ts[k].kind) := by rw [← hW]; simp [go_sem]
          have c1 : W.cell? ⟨wr.heap.size, 1, none⟩ = some (.string xa) := by rw [← hW]; simp [go_sem]
          have c2 : W.cell? ⟨wr.heap.size, 2, none⟩ = some (.int .i64 ts[k].n) := by rw [← hW]; simp [go_sem]
          have c3 : W.cell? ⟨wr.heap.size, 3, none⟩ = some (.int .i64 ts[k].pos) := by rw [← hW]; simp [go_sem]
          have d0 : W.cell? ⟨wr.heap.size + 1, 0, none⟩ = some (.int .i64 ts[k + 1].kind) := by rw [← hW]; simp [go_sem]
          have d1 : W.cell? ⟨wr.heap.size + 1, 1, none⟩ = some (.string xb) := by rw [← hW]; simp [go_sem]
          have d2 : W.cell? ⟨wr.heap.size + 1, 2, none⟩ = some (.int .i64 ts[k + 1].n) := by rw [← hW]; simp [go_sem]
          have d3 : W.cell? ⟨wr.heap.size + 1, 3, none⟩ = some (.int .i64 ts[k + 1].pos) := by rw [← hW]; simp [go_sem]
          have hbw : Below wr.heap.size wr W := by rw [← hW]; exact (((Below.refl _ _).alloc (Nat.le_refl _) _).alloc (by simp) _).drew
          have HBW := Lib.hid hbw
          clear hW a0 a1 a2 a3 b0 b1 b2 b3 hbw
          rcases hkind with hk1 | hk1 | hk1 | hk1
          · have HG := HL2.out (by simp [hk1])
            rw [← HD0.out] at HG
            rw [hk1] at c0
            clear hk1
            go_wp2_with (first | (go_at_call 24; refine (ldigit_any _ _).mono ?_; rintro e w' ⟨rfl, rfl⟩) | (go_at_call 25; refine (lletter_any _ _).mono ?_; rintro e w' ⟨rfl, rfl⟩))
            have p1 := not_pair HBO.out HPC.out [61, 61] (by simp [pairs])
            have p2 := not_pair HBO.out HPC.out [33, 61] (by simp [pairs])
            have p3 := not_pair HBO.out HPC.out [60, 61] (by simp [pairs])
            have p4 := not_pair HBO.out HPC.out [62, 61] (by simp [pairs])
            have p5 := not_pair HBO.out HPC.out [38, 38] (by simp [pairs])
            have p6 := not_pair HBO.out HPC.out [124, 124] (by simp [pairs])
            go_quiet (fail)
            go_wp2_with fail
            go_roundw
            case rel => exact ⟨k + 1, by omega, by go_num, HBel.out.trans ((below_drewN HBW.out nq).mono HBel.out.size), HRow.out.next (below_drewN HBW.out nq), HNX.out⟩
            case measure => simp [intOf]; omega
          · have HG := HL1.out hk1
            rw [← HD0.out] at HG
            rw [hk1] at c0
            clear hk1
            go_wp2_with (first | (go_at_call 24; refine (ldigit_any _ _).mono ?_; rintro e w' ⟨rfl, rfl⟩) | (go_at_call 25; refine (lletter_any _ _).mono ?_; rintro e w' ⟨rfl, rfl⟩))
            have p1 := not_pair HBO.out HPC.out [61, 61] (by simp [pairs])
            have p2 := not_pair HBO.out HPC.out [33, 61] (by simp [pairs])
            have p3 := not_pair HBO.out HPC.out [60, 61] (by simp [pairs])
            have p4 := not_pair HBO.out HPC.out [62, 61] (by simp [pairs])
            have p5 := not_pair HBO.out HPC.out [38, 38] (by simp [pairs])
            have p6 := not_pair HBO.out HPC.out [124, 124] (by simp [pairs])
            go_quiet (fail)
            go_wp2_with fail
            go_roundw
            case rel => exact ⟨k + 1, by omega, by go_num, HBel.out.trans ((below_drewN HBW.out nq).mono HBel.out.size), HRow.out.next (below_drewN HBW.out nq), HNX.out⟩
            case measure => simp [intOf]; omega
          · have HG := HL2.out (by simp [hk1])
            rw [← HD0.out] at HG
            rw [hk1] at c0
            clear hk1
            go_wp2_with (first | (go_at_call 24; refine (ldigit_any _ _).mono ?_; rintro e w' ⟨rfl, rfl⟩) | (go_at_call 25; refine (lletter_any _ _).mono ?_; rintro e w' ⟨rfl, rfl⟩))
            have p1 := not_pair HBO.out HPC.out [61, 61] (by simp [pairs])
            have p2 := not_pair HBO.out HPC.out [33, 61] (by simp [pairs])
            have p3 := not_pair HBO.out HPC.out [60, 61] (by simp [pairs])
            have p4 := not_pair HBO.out HPC.out [62, 61] (by simp [pairs])
            have p5 := not_pair HBO.out HPC.out [38, 38] (by simp [pairs])
            have p6 := not_pair HBO.out HPC.out [124, 124] (by simp [pairs])
            go_quiet (fail)
            go_wp2_with fail
            go_roundw
            case rel => exact ⟨k + 1, by omega, by go_num, HBel.out.trans ((below_drewN HBW.out nq).mono HBel.out.size), HRow.out.next (below_drewN HBW.out nq), HNX.out⟩
            case measure => simp [intOf]; omega
          · rw [hk1] at c0
            clear hk1
            go_wp2_with (first | (go_at_call 24; refine (ldigit_any _ _).mono ?_; rintro e w' ⟨rfl, rfl⟩) | (go_at_call 25; refine (lletter_any _ _).mono ?_; rintro e w' ⟨rfl, rfl⟩))
            have p1 := not_pair HBO.out HPC.out [61, 61] (by simp [pairs])
            have p2 := not_pair HBO.out HPC.out [33, 61] (by simp [pairs])
            have p3 := not_pair HBO.out HPC.out [60, 61] (by simp [pairs])
            have p4 := not_pair HBO.out HPC.out [62, 61] (by simp [pairs])
            have p5 := not_pair HBO.out HPC.out [38, 38] (by simp [pairs])
            have p6 := not_pair HBO.out HPC.out [124, 124] (by simp [pairs])
            go_quiet (fail)
            go_wp2_with fail
            go_roundw
            case rel => exact ⟨k + 1, by omega, by go_num, HBel.out.trans ((below_drewN HBW.out nq).mono HBel.out.size), HRow.out.next (below_drewN HBW.out nq), HNX.out⟩
            case measure => simp [intOf]; omega
        · generalize hW : World.drew _ = W
          have c0 : W.cell? ⟨wr.heap.size + 1, 0, none⟩ = some (.int .i64 ts[k].kind) := by rw [← hW]; simp [go_sem]
          have c1 : W.cell? ⟨wr.heap.size + 1, 1, none⟩ = some (.string xa) := by rw [← hW]; simp [go_sem]
          have c2 : W.cell? ⟨wr.heap.size + 1, 2, none⟩ = some (.int .i64 ts[k].n) := by rw [← hW]; simp [go_sem]
          have c3 : W.cell? ⟨wr.heap.size + 1, 3, none⟩ = some (.int .i64 ts[k].pos) := by rw [← hW]; simp [go_sem]
          have d0 : W.cell? ⟨wr.heap.size, 0, none⟩ = some (.int .i64 ts[k + 1].kind) := by rw [← hW]; simp [go_sem]
          have d1 : W.cell? ⟨wr.heap.size, 1, none⟩ = some (.string xb) := by rw [← hW]; simp [go_sem]
          have d2 : W.cell? ⟨wr.heap.size, 2, none⟩ = some (.int .i64 ts[k + 1].n) := by rw [← hW]; simp [go_sem]
          have d3 : W.cell? ⟨wr.heap.size, 3, none⟩ = some (.int .i64 ts[k + 1].pos) := by rw [← hW]; simp [go_sem]
          have hbw : Below wr.heap.size wr W := by rw [← hW]; exact (((Below.refl _ _).alloc (Nat.le_refl _) _).alloc (by simp) _).drew
          have HBW := Lib.hid hbw
          clear hW a0 a1 a2 a3 b0 b1 b2 b3 hbw
          rcases hkind with hk1 | hk1 | hk1 | hk1
          · have HG := HL2.out (by simp [hk1])
            rw [← HD0.out] at HG
            rw [hk1] at c0
            clear hk1
            go_wp2_with (first | (go_at_call 24; refine (ldigit_any _ _).mono ?_; rintro e w' ⟨rfl, rfl⟩) | (go_at_call 25; refine (lletter_any _ _).mono ?_; rintro e w' ⟨rfl, rfl⟩))
            have p1 := not_pair HBO.out HPC.out [61, 61] (by simp [pairs])
            have p2 := not_pair HBO.out HPC.out [33, 61] (by simp [pairs])
            have p3 := not_pair HBO.out HPC.out [60, 61] (by simp [pairs])
            have p4 := not_pair HBO.out HPC.out [62, 61] (by simp [pairs])
            have p5 := not_pair HBO.out HPC.out [38, 38] (by simp [pairs])
            have p6 := not_pair HBO.out HPC.out [124, 124] (by simp [pairs])
            go_quiet (fail)
            go_wp2_with fail
            go_roundw
            case rel => exact ⟨k + 1, by omega, by go_num, HBel.out.trans ((below_drewN HBW.out nq).mono HBel.out.size), HRow.out.next (below_drewN HBW.out nq), HNX.out⟩
            case measure => simp [intOf]; omega
          · have HG := HL1.out hk1
            rw [← HD0.out] at HG
            rw [hk1] at c0
            clear hk1
            go_wp2_with (first | (go_at_call 24; refine (ldigit_any _ _).mono ?_; rintro e w' ⟨rfl, rfl⟩) | (go_at_call 25; refine (lletter_any _ _).mono ?_; rintro e w' ⟨rfl, rfl⟩))
            have p1 := not_pair HBO.out HPC.out [61, 61] (by simp [pairs])
            have p2 := not_pair HBO.out HPC.out [33, 61] (by simp [pairs])
            have p3 := not_pair HBO.out HPC.out [60, 61] (by simp [pairs])
            have p4 := not_pair HBO.out HPC.out [62, 61] (by simp [pairs])
            have p5 := not_pair HBO.out HPC.out [38, 38] (by simp [pairs])
            have p6 := not_pair HBO.out HPC.out [124, 124] (by simp [pairs])
            go_quiet (fail)
            go_wp2_with fail
            go_roundw
            case rel => exact ⟨k + 1, by omega, by go_num, HBel.out.trans ((below_drewN HBW.out nq).mono HBel.out.size), HRow.out.next (below_drewN HBW.out nq), HNX.out⟩
            case measure => simp [intOf]; omega
          · have HG := HL2.out (by simp [hk1])
            rw [← HD0.out] at HG
            rw [hk1] at c0
            clear hk1
            go_wp2_with (first | (go_at_call 24; refine (ldigit_any _ _).mono ?_; rintro e w' ⟨rfl, rfl⟩) | (go_at_call 25; refine (lletter_any _ _).mono ?_; rintro e w' ⟨rfl, rfl⟩))
            have p1 := not_pair HBO.out HPC.out [61, 61] (by simp [pairs])
            have p2 := not_pair HBO.out HPC.out [33, 61] (by simp [pairs])
            have p3 := not_pair HBO.out HPC.out [60, 61] (by simp [pairs])
            have p4 := not_pair HBO.out HPC.out [62, 61] (by simp [pairs])
            have p5 := not_pair HBO.out HPC.out [38, 38] (by simp [pairs])
            have p6 := not_pair HBO.out HPC.out [124, 124] (by simp [pairs])
            go_quiet (fail)
            go_wp2_with fail
            go_roundw
            case rel => exact ⟨k + 1, by omega, by go_num, HBel.out.trans ((below_drewN HBW.out nq).mono HBel.out.size), HRow.out.next (below_drewN HBW.out nq), HNX.out⟩
            case measure => simp [intOf]; omega
          · rw [hk1] at c0
            clear hk1
            go_wp2_with (first | (go_at_call 24; refine (ldigit_any _ _).mono ?_; rintro e w' ⟨rfl, rfl⟩) | (go_at_call 25; refine (lletter_any _ _).mono ?_; rintro e w' ⟨rfl, rfl⟩))
            have p1 := not_pair HBO.out HPC.out [61, 61] (by simp [pairs])
            have p2 := not_pair HBO.out HPC.out [33, 61] (by simp [pairs])
            have p3 := not_pair HBO.out HPC.out [60, 61] (by simp [pairs])
            have p4 := not_pair HBO.out HPC.out [62, 61] (by simp [pairs])
            have p5 := not_pair HBO.out HPC.out [38, 38] (by simp [pairs])
            have p6 := not_pair HBO.out HPC.out [124, 124] (by simp [pairs])
            go_quiet (fail)
            go_wp2_with fail
            go_roundw
            case rel => exact ⟨k + 1, by omega, by go_num, HBel.out.trans ((below_drewN HBW.out nq).mono HBel.out.size), HRow.out.next (below_drewN HBW.out nq), HNX.out⟩
            case measure => simp [intOf]; omega
      · have hto' : ((ts[k + 1].pos : Int) != (ts[k].pos : Int) + (xa.size : Int)) = true := by rw [bne, beq_false_of_ne (by have := HXA2.out; omega)]; rfl
        clear hto
        go_wp2_with fail
        go_region
        · generalize hW : World.drew _ = W
          have c0 : W.cell? ⟨wr.heap.size, 0, none⟩ = some (.int .i64 ts[k].kind) := by rw [← hW]; simp [go_sem]
          have c1 : W.cell? ⟨wr.heap.size, 1, none⟩ = some (.string xa) := by rw [← hW]; simp [go_sem]
          have c2 : W.cell? ⟨wr.heap.size, 2, none⟩ = some (.int .i64 ts[k].n) := by rw [← hW]; simp [go_sem]
          have c3 : W.cell? ⟨wr.heap.size, 3, none⟩ = some (.int .i64 ts[k].pos) := by rw [← hW]; simp [go_sem]
          have d0 : W.cell? ⟨wr.heap.size + 1, 0, none⟩ = some (.int .i64 ts[k + 1].kind) := by rw [← hW]; simp [go_sem]
          have d1 : W.cell? ⟨wr.heap.size + 1, 1, none⟩ = some (.string xb) := by rw [← hW]; simp [go_sem]
          have d2 : W.cell? ⟨wr.heap.size + 1, 2, none⟩ = some (.int .i64 ts[k + 1].n) := by rw [← hW]; simp [go_sem]
          have d3 : W.cell? ⟨wr.heap.size + 1, 3, none⟩ = some (.int .i64 ts[k + 1].pos) := by rw [← hW]; simp [go_sem]
          have hbw : Below wr.heap.size wr W := by rw [← hW]; exact (((Below.refl _ _).alloc (Nat.le_refl _) _).alloc (by simp) _).drew
          have HBW := Lib.hid hbw
          clear hW a0 a1 a2 a3 b0 b1 b2 b3 hbw
          go_wp2_with fail
          go_roundw
          case rel => exact ⟨k + 1, by omega, by go_num, HBel.out.trans (HBW.out.mono HBel.out.size), HRow.out.next HBW.out, HNX.out⟩
          case measure => simp [intOf]; omega
        · generalize hW : World.drew _ = W
          have c0 : W.cell? ⟨wr.heap.size + 1, 0, none⟩ = some (.int .i64 ts[k].kind) := by rw [← hW]; simp [go_sem]
          have c1 : W.cell? ⟨wr.heap.size + 1, 1, none⟩ = some (.string xa) := by rw [← hW]; simp [go_sem]
          have c2 : W.cell? ⟨wr.heap.size + 1, 2, none⟩ = some (.int .i64 ts[k].n) := by rw [← hW]; simp [go_sem]
          have c3 : W.cell? ⟨wr.heap.size + 1, 3, none⟩ = some (.int .i64 ts[k].pos) := by rw [← hW]; simp [go_sem]
          have d0 : W.cell? ⟨wr.heap.size, 0, none⟩ = some (.int .i64 ts[k + 1].kind) := by rw [← hW]; simp [go_sem]
          have d1 : W.cell? ⟨wr.heap.size, 1, none⟩ = some (.string xb) := by rw [← hW]; simp [go_sem]
          have d2 : W.cell? ⟨wr.heap.size, 2, none⟩ = some (.int .i64 ts[k + 1].n) := by rw [← hW]; simp [go_sem]
          have d3 : W.cell? ⟨wr.heap.size, 3, none⟩ = some (.int .i64 ts[k + 1].pos) := by rw [← hW]; simp [go_sem]
          have hbw : Below wr.heap.size wr W := by rw [← hW]; exact (((Below.refl _ _).alloc (Nat.le_refl _) _).alloc (by simp) _).drew
          have HBW := Lib.hid hbw
          clear hW a0 a1 a2 a3 b0 b1 b2 b3 hbw
          go_wp2_with fail
          go_roundw
          case rel => exact ⟨k + 1, by omega, by go_num, HBel.out.trans (HBW.out.mono HBel.out.size), HRow.out.next HBW.out, HNX.out⟩
          case measure => simp [intOf]; omega
    · have hlt' : ¬ (k : Int) + 2 < (ts.length : Int) := by omega
      go_wp2_with fail
      go_ret
      exact ⟨rfl, hbel⟩
end Go.Proofs.Ytbaffdehhcfffaa.Lx
