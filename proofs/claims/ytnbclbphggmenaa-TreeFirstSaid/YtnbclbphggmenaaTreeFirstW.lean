/- The law TreeFirst, walked: it returns true. Conditions: the arguments lie in memory. -/
import Derived.Test.YtnbclbphggmenaaFirstP
import Derived.Test.YtnbclbphggmenaaTreeEqW
import Derived.Test.YtnbclbphggmenaaTurnP
import Derived.Test.YtnbclbphggmenaaReqP
import Derived.Test.YtnbclbphggmenaaTMod
import Derived.Test.YtnbclbphggmenaaFitsW
import Derived.Test.YtnbclbphggmenaaTreeFindW
import Derived.Test.YtnbclbphggmenaaRMayW
import Derived.Deep.DeepCutAuto
import Derived.Deep.CutBlock
import Derived.Deep.RegionHeld3
import Derived.IntWalk
namespace Go.Proofs.Ytnbclbphggmenaa.Tr
open Go.RowKit Go.Proofs.Ytnbclbphggmenaa.Lx Go.Proofs.Ytnbclbphggmenaa.Wd
set_option maxHeartbeats 8000000 in
set_option maxRecDepth 100000 in
theorem law_treeFirst {w : World} (d : Nat) (p : Pr) (gv pv : Value) (hp0 : PrC (cw w) d gv pv p) (a : Int) (ha : (Lit.int .i64 a).wf = true) :
    Calls Try.prog 12 #[.agg #[gv, pv], .int .i64 a] w fun e w' => e = .returned (.bool true) ∧ Below w.heap.size w w' := by
  have hp : PrC (cw w) (d + 1) gv pv p := PrC.le (by omega) hp0
  obtain ⟨ga, gc, rfl, -, -⟩ := hp.1.form
  obtain ⟨pa, pc, rfl, hpl1, hpl2⟩ := hp.2.form
  have hplen : p.procs.length ≤ 9223372036854775807 := Nat.le_trans hpl1 hpl2
  have HPL := Lib.hid hplen
  have HP0 := Lib.hid hp0
  have HP := Lib.hid hp
  clear hp hp0 hpl1 hpl2 hplen
  have HA := Lib.hid (wf_in ha)
  clear ha
  go_enter Try.func12, Try.ntmps12
  go_upto_region 1 with fail
  refine cut_world (fun wx => Below w.heap.size w wx ∧ BoxAt wx w.heap.size [.slice ga p.globals.length gc, .slice pa p.procs.length pc]) ⟨boxed _ _, box_new w #[.slice ga p.globals.length gc, .slice pa p.procs.length pc] 46⟩ ?_
  rintro w1 ⟨hb1, hx1⟩
  have HB1 := Lib.hid hb1
  have HX1 := Lib.hid hx1
  have HP1 := Lib.hid (PrC.mono (cw_next hb1) HP.out)
  clear hb1 hx1
  have p0 := HX1.out 0 _ rfl
  have p1 := HX1.out 1 _ rfl
  go_wp2_with fail
  refine (treed_any _).mono ?_
  rintro e w2 ⟨rfl, hb2⟩
  have HB2 := Lib.hid (HB1.out.trans (hb2.mono HB1.out.size))
  have HX2 := Lib.hid (HX1.out.next hb2)
  have HP2 := Lib.hid (PrC.mono (cw_next hb2) HP1.out)
  have HN2 := Lib.hid hb2
  clear hb2
  clear p0 p1
  have p0 := HX2.out 0 _ rfl
  have p1 := HX2.out 1 _ rfl
  go_wp2_with fail
  refine (fits_any (d + 1) p _ _ _ HP2.out).mono ?_
  rintro e w3 ⟨b1, hf1, rfl, hb3⟩
  have HF1 := Lib.hid hf1
  clear hf1
  have HB3 := Lib.hid (HB2.out.trans (hb3.mono HB2.out.size))
  have HX3 := Lib.hid (HX2.out.next hb3)
  have HP3 := Lib.hid (PrC.mono (cw_next hb3) HP2.out)
  have HN3 := Lib.hid hb3
  clear hb3
  clear p0 p1
  cases b1 with
  | false =>
    have p0 := HX3.out 0 _ rfl
    have p1 := HX3.out 1 _ rfl
    go_wp2_with fail
    go_ret
    exact ⟨rfl, HB3.out⟩
  | true =>
    have HWP := Lib.hid (HF1.out (by simp))
    clear HF1
    have p0 := HX3.out 0 _ rfl
    have p1 := HX3.out 1 _ rfl
    go_wp2_with fail
    refine (mayP_any (d + 1) p _ _ _ HP3.out).mono ?_
    rintro e w4 ⟨rfl, hb4⟩
    obtain ⟨m1, hm1⟩ : ∃ m, Hid (mayP p = m) := ⟨_, Lib.hid rfl⟩
    rw [hm1.out]
    have HB4 := Lib.hid (HB3.out.trans (hb4.mono HB3.out.size))
    have HX4 := Lib.hid (HX3.out.next hb4)
    have HP4 := Lib.hid (PrC.mono (cw_next hb4) HP3.out)
    have HN4 := Lib.hid hb4
    clear hb4
    clear p0 p1
    cases m1 with
    | false =>
      have p0 := HX4.out 0 _ rfl
      have p1 := HX4.out 1 _ rfl
      go_wp2_with fail
      go_ret
      exact ⟨rfl, HB4.out⟩
    | true =>
      have p0 := HX4.out 0 _ rfl
      have p1 := HX4.out 1 _ rfl
      have hc200 := mayP_cnt hm1.out
      obtain ⟨N, hN⟩ : ∃ N, Hid (cntP p.procs = N) := ⟨_, Lib.hid rfl⟩
      rw [hN.out] at hc200
      have HCP : Hid (wrap64 (((p.procs.map fun f => cntL f.body).sum : Nat) : Int) = (N : Int)) := Lib.hid (by
        rw [show (p.procs.map fun f => cntL f.body).sum = N from hN.out]
        unfold wrap64; omega)
      go_wp2_with fail
      refine (countP_any (d + 1) p _ _ _ HP4.out).mono ?_
      rintro e w5 ⟨rfl, hb5⟩
      rw [HCP.out]
      have HB5 := Lib.hid (HB4.out.trans (hb5.mono HB4.out.size))
      have HX5 := Lib.hid (HX4.out.next hb5)
      have HP5 := Lib.hid (PrC.mono (cw_next hb5) HP4.out)
      have HN5 := Lib.hid hb5
      clear hb5
      clear p0 p1
      have p0 := HX5.out 0 _ rfl
      have p1 := HX5.out 1 _ rfl
      by_cases h2 : N < 2
      · have h2' : (N : Int) < 2 := by omega
        go_wp2_with fail
        go_ret
        exact ⟨rfl, HB5.out⟩
      have h2' : ¬ (N : Int) < 2 := by omega
      obtain ⟨Q, hQ⟩ : ∃ Q, Hid (marPr 0 5 p = Q) := ⟨_, Lib.hid rfl⟩
      have hQe : (0 : Int) ≤ 0 := by omega
      go_wp2_with fail
      refine (marP_any 0 5 (by omega) (by omega) (by omega) (by omega) d p _ _ _ (PrC.mono (cw_next HB5.out) HP0.out) HWP.out hm1.out).mono ?_
      rw [hQ.out]
      rintro e w6 ⟨gv6, pv6, rfl, hp6, hb6⟩
      obtain ⟨gq, cq, rfl, -, -⟩ := hp6.1.form
      obtain ⟨aq, kq, rfl, hq1, hq2⟩ := hp6.2.form
      have hql : Q.procs.length ≤ 9223372036854775807 := Nat.le_trans hq1 hq2
      have HPQ6 := Lib.hid (PrC.mono only_out hp6)
      have HB6 := Lib.hid (HB5.out.trans (hb6.mono HB5.out.size))
      have HX6 := Lib.hid (HX5.out.next hb6)
      have HP6 := Lib.hid (PrC.mono (cw_next hb6) HP5.out)
      have HN6 := Lib.hid hb6
      clear hb6 hp6 hq1 hq2 p0 p1
      go_upto_region 8 with fail
      refine cut_world (fun wx => Below w6.heap.size w6 wx ∧ BoxAt wx w6.heap.size [.slice gq Q.globals.length cq, .slice aq Q.procs.length kq]) ⟨boxed _ _, box_new w6 #[.slice gq Q.globals.length cq, .slice aq Q.procs.length kq] 46⟩ ?_
      rintro w7 ⟨hb7, hq7⟩
      have HB7 := Lib.hid (HB6.out.trans (hb7.mono HB6.out.size))
      have HX7 := Lib.hid (HX6.out.next hb7)
      have HP7 := Lib.hid (PrC.mono (cw_next hb7) HP6.out)
      have HN7 := Lib.hid hb7
      have HPQ7 := Lib.hid (PrC.mono (cw_next hb7) HPQ6.out)
      have HBQ7 := Lib.hid hq7
      have q0 := hq7 0 _ rfl
      have q1 := hq7 1 _ rfl
      have hqw : wtPr Q ≤ 20000 := by rw [← hQ.out, mar_light]; exact HWP.out
      have HQW := Lib.hid (wtPr_mem hqw)
      have hQp : Hid (Q.procs = p.procs.map (marPc 0 5)) := Lib.hid (by rw [← hQ.out]; rfl)
      obtain ⟨nt, hnt⟩ : ∃ a, Hid (headP Q.procs = some a) := by
        obtain ⟨a, ha⟩ := head_some (l := Q.procs) (by rw [← hQ.out, mar_cnt, hN.out]; omega)
        exact ⟨a, Lib.hid ha⟩
      obtain ⟨nm, t⟩ := nt
      have hf5 : Hid (findP 5 Q.procs = some (nm, t)) := Lib.hid (by rw [hQp.out, find5, ← hQp.out]; exact hnt.out)
      have hnm := firstNm_head hnt.out
      have HNM := Lib.hid hnm
      clear hb7 hq7 hqw hnm HPQ6
      go_wp2_with fail
      refine (findP_any (d + 1) Q _ _ 5 _ HPQ7.out HQW.out).mono ?_
      rw [hf5.out]
      rintro e w8 ⟨c, rfl, hsq, hb8⟩
      have HB8 := Lib.hid (HB7.out.trans (hb8.mono HB7.out.size))
      have HX8 := Lib.hid (HX7.out.next hb8)
      have HP8 := Lib.hid (PrC.mono (cw_next hb8) HP7.out)
      have HN8 := Lib.hid hb8
      have HPQ8 := Lib.hid (PrC.mono (cw_next hb8) HPQ7.out)
      have HBQ8 := Lib.hid (HBQ7.out.next hb8)
      obtain ⟨kv, lv, av, tv, ev, rfl, ok2, hk2, i1, i2, i3, i4, hlv, hav, htv, hev⟩ := StQ_mono (only_out) hsq
      obtain ⟨la, lc, rfl, -, -⟩ := hlv.form
      obtain ⟨aa, ac, rfl, -, -⟩ := hav.form
      obtain ⟨ta, tc, rfl, -, -⟩ := htv.form
      obtain ⟨ea, ec, rfl, -, -⟩ := hev.form
      obtain ⟨ka, kc, rfl, -, -⟩ := hk2.form
      have HH8 := Lib.hid (Hang.mk (s := t) hlv hk2 hav htv hev)
      have HOK2 := Lib.hid ok2
      have HI1 := Lib.hid i1
      have HI2 := Lib.hid i2
      have HI3 := Lib.hid i3
      have HI4 := Lib.hid i4
      clear hlv hk2 hav htv hev ok2 i1 i2 i3 i4 hsq hb8 q0 q1 HPQ7 HBQ7
      unfold stCells
      go_upto_region 9 with fail
      refine cut_world (fun wx => Below w8.heap.size w8 wx ∧ BoxAt wx w8.heap.size (stCells t (.slice ka t.x.ks.length kc) (.slice la t.labels.length lc) (.slice aa t.args.length ac) (.slice ta t.thn.length tc) (.slice ea t.els.length ec))) ⟨boxed _ _, box_new w8 #[.int .i64 t.id, .int .i64 t.kind, .slice la t.labels.length lc, .string t.nm, .string t.proc, .int .i64 t.x.op, .int .i64 t.x.n, .string t.x.nm, .slice ka t.x.ks.length kc, .bool t.has, .slice aa t.args.length ac, .slice ta t.thn.length tc, .slice ea t.els.length ec] 53⟩ ?_
      rintro w9 ⟨hb9, ht9⟩
      have HB9 := Lib.hid (HB8.out.trans (hb9.mono HB8.out.size))
      have HX9 := Lib.hid (HX8.out.next hb9)
      have HP9 := Lib.hid (PrC.mono (cw_next hb9) HP8.out)
      have HN9 := Lib.hid hb9
      have HPQ9 := Lib.hid (PrC.mono (cw_next hb9) HPQ8.out)
      have HBQ9 := Lib.hid (HBQ8.out.next hb9)
      have HBT9 := Lib.hid ht9
      have HH9 := Lib.hid (HH8.out.next hb9)
      have q0 := HBQ9.out 0 _ rfl
      have q1 := HBQ9.out 1 _ rfl
      obtain ⟨L, hL⟩ : ∃ L, Hid (allOf Q = L) := ⟨_, Lib.hid rfl⟩
      clear hb9 ht9 HPQ8 HBQ8 HH8
      go_wp2_with fail
      refine (allOf_any (d + 1) Q _ _ _ HPQ9.out).mono ?_
      rw [hL.out]
      rintro e w10 ⟨v10, rows10, rfl, hr10, hb10⟩
      have HITS := Lib.hid hr10.sl
      obtain ⟨ia, ic, rfl⟩ := ownsForm hr10.own
      have HB10 := Lib.hid (HB9.out.trans (hb10.mono HB9.out.size))
      have HX10 := Lib.hid (HX9.out.next hb10)
      have HP10 := Lib.hid (PrC.mono (cw_next hb10) HP9.out)
      have HN10 := Lib.hid hb10
      have HPQ10 := Lib.hid (PrC.mono (cw_next hb10) HPQ9.out)
      have HBQ10 := Lib.hid (HBQ9.out.next hb10)
      have HBT10 := Lib.hid (HBT9.out.next hb10)
      have HH10 := Lib.hid (HH9.out.next hb10)
      obtain ⟨rn, hrn⟩ : ∃ r, Hid (a % 300 = r) := ⟨_, Lib.hid rfl⟩
      have n0 : 0 ≤ rn := by rw [← hrn.out]; omega
      have n1 : rn < 300 := by rw [← hrn.out]; omega
      have e6 : IntKind.i64.wrap (6 + rn) = 6 + rn := IntWalk.i64_in _ (by omega)
      have hno : Hid (findP (6 + rn) Q.procs = none) := Lib.hid (by rw [hQp.out]; exact findP_no (by omega) _)
      have hq : Below w10.heap.size w10 w10.drew := (Below.refl _ _).drew
      have L0 := Lib.hid (HBQ10.out 0 _ rfl)
      have L1 := Lib.hid (HBQ10.out 1 _ rfl)
      clear hb10 hr10 q0 q1 HPQ9 HBQ9 HBT9 HH9
      go_upto_region 10 with fail
      go_cut [12] (fun x12 wx => x12 = .bool false ∧ Below w10.heap.size w10 wx)
      case first =>
        have hzq : w9.heap.size ≤ w10.heap.size := HN10.out.size
        have hq6 : w6.heap.size < w10.heap.size := cell_lt L0.out
        have hqA : Below w10.heap.size w10 (w10.alloc (.cells #[.int .i64 0, .int .i64 0, .slice none 0 0, .string ⟨#[]⟩, .string ⟨#[]⟩, .int .i64 0, .int .i64 0, .string ⟨#[]⟩, .slice none 0 0, .bool false, .slice none 0 0, .slice none 0 0, .slice none 0 0] 53)).drew := (boxed w10 _).drew
        go_region_held3 (fun w' => w'.cell? ⟨w6.heap.size, 0, none⟩ = some (.slice gq Q.globals.length cq) ∧ w'.cell? ⟨w6.heap.size, 1, none⟩ = some (.slice aq Q.procs.length kq) ∧ Below w10.heap.size w10 w')
          (first
            | with_reducible exact ⟨cell_next hq L0.out, cell_next hq L1.out, hq⟩
            | with_reducible exact ⟨cell_next hqA L0.out, cell_next hqA L1.out, hqA⟩
            | with_reducible exact ⟨cell_next hq5 L0.out, cell_next hq5 L1.out, hq5⟩
            | with_reducible exact ⟨cell_next hq5A L0.out, cell_next hq5A L1.out, hq5A⟩
            | with_reducible exact ⟨cell_next hq5C L0.out, cell_next hq5C L1.out, hq5C⟩)
          (first
            | (go_split_ands
               go_at_call 44
               refine (mod_any a 300 rn _ HA.out.1 HA.out.2 (by omega) (by omega) hrn.out).mono ?_
               rintro e w' ⟨rfl, rfl⟩)
            | (go_split_ands
               go_at_call 38
               refine (findP_any (d + 1) Q _ _ (6 + rn) _ (PrC.mono (cw_next (by first | with_reducible exact hq | with_reducible exact hqA)) HPQ10.out) HQW.out).mono ?_
               rw [hno.out]
               rintro e w11 ⟨rfl, hb11⟩
               unfold noSt
               have hq5 := below_then hb11 (by first | with_reducible exact hq | with_reducible exact hqA)
               have hq5A := hq5.alloc hq5.size (.cells #[.int .i64 0, .int .i64 0, .slice none 0 0, .string ⟨#[]⟩, .string ⟨#[]⟩, .int .i64 0, .int .i64 0, .string ⟨#[]⟩, .slice none 0 0, .bool false, .slice none 0 0, .slice none 0 0, .slice none 0 0] 53)
               have hq5C := below13 (b := w10.heap.size) (x0 := .int .i64 0) (x1 := .int .i64 0) (x2 := .slice none 0 0) (x3 := .string ⟨#[]⟩) (x4 := .string ⟨#[]⟩) (x5 := .int .i64 0) (x6 := .int .i64 0) (x7 := .string ⟨#[]⟩) (x8 := .slice none 0 0) (x9 := .bool false) (x10 := .slice none 0 0) (x11 := .slice none 0 0) (x12 := .slice none 0 0) hq5 (Nat.le_refl _)
               (first
                | ((with_reducible have hcheck := below_then hb11 hqA)
                   have hY5 := ((box_new w10 #[.int .i64 0, .int .i64 0, .slice none 0 0, .string ⟨#[]⟩, .string ⟨#[]⟩, .int .i64 0, .int .i64 0, .string ⟨#[]⟩, .slice none 0 0, .bool false, .slice none 0 0, .slice none 0 0, .slice none 0 0] 53).next ((Below.refl _ _).drew)).next hb11
                   have hYF5 : Free w11 w10.heap.size := Free.next (show Free (w10.alloc (.cells #[.int .i64 0, .int .i64 0, .slice none 0 0, .string ⟨#[]⟩, .string ⟨#[]⟩, .int .i64 0, .int .i64 0, .string ⟨#[]⟩, .slice none 0 0, .bool false, .slice none 0 0, .slice none 0 0, .slice none 0 0] 53)).drew w10.heap.size from Free.next (fun j => by simp [go_sem]) (by simp) ((Below.refl _ _).drew)) (by simp) hb11
                   have y0 := hY5 0 _ rfl
                   have f0 := hYF5 0
                   have y1 := hY5 1 _ rfl
                   have f1 := hYF5 1
                   have y2 := hY5 2 _ rfl
                   have f2 := hYF5 2
                   have y3 := hY5 3 _ rfl
                   have f3 := hYF5 3
                   have y4 := hY5 4 _ rfl
                   have f4 := hYF5 4
                   have y5 := hY5 5 _ rfl
                   have f5 := hYF5 5
                   have y6 := hY5 6 _ rfl
                   have f6 := hYF5 6
                   have y7 := hY5 7 _ rfl
                   have f7 := hYF5 7
                   have y8 := hY5 8 _ rfl
                   have f8 := hYF5 8
                   have y9 := hY5 9 _ rfl
                   have f9 := hYF5 9
                   have y10 := hY5 10 _ rfl
                   have f10 := hYF5 10
                   have y11 := hY5 11 _ rfl
                   have f11 := hYF5 11
                   have y12 := hY5 12 _ rfl
                   have f12 := hYF5 12)
                | (with_reducible have hcheck := below_then hb11 hq))))
        all_goals
          go_wp2_with fail
          go_meet
          exact ⟨rfl, by first | with_reducible exact hq5 | with_reducible exact hq5A | with_reducible exact hq5C⟩
      case rest =>
        obtain ⟨rfl, hb11⟩ := hcut
        obtain ⟨w11, hw11⟩ : ∃ w11 : World, w11 = wc := ⟨_, rfl⟩
        subst hw11
        have HB11 := Lib.hid (HB10.out.trans (hb11.mono HB10.out.size))
        have HX11 := Lib.hid (HX10.out.next hb11)
        have HP11 := Lib.hid (PrC.mono (cw_next hb11) HP10.out)
        have HN11 := Lib.hid hb11
        have HPQ11 := Lib.hid (PrC.mono (cw_next hb11) HPQ10.out)
        have HBQ11 := Lib.hid (HBQ10.out.next hb11)
        have HBT11 := Lib.hid (HBT10.out.next hb11)
        have HH11 := Lib.hid (HH10.out.next hb11)
        have HITS11 := Lib.hid (SlAt.imp HITS.out fun _ _ _ _ => ItAt.mono (cw_next hb11))
        have q1 := HBQ11.out 1 _ rfl
        clear hb11 hq L0 L1 e6 HPQ10 HBQ10 HBT10 HH10
        go_wp2_with fail
        go_loop [13, 14] (fun s13 i => ∃ m : Nat, m ≤ Q.procs.length ∧ i = .int .i64 ((m : Int) - 1) ∧ s13 = .string (firstNm (Q.procs.drop m))) (fun _ i => (intOf i + 1).toNat)
        case atStart => exact ⟨Q.procs.length, Nat.le_refl _, rfl, by rw [List.drop_length]; rfl⟩
        case round =>
          obtain ⟨m, hm, rfl, rfl⟩ := hrel
          cases m with
          | succ k =>
            have hk1 : (((k + 1 : Nat) : Int) - 1) = (k : Int) := by omega
            rw [hk1]
            have hlt : k < Q.procs.length := by omega
            have hlt' : (k : Int) < (Q.procs.length : Int) := by omega
            have h0k : (0 : Int) ≤ (k : Int) := by omega
            have hne : Q.procs ≠ [] := by intro h; rw [h] at hlt; simp at hlt
            obtain ⟨g, off, cap', hv, _, hcells⟩ := HPQ11.out.2.cells hne
            simp only [Value.slice.injEq] at hv
            obtain ⟨rfl, -, rfl⟩ := hv
            obtain ⟨qv1, vv1, bv1, fv1, c0, c1, c2, c3, c4, -, -, -, hbd, -⟩ := hcells k hlt
            obtain ⟨f, hf⟩ : ∃ f, Hid (Q.procs[k] = f) := ⟨_, Lib.hid rfl⟩
            rw [hf.out] at c0 hbd
            obtain ⟨ba1, bc1, rfl, hx1, hx2⟩ := hbd.form
            have e0 : w11.cell? ⟨g, off + k * 5, none⟩ = _ := c0
            have e3 : w11.cell? ⟨g, off + k * 5 + 3, none⟩ = _ := c3
            have hdrop : Hid (firstNm (Q.procs.drop k) = if f.body.length = 0 then firstNm (Q.procs.drop (k + 1)) else f.nm) := Lib.hid (by rw [List.drop_eq_getElem_cons hlt, hf.out, firstNm])
            obtain ⟨F1, hF1⟩ : ∃ F, Hid (firstNm (Q.procs.drop (k + 1)) = F) := ⟨_, Lib.hid rfl⟩
            rw [hF1.out] at hdrop ⊢
            clear hcells c0 c1 c2 c3 c4 hbd hne hk1
            have hbl : f.body.length ≤ 9223372036854775807 := Nat.le_trans hx1 hx2
            clear hx1 hx2
            by_cases hb0 : f.body.length = 0
            · have b0 : ¬ (0 : Int) < (f.body.length : Int) := by omega
              rw [if_pos hb0] at hdrop
              clear hb0
              go_wp2_with fail
              go_round
              case rel => exact ⟨k, by omega, rfl, by rw [hdrop.out]⟩
              case measure => first | (simp [intOf]; done) | (simp [intOf]; omega)
            · have b0 : (0 : Int) < (f.body.length : Int) := by omega
              rw [if_neg hb0] at hdrop
              clear hb0
              go_wp2_with fail
              go_round
              case rel => exact ⟨k, by omega, rfl, by rw [hdrop.out]⟩
              case measure => first | (simp [intOf]; done) | (simp [intOf]; omega)
          | zero =>
            have hk1 : (((0 : Nat) : Int) - 1) = -1 := by omega
            rw [hk1, List.drop_zero, HNM.out]
            have hnn : (nm.toList == nm.toList) = true := by simp
            obtain ⟨x0, hx0⟩ := all_head hnt.out
            have hL2 : L = ⟨t, 1, 0, false⟩ :: x0 := by rw [← hL.out]; exact hx0
            have hLp : 0 < L.length := by rw [hL2]; simp
            have hLp' : (0 : Int) < (L.length : Int) := by omega
            have hne : L ≠ [] := by rw [hL2]; simp
            obtain ⟨g, off, cap', hv, _, hcells⟩ := HITS11.out.cells hne
            simp only [Value.slice.injEq] at hv
            obtain ⟨rfl, -, rfl⟩ := hv
            have hit := hcells 0 hLp
            have h00 : L[0] = ⟨t, 1, 0, false⟩ := by simp only [hL2, List.getElem_cons_zero]
            rw [h00] at hit
            obtain ⟨lv2, kv2, av2, tv2, ev2, hce, hh2, hok3, j1, j2, j3, j4, j5, j6⟩ := hit.hang
            obtain ⟨la2, lc2, rfl, -, -⟩ := hh2.lab.form
            obtain ⟨ka2, kc2, rfl, -, -⟩ := hh2.kid.form
            obtain ⟨aa2, ac2, rfl, -, -⟩ := hh2.arg.form
            obtain ⟨ta2, tc2, rfl, -, -⟩ := hh2.thn.form
            obtain ⟨ea2, ec2, rfl, -, -⟩ := hh2.els.form
            have HH2 := Lib.hid hh2
            have HOK3 := Lib.hid hok3
            have HCE := Lib.hid hce
            have HLL := Lib.hid hLp'
            clear hcells hit hce hh2 hok3 hne h00 hL2 hx0 hk1
            have hq : Below w11.heap.size w11 w11.drew := (Below.refl _ _).drew
            have T0 := Lib.hid (HBT11.out 0 _ rfl)
            have I0 : Hid (w11.cell? ⟨g, off, none⟩ = _) := Lib.hid (HCE.out 0 _ rfl)
            have T1 := Lib.hid (HBT11.out 1 _ rfl)
            have I1 : Hid (w11.cell? ⟨g, off + 1, none⟩ = _) := Lib.hid (HCE.out 1 _ rfl)
            have T2 := Lib.hid (HBT11.out 2 _ rfl)
            have I2 : Hid (w11.cell? ⟨g, off + 2, none⟩ = _) := Lib.hid (HCE.out 2 _ rfl)
            have T3 := Lib.hid (HBT11.out 3 _ rfl)
            have I3 : Hid (w11.cell? ⟨g, off + 3, none⟩ = _) := Lib.hid (HCE.out 3 _ rfl)
            have T4 := Lib.hid (HBT11.out 4 _ rfl)
            have I4 : Hid (w11.cell? ⟨g, off + 4, none⟩ = _) := Lib.hid (HCE.out 4 _ rfl)
            have T5 := Lib.hid (HBT11.out 5 _ rfl)
            have I5 : Hid (w11.cell? ⟨g, off + 5, none⟩ = _) := Lib.hid (HCE.out 5 _ rfl)
            have T6 := Lib.hid (HBT11.out 6 _ rfl)
            have I6 : Hid (w11.cell? ⟨g, off + 6, none⟩ = _) := Lib.hid (HCE.out 6 _ rfl)
            have T7 := Lib.hid (HBT11.out 7 _ rfl)
            have I7 : Hid (w11.cell? ⟨g, off + 7, none⟩ = _) := Lib.hid (HCE.out 7 _ rfl)
            have T8 := Lib.hid (HBT11.out 8 _ rfl)
            have I8 : Hid (w11.cell? ⟨g, off + 8, none⟩ = _) := Lib.hid (HCE.out 8 _ rfl)
            have T9 := Lib.hid (HBT11.out 9 _ rfl)
            have I9 : Hid (w11.cell? ⟨g, off + 9, none⟩ = _) := Lib.hid (HCE.out 9 _ rfl)
            have T10 := Lib.hid (HBT11.out 10 _ rfl)
            have I10 : Hid (w11.cell? ⟨g, off + 10, none⟩ = _) := Lib.hid (HCE.out 10 _ rfl)
            have T11 := Lib.hid (HBT11.out 11 _ rfl)
            have I11 : Hid (w11.cell? ⟨g, off + 11, none⟩ = _) := Lib.hid (HCE.out 11 _ rfl)
            have T12 := Lib.hid (HBT11.out 12 _ rfl)
            have I12 : Hid (w11.cell? ⟨g, off + 12, none⟩ = _) := Lib.hid (HCE.out 12 _ rfl)
            have hqA : Below w11.heap.size w11 (w11.alloc (.cells #[.int .i64 t.id, .int .i64 t.kind, .slice la t.labels.length lc, .string t.nm, .string t.proc, .int .i64 t.x.op, .int .i64 t.x.n, .string t.x.nm, .slice ka t.x.ks.length kc, .bool t.has, .slice aa t.args.length ac, .slice ta t.thn.length tc, .slice ea t.els.length ec] 53)).drew := (boxed w11 _).drew
            have hqB : Below w11.heap.size w11 (w11.alloc (.cells #[.int .i64 t.id, .int .i64 t.kind, .slice la2 t.labels.length lc2, .string t.nm, .string t.proc, .int .i64 t.x.op, .int .i64 t.x.n, .string t.x.nm, .slice ka2 t.x.ks.length kc2, .bool t.has, .slice aa2 t.args.length ac2, .slice ta2 t.thn.length tc2, .slice ea2 t.els.length ec2] 53)).drew := (boxed w11 _).drew
            have hqAB : Below w11.heap.size w11 ((w11.alloc (.cells #[.int .i64 t.id, .int .i64 t.kind, .slice la t.labels.length lc, .string t.nm, .string t.proc, .int .i64 t.x.op, .int .i64 t.x.n, .string t.x.nm, .slice ka t.x.ks.length kc, .bool t.has, .slice aa t.args.length ac, .slice ta t.thn.length tc, .slice ea t.els.length ec] 53)).alloc (.cells #[.int .i64 t.id, .int .i64 t.kind, .slice la2 t.labels.length lc2, .string t.nm, .string t.proc, .int .i64 t.x.op, .int .i64 t.x.n, .string t.x.nm, .slice ka2 t.x.ks.length kc2, .bool t.has, .slice aa2 t.args.length ac2, .slice ta2 t.thn.length tc2, .slice ea2 t.els.length ec2] 53)).drew := ((boxed w11 _).alloc (by simp) _).drew
            have hqBA : Below w11.heap.size w11 ((w11.alloc (.cells #[.int .i64 t.id, .int .i64 t.kind, .slice la2 t.labels.length lc2, .string t.nm, .string t.proc, .int .i64 t.x.op, .int .i64 t.x.n, .string t.x.nm, .slice ka2 t.x.ks.length kc2, .bool t.has, .slice aa2 t.args.length ac2, .slice ta2 t.thn.length tc2, .slice ea2 t.els.length ec2] 53)).alloc (.cells #[.int .i64 t.id, .int .i64 t.kind, .slice la t.labels.length lc, .string t.nm, .string t.proc, .int .i64 t.x.op, .int .i64 t.x.n, .string t.x.nm, .slice ka t.x.ks.length kc, .bool t.has, .slice aa t.args.length ac, .slice ta t.thn.length tc, .slice ea t.els.length ec] 53)).drew := ((boxed w11 _).alloc (by simp) _).drew
            have HAB1 := Lib.hid (row_one (d := d + 1) (s := t) (((box_new w11 #[.int .i64 t.id, .int .i64 t.kind, .slice la t.labels.length lc, .string t.nm, .string t.proc, .int .i64 t.x.op, .int .i64 t.x.n, .string t.x.nm, .slice ka t.x.ks.length kc, .bool t.has, .slice aa t.args.length ac, .slice ta t.thn.length tc, .slice ea t.els.length ec] 53).next (boxed _ (.cells #[.int .i64 t.id, .int .i64 t.kind, .slice la2 t.labels.length lc2, .string t.nm, .string t.proc, .int .i64 t.x.op, .int .i64 t.x.n, .string t.x.nm, .slice ka2 t.x.ks.length kc2, .bool t.has, .slice aa2 t.args.length ac2, .slice ta2 t.thn.length tc2, .slice ea2 t.els.length ec2] 53))).next ((Below.refl _ _).drew)) HOK2.out HI1.out HI2.out HI3.out HI4.out (HH11.out.next hqAB))
            have HAB2 := Lib.hid (row_one (d := d + 1) (s := t) ((box_two w11 (.cells #[.int .i64 t.id, .int .i64 t.kind, .slice la t.labels.length lc, .string t.nm, .string t.proc, .int .i64 t.x.op, .int .i64 t.x.n, .string t.x.nm, .slice ka t.x.ks.length kc, .bool t.has, .slice aa t.args.length ac, .slice ta t.thn.length tc, .slice ea t.els.length ec] 53) #[.int .i64 t.id, .int .i64 t.kind, .slice la2 t.labels.length lc2, .string t.nm, .string t.proc, .int .i64 t.x.op, .int .i64 t.x.n, .string t.x.nm, .slice ka2 t.x.ks.length kc2, .bool t.has, .slice aa2 t.args.length ac2, .slice ta2 t.thn.length tc2, .slice ea2 t.els.length ec2] 53).next ((Below.refl _ _).drew)) HOK3.out j1 j2 j3 j4 (HH2.out.next hqAB))
            have HBA2 := Lib.hid (row_one (d := d + 1) (s := t) (((box_new w11 #[.int .i64 t.id, .int .i64 t.kind, .slice la2 t.labels.length lc2, .string t.nm, .string t.proc, .int .i64 t.x.op, .int .i64 t.x.n, .string t.x.nm, .slice ka2 t.x.ks.length kc2, .bool t.has, .slice aa2 t.args.length ac2, .slice ta2 t.thn.length tc2, .slice ea2 t.els.length ec2] 53).next (boxed _ (.cells #[.int .i64 t.id, .int .i64 t.kind, .slice la t.labels.length lc, .string t.nm, .string t.proc, .int .i64 t.x.op, .int .i64 t.x.n, .string t.x.nm, .slice ka t.x.ks.length kc, .bool t.has, .slice aa t.args.length ac, .slice ta t.thn.length tc, .slice ea t.els.length ec] 53))).next ((Below.refl _ _).drew)) HOK3.out j1 j2 j3 j4 (HH2.out.next hqBA))
            have HBA1 := Lib.hid (row_one (d := d + 1) (s := t) ((box_two w11 (.cells #[.int .i64 t.id, .int .i64 t.kind, .slice la2 t.labels.length lc2, .string t.nm, .string t.proc, .int .i64 t.x.op, .int .i64 t.x.n, .string t.x.nm, .slice ka2 t.x.ks.length kc2, .bool t.has, .slice aa2 t.args.length ac2, .slice ta2 t.thn.length tc2, .slice ea2 t.els.length ec2] 53) #[.int .i64 t.id, .int .i64 t.kind, .slice la t.labels.length lc, .string t.nm, .string t.proc, .int .i64 t.x.op, .int .i64 t.x.n, .string t.x.nm, .slice ka t.x.ks.length kc, .bool t.has, .slice aa t.args.length ac, .slice ta t.thn.length tc, .slice ea t.els.length ec] 53).next ((Below.refl _ _).drew)) HOK2.out HI1.out HI2.out HI3.out HI4.out (HH11.out.next hqBA))
            have HEQ : Hid (eqL eqS [t] [t] = true) := Lib.hid (eqL_refl fun x _ => eqS_refl x)
            have C1 := Lib.hid (reqStmts_any (d + 1 + 1) [t] [t] _ _ _ HAB1.out HAB2.out)
            have C2 := Lib.hid (reqStmts_any (d + 1 + 1) [t] [t] _ _ _ HBA1.out HBA2.out)
            go_upto_region 17 with fail
            go_region_held3 (fun w' => w'.cell? ⟨w8.heap.size, 0, none⟩ = some (.int .i64 t.id) ∧ w'.cell? ⟨w8.heap.size, 1, none⟩ = some (.int .i64 t.kind) ∧ w'.cell? ⟨w8.heap.size, 2, none⟩ = some (.slice la t.labels.length lc) ∧ w'.cell? ⟨w8.heap.size, 3, none⟩ = some (.string t.nm) ∧ w'.cell? ⟨w8.heap.size, 4, none⟩ = some (.string t.proc) ∧ w'.cell? ⟨w8.heap.size, 5, none⟩ = some (.int .i64 t.x.op) ∧ w'.cell? ⟨w8.heap.size, 6, none⟩ = some (.int .i64 t.x.n) ∧ w'.cell? ⟨w8.heap.size, 7, none⟩ = some (.string t.x.nm) ∧ w'.cell? ⟨w8.heap.size, 8, none⟩ = some (.slice ka t.x.ks.length kc) ∧ w'.cell? ⟨w8.heap.size, 9, none⟩ = some (.bool t.has) ∧ w'.cell? ⟨w8.heap.size, 10, none⟩ = some (.slice aa t.args.length ac) ∧ w'.cell? ⟨w8.heap.size, 11, none⟩ = some (.slice ta t.thn.length tc) ∧ w'.cell? ⟨w8.heap.size, 12, none⟩ = some (.slice ea t.els.length ec) ∧ w'.cell? ⟨g, off, none⟩ = some (.int .i64 t.id) ∧ w'.cell? ⟨g, off + 1, none⟩ = some (.int .i64 t.kind) ∧ w'.cell? ⟨g, off + 2, none⟩ = some (.slice la2 t.labels.length lc2) ∧ w'.cell? ⟨g, off + 3, none⟩ = some (.string t.nm) ∧ w'.cell? ⟨g, off + 4, none⟩ = some (.string t.proc) ∧ w'.cell? ⟨g, off + 5, none⟩ = some (.int .i64 t.x.op) ∧ w'.cell? ⟨g, off + 6, none⟩ = some (.int .i64 t.x.n) ∧ w'.cell? ⟨g, off + 7, none⟩ = some (.string t.x.nm) ∧ w'.cell? ⟨g, off + 8, none⟩ = some (.slice ka2 t.x.ks.length kc2) ∧ w'.cell? ⟨g, off + 9, none⟩ = some (.bool t.has) ∧ w'.cell? ⟨g, off + 10, none⟩ = some (.slice aa2 t.args.length ac2) ∧ w'.cell? ⟨g, off + 11, none⟩ = some (.slice ta2 t.thn.length tc2) ∧ w'.cell? ⟨g, off + 12, none⟩ = some (.slice ea2 t.els.length ec2) ∧ Below w11.heap.size w11 w')
              (first
               | with_reducible exact ⟨cell_next hq T0.out, cell_next hq T1.out, cell_next hq T2.out, cell_next hq T3.out, cell_next hq T4.out, cell_next hq T5.out, cell_next hq T6.out, cell_next hq T7.out, cell_next hq T8.out, cell_next hq T9.out, cell_next hq T10.out, cell_next hq T11.out, cell_next hq T12.out, cell_next hq I0.out, cell_next hq I1.out, cell_next hq I2.out, cell_next hq I3.out, cell_next hq I4.out, cell_next hq I5.out, cell_next hq I6.out, cell_next hq I7.out, cell_next hq I8.out, cell_next hq I9.out, cell_next hq I10.out, cell_next hq I11.out, cell_next hq I12.out, hq⟩
               | with_reducible exact ⟨cell_next hqA T0.out, cell_next hqA T1.out, cell_next hqA T2.out, cell_next hqA T3.out, cell_next hqA T4.out, cell_next hqA T5.out, cell_next hqA T6.out, cell_next hqA T7.out, cell_next hqA T8.out, cell_next hqA T9.out, cell_next hqA T10.out, cell_next hqA T11.out, cell_next hqA T12.out, cell_next hqA I0.out, cell_next hqA I1.out, cell_next hqA I2.out, cell_next hqA I3.out, cell_next hqA I4.out, cell_next hqA I5.out, cell_next hqA I6.out, cell_next hqA I7.out, cell_next hqA I8.out, cell_next hqA I9.out, cell_next hqA I10.out, cell_next hqA I11.out, cell_next hqA I12.out, hqA⟩
               | with_reducible exact ⟨cell_next hqB T0.out, cell_next hqB T1.out, cell_next hqB T2.out, cell_next hqB T3.out, cell_next hqB T4.out, cell_next hqB T5.out, cell_next hqB T6.out, cell_next hqB T7.out, cell_next hqB T8.out, cell_next hqB T9.out, cell_next hqB T10.out, cell_next hqB T11.out, cell_next hqB T12.out, cell_next hqB I0.out, cell_next hqB I1.out, cell_next hqB I2.out, cell_next hqB I3.out, cell_next hqB I4.out, cell_next hqB I5.out, cell_next hqB I6.out, cell_next hqB I7.out, cell_next hqB I8.out, cell_next hqB I9.out, cell_next hqB I10.out, cell_next hqB I11.out, cell_next hqB I12.out, hqB⟩
               | with_reducible exact ⟨cell_next hqAB T0.out, cell_next hqAB T1.out, cell_next hqAB T2.out, cell_next hqAB T3.out, cell_next hqAB T4.out, cell_next hqAB T5.out, cell_next hqAB T6.out, cell_next hqAB T7.out, cell_next hqAB T8.out, cell_next hqAB T9.out, cell_next hqAB T10.out, cell_next hqAB T11.out, cell_next hqAB T12.out, cell_next hqAB I0.out, cell_next hqAB I1.out, cell_next hqAB I2.out, cell_next hqAB I3.out, cell_next hqAB I4.out, cell_next hqAB I5.out, cell_next hqAB I6.out, cell_next hqAB I7.out, cell_next hqAB I8.out, cell_next hqAB I9.out, cell_next hqAB I10.out, cell_next hqAB I11.out, cell_next hqAB I12.out, hqAB⟩
               | with_reducible exact ⟨cell_next hqBA T0.out, cell_next hqBA T1.out, cell_next hqBA T2.out, cell_next hqBA T3.out, cell_next hqBA T4.out, cell_next hqBA T5.out, cell_next hqBA T6.out, cell_next hqBA T7.out, cell_next hqBA T8.out, cell_next hqBA T9.out, cell_next hqBA T10.out, cell_next hqBA T11.out, cell_next hqBA T12.out, cell_next hqBA I0.out, cell_next hqBA I1.out, cell_next hqBA I2.out, cell_next hqBA I3.out, cell_next hqBA I4.out, cell_next hqBA I5.out, cell_next hqBA I6.out, cell_next hqBA I7.out, cell_next hqBA I8.out, cell_next hqBA I9.out, cell_next hqBA I10.out, cell_next hqBA I11.out, cell_next hqBA I12.out, hqBA⟩
               | with_reducible exact ⟨cell_next hq12 T0.out, cell_next hq12 T1.out, cell_next hq12 T2.out, cell_next hq12 T3.out, cell_next hq12 T4.out, cell_next hq12 T5.out, cell_next hq12 T6.out, cell_next hq12 T7.out, cell_next hq12 T8.out, cell_next hq12 T9.out, cell_next hq12 T10.out, cell_next hq12 T11.out, cell_next hq12 T12.out, cell_next hq12 I0.out, cell_next hq12 I1.out, cell_next hq12 I2.out, cell_next hq12 I3.out, cell_next hq12 I4.out, cell_next hq12 I5.out, cell_next hq12 I6.out, cell_next hq12 I7.out, cell_next hq12 I8.out, cell_next hq12 I9.out, cell_next hq12 I10.out, cell_next hq12 I11.out, cell_next hq12 I12.out, hq12⟩)
              ((go_split_ands
                go_at_call 40
                (first
                 | with_reducible refine C1.out.mono ?_
                 | with_reducible refine C2.out.mono ?_)
                rw [HEQ.out]
                rintro e w12 ⟨rfl, hb12⟩
                have hq12 := below_then hb12 (by first | with_reducible exact hqAB | with_reducible exact hqBA)))
            all_goals
              have HBZ := Lib.hid (HB11.out.trans (hq12.mono HB11.out.size))
              clear hq12
              go_wp2_with fail
              go_ret
              exact ⟨rfl, HBZ.out⟩
end Go.Proofs.Ytnbclbphggmenaa.Tr
