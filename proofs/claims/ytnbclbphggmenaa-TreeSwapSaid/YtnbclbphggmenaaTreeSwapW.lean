/- The law TreeSwap, walked: it returns true. Conditions: the arguments lie in memory. -/
import Derived.Test.YtnbclbphggmenaaSwapPl
import Derived.Test.YtnbclbphggmenaaNumL
import Derived.Test.YtnbclbphggmenaaTreeEqW
import Derived.Test.YtnbclbphggmenaaFitsW
import Derived.Test.YtnbclbphggmenaaSomeW
import Derived.Deep.DeepCutAuto
import Derived.Deep.RegionHeld3
import Derived.IntWalk
namespace Go.Proofs.Ytnbclbphggmenaa.Tr
open Go.RowKit Go.Proofs.Ytnbclbphggmenaa.Lx Go.Proofs.Ytnbclbphggmenaa.Wd
theorem mayE_name (s : ByteArray) : mayE 20 (eName s) = isName (bl s) := by
  show mayE (19 + 1) (eName s) = _
  rw [mayE_succ]
  show ((0 : Int) == kidsOf 2 && headE (eName s) && true) = _
  have h : headE (eName s) = (((0 : Int) == 0) && isName (bl s)) := by
    unfold headE
    rw [if_neg (by show ¬ ((2 : Int) = 1); decide), if_pos (by rfl)]
    rfl
  rw [h]
  cases isName (bl s) <;> rfl
theorem some_wt : wtPr someP ≤ 20000 := by
  have h : decide (wtPr someP ≤ 20000) = true := by kernel_rfl
  exact of_decide_eq_true h
theorem some_sw_eq : eqPr (swPr sG sV someP) someP = false := by kernel_rfl
theorem some_sw_may : mayP (swPr sG sV someP) = true := by kernel_rfl
theorem free2 {w : World} {b : Nat} {x0 x1 : Value} (h : Free w b) : Free ((w.setCell ⟨b, 0, none⟩ x0).setCell ⟨b, 1, none⟩ x1) b := (h.set).set
set_option maxHeartbeats 8000000 in
set_option maxRecDepth 100000 in
theorem law_treeSwap {w : World} (d : Nat) (p : Pr) (gv pv : Value) (hp0 : PrC (cw w) d gv pv p) (a : ByteArray) (ha : a.size ≤ 9223372036854775807) (b : ByteArray) (hb : b.size ≤ 9223372036854775807) :
    Calls Try.prog 15 #[.agg #[gv, pv], .string a, .string b] w fun e w' => e = .returned (.bool true) ∧ Below w.heap.size w w' := by
  have hp : PrC (cw w) (d + 1) gv pv p := PrC.le (by omega) hp0
  obtain ⟨ga, gc, rfl, -, -⟩ := hp.1.form
  obtain ⟨pa, pc, rfl, hpl1, hpl2⟩ := hp.2.form
  have hplen : p.procs.length ≤ 9223372036854775807 := Nat.le_trans hpl1 hpl2
  have HPL := Lib.hid hplen
  have HP0 := Lib.hid hp0
  have HP := Lib.hid hp
  clear hp hp0 hpl1 hpl2 hplen
  have HSA := Lib.hid ha
  have HSB := Lib.hid hb
  clear ha hb
  go_enter Try.func15, Try.ntmps15
  go_upto_region 1 with fail
  refine cut_world (fun wx => Below w.heap.size w wx ∧ BoxAt wx w.heap.size [.slice ga p.globals.length gc, .slice pa p.procs.length pc]) ⟨boxed _ _, box_new w #[.slice ga p.globals.length gc, .slice pa p.procs.length pc] 46⟩ ?_
  rintro w1 ⟨hb1, hx1⟩
  have HB1 := Lib.hid hb1
  have HX1 := Lib.hid hx1
  have HP1 := Lib.hid (PrC.mono (cw_next hb1) HP.out)
  clear hb1 hx1
  have p0 := HX1.out 0 _ rfl
  have p1 := HX1.out 1 _ rfl
  go_wp2_with fail
  refine (treed_any _).mono ?_
  rintro e w2 ⟨rfl, hb2⟩
  have HB2 := Lib.hid (HB1.out.trans (hb2.mono HB1.out.size))
  have HX2 := Lib.hid (HX1.out.next hb2)
  have HP2 := Lib.hid (PrC.mono (cw_next hb2) HP1.out)
  have HN2 := Lib.hid hb2
  clear hb2
  clear p0 p1
  have p0 := HX2.out 0 _ rfl
  have p1 := HX2.out 1 _ rfl
  go_wp2_with fail
  refine (fits_any (d + 1) p _ _ _ HP2.out).mono ?_
  rintro e w3 ⟨b1, hf1, rfl, hb3⟩
  have HF1 := Lib.hid hf1
  clear hf1
  have HB3 := Lib.hid (HB2.out.trans (hb3.mono HB2.out.size))
  have HX3 := Lib.hid (HX2.out.next hb3)
  have HP3 := Lib.hid (PrC.mono (cw_next hb3) HP2.out)
  have HN3 := Lib.hid hb3
  clear hb3
  clear p0 p1
  cases b1 with
  | false =>
    have p0 := HX3.out 0 _ rfl
    have p1 := HX3.out 1 _ rfl
    go_wp2_with fail
    go_ret
    exact ⟨rfl, HB3.out⟩
  | true =>
    have HWP := Lib.hid (HF1.out (by simp))
    clear HF1
    go_wp2_with fail
    refine (some_any _).mono ?_
    rintro e w4 ⟨gs, ps, rfl, hps, hb4⟩
    have HPS4 := Lib.hid hps
    have HB4 := Lib.hid (HB3.out.trans (hb4.mono HB3.out.size))
    have HX4 := Lib.hid (HX3.out.next hb4)
    have HP4 := Lib.hid (PrC.mono (cw_next hb4) HP3.out)
    have HN4 := Lib.hid hb4
    clear hb4 hps
    obtain ⟨Q, hQ⟩ : ∃ Q, Hid (swPr sG sV someP = Q) := ⟨_, Lib.hid rfl⟩
    go_wp2_with fail
    refine ((swapP_row sG sV (by decide) (by decide) 3 someP _ _ _ HPS4.out (FewP.of some_wt)).mono fun _ _ h => h.made).mono ?_
    rw [hQ.out]
    rintro e w5 ⟨gq, pq, rfl, hpq, hb5⟩
    obtain ⟨gqa, gqc, rfl, -, -⟩ := hpq.1.form
    obtain ⟨pqa, pqc, rfl, -, -⟩ := hpq.2.form
    have HPQ5 := Lib.hid hpq
    have HB5 := Lib.hid (HB4.out.trans (hb5.mono HB4.out.size))
    have HX5 := Lib.hid (HX4.out.next hb5)
    have HP5 := Lib.hid (PrC.mono (cw_next hb5) HP4.out)
    have HN5 := Lib.hid hb5
    clear hb5 hpq
    go_upto_region 6 with fail
    refine cut_world (fun wx => Below w5.heap.size w5 wx ∧ BoxAt wx w5.heap.size [.slice gqa Q.globals.length gqc, .slice pqa Q.procs.length pqc] ∧ Free wx w5.heap.size ∧ PrC (cw wx) 3 (.slice gqa Q.globals.length gqc) (.slice pqa Q.procs.length pqc) Q) ⟨?_, ?_, ?_, ?_⟩ ?_
    · exact boxed w5 _
    · exact box_new w5 #[.slice gqa Q.globals.length gqc, .slice pqa Q.procs.length pqc] 46
    · exact fun j => by simp [go_sem]
    · exact PrC.mono (Cs.le_trans only_out (cw_next (boxed w5 _))) HPQ5.out
    rintro w6 ⟨hb6, hq6, hf6, hp6⟩
    have HB6 := Lib.hid (HB5.out.trans (hb6.mono HB5.out.size))
    have HX6 := Lib.hid (HX5.out.next hb6)
    have HP6 := Lib.hid (PrC.mono (cw_next hb6) HP5.out)
    have HN6 := Lib.hid hb6
    have HBQ6 := Lib.hid hq6
    have HFQ6 := Lib.hid hf6
    have HPQ6 := Lib.hid hp6
    have HZ6 := Lib.hid hb6
    clear hb6 hq6 hf6 hp6 HPQ5 HPS4
    have HEN : Hid (eqPr Q someP = false) := Lib.hid (by rw [← hQ.out]; exact some_sw_eq)
    have HMQ : Hid (mayP Q = true) := Lib.hid (by rw [← hQ.out]; exact some_sw_may)
    have hq : Below w6.heap.size w6 w6.drew := (Below.refl _ _).drew
    have L0 := Lib.hid (HBQ6.out 0 _ rfl)
    have L1 := Lib.hid (HBQ6.out 1 _ rfl)
    go_cut [22] (fun v wx => v = .bool false ∧ Below w6.heap.size w6 wx)
    case first =>
      go_region_held3 (fun w' => w'.cell? ⟨w5.heap.size, 0, none⟩ = some (.slice gqa Q.globals.length gqc) ∧ w'.cell? ⟨w5.heap.size, 1, none⟩ = some (.slice pqa Q.procs.length pqc) ∧ Below w6.heap.size w6 w')
        (exact ⟨cell_next hq L0.out, cell_next hq L1.out, hq⟩)
        (first
          | (go_split_ands; go_at_call 50; refine (some_any _).mono ?_; rintro e w8 ⟨gs8, ps8, rfl, hc8, hb8⟩; have HC := Lib.hid hc8; clear hc8; have hq := below_then hb8 (by assumption))
          | (go_split_ands; go_at_call 45; refine (eqPr_any 3 Q someP _ _ _ _ _ (PrC.mono (cw_next (by assumption)) HPQ6.out) HC.out).mono ?_; rintro e w8 ⟨rfl, hb8⟩; rw [HEN.out]; have hq := below_then hb8 (by assumption))
          | (go_split_ands; go_at_call 35; refine (mayP_any 3 Q _ _ _ (PrC.mono (cw_next (by assumption)) HPQ6.out)).mono ?_; rintro e w8 ⟨rfl, hb8⟩; rw [HMQ.out]; have hq := below_then hb8 (by assumption)))
      all_goals
        go_wp2_with fail
        go_meet
        exact ⟨rfl, hq⟩
    case rest =>
      obtain ⟨rfl, hb7⟩ := hcut
      obtain ⟨w7, hw7⟩ : ∃ w7 : World, w7 = wc := ⟨_, rfl⟩
      subst hw7
      have HB7 := Lib.hid (HB6.out.trans (hb7.mono HB6.out.size))
      have HX7 := Lib.hid (HX6.out.next hb7)
      have HP7 := Lib.hid (PrC.mono (cw_next hb7) HP6.out)
      have HN7 := Lib.hid hb7
      have HBQ7 := Lib.hid (HBQ6.out.next hb7)
      have HPQ7 := Lib.hid (PrC.mono (cw_next hb7) HPQ6.out)
      have HFQ7 := Lib.hid (HFQ6.out.next (cell_lt (HBQ6.out 0 _ rfl)) hb7)
      have HZ7 := Lib.hid (HZ6.out.trans (hb7.mono HZ6.out.size))
      clear hb7 L0 L1 hq HN7
      have p0 := HX7.out 0 _ rfl
      have p1 := HX7.out 1 _ rfl
      go_wp2_with fail
      refine (mayP_any (d + 1) p _ _ _ HP7.out).mono ?_
      rintro e w8 ⟨rfl, hb8⟩
      obtain ⟨m1, hm1⟩ : ∃ m, Hid (mayP p = m) := ⟨_, Lib.hid rfl⟩
      rw [hm1.out]
      have HB8 := Lib.hid (HB7.out.trans (hb8.mono HB7.out.size))
      have HX8 := Lib.hid (HX7.out.next hb8)
      have HP8 := Lib.hid (PrC.mono (cw_next hb8) HP7.out)
      have HN8 := Lib.hid hb8
      have HBQ8 := Lib.hid (HBQ7.out.next hb8)
      have HPQ8 := Lib.hid (PrC.mono (cw_next hb8) HPQ7.out)
      have HFQ8 := Lib.hid (HFQ7.out.next (cell_lt (HBQ7.out 0 _ rfl)) hb8)
      have HZ8 := Lib.hid (HZ7.out.trans (hb8.mono HZ7.out.size))
      clear hb8 p0 p1
      cases m1 with
      | false =>
        have p0 := HX8.out 0 _ rfl
        have p1 := HX8.out 1 _ rfl
        go_wp2_with fail
        go_ret
        exact ⟨rfl, HB8.out⟩
      | true =>
        have p0 := HX8.out 0 _ rfl
        have p1 := HX8.out 1 _ rfl
        have hpl : Hid (FewP p) := Lib.hid (FewP.of HWP.out)
        obtain ⟨R, hR⟩ : ∃ R, Hid (swPr a b p = R) := ⟨_, Lib.hid rfl⟩
        go_wp2_with fail
        refine ((swapP_row a b HSA.out HSB.out (d + 1) p _ _ _ HP8.out hpl.out).mono fun _ _ h => h.made).mono ?_
        rw [hR.out]
        rintro e w9 ⟨gr, pr, rfl, hpr, hb9⟩
        obtain ⟨gra, grc, rfl, -, -⟩ := hpr.1.form
        obtain ⟨pra, prc, rfl, -, -⟩ := hpr.2.form
        have HPR9 := Lib.hid hpr
        have HB9 := Lib.hid (HB8.out.trans (hb9.mono HB8.out.size))
        have HX9 := Lib.hid (HX8.out.next hb9)
        have HP9 := Lib.hid (PrC.mono (cw_next hb9) HP8.out)
        have HN9 := Lib.hid hb9
        have HBQ9 := Lib.hid (HBQ8.out.next hb9)
        have HPQ9 := Lib.hid (PrC.mono (cw_next hb9) HPQ8.out)
        have HFQ9 := Lib.hid (HFQ8.out.next (cell_lt (HBQ8.out 0 _ rfl)) hb9)
        have HZ9 := Lib.hid (HZ8.out.trans (hb9.mono HZ8.out.size))
        clear hb9 hpr p0 p1
        have y0 := HBQ9.out 0 _ rfl
        have y1 := HBQ9.out 1 _ rfl
        have f0 := HFQ9.out 0
        have f1 := HFQ9.out 1
        have z5 := cell_lt (HBQ8.out 0 _ rfl)
        go_upto_region 11 with fail
        refine cut_world (fun wx => Below w5.heap.size w5 wx ∧ BoxAt wx w5.heap.size [.slice gra R.globals.length grc, .slice pra R.procs.length prc] ∧ PrC (cw wx) (d + 1) (.slice gra R.globals.length grc) (.slice pra R.procs.length prc) R) ⟨?_, ?_, ?_⟩ ?_
        · exact (HZ9.out.setCell (p := ⟨_, _, none⟩) (by simp) _).setCell (p := ⟨_, _, none⟩) (by simp) _
        · exact (HBQ9.out.put (j := 0) (x := .slice gra R.globals.length grc) (by simp)).put (j := 1) (x := .slice pra R.procs.length prc) (by simp)
        · exact PrC.mono (Cs.le_trans (only_set (by omega)) (Cs.le_trans (only_set (by omega)) only_out)) HPR9.out
        rintro w10 ⟨hb10, hq10, hp10⟩
        have HB10 := Lib.hid (HB5.out.trans (hb10.mono HB5.out.size))
        have HX10 := Lib.hid (HX5.out.next hb10)
        have HP10 := Lib.hid (PrC.mono (cw_next hb10) HP5.out)
        have HN10 := Lib.hid hb10
        have HBR10 := Lib.hid hq10
        have HPR10 := Lib.hid hp10
        clear hb10 hq10 hp10 y0 y1 f0 f1 z5 HPR9 HN10
        obtain ⟨na, hna⟩ : ∃ m, Hid (mayE 20 (eName a) = m) := ⟨_, Lib.hid rfl⟩
        obtain ⟨nb, hnb⟩ : ∃ m, Hid (mayE 20 (eName b) = m) := ⟨_, Lib.hid rfl⟩
        go_wp2_with fail
        refine (show Calls Try.prog 22 #[.agg #[.int .i64 2, .int .i64 0, .string a, .slice none 0 0]] _ _ from mayExpr_any 1 (eName a) (.slice none 0 0) _ (okName a HSA.out) (ExK.none 0 _)).mono ?_
        rintro e w11 ⟨rfl, hb11⟩
        rw [hna.out]
        have HB11 := Lib.hid (HB10.out.trans (hb11.mono HB10.out.size))
        have HX11 := Lib.hid (HX10.out.next hb11)
        have HP11 := Lib.hid (PrC.mono (cw_next hb11) HP10.out)
        have HN11 := Lib.hid hb11
        have HBR11 := Lib.hid (HBR10.out.next hb11)
        have HPR11 := Lib.hid (PrC.mono (cw_next hb11) HPR10.out)
        clear hb11
        cases na with
        | false =>
          go_wp2_with fail
          go_ret
          exact ⟨rfl, HB11.out⟩
        | true =>
          go_wp2_with fail
          refine (show Calls Try.prog 22 #[.agg #[.int .i64 2, .int .i64 0, .string b, .slice none 0 0]] _ _ from mayExpr_any 1 (eName b) (.slice none 0 0) _ (okName b HSB.out) (ExK.none 0 _)).mono ?_
          rintro e w12 ⟨rfl, hb12⟩
          rw [hnb.out]
          have HB12 := Lib.hid (HB11.out.trans (hb12.mono HB11.out.size))
          have HX12 := Lib.hid (HX11.out.next hb12)
          have HP12 := Lib.hid (PrC.mono (cw_next hb12) HP11.out)
          have HN12 := Lib.hid hb12
          have HBR12 := Lib.hid (HBR11.out.next hb12)
          have HPR12 := Lib.hid (PrC.mono (cw_next hb12) HPR11.out)
          clear hb12
          cases nb with
          | false =>
            go_wp2_with fail
            go_ret
            exact ⟨rfl, HB12.out⟩
          | true =>
            have HA' : Hid (isName (bl a) = true) := Lib.hid (by rw [← mayE_name]; exact hna.out)
            have HB' : Hid (isName (bl b) = true) := Lib.hid (by rw [← mayE_name]; exact hnb.out)
            have HMR : Hid (mayP R = true) := Lib.hid (by rw [← hR.out, sw_mayP HA'.out HB'.out]; exact hm1.out)
            have HBK : Hid (swPr a b R = p) := Lib.hid (by rw [← hR.out]; exact swPr_back a b p)
            have HFR : Hid (FewP R) := Lib.hid (by rw [← hR.out]; exact hpl.out.sw a b)
            have HEQ : Hid (eqPr p p = true) := Lib.hid (eqPr_refl p)
            have hc200 := mayP_cnt hm1.out
            obtain ⟨N, hN⟩ : ∃ N, Hid (cntP p.procs = N) := ⟨_, Lib.hid rfl⟩
            rw [hN.out] at hc200
            have HCP : Hid (wrap64 (((p.procs.map fun f => cntL f.body).sum : Nat) : Int) = (N : Int)) := Lib.hid (by
              rw [show (p.procs.map fun f => cntL f.body).sum = N from hN.out]
              unfold wrap64; omega)
            have HCR : Hid (wrap64 (((R.procs.map fun f => cntL f.body).sum : Nat) : Int) = (N : Int)) := Lib.hid (by
              rw [show (R.procs.map fun f => cntL f.body).sum = N from by rw [← hR.out, ← hN.out]; exact sw_cnt a b p]
              unfold wrap64; omega)
            have hNN : ((N : Int) == (N : Int)) = true := by simp
            have hq : Below w12.heap.size w12 w12.drew := (Below.refl _ _).drew
            have L0 := Lib.hid (HX12.out 0 _ rfl)
            have L1 := Lib.hid (HX12.out 1 _ rfl)
            have L2 := Lib.hid (HBR12.out 0 _ rfl)
            have L3 := Lib.hid (HBR12.out 1 _ rfl)
            go_upto_region 12 with fail
            go_region_held3 (fun w' => w'.cell? ⟨w.heap.size, 0, none⟩ = some (.slice ga p.globals.length gc) ∧ w'.cell? ⟨w.heap.size, 1, none⟩ = some (.slice pa p.procs.length pc) ∧ w'.cell? ⟨w5.heap.size, 0, none⟩ = some (.slice gra R.globals.length grc) ∧ w'.cell? ⟨w5.heap.size, 1, none⟩ = some (.slice pra R.procs.length prc) ∧ Below w12.heap.size w12 w')
              (exact ⟨cell_next hq L0.out, cell_next hq L1.out, cell_next hq L2.out, cell_next hq L3.out, hq⟩)
              (first
                | (go_split_ands; go_at_call 35; refine (mayP_any (d + 1) R _ _ _ (PrC.mono (cw_next (by assumption)) HPR12.out)).mono ?_; rintro e w8 ⟨rfl, hb8⟩; rw [HMR.out]; have hq := below_then hb8 (by assumption))
                | (go_split_ands; go_at_call 49; refine ((swapP_row a b HSA.out HSB.out (d + 1) R _ _ _ (PrC.mono (cw_next (by assumption)) HPR12.out) HFR.out).mono fun _ _ h => h.made).mono ?_; rw [HBK.out]; rintro e w8 ⟨cg, cp, rfl, hc8, hb8⟩; have HC := Lib.hid (PrC.mono (C := nwC _ w8) (D := cw w8) (fun _ _ _ h => h.2) hc8); clear hc8; have hq := below_then hb8 (by assumption))
                | (go_split_ands; go_at_call 45; refine (eqPr_any (d + 1) p p _ _ _ _ _ HC.out (PrC.mono (cw_next (by assumption)) HP12.out)).mono ?_; rintro e w8 ⟨rfl, hb8⟩; rw [HEQ.out]; have hq := below_then hb8 (by assumption))
                | (go_split_ands
                   go_at_call 41
                   (first
                    | ((with_reducible show Calls _ _ #[.agg #[.slice ga _ _, _]] _ _)
                       refine (countP_any (d + 1) p _ _ _ (PrC.mono (cw_next (by assumption)) HP12.out)).mono ?_)
                    | (refine (countP_any (d + 1) R _ _ _ (PrC.mono (cw_next (by assumption)) HPR12.out)).mono ?_))
                   rintro e w8 ⟨rfl, hb8⟩
                   (first | rw [HCP.out] | rw [HCR.out])
                   have hq := below_then hb8 (by assumption)))
            all_goals
              have HBZ := Lib.hid (HB12.out.trans (hq.mono HB12.out.size))
              clear hq
              go_wp2_with fail
              go_ret
              exact ⟨rfl, HBZ.out⟩
end Go.Proofs.Ytnbclbphggmenaa.Tr
