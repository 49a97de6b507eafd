/- The law TreeNumber, walked: it returns true. Conditions: the arguments lie in memory. -/
import Derived.Test.YtnbclbphggmenaaNumL
import Derived.Test.YtnbclbphggmenaaRAllW
import Derived.Test.YtnbclbphggmenaaTreeEqW
import Derived.Test.YtnbclbphggmenaaReqP
import Derived.Test.YtnbclbphggmenaaTMod
import Derived.Test.YtnbclbphggmenaaFitsW
import Derived.Deep.DeepCutAuto
import Derived.Deep.RegionHeld3
import Derived.IntWalk
namespace Go.Proofs.Ytnbclbphggmenaa.Tr
open Go.RowKit Go.Proofs.Ytnbclbphggmenaa.Lx Go.Proofs.Ytnbclbphggmenaa.Wd
set_option maxHeartbeats 4000000 in
set_option maxRecDepth 100000 in
theorem law_treeNumber {w : World} (d : Nat) (p : Pr) (gv pv : Value) (hp0 : PrC (cw w) d gv pv p) (by_ : Int) (hby : (Lit.int .i64 by_).wf = true) (more : Int) (hmore : (Lit.int .i64 more).wf = true) :
    Calls Try.prog 16 #[.agg #[gv, pv], .int .i64 by_, .int .i64 more] w fun e w' => e = .returned (.bool true) ∧ Below w.heap.size w w' := by
  have hp : PrC (cw w) (d + 1) gv pv p := PrC.le (by omega) hp0
  obtain ⟨ga, gc, rfl, -, -⟩ := hp.1.form
  obtain ⟨pa, pc, rfl, hpl1, hpl2⟩ := hp.2.form
  have hplen : p.procs.length ≤ 9223372036854775807 := Nat.le_trans hpl1 hpl2
  have HPL := Lib.hid hplen
  have HP0 := Lib.hid hp0
  have HP := Lib.hid hp
  clear hp hp0 hpl1 hpl2 hplen
  have HBY := Lib.hid (wf_in hby)
  have HMO := Lib.hid (wf_in hmore)
  clear hby hmore
  go_enter Try.func16, Try.ntmps16
  go_upto_region 1 with fail
  refine cut_world (fun wx => Below w.heap.size w wx ∧ BoxAt wx w.heap.size [.slice ga p.globals.length gc, .slice pa p.procs.length pc]) ⟨boxed _ _, box_new w #[.slice ga p.globals.length gc, .slice pa p.procs.length pc] 46⟩ ?_
  rintro w1 ⟨hb1, hx1⟩
  have HB1 := Lib.hid hb1
  have HX1 := Lib.hid hx1
  have HP1 := Lib.hid (PrC.mono (cw_next hb1) HP.out)
  clear hb1 hx1
  have p0 := HX1.out 0 _ rfl
  have p1 := HX1.out 1 _ rfl
  go_wp2_with fail
  refine (treed_any _).mono ?_
  rintro e w2 ⟨rfl, hb2⟩
  have HB2 := Lib.hid (HB1.out.trans (hb2.mono HB1.out.size))
  have HX2 := Lib.hid (HX1.out.next hb2)
  have HP2 := Lib.hid (PrC.mono (cw_next hb2) HP1.out)
  have HN2 := Lib.hid hb2
  clear hb2
  clear p0 p1
  have p0 := HX2.out 0 _ rfl
  have p1 := HX2.out 1 _ rfl
  go_wp2_with fail
  refine (fits_any (d + 1) p _ _ _ HP2.out).mono ?_
  rintro e w3 ⟨b1, hf1, rfl, hb3⟩
  have HF1 := Lib.hid hf1
  clear hf1
  have HB3 := Lib.hid (HB2.out.trans (hb3.mono HB2.out.size))
  have HX3 := Lib.hid (HX2.out.next hb3)
  have HP3 := Lib.hid (PrC.mono (cw_next hb3) HP2.out)
  have HN3 := Lib.hid hb3
  clear hb3
  clear p0 p1
  cases b1 with
  | false =>
    have p0 := HX3.out 0 _ rfl
    have p1 := HX3.out 1 _ rfl
    go_wp2_with fail
    go_ret
    exact ⟨rfl, HB3.out⟩
  | true =>
    have HWP := Lib.hid (HF1.out (by simp))
    clear HF1
    have p0 := HX3.out 0 _ rfl
    have p1 := HX3.out 1 _ rfl
    go_wp2_with fail
    refine (mayP_any (d + 1) p _ _ _ HP3.out).mono ?_
    rintro e w4 ⟨rfl, hb4⟩
    obtain ⟨m1, hm1⟩ : ∃ m, Hid (mayP p = m) := ⟨_, Lib.hid rfl⟩
    rw [hm1.out]
    have HB4 := Lib.hid (HB3.out.trans (hb4.mono HB3.out.size))
    have HX4 := Lib.hid (HX3.out.next hb4)
    have HP4 := Lib.hid (PrC.mono (cw_next hb4) HP3.out)
    have HN4 := Lib.hid hb4
    clear hb4
    clear p0 p1
    cases m1 with
    | false =>
      have p0 := HX4.out 0 _ rfl
      have p1 := HX4.out 1 _ rfl
      go_wp2_with fail
      go_ret
      exact ⟨rfl, HB4.out⟩
    | true =>
      have p0 := HX4.out 0 _ rfl
      have p1 := HX4.out 1 _ rfl
      obtain ⟨r1, hr1⟩ : ∃ r, Hid (by_ % 9 = r) := ⟨_, Lib.hid rfl⟩
      obtain ⟨r2, hr2⟩ : ∃ r, Hid (more % 900 = r) := ⟨_, Lib.hid rfl⟩
      have b0 : 0 ≤ r1 := by rw [← hr1.out]; omega
      have b1 : r1 < 9 := by rw [← hr1.out]; omega
      have m0 : 0 ≤ r2 := by rw [← hr2.out]; omega
      have m1 : r2 < 900 := by rw [← hr2.out]; omega
      have e1 : IntKind.i64.wrap (r2 - 300) = r2 - 300 := IntWalk.i64_in _ (by omega)
      obtain ⟨Q, hQ⟩ : ∃ Q, Hid (marPr r1 (r2 - 300) p = Q) := ⟨_, Lib.hid rfl⟩
      have hq : Below w4.heap.size w4 w4.drew := (Below.refl _ _).drew
      have L0 := Lib.hid p0
      have L1 := Lib.hid p1
      clear p0 p1
      have hwx : w.heap.size < w4.heap.size := cell_lt L0.out
      go_upto_region 7 with fail
      go_cut [7] (fun a wx => ∃ (Y : Nat) (gq aq : Option Addr) (cq kq : Nat), a = .pointer (some ⟨Y, 0, none⟩) ∧ BoxAt wx Y [.slice gq Q.globals.length cq, .slice aq Q.procs.length kq] ∧ PrC (cw wx) (d + 1) (.slice gq Q.globals.length cq) (.slice aq Q.procs.length kq) Q ∧ Below w4.heap.size w4 wx)
      case first =>
        have hqA : Below w4.heap.size w4 (w4.alloc (.cells #[.slice none 0 0, .slice none 0 0] 46)).drew := (boxed w4 _).drew
        have HYA := Lib.hid ((box_new w4 #[.slice none 0 0, .slice none 0 0] 46).next ((Below.refl _ _).drew))
        have HYFA : Hid (Free (w4.alloc (.cells #[.slice none 0 0, .slice none 0 0] 46)).drew w4.heap.size) := Lib.hid (Free.next (fun j => by simp [go_sem]) (by simp) ((Below.refl _ _).drew))
        have KA0 := Lib.hid (cell_next hq L0.out)
        have KA1 := Lib.hid (cell_next hq L1.out)
        have KB0 := Lib.hid (cell_next hqA L0.out)
        have KB1 := Lib.hid (cell_next hqA L1.out)
        have hne4 : w4.heap.size ≠ w.heap.size := by omega
        go_region_held3 (fun w' => w'.cell? ⟨w.heap.size, 0, none⟩ = some (.slice ga p.globals.length gc) ∧ w'.cell? ⟨w.heap.size, 1, none⟩ = some (.slice pa p.procs.length pc))
          (first
            | with_reducible exact ⟨KA0.out, KA1.out⟩
            | with_reducible exact ⟨KB0.out, KB1.out⟩
            | with_reducible exact ⟨KC0.out, KC1.out⟩
            | with_reducible exact ⟨KD0.out, KD1.out⟩
            | with_reducible exact ⟨KE0.out, KE1.out⟩
            | with_reducible exact ⟨far1 hne4 (far1 hne4 KC0.out), far1 hne4 (far1 hne4 KC1.out)⟩)
          (first
            | (go_at_call 44
               (first
                | ((with_reducible show Calls _ _ #[.int .i64 by_, _] _ _)
                   refine (mod_any by_ 9 r1 _ HBY.out.1 HBY.out.2 (by omega) (by omega) hr1.out).mono ?_)
                | ((with_reducible show Calls _ _ #[.int .i64 more, _] _ _)
                   refine (mod_any more 900 r2 _ HMO.out.1 HMO.out.2 (by omega) (by omega) hr2.out).mono ?_))
               rintro e w' ⟨rfl, rfl⟩)
            | (go_at_call 42
               refine (marP_any r1 (r2 - 300) (by omega) (by omega) (by omega) (by omega) d p _ _ _ (PrC.mono (cw_next (by first | with_reducible exact hq | with_reducible exact hqA)) (PrC.mono (cw_next HB4.out) HP0.out)) HWP.out hm1.out).mono ?_
               rw [hQ.out]
               rintro e w5 ⟨gv5, pv5, rfl, hp5, hb5⟩
               obtain ⟨gq, cq, rfl, -, -⟩ := hp5.1.form
               obtain ⟨aq, kq, rfl, -, -⟩ := hp5.2.form
               have HP5 := Lib.hid hp5
               have hq5 := below_then hb5 (by first | with_reducible exact hq | with_reducible exact hqA)
               have KC0 := Lib.hid (cell_next hq5 L0.out)
               have KC1 := Lib.hid (cell_next hq5 L1.out)
               have hq5A := hq5.alloc hq5.size (.cells #[.slice gq Q.globals.length cq, .slice aq Q.procs.length kq] 46)
               have KD0 := Lib.hid (cell_next hq5A L0.out)
               have KD1 := Lib.hid (cell_next hq5A L1.out)
               have hq5B := hq5.alloc hq5.size (.cells #[.slice none 0 0, .slice none 0 0] 46)
               have KE0 := Lib.hid (cell_next hq5B L0.out)
               have KE1 := Lib.hid (cell_next hq5B L1.out)
               (first
                | ((with_reducible have hY5 := HYA.out.next hb5)
                   have hYF5 : Free w5 w4.heap.size := Free.next HYFA.out (by simp) hb5
                   have y0 := hY5 0 _ rfl
                   have y1 := hY5 1 _ rfl
                   have f0 := hYF5 0
                   have f1 := hYF5 1)
                | (with_reducible have hcheck := below_then hb5 hq))))
        all_goals
          go_wp2_with fail
          go_meet
          first
            | (refine ⟨w5.heap.size, gq, aq, cq, kq, (by with_reducible rfl), ?_, ?_, ?_⟩
               · exact box_new w5 #[.slice gq Q.globals.length cq, .slice aq Q.procs.length kq] 46
               · exact PrC.mono (Cs.le_trans only_out (cw_next (boxed w5 _))) HP5.out
               · exact hq5A)
            | (refine ⟨w4.heap.size, gq, aq, cq, kq, (by with_reducible rfl), ?_, ?_, ?_⟩
               · exact (hY5.put (j := 0) (x := .slice gq Q.globals.length cq) (by simp)).put (j := 1) (x := .slice aq Q.procs.length kq) (by simp)
               · exact PrC.mono (Cs.le_trans (only_set (by simp)) (Cs.le_trans (only_set (by simp)) only_out)) HP5.out
               · exact (hq5.setCell (p := ⟨_, _, none⟩) (by simp) _).setCell (p := ⟨_, _, none⟩) (by simp) _)
      case rest =>
        obtain ⟨Y, gq, aq, cq, kq, rfl, hbq, hpq, hb5⟩ := hcut
        obtain ⟨w5, hw5⟩ : ∃ w5 : World, w5 = wc := ⟨_, rfl⟩
        subst hw5
        have HB5 := Lib.hid (HB4.out.trans (hb5.mono HB4.out.size))
        have HX5 := Lib.hid (HX4.out.next hb5)
        have HP5 := Lib.hid (PrC.mono (cw_next hb5) HP4.out)
        have HN5 := Lib.hid hb5
        have HBQ5 := Lib.hid hbq
        have HPQ5 := Lib.hid hpq
        have hqw : wtPr Q ≤ 20000 := by rw [← hQ.out, mar_light]; exact HWP.out
        have HQW := Lib.hid hqw
        have q0 := hbq 0 _ rfl
        have q1 := hbq 1 _ rfl
        clear hb5 hbq hpq hqw hq L0 L1 e1
        go_wp2_with fail
        refine ((number_row (d + 1) Q _ _ _ HPQ5.out HQW.out).mono fun _ _ h => h.made).mono ?_
        rw [← hQ.out, num_mar _ _ hm1.out, hQ.out]
        rintro e w6 ⟨gv6, pv6, rfl, hp6, hb6⟩
        obtain ⟨gr, cr, rfl, -, -⟩ := hp6.1.form
        obtain ⟨ar, kr, rfl, -, -⟩ := hp6.2.form
        have HPR6 := Lib.hid (PrC.mono only_out hp6)
        have HB6 := Lib.hid (HB5.out.trans (hb6.mono HB5.out.size))
        have HX6 := Lib.hid (HX5.out.next hb6)
        have HP6 := Lib.hid (PrC.mono (cw_next hb6) HP5.out)
        have HN6 := Lib.hid hb6
        have HBQ6 := Lib.hid (HBQ5.out.next hb6)
        have HPQ6 := Lib.hid (PrC.mono (cw_next hb6) HPQ5.out)
        clear hb6 hp6 q0 q1 HBQ5 HPQ5
        go_upto_region 9 with fail
        refine cut_world (fun wx => Below w6.heap.size w6 wx ∧ BoxAt wx w6.heap.size [.slice gr p.globals.length cr, .slice ar p.procs.length kr]) ⟨boxed _ _, box_new w6 #[.slice gr p.globals.length cr, .slice ar p.procs.length kr] 46⟩ ?_
        rintro w7 ⟨hb7, hr7⟩
        have HB7 := Lib.hid (HB6.out.trans (hb7.mono HB6.out.size))
        have HX7 := Lib.hid (HX6.out.next hb7)
        have HP7 := Lib.hid (PrC.mono (cw_next hb7) HP6.out)
        have HN7 := Lib.hid hb7
        have HBQ7 := Lib.hid (HBQ6.out.next hb7)
        have HPQ7 := Lib.hid (PrC.mono (cw_next hb7) HPQ6.out)
        have HPR7 := Lib.hid (PrC.mono (cw_next hb7) HPR6.out)
        have HBR7 := Lib.hid hr7
        clear hb7 hr7
        have hc200 := mayP_cnt hm1.out
        obtain ⟨N, hN⟩ : ∃ N, Hid (cntP p.procs = N) := ⟨_, Lib.hid rfl⟩
        rw [hN.out] at hc200
        have HCP : Hid (wrap64 (((p.procs.map fun f => cntL f.body).sum : Nat) : Int) = (N : Int)) := Lib.hid (by
          rw [show (p.procs.map fun f => cntL f.body).sum = N from hN.out]
          unfold wrap64; omega)
        have HCQ : Hid (wrap64 (((Q.procs.map fun f => cntL f.body).sum : Nat) : Int) = (N : Int)) := Lib.hid (by
          rw [show (Q.procs.map fun f => cntL f.body).sum = N from by rw [← hQ.out, ← hN.out]; exact mar_cnt _ _ p]
          unfold wrap64; omega)
        have HALLN : Hid ((allOf p).length = N) := Lib.hid (by rw [allOf_cnt hm1.out, hN.out])
        have HEQ : Hid (eqPr p p = true) := Lib.hid (eqPr_refl p)
        have hNN : ((N : Int) == (N : Int)) = true := by simp
        have hq : Below w7.heap.size w7 w7.drew := (Below.refl _ _).drew
        have L0 := Lib.hid (HX7.out 0 _ rfl)
        have L1 := Lib.hid (HX7.out 1 _ rfl)
        have L2 := Lib.hid (HBQ7.out 0 _ rfl)
        have L3 := Lib.hid (HBQ7.out 1 _ rfl)
        have L4 := Lib.hid (HBR7.out 0 _ rfl)
        have L5 := Lib.hid (HBR7.out 1 _ rfl)
        go_region_held3 (fun w' => w'.cell? ⟨w.heap.size, 0, none⟩ = some (.slice ga p.globals.length gc) ∧ w'.cell? ⟨w.heap.size, 1, none⟩ = some (.slice pa p.procs.length pc) ∧ w'.cell? ⟨Y, 0, none⟩ = some (.slice gq Q.globals.length cq) ∧ w'.cell? ⟨Y, 1, none⟩ = some (.slice aq Q.procs.length kq) ∧ w'.cell? ⟨w6.heap.size, 0, none⟩ = some (.slice gr p.globals.length cr) ∧ w'.cell? ⟨w6.heap.size, 1, none⟩ = some (.slice ar p.procs.length kr) ∧ Below w7.heap.size w7 w')
          (exact ⟨cell_next hq L0.out, cell_next hq L1.out, cell_next hq L2.out, cell_next hq L3.out, cell_next hq L4.out, cell_next hq L5.out, hq⟩)
          (first
            | (go_split_ands; go_at_call 46; refine (reqPr_any (d + 1) p p _ _ _ _ _ (PrC.mono (cw_next (by assumption)) HPR7.out) (PrC.mono (cw_next (by assumption)) HP7.out)).mono ?_; rintro e w8 ⟨rfl, hb8⟩; rw [HEQ.out]; have hq := below_then hb8 (by assumption))
            | (go_split_ands; go_at_call 35; refine (mayP_any (d + 1) p _ _ _ (PrC.mono (cw_next (by assumption)) HPR7.out)).mono ?_; rintro e w8 ⟨rfl, hb8⟩; rw [hm1.out]; have hq := below_then hb8 (by assumption))
            | (go_split_ands
               go_at_call 41
               (first
                | ((with_reducible show Calls _ _ #[.agg #[.slice ga _ _, _]] _ _)
                   refine (countP_any (d + 1) p _ _ _ (PrC.mono (cw_next (by assumption)) HP7.out)).mono ?_)
                | (refine (countP_any (d + 1) Q _ _ _ (PrC.mono (cw_next (by assumption)) HPQ7.out)).mono ?_))
               rintro e w8 ⟨rfl, hb8⟩
               (first | rw [HCP.out] | rw [HCQ.out])
               have hq := below_then hb8 (by assumption))
            | (go_split_ands; go_at_call 43; refine (allOf_any (d + 1) p _ _ _ (PrC.mono (cw_next (by assumption)) HP7.out)).mono ?_; rintro e w8 ⟨v8, rows8, rfl, hr8, hb8⟩; obtain ⟨va8, vc8, rfl⟩ := ownsForm hr8.own; rw [HALLN.out]; clear hr8; have hq := below_then hb8 (by assumption)))
        all_goals
          have HBZ := Lib.hid (HB7.out.trans (hq.mono HB7.out.size))
          clear hq
          go_wp2_with fail
          go_ret
          exact ⟨rfl, HBZ.out⟩
end Go.Proofs.Ytnbclbphggmenaa.Tr
