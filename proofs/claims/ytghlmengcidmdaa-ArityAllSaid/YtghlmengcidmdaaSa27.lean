/- Parts of RMayW: walks and plain laws that later texts use. Conditions: as each statement says. -/
import Derived.Test.YtghlmengcidmdaaSa0
import Derived.Test.YtghlmengcidmdaaSa1
import Derived.Test.YtghlmengcidmdaaSa2
import Derived.Test.YtghlmengcidmdaaSa3
import Derived.Test.YtghlmengcidmdaaSa4
import Derived.Test.YtghlmengcidmdaaSa5
import Derived.Test.YtghlmengcidmdaaSa6
import Derived.Test.YtghlmengcidmdaaSa7
import Derived.Test.YtghlmengcidmdaaSa8
import Derived.Test.YtghlmengcidmdaaSa9
import Derived.Test.YtghlmengcidmdaaSa10
import Derived.Test.YtghlmengcidmdaaSa11
import Derived.Test.YtghlmengcidmdaaSa12
import Derived.Test.YtghlmengcidmdaaSa13
import Derived.Test.YtghlmengcidmdaaSa14
import Derived.Test.YtghlmengcidmdaaSa15
import Derived.Test.YtghlmengcidmdaaSa16
import Derived.Test.YtghlmengcidmdaaSa22
import Derived.Test.YtghlmengcidmdaaSa23
import Derived.Test.YtghlmengcidmdaaSa24
import Derived.Test.YtghlmengcidmdaaSa25
import Derived.Test.YtghlmengcidmdaaSa26
import Derived.Deep.DeepCutAuto
import Derived.Deep.RegionHeld3
import Derived.RegionTactic
import Derived.IntWalk
import Derived.Deep.QuietTactic
import Derived.BigQuiet
import Derived.StillTailTactics
import Derived.Deep.RegionLaw
import Derived.Deep.Slices
import Derived.Deep.Fields
import Derived.Lib.SmallJoins
import Derived.SliceStrings
import Derived.ChangeSlices
import Derived.Deep.RegionWith
import Derived.Laws.Cover3
import Derived.WalkKit
import Derived.Test.YtghlmengcidmdaaRows
import Derived.WalkSpells
import Derived.Lib.Hide
import Derived.Below
import Derived.Laws.BitsAllLaws
import Derived.Maps.Range
import Derived.Outline
import Derived.Deep.Upon
import Derived.Maps.AppendAt
import Derived.Laws.OwnMore
import Derived.OwnWalk
import Derived.OneCell
import Derived.Deep.AppendLies
import Derived.Deep.CutBlock
import Derived.Laws.StructEq
import Derived.WalkSmall
/- What May of the reference computes: what tree's May computes. Conditions: the program lies in memory. -/
namespace Go.Proofs.Ytghlmengcidmdaa.Tr
open Go.RowKit Go.Proofs.Ytghlmengcidmdaa.Lx Go.Proofs.Ytghlmengcidmdaa.Wd
theorem ItAt.hang {w : World} {d g o : Nat} {i : It} (h : ItAt (cw w) d g o i) : ∃ lv kv av tv ev, (∀ j u, (itCells i kv lv av tv ev)[j]? = some u → w.cell? ⟨g, o + j, none⟩ = some u) ∧ Hang d w i.s lv kv av tv ev ∧ OkE i.s.x ∧ InI i.s.id ∧ InI i.s.kind ∧ i.s.nm.size ≤ 9223372036854775807 ∧ i.s.proc.size ≤ 9223372036854775807 ∧ InI i.deep ∧ InI i.inn := by
  obtain ⟨⟨lv, av, tv, ev, p0, p1, p2, p3, p4, ⟨kv, p5, p6, p7, p8, hok, hk1⟩, p9, p10, p11, p12, j1, j2, j3, j4, hl1, ha1, ht1, he1⟩, p13, p14, p15, j5, j6⟩ := h
  refine ⟨lv, kv, av, tv, ev, fun j u hu => ?_, ⟨hl1, hk1, ha1, ht1, he1⟩, hok, j1, j2, j3, j4, j5, j6⟩
  have hj : j < 16 := (List.getElem?_eq_some_iff.1 hu).1
  rcases j with _ | _ | _ | _ | _ | _ | _ | _ | _ | _ | _ | _ | _ | _ | _ | _ | j
  all_goals (first | (cases hu; assumption) | omega)
set_option maxHeartbeats 8000000 in
set_option maxRecDepth 100000 in
theorem rmayP_any (d : Nat) (p : Pr) (gv pv : Value) (w : World) (hp : PrC (cw w) d gv pv p) :
    Calls Try.prog 79 #[.agg #[gv, pv]] w fun e w' => e = .returned (.bool (mayP p)) ∧ Below w.heap.size w w' := by
  obtain ⟨ga, gc, rfl, -, -⟩ := hp.1.form
  obtain ⟨pa, pc, rfl, hc1, hc2⟩ := hp.2.form
  have hplen : p.procs.length ≤ 9223372036854775807 := Nat.le_trans hc1 hc2
  have HP := Lib.hid hp
  obtain ⟨B, hB⟩ : ∃ B, Hid (rmayP p = B) := ⟨_, Lib.hid rfl⟩
  rw [← rmay_same, hB.out]
  clear hp hc1 hc2
  go_enter Try.func79, Try.ntmps79
  go_upto_region 1 with fail
  refine cut_world (fun wx => Below w.heap.size w wx ∧ BoxAt wx w.heap.size [.slice ga p.globals.length gc, .slice pa p.procs.length pc]) ⟨boxed _ _, box_new w #[.slice ga p.globals.length gc, .slice pa p.procs.length pc] 25⟩ ?_
  rintro w1 ⟨hb1, hx1⟩
  have HB1 := Lib.hid hb1
  have HX1 := Lib.hid hx1
  have HP1 := Lib.hid (PrC.mono (cw_next hb1) HP.out)
  have x0 := hx1 0 _ rfl
  have x1 := hx1 1 _ rfl
  clear hb1 hx1
  obtain ⟨c1, hcc1⟩ : ∃ c, Hid (namesB p.globals = c) := ⟨_, Lib.hid rfl⟩
  by_cases h1 : p.globals.length ≤ 16
  case neg =>
    have b1 : ((16 : Int) < (p.globals.length : Int)) = True := eq_true (by omega)
    have hz : B = false := by
      rw [← hB.out]; unfold rmayP
      rw [decide_eq_false h1]; simp
    have HZ := Lib.hid hz
    clear hz
    go_wp2_with fail
    go_ret
    rw [HZ.out]
    exact ⟨rfl, HB1.out⟩
  have b1 : ((16 : Int) < (p.globals.length : Int)) = False := eq_false (by omega)
  by_cases h2 : p.procs.length ≤ 16
  case neg =>
    have b2 : ((16 : Int) < (p.procs.length : Int)) = True := eq_true (by omega)
    have hz : B = false := by
      rw [← hB.out]; unfold rmayP
      rw [decide_eq_false h2]; simp
    have HZ := Lib.hid hz
    clear hz
    go_wp2_with fail
    go_ret
    rw [HZ.out]
    exact ⟨rfl, HB1.out⟩
  have b2 : ((16 : Int) < (p.procs.length : Int)) = False := eq_false (by omega)
  go_wp2_with fail
  refine (rnames1_any p.globals _ _ (StrC.to HP1.out.1)).mono ?_
  rintro e w2 ⟨rfl, hbg⟩
  rw [hcc1.out]
  have HBG := Lib.hid (HB1.out.trans (hbg.mono HB1.out.size))
  have HXG := Lib.hid (HX1.out.next hbg)
  have HPG := Lib.hid (PrC.mono (cw_next hbg) HP1.out)
  clear hbg x0 x1
  obtain ⟨w1', hw1'⟩ : ∃ w1' : World, w1' = w1 := ⟨_, rfl⟩
  clear hw1'
  cases c1 with
  | false =>
    have hz : B = false := by
      rw [← hB.out]; unfold rmayP
      rw [hcc1.out]; simp
    have HZ := Lib.hid hz
    clear hz
    go_wp2_with fail
    go_ret
    rw [HZ.out]
    exact ⟨rfl, HBG.out⟩
  | true =>
    clear HB1 HX1 HP1
    have HB1 := HBG
    have HX1 := HXG
    have HP1 := HPG
    clear HBG HXG HPG
    have x0 := HX1.out 0 _ rfl
    have x1 := HX1.out 1 _ rfl
    obtain ⟨w1, hw1⟩ : ∃ w1 : World, w1 = w2 := ⟨_, rfl⟩
    subst hw1
    go_wp2_with fail
    go_loopw [28] (fun i wr => ∃ k : Nat, k ≤ p.procs.length ∧ i = .int .i64 k ∧ Below w1.heap.size w1 wr ∧ (p.procs.take k).all headQ = true) (fun i _ => (p.procs.length - intOf i).toNat)
    case atStart => exact ⟨0, by omega, rfl, Below.refl _ _, rfl⟩
    case round =>
      obtain ⟨w0, hw0⟩ : ∃ w0 : World, w0 = wr := ⟨_, rfl⟩
      subst hw0
      obtain ⟨k, hk, rfl, hbel, hal⟩ := hrel
      have HBEL := Lib.hid hbel
      have HAL := Lib.hid hal
      by_cases hlt : k < p.procs.length
      · have hlt' : (k : Int) < (p.procs.length : Int) := by omega
        have h0k : (0 : Int) ≤ (k : Int) := by omega
        have hne : p.procs ≠ [] := by intro h; rw [h] at hlt; simp at hlt
        obtain ⟨g, off, cap', hv, _, hcells⟩ := SlAt.cells (PrC.mono (cw_next hbel) HP1.out).2 hne
        simp only [Value.slice.injEq] at hv
        obtain ⟨rfl, -, rfl⟩ := hv
        obtain ⟨qv1, vv1, bv1, fv1, p0, p1, p2, p3, p4, hnm, hq1, hv1, hb1, hf1⟩ := hcells k hlt
        obtain ⟨f, hf⟩ : ∃ f, Hid (p.procs[k] = f) := ⟨_, Lib.hid rfl⟩
        rw [hf.out] at p0 hnm hq1 hv1 hb1 hf1
        obtain ⟨qa1, qc1, rfl, -, -⟩ := hq1.form
        obtain ⟨va1, vc1, rfl, -, -⟩ := hv1.form
        obtain ⟨ba1, bc1, rfl, -, -⟩ := hb1.form
        obtain ⟨fa1, fc1, rfl, -, -⟩ := hf1.form
        have e0 : w0.cell? ⟨g, off + k * 5, none⟩ = _ := p0
        have e1 : w0.cell? ⟨g, off + k * 5 + 1, none⟩ = _ := p1
        have e2 : w0.cell? ⟨g, off + k * 5 + 2, none⟩ = _ := p2
        have e3 : w0.cell? ⟨g, off + k * 5 + 3, none⟩ = _ := p3
        have e4 : w0.cell? ⟨g, off + k * 5 + 4, none⟩ = _ := p4
        have HQ0 := Lib.hid hq1
        have HV0 := Lib.hid hv1
        have HF0 := Lib.hid hf1
        have hnot : Hid (headQ f = false → B = false) := Lib.hid (fun ho => by
          rw [← hB.out]
          unfold rmayP
          rw [all_no headQ _ hlt (by rw [hf.out]; exact ho)]
          simp)
        clear hcells p0 p1 p2 p3 p4 hq1 hv1 hb1 hf1 hne hal
        go_upto_region 6 with fail
        refine cut_world (fun wx => Below w0.heap.size w0 wx ∧ BoxAt wx w0.heap.size [.string f.nm, .slice qa1 f.params.length qc1, .slice va1 f.vars.length vc1, .slice ba1 f.body.length bc1, .slice fa1 f.fin.length fc1]) ⟨boxed _ _, box_new w0 #[.string f.nm, .slice qa1 f.params.length qc1, .slice va1 f.vars.length vc1, .slice ba1 f.body.length bc1, .slice fa1 f.fin.length fc1] 55⟩ ?_
        clear e0 e1 e2 e3 e4
        rintro w2 ⟨hb2, hx2⟩
        have HB2 := Lib.hid hb2
        have HX2 := Lib.hid hx2
        have f0 := hx2 0 _ rfl
        have f1 := hx2 1 _ rfl
        have f2 := hx2 2 _ rfl
        have f3 := hx2 3 _ rfl
        have f4 := hx2 4 _ rfl
        have HQ2 := Lib.hid (SlAt.imp HQ0.out fun _ _ _ _ => PaAt.mono (cw_next hb2))
        have HV2 := Lib.hid (StrC.to (StrC.mono (cw_next hb2) HV0.out))
        have HF2 := Lib.hid (StrC.to (StrC.mono (cw_next hb2) HF0.out))
        have HW0 := Lib.hid (HB1.out.trans (HBEL.out.mono HB1.out.size))
        clear hb2 hx2 HQ0 HV0 HF0
        obtain ⟨c2, hc2'⟩ : ∃ c, Hid (isName (bl f.nm) = c) := ⟨_, Lib.hid rfl⟩
        obtain ⟨c3, hc3⟩ : ∃ c, Hid (namesB f.vars = c) := ⟨_, Lib.hid rfl⟩
        obtain ⟨c4, hc4⟩ : ∃ c, Hid (namesB f.fin = c) := ⟨_, Lib.hid rfl⟩
        go_wp2_with fail
        refine (rname_any f.nm _ hnm).mono ?_
        rintro e w3 ⟨rfl, hb3⟩
        rw [hc2'.out]
        have HB3' := Lib.hid (HB2.out.trans (hb3.mono HB2.out.size))
        have HX3 := Lib.hid (HX2.out.next hb3)
        have HQ3 := Lib.hid (SlAt.imp HQ2.out fun _ _ _ _ => PaAt.mono (cw_next hb3))
        have HV3 := Lib.hid (HV2.out.next hb3)
        have HF3 := Lib.hid (HF2.out.next hb3)
        clear hb3 f0 f1 f2 f3 f4
        have f1 := HX3.out 1 _ rfl
        have f2 := HX3.out 2 _ rfl
        have f4 := HX3.out 4 _ rfl
        cases c2 with
        | false =>
          have hz : B = false := by
            refine hnot.out ?_
            unfold headQ headPc
            simp [hc2'.out]
          have HZ := Lib.hid hz
          clear hz
          go_wp2_with fail
          go_ret
          rw [HZ.out]
          exact ⟨rfl, HW0.out.trans (HB3'.out.mono HW0.out.size)⟩
        | true =>
          by_cases t1 : f.params.length ≤ 8
          case neg =>
            have b3 : ((8 : Int) < (f.params.length : Int)) = True := eq_true (by omega)
            have hz : B = false := by
              refine hnot.out ?_
              unfold headQ headPc
              simp [t1]
            have HZ := Lib.hid hz
            clear hz
            go_wp2_with fail
            go_ret
            rw [HZ.out]
            exact ⟨rfl, HW0.out.trans (HB3'.out.mono HW0.out.size)⟩
          have b3 : ((8 : Int) < (f.params.length : Int)) = False := eq_false (by omega)
          by_cases t2 : f.vars.length ≤ 16
          case neg =>
            have b4 : ((16 : Int) < (f.vars.length : Int)) = True := eq_true (by omega)
            have hz : B = false := by
              refine hnot.out ?_
              unfold headQ headPc
              simp [t2]
            have HZ := Lib.hid hz
            clear hz
            go_wp2_with fail
            go_ret
            rw [HZ.out]
            exact ⟨rfl, HW0.out.trans (HB3'.out.mono HW0.out.size)⟩
          have b4 : ((16 : Int) < (f.vars.length : Int)) = False := eq_false (by omega)
          go_wp2_with fail
          refine (rnames1_any f.vars _ _ HV3.out).mono ?_
          rintro e w5 ⟨rfl, hb5⟩
          rw [hc3.out]
          have HB5 := Lib.hid (HB3'.out.trans (hb5.mono HB3'.out.size))
          have HX5 := Lib.hid (HX3.out.next hb5)
          have HQ5 := Lib.hid (SlAt.imp HQ3.out fun _ _ _ _ => PaAt.mono (cw_next hb5))
          have HF5 := Lib.hid (HF3.out.next hb5)
          clear hb5 f1 f2 f4
          have f1 := HX5.out 1 _ rfl
          have f4 := HX5.out 4 _ rfl
          cases c3 with
          | false =>
            have hz : B = false := by
              refine hnot.out ?_
              unfold headQ headPc
              simp [hc3.out]
            have HZ := Lib.hid hz
            clear hz
            go_wp2_with fail
            go_ret
            rw [HZ.out]
            exact ⟨rfl, HW0.out.trans (HB5.out.mono HW0.out.size)⟩
          | true =>
            go_wp2_with fail
            refine (rnames1_any f.fin _ _ HF5.out).mono ?_
            rintro e w4 ⟨rfl, hb4⟩
            rw [hc4.out]
            have HBF := Lib.hid (HB5.out.trans (hb4.mono HB5.out.size))
            have HX4 := Lib.hid (HX5.out.next hb4)
            have HQ := Lib.hid (SlAt.imp HQ5.out fun _ _ _ _ => PaAt.mono (cw_next hb4))
            have HB4 := Lib.hid (HW0.out.trans (HBF.out.mono HW0.out.size))
            clear hb4 f1 f4
            have f1 := HX4.out 1 _ rfl
            cases c4 with
            | false =>
              have hz : B = false := by
                refine hnot.out ?_
                unfold headQ headPc
                simp [hc4.out]
              have HZ := Lib.hid hz
              clear hz
              go_wp2_with fail
              go_ret
              rw [HZ.out]
              exact ⟨rfl, HB4.out⟩
            | true =>
              go_wp2_with fail
              go_loopw [63] (fun i wr => ∃ q : Nat, q ≤ f.params.length ∧ i = .int .i64 q ∧ Below w4.heap.size w4 wr ∧ (f.params.take q).all (fun a => isName (bl a.nm)) = true) (fun i _ => (f.params.length - intOf i).toNat)
              case atStart => exact ⟨0, by omega, rfl, Below.refl _ _, rfl⟩
              case round =>
                obtain ⟨q, hq, rfl, hbi, hal⟩ := hrel
                have HBI := Lib.hid hbi
                have HALP := Lib.hid hal
                by_cases hqt : q < f.params.length
                · have hqt' : (q : Int) < (f.params.length : Int) := by omega
                  have hne2 : f.params ≠ [] := by intro h; rw [h] at hqt; simp at hqt
                  obtain ⟨g2, off2, cap2, hv2, _, hcells2⟩ := SlAt.cells (SlAt.imp HQ.out fun _ _ _ _ => PaAt.mono (cw_next hbi)) hne2
                  simp only [Value.slice.injEq] at hv2
                  obtain ⟨rfl, -, rfl⟩ := hv2
                  obtain ⟨r0, r1, hsz2⟩ := hcells2 q hqt
                  obtain ⟨pr, hpr⟩ : ∃ pr, Hid (f.params[q] = pr) := ⟨_, Lib.hid rfl⟩
                  rw [hpr.out] at r0 r1 hsz2
                  have d0 : wr.cell? ⟨g2, off2 + q * 2, none⟩ = _ := r0
                  have d1 : wr.cell? ⟨g2, off2 + q * 2 + 1, none⟩ = _ := r1
                  clear hcells2 r0 r1 hne2 hbi hal
                  obtain ⟨c5, hc5⟩ : ∃ c, Hid (isName (bl pr.nm) = c) := ⟨_, Lib.hid rfl⟩
                  have HPB := Lib.hid (HBI.out.trans ((boxed wr (.cells #[.string pr.nm, .bool pr.ref] 62)).mono HBI.out.size))
                  go_wp2_with fail
                  refine (rname_any pr.nm _ hsz2).mono ?_
                  rintro e w' ⟨rfl, hb'⟩
                  rw [hc5.out]
                  have HPC := Lib.hid (HPB.out.trans (hb'.mono HPB.out.size))
                  clear hb'
                  cases c5 with
                  | false =>
                    have hz : B = false := by
                      refine hnot.out ?_
                      unfold headQ
                      rw [all_no (fun a : Pa => isName (bl a.nm)) _ hqt (by rw [hpr.out]; exact hc5.out), Bool.and_false]
                    have HZ := Lib.hid hz
                    clear hz
                    go_wp2_with fail
                    go_ret
                    rw [HZ.out]
                    exact ⟨rfl, HB4.out.trans (HPC.out.mono HB4.out.size)⟩
                  | true =>
                    go_wp2_with fail
                    go_roundw
                    case rel => exact ⟨q + 1, by omega, by go_num, HPC.out, all_take _ _ hqt HALP.out (by rw [hpr.out]; exact hc5.out)⟩
                    case measure => simp [intOf]; omega
                · have hqt' : ¬ (q : Int) < (f.params.length : Int) := by omega
                  have hallp : f.params.all (fun a => isName (bl a.nm)) = true := by have := HALP.out; rwa [List.take_of_length_le (by omega)] at this
                  have HALLP := Lib.hid hallp
                  have hw1 : Below w1.heap.size w1 wr := HBEL.out.trans ((HBF.out.trans (HBI.out.mono HBF.out.size)).mono HBEL.out.size)
                  have HW1 := Lib.hid hw1
                  clear hbi hal hallp hw1
                  go_wp2_with fail
                  go_roundw
                  case rel =>
                    refine ⟨k + 1, by omega, by go_num, HW1.out, all_take _ _ hlt HAL.out ?_⟩
                    rw [hf.out]
                    unfold headQ headPc
                    rw [decide_eq_true t1, decide_eq_true t2, hc2'.out, hc3.out, hc4.out, HALLP.out]
                    rfl
                  case measure => simp [intOf]; omega
      · clear hal hbel
        have hlt' : ¬ (k : Int) < (p.procs.length : Int) := by omega
        have hall : p.procs.all headQ = true := by have := HAL.out; rwa [List.take_of_length_le (by omega)] at this
        have HHEAD := Lib.hid hall
        have y0 := HX1.out.next HBEL.out 0 _ rfl
        have y1 := HX1.out.next HBEL.out 1 _ rfl
        have HB2 := Lib.hid (HB1.out.trans (HBEL.out.mono HB1.out.size))
        have HP2 := Lib.hid (PrC.mono (cw_next HBEL.out) HP1.out)
        clear hall x0 x1
        go_wp2_with fail
        refine (allOf_any d p _ _ _ HP2.out).mono ?_
        rintro e w3 ⟨v3, rows3, rfl, hr3, hb3⟩
        obtain ⟨its, hits⟩ : ∃ its, Hid (allOf p = its) := ⟨_, Lib.hid rfl⟩
        have HIT := hits
        rw [hits.out] at hr3
        have HB3 := Lib.hid (HB2.out.trans (hb3.mono HB2.out.size))
        have HIS := Lib.hid hr3.sl
        obtain ⟨va3, vc3, rfl⟩ := ownsForm hr3.own
        clear hr3 hb3 y0 y1
        have h401 : its.length ≤ 401 := by rw [← hits.out]; exact allOf_len p
        by_cases h200 : its.length ≤ 200
        case neg =>
          have b200 : ((200 : Int) < (its.length : Int)) = True := eq_true (by omega)
          have hz : B = false := by
            rw [← hB.out]; unfold rmayP
            rw [HIT.out, tk_many (by omega)]; simp
          have HZ := Lib.hid hz
          clear hz
          go_wp2_with fail
          go_ret
          rw [HZ.out]
          exact ⟨rfl, HB3.out⟩
        have b200 : ((200 : Int) < (its.length : Int)) = False := eq_false (by omega)
        have e1 : (its.length : Int) ≤ 401 := by omega
        go_wp2_with fail
        go_loopw [80] (fun i wr => ∃ k : Nat, k ≤ its.length ∧ i = .int .i64 k ∧ Below w3.heap.size w3 wr ∧ oksA 0 (its.take k) = true) (fun i _ => (its.length - intOf i).toNat)
        case atStart => exact ⟨0, by omega, rfl, Below.refl _ _, rfl⟩
        case round =>
          obtain ⟨k, hk, rfl, hbel, hoks⟩ := hrel
          have HBEL := Lib.hid hbel
          have HOKS := Lib.hid hoks
          obtain ⟨w0, hw0⟩ : ∃ w0 : World, w0 = wr := ⟨_, rfl⟩
          subst hw0
          clear hoks
          by_cases hlt : k < its.length
          · have hlt' : (k : Int) < (its.length : Int) := by omega
            have h0k : (0 : Int) ≤ (k : Int) := by omega
            have hk1 : ((k : Int) + 1) ≤ 402 := by omega
            have hne : its ≠ [] := by intro h; rw [h] at hlt; simp at hlt
            obtain ⟨g, off, cap', hv, _, hcells⟩ := SlAt.cells (SlAt.imp HIS.out fun _ _ _ _ => ItAt.mono (cw_next hbel)) hne
            simp only [Value.slice.injEq] at hv
            obtain ⟨rfl, -, rfl⟩ := hv
            have hit := hcells k hlt
            obtain ⟨it, hit0⟩ : ∃ it, Hid (its[k] = it) := ⟨_, Lib.hid rfl⟩
            rw [hit0.out] at hit
            obtain ⟨lv, kv, av, tv, ev, hce, hh, hok, j1, j2, j3, j4, j5, j6⟩ := hit.hang
            obtain ⟨la, lc, rfl, -, -⟩ := hh.lab.form
            obtain ⟨ka, kc, rfl, -, -⟩ := hh.kid.form
            obtain ⟨aa, ac, rfl, -, -⟩ := hh.arg.form
            obtain ⟨ta, tc, rfl, -, -⟩ := hh.thn.form
            obtain ⟨ea, ec, rfl, -, -⟩ := hh.els.form
            have e0 : w0.cell? ⟨g, off + k * 16, none⟩ = _ := hce 0 _ rfl
            have e1 : w0.cell? ⟨g, off + k * 16 + 1, none⟩ = _ := hce 1 _ rfl
            have e2 : w0.cell? ⟨g, off + k * 16 + 2, none⟩ = _ := hce 2 _ rfl
            have e3 : w0.cell? ⟨g, off + k * 16 + 3, none⟩ = _ := hce 3 _ rfl
            have e4 : w0.cell? ⟨g, off + k * 16 + 4, none⟩ = _ := hce 4 _ rfl
            have e5 : w0.cell? ⟨g, off + k * 16 + 5, none⟩ = _ := hce 5 _ rfl
            have e6 : w0.cell? ⟨g, off + k * 16 + 6, none⟩ = _ := hce 6 _ rfl
            have e7 : w0.cell? ⟨g, off + k * 16 + 7, none⟩ = _ := hce 7 _ rfl
            have e8 : w0.cell? ⟨g, off + k * 16 + 8, none⟩ = _ := hce 8 _ rfl
            have e9 : w0.cell? ⟨g, off + k * 16 + 9, none⟩ = _ := hce 9 _ rfl
            have e10 : w0.cell? ⟨g, off + k * 16 + 10, none⟩ = _ := hce 10 _ rfl
            have e11 : w0.cell? ⟨g, off + k * 16 + 11, none⟩ = _ := hce 11 _ rfl
            have e12 : w0.cell? ⟨g, off + k * 16 + 12, none⟩ = _ := hce 12 _ rfl
            have e13 : w0.cell? ⟨g, off + k * 16 + 13, none⟩ = _ := hce 13 _ rfl
            have HH := Lib.hid hh
            have HOK := Lib.hid hok
            have HJ3 := Lib.hid j3
            have HJ4 := Lib.hid j4
            have HWR := Lib.hid (HB3.out.trans (hbel.mono HB3.out.size))
            obtain ⟨wb, hwb⟩ : ∃ wb, Hid ((namesB it.s.labels && fieldsB it.s) = wb) := ⟨_, Lib.hid rfl⟩
            have hnot : Hid (okAt k it = false → B = false) := Lib.hid (fun ho => by
              rw [← hB.out]
              unfold rmayP
              rw [HIT.out]
              unfold tk
              rw [oksA_no hlt (by rw [hit0.out, Int.zero_add]; exact ho)]
              simp)
            clear hcells hne hit hce hh hok j3 j4 hbel
            obtain ⟨c9, hc9⟩ : ∃ c, c = (it.s.id == (k : Int) + 1) := ⟨_, rfl⟩
            have hc9' : (it.s.id != (k : Int) + 1) = !c9 := by rw [hc9]; rfl
            have HC9 := Lib.hid hc9
            cases c9 with
            | false =>
              have q9 : (it.s.id == (k : Int) + 1) = false := hc9.symm
              clear hc9
              simp only [Bool.not_false] at hc9'
              have hz : B = false := by
                refine hnot.out ?_
                unfold okAt
                rw [← HC9.out]; rfl
              have HZ := Lib.hid hz
              clear hz
              go_wp2_with fail
              go_ret
              rw [HZ.out]
              exact ⟨rfl, HWR.out⟩
            | true =>
              have q9 : (it.s.id == (k : Int) + 1) = true := hc9.symm
              clear hc9
              simp only [Bool.not_true] at hc9'
              by_cases hd : it.deep ≤ 12
              case neg =>
                have hd1 : (12 : Int) < it.deep := by omega
                have hz : B = false := by
                  refine hnot.out ?_
                  unfold okAt
                  rw [decide_eq_false hd, Bool.and_false, Bool.false_and]
                have HZ := Lib.hid hz
                clear hz
                go_wp2_with fail
                go_ret
                rw [HZ.out]
                exact ⟨rfl, HWR.out⟩
              have hd1 : ¬ (12 : Int) < it.deep := by omega
              go_wp2_with fail
              refine (one_any d it.s la aa ta ea ka lc ac tc ec kc _ HOK.out HJ3.out HJ4.out HH.out).mono ?_
              rintro e w5 ⟨rfl, hb5⟩
              rw [hwb.out]
              have HB5 := Lib.hid (HBEL.out.trans (hb5.mono HBEL.out.size))
              clear hb5
              cases wb with
              | false =>
                have hz : B = false := by
                  refine hnot.out ?_
                  unfold okAt
                  rw [hwb.out, Bool.and_false]
                have HZ := Lib.hid hz
                clear hz
                go_wp2_with fail
                go_ret
                rw [HZ.out]
                exact ⟨rfl, HB3.out.trans (HB5.out.mono HB3.out.size)⟩
              | true =>
                go_wp2_with fail
                go_roundw
                case rel => exact ⟨k + 1, by omega, by go_num, HB5.out, oksA_yes hlt HOKS.out (by rw [hit0.out, Int.zero_add]; unfold okAt; rw [← HC9.out, decide_eq_true hd, hwb.out]; rfl)⟩
                case measure => simp [intOf]; omega
          · have hlt' : ¬ (k : Int) < (its.length : Int) := by omega
            have he : B = true := by
              rw [← hB.out]
              unfold rmayP
              have h9 := HOKS.out
              rw [List.take_of_length_le (by omega)] at h9
              rw [HIT.out, decide_eq_true h1, decide_eq_true h2, hcc1.out, HHEAD.out]
              unfold tk
              rw [h9, decide_eq_true (by omega)]
              rfl
            have HE := Lib.hid he
            clear he
            go_wp2_with fail
            go_ret
            rw [HE.out]
            exact ⟨rfl, HB3.out.trans (HBEL.out.mono HB3.out.size)⟩
end Go.Proofs.Ytghlmengcidmdaa.Tr
