/- Parts of CheckW, ScopedW, FaultEq, TMod: walks and plain laws that later texts use. Conditions: as each statement says. -/
import Derived.Test.YtghlmengcidmdaaTw0
import Derived.Test.YtghlmengcidmdaaTw1
import Derived.Test.YtghlmengcidmdaaTw2
import Derived.Test.YtghlmengcidmdaaTw3
import Derived.Test.YtghlmengcidmdaaTw4
import Derived.Test.YtghlmengcidmdaaTw5
import Derived.Test.YtghlmengcidmdaaTw6
import Derived.Test.YtghlmengcidmdaaTw7
import Derived.Test.YtghlmengcidmdaaTw8
import Derived.Test.YtghlmengcidmdaaTw9
import Derived.Test.YtghlmengcidmdaaTw10
import Derived.Test.YtghlmengcidmdaaTw11
import Derived.Test.YtghlmengcidmdaaTw12
import Derived.Test.YtghlmengcidmdaaTw13
import Derived.Test.YtghlmengcidmdaaTw14
import Derived.Test.YtghlmengcidmdaaTw15
import Derived.Test.YtghlmengcidmdaaTw18
import Derived.Test.YtghlmengcidmdaaTw19
import Derived.Laws.StructEq
import Derived.Deep.DeepCutAuto
import Derived.Deep.RegionHeld3
import Derived.Deep.QuietTactic
import Derived.BigQuiet
import Derived.Deep.Slices
import Derived.Deep.Fields
import Derived.Lib.SmallJoins
import Derived.SliceStrings
import Derived.ChangeSlices
import Derived.IntWalk
import Derived.Deep.RegionLaw
import Derived.Deep.CutBlock
import Derived.WalkKit
import Derived.Test.YtghlmengcidmdaaRows
import Derived.WalkSpells
import Derived.Lib.Hide
import Derived.Below
import Derived.Laws.BitsAllLaws
import Derived.OwnWalk
import Derived.OneCell
import Derived.Deep.AppendLies
import Derived.Deep.RegionWith
import Derived.Laws.Cover3
import Derived.StillTailTactics
import Derived.RegionTactic
import Derived.Maps.Range
import Derived.Outline
import Derived.Deep.Upon
import Derived.Maps.AppendAt
import Derived.Laws.OwnMore
import Derived.OrdersHeld
import Derived.WalkSmall
import Derived.Deep.MidRow
section
/- What Check of scope tells: the first fault of a program's names. Conditions: the program lies in memory, and there is room for what is gathered of it. -/
namespace Go.Proofs.Ytghlmengcidmdaa.Tr
open Go.RowKit Go.Proofs.Ytghlmengcidmdaa.Lx Go.Proofs.Ytghlmengcidmdaa.Wd
set_option linter.unusedSimpArgs false
theorem fi_open {C : Cs} {d g o : Nat} {t : Fi} (h : FiAt C d g o t) : ∃ (la ka aa ta ea : Option Addr) (lc kc ac tc ec : Nat),
    (∀ j u, ([.int .i64 t.s.id, .int .i64 t.s.kind, .slice la t.s.labels.length lc, .string t.s.nm, .string t.s.proc, .int .i64 t.s.x.op, .int .i64 t.s.x.n, .string t.s.x.nm, .slice ka t.s.x.ks.length kc, .bool t.s.has, .slice aa t.s.args.length ac, .slice ta t.s.thn.length tc, .slice ea t.s.els.length ec, .int .i64 t.proc, .int .i64 t.up, .int .i64 t.next, .int .i64 t.loop] : List Value)[j]? = some u → C g (o + j) u)
    ∧ (∀ w, Cs.le C (cw w) → Hang d w t.s (.slice la t.s.labels.length lc) (.slice ka t.s.x.ks.length kc) (.slice aa t.s.args.length ac) (.slice ta t.s.thn.length tc) (.slice ea t.s.els.length ec)) ∧ OkE t.s.x ∧ InI t.s.id ∧ InI t.s.kind ∧ t.s.nm.size ≤ 9223372036854775807 ∧ t.s.proc.size ≤ 9223372036854775807 ∧ InI t.proc ∧ InI t.up ∧ InI t.next ∧ InI t.loop := by
  obtain ⟨h1, p13, p14, p15, p16, i1, i2, i3, i4⟩ := h
  obtain ⟨la, ka, aa, ta, ea, lc, kc, ac, tc, ec, hc, hh, k1, k2, k3, k4, k5⟩ := st_open h1
  refine ⟨la, ka, aa, ta, ea, lc, kc, ac, tc, ec, fun j u hu => ?_, hh, k1, k2, k3, k4, k5, i1, i2, i3, i4⟩
  match j, hu with
  | 0, hu => cases hu; exact hc 0 _ rfl
  | 1, hu => cases hu; exact hc 1 _ rfl
  | 2, hu => cases hu; exact hc 2 _ rfl
  | 3, hu => cases hu; exact hc 3 _ rfl
  | 4, hu => cases hu; exact hc 4 _ rfl
  | 5, hu => cases hu; exact hc 5 _ rfl
  | 6, hu => cases hu; exact hc 6 _ rfl
  | 7, hu => cases hu; exact hc 7 _ rfl
  | 8, hu => cases hu; exact hc 8 _ rfl
  | 9, hu => cases hu; exact hc 9 _ rfl
  | 10, hu => cases hu; exact hc 10 _ rfl
  | 11, hu => cases hu; exact hc 11 _ rfl
  | 12, hu => cases hu; exact hc 12 _ rfl
  | 13, hu => cases hu; exact p13
  | 14, hu => cases hu; exact p14
  | 15, hu => cases hu; exact p15
  | 16, hu => cases hu; exact p16
set_option maxHeartbeats 8000000 in
set_option maxRecDepth 100000 in
theorem scheck_any (d : Nat) (p : Pr) (gv pv : Value) (w : World) (hp : PrC (cw w) d gv pv p) (hroom : RoomP p) :
    Calls Try.prog 38 #[.agg #[gv, pv]] w (FaultIs (scopeP p) w) := by
  obtain ⟨i0, hi, hz0, hz1, hz2⟩ := info_parts infoStr
  have HROOM := Lib.hid hroom
  clear hroom
  obtain ⟨ga, gc, rfl, hgl1, hgl2⟩ := hp.1.form
  obtain ⟨pa, pc, rfl, hl1, hl2⟩ := hp.2.form
  have hpl : p.procs.length ≤ 9223372036854775807 := Nat.le_trans hl1 hl2
  have HP := Lib.hid hp
  clear hp hl1 hl2 hgl1 hgl2
  obtain ⟨RR, hRR⟩ : ∃ r, Hid (scopeP p = r) := ⟨_, Lib.hid rfl⟩
  rw [hRR.out]
  go_enter Try.func38, Try.ntmps38
  go_upto_region 1 with fail
  refine cut_world (fun wx => Below w.heap.size w wx ∧ wx.heap.size = w.heap.size + 1 + 1 ∧ BoxAt wx w.heap.size [.slice ga p.globals.length gc, .slice pa p.procs.length pc] ∧ BoxAt wx (w.heap.size + 1) [.int .i64 0, .int .i64 0] ∧ Free wx (w.heap.size + 1)) ⟨(boxed w _).alloc (by simp) _, by simp, (box_new w #[.slice ga p.globals.length gc, .slice pa p.procs.length pc] 25).next (boxed _ _), box_two w _ #[.int .i64 0, .int .i64 0] 30, free_two w _ _ _⟩ ?_
  rintro w1 ⟨hb1, hz1', hx1, hr1, hf1⟩
  obtain ⟨R, hR⟩ : ∃ R, R = w.heap.size + 1 := ⟨_, rfl⟩
  rw [← hR] at hr1 hf1
  try rw [← hR]
  have hRw : w.heap.size < R := by omega
  have hR1 : R < w1.heap.size := by omega
  have HB1 := Lib.hid hb1
  have HX1 := Lib.hid hx1
  have HR1 := Lib.hid hr1
  have HF1 := Lib.hid hf1
  have HP1 := Lib.hid (PrC.mono (cw_next hb1) HP.out)
  clear hb1 hx1 hr1 hf1 hz1' hR
  have x0 := HX1.out 0 _ rfl
  have x1 := HX1.out 1 _ rfl
  go_wp2_with fail
  refine (mayP_any d p _ _ _ HP1.out).mono ?_
  rintro e w2 ⟨rfl, hb2⟩
  obtain ⟨m1, hm1⟩ : ∃ m, Hid (mayP p = m) := ⟨_, Lib.hid rfl⟩
  rw [hm1.out]
  have HB2 := Lib.hid (HB1.out.trans (hb2.mono HB1.out.size))
  have HX2 := Lib.hid (HX1.out.next hb2)
  have HR2 := Lib.hid (HR1.out.next hb2)
  have HF2 := Lib.hid (HF1.out.next hR1 hb2)
  have HP2 := Lib.hid (PrC.mono (cw_next hb2) HP1.out)
  have hR2 : R < w2.heap.size := by have := hb2.size; omega
  clear hb2 x0 x1
  cases m1 with
  | false =>
    have r0 := HR2.out 0 _ rfl
    have r1 := HR2.out 1 _ rfl
    have f0 := HF2.out 0
    have f1 := HF2.out 1
    go_wp2_with fail
    have hq := box2 (x0 := .int .i64 1) (x1 := .int .i64 0) HR2.out
    have q0 := hq 0 _ rfl
    have q1 := hq 1 _ rfl
    refine bodyPost_ret (v := .agg #[.int .i64 1, .int .i64 0]) (by simp [results, Try.results38, go_sem, q0, q1]) rfl ?_
    exact ⟨by rw [← hRR.out, scope_may hm1.out], below2 HB2.out (by omega)⟩
  | true =>
    have x1 := HX2.out 1 _ rfl
    go_wp2_with fail
    clear x1
    go_loopw [20, 3] (fun i v wr => ∃ (k : Nat) (v0 : Value), k ≤ p.procs.length ∧ i = .int .i64 k ∧ v = v0 ∧ RowS w2.heap.size wr v0 ((p.procs.take k).map Pc.nm) ∧ Below w2.heap.size w2 wr) (fun i _ _ => (p.procs.length - intOf i).toNat)
    case atStart => exact ⟨0, _, by omega, rfl, rfl, RowS.nil _ _, Below.refl _ _⟩
    case round =>
      obtain ⟨k, v, hk, rfl, rfl, hr2, hbw⟩ := hrel
      have HBW := Lib.hid hbw
      obtain ⟨w3, hw3⟩ : ∃ x : World, x = wr := ⟨_, rfl⟩
      subst hw3
      have HP3 := Lib.hid (PrC.mono (cw_next hbw) HP2.out)
      clear hbw
      by_cases hlt : k < p.procs.length
      · have hlt' : (k : Int) < (p.procs.length : Int) := by omega
        have h0k : (0 : Int) ≤ (k : Int) := by omega
        have hst : (p.procs.take (k + 1)).map Pc.nm = (p.procs.take k).map Pc.nm ++ [p.procs[k].nm] := by rw [List.take_succ_eq_append_getElem hlt, List.map_append]; rfl
        obtain ⟨LK, hLK⟩ : ∃ L, Hid ((p.procs.take k).map Pc.nm = L) := ⟨_, Lib.hid rfl⟩
        have hlk : LK.length = k := by rw [← hLK.out, List.length_map, List.length_take]; omega
        have hroom := HROOM.out.procs
        obtain ⟨g, off, hvp, qv, vv, bv, fv, p0, p1, p2, p3, p4, hnm, hps, hvs, hbody, hfin⟩ := procs_at HP3.out.2 hlt
        cases hvp
        obtain ⟨f, hf⟩ : ∃ f, Hid (p.procs[k] = f) := ⟨_, Lib.hid rfl⟩
        rw [hf.out] at p0 hnm hps hvs hbody hfin
        obtain ⟨a1, c1, rfl, -, -⟩ := hps.form
        obtain ⟨a2, c2, rfl, -, -⟩ := hvs.form
        obtain ⟨a3, c3, rfl, -, -⟩ := hbody.form
        obtain ⟨a4, c4, rfl, -, -⟩ := hfin.form
        have e0 : w3.cell? ⟨g, off + k * 5, none⟩ = _ := p0
        have e1 : w3.cell? ⟨g, off + k * 5 + 1, none⟩ = _ := p1
        have e2 : w3.cell? ⟨g, off + k * 5 + 2, none⟩ = _ := p2
        have e3 : w3.cell? ⟨g, off + k * 5 + 3, none⟩ = _ := p3
        have e4 : w3.cell? ⟨g, off + k * 5 + 4, none⟩ = _ := p4
        have HNM := Lib.hid hnm
        have HH1 := Lib.hid hps
        have HH2 := Lib.hid hvs
        have HH3 := Lib.hid hbody
        have HH4 := Lib.hid hfin
        clear p0 p1 p2 p3 p4 hnm hps hvs hbody hfin
        rw [hf.out] at hst
        rw [hLK.out] at hr2 hst
        have HST := Lib.hid hst
        obtain ⟨va2, vc2, rfl⟩ := ownsForm hr2.1
        have hlr : LK.length + 1 ≤ 1000001 := by omega
        have HR3 := Lib.hid hr2
        have hs2 := HBW.out.size
        clear hst hr2 hlk
        go_upto_region 7 with fail
        refine cut_world (fun wx => Below w3.heap.size w3 wx ∧ BoxAt wx w3.heap.size [.string f.nm, .slice a1 f.params.length c1, .slice a2 f.vars.length c2, .slice a3 f.body.length c3, .slice a4 f.fin.length c4]) ⟨boxed w3 _, box_new w3 #[.string f.nm, .slice a1 f.params.length c1, .slice a2 f.vars.length c2, .slice a3 f.body.length c3, .slice a4 f.fin.length c4] 55⟩ ?_
        clear e0 e1 e2 e3 e4
        rintro w4 ⟨hb4, hy4⟩
        have HB4 := Lib.hid hb4
        have HR4 := Lib.hid (HR3.out.next hb4)
        have y0 := hy4 0 _ rfl
        have hs4 := hb4.size
        clear hb4 hy4
        go_wp2_with (at_builtin; refine wpList_append_lies _ rfl (.tmp 24) (.tmp 27) 22 rfl w2.heap.size 9 i0 (.string ⟨#[]⟩) 1 16 Try.underlying22 hi hz0 hz1 hz2 rfl (by decide) _ _ _ rfl ((HR4.out.1.alloc _)) ⟨_, 0, none⟩ 1 1 [.string f.nm] rfl rfl ?c1 str_cells (by decide) ?c3 ?c4 ?c5 _ rfl ?_)
        case c1 => exact one_str _ _ _
        case c3 => unfold maxLen; omega
        case c4 => omega
        case c5 => first | omega | (simp; omega)
        intro g5 cap5 w5 hown5 hg5 hat5 hlt5
        have hgg := (grown_of (HB4.out.trans ((boxed w4 _).mono HB4.out.size)) _).trans hg5
        have HR5 := Lib.hid (RowS.one hown5 HR3.out.2 HNM.out)
        have HG5 := Lib.hid hgg
        clear hown5 hg5 hat5 hlt5 hgg
        go_wp2_with fail
        go_roundw
        case rel =>
          refine ⟨k + 1, _, by omega, by go_num, rfl, ?_, HBW.out.grown HG5.out HBW.out.size fun q hq => (HR3.out.lt q hq).1⟩
          rw [HST.out]; exact HR5.out
        case measure => simp [intOf]; omega
      · have hlt' : ¬ (k : Int) < (p.procs.length : Int) := by omega
        have hke : k = p.procs.length := by omega
        subst hke
        rw [List.take_length] at hr2
        obtain ⟨PN, hPN⟩ : ∃ L, Hid (procNs p = L) := ⟨_, Lib.hid rfl⟩
        have hr3 := hr2
        rw [show p.procs.map Pc.nm = PN from hPN.out] at hr3
        have hpnl : PN.length = p.procs.length := by rw [← hPN.out]; unfold procNs; rw [List.length_map]
        have hroom := HROOM.out.procs
        have HN3 := Lib.hid (hr3.strs (by omega))
        obtain ⟨na, nc, rfl⟩ := ownsForm hr3.1
        have HB3 := Lib.hid (HB2.out.trans (HBW.out.mono HB2.out.size))
        have HX3 := Lib.hid (HX2.out.next HBW.out)
        have HR3 := Lib.hid (HR2.out.next HBW.out)
        have HF3 := Lib.hid (HF2.out.next hR2 HBW.out)
        have hR3 : R < w3.heap.size := by have := HBW.out.size; omega
        have HG3 := Lib.hid (StrC.to HP3.out.1)
        clear hr2 hr3 hpnl HBW
        go_wp2_with fail
        refine (index_any PN _ sMain _ HN3.out).mono ?_
        rintro e w' ⟨rfl, rfl⟩
        obtain ⟨AI, hAI⟩ : ∃ n, Hid (atI sMain PN = n) := ⟨_, Lib.hid rfl⟩
        rw [hAI.out]
        have x0 := HX3.out 0 _ rfl
        have x1 := HX3.out 1 _ rfl
        go_wp2_with fail
        refine (twice_any p.globals _ _ HG3.out).mono ?_
        rintro e w' ⟨rfl, rfl⟩
        obtain ⟨T1, hT1⟩ : ∃ b, Hid (twiceB p.globals = b) := ⟨_, Lib.hid rfl⟩
        rw [hT1.out]
        cases T1 with
        | true =>
          have r0 := HR3.out 0 _ rfl
          have r1 := HR3.out 1 _ rfl
          have f0 := HF3.out 0
          have f1 := HF3.out 1
          go_wp2_with fail
          have hq := box2 (x0 := .int .i64 5) (x1 := .int .i64 0) HR3.out
          have q0 := hq 0 _ rfl
          have q1 := hq 1 _ rfl
          refine bodyPost_ret (v := .agg #[.int .i64 5, .int .i64 0]) (by simp [results, Try.results38, go_sem, q0, q1]) rfl ?_
          exact ⟨by rw [← hRR.out, scope_head hm1.out (head_glob hT1.out)], below2 HB3.out (by omega)⟩
        | false =>
          go_wp2_with fail
          refine (twice_any PN _ _ HN3.out).mono ?_
          rintro e w' ⟨rfl, rfl⟩
          obtain ⟨T2, hT2⟩ : ∃ b, Hid (twiceB PN = b) := ⟨_, Lib.hid rfl⟩
          rw [hT2.out]
          cases T2 with
          | true =>
            have r0 := HR3.out 0 _ rfl
            have r1 := HR3.out 1 _ rfl
            have f0 := HF3.out 0
            have f1 := HF3.out 1
            go_wp2_with fail
            have hq := box2 (x0 := .int .i64 5) (x1 := .int .i64 0) HR3.out
            have q0 := hq 0 _ rfl
            have q1 := hq 1 _ rfl
            refine bodyPost_ret (v := .agg #[.int .i64 5, .int .i64 0]) (by simp [results, Try.results38, go_sem, q0, q1]) rfl ?_
            exact ⟨by rw [← hRR.out, scope_head hm1.out (head_procs (by rw [hPN.out]; exact hT2.out))], below2 HB3.out (by omega)⟩
          | false =>
            cases hat : at_ sMain PN with
            | none =>
              have hai : AI = -1 := by rw [← hAI.out]; exact atI_none hat
              have hpn : pcOf p.procs sMain = none := by rw [← hPN.out] at hat; exact pcs_none hat
              have HPNO := Lib.hid hpn
              subst hai
              clear hat hpn
              have r0 := HR3.out 0 _ rfl
              have r1 := HR3.out 1 _ rfl
              have f0 := HF3.out 0
              have f1 := HF3.out 1
              go_wp2_with fail
              have hq := box2 (x0 := .int .i64 5) (x1 := .int .i64 0) HR3.out
              have q0 := hq 0 _ rfl
              have q1 := hq 1 _ rfl
              refine bodyPost_ret (v := .agg #[.int .i64 5, .int .i64 0]) (by simp [results, Try.results38, go_sem, q0, q1]) rfl ?_
              exact ⟨by rw [← hRR.out, scope_head hm1.out (head_none HPNO.out)], below2 HB3.out (by omega)⟩
            | some m =>
              have hai : AI = (m : Int) := by rw [← hAI.out]; exact atI_some hat
              rw [← hPN.out] at hat
              obtain ⟨hlt, hpn⟩ := pcs_some hat
              have HPNO := Lib.hid hpn
              have hm0 : (0 : Int) ≤ (m : Int) := by omega
              have hmn : decide ((m : Int) < 0) = false := decide_eq_false (by omega)
              have hml : (m : Int) < (p.procs.length : Int) := by omega
              subst hai
              clear hat hpn
              obtain ⟨g, off, hvp, qv, vv, bv, fv, p0, p1, p2, p3, p4, hnm, hps, hvs, hbody, hfin⟩ := procs_at HP3.out.2 hlt
              cases hvp
              obtain ⟨f, hf⟩ : ∃ f, Hid (p.procs[m] = f) := ⟨_, Lib.hid rfl⟩
              rw [hf.out] at p0 hnm hps hvs hbody hfin
              obtain ⟨a1, c1, rfl, -, -⟩ := hps.form
              obtain ⟨a2, c2, rfl, -, -⟩ := hvs.form
              obtain ⟨a3, c3, rfl, -, -⟩ := hbody.form
              obtain ⟨a4, c4, rfl, -, -⟩ := hfin.form
              have e0 : w3.cell? ⟨g, off + m * 5, none⟩ = _ := p0
              have e1 : w3.cell? ⟨g, off + m * 5 + 1, none⟩ = _ := p1
              have e2 : w3.cell? ⟨g, off + m * 5 + 2, none⟩ = _ := p2
              have e3 : w3.cell? ⟨g, off + m * 5 + 3, none⟩ = _ := p3
              have e4 : w3.cell? ⟨g, off + m * 5 + 4, none⟩ = _ := p4
              have HNM := Lib.hid hnm
              have HH1 := Lib.hid hps
              have HH2 := Lib.hid hvs
              have HH3 := Lib.hid hbody
              have HH4 := Lib.hid hfin
              clear p0 p1 p2 p3 p4 hnm hps hvs hbody hfin
              rw [hf.out] at HPNO
              have hf1 := HROOM.out.own f (by rw [← hf.out]; exact List.getElem_mem hlt)
              have HHF := Lib.hid (head_some (by rw [← hT1.out]) (by rw [hPN.out, ← hT2.out]) HPNO.out)
              obtain ⟨T4, hT4⟩ : ∃ b, Hid (decide ((0 : Int) < (f.params.length : Int)) = b) := ⟨_, Lib.hid rfl⟩
              rw [hT4.out] at HHF
              have hT4' := hT4.out
              have hT4n : decide (0 < f.params.length) = T4 := by rw [← hT4.out]; simp
              cases T4 with
              | true =>
                have r0 := HR3.out 0 _ rfl
                have r1 := HR3.out 1 _ rfl
                have f0 := HF3.out 0
                have f1 := HF3.out 1
                go_wp2_with fail
                have hq := box2 (x0 := .int .i64 5) (x1 := .int .i64 0) HR3.out
                have q0 := hq 0 _ rfl
                have q1 := hq 1 _ rfl
                refine bodyPost_ret (v := .agg #[.int .i64 5, .int .i64 0]) (by simp [results, Try.results38, go_sem, q0, q1]) rfl ?_
                exact ⟨by rw [← hRR.out, scope_head hm1.out HHF.out], below2 HB3.out (by omega)⟩
              | false =>
                go_upto_region 12 with fail
                clear hT4' hT4n e0 e1 e2 e3 e4 hmn hm0 hml
                clear x0 x1
                have x0 := HX3.out 0 _ rfl
                have x1 := HX3.out 1 _ rfl
                go_wp2_with fail
                refine (new_any d p _ _ _ HP3.out HROOM.out.cnt HROOM.out.procs).mono ?_
                rintro e w4 ⟨Y, lov, hiv, sv, rows, rfl, hsh, hb4⟩
                have HSH4 := Lib.hid hsh
                have HB4 := Lib.hid (HB3.out.trans (hb4.mono HB3.out.size))
                have HX4 := Lib.hid (HX3.out.next hb4)
                have HR4 := Lib.hid (HR3.out.next hb4)
                have HF4 := Lib.hid (HF3.out.next hR3 hb4)
                have HP4 := Lib.hid (PrC.mono (cw_next hb4) HP3.out)
                have HN4 := Lib.hid (HN3.out.next hb4)
                have hR4 : R < w4.heap.size := by have := hb4.size; omega
                clear hsh hb4 x0 x1
                have x1 := HX4.out 1 _ rfl
                go_wp2_with fail
                clear x1
                obtain ⟨W4, hW4⟩ : ∃ x : World, x = w4 := ⟨_, rfl⟩
                subst hW4
                go_loopw [59] (fun i wr => ∃ k : Nat, k ≤ p.procs.length ∧ i = .int .i64 k ∧ (∀ j (hj : j < p.procs.length), j < k → pcFault p.globals PN p.procs[j] = none) ∧ Below W4.heap.size W4 wr) (fun i _ => (p.procs.length - intOf i).toNat)
                case atStart => exact ⟨0, by omega, rfl, fun j _ h => absurd h (by omega), Below.refl _ _⟩
                case round =>
                  obtain ⟨k, hk, rfl, hno, hbr⟩ := hrel
                  obtain ⟨w5, hw5⟩ : ∃ x : World, x = wr := ⟨_, rfl⟩
                  subst hw5
                  have HNO := Lib.hid hno
                  have HBR := Lib.hid hbr
                  have HP5 := Lib.hid (PrC.mono (cw_next hbr) HP4.out)
                  have HX5 := Lib.hid (HX4.out.next hbr)
                  have HR5 := Lib.hid (HR4.out.next hbr)
                  have HF5 := Lib.hid (HF4.out.next hR4 hbr)
                  have HN5 := Lib.hid (HN4.out.next hbr)
                  have HSH5 := Lib.hid (HSH4.out.next hbr)
                  have HB5 := Lib.hid (HB4.out.trans (hbr.mono HB4.out.size))
                  have hR5 : R < w5.heap.size := by have := hbr.size; omega
                  clear hno hbr
                  by_cases hlt : k < p.procs.length
                  · have hlt' : (k : Int) < (p.procs.length : Int) := by omega
                    have h0k : (0 : Int) ≤ (k : Int) := by omega
                    have HRO := Lib.hid (HROOM.out.own _ (List.getElem_mem hlt))
                    have HRS := Lib.hid (HROOM.out.said _ (List.getElem_mem hlt))
                    have hpart := part_sts p hlt
                    obtain ⟨g1, off1, hvp, qv, vv, bv, fv, p0, p1, p2, p3, p4, hnm, hps, hvs, hbody, hfin⟩ := procs_at HP5.out.2 hlt
                    cases hvp
                    obtain ⟨f1, hf1⟩ : ∃ f, Hid (p.procs[k] = f) := ⟨_, Lib.hid rfl⟩
                    rw [hf1.out] at p0 hnm hps hvs hbody hfin
                    obtain ⟨a11, c11, rfl, -, -⟩ := hps.form
                    obtain ⟨a21, c21, rfl, -, -⟩ := hvs.form
                    obtain ⟨a31, c31, rfl, -, -⟩ := hbody.form
                    obtain ⟨a41, c41, rfl, -, -⟩ := hfin.form
                    have e01 : w5.cell? ⟨g, off + k * 5, none⟩ = _ := p0
                    have e11 : w5.cell? ⟨g, off + k * 5 + 1, none⟩ = _ := p1
                    have e21 : w5.cell? ⟨g, off + k * 5 + 2, none⟩ = _ := p2
                    have e31 : w5.cell? ⟨g, off + k * 5 + 3, none⟩ = _ := p3
                    have e41 : w5.cell? ⟨g, off + k * 5 + 4, none⟩ = _ := p4
                    have HNM1 := Lib.hid hnm
                    have HH11 := Lib.hid hps
                    have HH21 := Lib.hid hvs
                    have HH31 := Lib.hid hbody
                    have HH41 := Lib.hid hfin
                    clear p0 p1 p2 p3 p4 hnm hps hvs hbody hfin
                    rw [hf1.out] at HRO HRS hpart
                    have HPART := Lib.hid hpart
                    clear hpart
                    go_upto_region 16 with fail
                    refine cut_world (fun wx => Below w5.heap.size w5 wx ∧ BoxAt wx w5.heap.size [.string f1.nm, .slice a11 f1.params.length c11, .slice a21 f1.vars.length c21, .slice a31 f1.body.length c31, .slice a41 f1.fin.length c41]) ⟨boxed w5 _, box_new w5 #[.string f1.nm, .slice a11 f1.params.length c11, .slice a21 f1.vars.length c21, .slice a31 f1.body.length c31, .slice a41 f1.fin.length c41] 55⟩ ?_
                    clear e01 e11 e21 e31 e41
                    rintro w6 ⟨hb6, hy6⟩
                    have HB6 := Lib.hid (HB5.out.trans (hb6.mono HB5.out.size))
                    have HBR6 := Lib.hid (HBR.out.trans (hb6.mono HBR.out.size))
                    have HX6 := Lib.hid (HX5.out.next hb6)
                    have HR6 := Lib.hid (HR5.out.next hb6)
                    have HF6 := Lib.hid (HF5.out.next hR5 hb6)
                    have HN6 := Lib.hid (HN5.out.next hb6)
                    have HSH6 := Lib.hid (HSH5.out.next hb6)
                    have HY6 := Lib.hid hy6
                    have HQ6 := Lib.hid (SlAt.imp HH11.out fun _ _ _ _ => PaAt.mono (cw_next hb6))
                    have HV6 := Lib.hid (StrsAt.next (StrC.to HH21.out) hb6)
                    have HG6 := Lib.hid (StrC.to (StrC.mono (cw_next hb6) HP5.out.1))
                    have hR6 : R < w6.heap.size := by have := hb6.size; omega
                    clear hb6 hy6
                    have y0 := HY6.out 0 _ rfl
                    have y1 := HY6.out 1 _ rfl
                    have y2 := HY6.out 2 _ rfl
                    have y3 := HY6.out 3 _ rfl
                    have y4 := HY6.out 4 _ rfl
                    have hro : f1.params.length + f1.vars.length ≤ 1000000 := by have := HRO.out; omega
                    have hrol : (ownNs f1).length ≤ 1000000 := by unfold ownNs; rw [List.length_append, List.length_map]; exact hro
                    go_wp2_with fail
                    refine (own_any f1 a11 a21 a31 a41 c11 c21 c31 c41 _ HQ6.out HV6.out hro).mono ?_
                    rintro e w7 ⟨ov, rfl, hrw7, hb7⟩
                    obtain ⟨OL, hOL⟩ : ∃ L, Hid (ownNs f1 = L) := ⟨_, Lib.hid rfl⟩
                    rw [hOL.out] at hrw7 hrol
                    have HO7 := Lib.hid (hrw7.strs (by omega))
                    have HB7 := Lib.hid (HB6.out.trans (hb7.mono HB6.out.size))
                    have HBR7 := Lib.hid (HBR6.out.trans (hb7.mono HBR6.out.size))
                    have HX7 := Lib.hid (HX6.out.next hb7)
                    have HR7 := Lib.hid (HR6.out.next hb7)
                    have HF7 := Lib.hid (HF6.out.next hR6 hb7)
                    have HN7 := Lib.hid (HN6.out.next hb7)
                    have HSH7 := Lib.hid (HSH6.out.next hb7)
                    have HY7 := Lib.hid (HY6.out.next hb7)
                    have HQ7 := Lib.hid (SlAt.imp HQ6.out fun _ _ _ _ => PaAt.mono (cw_next hb7))
                    have HV7 := Lib.hid (StrsAt.next HV6.out hb7)
                    have HG7 := Lib.hid (StrsAt.next HG6.out hb7)
                    have hR7 : R < w7.heap.size := by have := hb7.size; omega
                    clear hrw7 hb7 y0 y1 y2 y3 y4
                    go_wp2_with fail
                    refine (twice_any OL _ _ HO7.out).mono ?_
                    rintro e w' ⟨rfl, rfl⟩
                    obtain ⟨T5, hT5⟩ : ∃ b, Hid (twiceB OL = b) := ⟨_, Lib.hid rfl⟩
                    rw [hT5.out]
                    cases T5 with
                    | true =>
                      have r0 := HR7.out 0 _ rfl
                      have r1 := HR7.out 1 _ rfl
                      have f0 := HF7.out 0
                      have f1 := HF7.out 1
                      go_wp2_with fail
                      have hq := box2 (x0 := .int .i64 5) (x1 := .int .i64 0) HR7.out
                      have q0 := hq 0 _ rfl
                      have q1 := hq 1 _ rfl
                      refine bodyPost_ret (v := .agg #[.int .i64 5, .int .i64 0]) (by simp [results, Try.results38, go_sem, q0, q1]) rfl ?_
                      exact ⟨by rw [← hRR.out, scope_at hm1.out HHF.out hlt (fun j hj hjk => by rw [hPN.out]; exact HNO.out j hj hjk) (by rw [hf1.out]; exact pc_dup (by rw [hOL.out]; exact hT5.out))], below2 HB7.out (by omega)⟩
                    | false =>
                      go_wp2_with fail
                      refine (cfunc_any p.globals OL _ _ _ _ (HX7.out 0 _ rfl) HG7.out HO7.out).mono ?_
                      rintro e w' ⟨rfl, rfl⟩
                      obtain ⟨T6, hT6⟩ : ∃ b, Hid ((OL.any fun n => inB n p.globals) = b) := ⟨_, Lib.hid rfl⟩
                      rw [hT6.out]
                      cases T6 with
                      | true =>
                        have r0 := HR7.out 0 _ rfl
                        have r1 := HR7.out 1 _ rfl
                        have f0 := HF7.out 0
                        have f1 := HF7.out 1
                        go_wp2_with fail
                        have hq := box2 (x0 := .int .i64 5) (x1 := .int .i64 0) HR7.out
                        have q0 := hq 0 _ rfl
                        have q1 := hq 1 _ rfl
                        refine bodyPost_ret (v := .agg #[.int .i64 5, .int .i64 0]) (by simp [results, Try.results38, go_sem, q0, q1]) rfl ?_
                        exact ⟨by rw [← hRR.out, scope_at hm1.out HHF.out hlt (fun j hj hjk => by rw [hPN.out]; exact HNO.out j hj hjk) (by rw [hf1.out]; exact pc_in (by rw [hOL.out]; exact hT6.out))], below2 HB7.out (by omega)⟩
                      | false =>
                        go_wp2_with fail
                        refine (of_any _ d p Y _ _ _ _ _ rows k hlt _ HSH7.out HROOM.out.cnt).mono ?_
                        rintro e w8 ⟨pv8, rfl, hsl8, hb8⟩
                        obtain ⟨ia, ic, rfl, hil1, hil2⟩ := hsl8.form
                        have hil : (partOf p k).length ≤ 9223372036854775807 := Nat.le_trans hil1 hil2
                        obtain ⟨PT, hPT⟩ : ∃ L, Hid (partOf p k = L) := ⟨_, Lib.hid rfl⟩
                        rw [hPT.out] at hsl8 hil HPART
                        rw [hPT.out]
                        have HSL8 := Lib.hid (SlAt.imp hsl8 fun _ _ _ _ => FiAt.mono (cw_next hb8))
                        have HX8 := Lib.hid (HX7.out.next hb8)
                        have HR8 := Lib.hid (HR7.out.next hb8)
                        have HF8 := Lib.hid (HF7.out.next hR7 hb8)
                        have HN8 := Lib.hid (HN7.out.next hb8)
                        have HSH8 := Lib.hid (HSH7.out.next hb8)
                        have HY8 := Lib.hid (HY7.out.next hb8)
                        have HQ8 := Lib.hid (SlAt.imp HQ7.out fun _ _ _ _ => PaAt.mono (cw_next hb8))
                        have HV8 := Lib.hid (StrsAt.next HV7.out hb8)
                        have HG8 := Lib.hid (StrsAt.next HG7.out hb8)
                        have HB8 := Lib.hid (HB7.out.trans (hb8.mono HB7.out.size))
                        have hR8 : R < w8.heap.size := by have := hb8.size; omega
                        have HBR8 := Lib.hid (HBR7.out.trans (hb8.mono HBR7.out.size))
                        clear hsl8 hb8 hil1 hil2
                        go_wp2_with fail
                        obtain ⟨W8, hW8⟩ : ∃ x : World, x = w8 := ⟨_, rfl⟩
                        subst hW8
                        go_loopw [78] (fun i wr => ∃ q : Nat, q ≤ PT.length ∧ i = .int .i64 q ∧ (∀ j (hj : j < PT.length), j < q → knownS p.globals f1 PN PT[j].s = true) ∧ Below W8.heap.size W8 wr) (fun i _ => (PT.length - intOf i).toNat)
                        case atStart => exact ⟨0, by omega, rfl, fun j _ h => absurd h (by omega), Below.refl _ _⟩
                        case round =>
                          obtain ⟨q, hq, rfl, hnq, hbq⟩ := hrel
                          obtain ⟨w9, hw9⟩ : ∃ x : World, x = wr := ⟨_, rfl⟩
                          subst hw9
                          have HNQ := Lib.hid hnq
                          have HBQ := Lib.hid hbq
                          have HX9 := Lib.hid (HX8.out.next hbq)
                          have HR9 := Lib.hid (HR8.out.next hbq)
                          have HF9 := Lib.hid (HF8.out.next hR8 hbq)
                          have HN9 := Lib.hid (HN8.out.next hbq)
                          have HSH9 := Lib.hid (HSH8.out.next hbq)
                          have HY9 := Lib.hid (HY8.out.next hbq)
                          have HQ9 := Lib.hid (SlAt.imp HQ8.out fun _ _ _ _ => PaAt.mono (cw_next hbq))
                          have HV9 := Lib.hid (StrsAt.next HV8.out hbq)
                          have HG9 := Lib.hid (StrsAt.next HG8.out hbq)
                          have HB9 := Lib.hid (HB8.out.trans (hbq.mono HB8.out.size))
                          have hR9 : R < w9.heap.size := by have := hbq.size; omega
                          have HSL9 := Lib.hid (SlAt.imp HSL8.out fun _ _ _ _ => FiAt.mono (cw_next hbq))
                          have HBR9 := Lib.hid (HBR8.out.trans (hbq.mono HBR8.out.size))
                          clear hnq hbq
                          by_cases hlq : q < PT.length
                          · have hlq' : (q : Int) < (PT.length : Int) := by omega
                            have h0q : (0 : Int) ≤ (q : Int) := by omega
                            obtain ⟨gi, oi, hvi, hfi⟩ := its_at HSL9.out hlq
                            cases hvi
                            have hsd : (saidS PT[q].s).length ≤ 1000000 := by
                              have h1 : PT[q].s ∈ stsOf f1 := by rw [← HPART.out]; exact List.mem_map.2 ⟨_, List.getElem_mem hlq, rfl⟩
                              have := HRS.out _ h1
                              omega
                            obtain ⟨t, ht⟩ : ∃ t, Hid (PT[q] = t) := ⟨_, Lib.hid rfl⟩
                            rw [ht.out] at hfi hsd
                            obtain ⟨la, ka, aa, ta, ea, lc, kc, ac, tc, ec, hce, hha, hok, j1, j2, j3, j4, j5, j6, j7, j8⟩ := fi_open hfi
                            have HCE := Lib.hid hce
                            have HHA := Lib.hid hha
                            have HSD := Lib.hid hsd
                            have HOK := Lib.hid hok
                            clear hfi hce hha hsd hok j1 j2 j4 j5 j6 j7 j8
                            have HIN := Lib.hid (World.size_alloc w9 (.cells #[.int .i64 0, .int .i64 0, .slice none 0 0, .string ⟨#[]⟩, .string ⟨#[]⟩, .int .i64 0, .int .i64 0, .string ⟨#[]⟩, .slice none 0 0, .bool false, .slice none 0 0, .slice none 0 0, .slice none 0 0, .int .i64 0, .int .i64 0, .int .i64 0, .int .i64 0] 95))
                            have HI0 : Hid (BoxAt (w9.alloc (.cells #[.int .i64 0, .int .i64 0, .slice none 0 0, .string ⟨#[]⟩, .string ⟨#[]⟩, .int .i64 0, .int .i64 0, .string ⟨#[]⟩, .slice none 0 0, .bool false, .slice none 0 0, .slice none 0 0, .slice none 0 0, .int .i64 0, .int .i64 0, .int .i64 0, .int .i64 0] 95)) w9.heap.size [.int .i64 0, .int .i64 0, .slice none 0 0, .string ⟨#[]⟩, .string ⟨#[]⟩, .int .i64 0, .int .i64 0, .string ⟨#[]⟩, .slice none 0 0, .bool false, .slice none 0 0, .slice none 0 0, .slice none 0 0, .int .i64 0, .int .i64 0, .int .i64 0, .int .i64 0]) := Lib.hid (box_new w9 #[.int .i64 0, .int .i64 0, .slice none 0 0, .string ⟨#[]⟩, .string ⟨#[]⟩, .int .i64 0, .int .i64 0, .string ⟨#[]⟩, .slice none 0 0, .bool false, .slice none 0 0, .slice none 0 0, .slice none 0 0, .int .i64 0, .int .i64 0, .int .i64 0, .int .i64 0] 95)
                            have HF0 : Hid (Free (w9.alloc (.cells #[.int .i64 0, .int .i64 0, .slice none 0 0, .string ⟨#[]⟩, .string ⟨#[]⟩, .int .i64 0, .int .i64 0, .string ⟨#[]⟩, .slice none 0 0, .bool false, .slice none 0 0, .slice none 0 0, .slice none 0 0, .int .i64 0, .int .i64 0, .int .i64 0, .int .i64 0] 95)) w9.heap.size) := Lib.hid (fun j => by simp [go_sem])
                            have hzi := HIN.out
                            go_upto_region 22 with (first | refine wpList_load_mid rfl 95 (.tmp 80) rfl gi (oi + q * 17) rfl [.int .i64 t.s.id, .int .i64 t.s.kind, .slice la t.s.labels.length lc, .string t.s.nm, .string t.s.proc, .int .i64 t.s.x.op, .int .i64 t.s.x.n, .string t.s.x.nm, .slice ka t.s.x.ks.length kc, .bool t.s.has, .slice aa t.s.args.length ac, .slice ta t.s.thn.length tc, .slice ea t.s.els.length ec, .int .i64 t.proc, .int .i64 t.up, .int .i64 t.next, .int .i64 t.loop] _ (fun j v hv => HCE.out j v hv) Try.underlying95 rfl (by kernel_rfl) ?_ | refine wpList_store_mid rfl 95 (.tmp 12) (.tmp 81) rfl w9.heap.size 0 #[.int .i64 t.s.id, .int .i64 t.s.kind, .slice la t.s.labels.length lc, .string t.s.nm, .string t.s.proc, .int .i64 t.s.x.op, .int .i64 t.s.x.n, .string t.s.x.nm, .slice ka t.s.x.ks.length kc, .bool t.s.has, .slice aa t.s.args.length ac, .slice ta t.s.thn.length tc, .slice ea t.s.els.length ec, .int .i64 t.proc, .int .i64 t.up, .int .i64 t.next, .int .i64 t.loop] rfl rfl (box_there (n := 17) HI0.out HF0.out (by simp)) (by kernel_rfl) (by simp [Value.oneCell']) ?_)
                            refine cut_world (fun wx => Below w9.heap.size w9 wx ∧ BoxAt wx w9.heap.size [.int .i64 t.s.id, .int .i64 t.s.kind, .slice la t.s.labels.length lc, .string t.s.nm, .string t.s.proc, .int .i64 t.s.x.op, .int .i64 t.s.x.n, .string t.s.x.nm, .slice ka t.s.x.ks.length kc, .bool t.s.has, .slice aa t.s.args.length ac, .slice ta t.s.thn.length tc, .slice ea t.s.els.length ec, .int .i64 t.proc, .int .i64 t.up, .int .i64 t.next, .int .i64 t.loop]) ⟨setCells_below _ _ (boxed w9 _) (Nat.le_refl _), box_over (old := [.int .i64 0, .int .i64 0, .slice none 0 0, .string ⟨#[]⟩, .string ⟨#[]⟩, .int .i64 0, .int .i64 0, .string ⟨#[]⟩, .slice none 0 0, .bool false, .slice none 0 0, .slice none 0 0, .slice none 0 0, .int .i64 0, .int .i64 0, .int .i64 0, .int .i64 0]) (xs := [.int .i64 t.s.id, .int .i64 t.s.kind, .slice la t.s.labels.length lc, .string t.s.nm, .string t.s.proc, .int .i64 t.s.x.op, .int .i64 t.s.x.n, .string t.s.x.nm, .slice ka t.s.x.ks.length kc, .bool t.s.has, .slice aa t.s.args.length ac, .slice ta t.s.thn.length tc, .slice ea t.s.els.length ec, .int .i64 t.proc, .int .i64 t.up, .int .i64 t.next, .int .i64 t.loop]) (rest := []) HI0.out HF0.out rfl⟩ ?_
                            clear hzi HIN HI0 HF0
                            rintro wa ⟨hba, hia⟩
                            have HIA := Lib.hid hia
                            have HXA := Lib.hid (HX9.out.next hba)
                            have HRA := Lib.hid (HR9.out.next hba)
                            have HFA := Lib.hid (HF9.out.next hR9 hba)
                            have HNA := Lib.hid (HN9.out.next hba)
                            have HSHA := Lib.hid (HSH9.out.next hba)
                            have HYA := Lib.hid (HY9.out.next hba)
                            have HQA := Lib.hid (SlAt.imp HQ9.out fun _ _ _ _ => PaAt.mono (cw_next hba))
                            have HVA := Lib.hid (StrsAt.next HV9.out hba)
                            have HGA := Lib.hid (StrsAt.next HG9.out hba)
                            have HBA := Lib.hid (HB9.out.trans (hba.mono HB9.out.size))
                            have hRA : R < wa.heap.size := by have := hba.size; omega
                            have HBRA := Lib.hid (HBR9.out.trans (hba.mono HBR9.out.size))
                            have HBQA := Lib.hid (HBQ.out.trans (hba.mono HBQ.out.size))
                            have HHAA := Lib.hid (HHA.out wa (cw_next hba))
                            clear hba hia
                            have x0 := HXA.out 0 _ rfl
                            have x1 := HXA.out 1 _ rfl
                            have y0 := HYA.out 0 _ rfl
                            have y1 := HYA.out 1 _ rfl
                            have y2 := HYA.out 2 _ rfl
                            have y3 := HYA.out 3 _ rfl
                            have y4 := HYA.out 4 _ rfl
                            go_wp2_with (refine wpList_load_mid rfl 41 (.tmp 85) rfl w9.heap.size 0 rfl [.int .i64 t.s.id, .int .i64 t.s.kind, .slice la t.s.labels.length lc, .string t.s.nm, .string t.s.proc, .int .i64 t.s.x.op, .int .i64 t.s.x.n, .string t.s.x.nm, .slice ka t.s.x.ks.length kc, .bool t.s.has, .slice aa t.s.args.length ac, .slice ta t.s.thn.length tc, .slice ea t.s.els.length ec] _ (fun j v hv => by rw [Nat.zero_add]; exact HIA.out j v (by rw [← hv]; exact List.getElem?_append_left (l₁ := ([.int .i64 t.s.id, .int .i64 t.s.kind, .slice la t.s.labels.length lc, .string t.s.nm, .string t.s.proc, .int .i64 t.s.x.op, .int .i64 t.s.x.n, .string t.s.x.nm, .slice ka t.s.x.ks.length kc, .bool t.s.has, .slice aa t.s.args.length ac, .slice ta t.s.thn.length tc, .slice ea t.s.els.length ec] : List Value)) (l₂ := [.int .i64 t.proc, .int .i64 t.up, .int .i64 t.next, .int .i64 t.loop]) (List.getElem?_eq_some_iff.1 hv).1)) Try.underlying41 rfl (by kernel_rfl) ?_)
                            refine (known_any p.globals PN f1 _ _ _ a11 a21 a31 a41 c11 c21 c31 c41 d t.s la ka aa ta ea lc kc ac tc ec _ HGA.out HQA.out HVA.out HNA.out HHAA.out HOK.out j3 HSD.out).mono ?_
                            rintro e wb ⟨rfl, hbb⟩
                            obtain ⟨T7, hT7⟩ : ∃ b, Hid (knownS p.globals f1 PN t.s = b) := ⟨_, Lib.hid rfl⟩
                            rw [hT7.out]
                            clear x0 x1 y0 y1 y2 y3 y4
                            have HRB := Lib.hid (HRA.out.next hbb)
                            have HFB := Lib.hid (HFA.out.next hRA hbb)
                            have HBB := Lib.hid (HBA.out.trans (hbb.mono HBA.out.size))
                            have HBQB := Lib.hid (HBQA.out.trans (hbb.mono HBQA.out.size))
                            have hi0 := HIA.out.next hbb 0 _ rfl
                            clear hbb
                            cases T7 with
                            | false =>
                              have hsts : (stsOf f1)[q]? = some t.s := by rw [← HPART.out, List.getElem?_map, List.getElem?_eq_getElem hlq, ht.out]; rfl
                              obtain ⟨hq2, hq3⟩ := List.getElem?_eq_some_iff.1 hsts
                              have hpc : pcFault p.globals PN f1 = some t.s.id := by
                                rw [← hq3]
                                refine pc_st (by rw [hOL.out, hT5.out]) (by rw [hOL.out, hT6.out]) hq2 (fun j hj hjq => ?_) (by rw [hq3, hT7.out])
                                have h4 := HNQ.out j (by omega) hjq
                                have h5 : (stsOf f1)[j]? = some PT[j].s := by rw [← HPART.out, List.getElem?_map, List.getElem?_eq_getElem (by omega)]; rfl
                                obtain ⟨h6, h7⟩ := List.getElem?_eq_some_iff.1 h5
                                rw [h7]; exact h4
                              have HPC := Lib.hid hpc
                              clear hsts hq2 hq3 hpc
                              have r0 := HRB.out 0 _ rfl
                              have r1 := HRB.out 1 _ rfl
                              have f0 := HFB.out 0
                              have f1 := HFB.out 1
                              go_wp2_with fail
                              have hq := box2 (x0 := .int .i64 5) (x1 := .int .i64 t.s.id) HRB.out
                              have q0 := hq 0 _ rfl
                              have q1 := hq 1 _ rfl
                              refine bodyPost_ret (v := .agg #[.int .i64 5, .int .i64 t.s.id]) (by simp [results, Try.results38, go_sem, q0, q1]) rfl ?_
                              exact ⟨by rw [← hRR.out, scope_at hm1.out HHF.out hlt (fun j hj hjk => by rw [hPN.out]; exact HNO.out j hj hjk) (by rw [hf1.out, hPN.out]; exact HPC.out)], below2 HBB.out (by omega)⟩
                            | true =>
                              go_wp2_with fail
                              go_roundw
                              case rel =>
                                refine ⟨q + 1, by omega, by go_num, fun j hj hjk => ?_, HBQB.out⟩
                                rcases Nat.lt_or_ge j q with h | h
                                · exact HNQ.out j hj h
                                · obtain rfl : j = q := by omega
                                  rw [ht.out]; exact hT7.out
                              case measure => simp [intOf]; omega
                          · have hlq' : ¬ (q : Int) < (PT.length : Int) := by omega
                            have hpc : pcFault p.globals PN f1 = none := by
                              refine pc_ok (by rw [hOL.out, hT5.out]) (by rw [hOL.out, hT6.out]) fun j hj => ?_
                              have hlen : (stsOf f1).length = PT.length := by rw [← HPART.out, List.length_map]
                              have h4 := HNQ.out j (by omega) (by omega)
                              have h5 : (stsOf f1)[j]? = some PT[j].s := by rw [← HPART.out, List.getElem?_map, List.getElem?_eq_getElem (by omega)]; rfl
                              obtain ⟨h6, h7⟩ := List.getElem?_eq_some_iff.1 h5
                              rw [h7]; exact h4
                            have HPC := Lib.hid hpc
                            clear hpc
                            go_wp2_with fail
                            go_roundw
                            case rel =>
                              refine ⟨k + 1, by omega, by go_num, fun j hj hjk => ?_, HBR9.out⟩
                              rcases Nat.lt_or_ge j k with h | h
                              · exact HNO.out j hj h
                              · obtain rfl : j = k := by omega
                                rw [hf1.out]; exact HPC.out
                            case measure => simp [intOf]; omega
                  · have hlt' : ¬ (k : Int) < (p.procs.length : Int) := by omega
                    have hok : scopeP p = (0, 0) := scope_ok hm1.out HHF.out (fun j hj => by rw [hPN.out]; exact HNO.out j hj (by omega))
                    have HOK := Lib.hid hok
                    clear hok
                    have r0 := HR5.out 0 _ rfl
                    have r1 := HR5.out 1 _ rfl
                    have f0 := HF5.out 0
                    have f1 := HF5.out 1
                    go_wp2_with fail
                    have hq := box2 (x0 := .int .i64 0) (x1 := .int .i64 0) HR5.out
                    have q0 := hq 0 _ rfl
                    have q1 := hq 1 _ rfl
                    refine bodyPost_ret (v := .agg #[.int .i64 0, .int .i64 0]) (by simp [results, Try.results38, go_sem, q0, q1]) rfl ?_
                    exact ⟨by rw [← hRR.out, HOK.out], below2 HB5.out (by omega)⟩
end Go.Proofs.Ytghlmengcidmdaa.Tr
end
section
/- What scoped of the laws on scope tells: true. Conditions: none. -/
namespace Go.Proofs.Ytghlmengcidmdaa.Tr
open Go.RowKit Go.Proofs.Ytghlmengcidmdaa.Lx Go.Proofs.Ytghlmengcidmdaa.Wd
/-- The code of a fault, the place of a fault. -/
theorem run_code (c i : Int) (w : World) : (Instr.field 30 (.agg #[.int .i64 c, .int .i64 i]) 0).run Try.prog w = .ok (.int .i64 c) w := by kernel_rfl
theorem some_wt6 : wtPr someP ≤ 20000 := of_decide_eq_true (by kernel_rfl)
def someQ : Pc := ⟨sP, [⟨sX, false⟩, ⟨sY, true⟩], [], someBody, [sE]⟩
theorem some_pc : pcIn someP sP = some someQ := by kernel_rfl
theorem some_k1 : kindIn someP sP sY = 3 := by kernel_rfl
theorem some_k2 : kindIn someP sMain sV = 4 := by kernel_rfl
theorem some_vars : varsIn someP sP = [sG, sX, sY] := by kernel_rfl
theorem none_scope : scopeP ⟨[], []⟩ = (5, 0) := by kernel_rfl
set_option maxHeartbeats 1000000 in
set_option maxRecDepth 100000 in
theorem scoped_any (w : World) : Calls Try.prog 30 #[] w fun e w' => e = .returned (.bool true) ∧ Below w.heap.size w w' := by
  go_enter Try.func30, Try.ntmps30
  go_wp2_with fail
  refine (some_any _).mono ?_
  rintro e w1 ⟨gv, pv, rfl, hp, hb1⟩
  obtain ⟨ga, gc, rfl, -, -⟩ := hp.1.form
  obtain ⟨pa, pc, rfl, -, -⟩ := hp.2.form
  have HP1 := Lib.hid hp
  have HB1 := Lib.hid hb1
  clear hp hb1
  go_upto_region 2 with fail
  refine cut_world (fun wx => Below w1.heap.size w1 wx ∧ BoxAt wx w1.heap.size [.slice ga someP.globals.length gc, .slice pa someP.procs.length pc]) ⟨boxed w1 _, box_new w1 #[.slice ga someP.globals.length gc, .slice pa someP.procs.length pc] 25⟩ ?_
  rintro w2 ⟨hb2, hx2⟩
  have HX2 := Lib.hid hx2
  have HP2 := Lib.hid (PrC.mono (cw_next hb2) HP1.out)
  have HB2 := Lib.hid (HB1.out.trans (hb2.mono HB1.out.size))
  clear hb2 hx2
  have x0 := HX2.out 0 _ rfl
  have x1 := HX2.out 1 _ rfl
  go_wp2_with fail
  refine (sproc_any 3 someP _ _ sP _ HP2.out some_wt6).mono ?_
  rw [some_pc]
  rintro e w3 ⟨a1, a2, a3, a4, c1, c2, c3, c4, rfl, hh, hnm, hb3⟩
  have HX3 := Lib.hid (HX2.out.next hb3)
  have HP3 := Lib.hid (PrC.mono (cw_next hb3) HP2.out)
  have HB3 := Lib.hid (HB2.out.trans (hb3.mono HB2.out.size))
  clear hb3 x0 x1 hh hnm
  go_upto_region 3 with fail
  refine cut_world (fun wx => Below w3.heap.size w3 wx ∧ BoxAt wx w3.heap.size [.string someQ.nm, .slice a1 someQ.params.length c1, .slice a2 someQ.vars.length c2, .slice a3 someQ.body.length c3, .slice a4 someQ.fin.length c4]) ⟨boxed w3 _, box_new w3 #[.string someQ.nm, .slice a1 someQ.params.length c1, .slice a2 someQ.vars.length c2, .slice a3 someQ.body.length c3, .slice a4 someQ.fin.length c4] 55⟩ ?_
  rintro w4 ⟨hb4, hy4⟩
  have HY4 := Lib.hid hy4
  have HX4 := Lib.hid (HX3.out.next hb4)
  have HP4 := Lib.hid (PrC.mono (cw_next hb4) HP3.out)
  have HB4 := Lib.hid (HB3.out.trans (hb4.mono HB3.out.size))
  clear hb4 hy4
  have x0 := HX4.out 0 _ rfl
  have x1 := HX4.out 1 _ rfl
  go_wp2_with fail
  refine (skind_any 3 someP _ _ sP sY _ HP4.out).mono ?_
  rw [some_k1]
  rintro e w5 ⟨rfl, hb5⟩
  have HY5 := Lib.hid (HY4.out.next hb5)
  have HX5 := Lib.hid (HX4.out.next hb5)
  have HP5 := Lib.hid (PrC.mono (cw_next hb5) HP4.out)
  have HB5 := Lib.hid (HB4.out.trans (hb5.mono HB4.out.size))
  clear hb5 x0 x1
  have x0 := HX5.out 0 _ rfl
  have x1 := HX5.out 1 _ rfl
  go_wp2_with fail
  refine (skind_any 3 someP _ _ sMain sV _ HP5.out).mono ?_
  rw [some_k2]
  rintro e w6 ⟨rfl, hb6⟩
  have HY6 := Lib.hid (HY5.out.next hb6)
  have HX6 := Lib.hid (HX5.out.next hb6)
  have HP6 := Lib.hid (PrC.mono (cw_next hb6) HP5.out)
  have HB6 := Lib.hid (HB5.out.trans (hb6.mono HB5.out.size))
  clear hb6 x0 x1
  have x0 := HX6.out 0 _ rfl
  have x1 := HX6.out 1 _ rfl
  go_wp2_with fail
  refine (svars_any 3 someP _ _ sP _ HP6.out (RoomP.of (Nat.le_trans some_wt6 (by decide)))).mono ?_
  rw [some_vars]
  rintro e w7 ⟨v7, rfl, hr7, hb7⟩
  obtain ⟨va, vc, rfl⟩ := ownsForm hr7.1
  have HY7 := Lib.hid (HY6.out.next hb7)
  have HB7 := Lib.hid (HB6.out.trans (hb7.mono HB6.out.size))
  clear hb7 x0 x1 hr7
  have y3 : w7.cell? ⟨w3.heap.size, 3, none⟩ = some (.slice a3 3 c3) := HY7.out 3 _ rfl
  simp only [List.length_cons, List.length_nil]
  go_wp2_with fail
  refine (scheck_any 3 ⟨[], []⟩ _ _ _ ⟨SlAt.nil, SlAt.nil⟩ (RoomP.of (by unfold wtPr wtTs; simp))).mono ?_
  rw [none_scope]
  rintro e w8 ⟨rfl, hb8⟩
  have HB8 := Lib.hid (HB7.out.trans (hb8.mono HB7.out.size))
  clear hb8 y3
  have hfd := run_code 5 0
  go_wp2_with fail
  go_ret
  exact ⟨rfl, HB8.out⟩
end Go.Proofs.Ytghlmengcidmdaa.Tr
end
section
/- Two faults compared. No program's code. Conditions: none. -/
namespace Go.Proofs.Ytghlmengcidmdaa.Tr
open Go.RowKit
theorem fault_eq (a b c d : Int) (w : World) : (binOp .eql 30 (.agg #[.int .i64 a, .int .i64 b]) (.agg #[.int .i64 c, .int .i64 d])).run Try.prog w = .ok (.bool (a == c && b == d)) w := by
  simp only [go_sem]
  by_cases h1 : a = c <;> by_cases h2 : b = d <;> simp [go_sem, h1, h2]
theorem fault_same (a b : Int) (w : World) : (binOp .eql 30 (.agg #[.int .i64 a, .int .i64 b]) (.agg #[.int .i64 a, .int .i64 b])).run Try.prog w = .ok (.bool true) w := by
  rw [fault_eq]; simp
end Go.Proofs.Ytghlmengcidmdaa.Tr
end
section
/- What Mod of the reference computes: the rest, never below 0. Conditions: the divisor is at least 1 and at most 1000000. -/
namespace Go.Proofs.Ytghlmengcidmdaa.Tr
open Go.RowKit
theorem ret_i64 {a b : Int} (h : a = b) : Ending.returned (.int .i64 a) = .returned (.int .i64 b) := by rw [h]
theorem mod_any (n k r : Int) (w : World) (hn1 : -9223372036854775808 ≤ n) (hn2 : n ≤ 9223372036854775807) (hk1 : 1 ≤ k) (hk2 : k ≤ 1000000) (hr : n % k = r) :
    Calls Try.prog 28 #[.int .i64 n, .int .i64 k] w fun e w' => e = .returned (.int .i64 r) ∧ w = w' := by
  have h0 := Int.emod_nonneg n (b := k) (by omega)
  have h1 := Int.emod_lt_of_pos n (b := k) (by omega)
  have hk : ¬ k < 1 := by omega
  have HR := Lib.hid hr
  clear hr
  by_cases hneg : 0 ≤ n
  · have hr0 : decide (n % k < 0) = false := by simpa using h0
    go_enter Try.func28, Try.ntmps28
    go_wp2
    go_ret
    exact ⟨ret_i64 HR.out, rfl⟩
  · have ht := Int.tmod_eq_emod (a := n) (b := k)
    by_cases hz : n % k = 0
    · have hd : k ∣ n := Int.dvd_of_emod_eq_zero hz
      rw [if_pos (.inr hd), hz] at ht
      have HT : Hid (n.tmod k = 0) := Lib.hid (by omega)
      have hr0 : decide (n.tmod k < 0) = false := by rw [HT.out]; rfl
      have HZ := Lib.hid hz
      clear ht hd hz h0 h1
      go_enter Try.func28, Try.ntmps28
      go_wp2
      go_ret
      exact ⟨ret_i64 (by rw [HT.out, ← HR.out, HZ.out]), rfl⟩
    · have hd : ¬ k ∣ n := fun h => hz (Int.emod_eq_zero_of_dvd h)
      rw [if_neg (by simp; omega)] at ht
      have b1 : -1000000 ≤ n.tmod k := by omega
      have b2 : n.tmod k < 0 := by omega
      have b3 : n.tmod k + k = r := by have := HR.out; omega
      have HB := Lib.hid b3
      have hr0 : decide (n.tmod k < 0) = true := by simpa using b2
      have hsum : wrap64 (n.tmod k + k) = n.tmod k + k := IntWalk.wrap64_in _ (by omega)
      have HS := Lib.hid hsum
      clear ht hd hz h0 h1 b3 hsum
      go_enter Try.func28, Try.ntmps28
      go_wp2
      go_ret
      exact ⟨ret_i64 (by first | exact HB.out | (rw [HS.out]; exact HB.out)), rfl⟩
end Go.Proofs.Ytghlmengcidmdaa.Tr
end
