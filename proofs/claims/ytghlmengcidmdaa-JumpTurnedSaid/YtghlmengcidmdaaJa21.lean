/- Parts of JumpC, FaultEq, JumpingW: walks and plain laws that later texts use. Conditions: as each statement says. -/
import Derived.Test.YtghlmengcidmdaaJa0
import Derived.Test.YtghlmengcidmdaaJa1
import Derived.Test.YtghlmengcidmdaaJa2
import Derived.Test.YtghlmengcidmdaaJa3
import Derived.Test.YtghlmengcidmdaaJa4
import Derived.Test.YtghlmengcidmdaaJa5
import Derived.Test.YtghlmengcidmdaaJa6
import Derived.Test.YtghlmengcidmdaaJa7
import Derived.Test.YtghlmengcidmdaaJa8
import Derived.Test.YtghlmengcidmdaaJa9
import Derived.Test.YtghlmengcidmdaaJa10
import Derived.Test.YtghlmengcidmdaaJa11
import Derived.Test.YtghlmengcidmdaaJa12
import Derived.Test.YtghlmengcidmdaaJa13
import Derived.Test.YtghlmengcidmdaaJa14
import Derived.Test.YtghlmengcidmdaaJa15
import Derived.Test.YtghlmengcidmdaaJa16
import Derived.Test.YtghlmengcidmdaaJa17
import Derived.Test.YtghlmengcidmdaaJa18
import Derived.Test.YtghlmengcidmdaaJa19
import Derived.Test.YtghlmengcidmdaaJa20
import Derived.Outline
import Derived.IntWalk
import Derived.Deep.QuietTactic
import Derived.BigQuiet
import Derived.Deep.RegionWith
import Derived.Deep.DeepCutAuto
import Derived.Laws.Cover3
import Derived.Deep.RegionHeld3
import Derived.OwnWalk
import Derived.OneCell
import Derived.Deep.AppendLies
import Derived.Deep.RegionLaw
import Derived.Deep.CutBlock
import Derived.StillTailTactics
import Derived.WalkKit
import Derived.Test.YtghlmengcidmdaaRows
import Derived.WalkSpells
import Derived.Lib.Hide
import Derived.Below
import Derived.Laws.BitsAllLaws
import Derived.Laws.StructEq
import Derived.Maps.Range
import Derived.Lib.SmallJoins
import Derived.Deep.Upon
import Derived.Maps.AppendAt
import Derived.Laws.OwnMore
import Derived.WalkSmall
import Derived.RegionTactic
import Derived.Deep.Slices
import Derived.Deep.Fields
import Derived.SliceStrings
import Derived.ChangeSlices
import Derived.OrdersHeld
import Derived.Deep.MidRow
section
/- What Check of jump tells: the first fault of jumps. Conditions: the program lies in memory, and there is room. -/
namespace Go.Proofs.Ytghlmengcidmdaa.Tr
open Go.RowKit Go.Proofs.Ytghlmengcidmdaa.Lx Go.Proofs.Ytghlmengcidmdaa.Wd
set_option linter.unusedSimpArgs false
theorem lab_low {C : Cs} {d g o : Nat} {t : Fi} {w : World} (hC : Cs.le C (cw w)) (h : FiAt C d g o t) {v : Value} (hv : C g (o + 2) v) : StrC C v t.s.labels := by
  obtain ⟨⟨lv, av, tv, ev, p0, p1, p2, p3, p4, p5, p9, p10, p11, p12, j1, j2, j3, j4, hl1, -⟩, -⟩ := h
  have e : lv = v := by
    have h1 : w.cell? ⟨g, o + 2, none⟩ = some lv := hC _ _ _ p2
    have h2 : w.cell? ⟨g, o + 2, none⟩ = some v := hC _ _ _ hv
    rw [h1] at h2
    exact Option.some.inj h2
  rw [← e]
  exact hl1
set_option maxHeartbeats 8000000 in
set_option maxRecDepth 100000 in
theorem jcheck_any (d : Nat) (p : Pr) (gv pv : Value) (w : World) (hp : PrC (cw w) d gv pv p) (hroom : RoomP p) :
    Calls Try.prog 52 #[.agg #[gv, pv]] w (FaultIs (jumpP p) w) := by
  have HROOM := Lib.hid hroom
  clear hroom
  obtain ⟨ga, gc, rfl, hgl1, hgl2⟩ := hp.1.form
  obtain ⟨pa, pc, rfl, hl1, hl2⟩ := hp.2.form
  have hpl : p.procs.length ≤ 9223372036854775807 := Nat.le_trans hl1 hl2
  have HP := Lib.hid hp
  clear hp hl1 hl2 hgl1 hgl2
  obtain ⟨RR, hRR⟩ : ∃ r, Hid (jumpP p = r) := ⟨_, Lib.hid rfl⟩
  rw [hRR.out]
  go_enter Try.func52, Try.ntmps52
  go_upto_region 1 with fail
  refine cut_world (fun wx => Below w.heap.size w wx ∧ wx.heap.size = w.heap.size + 1 + 1 ∧ BoxAt wx w.heap.size [.slice ga p.globals.length gc, .slice pa p.procs.length pc] ∧ BoxAt wx (w.heap.size + 1) [.int .i64 0, .int .i64 0] ∧ Free wx (w.heap.size + 1)) ⟨(boxed w _).alloc (by simp) _, by simp, (box_new w #[.slice ga p.globals.length gc, .slice pa p.procs.length pc] 25).next (boxed _ _), box_two w _ #[.int .i64 0, .int .i64 0] 30, free_two w _ _ _⟩ ?_
  rintro w1 ⟨hb1, hz1', hx1, hr1, hf1⟩
  obtain ⟨R, hR⟩ : ∃ R, R = w.heap.size + 1 := ⟨_, rfl⟩
  rw [← hR] at hr1 hf1
  try rw [← hR]
  have hRw : w.heap.size < R := by omega
  have hR1 : R < w1.heap.size := by omega
  have HB1 := Lib.hid hb1
  have HX1 := Lib.hid hx1
  have HR1 := Lib.hid hr1
  have HF1 := Lib.hid hf1
  have HP1 := Lib.hid (PrC.mono (cw_next hb1) HP.out)
  clear hb1 hx1 hr1 hf1 hz1' hR
  have x0 := HX1.out 0 _ rfl
  have x1 := HX1.out 1 _ rfl
  go_wp2_with fail
  refine (jsheet_any d p _ _ _ HP1.out HROOM.out).mono ?_
  intro e w2 htold
  unfold SheetTold at htold
  by_cases hz : (scopeP p).1 = 0
  · rw [if_pos hz] at htold
    obtain ⟨Y, rfl, hst, hb2⟩ := htold
    have HMAY := Lib.hid (scope_code hz).1
    have HYES : Hid (jumpP p = jumpAt p) := Lib.hid (by unfold jumpP; rw [if_pos hz])
    have HS2 := Lib.hid hst
    have HX2 := Lib.hid (HX1.out.next hb2)
    have HR2 := Lib.hid (HR1.out.next hb2)
    have HF2 := Lib.hid (HF1.out.next hR1 hb2)
    have HP2 := Lib.hid (PrC.mono (cw_next hb2) HP1.out)
    have HB2 := Lib.hid (HB1.out.trans (hb2.mono HB1.out.size))
    have hR2 : R < w2.heap.size := by have := hb2.size; omega
    clear hb2 hst hz x0 x1
    have x1 := HX2.out 1 _ rfl
    go_wp2_with fail
    clear x1
    obtain ⟨W2, hW2⟩ : ∃ x : World, x = w2 := ⟨_, rfl⟩
    subst hW2
    go_loopw [18] (fun i wr => ∃ k : Nat, k ≤ p.procs.length ∧ i = .int .i64 k ∧ (∀ j (hj : j < p.procs.length), j < k → pcJump p.procs[j] = none) ∧ Below W2.heap.size W2 wr) (fun i _ => (p.procs.length - intOf i).toNat)
    case atStart => exact ⟨0, by omega, rfl, fun j _ h => absurd h (by omega), Below.refl _ _⟩
    case round =>
      obtain ⟨k, hk, rfl, hno, hbr⟩ := hrel
      obtain ⟨w3, hw3⟩ : ∃ x : World, x = wr := ⟨_, rfl⟩
      subst hw3
      have HNO := Lib.hid hno
      have HBR3 := Lib.hid hbr
      have HS3 := Lib.hid (HS2.out.next hbr)
      have HX3 := Lib.hid (HX2.out.next hbr)
      have HR3 := Lib.hid (HR2.out.next hbr)
      have HF3 := Lib.hid (HF2.out.next hR2 hbr)
      have HP3 := Lib.hid (PrC.mono (cw_next hbr) HP2.out)
      have HB3 := Lib.hid (HB2.out.trans (hbr.mono HB2.out.size))
      have hR3 : R < w3.heap.size := by have := hbr.size; omega
      clear hno hbr
      by_cases hlt : k < p.procs.length
      · have hlt' : (k : Int) < (p.procs.length : Int) := by omega
        have h0k : (0 : Int) ≤ (k : Int) := by omega
        obtain ⟨g, off, hvp, qv, vv, bv, fv, p0, p1, p2, p3, p4, hnm, hps, hvs, hbody, hfin⟩ := procs_at HP3.out.2 hlt
        cases hvp
        obtain ⟨f, hf⟩ : ∃ f, Hid (p.procs[k] = f) := ⟨_, Lib.hid rfl⟩
        rw [hf.out] at p0 hnm hps hvs hbody hfin
        obtain ⟨a1, c1, rfl, -, -⟩ := hps.form
        obtain ⟨a2, c2, rfl, -, -⟩ := hvs.form
        obtain ⟨a3, c3, rfl, -, -⟩ := hbody.form
        obtain ⟨a4, c4, rfl, -, -⟩ := hfin.form
        have e0 : w3.cell? ⟨g, off + k * 5, none⟩ = _ := p0
        have e1 : w3.cell? ⟨g, off + k * 5 + 1, none⟩ = _ := p1
        have e2 : w3.cell? ⟨g, off + k * 5 + 2, none⟩ = _ := p2
        have e3 : w3.cell? ⟨g, off + k * 5 + 3, none⟩ = _ := p3
        have e4 : w3.cell? ⟨g, off + k * 5 + 4, none⟩ = _ := p4
        have HNM := Lib.hid hnm
        have HH1 := Lib.hid hps
        have HH2 := Lib.hid hvs
        have HH3 := Lib.hid hbody
        have HH4 := Lib.hid hfin
        clear p0 p1 p2 p3 p4 hnm hps hvs hbody hfin
        have HK := Lib.hid hf.out
        have HMEM : Hid (f ∈ p.procs) := Lib.hid (by rw [← hf.out]; exact List.getElem_mem hlt)
        go_upto_region 7 with fail
        refine cut_world (fun wx => Below w3.heap.size w3 wx ∧ BoxAt wx w3.heap.size [.string f.nm, .slice a1 f.params.length c1, .slice a2 f.vars.length c2, .slice a3 f.body.length c3, .slice a4 f.fin.length c4]) ⟨boxed w3 _, box_new w3 #[.string f.nm, .slice a1 f.params.length c1, .slice a2 f.vars.length c2, .slice a3 f.body.length c3, .slice a4 f.fin.length c4] 55⟩ ?_
        clear e0 e1 e2 e3 e4
        rintro w4 ⟨hb4, hy4⟩
        have HY4 := Lib.hid hy4
        have HS4 := Lib.hid (HS3.out.next hb4)
        have HE4 := Lib.hid (StrC.mono (cw_next hb4) HH4.out)
        have HX4 := Lib.hid (HX3.out.next hb4)
        have HR4 := Lib.hid (HR3.out.next hb4)
        have HF4 := Lib.hid (HF3.out.next hR3 hb4)
        have HP4 := Lib.hid (PrC.mono (cw_next hb4) HP3.out)
        have HB4 := Lib.hid (HB3.out.trans (hb4.mono HB3.out.size))
        have HBR4 := Lib.hid (HBR3.out.trans (hb4.mono HBR3.out.size))
        have hR4 : R < w4.heap.size := by have := hb4.size; omega
        clear hb4 hy4
        obtain ⟨B, gv2, pv2, lov, hiv, v, rows, hsh, -⟩ := HS4.out
        go_wp2_with fail
        refine (of_any B d p Y _ _ _ _ _ _ k hlt _ hsh HROOM.out.cnt).mono ?_
        rintro e w5 ⟨sv, rfl, hsl, hb5⟩
        have hparts := part_sts p hlt
        have hpl2 := fun q t h => part_loop HMAY.out hlt (q := q) (t := t) h
        rw [hf.out] at hparts
        simp only [hf.out] at hpl2
        obtain ⟨PT, hPT⟩ : ∃ L, Hid (partOf p k = L) := ⟨_, Lib.hid rfl⟩
        rw [hPT.out] at hsl hparts
        simp only [hPT.out] at hpl2
        obtain ⟨ia, ic, rfl, hil1, hil2⟩ := hsl.form
        have hil : PT.length ≤ 9223372036854775807 := Nat.le_trans hil1 hil2
        have HL5 := Lib.hid (SlAt.imp hsl fun _ _ _ _ => FiAt.mono (cw_next hb5))
        have HPART := Lib.hid hparts
        have HPL := Lib.hid hpl2
        have HS5 := Lib.hid (HS4.out.next hb5)
        have HE5 := Lib.hid (StrC.mono (cw_next hb5) HE4.out)
        have hroomf : (labsOf f).length ≤ 300000 := HROOM.out.labs f HMEM.out
        have HRF := Lib.hid hroomf
        have HX5 := Lib.hid (HX4.out.next hb5)
        have HR5 := Lib.hid (HR4.out.next hb5)
        have HF5 := Lib.hid (HF4.out.next hR4 hb5)
        have HP5 := Lib.hid (PrC.mono (cw_next hb5) HP4.out)
        have HB5 := Lib.hid (HB4.out.trans (hb5.mono HB4.out.size))
        have HBR5 := Lib.hid (HBR4.out.trans (hb5.mono HBR4.out.size))
        have HY5 := Lib.hid (HY4.out.next hb5)
        have hR5 : R < w5.heap.size := by have := hb5.size; omega
        clear hsl hb5 hil1 hil2 hparts hsh hpl2 hroomf
        have hltot : ∀ k, (labLs ((stsOf f).take k)).length ≤ 300000 := fun k => by
          have h1 := HRF.out
          unfold labsOf at h1
          rw [List.length_append] at h1
          have h2 : (labLs (stsOf f)).length = (labLs ((stsOf f).take k)).length + (labLs ((stsOf f).drop k)).length := by
            rw [← List.length_append, ← labLs_append, List.take_append_drop]
          omega
        have HLTOT := Lib.hid hltot
        clear hltot
        go_wp2_with fail
        obtain ⟨W5, hW5⟩ : ∃ x : World, x = w5 := ⟨_, rfl⟩
        subst hW5
        have hR5' : R < W5.heap.size := hR5
        go_loopw [27, 6] (fun i v wr => ∃ (q : Nat) (v0 : Value), q ≤ PT.length ∧ i = .int .i64 q ∧ v = v0 ∧ RowS W5.heap.size wr v0 (labLs ((stsOf f).take q)) ∧ twiceB (labLs ((stsOf f).take q)) = false ∧ pcJump f = jumpGo f (labLs ((stsOf f).take q)) (((stsOf f).zip (loopsOf f)).drop q) ∧ Below W5.heap.size W5 wr) (fun i _ _ => (PT.length - intOf i).toNat)
        case atStart => exact ⟨0, _, by omega, rfl, rfl, RowS.nil _ _, rfl, rfl, Below.refl _ _⟩
        case round =>
          obtain ⟨q, v0, hq, rfl, rfl, hrq, htq, hjq, hbq⟩ := hrel
          obtain ⟨w6, hw6⟩ : ∃ x : World, x = wr := ⟨_, rfl⟩
          subst hw6
          have HL6' := Lib.hid (SlAt.imp HL5.out fun _ _ _ _ => FiAt.mono (Cs.le_trans low_all (low_next hbq)))
          have HRS6 := Lib.hid hrq
          have HTQ := Lib.hid htq
          have HJQ := Lib.hid hjq
          have HBL6 := Lib.hid hbq
          have HS6 := Lib.hid (HS5.out.next hbq)
          have HE6 := Lib.hid (StrC.mono (low_next (B := W5.heap.size) hbq) (StrC.mono low_all HE5.out))
          have HX6 := Lib.hid (HX5.out.next HBL6.out)
          have HR6 := Lib.hid (HR5.out.next HBL6.out)
          have HF6 := Lib.hid (HF5.out.next hR5 HBL6.out)
          have HP6 := Lib.hid (PrC.mono (cw_next HBL6.out) HP5.out)
          have HB6 := Lib.hid (HB5.out.trans (HBL6.out.mono HB5.out.size))
          have HBR6 := Lib.hid (HBR5.out.trans (HBL6.out.mono HBR5.out.size))
          have HY6 := Lib.hid (HY5.out.next HBL6.out)
          have hR6 : R < w6.heap.size := by have := HBL6.out.size; omega
          obtain ⟨va6, vc6, rfl⟩ := ownsForm hrq.1
          have hWs : W5.heap.size ≤ w6.heap.size := hbq.size
          clear hrq hbq htq hjq
          by_cases hlq : q < PT.length
          · have hlq' : (q : Int) < (PT.length : Int) := by omega
            have h0q : (0 : Int) ≤ (q : Int) := by omega
            obtain ⟨gi, oi, hvi, hfi⟩ := its_at HL6'.out hlq
            cases hvi
            obtain ⟨hlp, htp, hts⟩ := HPL.out q PT[q] (List.getElem?_eq_getElem hlq)
            have hstep := jump_step hts hlp HJQ.out
            have hst : labLs ((stsOf f).take (q + 1)) = labLs ((stsOf f).take q) ++ PT[q].s.labels := by
              obtain ⟨h1, h2⟩ := List.getElem?_eq_some_iff.1 hts
              rw [List.take_succ_eq_append_getElem h1, labLs_append, h2]
              congr 1
              unfold labLs; simp
            have hl1 := HLTOT.out (q + 1)
            rw [hst, List.length_append] at hl1
            obtain ⟨t, ht⟩ : ∃ t, Hid (PT[q] = t) := ⟨_, Lib.hid rfl⟩
            rw [ht.out] at hfi hst hl1 htp hstep
            obtain ⟨LK, hLK⟩ : ∃ L, Hid (labLs ((stsOf f).take q) = L) := ⟨_, Lib.hid rfl⟩
            rw [hLK.out] at hst hl1 HRS6 HTQ hstep
            try rw [hLK.out]
            have HST := Lib.hid hst
            have HSTEP := Lib.hid hstep
            have HTP := Lib.hid htp
            obtain ⟨la, ka, aa, ta, ea, lc, kc, ac, tc, ec, hrest⟩ := fi_open hfi
            have HCE := Lib.hid hrest.1
            have HLB : Hid (StrC (lowC W5.heap.size w6) (.slice la t.s.labels.length lc) t.s.labels) := Lib.hid (lab_low only_out hfi (hrest.1 2 _ rfl))
            clear hfi hrest hst hstep hlp htp hts
            have HI0 : Hid (BoxAt (w6.alloc (.cells #[.int .i64 0, .int .i64 0, .slice none 0 0, .string ⟨#[]⟩, .string ⟨#[]⟩, .int .i64 0, .int .i64 0, .string ⟨#[]⟩, .slice none 0 0, .bool false, .slice none 0 0, .slice none 0 0, .slice none 0 0, .int .i64 0, .int .i64 0, .int .i64 0, .int .i64 0] 95)) w6.heap.size [.int .i64 0, .int .i64 0, .slice none 0 0, .string ⟨#[]⟩, .string ⟨#[]⟩, .int .i64 0, .int .i64 0, .string ⟨#[]⟩, .slice none 0 0, .bool false, .slice none 0 0, .slice none 0 0, .slice none 0 0, .int .i64 0, .int .i64 0, .int .i64 0, .int .i64 0]) := Lib.hid (box_new w6 #[.int .i64 0, .int .i64 0, .slice none 0 0, .string ⟨#[]⟩, .string ⟨#[]⟩, .int .i64 0, .int .i64 0, .string ⟨#[]⟩, .slice none 0 0, .bool false, .slice none 0 0, .slice none 0 0, .slice none 0 0, .int .i64 0, .int .i64 0, .int .i64 0, .int .i64 0] 95)
            have HF0 : Hid (Free (w6.alloc (.cells #[.int .i64 0, .int .i64 0, .slice none 0 0, .string ⟨#[]⟩, .string ⟨#[]⟩, .int .i64 0, .int .i64 0, .string ⟨#[]⟩, .slice none 0 0, .bool false, .slice none 0 0, .slice none 0 0, .slice none 0 0, .int .i64 0, .int .i64 0, .int .i64 0, .int .i64 0] 95)) w6.heap.size) := Lib.hid (fun j => by simp [go_sem])
            have hzi := World.size_alloc w6 (.cells #[.int .i64 0, .int .i64 0, .slice none 0 0, .string ⟨#[]⟩, .string ⟨#[]⟩, .int .i64 0, .int .i64 0, .string ⟨#[]⟩, .slice none 0 0, .bool false, .slice none 0 0, .slice none 0 0, .slice none 0 0, .int .i64 0, .int .i64 0, .int .i64 0, .int .i64 0] 95)
            go_upto_region 12 with (first | refine wpList_load_mid rfl 95 (.tmp 29) rfl gi (oi + q * 17) rfl [.int .i64 t.s.id, .int .i64 t.s.kind, .slice la t.s.labels.length lc, .string t.s.nm, .string t.s.proc, .int .i64 t.s.x.op, .int .i64 t.s.x.n, .string t.s.x.nm, .slice ka t.s.x.ks.length kc, .bool t.s.has, .slice aa t.s.args.length ac, .slice ta t.s.thn.length tc, .slice ea t.s.els.length ec, .int .i64 t.proc, .int .i64 t.up, .int .i64 t.next, .int .i64 t.loop] _ (fun j v hv => (HCE.out j v hv).2) Try.underlying95 rfl (by kernel_rfl) ?_ | refine wpList_store_mid rfl 95 (.tmp 9) (.tmp 30) rfl w6.heap.size 0 #[.int .i64 t.s.id, .int .i64 t.s.kind, .slice la t.s.labels.length lc, .string t.s.nm, .string t.s.proc, .int .i64 t.s.x.op, .int .i64 t.s.x.n, .string t.s.x.nm, .slice ka t.s.x.ks.length kc, .bool t.s.has, .slice aa t.s.args.length ac, .slice ta t.s.thn.length tc, .slice ea t.s.els.length ec, .int .i64 t.proc, .int .i64 t.up, .int .i64 t.next, .int .i64 t.loop] rfl rfl (box_there (n := 17) HI0.out HF0.out (by simp)) (by kernel_rfl) (by simp [Value.oneCell']) ?_)
            refine cut_world (fun wx => Below w6.heap.size w6 wx ∧ BoxAt wx w6.heap.size [.int .i64 t.s.id, .int .i64 t.s.kind, .slice la t.s.labels.length lc, .string t.s.nm, .string t.s.proc, .int .i64 t.s.x.op, .int .i64 t.s.x.n, .string t.s.x.nm, .slice ka t.s.x.ks.length kc, .bool t.s.has, .slice aa t.s.args.length ac, .slice ta t.s.thn.length tc, .slice ea t.s.els.length ec, .int .i64 t.proc, .int .i64 t.up, .int .i64 t.next, .int .i64 t.loop]) ⟨setCells_below _ _ (boxed w6 _) (Nat.le_refl _), box_over (old := [.int .i64 0, .int .i64 0, .slice none 0 0, .string ⟨#[]⟩, .string ⟨#[]⟩, .int .i64 0, .int .i64 0, .string ⟨#[]⟩, .slice none 0 0, .bool false, .slice none 0 0, .slice none 0 0, .slice none 0 0, .int .i64 0, .int .i64 0, .int .i64 0, .int .i64 0]) (xs := [.int .i64 t.s.id, .int .i64 t.s.kind, .slice la t.s.labels.length lc, .string t.s.nm, .string t.s.proc, .int .i64 t.s.x.op, .int .i64 t.s.x.n, .string t.s.x.nm, .slice ka t.s.x.ks.length kc, .bool t.s.has, .slice aa t.s.args.length ac, .slice ta t.s.thn.length tc, .slice ea t.s.els.length ec, .int .i64 t.proc, .int .i64 t.up, .int .i64 t.next, .int .i64 t.loop]) (rest := []) HI0.out HF0.out rfl⟩ ?_
            clear hzi HI0 HF0
            rintro wa ⟨hba, hta⟩
            have t2 := hta 2 _ rfl
            have HTA := Lib.hid hta
            have HRSA := Lib.hid (HRS6.out.next hba)
            have HLA := Lib.hid (StrC.mono (low_next hba) HLB.out)
            have HBLA := Lib.hid (HBL6.out.trans (hba.mono HBL6.out.size))
            have hWa : W5.heap.size ≤ wa.heap.size := HBLA.out.size
            have hTW : W5.heap.size ≤ w6.heap.size := hWs
            clear hba hta
            go_wp2_with fail
            refine (join_any W5.heap.size LK t.s.labels _ _ _ HRSA.out hWa HLA.out (by omega) HTQ.out).mono ?_
            rintro e wb ⟨v', rfl, hrs, hgr, na, nn, nc, rfl⟩
            have hbb : Below W5.heap.size W5 wb := HBLA.out.grown hgr.1 HBLA.out.size (fun x hx => (HRSA.out.lt x hx).1)
            obtain ⟨TB, hTB⟩ : ∃ b, Hid (twiceB (LK ++ t.s.labels) = b) := ⟨_, Lib.hid rfl⟩
            rw [hTB.out]
            have HRSB := Lib.hid hrs
            have HBLB := Lib.hid hbb
            have hWb : W5.heap.size ≤ wb.heap.size := hbb.size
            have HTB := Lib.hid (HTA.out.grown hgr.1 fun e => by have := (HRS6.out.lt _ e.symm).2; omega)
            have HSB := Lib.hid (HS5.out.next hbb)
            have HXB := Lib.hid (HX5.out.next hbb)
            have HRB := Lib.hid (HR5.out.next hbb)
            have HFB := Lib.hid (HF5.out.next hR5 hbb)
            have HPB := Lib.hid (PrC.mono (cw_next hbb) HP5.out)
            have HBB := Lib.hid (HB5.out.trans (hbb.mono HB5.out.size))
            have HBRB := Lib.hid (HBR5.out.trans (hbb.mono HBR5.out.size))
            have hRB : R < wb.heap.size := by have := hbb.size; omega
            clear hgr hrs hbb t2
            cases TB with
            | true =>
              have hans : pcJump f = some t.s.id := by rw [HSTEP.out, hTB.out]; simp
              have hj : jumpAt p = (7, t.s.id) := jump_at hlt (fun j hj hjk => HNO.out j hj hjk) (by rw [hf.out]; exact hans)
              have HJ := Lib.hid hj
              have t0 := HTB.out 0 _ rfl
              clear hans hj
              simp only [Bool.not_true]
              have r0 := HRB.out 0 _ rfl
              have r1 := HRB.out 1 _ rfl
              have f0 := HFB.out 0
              have f1 := HFB.out 1
              go_wp2_with fail
              have hq := box2 (x0 := .int .i64 7) (x1 := .int .i64 t.s.id) HRB.out
              have q0 := hq 0 _ rfl
              have q1 := hq 1 _ rfl
              refine bodyPost_ret (v := .agg #[.int .i64 7, .int .i64 t.s.id]) (by simp [results, Try.results52, go_sem, q0, q1]) rfl ?_
              exact ⟨by rw [← hRR.out, HYES.out, HJ.out], below2 HBB.out (by omega)⟩
            | false =>
              have t0 := HTB.out 0 _ rfl
              simp only [Bool.not_false]
              have t1 := HTB.out 1 _ rfl
              have t2 := HTB.out 2 _ rfl
              have t3 := HTB.out 3 _ rfl
              have t4 := HTB.out 4 _ rfl
              have t5 := HTB.out 5 _ rfl
              have t6 := HTB.out 6 _ rfl
              have t7 := HTB.out 7 _ rfl
              have t8 := HTB.out 8 _ rfl
              have t9 := HTB.out 9 _ rfl
              have t10 := HTB.out 10 _ rfl
              have t11 := HTB.out 11 _ rfl
              have t12 := HTB.out 12 _ rfl
              have t13 := HTB.out 13 _ rfl
              have t14 := HTB.out 14 _ rfl
              have t15 := HTB.out 15 _ rfl
              have t16 := HTB.out 16 _ rfl
              go_wp2_with fail
              refine (leads_any d p Y k hlt f hf.out t HTP.out la ka aa ta ea lc kc ac tc ec _ HSB.out HROOM.out.cnt).mono ?_
              rintro e wc ⟨rfl, hbc⟩
              obtain ⟨LB, hLB⟩ : ∃ b, Hid (leadsP f t.s t.loop = b) := ⟨_, Lib.hid rfl⟩
              rw [hLB.out]
              have HTC := Lib.hid (HTB.out.next hbc)
              have HXC := Lib.hid (HXB.out.next hbc)
              have HRC := Lib.hid (HRB.out.next hbc)
              have HFC := Lib.hid (HFB.out.next hRB hbc)
              have HPC := Lib.hid (PrC.mono (cw_next hbc) HPB.out)
              have HBC := Lib.hid (HBB.out.trans (hbc.mono HBB.out.size))
              have HBRC := Lib.hid (HBRB.out.trans (hbc.mono HBRB.out.size))
              have hRC : R < wc.heap.size := by have := hbc.size; omega
              have HBLC := Lib.hid (HBLB.out.trans (hbc.mono HBLB.out.size))
              have HRSC := Lib.hid ((HRSB.out hTB.out).next hbc)
              clear hbc t0 t1 t2 t3 t4 t5 t6 t7 t8 t9 t10 t11 t12 t13 t14 t15 t16
              cases LB with
              | false =>
                have hans : pcJump f = some t.s.id := by rw [HSTEP.out, hTB.out, hLB.out]; simp
                have hj : jumpAt p = (7, t.s.id) := jump_at hlt (fun j hj hjk => HNO.out j hj hjk) (by rw [hf.out]; exact hans)
                have HJ := Lib.hid hj
                have t0 := HTC.out 0 _ rfl
                clear hans hj
                have r0 := HRC.out 0 _ rfl
                have r1 := HRC.out 1 _ rfl
                have f0 := HFC.out 0
                have f1 := HFC.out 1
                go_wp2_with fail
                have hq := box2 (x0 := .int .i64 7) (x1 := .int .i64 t.s.id) HRC.out
                have q0 := hq 0 _ rfl
                have q1 := hq 1 _ rfl
                refine bodyPost_ret (v := .agg #[.int .i64 7, .int .i64 t.s.id]) (by simp [results, Try.results52, go_sem, q0, q1]) rfl ?_
                exact ⟨by rw [← hRR.out, HYES.out, HJ.out], below2 HBC.out (by omega)⟩
              | true =>
                have hnext : pcJump f = jumpGo f (labLs ((stsOf f).take (q + 1))) (((stsOf f).zip (loopsOf f)).drop (q + 1)) := by rw [HSTEP.out, hTB.out, hLB.out]; simp
                have HNX := Lib.hid hnext
                have hrc := HRSC.out
                rw [← HST.out] at hrc
                have HRC := Lib.hid hrc
                have htn : twiceB (labLs ((stsOf f).take (q + 1))) = false := by rw [HST.out]; exact hTB.out
                have HTN := Lib.hid htn
                clear hnext hrc htn
                go_wp2_with fail
                go_roundw
                case rel => exact ⟨q + 1, _, by omega, by go_num, rfl, HRC.out, HTN.out, HNX.out, HBLC.out⟩
                case measure => simp [intOf]; omega
          · have hlq' : ¬ (q : Int) < (PT.length : Int) := by omega
            have hlen : (stsOf f).length = PT.length := by rw [← HPART.out, List.length_map]
            have hql : q = (stsOf f).length := by omega
            have hend : pcJump f = if twiceB (labsOf f) then some 0 else none := jump_end (by have := HJQ.out; rwa [hql] at this)
            have hall : (stsOf f).take q = stsOf f := List.take_of_length_le (by omega)
            have hl1 := HLTOT.out q
            have hlf : (labLs ((stsOf f).take q)).length + f.fin.length ≤ 300000 := by
              have h1 := HRF.out; unfold labsOf at h1; rw [List.length_append] at h1; rw [hall]; exact h1
            obtain ⟨LL, hLL⟩ : ∃ L, Hid (labLs ((stsOf f).take q) = L) := ⟨_, Lib.hid rfl⟩
            have hlab : labsOf f = LL ++ f.fin := by rw [← hLL.out, hall]; rfl
            rw [hLL.out] at hl1 hlf HRS6 HTQ
            try rw [hLL.out]
            rw [hlab] at hend
            have HEND := Lib.hid hend
            clear hlen hall hlab hend hql
            have y4 := HY6.out 4 _ rfl
            go_wp2_with fail
            refine (join_any W5.heap.size LL f.fin _ _ _ HRS6.out hWs HE6.out (by omega) HTQ.out).mono ?_
            rintro e wb ⟨v', rfl, -, hgr, na, nn, nc, rfl⟩
            have hbb : Below W5.heap.size W5 wb := HBL6.out.grown hgr.1 HBL6.out.size (fun x hx => (HRS6.out.lt x hx).1)
            obtain ⟨TB, hTB⟩ : ∃ b, Hid (twiceB (LL ++ f.fin) = b) := ⟨_, Lib.hid rfl⟩
            rw [hTB.out]
            rw [hTB.out] at HEND
            have HXB := Lib.hid (HX5.out.next hbb)
            have HRB := Lib.hid (HR5.out.next hbb)
            have HFB := Lib.hid (HF5.out.next hR5 hbb)
            have HPB := Lib.hid (PrC.mono (cw_next hbb) HP5.out)
            have HBB := Lib.hid (HB5.out.trans (hbb.mono HB5.out.size))
            have HBRB := Lib.hid (HBR5.out.trans (hbb.mono HBR5.out.size))
            have hRB : R < wb.heap.size := by have := hbb.size; omega
            clear hgr hbb y4
            cases TB with
            | true =>
              have hj : jumpAt p = (7, 0) := jump_at hlt (fun j hj hjk => HNO.out j hj hjk) (by rw [hf.out]; exact HEND.out)
              have HJ := Lib.hid hj
              clear hj
              simp only [Bool.not_true]
              have r0 := HRB.out 0 _ rfl
              have r1 := HRB.out 1 _ rfl
              have f0 := HFB.out 0
              have f1 := HFB.out 1
              go_wp2_with fail
              have hq := box2 (x0 := .int .i64 7) (x1 := .int .i64 0) HRB.out
              have q0 := hq 0 _ rfl
              have q1 := hq 1 _ rfl
              refine bodyPost_ret (v := .agg #[.int .i64 7, .int .i64 0]) (by simp [results, Try.results52, go_sem, q0, q1]) rfl ?_
              exact ⟨by rw [← hRR.out, HYES.out, HJ.out], below2 HBB.out (by omega)⟩
            | false =>
              have hnone : pcJump f = none := HEND.out
              have HNONE := Lib.hid hnone
              clear hnone
              simp only [Bool.not_false]
              go_wp2_with fail
              go_roundw
              case rel =>
                refine ⟨k + 1, by omega, by go_num, fun j hj hjk => ?_, HBRB.out⟩
                rcases Nat.lt_or_ge j k with h | h
                · exact HNO.out j hj h
                · obtain rfl : j = k := by omega
                  rw [hf.out]; exact HNONE.out
              case measure => simp [intOf]; omega
      · have hlt' : ¬ (k : Int) < (p.procs.length : Int) := by omega
        have hj : jumpAt p = (0, 0) := jump_ok fun j hj => HNO.out j hj (by omega)
        have HJ := Lib.hid hj
        clear hj
        have r0 := HR3.out 0 _ rfl
        have r1 := HR3.out 1 _ rfl
        have f0 := HF3.out 0
        have f1 := HF3.out 1
        go_wp2_with fail
        have hq := box2 (x0 := .int .i64 0) (x1 := .int .i64 0) HR3.out
        have q0 := hq 0 _ rfl
        have q1 := hq 1 _ rfl
        refine bodyPost_ret (v := .agg #[.int .i64 0, .int .i64 0]) (by simp [results, Try.results52, go_sem, q0, q1]) rfl ?_
        exact ⟨by rw [← hRR.out, HYES.out, HJ.out], below2 HB3.out (by omega)⟩
  · rw [if_neg hz] at htold
    obtain ⟨rfl, hb2⟩ := htold
    have HNO : Hid (jumpP p = (1, 0)) := Lib.hid (by unfold jumpP; rw [if_neg hz])
    have HR2 := Lib.hid (HR1.out.next hb2)
    have HF2 := Lib.hid (HF1.out.next hR1 hb2)
    have HB2 := Lib.hid (HB1.out.trans (hb2.mono HB1.out.size))
    have hR2 : R < w2.heap.size := by have := hb2.size; omega
    clear hb2 hz x0 x1
    have r0 := HR2.out 0 _ rfl
    have r1 := HR2.out 1 _ rfl
    have f0 := HF2.out 0
    have f1 := HF2.out 1
    go_wp2_with fail
    have hq := box2 (x0 := .int .i64 1) (x1 := .int .i64 0) HR2.out
    have q0 := hq 0 _ rfl
    have q1 := hq 1 _ rfl
    refine bodyPost_ret (v := .agg #[.int .i64 1, .int .i64 0]) (by simp [results, Try.results52, go_sem, q0, q1]) rfl ?_
    exact ⟨by rw [← hRR.out, HNO.out], below2 HB2.out (by omega)⟩
end Go.Proofs.Ytghlmengcidmdaa.Tr
end
section
/- Two faults compared. No program's code. Conditions: none. -/
namespace Go.Proofs.Ytghlmengcidmdaa.Tr
open Go.RowKit
theorem fault_eq (a b c d : Int) (w : World) : (binOp .eql 30 (.agg #[.int .i64 a, .int .i64 b]) (.agg #[.int .i64 c, .int .i64 d])).run Try.prog w = .ok (.bool (a == c && b == d)) w := by
  simp only [go_sem]
  by_cases h1 : a = c <;> by_cases h2 : b = d <;> simp [go_sem, h1, h2]
theorem fault_same (a b : Int) (w : World) : (binOp .eql 30 (.agg #[.int .i64 a, .int .i64 b]) (.agg #[.int .i64 a, .int .i64 b])).run Try.prog w = .ok (.bool true) w := by
  rw [fault_eq]; simp
end Go.Proofs.Ytghlmengcidmdaa.Tr
end
section
/- What jumping of the laws on jump tells: true. Conditions: none. -/
namespace Go.Proofs.Ytghlmengcidmdaa.Tr
open Go.RowKit Go.Proofs.Ytghlmengcidmdaa.Lx Go.Proofs.Ytghlmengcidmdaa.Wd
theorem some_at1 : jatP someP sP sE = (-1, true) := by kernel_rfl
theorem some_lab : jlabsP someP sP = [sE] := by kernel_rfl
theorem none_jump : jumpP ⟨[], []⟩ = (1, 0) := by kernel_rfl
set_option maxHeartbeats 2000000 in
set_option maxRecDepth 100000 in
theorem jumping_any (w : World) : Calls Try.prog 47 #[] w fun e w' => e = .returned (.bool true) ∧ Below w.heap.size w w' := by
  have hroom : RoomP someP := RoomP.of (Nat.le_trans some_wt6 (by decide))
  go_enter Try.func47, Try.ntmps47
  go_wp2_with fail
  refine (some_any _).mono ?_
  rintro e w1 ⟨gv, pv, rfl, hp, hb1⟩
  obtain ⟨ga, gc, rfl, -, -⟩ := hp.1.form
  obtain ⟨pa, pc, rfl, -, -⟩ := hp.2.form
  have HP1 := Lib.hid hp
  have HB1 := Lib.hid hb1
  clear hp hb1
  go_upto_region 2 with fail
  refine cut_world (fun wx => Below w1.heap.size w1 wx ∧ BoxAt wx w1.heap.size [.slice ga someP.globals.length gc, .slice pa someP.procs.length pc]) ⟨boxed w1 _, box_new w1 #[.slice ga someP.globals.length gc, .slice pa someP.procs.length pc] 25⟩ ?_
  rintro w2 ⟨hb2, hx2⟩
  have HX2 := Lib.hid hx2
  have HP2 := Lib.hid (PrC.mono (cw_next hb2) HP1.out)
  have HB2 := Lib.hid (HB1.out.trans (hb2.mono HB1.out.size))
  clear hb2 hx2
  have x0 := HX2.out 0 _ rfl
  have x1 := HX2.out 1 _ rfl
  go_wp2_with fail
  refine (jat_any 3 someP _ _ sP sE _ HP2.out hroom).mono ?_
  rw [some_at1]
  rintro e w3 ⟨rfl, hb3⟩
  have HX3 := Lib.hid (HX2.out.next hb3)
  have HP3 := Lib.hid (PrC.mono (cw_next hb3) HP2.out)
  have HB3 := Lib.hid (HB2.out.trans (hb3.mono HB2.out.size))
  clear hb3 x0 x1
  have x0 := HX3.out 0 _ rfl
  have x1 := HX3.out 1 _ rfl
  go_wp2_with fail
  refine (jlabels_any 3 someP _ _ sP _ HP3.out hroom).mono ?_
  rw [some_lab]
  rintro e w4 ⟨v4, rfl, hr4, hb4⟩
  obtain ⟨va, vc, rfl⟩ := ownsForm hr4.1
  have HB4 := Lib.hid (HB3.out.trans (hb4.mono HB3.out.size))
  clear hb4 hr4 x0 x1
  simp only [List.length_cons, List.length_nil]
  go_wp2_with fail
  refine (jcheck_any 3 ⟨[], []⟩ _ _ _ ⟨SlAt.nil, SlAt.nil⟩ (RoomP.of (by unfold wtPr wtTs; simp))).mono ?_
  rw [none_jump]
  rintro e w5 ⟨rfl, hb5⟩
  have HB5 := Lib.hid (HB4.out.trans (hb5.mono HB4.out.size))
  clear hb5
  have heq := fault_same 1 0
  go_wp2_with fail
  go_ret
  exact ⟨rfl, HB5.out⟩
end Go.Proofs.Ytghlmengcidmdaa.Tr
end
