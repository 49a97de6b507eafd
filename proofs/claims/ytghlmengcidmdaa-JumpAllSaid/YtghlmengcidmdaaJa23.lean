/- Parts of JumpQ: walks and plain laws that later texts use. Conditions: as each statement says. -/
import Derived.Test.YtghlmengcidmdaaJa0
import Derived.Test.YtghlmengcidmdaaJa1
import Derived.Test.YtghlmengcidmdaaJa2
import Derived.Test.YtghlmengcidmdaaJa3
import Derived.Test.YtghlmengcidmdaaJa4
import Derived.Test.YtghlmengcidmdaaJa5
import Derived.Test.YtghlmengcidmdaaJa6
import Derived.Test.YtghlmengcidmdaaJa7
import Derived.Test.YtghlmengcidmdaaJa8
import Derived.Test.YtghlmengcidmdaaJa9
import Derived.Test.YtghlmengcidmdaaJa10
import Derived.Test.YtghlmengcidmdaaJa11
import Derived.Test.YtghlmengcidmdaaJa12
import Derived.Test.YtghlmengcidmdaaJa13
import Derived.Test.YtghlmengcidmdaaJa14
import Derived.Test.YtghlmengcidmdaaJa15
import Derived.Test.YtghlmengcidmdaaJa16
import Derived.Test.YtghlmengcidmdaaJa17
import Derived.Test.YtghlmengcidmdaaJa18
import Derived.Test.YtghlmengcidmdaaJa19
import Derived.Test.YtghlmengcidmdaaJa20
import Derived.Test.YtghlmengcidmdaaJa22
import Derived.Outline
import Derived.IntWalk
import Derived.Deep.QuietTactic
import Derived.BigQuiet
import Derived.Deep.RegionWith
import Derived.Deep.DeepCutAuto
import Derived.Laws.Cover3
import Derived.Deep.RegionHeld3
import Derived.OwnWalk
import Derived.OneCell
import Derived.Deep.AppendLies
import Derived.Deep.RegionLaw
import Derived.Deep.CutBlock
import Derived.StillTailTactics
import Derived.WalkKit
import Derived.Test.YtghlmengcidmdaaRows
import Derived.WalkSpells
import Derived.Lib.Hide
import Derived.Below
import Derived.Laws.BitsAllLaws
import Derived.Laws.StructEq
import Derived.Maps.Range
import Derived.Lib.SmallJoins
import Derived.Deep.Upon
import Derived.Maps.AppendAt
import Derived.Laws.OwnMore
import Derived.WalkSmall
import Derived.RegionTactic
import Derived.Deep.Slices
import Derived.Deep.Fields
import Derived.SliceStrings
import Derived.ChangeSlices
import Derived.OrdersHeld
import Derived.Deep.MidRow
/- What jumps and Jumps of the reference tell: the first fault of jumps. Conditions: the program lies in memory, and there is room. -/
namespace Go.Proofs.Ytghlmengcidmdaa.Tr
open Go.RowKit Go.Proofs.Ytghlmengcidmdaa.Lx Go.Proofs.Ytghlmengcidmdaa.Wd
set_option linter.unusedSimpArgs false
set_option maxHeartbeats 8000000 in
set_option maxRecDepth 100000 in
theorem rjumps_any (d : Nat) (p : Pr) (gv pv : Value) (w : World) (hp : PrC (cw w) d gv pv p) (hroom : RoomP p) (hmay : mayP p = true) :
    Calls Try.prog 105 #[.agg #[gv, pv]] w (FaultIs (jumpAt p) w) := by
  obtain ⟨i0, hi0, hz0, hz1, hz2⟩ := info_parts infoStr
  have HROOM := Lib.hid hroom
  have HMAY := Lib.hid hmay
  clear hroom hmay
  obtain ⟨ga, gc, rfl, hgl1, hgl2⟩ := hp.1.form
  obtain ⟨pa, pc, rfl, hl1, hl2⟩ := hp.2.form
  have hpl : p.procs.length ≤ 9223372036854775807 := Nat.le_trans hl1 hl2
  have HP := Lib.hid hp
  clear hp hl1 hl2 hgl1 hgl2
  obtain ⟨RR, hRR⟩ : ∃ r, Hid (jumpAt p = r) := ⟨_, Lib.hid rfl⟩
  rw [hRR.out]
  go_enter Try.func105, Try.ntmps105
  go_upto_region 1 with fail
  refine cut_world (fun wx => Below w.heap.size w wx ∧ wx.heap.size = w.heap.size + 1 + 1 ∧ BoxAt wx w.heap.size [.slice ga p.globals.length gc, .slice pa p.procs.length pc] ∧ BoxAt wx (w.heap.size + 1) [.int .i64 0, .int .i64 0] ∧ Free wx (w.heap.size + 1)) ⟨(boxed w _).alloc (by simp) _, by simp, (box_new w #[.slice ga p.globals.length gc, .slice pa p.procs.length pc] 25).next (boxed _ _), box_two w _ #[.int .i64 0, .int .i64 0] 30, free_two w _ _ _⟩ ?_
  rintro w1 ⟨hb1, hz1', hx1, hr1, hf1⟩
  obtain ⟨R, hR⟩ : ∃ R, R = w.heap.size + 1 := ⟨_, rfl⟩
  rw [← hR] at hr1 hf1
  try rw [← hR]
  have hRw : w.heap.size < R := by omega
  have hR1 : R < w1.heap.size := by omega
  have HB1 := Lib.hid hb1
  have HX1 := Lib.hid hx1
  have HR1 := Lib.hid hr1
  have HF1 := Lib.hid hf1
  have HP1 := Lib.hid (PrC.mono (cw_next hb1) HP.out)
  clear hb1 hx1 hr1 hf1 hz1' hR
  have x0 := HX1.out 0 _ rfl
  have x1 := HX1.out 1 _ rfl
  go_wp2_with fail
  clear x0 x1
  go_loopw [15] (fun i wr => ∃ k : Nat, k ≤ p.procs.length ∧ i = .int .i64 k ∧ (∀ j (hj : j < p.procs.length), j < k → pcJump p.procs[j] = none) ∧ Below w1.heap.size w1 wr) (fun i _ => (p.procs.length - intOf i).toNat)
  case atStart => exact ⟨0, by omega, rfl, fun j _ h => absurd h (by omega), Below.refl _ _⟩
  case round =>
    obtain ⟨k, hk, rfl, hno, hbr⟩ := hrel
    obtain ⟨w2, hw2⟩ : ∃ x : World, x = wr := ⟨_, rfl⟩
    subst hw2
    have HNO := Lib.hid hno
    have HBR2 := Lib.hid hbr
    have HX2 := Lib.hid (HX1.out.next hbr)
    have HR2 := Lib.hid (HR1.out.next hbr)
    have HF2 := Lib.hid (HF1.out.next hR1 hbr)
    have HP2 := Lib.hid (PrC.mono (cw_next hbr) HP1.out)
    have HB2 := Lib.hid (HB1.out.trans (hbr.mono HB1.out.size))
    have hR2 : R < w2.heap.size := by have := hbr.size; omega
    clear hno hbr
    by_cases hlt : k < p.procs.length
    · have hlt' : (k : Int) < (p.procs.length : Int) := by omega
      have h0k : (0 : Int) ≤ (k : Int) := by omega
      obtain ⟨g, off, hvp, qv, vv, bv, fv, p0, p1, p2, p3, p4, hnm, hps, hvs, hbody, hfin⟩ := procs_at HP2.out.2 hlt
      cases hvp
      obtain ⟨f, hf⟩ : ∃ f, Hid (p.procs[k] = f) := ⟨_, Lib.hid rfl⟩
      rw [hf.out] at p0 hnm hps hvs hbody hfin
      obtain ⟨a1, c1, rfl, -, -⟩ := hps.form
      obtain ⟨a2, c2, rfl, -, -⟩ := hvs.form
      obtain ⟨a3, c3, rfl, -, -⟩ := hbody.form
      obtain ⟨a4, c4, rfl, -, -⟩ := hfin.form
      have e0 : w2.cell? ⟨g, off + k * 5, none⟩ = _ := p0
      have e1 : w2.cell? ⟨g, off + k * 5 + 1, none⟩ = _ := p1
      have e2 : w2.cell? ⟨g, off + k * 5 + 2, none⟩ = _ := p2
      have e3 : w2.cell? ⟨g, off + k * 5 + 3, none⟩ = _ := p3
      have e4 : w2.cell? ⟨g, off + k * 5 + 4, none⟩ = _ := p4
      have HNM := Lib.hid hnm
      have HH1 := Lib.hid hps
      have HH2 := Lib.hid hvs
      have HH3 := Lib.hid hbody
      have HH4 := Lib.hid hfin
      clear p0 p1 p2 p3 p4 hnm hps hvs hbody hfin
      have HK := Lib.hid hf.out
      have HMEM : Hid (f ∈ p.procs) := Lib.hid (by rw [← hf.out]; exact List.getElem_mem hlt)
      go_upto_region 4 with fail
      refine cut_world (fun wx => Below w2.heap.size w2 wx ∧ BoxAt wx w2.heap.size [.string f.nm, .slice a1 f.params.length c1, .slice a2 f.vars.length c2, .slice a3 f.body.length c3, .slice a4 f.fin.length c4]) ⟨boxed w2 _, box_new w2 #[.string f.nm, .slice a1 f.params.length c1, .slice a2 f.vars.length c2, .slice a3 f.body.length c3, .slice a4 f.fin.length c4] 55⟩ ?_
      clear e0 e1 e2 e3 e4
      rintro w3 ⟨hb3, hy3⟩
      have HY3 := Lib.hid hy3
      have HE3 := Lib.hid (StrsAt.next (StrC.to HH4.out) hb3)
      have HC3 := Lib.hid (StC.mono (cw_next hb3) HH3.out)
      have HX3 := Lib.hid (HX2.out.next hb3)
      have HR3 := Lib.hid (HR2.out.next hb3)
      have HF3 := Lib.hid (HF2.out.next hR2 hb3)
      have HP3 := Lib.hid (PrC.mono (cw_next hb3) HP2.out)
      have HB3 := Lib.hid (HB2.out.trans (hb3.mono HB2.out.size))
      have HBR3 := Lib.hid (HBR2.out.trans (hb3.mono HBR2.out.size))
      have hR3 : R < w3.heap.size := by have := hb3.size; omega
      clear hb3 hy3
      have y0 := HY3.out 0 _ rfl
      have y1 := HY3.out 1 _ rfl
      have y2 := HY3.out 2 _ rfl
      have y3 := HY3.out 3 _ rfl
      have y4 := HY3.out 4 _ rfl
      go_wp2_with fail
      refine (flatOf_any d f _ _ _ _ _ HC3.out).mono ?_
      rintro e w4 ⟨v4, rfl, hs4, hb4⟩
      have hfl := flat_its HMAY.out HMEM.out
      have HFLAT := Lib.hid hfl
      rw [hfl] at hs4
      have hmk := mayPs_nth (mayP_procs HMAY.out) k hlt
      rw [hf.out] at hmk
      have harou := fun q hq => around_its hmk (by omega) (q := q) hq
      have hcnt : (itsOf f).length ≤ 1000000 := by
        rw [its_len, ← hf.out]
        have h1 := cntP_take hlt
        have h2 := cntP_le p.procs (k + 1)
        have h3 := mayP_cnt HMAY.out
        omega
      obtain ⟨PT, hPT⟩ : ∃ L, Hid (itsOf f = L) := ⟨_, Lib.hid rfl⟩
      have hpart : PT.map It.s = stsOf f := by rw [← hPT.out]; rfl
      rw [hPT.out] at hs4 hcnt
      simp only [hPT.out] at harou
      have HPART := Lib.hid hpart
      have HAROU := Lib.hid harou
      have HCNT := Lib.hid hcnt
      obtain ⟨ia, ic, rfl, hil1, hil2⟩ := hs4.form
      have hil : PT.length ≤ 9223372036854775807 := Nat.le_trans hil1 hil2
      have HL4 := Lib.hid hs4
      have HE4 := Lib.hid (HE3.out.next hb4)
      have HC4 := Lib.hid (StC.mono (cw_next hb4) HC3.out)
      have HRF := Lib.hid (HROOM.out.labs f HMEM.out)
      have HX4 := Lib.hid (HX3.out.next hb4)
      have HR4 := Lib.hid (HR3.out.next hb4)
      have HF4 := Lib.hid (HF3.out.next hR3 hb4)
      have HP4 := Lib.hid (PrC.mono (cw_next hb4) HP3.out)
      have HB4 := Lib.hid (HB3.out.trans (hb4.mono HB3.out.size))
      have HBR4 := Lib.hid (HBR3.out.trans (hb4.mono HBR3.out.size))
      have HY4 := Lib.hid (HY3.out.next hb4)
      have hR4 : R < w4.heap.size := by have := hb4.size; omega
      clear hs4 hb4 hil1 hil2 hpart harou hfl hmk y0 y1 y2 y3 y4
      go_wp2_with fail
      obtain ⟨W4, hW4⟩ : ∃ x : World, x = w4 := ⟨_, rfl⟩
      subst hW4
      go_loopw [23, 5] (fun i v wr => ∃ (q : Nat) (v0 : Value), q ≤ PT.length ∧ i = .int .i64 q ∧ v = v0 ∧ RowS W4.heap.size wr v0 (labLs ((stsOf f).take q)) ∧ twiceB (labLs ((stsOf f).take q)) = false ∧ pcJump f = jumpGo f (labLs ((stsOf f).take q)) (((stsOf f).zip (loopsOf f)).drop q) ∧ Below W4.heap.size W4 wr) (fun i _ _ => (PT.length - intOf i).toNat)
      case atStart => exact ⟨0, _, by omega, rfl, rfl, RowS.nil _ _, rfl, rfl, Below.refl _ _⟩
      case round =>
        obtain ⟨q, v0, hq, rfl, rfl, hrq, htq, hjq, hbq⟩ := hrel
        obtain ⟨w6, hw6⟩ : ∃ x : World, x = wr := ⟨_, rfl⟩
        subst hw6
        have HRS6 := Lib.hid hrq
        have HTQ := Lib.hid htq
        have HJQ := Lib.hid hjq
        have HBL6 := Lib.hid hbq
        have HL6 := Lib.hid (SlAt.imp HL4.out fun _ _ _ _ => ItAt.mono (cw_next hbq))
        obtain ⟨va6, vc6, rfl⟩ := ownsForm hrq.1
        have hWs : W4.heap.size ≤ w6.heap.size := hbq.size
        clear hrq hbq htq hjq
        by_cases hlq : q < PT.length
        · have hlq' : (q : Int) < (PT.length : Int) := by omega
          have h0q : (0 : Int) ≤ (q : Int) := by omega
          obtain ⟨gi, oi, hvi, hfi⟩ := its6_at HL6.out hlq
          cases hvi
          obtain ⟨hts, hst⟩ := lab_step HPART.out hlq
          have hlp := HAROU.out q hlq
          have hl1 := (lab_tot HRF.out (q + 1)).1
          rw [hst, List.length_append] at hl1
          have hstep := jump_step hts hlp HJQ.out
          obtain ⟨t, ht⟩ : ∃ t, Hid (PT[q] = t) := ⟨_, Lib.hid rfl⟩
          rw [ht.out] at hfi hst hl1 hstep
          obtain ⟨lp, hLP⟩ : ∃ L, Hid (aroundG PT t.s.id PT.length = L) := ⟨_, Lib.hid rfl⟩
          rw [hLP.out] at hstep
          obtain ⟨LK, hLK⟩ : ∃ L, Hid (labLs ((stsOf f).take q) = L) := ⟨_, Lib.hid rfl⟩
          rw [hLK.out] at hst hl1 HRS6 HTQ hstep
          try rw [hLK.out]
          have HST := Lib.hid hst
          have HSTEP := Lib.hid hstep
          obtain ⟨la, ka, aa, ta, ea, lc, kc, ac, tc, ec, hrest⟩ := it_open hfi
          have HCE := Lib.hid hrest.1
          have HHA := Lib.hid hrest.2.1
          clear hfi hrest hst hstep hlp hts
          have HI0 : Hid (BoxAt (w6.alloc (.cells #[.int .i64 0, .int .i64 0, .slice none 0 0, .string ⟨#[]⟩, .string ⟨#[]⟩, .int .i64 0, .int .i64 0, .string ⟨#[]⟩, .slice none 0 0, .bool false, .slice none 0 0, .slice none 0 0, .slice none 0 0, .int .i64 0, .int .i64 0, .bool false] 76)) w6.heap.size [.int .i64 0, .int .i64 0, .slice none 0 0, .string ⟨#[]⟩, .string ⟨#[]⟩, .int .i64 0, .int .i64 0, .string ⟨#[]⟩, .slice none 0 0, .bool false, .slice none 0 0, .slice none 0 0, .slice none 0 0, .int .i64 0, .int .i64 0, .bool false]) := Lib.hid (box_new w6 #[.int .i64 0, .int .i64 0, .slice none 0 0, .string ⟨#[]⟩, .string ⟨#[]⟩, .int .i64 0, .int .i64 0, .string ⟨#[]⟩, .slice none 0 0, .bool false, .slice none 0 0, .slice none 0 0, .slice none 0 0, .int .i64 0, .int .i64 0, .bool false] 76)
          have HF0 : Hid (Free (w6.alloc (.cells #[.int .i64 0, .int .i64 0, .slice none 0 0, .string ⟨#[]⟩, .string ⟨#[]⟩, .int .i64 0, .int .i64 0, .string ⟨#[]⟩, .slice none 0 0, .bool false, .slice none 0 0, .slice none 0 0, .slice none 0 0, .int .i64 0, .int .i64 0, .bool false] 76)) w6.heap.size) := Lib.hid (fun j => by simp [go_sem])
          have hzi := World.size_alloc w6 (.cells #[.int .i64 0, .int .i64 0, .slice none 0 0, .string ⟨#[]⟩, .string ⟨#[]⟩, .int .i64 0, .int .i64 0, .string ⟨#[]⟩, .slice none 0 0, .bool false, .slice none 0 0, .slice none 0 0, .slice none 0 0, .int .i64 0, .int .i64 0, .bool false] 76)
          go_upto_region 9 with (first | refine wpList_load_mid rfl 76 (.tmp 25) rfl gi (oi + q * 16) rfl [.int .i64 t.s.id, .int .i64 t.s.kind, .slice la t.s.labels.length lc, .string t.s.nm, .string t.s.proc, .int .i64 t.s.x.op, .int .i64 t.s.x.n, .string t.s.x.nm, .slice ka t.s.x.ks.length kc, .bool t.s.has, .slice aa t.s.args.length ac, .slice ta t.s.thn.length tc, .slice ea t.s.els.length ec, .int .i64 t.deep, .int .i64 t.inn, .bool t.els] _ (fun j v hv => HCE.out j v hv) Try.underlying76 rfl (by kernel_rfl) ?_ | refine wpList_store_mid rfl 76 (.tmp 8) (.tmp 26) rfl w6.heap.size 0 #[.int .i64 t.s.id, .int .i64 t.s.kind, .slice la t.s.labels.length lc, .string t.s.nm, .string t.s.proc, .int .i64 t.s.x.op, .int .i64 t.s.x.n, .string t.s.x.nm, .slice ka t.s.x.ks.length kc, .bool t.s.has, .slice aa t.s.args.length ac, .slice ta t.s.thn.length tc, .slice ea t.s.els.length ec, .int .i64 t.deep, .int .i64 t.inn, .bool t.els] rfl rfl (box_there (n := 16) HI0.out HF0.out (by simp)) (by kernel_rfl) (by simp [Value.oneCell']) ?_)
          refine cut_world (fun wx => Below w6.heap.size w6 wx ∧ BoxAt wx w6.heap.size [.int .i64 t.s.id, .int .i64 t.s.kind, .slice la t.s.labels.length lc, .string t.s.nm, .string t.s.proc, .int .i64 t.s.x.op, .int .i64 t.s.x.n, .string t.s.x.nm, .slice ka t.s.x.ks.length kc, .bool t.s.has, .slice aa t.s.args.length ac, .slice ta t.s.thn.length tc, .slice ea t.s.els.length ec, .int .i64 t.deep, .int .i64 t.inn, .bool t.els]) ⟨setCells_below _ _ (boxed w6 _) (Nat.le_refl _), box_over (old := [.int .i64 0, .int .i64 0, .slice none 0 0, .string ⟨#[]⟩, .string ⟨#[]⟩, .int .i64 0, .int .i64 0, .string ⟨#[]⟩, .slice none 0 0, .bool false, .slice none 0 0, .slice none 0 0, .slice none 0 0, .int .i64 0, .int .i64 0, .bool false]) (xs := [.int .i64 t.s.id, .int .i64 t.s.kind, .slice la t.s.labels.length lc, .string t.s.nm, .string t.s.proc, .int .i64 t.s.x.op, .int .i64 t.s.x.n, .string t.s.x.nm, .slice ka t.s.x.ks.length kc, .bool t.s.has, .slice aa t.s.args.length ac, .slice ta t.s.thn.length tc, .slice ea t.s.els.length ec, .int .i64 t.deep, .int .i64 t.inn, .bool t.els]) (rest := []) HI0.out HF0.out rfl⟩ ?_
          clear hzi HI0 HF0
          rintro wa ⟨hba, hta⟩
          have t2 := hta 2 _ rfl
          have HTA := Lib.hid hta
          have HRSA := Lib.hid (HRS6.out.next hba)
          have HLA := Lib.hid (StrC.to (HHA.out wa (cw_next hba)).lab)
          have HBLA := Lib.hid (HBL6.out.trans (hba.mono HBL6.out.size))
          have hWa : W4.heap.size ≤ wa.heap.size := HBLA.out.size
          clear hba hta
          go_wp2_with (at_builtin; refine wpList_append_sl _ rfl (.tmp 27) (.tmp 30) 22 rfl W4.heap.size 9 i0 (.string ⟨#[]⟩) 1 16 Try.underlying22 hi0 hz0 hz1 hz2 rfl (by decide) _ LK.length (LK.map Value.string) rfl HRSA.out.1 la t.s.labels.length lc (t.s.labels.map Value.string) rfl HLA.out.news.2.1 (by rw [List.length_map, Nat.mul_one]) HLA.out.news.2.2 (str_all _) (by unfold maxLen; omega) (by omega) (by omega) ?_)
          intro vb wb hownb hgb hatb
          have HRSB := Lib.hid (RowS.cat (l := LK) (m := t.s.labels) hownb HRSA.out.2 HLA.out.all)
          have HBLB := Lib.hid (HBLA.out.grown hgb HBLA.out.size (fun x hx => (HRSA.out.lt x hx).1))
          have HTB := Lib.hid (HTA.out.grown hgb fun e => by have := (HRS6.out.lt _ e.symm).2; omega)
          obtain ⟨vba, vbc, rfl⟩ := ownsForm hownb
          clear hownb hgb hatb t2
          obtain ⟨LM, hLM⟩ : ∃ L, Hid (LK ++ t.s.labels = L) := ⟨_, Lib.hid rfl⟩
          have hlm : LM.length = LK.length + t.s.labels.length := by rw [← hLM.out, List.length_append]
          rw [hLM.out] at HRSB HSTEP HST
          rw [← hlm] at HRSB
          try rw [← hlm]
          have HSS := Lib.hid (HRSB.out.strs (by omega))
          have hlm2 : LM.length ≤ 300000 := by omega
          clear hlm
          go_wp2_with fail
          refine (rtwice_any LM _ _ HSS.out).mono ?_
          rintro e wc ⟨rfl, hbc⟩
          obtain ⟨TB, hTB⟩ : ∃ b, Hid (twiceB LM = b) := ⟨_, Lib.hid rfl⟩
          rw [hTB.out]
          rw [hTB.out] at HSTEP
          have HTC := Lib.hid (HTB.out.next hbc)
          have HRSC := Lib.hid (HRSB.out.next hbc)
          have HBLC := Lib.hid (HBLB.out.trans (hbc.mono HBLB.out.size))
          clear hbc
          by_cases h7 : t.s.kind = 7
          · have hb7 : (t.s.kind == 7) = true := by rw [h7]; rfl
            have hb10 : (t.s.kind == 10) = false := by rw [h7]; rfl
            have hlead : leadsP f t.s lp = !(lp == 0) := by unfold leadsP; rw [if_pos (.inl h7)]
            clear h7
            have t0 := HTC.out 0 _ rfl
            have t1 := HTC.out 1 _ rfl
            go_wp2_with fail
            refine (around_any d PT _ t.s.id _ (SlAt.imp HL4.out fun _ _ _ _ => ItAt.mono (cw_next HBLC.out)) HCNT.out).mono ?_
            rw [hLP.out]
            obtain ⟨LB, hLB⟩ : ∃ b, Hid ((!(lp == 0)) = b) := ⟨_, Lib.hid rfl⟩
            rw [hLB.out]
            rintro e w' ⟨rfl, rfl⟩
            cases TB with
            | true =>
              cases LB with
              | true =>
                have HLEAD := Lib.hid (hlead.trans hLB.out)
                go_upto_region 14 with fail
                go_quiet (fail)
                generalize hwd : wc.drewN _ = wd
                have hbd : Below wc.heap.size wc wd := by rw [← hwd]; exact below_drewN (Below.refl _ _) _
                clear hwd
                have HTD := Lib.hid (HTC.out.next hbd)
                have HRSD := Lib.hid (HRSC.out.next hbd)
                have HBLD := Lib.hid (HBLC.out.trans (hbd.mono HBLC.out.size))
                have HRD := Lib.hid (HR4.out.next HBLD.out)
                have HFD := Lib.hid (HF4.out.next hR4 HBLD.out)
                have HBD := Lib.hid (HB4.out.trans (HBLD.out.mono HB4.out.size))
                have hRD : R < wd.heap.size := by have := HBLD.out.size; omega
                clear hbd 
                have HBAD : Hid (pcJump f = some t.s.id) := Lib.hid (by rw [HSTEP.out, HLEAD.out]; rfl)
                have hj : jumpAt p = (7, t.s.id) := jump_at hlt (fun j hj hjk => HNO.out j hj hjk) (by rw [hf.out]; exact HBAD.out)
                have HJ := Lib.hid hj
                have t0 := HTD.out 0 _ rfl
                clear hj
                go_wp2_with fail
                refine (fault_any (7) (t.s.id) _).mono ?_
                rintro e wz ⟨rfl, hbz⟩
                have HRz := Lib.hid (HRD.out.next hbz)
                have HFz := Lib.hid (HFD.out.next hRD hbz)
                have HBz := Lib.hid (HBD.out.trans (hbz.mono HBD.out.size))
                clear hbz
                have r0 := HRz.out 0 _ rfl
                have r1 := HRz.out 1 _ rfl
                have f0 := HFz.out 0
                have f1 := HFz.out 1
                go_wp2_with fail
                have hq := box2 (x0 := .int .i64 7) (x1 := .int .i64 t.s.id) HRz.out
                have q0 := hq 0 _ rfl
                have q1 := hq 1 _ rfl
                refine bodyPost_ret (v := .agg #[.int .i64 7, .int .i64 t.s.id]) (by simp [results, Try.results105, go_sem, q0, q1]) rfl ?_
                exact ⟨by rw [← hRR.out, HJ.out], below2 HBz.out (by omega)⟩
              | false =>
                have HLEAD := Lib.hid (hlead.trans hLB.out)
                go_upto_region 14 with fail
                go_quiet (fail)
                generalize hwd : wc.drewN _ = wd
                have hbd : Below wc.heap.size wc wd := by rw [← hwd]; exact below_drewN (Below.refl _ _) _
                clear hwd
                have HTD := Lib.hid (HTC.out.next hbd)
                have HRSD := Lib.hid (HRSC.out.next hbd)
                have HBLD := Lib.hid (HBLC.out.trans (hbd.mono HBLC.out.size))
                have HRD := Lib.hid (HR4.out.next HBLD.out)
                have HFD := Lib.hid (HF4.out.next hR4 HBLD.out)
                have HBD := Lib.hid (HB4.out.trans (HBLD.out.mono HB4.out.size))
                have hRD : R < wd.heap.size := by have := HBLD.out.size; omega
                clear hbd 
                have HBAD : Hid (pcJump f = some t.s.id) := Lib.hid (by rw [HSTEP.out, HLEAD.out]; rfl)
                have hj : jumpAt p = (7, t.s.id) := jump_at hlt (fun j hj hjk => HNO.out j hj hjk) (by rw [hf.out]; exact HBAD.out)
                have HJ := Lib.hid hj
                have t0 := HTD.out 0 _ rfl
                clear hj
                go_wp2_with fail
                refine (fault_any (7) (t.s.id) _).mono ?_
                rintro e wz ⟨rfl, hbz⟩
                have HRz := Lib.hid (HRD.out.next hbz)
                have HFz := Lib.hid (HFD.out.next hRD hbz)
                have HBz := Lib.hid (HBD.out.trans (hbz.mono HBD.out.size))
                clear hbz
                have r0 := HRz.out 0 _ rfl
                have r1 := HRz.out 1 _ rfl
                have f0 := HFz.out 0
                have f1 := HFz.out 1
                go_wp2_with fail
                have hq := box2 (x0 := .int .i64 7) (x1 := .int .i64 t.s.id) HRz.out
                have q0 := hq 0 _ rfl
                have q1 := hq 1 _ rfl
                refine bodyPost_ret (v := .agg #[.int .i64 7, .int .i64 t.s.id]) (by simp [results, Try.results105, go_sem, q0, q1]) rfl ?_
                exact ⟨by rw [← hRR.out, HJ.out], below2 HBz.out (by omega)⟩
            | false =>
              cases LB with
              | true =>
                have HLEAD := Lib.hid (hlead.trans hLB.out)
                go_upto_region 14 with fail
                go_quiet (fail)
                generalize hwd : wc.drewN _ = wd
                have hbd : Below wc.heap.size wc wd := by rw [← hwd]; exact below_drewN (Below.refl _ _) _
                clear hwd
                have HTD := Lib.hid (HTC.out.next hbd)
                have HRSD := Lib.hid (HRSC.out.next hbd)
                have HBLD := Lib.hid (HBLC.out.trans (hbd.mono HBLC.out.size))
                have HRD := Lib.hid (HR4.out.next HBLD.out)
                have HFD := Lib.hid (HF4.out.next hR4 HBLD.out)
                have HBD := Lib.hid (HB4.out.trans (HBLD.out.mono HB4.out.size))
                have hRD : R < wd.heap.size := by have := HBLD.out.size; omega
                clear hbd 
                have HGOOD := Lib.hid (show pcJump f = jumpGo f (labLs ((stsOf f).take (q + 1))) (((stsOf f).zip (loopsOf f)).drop (q + 1)) by rw [HSTEP.out, HLEAD.out]; rfl)
                have htn : twiceB (labLs ((stsOf f).take (q + 1))) = false := by rw [HST.out]; exact hTB.out
                have HTN := Lib.hid htn
                have hrn := HRSD.out
                have hnx : pcJump f = jumpGo f (labLs ((stsOf f).take (q + 1))) (((stsOf f).zip (loopsOf f)).drop (q + 1)) := HGOOD.out
                have HNX := Lib.hid hnx
                rw [← HST.out] at hrn
                have HRN := Lib.hid hrn
                clear htn hrn hnx
                go_wp2_with fail
                go_roundw
                case rel => exact ⟨q + 1, _, by omega, by go_num, rfl, by first | exact HRN.out | (rw [HST.out]; exact HRSD.out), HTN.out, HNX.out, HBLD.out⟩
                case measure => simp [intOf]; omega
              | false =>
                have HLEAD := Lib.hid (hlead.trans hLB.out)
                go_upto_region 14 with fail
                go_quiet (fail)
                generalize hwd : wc.drewN _ = wd
                have hbd : Below wc.heap.size wc wd := by rw [← hwd]; exact below_drewN (Below.refl _ _) _
                clear hwd
                have HTD := Lib.hid (HTC.out.next hbd)
                have HRSD := Lib.hid (HRSC.out.next hbd)
                have HBLD := Lib.hid (HBLC.out.trans (hbd.mono HBLC.out.size))
                have HRD := Lib.hid (HR4.out.next HBLD.out)
                have HFD := Lib.hid (HF4.out.next hR4 HBLD.out)
                have HBD := Lib.hid (HB4.out.trans (HBLD.out.mono HB4.out.size))
                have hRD : R < wd.heap.size := by have := HBLD.out.size; omega
                clear hbd 
                have HBAD : Hid (pcJump f = some t.s.id) := Lib.hid (by rw [HSTEP.out, HLEAD.out]; rfl)
                have hj : jumpAt p = (7, t.s.id) := jump_at hlt (fun j hj hjk => HNO.out j hj hjk) (by rw [hf.out]; exact HBAD.out)
                have HJ := Lib.hid hj
                have t0 := HTD.out 0 _ rfl
                clear hj
                go_wp2_with fail
                refine (fault_any (7) (t.s.id) _).mono ?_
                rintro e wz ⟨rfl, hbz⟩
                have HRz := Lib.hid (HRD.out.next hbz)
                have HFz := Lib.hid (HFD.out.next hRD hbz)
                have HBz := Lib.hid (HBD.out.trans (hbz.mono HBD.out.size))
                clear hbz
                have r0 := HRz.out 0 _ rfl
                have r1 := HRz.out 1 _ rfl
                have f0 := HFz.out 0
                have f1 := HFz.out 1
                go_wp2_with fail
                have hq := box2 (x0 := .int .i64 7) (x1 := .int .i64 t.s.id) HRz.out
                have q0 := hq 0 _ rfl
                have q1 := hq 1 _ rfl
                refine bodyPost_ret (v := .agg #[.int .i64 7, .int .i64 t.s.id]) (by simp [results, Try.results105, go_sem, q0, q1]) rfl ?_
                exact ⟨by rw [← hRR.out, HJ.out], below2 HBz.out (by omega)⟩
          · have hb7 : (t.s.kind == 7) = false := by simpa using h7
            by_cases h8 : t.s.kind = 8
            · have hb8 : (t.s.kind == 8) = true := by rw [h8]; rfl
              have hb10 : (t.s.kind == 10) = false := by rw [h8]; rfl
              have hlead : leadsP f t.s lp = !(lp == 0) := by unfold leadsP; rw [if_pos (.inr h8)]
              clear h7 h8
              have t0 := HTC.out 0 _ rfl
              have t1 := HTC.out 1 _ rfl
              go_wp2_with fail
              refine (around_any d PT _ t.s.id _ (SlAt.imp HL4.out fun _ _ _ _ => ItAt.mono (cw_next HBLC.out)) HCNT.out).mono ?_
              rw [hLP.out]
              obtain ⟨LB, hLB⟩ : ∃ b, Hid ((!(lp == 0)) = b) := ⟨_, Lib.hid rfl⟩
              rw [hLB.out]
              rintro e w' ⟨rfl, rfl⟩
              cases TB with
              | true =>
                cases LB with
                | true =>
                  have HLEAD := Lib.hid (hlead.trans hLB.out)
                  go_upto_region 14 with fail
                  go_quiet (fail)
                  generalize hwd : wc.drewN _ = wd
                  have hbd : Below wc.heap.size wc wd := by rw [← hwd]; exact below_drewN (Below.refl _ _) _
                  clear hwd
                  have HTD := Lib.hid (HTC.out.next hbd)
                  have HRSD := Lib.hid (HRSC.out.next hbd)
                  have HBLD := Lib.hid (HBLC.out.trans (hbd.mono HBLC.out.size))
                  have HRD := Lib.hid (HR4.out.next HBLD.out)
                  have HFD := Lib.hid (HF4.out.next hR4 HBLD.out)
                  have HBD := Lib.hid (HB4.out.trans (HBLD.out.mono HB4.out.size))
                  have hRD : R < wd.heap.size := by have := HBLD.out.size; omega
                  clear hbd 
                  have HBAD : Hid (pcJump f = some t.s.id) := Lib.hid (by rw [HSTEP.out, HLEAD.out]; rfl)
                  have hj : jumpAt p = (7, t.s.id) := jump_at hlt (fun j hj hjk => HNO.out j hj hjk) (by rw [hf.out]; exact HBAD.out)
                  have HJ := Lib.hid hj
                  have t0 := HTD.out 0 _ rfl
                  clear hj
                  go_wp2_with fail
                  refine (fault_any (7) (t.s.id) _).mono ?_
                  rintro e wz ⟨rfl, hbz⟩
                  have HRz := Lib.hid (HRD.out.next hbz)
                  have HFz := Lib.hid (HFD.out.next hRD hbz)
                  have HBz := Lib.hid (HBD.out.trans (hbz.mono HBD.out.size))
                  clear hbz
                  have r0 := HRz.out 0 _ rfl
                  have r1 := HRz.out 1 _ rfl
                  have f0 := HFz.out 0
                  have f1 := HFz.out 1
                  go_wp2_with fail
                  have hq := box2 (x0 := .int .i64 7) (x1 := .int .i64 t.s.id) HRz.out
                  have q0 := hq 0 _ rfl
                  have q1 := hq 1 _ rfl
                  refine bodyPost_ret (v := .agg #[.int .i64 7, .int .i64 t.s.id]) (by simp [results, Try.results105, go_sem, q0, q1]) rfl ?_
                  exact ⟨by rw [← hRR.out, HJ.out], below2 HBz.out (by omega)⟩
                | false =>
                  have HLEAD := Lib.hid (hlead.trans hLB.out)
                  go_upto_region 14 with fail
                  go_quiet (fail)
                  generalize hwd : wc.drewN _ = wd
                  have hbd : Below wc.heap.size wc wd := by rw [← hwd]; exact below_drewN (Below.refl _ _) _
                  clear hwd
                  have HTD := Lib.hid (HTC.out.next hbd)
                  have HRSD := Lib.hid (HRSC.out.next hbd)
                  have HBLD := Lib.hid (HBLC.out.trans (hbd.mono HBLC.out.size))
                  have HRD := Lib.hid (HR4.out.next HBLD.out)
                  have HFD := Lib.hid (HF4.out.next hR4 HBLD.out)
                  have HBD := Lib.hid (HB4.out.trans (HBLD.out.mono HB4.out.size))
                  have hRD : R < wd.heap.size := by have := HBLD.out.size; omega
                  clear hbd 
                  have HBAD : Hid (pcJump f = some t.s.id) := Lib.hid (by rw [HSTEP.out, HLEAD.out]; rfl)
                  have hj : jumpAt p = (7, t.s.id) := jump_at hlt (fun j hj hjk => HNO.out j hj hjk) (by rw [hf.out]; exact HBAD.out)
                  have HJ := Lib.hid hj
                  have t0 := HTD.out 0 _ rfl
                  clear hj
                  go_wp2_with fail
                  refine (fault_any (7) (t.s.id) _).mono ?_
                  rintro e wz ⟨rfl, hbz⟩
                  have HRz := Lib.hid (HRD.out.next hbz)
                  have HFz := Lib.hid (HFD.out.next hRD hbz)
                  have HBz := Lib.hid (HBD.out.trans (hbz.mono HBD.out.size))
                  clear hbz
                  have r0 := HRz.out 0 _ rfl
                  have r1 := HRz.out 1 _ rfl
                  have f0 := HFz.out 0
                  have f1 := HFz.out 1
                  go_wp2_with fail
                  have hq := box2 (x0 := .int .i64 7) (x1 := .int .i64 t.s.id) HRz.out
                  have q0 := hq 0 _ rfl
                  have q1 := hq 1 _ rfl
                  refine bodyPost_ret (v := .agg #[.int .i64 7, .int .i64 t.s.id]) (by simp [results, Try.results105, go_sem, q0, q1]) rfl ?_
                  exact ⟨by rw [← hRR.out, HJ.out], below2 HBz.out (by omega)⟩
              | false =>
                cases LB with
                | true =>
                  have HLEAD := Lib.hid (hlead.trans hLB.out)
                  go_upto_region 14 with fail
                  go_quiet (fail)
                  generalize hwd : wc.drewN _ = wd
                  have hbd : Below wc.heap.size wc wd := by rw [← hwd]; exact below_drewN (Below.refl _ _) _
                  clear hwd
                  have HTD := Lib.hid (HTC.out.next hbd)
                  have HRSD := Lib.hid (HRSC.out.next hbd)
                  have HBLD := Lib.hid (HBLC.out.trans (hbd.mono HBLC.out.size))
                  have HRD := Lib.hid (HR4.out.next HBLD.out)
                  have HFD := Lib.hid (HF4.out.next hR4 HBLD.out)
                  have HBD := Lib.hid (HB4.out.trans (HBLD.out.mono HB4.out.size))
                  have hRD : R < wd.heap.size := by have := HBLD.out.size; omega
                  clear hbd 
                  have HGOOD := Lib.hid (show pcJump f = jumpGo f (labLs ((stsOf f).take (q + 1))) (((stsOf f).zip (loopsOf f)).drop (q + 1)) by rw [HSTEP.out, HLEAD.out]; rfl)
                  have htn : twiceB (labLs ((stsOf f).take (q + 1))) = false := by rw [HST.out]; exact hTB.out
                  have HTN := Lib.hid htn
                  have hrn := HRSD.out
                  have hnx : pcJump f = jumpGo f (labLs ((stsOf f).take (q + 1))) (((stsOf f).zip (loopsOf f)).drop (q + 1)) := HGOOD.out
                  have HNX := Lib.hid hnx
                  rw [← HST.out] at hrn
                  have HRN := Lib.hid hrn
                  clear htn hrn hnx
                  go_wp2_with fail
                  go_roundw
                  case rel => exact ⟨q + 1, _, by omega, by go_num, rfl, by first | exact HRN.out | (rw [HST.out]; exact HRSD.out), HTN.out, HNX.out, HBLD.out⟩
                  case measure => simp [intOf]; omega
                | false =>
                  have HLEAD := Lib.hid (hlead.trans hLB.out)
                  go_upto_region 14 with fail
                  go_quiet (fail)
                  generalize hwd : wc.drewN _ = wd
                  have hbd : Below wc.heap.size wc wd := by rw [← hwd]; exact below_drewN (Below.refl _ _) _
                  clear hwd
                  have HTD := Lib.hid (HTC.out.next hbd)
                  have HRSD := Lib.hid (HRSC.out.next hbd)
                  have HBLD := Lib.hid (HBLC.out.trans (hbd.mono HBLC.out.size))
                  have HRD := Lib.hid (HR4.out.next HBLD.out)
                  have HFD := Lib.hid (HF4.out.next hR4 HBLD.out)
                  have HBD := Lib.hid (HB4.out.trans (HBLD.out.mono HB4.out.size))
                  have hRD : R < wd.heap.size := by have := HBLD.out.size; omega
                  clear hbd 
                  have HBAD : Hid (pcJump f = some t.s.id) := Lib.hid (by rw [HSTEP.out, HLEAD.out]; rfl)
                  have hj : jumpAt p = (7, t.s.id) := jump_at hlt (fun j hj hjk => HNO.out j hj hjk) (by rw [hf.out]; exact HBAD.out)
                  have HJ := Lib.hid hj
                  have t0 := HTD.out 0 _ rfl
                  clear hj
                  go_wp2_with fail
                  refine (fault_any (7) (t.s.id) _).mono ?_
                  rintro e wz ⟨rfl, hbz⟩
                  have HRz := Lib.hid (HRD.out.next hbz)
                  have HFz := Lib.hid (HFD.out.next hRD hbz)
                  have HBz := Lib.hid (HBD.out.trans (hbz.mono HBD.out.size))
                  clear hbz
                  have r0 := HRz.out 0 _ rfl
                  have r1 := HRz.out 1 _ rfl
                  have f0 := HFz.out 0
                  have f1 := HFz.out 1
                  go_wp2_with fail
                  have hq := box2 (x0 := .int .i64 7) (x1 := .int .i64 t.s.id) HRz.out
                  have q0 := hq 0 _ rfl
                  have q1 := hq 1 _ rfl
                  refine bodyPost_ret (v := .agg #[.int .i64 7, .int .i64 t.s.id]) (by simp [results, Try.results105, go_sem, q0, q1]) rfl ?_
                  exact ⟨by rw [← hRR.out, HJ.out], below2 HBz.out (by omega)⟩
            · have hb8 : (t.s.kind == 8) = false := by simpa using h8
              have hno : ¬ (t.s.kind = 7 ∨ t.s.kind = 8) := fun h => h.elim h7 h8
              by_cases h10 : t.s.kind = 10
              · have hb10 : (t.s.kind == 10) = true := by rw [h10]; rfl
                have hlead : leadsP f t.s lp = inB t.s.nm (labsOf f) := by unfold leadsP; rw [if_neg hno, if_pos h10]
                obtain ⟨NB, hNB⟩ : ∃ b, Hid ((at_ t.s.nm (labsOf f)).isSome = b) := ⟨_, Lib.hid rfl⟩
                clear h7 h8 h10 hno
                have t1 := HTC.out 1 _ rfl
                cases TB with
                | true =>
                  cases NB with
                  | true =>
                    have HLEAD := Lib.hid (hlead.trans hNB.out)
                    go_upto_region 14 with fail
                    have hq : Below wc.heap.size wc wc.drew := (Below.refl _ _).drew
                    have HY4C := Lib.hid (HY4.out.next HBLC.out)
                    refine wp_region_z (fun w' => BoxAt w' w6.heap.size [.int .i64 t.s.id, .int .i64 t.s.kind, .slice la t.s.labels.length lc, .string t.s.nm, .string t.s.proc, .int .i64 t.s.x.op, .int .i64 t.s.x.n, .string t.s.x.nm, .slice ka t.s.x.ks.length kc, .bool t.s.has, .slice aa t.s.args.length ac, .slice ta t.s.thn.length tc, .slice ea t.s.els.length ec, .int .i64 t.deep, .int .i64 t.inn, .bool t.els] ∧ BoxAt w' w2.heap.size [.string f.nm, .slice a1 f.params.length c1, .slice a2 f.vars.length c2, .slice a3 f.body.length c3, .slice a4 f.fin.length c4]) 13 (by kernel_rfl) ⟨HTC.out.next hq, HY4C.out.next hq⟩ (fun hS => ?_)
                    show wpAnyZ _ _ _ _ _ _ 13 #[false, false, false, false, false, false, false, false, false, false, false, false, false] _ _
                    refine' wpAnyN_take (i := 0) (oi := _) (v := _) rfl (by kernel_rfl) (by kernel_rfl) (by kernel_rfl) (by rfl) (fun _ _ _ h => h) (Or.inl ⟨by rfl, ?hyktt0⟩) hS ?restktt0
                    case hyktt0 => (intro w hSw; clear hSw; go_simp; (try with_reducible rfl))
                    try simp only [Act.put, List.getElem_toArray, List.getElem_cons_succ, List.getElem_cons_zero, List.setIfInBounds_toArray, List.set_cons_zero, List.set_cons_succ]
                    refine' wpAnyN_take (i := 1) (oi := _) (v := _) rfl (by kernel_rfl) (by kernel_rfl) (by kernel_rfl) (by rfl) (fun _ _ _ h => h) (Or.inl ⟨by rfl, ?hyktt1⟩) hS ?restktt1
                    case hyktt1 => (intro w hSw; clear hSw; go_simp; (try with_reducible rfl))
                    try simp only [Act.put, List.getElem_toArray, List.getElem_cons_succ, List.getElem_cons_zero, List.setIfInBounds_toArray, List.set_cons_zero, List.set_cons_succ]
                    refine' wpAnyN_take (i := 2) (oi := _) (v := _) rfl (by kernel_rfl) (by kernel_rfl) (by kernel_rfl) (by rfl) (fun _ _ _ h => h) (Or.inl ⟨by rfl, ?hyktt2⟩) hS ?restktt2
                    case hyktt2 => (intro w hSw; have c1 := hSw.1 1 _ rfl; clear hSw; go_simp; (try with_reducible rfl))
                    try simp only [Act.put, List.getElem_toArray, List.getElem_cons_succ, List.getElem_cons_zero, List.setIfInBounds_toArray, List.set_cons_zero, List.set_cons_succ]
                    refine' wpAnyN_take (i := 3) (oi := _) (v := _) rfl (by kernel_rfl) (by kernel_rfl) (by kernel_rfl) (by rfl) (fun _ _ _ h => h) (Or.inl ⟨by rfl, ?hyktt3⟩) hS ?restktt3
                    case hyktt3 => (intro w hSw; clear hSw; go_simp; (try with_reducible rfl))
                    try simp only [Act.put, List.getElem_toArray, List.getElem_cons_succ, List.getElem_cons_zero, List.setIfInBounds_toArray, List.set_cons_zero, List.set_cons_succ]
                    refine' wpAnyN_take (i := 4) (oi := _) (v := _) rfl (by kernel_rfl) (by kernel_rfl) (by kernel_rfl) (by rfl) (fun _ _ _ h => h) (Or.inl ⟨by rfl, ?hyktt4⟩) hS ?restktt4
                    case hyktt4 => (intro w hSw; clear hSw; go_simp; (try with_reducible rfl))
                    try simp only [Act.put, List.getElem_toArray, List.getElem_cons_succ, List.getElem_cons_zero, List.setIfInBounds_toArray, List.set_cons_zero, List.set_cons_succ]
                    refine' wpAnyN_take (i := 5) (oi := _) (v := _) rfl (by kernel_rfl) (by kernel_rfl) (by kernel_rfl) (by rfl) (fun _ _ _ h => h) (Or.inl ⟨by rfl, ?hyktt5⟩) hS ?restktt5
                    case hyktt5 => (intro w hSw; have c0 := hSw.2 0 _ rfl; have c1 := hSw.2 1 _ rfl; have c2 := hSw.2 2 _ rfl; have c3 := hSw.2 3 _ rfl; have c4 := hSw.2 4 _ rfl; clear hSw; go_simp; (try with_reducible rfl))
                    try simp only [Act.put, List.getElem_toArray, List.getElem_cons_succ, List.getElem_cons_zero, List.setIfInBounds_toArray, List.set_cons_zero, List.set_cons_succ]
                    refine' wpAnyN_take (i := 7) (oi := _) (v := _) rfl (by kernel_rfl) (by kernel_rfl) (by kernel_rfl) (by rfl) (fun _ _ _ h => h) (Or.inl ⟨by rfl, ?hyktt7⟩) hS ?restktt7
                    case hyktt7 => (intro w hSw; clear hSw; go_simp; (try with_reducible rfl))
                    try simp only [Act.put, List.getElem_toArray, List.getElem_cons_succ, List.getElem_cons_zero, List.setIfInBounds_toArray, List.set_cons_zero, List.set_cons_succ]
                    refine' wpAnyN_take (i := 8) (oi := _) (v := _) rfl (by kernel_rfl) (by kernel_rfl) (by kernel_rfl) (by rfl) (fun _ _ _ h => h) (Or.inl ⟨by rfl, ?hyktt8⟩) hS ?restktt8
                    case hyktt8 => (intro w hSw; clear hSw; go_simp; (try with_reducible rfl))
                    try simp only [Act.put, List.getElem_toArray, List.getElem_cons_succ, List.getElem_cons_zero, List.setIfInBounds_toArray, List.set_cons_zero, List.set_cons_succ]
                    refine' wpAnyN_take (i := 9) (oi := _) (v := _) rfl (by kernel_rfl) (by kernel_rfl) (by kernel_rfl) (by rfl) (fun _ _ _ h => h) (Or.inl ⟨by rfl, ?hyktt9⟩) hS ?restktt9
                    case hyktt9 => (intro w hSw; have c3 := hSw.1 3 _ rfl; clear hSw; go_simp; (try with_reducible rfl))
                    try simp only [Act.put, List.getElem_toArray, List.getElem_cons_succ, List.getElem_cons_zero, List.setIfInBounds_toArray, List.set_cons_zero, List.set_cons_succ]
                    refine' wpAnyZ_step (i := 6) (o := _) rfl (by kernel_rfl) (fun K hK => ?_)
                    go_simp
                    go_at_call 106
                    refine (rlabels_any d f a1 a2 a3 a4 c1 c2 c3 c4 _ (StC.mono (cw_next (HBLC.out.trans (hq.mono HBLC.out.size))) HC4.out) (HE4.out.next (HBLC.out.trans (hq.mono HBLC.out.size))) HFLAT.out HRF.out).mono ?_
                    rintro e wd ⟨vd, rfl, hrd, hbd⟩
                    have QD := Lib.hid (below_then hbd hq)
                    obtain ⟨da, dc, rfl⟩ := ownsForm hrd.1
                    have HSD := Lib.hid (hrd.strs (by have := HRF.out; omega))
                    clear hbd hrd
                    refine hK _ _ (fun _ => ⟨HTC.out.next QD.out, HY4C.out.next QD.out⟩) ?_
                    clear hK K
                    try simp only [Act.put, List.getElem_toArray, List.getElem_cons_succ, List.getElem_cons_zero, List.setIfInBounds_toArray, List.set_cons_zero, List.set_cons_succ]
                    refine' wpAnyZ_step (i := 10) (o := _) rfl (by kernel_rfl) (fun K hK => ?_)
                    go_simp
                    go_at_call 44
                    refine (in_any (labsOf f) _ t.s.nm _ HSD.out).mono ?_
                    rintro e w' ⟨rfl, rfl⟩
                    rw [hNB.out]
                    refine hK _ _ (fun _ => ⟨HTC.out.next QD.out, HY4C.out.next QD.out⟩) ?_
                    clear hK K
                    try simp only [Act.put, List.getElem_toArray, List.getElem_cons_succ, List.getElem_cons_zero, List.setIfInBounds_toArray, List.set_cons_zero, List.set_cons_succ]
                    refine' wpAnyZ_step (i := 11) (o := _) rfl (by kernel_rfl) (fun K hK => ?_)
                    go_simp
                    refine hK _ _ (fun _ => ⟨HTC.out.next QD.out, HY4C.out.next QD.out⟩) ?_
                    clear hK K
                    try simp only [Act.put, List.getElem_toArray, List.getElem_cons_succ, List.getElem_cons_zero, List.setIfInBounds_toArray, List.set_cons_zero, List.set_cons_succ]
                    refine' wpAnyZ_step (i := 12) (o := _) rfl (by kernel_rfl) (fun K hK => ?_)
                    go_simp
                    refine hK _ _ (fun _ => ⟨HTC.out.next QD.out, HY4C.out.next QD.out⟩) ?_
                    clear hK K
                    try simp only [Act.put, List.getElem_toArray, List.getElem_cons_succ, List.getElem_cons_zero, List.setIfInBounds_toArray, List.set_cons_zero, List.set_cons_succ]
                    refine wpAnyZ_done (by kernel_rfl) ?_ _
                    have HTD := Lib.hid (HTC.out.next QD.out)
                    have HRSD := Lib.hid (HRSC.out.next QD.out)
                    have HBLD := Lib.hid (HBLC.out.trans (QD.out.mono HBLC.out.size))
                    have HRD := Lib.hid (HR4.out.next HBLD.out)
                    have HFD := Lib.hid (HF4.out.next hR4 HBLD.out)
                    have HBD := Lib.hid (HB4.out.trans (HBLD.out.mono HB4.out.size))
                    have hRD : R < wd.heap.size := by have := HBLD.out.size; omega
                    clear hS hq
                    have HBAD : Hid (pcJump f = some t.s.id) := Lib.hid (by rw [HSTEP.out, HLEAD.out]; rfl)
                    have hj : jumpAt p = (7, t.s.id) := jump_at hlt (fun j hj hjk => HNO.out j hj hjk) (by rw [hf.out]; exact HBAD.out)
                    have HJ := Lib.hid hj
                    have t0 := HTD.out 0 _ rfl
                    clear hj
                    go_wp2_with fail
                    refine (fault_any (7) (t.s.id) _).mono ?_
                    rintro e wz ⟨rfl, hbz⟩
                    have HRz := Lib.hid (HRD.out.next hbz)
                    have HFz := Lib.hid (HFD.out.next hRD hbz)
                    have HBz := Lib.hid (HBD.out.trans (hbz.mono HBD.out.size))
                    clear hbz
                    have r0 := HRz.out 0 _ rfl
                    have r1 := HRz.out 1 _ rfl
                    have f0 := HFz.out 0
                    have f1 := HFz.out 1
                    go_wp2_with fail
                    have hq := box2 (x0 := .int .i64 7) (x1 := .int .i64 t.s.id) HRz.out
                    have q0 := hq 0 _ rfl
                    have q1 := hq 1 _ rfl
                    refine bodyPost_ret (v := .agg #[.int .i64 7, .int .i64 t.s.id]) (by simp [results, Try.results105, go_sem, q0, q1]) rfl ?_
                    exact ⟨by rw [← hRR.out, HJ.out], below2 HBz.out (by omega)⟩
                  | false =>
                    have HLEAD := Lib.hid (hlead.trans hNB.out)
                    go_upto_region 14 with fail
                    have hq : Below wc.heap.size wc wc.drew := (Below.refl _ _).drew
                    have HY4C := Lib.hid (HY4.out.next HBLC.out)
                    refine wp_region_z (fun w' => BoxAt w' w6.heap.size [.int .i64 t.s.id, .int .i64 t.s.kind, .slice la t.s.labels.length lc, .string t.s.nm, .string t.s.proc, .int .i64 t.s.x.op, .int .i64 t.s.x.n, .string t.s.x.nm, .slice ka t.s.x.ks.length kc, .bool t.s.has, .slice aa t.s.args.length ac, .slice ta t.s.thn.length tc, .slice ea t.s.els.length ec, .int .i64 t.deep, .int .i64 t.inn, .bool t.els] ∧ BoxAt w' w2.heap.size [.string f.nm, .slice a1 f.params.length c1, .slice a2 f.vars.length c2, .slice a3 f.body.length c3, .slice a4 f.fin.length c4]) 13 (by kernel_rfl) ⟨HTC.out.next hq, HY4C.out.next hq⟩ (fun hS => ?_)
                    show wpAnyZ _ _ _ _ _ _ 13 #[false, false, false, false, false, false, false, false, false, false, false, false, false] _ _
                    refine' wpAnyN_take (i := 0) (oi := _) (v := _) rfl (by kernel_rfl) (by kernel_rfl) (by kernel_rfl) (by rfl) (fun _ _ _ h => h) (Or.inl ⟨by rfl, ?hyktf0⟩) hS ?restktf0
                    case hyktf0 => (intro w hSw; clear hSw; go_simp; (try with_reducible rfl))
                    try simp only [Act.put, List.getElem_toArray, List.getElem_cons_succ, List.getElem_cons_zero, List.setIfInBounds_toArray, List.set_cons_zero, List.set_cons_succ]
                    refine' wpAnyN_take (i := 1) (oi := _) (v := _) rfl (by kernel_rfl) (by kernel_rfl) (by kernel_rfl) (by rfl) (fun _ _ _ h => h) (Or.inl ⟨by rfl, ?hyktf1⟩) hS ?restktf1
                    case hyktf1 => (intro w hSw; clear hSw; go_simp; (try with_reducible rfl))
                    try simp only [Act.put, List.getElem_toArray, List.getElem_cons_succ, List.getElem_cons_zero, List.setIfInBounds_toArray, List.set_cons_zero, List.set_cons_succ]
                    refine' wpAnyN_take (i := 2) (oi := _) (v := _) rfl (by kernel_rfl) (by kernel_rfl) (by kernel_rfl) (by rfl) (fun _ _ _ h => h) (Or.inl ⟨by rfl, ?hyktf2⟩) hS ?restktf2
                    case hyktf2 => (intro w hSw; have c1 := hSw.1 1 _ rfl; clear hSw; go_simp; (try with_reducible rfl))
                    try simp only [Act.put, List.getElem_toArray, List.getElem_cons_succ, List.getElem_cons_zero, List.setIfInBounds_toArray, List.set_cons_zero, List.set_cons_succ]
                    refine' wpAnyN_take (i := 3) (oi := _) (v := _) rfl (by kernel_rfl) (by kernel_rfl) (by kernel_rfl) (by rfl) (fun _ _ _ h => h) (Or.inl ⟨by rfl, ?hyktf3⟩) hS ?restktf3
                    case hyktf3 => (intro w hSw; clear hSw; go_simp; (try with_reducible rfl))
                    try simp only [Act.put, List.getElem_toArray, List.getElem_cons_succ, List.getElem_cons_zero, List.setIfInBounds_toArray, List.set_cons_zero, List.set_cons_succ]
                    refine' wpAnyN_take (i := 4) (oi := _) (v := _) rfl (by kernel_rfl) (by kernel_rfl) (by kernel_rfl) (by rfl) (fun _ _ _ h => h) (Or.inl ⟨by rfl, ?hyktf4⟩) hS ?restktf4
                    case hyktf4 => (intro w hSw; clear hSw; go_simp; (try with_reducible rfl))
                    try simp only [Act.put, List.getElem_toArray, List.getElem_cons_succ, List.getElem_cons_zero, List.setIfInBounds_toArray, List.set_cons_zero, List.set_cons_succ]
                    refine' wpAnyN_take (i := 5) (oi := _) (v := _) rfl (by kernel_rfl) (by kernel_rfl) (by kernel_rfl) (by rfl) (fun _ _ _ h => h) (Or.inl ⟨by rfl, ?hyktf5⟩) hS ?restktf5
                    case hyktf5 => (intro w hSw; have c0 := hSw.2 0 _ rfl; have c1 := hSw.2 1 _ rfl; have c2 := hSw.2 2 _ rfl; have c3 := hSw.2 3 _ rfl; have c4 := hSw.2 4 _ rfl; clear hSw; go_simp; (try with_reducible rfl))
                    try simp only [Act.put, List.getElem_toArray, List.getElem_cons_succ, List.getElem_cons_zero, List.setIfInBounds_toArray, List.set_cons_zero, List.set_cons_succ]
                    refine' wpAnyN_take (i := 7) (oi := _) (v := _) rfl (by kernel_rfl) (by kernel_rfl) (by kernel_rfl) (by rfl) (fun _ _ _ h => h) (Or.inl ⟨by rfl, ?hyktf7⟩) hS ?restktf7
                    case hyktf7 => (intro w hSw; clear hSw; go_simp; (try with_reducible rfl))
                    try simp only [Act.put, List.getElem_toArray, List.getElem_cons_succ, List.getElem_cons_zero, List.setIfInBounds_toArray, List.set_cons_zero, List.set_cons_succ]
                    refine' wpAnyN_take (i := 8) (oi := _) (v := _) rfl (by kernel_rfl) (by kernel_rfl) (by kernel_rfl) (by rfl) (fun _ _ _ h => h) (Or.inl ⟨by rfl, ?hyktf8⟩) hS ?restktf8
                    case hyktf8 => (intro w hSw; clear hSw; go_simp; (try with_reducible rfl))
                    try simp only [Act.put, List.getElem_toArray, List.getElem_cons_succ, List.getElem_cons_zero, List.setIfInBounds_toArray, List.set_cons_zero, List.set_cons_succ]
                    refine' wpAnyN_take (i := 9) (oi := _) (v := _) rfl (by kernel_rfl) (by kernel_rfl) (by kernel_rfl) (by rfl) (fun _ _ _ h => h) (Or.inl ⟨by rfl, ?hyktf9⟩) hS ?restktf9
                    case hyktf9 => (intro w hSw; have c3 := hSw.1 3 _ rfl; clear hSw; go_simp; (try with_reducible rfl))
                    try simp only [Act.put, List.getElem_toArray, List.getElem_cons_succ, List.getElem_cons_zero, List.setIfInBounds_toArray, List.set_cons_zero, List.set_cons_succ]
                    refine' wpAnyZ_step (i := 6) (o := _) rfl (by kernel_rfl) (fun K hK => ?_)
                    go_simp
                    go_at_call 106
                    refine (rlabels_any d f a1 a2 a3 a4 c1 c2 c3 c4 _ (StC.mono (cw_next (HBLC.out.trans (hq.mono HBLC.out.size))) HC4.out) (HE4.out.next (HBLC.out.trans (hq.mono HBLC.out.size))) HFLAT.out HRF.out).mono ?_
                    rintro e wd ⟨vd, rfl, hrd, hbd⟩
                    have QD := Lib.hid (below_then hbd hq)
                    obtain ⟨da, dc, rfl⟩ := ownsForm hrd.1
                    have HSD := Lib.hid (hrd.strs (by have := HRF.out; omega))
                    clear hbd hrd
                    refine hK _ _ (fun _ => ⟨HTC.out.next QD.out, HY4C.out.next QD.out⟩) ?_
                    clear hK K
                    try simp only [Act.put, List.getElem_toArray, List.getElem_cons_succ, List.getElem_cons_zero, List.setIfInBounds_toArray, List.set_cons_zero, List.set_cons_succ]
                    refine' wpAnyZ_step (i := 10) (o := _) rfl (by kernel_rfl) (fun K hK => ?_)
                    go_simp
                    go_at_call 44
                    refine (in_any (labsOf f) _ t.s.nm _ HSD.out).mono ?_
                    rintro e w' ⟨rfl, rfl⟩
                    rw [hNB.out]
                    refine hK _ _ (fun _ => ⟨HTC.out.next QD.out, HY4C.out.next QD.out⟩) ?_
                    clear hK K
                    try simp only [Act.put, List.getElem_toArray, List.getElem_cons_succ, List.getElem_cons_zero, List.setIfInBounds_toArray, List.set_cons_zero, List.set_cons_succ]
                    refine' wpAnyZ_step (i := 11) (o := _) rfl (by kernel_rfl) (fun K hK => ?_)
                    go_simp
                    refine hK _ _ (fun _ => ⟨HTC.out.next QD.out, HY4C.out.next QD.out⟩) ?_
                    clear hK K
                    try simp only [Act.put, List.getElem_toArray, List.getElem_cons_succ, List.getElem_cons_zero, List.setIfInBounds_toArray, List.set_cons_zero, List.set_cons_succ]
                    refine' wpAnyZ_step (i := 12) (o := _) rfl (by kernel_rfl) (fun K hK => ?_)
                    go_simp
                    refine hK _ _ (fun _ => ⟨HTC.out.next QD.out, HY4C.out.next QD.out⟩) ?_
                    clear hK K
                    try simp only [Act.put, List.getElem_toArray, List.getElem_cons_succ, List.getElem_cons_zero, List.setIfInBounds_toArray, List.set_cons_zero, List.set_cons_succ]
                    refine wpAnyZ_done (by kernel_rfl) ?_ _
                    have HTD := Lib.hid (HTC.out.next QD.out)
                    have HRSD := Lib.hid (HRSC.out.next QD.out)
                    have HBLD := Lib.hid (HBLC.out.trans (QD.out.mono HBLC.out.size))
                    have HRD := Lib.hid (HR4.out.next HBLD.out)
                    have HFD := Lib.hid (HF4.out.next hR4 HBLD.out)
                    have HBD := Lib.hid (HB4.out.trans (HBLD.out.mono HB4.out.size))
                    have hRD : R < wd.heap.size := by have := HBLD.out.size; omega
                    clear hS hq
                    have HBAD : Hid (pcJump f = some t.s.id) := Lib.hid (by rw [HSTEP.out, HLEAD.out]; rfl)
                    have hj : jumpAt p = (7, t.s.id) := jump_at hlt (fun j hj hjk => HNO.out j hj hjk) (by rw [hf.out]; exact HBAD.out)
                    have HJ := Lib.hid hj
                    have t0 := HTD.out 0 _ rfl
                    clear hj
                    go_wp2_with fail
                    refine (fault_any (7) (t.s.id) _).mono ?_
                    rintro e wz ⟨rfl, hbz⟩
                    have HRz := Lib.hid (HRD.out.next hbz)
                    have HFz := Lib.hid (HFD.out.next hRD hbz)
                    have HBz := Lib.hid (HBD.out.trans (hbz.mono HBD.out.size))
                    clear hbz
                    have r0 := HRz.out 0 _ rfl
                    have r1 := HRz.out 1 _ rfl
                    have f0 := HFz.out 0
                    have f1 := HFz.out 1
                    go_wp2_with fail
                    have hq := box2 (x0 := .int .i64 7) (x1 := .int .i64 t.s.id) HRz.out
                    have q0 := hq 0 _ rfl
                    have q1 := hq 1 _ rfl
                    refine bodyPost_ret (v := .agg #[.int .i64 7, .int .i64 t.s.id]) (by simp [results, Try.results105, go_sem, q0, q1]) rfl ?_
                    exact ⟨by rw [← hRR.out, HJ.out], below2 HBz.out (by omega)⟩
                | false =>
                  cases NB with
                  | true =>
                    have HLEAD := Lib.hid (hlead.trans hNB.out)
                    go_upto_region 14 with fail
                    have hq : Below wc.heap.size wc wc.drew := (Below.refl _ _).drew
                    have HY4C := Lib.hid (HY4.out.next HBLC.out)
                    refine wp_region_z (fun w' => BoxAt w' w6.heap.size [.int .i64 t.s.id, .int .i64 t.s.kind, .slice la t.s.labels.length lc, .string t.s.nm, .string t.s.proc, .int .i64 t.s.x.op, .int .i64 t.s.x.n, .string t.s.x.nm, .slice ka t.s.x.ks.length kc, .bool t.s.has, .slice aa t.s.args.length ac, .slice ta t.s.thn.length tc, .slice ea t.s.els.length ec, .int .i64 t.deep, .int .i64 t.inn, .bool t.els] ∧ BoxAt w' w2.heap.size [.string f.nm, .slice a1 f.params.length c1, .slice a2 f.vars.length c2, .slice a3 f.body.length c3, .slice a4 f.fin.length c4]) 13 (by kernel_rfl) ⟨HTC.out.next hq, HY4C.out.next hq⟩ (fun hS => ?_)
                    show wpAnyZ _ _ _ _ _ _ 13 #[false, false, false, false, false, false, false, false, false, false, false, false, false] _ _
                    refine' wpAnyN_take (i := 0) (oi := _) (v := _) rfl (by kernel_rfl) (by kernel_rfl) (by kernel_rfl) (by rfl) (fun _ _ _ h => h) (Or.inl ⟨by rfl, ?hykft0⟩) hS ?restkft0
                    case hykft0 => (intro w hSw; clear hSw; go_simp; (try with_reducible rfl))
                    try simp only [Act.put, List.getElem_toArray, List.getElem_cons_succ, List.getElem_cons_zero, List.setIfInBounds_toArray, List.set_cons_zero, List.set_cons_succ]
                    refine' wpAnyN_take (i := 1) (oi := _) (v := _) rfl (by kernel_rfl) (by kernel_rfl) (by kernel_rfl) (by rfl) (fun _ _ _ h => h) (Or.inl ⟨by rfl, ?hykft1⟩) hS ?restkft1
                    case hykft1 => (intro w hSw; clear hSw; go_simp; (try with_reducible rfl))
                    try simp only [Act.put, List.getElem_toArray, List.getElem_cons_succ, List.getElem_cons_zero, List.setIfInBounds_toArray, List.set_cons_zero, List.set_cons_succ]
                    refine' wpAnyN_take (i := 2) (oi := _) (v := _) rfl (by kernel_rfl) (by kernel_rfl) (by kernel_rfl) (by rfl) (fun _ _ _ h => h) (Or.inl ⟨by rfl, ?hykft2⟩) hS ?restkft2
                    case hykft2 => (intro w hSw; have c1 := hSw.1 1 _ rfl; clear hSw; go_simp; (try with_reducible rfl))
                    try simp only [Act.put, List.getElem_toArray, List.getElem_cons_succ, List.getElem_cons_zero, List.setIfInBounds_toArray, List.set_cons_zero, List.set_cons_succ]
                    refine' wpAnyN_take (i := 3) (oi := _) (v := _) rfl (by kernel_rfl) (by kernel_rfl) (by kernel_rfl) (by rfl) (fun _ _ _ h => h) (Or.inl ⟨by rfl, ?hykft3⟩) hS ?restkft3
                    case hykft3 => (intro w hSw; clear hSw; go_simp; (try with_reducible rfl))
                    try simp only [Act.put, List.getElem_toArray, List.getElem_cons_succ, List.getElem_cons_zero, List.setIfInBounds_toArray, List.set_cons_zero, List.set_cons_succ]
                    refine' wpAnyN_take (i := 4) (oi := _) (v := _) rfl (by kernel_rfl) (by kernel_rfl) (by kernel_rfl) (by rfl) (fun _ _ _ h => h) (Or.inl ⟨by rfl, ?hykft4⟩) hS ?restkft4
                    case hykft4 => (intro w hSw; clear hSw; go_simp; (try with_reducible rfl))
                    try simp only [Act.put, List.getElem_toArray, List.getElem_cons_succ, List.getElem_cons_zero, List.setIfInBounds_toArray, List.set_cons_zero, List.set_cons_succ]
                    refine' wpAnyN_take (i := 5) (oi := _) (v := _) rfl (by kernel_rfl) (by kernel_rfl) (by kernel_rfl) (by rfl) (fun _ _ _ h => h) (Or.inl ⟨by rfl, ?hykft5⟩) hS ?restkft5
                    case hykft5 => (intro w hSw; have c0 := hSw.2 0 _ rfl; have c1 := hSw.2 1 _ rfl; have c2 := hSw.2 2 _ rfl; have c3 := hSw.2 3 _ rfl; have c4 := hSw.2 4 _ rfl; clear hSw; go_simp; (try with_reducible rfl))
                    try simp only [Act.put, List.getElem_toArray, List.getElem_cons_succ, List.getElem_cons_zero, List.setIfInBounds_toArray, List.set_cons_zero, List.set_cons_succ]
                    refine' wpAnyN_take (i := 7) (oi := _) (v := _) rfl (by kernel_rfl) (by kernel_rfl) (by kernel_rfl) (by rfl) (fun _ _ _ h => h) (Or.inl ⟨by rfl, ?hykft7⟩) hS ?restkft7
                    case hykft7 => (intro w hSw; clear hSw; go_simp; (try with_reducible rfl))
                    try simp only [Act.put, List.getElem_toArray, List.getElem_cons_succ, List.getElem_cons_zero, List.setIfInBounds_toArray, List.set_cons_zero, List.set_cons_succ]
                    refine' wpAnyN_take (i := 8) (oi := _) (v := _) rfl (by kernel_rfl) (by kernel_rfl) (by kernel_rfl) (by rfl) (fun _ _ _ h => h) (Or.inl ⟨by rfl, ?hykft8⟩) hS ?restkft8
                    case hykft8 => (intro w hSw; clear hSw; go_simp; (try with_reducible rfl))
                    try simp only [Act.put, List.getElem_toArray, List.getElem_cons_succ, List.getElem_cons_zero, List.setIfInBounds_toArray, List.set_cons_zero, List.set_cons_succ]
                    refine' wpAnyN_take (i := 9) (oi := _) (v := _) rfl (by kernel_rfl) (by kernel_rfl) (by kernel_rfl) (by rfl) (fun _ _ _ h => h) (Or.inl ⟨by rfl, ?hykft9⟩) hS ?restkft9
                    case hykft9 => (intro w hSw; have c3 := hSw.1 3 _ rfl; clear hSw; go_simp; (try with_reducible rfl))
                    try simp only [Act.put, List.getElem_toArray, List.getElem_cons_succ, List.getElem_cons_zero, List.setIfInBounds_toArray, List.set_cons_zero, List.set_cons_succ]
                    refine' wpAnyZ_step (i := 6) (o := _) rfl (by kernel_rfl) (fun K hK => ?_)
                    go_simp
                    go_at_call 106
                    refine (rlabels_any d f a1 a2 a3 a4 c1 c2 c3 c4 _ (StC.mono (cw_next (HBLC.out.trans (hq.mono HBLC.out.size))) HC4.out) (HE4.out.next (HBLC.out.trans (hq.mono HBLC.out.size))) HFLAT.out HRF.out).mono ?_
                    rintro e wd ⟨vd, rfl, hrd, hbd⟩
                    have QD := Lib.hid (below_then hbd hq)
                    obtain ⟨da, dc, rfl⟩ := ownsForm hrd.1
                    have HSD := Lib.hid (hrd.strs (by have := HRF.out; omega))
                    clear hbd hrd
                    refine hK _ _ (fun _ => ⟨HTC.out.next QD.out, HY4C.out.next QD.out⟩) ?_
                    clear hK K
                    try simp only [Act.put, List.getElem_toArray, List.getElem_cons_succ, List.getElem_cons_zero, List.setIfInBounds_toArray, List.set_cons_zero, List.set_cons_succ]
                    refine' wpAnyZ_step (i := 10) (o := _) rfl (by kernel_rfl) (fun K hK => ?_)
                    go_simp
                    go_at_call 44
                    refine (in_any (labsOf f) _ t.s.nm _ HSD.out).mono ?_
                    rintro e w' ⟨rfl, rfl⟩
                    rw [hNB.out]
                    refine hK _ _ (fun _ => ⟨HTC.out.next QD.out, HY4C.out.next QD.out⟩) ?_
                    clear hK K
                    try simp only [Act.put, List.getElem_toArray, List.getElem_cons_succ, List.getElem_cons_zero, List.setIfInBounds_toArray, List.set_cons_zero, List.set_cons_succ]
                    refine' wpAnyZ_step (i := 11) (o := _) rfl (by kernel_rfl) (fun K hK => ?_)
                    go_simp
                    refine hK _ _ (fun _ => ⟨HTC.out.next QD.out, HY4C.out.next QD.out⟩) ?_
                    clear hK K
                    try simp only [Act.put, List.getElem_toArray, List.getElem_cons_succ, List.getElem_cons_zero, List.setIfInBounds_toArray, List.set_cons_zero, List.set_cons_succ]
                    refine' wpAnyZ_step (i := 12) (o := _) rfl (by kernel_rfl) (fun K hK => ?_)
                    go_simp
                    refine hK _ _ (fun _ => ⟨HTC.out.next QD.out, HY4C.out.next QD.out⟩) ?_
                    clear hK K
                    try simp only [Act.put, List.getElem_toArray, List.getElem_cons_succ, List.getElem_cons_zero, List.setIfInBounds_toArray, List.set_cons_zero, List.set_cons_succ]
                    refine wpAnyZ_done (by kernel_rfl) ?_ _
                    have HTD := Lib.hid (HTC.out.next QD.out)
                    have HRSD := Lib.hid (HRSC.out.next QD.out)
                    have HBLD := Lib.hid (HBLC.out.trans (QD.out.mono HBLC.out.size))
                    have HRD := Lib.hid (HR4.out.next HBLD.out)
                    have HFD := Lib.hid (HF4.out.next hR4 HBLD.out)
                    have HBD := Lib.hid (HB4.out.trans (HBLD.out.mono HB4.out.size))
                    have hRD : R < wd.heap.size := by have := HBLD.out.size; omega
                    clear hS hq
                    have HGOOD := Lib.hid (show pcJump f = jumpGo f (labLs ((stsOf f).take (q + 1))) (((stsOf f).zip (loopsOf f)).drop (q + 1)) by rw [HSTEP.out, HLEAD.out]; rfl)
                    have htn : twiceB (labLs ((stsOf f).take (q + 1))) = false := by rw [HST.out]; exact hTB.out
                    have HTN := Lib.hid htn
                    have hrn := HRSD.out
                    have hnx : pcJump f = jumpGo f (labLs ((stsOf f).take (q + 1))) (((stsOf f).zip (loopsOf f)).drop (q + 1)) := HGOOD.out
                    have HNX := Lib.hid hnx
                    rw [← HST.out] at hrn
                    have HRN := Lib.hid hrn
                    clear htn hrn hnx
                    go_wp2_with fail
                    go_roundw
                    case rel => exact ⟨q + 1, _, by omega, by go_num, rfl, by first | exact HRN.out | (rw [HST.out]; exact HRSD.out), HTN.out, HNX.out, HBLD.out⟩
                    case measure => simp [intOf]; omega
                  | false =>
                    have HLEAD := Lib.hid (hlead.trans hNB.out)
                    go_upto_region 14 with fail
                    have hq : Below wc.heap.size wc wc.drew := (Below.refl _ _).drew
                    have HY4C := Lib.hid (HY4.out.next HBLC.out)
                    refine wp_region_z (fun w' => BoxAt w' w6.heap.size [.int .i64 t.s.id, .int .i64 t.s.kind, .slice la t.s.labels.length lc, .string t.s.nm, .string t.s.proc, .int .i64 t.s.x.op, .int .i64 t.s.x.n, .string t.s.x.nm, .slice ka t.s.x.ks.length kc, .bool t.s.has, .slice aa t.s.args.length ac, .slice ta t.s.thn.length tc, .slice ea t.s.els.length ec, .int .i64 t.deep, .int .i64 t.inn, .bool t.els] ∧ BoxAt w' w2.heap.size [.string f.nm, .slice a1 f.params.length c1, .slice a2 f.vars.length c2, .slice a3 f.body.length c3, .slice a4 f.fin.length c4]) 13 (by kernel_rfl) ⟨HTC.out.next hq, HY4C.out.next hq⟩ (fun hS => ?_)
                    show wpAnyZ _ _ _ _ _ _ 13 #[false, false, false, false, false, false, false, false, false, false, false, false, false] _ _
                    refine' wpAnyN_take (i := 0) (oi := _) (v := _) rfl (by kernel_rfl) (by kernel_rfl) (by kernel_rfl) (by rfl) (fun _ _ _ h => h) (Or.inl ⟨by rfl, ?hykff0⟩) hS ?restkff0
                    case hykff0 => (intro w hSw; clear hSw; go_simp; (try with_reducible rfl))
                    try simp only [Act.put, List.getElem_toArray, List.getElem_cons_succ, List.getElem_cons_zero, List.setIfInBounds_toArray, List.set_cons_zero, List.set_cons_succ]
                    refine' wpAnyN_take (i := 1) (oi := _) (v := _) rfl (by kernel_rfl) (by kernel_rfl) (by kernel_rfl) (by rfl) (fun _ _ _ h => h) (Or.inl ⟨by rfl, ?hykff1⟩) hS ?restkff1
                    case hykff1 => (intro w hSw; clear hSw; go_simp; (try with_reducible rfl))
                    try simp only [Act.put, List.getElem_toArray, List.getElem_cons_succ, List.getElem_cons_zero, List.setIfInBounds_toArray, List.set_cons_zero, List.set_cons_succ]
                    refine' wpAnyN_take (i := 2) (oi := _) (v := _) rfl (by kernel_rfl) (by kernel_rfl) (by kernel_rfl) (by rfl) (fun _ _ _ h => h) (Or.inl ⟨by rfl, ?hykff2⟩) hS ?restkff2
                    case hykff2 => (intro w hSw; have c1 := hSw.1 1 _ rfl; clear hSw; go_simp; (try with_reducible rfl))
                    try simp only [Act.put, List.getElem_toArray, List.getElem_cons_succ, List.getElem_cons_zero, List.setIfInBounds_toArray, List.set_cons_zero, List.set_cons_succ]
                    refine' wpAnyN_take (i := 3) (oi := _) (v := _) rfl (by kernel_rfl) (by kernel_rfl) (by kernel_rfl) (by rfl) (fun _ _ _ h => h) (Or.inl ⟨by rfl, ?hykff3⟩) hS ?restkff3
                    case hykff3 => (intro w hSw; clear hSw; go_simp; (try with_reducible rfl))
                    try simp only [Act.put, List.getElem_toArray, List.getElem_cons_succ, List.getElem_cons_zero, List.setIfInBounds_toArray, List.set_cons_zero, List.set_cons_succ]
                    refine' wpAnyN_take (i := 4) (oi := _) (v := _) rfl (by kernel_rfl) (by kernel_rfl) (by kernel_rfl) (by rfl) (fun _ _ _ h => h) (Or.inl ⟨by rfl, ?hykff4⟩) hS ?restkff4
                    case hykff4 => (intro w hSw; clear hSw; go_simp; (try with_reducible rfl))
                    try simp only [Act.put, List.getElem_toArray, List.getElem_cons_succ, List.getElem_cons_zero, List.setIfInBounds_toArray, List.set_cons_zero, List.set_cons_succ]
                    refine' wpAnyN_take (i := 5) (oi := _) (v := _) rfl (by kernel_rfl) (by kernel_rfl) (by kernel_rfl) (by rfl) (fun _ _ _ h => h) (Or.inl ⟨by rfl, ?hykff5⟩) hS ?restkff5
                    case hykff5 => (intro w hSw; have c0 := hSw.2 0 _ rfl; have c1 := hSw.2 1 _ rfl; have c2 := hSw.2 2 _ rfl; have c3 := hSw.2 3 _ rfl; have c4 := hSw.2 4 _ rfl; clear hSw; go_simp; (try with_reducible rfl))
                    try simp only [Act.put, List.getElem_toArray, List.getElem_cons_succ, List.getElem_cons_zero, List.setIfInBounds_toArray, List.set_cons_zero, List.set_cons_succ]
                    refine' wpAnyN_take (i := 7) (oi := _) (v := _) rfl (by kernel_rfl) (by kernel_rfl) (by kernel_rfl) (by rfl) (fun _ _ _ h => h) (Or.inl ⟨by rfl, ?hykff7⟩) hS ?restkff7
                    case hykff7 => (intro w hSw; clear hSw; go_simp; (try with_reducible rfl))
                    try simp only [Act.put, List.getElem_toArray, List.getElem_cons_succ, List.getElem_cons_zero, List.setIfInBounds_toArray, List.set_cons_zero, List.set_cons_succ]
                    refine' wpAnyN_take (i := 8) (oi := _) (v := _) rfl (by kernel_rfl) (by kernel_rfl) (by kernel_rfl) (by rfl) (fun _ _ _ h => h) (Or.inl ⟨by rfl, ?hykff8⟩) hS ?restkff8
                    case hykff8 => (intro w hSw; clear hSw; go_simp; (try with_reducible rfl))
                    try simp only [Act.put, List.getElem_toArray, List.getElem_cons_succ, List.getElem_cons_zero, List.setIfInBounds_toArray, List.set_cons_zero, List.set_cons_succ]
                    refine' wpAnyN_take (i := 9) (oi := _) (v := _) rfl (by kernel_rfl) (by kernel_rfl) (by kernel_rfl) (by rfl) (fun _ _ _ h => h) (Or.inl ⟨by rfl, ?hykff9⟩) hS ?restkff9
                    case hykff9 => (intro w hSw; have c3 := hSw.1 3 _ rfl; clear hSw; go_simp; (try with_reducible rfl))
                    try simp only [Act.put, List.getElem_toArray, List.getElem_cons_succ, List.getElem_cons_zero, List.setIfInBounds_toArray, List.set_cons_zero, List.set_cons_succ]
                    refine' wpAnyZ_step (i := 6) (o := _) rfl (by kernel_rfl) (fun K hK => ?_)
                    go_simp
                    go_at_call 106
                    refine (rlabels_any d f a1 a2 a3 a4 c1 c2 c3 c4 _ (StC.mono (cw_next (HBLC.out.trans (hq.mono HBLC.out.size))) HC4.out) (HE4.out.next (HBLC.out.trans (hq.mono HBLC.out.size))) HFLAT.out HRF.out).mono ?_
                    rintro e wd ⟨vd, rfl, hrd, hbd⟩
                    have QD := Lib.hid (below_then hbd hq)
                    obtain ⟨da, dc, rfl⟩ := ownsForm hrd.1
                    have HSD := Lib.hid (hrd.strs (by have := HRF.out; omega))
                    clear hbd hrd
                    refine hK _ _ (fun _ => ⟨HTC.out.next QD.out, HY4C.out.next QD.out⟩) ?_
                    clear hK K
                    try simp only [Act.put, List.getElem_toArray, List.getElem_cons_succ, List.getElem_cons_zero, List.setIfInBounds_toArray, List.set_cons_zero, List.set_cons_succ]
                    refine' wpAnyZ_step (i := 10) (o := _) rfl (by kernel_rfl) (fun K hK => ?_)
                    go_simp
                    go_at_call 44
                    refine (in_any (labsOf f) _ t.s.nm _ HSD.out).mono ?_
                    rintro e w' ⟨rfl, rfl⟩
                    rw [hNB.out]
                    refine hK _ _ (fun _ => ⟨HTC.out.next QD.out, HY4C.out.next QD.out⟩) ?_
                    clear hK K
                    try simp only [Act.put, List.getElem_toArray, List.getElem_cons_succ, List.getElem_cons_zero, List.setIfInBounds_toArray, List.set_cons_zero, List.set_cons_succ]
                    refine' wpAnyZ_step (i := 11) (o := _) rfl (by kernel_rfl) (fun K hK => ?_)
                    go_simp
                    refine hK _ _ (fun _ => ⟨HTC.out.next QD.out, HY4C.out.next QD.out⟩) ?_
                    clear hK K
                    try simp only [Act.put, List.getElem_toArray, List.getElem_cons_succ, List.getElem_cons_zero, List.setIfInBounds_toArray, List.set_cons_zero, List.set_cons_succ]
                    refine' wpAnyZ_step (i := 12) (o := _) rfl (by kernel_rfl) (fun K hK => ?_)
                    go_simp
                    refine hK _ _ (fun _ => ⟨HTC.out.next QD.out, HY4C.out.next QD.out⟩) ?_
                    clear hK K
                    try simp only [Act.put, List.getElem_toArray, List.getElem_cons_succ, List.getElem_cons_zero, List.setIfInBounds_toArray, List.set_cons_zero, List.set_cons_succ]
                    refine wpAnyZ_done (by kernel_rfl) ?_ _
                    have HTD := Lib.hid (HTC.out.next QD.out)
                    have HRSD := Lib.hid (HRSC.out.next QD.out)
                    have HBLD := Lib.hid (HBLC.out.trans (QD.out.mono HBLC.out.size))
                    have HRD := Lib.hid (HR4.out.next HBLD.out)
                    have HFD := Lib.hid (HF4.out.next hR4 HBLD.out)
                    have HBD := Lib.hid (HB4.out.trans (HBLD.out.mono HB4.out.size))
                    have hRD : R < wd.heap.size := by have := HBLD.out.size; omega
                    clear hS hq
                    have HBAD : Hid (pcJump f = some t.s.id) := Lib.hid (by rw [HSTEP.out, HLEAD.out]; rfl)
                    have hj : jumpAt p = (7, t.s.id) := jump_at hlt (fun j hj hjk => HNO.out j hj hjk) (by rw [hf.out]; exact HBAD.out)
                    have HJ := Lib.hid hj
                    have t0 := HTD.out 0 _ rfl
                    clear hj
                    go_wp2_with fail
                    refine (fault_any (7) (t.s.id) _).mono ?_
                    rintro e wz ⟨rfl, hbz⟩
                    have HRz := Lib.hid (HRD.out.next hbz)
                    have HFz := Lib.hid (HFD.out.next hRD hbz)
                    have HBz := Lib.hid (HBD.out.trans (hbz.mono HBD.out.size))
                    clear hbz
                    have r0 := HRz.out 0 _ rfl
                    have r1 := HRz.out 1 _ rfl
                    have f0 := HFz.out 0
                    have f1 := HFz.out 1
                    go_wp2_with fail
                    have hq := box2 (x0 := .int .i64 7) (x1 := .int .i64 t.s.id) HRz.out
                    have q0 := hq 0 _ rfl
                    have q1 := hq 1 _ rfl
                    refine bodyPost_ret (v := .agg #[.int .i64 7, .int .i64 t.s.id]) (by simp [results, Try.results105, go_sem, q0, q1]) rfl ?_
                    exact ⟨by rw [← hRR.out, HJ.out], below2 HBz.out (by omega)⟩
              · have hb10 : (t.s.kind == 10) = false := by simpa using h10
                have HLEAD : Hid (leadsP f t.s lp = true) := Lib.hid (by unfold leadsP; rw [if_neg hno, if_neg h10])
                clear h7 h8 h10 hno
                have t1 := HTC.out 1 _ rfl
                cases TB with
                | true =>
                  go_upto_region 14 with fail
                  go_quiet (fail)
                  generalize hwd : wc.drewN _ = wd
                  have hbd : Below wc.heap.size wc wd := by rw [← hwd]; exact below_drewN (Below.refl _ _) _
                  clear hwd
                  have HTD := Lib.hid (HTC.out.next hbd)
                  have HRSD := Lib.hid (HRSC.out.next hbd)
                  have HBLD := Lib.hid (HBLC.out.trans (hbd.mono HBLC.out.size))
                  have HRD := Lib.hid (HR4.out.next HBLD.out)
                  have HFD := Lib.hid (HF4.out.next hR4 HBLD.out)
                  have HBD := Lib.hid (HB4.out.trans (HBLD.out.mono HB4.out.size))
                  have hRD : R < wd.heap.size := by have := HBLD.out.size; omega
                  clear hbd 
                  have HBAD : Hid (pcJump f = some t.s.id) := Lib.hid (by rw [HSTEP.out, HLEAD.out]; rfl)
                  have hj : jumpAt p = (7, t.s.id) := jump_at hlt (fun j hj hjk => HNO.out j hj hjk) (by rw [hf.out]; exact HBAD.out)
                  have HJ := Lib.hid hj
                  have t0 := HTD.out 0 _ rfl
                  clear hj
                  go_wp2_with fail
                  refine (fault_any (7) (t.s.id) _).mono ?_
                  rintro e wz ⟨rfl, hbz⟩
                  have HRz := Lib.hid (HRD.out.next hbz)
                  have HFz := Lib.hid (HFD.out.next hRD hbz)
                  have HBz := Lib.hid (HBD.out.trans (hbz.mono HBD.out.size))
                  clear hbz
                  have r0 := HRz.out 0 _ rfl
                  have r1 := HRz.out 1 _ rfl
                  have f0 := HFz.out 0
                  have f1 := HFz.out 1
                  go_wp2_with fail
                  have hq := box2 (x0 := .int .i64 7) (x1 := .int .i64 t.s.id) HRz.out
                  have q0 := hq 0 _ rfl
                  have q1 := hq 1 _ rfl
                  refine bodyPost_ret (v := .agg #[.int .i64 7, .int .i64 t.s.id]) (by simp [results, Try.results105, go_sem, q0, q1]) rfl ?_
                  exact ⟨by rw [← hRR.out, HJ.out], below2 HBz.out (by omega)⟩
                | false =>
                  go_upto_region 14 with fail
                  go_quiet (fail)
                  generalize hwd : wc.drewN _ = wd
                  have hbd : Below wc.heap.size wc wd := by rw [← hwd]; exact below_drewN (Below.refl _ _) _
                  clear hwd
                  have HTD := Lib.hid (HTC.out.next hbd)
                  have HRSD := Lib.hid (HRSC.out.next hbd)
                  have HBLD := Lib.hid (HBLC.out.trans (hbd.mono HBLC.out.size))
                  have HRD := Lib.hid (HR4.out.next HBLD.out)
                  have HFD := Lib.hid (HF4.out.next hR4 HBLD.out)
                  have HBD := Lib.hid (HB4.out.trans (HBLD.out.mono HB4.out.size))
                  have hRD : R < wd.heap.size := by have := HBLD.out.size; omega
                  clear hbd 
                  have HGOOD := Lib.hid (show pcJump f = jumpGo f (labLs ((stsOf f).take (q + 1))) (((stsOf f).zip (loopsOf f)).drop (q + 1)) by rw [HSTEP.out, HLEAD.out]; rfl)
                  have htn : twiceB (labLs ((stsOf f).take (q + 1))) = false := by rw [HST.out]; exact hTB.out
                  have HTN := Lib.hid htn
                  have hrn := HRSD.out
                  have hnx : pcJump f = jumpGo f (labLs ((stsOf f).take (q + 1))) (((stsOf f).zip (loopsOf f)).drop (q + 1)) := HGOOD.out
                  have HNX := Lib.hid hnx
                  rw [← HST.out] at hrn
                  have HRN := Lib.hid hrn
                  clear htn hrn hnx
                  go_wp2_with fail
                  go_roundw
                  case rel => exact ⟨q + 1, _, by omega, by go_num, rfl, by first | exact HRN.out | (rw [HST.out]; exact HRSD.out), HTN.out, HNX.out, HBLD.out⟩
                  case measure => simp [intOf]; omega
        · have hlq' : ¬ (q : Int) < (PT.length : Int) := by omega
          have hlen : (stsOf f).length = PT.length := by rw [← HPART.out, List.length_map]
          have hql : q = (stsOf f).length := by omega
          have hend : pcJump f = if twiceB (labsOf f) then some 0 else none := jump_end (by have := HJQ.out; rwa [hql] at this)
          have hall : (stsOf f).take q = stsOf f := List.take_of_length_le (by omega)
          have hlf : (labLs ((stsOf f).take q)).length + f.fin.length ≤ 300000 := by rw [hall]; exact (lab_tot HRF.out q).2
          obtain ⟨LL, hLL⟩ : ∃ L, Hid (labLs ((stsOf f).take q) = L) := ⟨_, Lib.hid rfl⟩
          have hlab : labsOf f = LL ++ f.fin := by rw [← hLL.out, hall]; rfl
          rw [hLL.out] at hlf HRS6 HTQ
          try rw [hLL.out]
          rw [hlab] at hend
          have HEND := Lib.hid hend
          have HE6 := Lib.hid (HE4.out.next HBL6.out)
          have HY6 := Lib.hid (HY4.out.next HBL6.out)
          clear hlen hall hlab hend hql
          have y4 := HY6.out 4 _ rfl
          go_wp2_with (at_builtin; refine wpList_append_sl _ rfl (.tmp 76) (.tmp 78) 22 rfl W4.heap.size 9 i0 (.string ⟨#[]⟩) 1 16 Try.underlying22 hi0 hz0 hz1 hz2 rfl (by decide) _ LL.length (LL.map Value.string) rfl HRS6.out.1 a4 f.fin.length c4 (f.fin.map Value.string) rfl HE6.out.news.2.1 (by rw [List.length_map, Nat.mul_one]) HE6.out.news.2.2 (str_all _) (by unfold maxLen; omega) (by omega) (by omega) ?_)
          intro vb wb hownb hgb hatb
          have hrb := RowS.cat (l := LL) (m := f.fin) hownb HRS6.out.2 HE6.out.all
          have HBLB := Lib.hid (HBL6.out.grown hgb HBL6.out.size (fun x hx => (HRS6.out.lt x hx).1))
          obtain ⟨vba, vbc, rfl⟩ := ownsForm hownb
          have HSS := Lib.hid (hrb.strs (by rw [List.length_append]; omega))
          clear hownb hgb hatb hrb y4
          go_wp2_with fail
          refine (rtwice_any (LL ++ f.fin) _ _ HSS.out).mono ?_
          rintro e wc ⟨rfl, hbc⟩
          obtain ⟨TB, hTB⟩ : ∃ b, Hid (twiceB (LL ++ f.fin) = b) := ⟨_, Lib.hid rfl⟩
          rw [hTB.out]
          rw [hTB.out] at HEND
          have HBLC := Lib.hid (HBLB.out.trans (hbc.mono HBLB.out.size))
          have HRE := Lib.hid (HR4.out.next HBLC.out)
          have HFE := Lib.hid (HF4.out.next hR4 HBLC.out)
          have HBE := Lib.hid (HB4.out.trans (HBLC.out.mono HB4.out.size))
          have HBRE := Lib.hid (HBR4.out.trans (HBLC.out.mono HBR4.out.size))
          have hRE : R < wc.heap.size := by have := HBLC.out.size; omega
          clear hbc
          cases TB with
          | true =>
            have hj : jumpAt p = (7, 0) := jump_at hlt (fun j hj hjk => HNO.out j hj hjk) (by rw [hf.out]; exact HEND.out)
            have HJ := Lib.hid hj
            clear hj
            go_wp2_with fail
            refine (fault_any (7) (0) _).mono ?_
            rintro e wz ⟨rfl, hbz⟩
            have HRz := Lib.hid (HRE.out.next hbz)
            have HFz := Lib.hid (HFE.out.next hRE hbz)
            have HBz := Lib.hid (HBE.out.trans (hbz.mono HBE.out.size))
            clear hbz
            have r0 := HRz.out 0 _ rfl
            have r1 := HRz.out 1 _ rfl
            have f0 := HFz.out 0
            have f1 := HFz.out 1
            go_wp2_with fail
            have hq := box2 (x0 := .int .i64 7) (x1 := .int .i64 0) HRz.out
            have q0 := hq 0 _ rfl
            have q1 := hq 1 _ rfl
            refine bodyPost_ret (v := .agg #[.int .i64 7, .int .i64 0]) (by simp [results, Try.results105, go_sem, q0, q1]) rfl ?_
            exact ⟨by rw [← hRR.out, HJ.out], below2 HBz.out (by omega)⟩
          | false =>
            have hnone : pcJump f = none := HEND.out
            have HNONE := Lib.hid hnone
            clear hnone
            go_wp2_with fail
            go_roundw
            case rel =>
              refine ⟨k + 1, by omega, by go_num, fun j hj hjk => ?_, HBRE.out⟩
              rcases Nat.lt_or_ge j k with h | h
              · exact HNO.out j hj h
              · obtain rfl : j = k := by omega
                rw [hf.out]; exact HNONE.out
            case measure => simp [intOf]; omega
    · have hlt' : ¬ (k : Int) < (p.procs.length : Int) := by omega
      have hj : jumpAt p = (0, 0) := jump_ok fun j hj => HNO.out j hj (by omega)
      have HJ := Lib.hid hj
      clear hj
      have r0 := HR2.out 0 _ rfl
      have r1 := HR2.out 1 _ rfl
      have f0 := HF2.out 0
      have f1 := HF2.out 1
      go_wp2_with fail
      have hq := box2 (x0 := .int .i64 0) (x1 := .int .i64 0) HR2.out
      have q0 := hq 0 _ rfl
      have q1 := hq 1 _ rfl
      refine bodyPost_ret (v := .agg #[.int .i64 0, .int .i64 0]) (by simp [results, Try.results105, go_sem, q0, q1]) rfl ?_
      exact ⟨by rw [← hRR.out, HJ.out], below2 HB2.out (by omega)⟩
set_option maxHeartbeats 4000000 in
set_option maxRecDepth 100000 in
theorem rJumps_any (d : Nat) (p : Pr) (gv pv : Value) (w : World) (hp : PrC (cw w) d gv pv p) (hroom : RoomP p) :
    Calls Try.prog 53 #[.agg #[gv, pv]] w (FaultIs (jumpP p) w) := by
  have HROOM := Lib.hid hroom
  clear hroom
  obtain ⟨ga, gc, rfl, hgl1, hgl2⟩ := hp.1.form
  obtain ⟨pa, pc, rfl, hl1, hl2⟩ := hp.2.form
  have hpl : p.procs.length ≤ 9223372036854775807 := Nat.le_trans hl1 hl2
  have HP := Lib.hid hp
  clear hp hl1 hl2 hgl1 hgl2
  obtain ⟨RR, hRR⟩ : ∃ r, Hid (jumpP p = r) := ⟨_, Lib.hid rfl⟩
  rw [hRR.out]
  go_enter Try.func53, Try.ntmps53
  go_upto_region 1 with fail
  refine cut_world (fun wx => Below w.heap.size w wx ∧ wx.heap.size = w.heap.size + 1 + 1 ∧ BoxAt wx w.heap.size [.slice ga p.globals.length gc, .slice pa p.procs.length pc] ∧ BoxAt wx (w.heap.size + 1) [.int .i64 0, .int .i64 0] ∧ Free wx (w.heap.size + 1)) ⟨(boxed w _).alloc (by simp) _, by simp, (box_new w #[.slice ga p.globals.length gc, .slice pa p.procs.length pc] 25).next (boxed _ _), box_two w _ #[.int .i64 0, .int .i64 0] 30, free_two w _ _ _⟩ ?_
  rintro w1 ⟨hb1, hz1', hx1, hr1, hf1⟩
  obtain ⟨R, hR⟩ : ∃ R, R = w.heap.size + 1 := ⟨_, rfl⟩
  rw [← hR] at hr1 hf1
  try rw [← hR]
  have hRw : w.heap.size < R := by omega
  have hR1 : R < w1.heap.size := by omega
  have HB1 := Lib.hid hb1
  have HX1 := Lib.hid hx1
  have HR1 := Lib.hid hr1
  have HF1 := Lib.hid hf1
  have HP1 := Lib.hid (PrC.mono (cw_next hb1) HP.out)
  clear hb1 hx1 hr1 hf1 hz1' hR
  have x0 := HX1.out 0 _ rfl
  have x1 := HX1.out 1 _ rfl
  go_wp2_with fail
  refine (rscope_any d p _ _ _ HP1.out HROOM.out).mono ?_
  rintro e w2 ⟨rfl, hb2⟩
  obtain ⟨SC, hSC⟩ : ∃ r, Hid ((scopeP p).1 = r) := ⟨_, Lib.hid rfl⟩
  obtain ⟨SI, hSI⟩ : ∃ r, Hid ((scopeP p).2 = r) := ⟨_, Lib.hid rfl⟩
  rw [hSC.out, hSI.out]
  have hfd := run_code SC SI
  have HX2 := Lib.hid (HX1.out.next hb2)
  have HR2 := Lib.hid (HR1.out.next hb2)
  have HF2 := Lib.hid (HF1.out.next hR1 hb2)
  have HP2 := Lib.hid (PrC.mono (cw_next hb2) HP1.out)
  have HB2 := Lib.hid (HB1.out.trans (hb2.mono HB1.out.size))
  have hR2 : R < w2.heap.size := by have := hb2.size; omega
  clear hb2 x0 x1
  by_cases hz : SC = 0
  · have hz1 : (SC == 0) = true := by simpa using hz
    have HWELL := Lib.hid (hSC.out.trans hz)
    have hyes : jumpP p = jumpAt p := by unfold jumpP; rw [if_pos HWELL.out]
    have HYES := Lib.hid hyes
    clear hz hyes
    have x0 := HX2.out 0 _ rfl
    have x1 := HX2.out 1 _ rfl
    go_wp2_with fail
    refine (rjumps_any d p _ _ _ HP2.out HROOM.out (scope_code HWELL.out).1).mono ?_
    rintro e w3 ⟨rfl, hb3⟩
    obtain ⟨A1, hA1⟩ : ∃ r, Hid ((jumpAt p).1 = r) := ⟨_, Lib.hid rfl⟩
    obtain ⟨A2, hA2⟩ : ∃ r, Hid ((jumpAt p).2 = r) := ⟨_, Lib.hid rfl⟩
    rw [hA1.out, hA2.out]
    have HR3 := Lib.hid (HR2.out.next hb3)
    have HF3 := Lib.hid (HF2.out.next hR2 hb3)
    have HB3 := Lib.hid (HB2.out.trans (hb3.mono HB2.out.size))
    have hR3 : R < w3.heap.size := by have := hb3.size; omega
    clear hb3 x0 x1
    have r0 := HR3.out 0 _ rfl
    have r1 := HR3.out 1 _ rfl
    have f0 := HF3.out 0
    have f1 := HF3.out 1
    go_wp2_with fail
    have hq := box2 (x0 := .int .i64 A1) (x1 := .int .i64 A2) HR3.out
    have q0 := hq 0 _ rfl
    have q1 := hq 1 _ rfl
    refine bodyPost_ret (v := .agg #[.int .i64 A1, .int .i64 A2]) (by simp [results, Try.results53, go_sem, q0, q1]) rfl ?_
    exact ⟨by rw [← hRR.out, HYES.out, ← hA1.out, ← hA2.out], below2 HB3.out (by omega)⟩
  · have hz1 : (SC == 0) = false := by simpa using hz
    have hno : jumpP p = (1, 0) := by unfold jumpP; rw [hSC.out, if_neg hz]
    have HNO := Lib.hid hno
    clear hz hno
    go_wp2_with fail
    refine (fault_any (1) (0) _).mono ?_
    rintro e wz ⟨rfl, hbz⟩
    have HRz := Lib.hid (HR2.out.next hbz)
    have HFz := Lib.hid (HF2.out.next hR2 hbz)
    have HBz := Lib.hid (HB2.out.trans (hbz.mono HB2.out.size))
    clear hbz
    have r0 := HRz.out 0 _ rfl
    have r1 := HRz.out 1 _ rfl
    have f0 := HFz.out 0
    have f1 := HFz.out 1
    go_wp2_with fail
    have hq := box2 (x0 := .int .i64 1) (x1 := .int .i64 0) HRz.out
    have q0 := hq 0 _ rfl
    have q1 := hq 1 _ rfl
    refine bodyPost_ret (v := .agg #[.int .i64 1, .int .i64 0]) (by simp [results, Try.results53, go_sem, q0, q1]) rfl ?_
    exact ⟨by rw [← hRR.out, HNO.out], below2 HBz.out (by omega)⟩
end Go.Proofs.Ytghlmengcidmdaa.Tr
