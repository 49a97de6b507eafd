/- Parts of PutZ: walks and plain laws that later texts use. Conditions: as each statement says. -/
import Derived.Test.YtghlmengcidmdaaTw0
import Derived.Test.YtghlmengcidmdaaTw1
import Derived.Test.YtghlmengcidmdaaTw2
import Derived.Test.YtghlmengcidmdaaTw3
import Derived.Test.YtghlmengcidmdaaTw4
import Derived.Test.YtghlmengcidmdaaTw5
import Derived.Test.YtghlmengcidmdaaTw6
import Derived.Test.YtghlmengcidmdaaTw7
import Derived.Test.YtghlmengcidmdaaTw8
import Derived.Test.YtghlmengcidmdaaTw9
import Derived.Test.YtghlmengcidmdaaTw10
import Derived.Test.YtghlmengcidmdaaTw11
import Derived.Test.YtghlmengcidmdaaTw12
import Derived.Laws.StructEq
import Derived.Deep.RegionHeld3
import Derived.Deep.QuietTactic
import Derived.BigQuiet
import Derived.Deep.Slices
import Derived.Deep.Fields
import Derived.Lib.SmallJoins
import Derived.SliceStrings
import Derived.ChangeSlices
import Derived.IntWalk
import Derived.Deep.RegionLaw
import Derived.Deep.DeepCutAuto
import Derived.Deep.CutBlock
import Derived.WalkKit
import Derived.Test.YtghlmengcidmdaaRows
import Derived.WalkSpells
import Derived.Lib.Hide
import Derived.Below
import Derived.Laws.BitsAllLaws
import Derived.OwnWalk
import Derived.OneCell
import Derived.Deep.AppendLies
import Derived.Deep.RegionWith
import Derived.Laws.Cover3
import Derived.StillTailTactics
import Derived.RegionTactic
import Derived.Maps.Range
import Derived.Outline
import Derived.Deep.Upon
import Derived.Maps.AppendAt
import Derived.Laws.OwnMore
import Derived.OrdersHeld
import Derived.WalkSmall
/- What Put, Copy of the reference make, each row in a stretch of its own. Conditions: they lie in memory and are light. -/
namespace Go.Proofs.Ytghlmengcidmdaa.Tr
open Go.RowKit Go.Proofs.Ytghlmengcidmdaa.Lx Go.Proofs.Ytghlmengcidmdaa.Wd
set_option linter.unusedSimpArgs false
set_option maxHeartbeats 1000000 in
theorem textsO_any (l : List ByteArray) (v : Value) (w : World) (hl : StrsAt w v l) (hm : l.length ≤ 1000000) : Calls Try.prog 75 #[v] w fun e w' => ∃ v', e = .returned v' ∧ RowS w.heap.size w' v' l ∧ Below w.heap.size w w' := by
  obtain ⟨i0, hi, hz0, hz1, hz2⟩ := info_parts infoStr
  obtain ⟨a, cap, rfl, hc1, hc2⟩ := hl.form
  have HL := Lib.hid hl
  have HALL := Lib.hid hl.all
  clear hl
  go_enter Try.func75, Try.ntmps75
  go_wp2_with (at_builtin; refine wpList_append_sl _ rfl (.tmp 4) (.tmp 5) 22 rfl w.heap.size 9 i0 (.string ⟨#[]⟩) 1 16 Try.underlying22 hi hz0 hz1 hz2 rfl (by decide) _ 0 [] rfl ?oa1 a l.length cap (l.map Value.string) rfl ?oz1 ?ob1 ?oc1 (str_all _) ?od1 ?oe1 ?of1 ?_)
  case oa1 => exact World.ownsRow_nil _ _ _ _
  case oz1 => exact HL.out.news.2.1
  case ob1 => rw [List.length_map, Nat.mul_one]
  case oc1 => exact HL.out.news.2.2
  case od1 => unfold maxLen; omega
  case oe1 => omega
  case of1 => exact Nat.le_refl _
  intro v4 w4 hown4 hg4 hat4
  obtain ⟨la4, lc4, rfl⟩ := ownsForm hown4
  have hb4 : Below w.heap.size w w4 := (Below.refl _ _).grown hg4 (Nat.le_refl _) fun q hq => by cases hq
  have HB4 := Lib.hid hb4
  have HOWN4 := Lib.hid hown4
  clear hown4 hg4 hat4 hb4
  go_wp2_with fail
  go_ret
  exact ⟨_, rfl, ⟨by simpa using HOWN4.out, HALL.out⟩, HB4.out⟩
set_option maxHeartbeats 8000000 in
set_option maxRecDepth 100000 in
theorem putZ_row (D : Nat) (t : St) (hokt : OkE t.x) (ht1 : InI t.id) (ht2 : InI t.kind) (ht3 : t.nm.size ≤ 9223372036854775807) (ht4 : t.proc.size ≤ 9223372036854775807) (hwt : LightS t) (kat lat aat tat eat : Option Addr) (kct lct act tct ect : Nat)
    (d : Nat) (p : Pr) (gv pv : Value) (w : World) (hp : PrC (cw w) d gv pv p) (hwp : wtPr p ≤ 20000) (hht : Hang D w t (.slice lat t.labels.length lct) (.slice kat t.x.ks.length kct) (.slice aat t.args.length act) (.slice tat t.thn.length tct) (.slice eat t.els.length ect)) :
    Calls Try.prog 29 #[.agg #[gv, pv], .agg (stCells t (.slice kat t.x.ks.length kct) (.slice lat t.labels.length lct) (.slice aat t.args.length act) (.slice tat t.thn.length tct) (.slice eat t.els.length ect)).toArray] w (ProgZ (d + D) (putPr t p) w) := by
  obtain ⟨ga, gc, rfl, -, -⟩ := hp.1.form
  obtain ⟨pa, pc, rfl, hl1, hl2⟩ := hp.2.form
  have HP := Lib.hid hp
  have HHT := Lib.hid hht
  have HWP := Lib.hid hwp
  have HOKT := Lib.hid hokt
  have HT1 := Lib.hid ht1
  have HT2 := Lib.hid ht2
  have HT3 := Lib.hid ht3
  have HT4 := Lib.hid ht4
  have HWT := Lib.hid hwt
  have HLIM := Lib.hid (Nat.le_trans hl1 hl2)
  clear hp hht hwp hl1 hl2 hokt ht1 ht2 ht3 ht4 hwt
  unfold stCells
  go_enter Try.func29, Try.ntmps29
  go_upto_region 1 with fail
  refine cut_world (fun wx => Below w.heap.size w wx ∧ wx.heap.size = w.heap.size + 1 + 1 + 1 ∧ BoxAt wx w.heap.size [.slice ga p.globals.length gc, .slice pa p.procs.length pc] ∧ BoxAt wx (w.heap.size + 1) [.int .i64 t.id, .int .i64 t.kind, .slice lat t.labels.length lct, .string t.nm, .string t.proc, .int .i64 t.x.op, .int .i64 t.x.n, .string t.x.nm, .slice kat t.x.ks.length kct, .bool t.has, .slice aat t.args.length act, .slice tat t.thn.length tct, .slice eat t.els.length ect] ∧ BoxAt wx (w.heap.size + 1 + 1) [.slice none 0 0, .slice none 0 0] ∧ Free wx (w.heap.size + 1 + 1)) ⟨?_, by simp, ?_, ?_, ?_, ?_⟩ ?_
  · exact ((boxed w _).alloc (by simp) _).alloc (by first | omega | (simp; omega) | simp) _
  · exact ((box_new w #[.slice ga p.globals.length gc, .slice pa p.procs.length pc] 25).next (boxed _ _)).next (boxed _ _)
  · exact (box_two w _ #[.int .i64 t.id, .int .i64 t.kind, .slice lat t.labels.length lct, .string t.nm, .string t.proc, .int .i64 t.x.op, .int .i64 t.x.n, .string t.x.nm, .slice kat t.x.ks.length kct, .bool t.has, .slice aat t.args.length act, .slice tat t.thn.length tct, .slice eat t.els.length ect] 41).next (boxed _ _)
  · intro j u hu
    match j, hu with
    | 0, hu => cases hu; simp [go_sem]
    | 1, hu => cases hu; simp [go_sem]
  · exact fun j => by simp [go_sem]
  rintro w1 ⟨hb1, hz1, hp1, ht1, hr1, hrf1⟩
  have HB1 := Lib.hid hb1
  have HP1 := Lib.hid hp1
  have HT1B := Lib.hid ht1
  have HR1 := Lib.hid hr1
  have HRF1 := Lib.hid hrf1
  have HPP1 := Lib.hid (PrC.mono (cw_next hb1) HP.out)
  have p0 := hp1 0 _ rfl
  have hglob : p.globals.length ≤ 1000000 := by have := HWP.out; unfold wtPr at this; have := wtTs_len p.globals; omega
  clear hb1 hp1 ht1 hr1 hrf1
  go_wp2_with fail
  refine (textsO_any p.globals _ _ (StrC.to HPP1.out.1) hglob).mono ?_
  rintro e w2 ⟨gv2, rfl, hg2r, hb2⟩
  obtain ⟨ga2, gc2, rfl⟩ := ownsForm hg2r.1
  have hg2 := strs_owned hg2r.1 rfl (by omega) hg2r.2
  have HG2R := Lib.hid (hg2r.mono (B' := w.heap.size) (by omega))
  have HGLT := Lib.hid (fun g h => (hg2r.lt g h).2)
  have GNE := Lib.hid (show ∀ g, (Value.slice ga2 p.globals.length gc2).ownBlock = some g → g ≠ w.heap.size + 1 + 1 from fun g h => by have := (hg2r.lt g h).1; omega)
  clear hg2r
  have HG2 := Lib.hid hg2
  have HB2 := Lib.hid hb2
  have p1 := HP1.out.next hb2 1 _ rfl
  clear hg2 hb2 p0
  have zl := cell_lt p1
  have zn := World.new_ne _ _ p1
  go_wp2_with fail
  refine cut_world (fun wx => Below w.heap.size w wx ∧ w.heap.size + 1 + 1 + 1 ≤ w2.heap.size ∧ w2.heap.size < wx.heap.size ∧ BoxAt wx (w.heap.size + 1) [.int .i64 t.id, .int .i64 t.kind, .slice lat t.labels.length lct, .string t.nm, .string t.proc, .int .i64 t.x.op, .int .i64 t.x.n, .string t.x.nm, .slice kat t.x.ks.length kct, .bool t.has, .slice aat t.args.length act, .slice tat t.thn.length tct, .slice eat t.els.length ect] ∧ BoxAt wx (w.heap.size + 1 + 1) [.slice none 0 0, .slice none 0 0] ∧ Free wx (w.heap.size + 1 + 1) ∧ BoxAt wx w2.heap.size [.slice ga2 p.globals.length gc2, .slice none 0 0] ∧ Free wx w2.heap.size ∧ StrC (only (fun g => w.heap.size + 1 + 1 + 1 ≤ g ∧ g ≠ w2.heap.size) (cw wx)) (.slice ga2 p.globals.length gc2) p.globals ∧ RowS w.heap.size wx (.slice ga2 p.globals.length gc2) p.globals) ⟨?_, ?_, by simp, ?_, ?_, ?_, box_new w2 #[.slice ga2 p.globals.length gc2, .slice none 0 0] 25, fun j => by simp [go_sem], ?_, ?_⟩ ?_
  · exact (HB1.out.trans (HB2.out.mono HB1.out.size)).trans ((boxed w2 _).mono (Nat.le_trans HB1.out.size HB2.out.size))
  · have := HB2.out.size; omega
  · exact (HT1B.out.next HB2.out).next (boxed _ _)
  · exact (HR1.out.next HB2.out).next (boxed _ _)
  · exact (HRF1.out.next (by omega) HB2.out).next (by have := HB2.out.size; omega) (boxed _ _)
  · exact StrC.mono (le_ne (boxed w2 _) (by omega) (.inr (Nat.le_refl _))) HG2.out
  · exact HG2R.out.next (boxed w2 _)
  rintro wb ⟨hbb, hn2, hnb, htb, hrb, hrf, hqb, hqf, hgb, hgr⟩
  have HBB := Lib.hid hbb
  have HTB := Lib.hid htb
  have HRB := Lib.hid hrb
  have HRF := Lib.hid hrf
  have HQB := Lib.hid hqb
  have HQF := Lib.hid hqf
  have HGB := Lib.hid hgb
  have HGR := Lib.hid hgr
  obtain ⟨iP, hiP, hzP0, hzP1, hzP2⟩ := info_parts infoPc
  clear hbb htb hrb hrf hqb hqf hgb hgr p1 zl zn HB1 HP1 HT1B HR1 HRF1 HPP1 HG2 HB2 hglob
  go_loopw [16] (fun i wr => ∃ (k : Nat) (v : Value) (rows : List (List Value)), k ≤ p.procs.length ∧ i = .int .i64 k ∧ Below w.heap.size w wr ∧ wb.heap.size ≤ wr.heap.size ∧ Cs.le (only (fun g => g < wb.heap.size ∧ g ≠ w2.heap.size) (cw wb)) (cw wr) ∧
    Grow (PcQ (d + D)) 55 5 wb.heap.size w2.heap.size (w.heap.size + 1 + 1) 2 [.slice ga2 p.globals.length gc2, .slice none 0 0] 1 ((p.procs.take k).map (putPc t)) wr v rows ∧ (∃ Lo W, Zones (d + D) ((p.procs.take k).map (putPc t)) rows wr v wb.heap.size Lo W) ∧ RowS w.heap.size wr (.slice ga2 p.globals.length gc2) p.globals) (fun i _ => (p.procs.length - intOf i).toNat)
  case atStart =>
    refine ⟨0, .slice none 0 0, [], by omega, rfl, HBB.out, Nat.le_refl _, only_out, ⟨by omega, by omega, by omega, by omega, HQB.out, HQF.out, fun j hj => ⟨_, HRB.out j _ (List.getElem?_eq_getElem (by simpa using hj))⟩, HRF.out, ?_, Nat.le_refl _⟩, ⟨fun _ => 0, fun _ => wb, Zones.nil⟩, HGR.out⟩
    exact Acc.nil _ _ _ _ _
  case round =>
    obtain ⟨k, v5, rows5, hk, rfl, hbel, hz5, hkeep, hG, ⟨Lo, W, hZ⟩, hGR⟩ := hrel
    have HZ := Lib.hid hZ
    have HGR3 := Lib.hid hGR
    clear hZ hGR
    have HBel := Lib.hid hbel
    have HKEEP := Lib.hid hkeep
    have HG := Lib.hid hG
    have hqa : ((p.procs.take k).map (putPc t)).length = k := by rw [List.length_map, List.length_take]; omega
    obtain ⟨va5, vc5, hv5⟩ := ownsForm hG.acc.own
    rw [hqa] at hv5
    subst hv5
    have HQA := Lib.hid hqa
    have hlim := HLIM.out
    obtain ⟨w3, hw3⟩ : ∃ w3 : World, w3 = wr := ⟨_, rfl⟩
    subst hw3
    clear hqa hG hkeep
    by_cases hlt : k < p.procs.length
    · have hlt' : (k : Int) < (p.procs.length : Int) := by omega
      have h0k : (0 : Int) ≤ (k : Int) := by omega
      have hne : p.procs ≠ [] := by intro h; rw [h] at hlt; simp at hlt
      obtain ⟨g, off, cap', hv, _, hcells⟩ := SlAt.cells (PrC.mono (cw_next hbel) HP.out).2 hne
      simp only [Value.slice.injEq] at hv
      obtain ⟨rfl, -, rfl⟩ := hv
      have hat := hcells k hlt
      have hmem := List.getElem_mem hlt
      obtain ⟨f, hf⟩ : ∃ f, Hid (p.procs[k] = f) := ⟨_, Lib.hid rfl⟩
      rw [hf.out] at hat hmem
      have hwf : Hid (wtPc f ≤ 20000) := Lib.hid (by have h1 := sum_mem wtPc p.procs f hmem; have h2 := HWP.out; unfold wtPr at h2; omega)
      obtain ⟨pv, vv, bv, fv, p0, p1, p2, p3, p4, hnm, hps, hvs, hbody, hfin⟩ := hat
      obtain ⟨a1, c1, rfl, bp1, bp2⟩ := hps.form
      obtain ⟨a2, c2, rfl, -, -⟩ := hvs.form
      obtain ⟨a3, c3, rfl, -, -⟩ := hbody.form
      obtain ⟨a4, c4, rfl, -, -⟩ := hfin.form
      have e0 : w3.cell? ⟨g, off + k * 5, none⟩ = _ := p0
      have e1 : w3.cell? ⟨g, off + k * 5 + 1, none⟩ = _ := p1
      have e2 : w3.cell? ⟨g, off + k * 5 + 2, none⟩ = _ := p2
      have e3 : w3.cell? ⟨g, off + k * 5 + 3, none⟩ = _ := p3
      have e4 : w3.cell? ⟨g, off + k * 5 + 4, none⟩ = _ := p4
      have HH := Lib.hid (HangP.mk (f := f) hps hvs hbody hfin)
      have HNM := Lib.hid hnm
      have HPL := Lib.hid (Nat.le_trans bp1 bp2)
      clear hcells hne p0 p1 p2 p3 p4 hps hvs hbody hfin hbel bp1 bp2 hmem hnm
      go_upto_region 5 with fail
      refine cut_world (fun wx => Below w3.heap.size w3 wx ∧ w3.heap.size < wx.heap.size ∧ BoxAt wx w3.heap.size [.string f.nm, .slice a1 f.params.length c1, .slice a2 f.vars.length c2, .slice a3 f.body.length c3, .slice a4 f.fin.length c4]) ⟨boxed _ _, by simp, box_new w3 #[.string f.nm, .slice a1 f.params.length c1, .slice a2 f.vars.length c2, .slice a3 f.body.length c3, .slice a4 f.fin.length c4] 55⟩ ?_
      rintro w4 ⟨hb4, hz4, hx4⟩
      clear e0 e1 e2 e3 e4
      have HB4 := Lib.hid hb4
      have HX4 := Lib.hid hx4
      have HH4 := Lib.hid (HH.out.next hb4)
      have HT4B := Lib.hid (fun j u hu => (cell_next hb4 (HKEEP.out _ _ _ ⟨⟨by have := cell_lt (HTB.out 0 _ rfl); omega, by omega⟩, HTB.out j u hu⟩) : w4.cell? ⟨w.heap.size + 1, j, none⟩ = some u))
      have HHT4 := Lib.hid (HHT.out.next (HBel.out.trans (hb4.mono HBel.out.size)))
      have hvlen : f.vars.length ≤ 1000000 := by have h1 := wtTs_len f.vars; have h2 := hwf.out; unfold wtPc at h2; omega
      have hflen : f.fin.length ≤ 1000000 := by have h1 := wtTs_len f.fin; have h2 := hwf.out; unfold wtPc at h2; omega
      have hbwt : wtL f.body ≤ 20000 := by have h2 := hwf.out; unfold wtPc at h2; omega
      clear hb4 hx4
      have hq4 : Below w4.heap.size w4 w4.drew := (Below.refl _ _).drew
      have hq4A : Below w4.heap.size w4 (w4.alloc (.cells #[.string ⟨#[]⟩, .slice none 0 0, .slice none 0 0, .slice none 0 0, .slice none 0 0] 55)).drew := (boxed w4 _).drew
      have L0 : Hid (w4.cell? ⟨w3.heap.size, 0, none⟩ = some (.string f.nm)) := Lib.hid (HX4.out 0 _ rfl)
      have L1 : Hid (w4.cell? ⟨w3.heap.size, 2, none⟩ = some (.slice a2 f.vars.length c2)) := Lib.hid (HX4.out 2 _ rfl)
      have L2 : Hid (w4.cell? ⟨w3.heap.size, 3, none⟩ = some (.slice a3 f.body.length c3)) := Lib.hid (HX4.out 3 _ rfl)
      have L3 : Hid (w4.cell? ⟨w3.heap.size, 4, none⟩ = some (.slice a4 f.fin.length c4)) := Lib.hid (HX4.out 4 _ rfl)
      have L4 : Hid (w4.cell? ⟨w.heap.size + 1, 0, none⟩ = some (.int .i64 t.id)) := Lib.hid (HT4B.out 0 _ rfl)
      have L5 : Hid (w4.cell? ⟨w.heap.size + 1, 1, none⟩ = some (.int .i64 t.kind)) := Lib.hid (HT4B.out 1 _ rfl)
      have L6 : Hid (w4.cell? ⟨w.heap.size + 1, 2, none⟩ = some (.slice lat t.labels.length lct)) := Lib.hid (HT4B.out 2 _ rfl)
      have L7 : Hid (w4.cell? ⟨w.heap.size + 1, 3, none⟩ = some (.string t.nm)) := Lib.hid (HT4B.out 3 _ rfl)
      have L8 : Hid (w4.cell? ⟨w.heap.size + 1, 4, none⟩ = some (.string t.proc)) := Lib.hid (HT4B.out 4 _ rfl)
      have L9 : Hid (w4.cell? ⟨w.heap.size + 1, 5, none⟩ = some (.int .i64 t.x.op)) := Lib.hid (HT4B.out 5 _ rfl)
      have L10 : Hid (w4.cell? ⟨w.heap.size + 1, 6, none⟩ = some (.int .i64 t.x.n)) := Lib.hid (HT4B.out 6 _ rfl)
      have L11 : Hid (w4.cell? ⟨w.heap.size + 1, 7, none⟩ = some (.string t.x.nm)) := Lib.hid (HT4B.out 7 _ rfl)
      have L12 : Hid (w4.cell? ⟨w.heap.size + 1, 8, none⟩ = some (.slice kat t.x.ks.length kct)) := Lib.hid (HT4B.out 8 _ rfl)
      have L13 : Hid (w4.cell? ⟨w.heap.size + 1, 9, none⟩ = some (.bool t.has)) := Lib.hid (HT4B.out 9 _ rfl)
      have L14 : Hid (w4.cell? ⟨w.heap.size + 1, 10, none⟩ = some (.slice aat t.args.length act)) := Lib.hid (HT4B.out 10 _ rfl)
      have L15 : Hid (w4.cell? ⟨w.heap.size + 1, 11, none⟩ = some (.slice tat t.thn.length tct)) := Lib.hid (HT4B.out 11 _ rfl)
      have L16 : Hid (w4.cell? ⟨w.heap.size + 1, 12, none⟩ = some (.slice eat t.els.length ect)) := Lib.hid (HT4B.out 12 _ rfl)
      have KA0 := Lib.hid (cell_next hq4 L0.out)
      have KA1 := Lib.hid (cell_next hq4 L1.out)
      have KA2 := Lib.hid (cell_next hq4 L2.out)
      have KA3 := Lib.hid (cell_next hq4 L3.out)
      have KA4 := Lib.hid (cell_next hq4 L4.out)
      have KA5 := Lib.hid (cell_next hq4 L5.out)
      have KA6 := Lib.hid (cell_next hq4 L6.out)
      have KA7 := Lib.hid (cell_next hq4 L7.out)
      have KA8 := Lib.hid (cell_next hq4 L8.out)
      have KA9 := Lib.hid (cell_next hq4 L9.out)
      have KA10 := Lib.hid (cell_next hq4 L10.out)
      have KA11 := Lib.hid (cell_next hq4 L11.out)
      have KA12 := Lib.hid (cell_next hq4 L12.out)
      have KA13 := Lib.hid (cell_next hq4 L13.out)
      have KA14 := Lib.hid (cell_next hq4 L14.out)
      have KA15 := Lib.hid (cell_next hq4 L15.out)
      have KA16 := Lib.hid (cell_next hq4 L16.out)
      have KAA0 := Lib.hid (cell_next hq4A L0.out)
      have KAA1 := Lib.hid (cell_next hq4A L1.out)
      have KAA2 := Lib.hid (cell_next hq4A L2.out)
      have KAA3 := Lib.hid (cell_next hq4A L3.out)
      have KAA4 := Lib.hid (cell_next hq4A L4.out)
      have KAA5 := Lib.hid (cell_next hq4A L5.out)
      have KAA6 := Lib.hid (cell_next hq4A L6.out)
      have KAA7 := Lib.hid (cell_next hq4A L7.out)
      have KAA8 := Lib.hid (cell_next hq4A L8.out)
      have KAA9 := Lib.hid (cell_next hq4A L9.out)
      have KAA10 := Lib.hid (cell_next hq4A L10.out)
      have KAA11 := Lib.hid (cell_next hq4A L11.out)
      have KAA12 := Lib.hid (cell_next hq4A L12.out)
      have KAA13 := Lib.hid (cell_next hq4A L13.out)
      have KAA14 := Lib.hid (cell_next hq4A L14.out)
      have KAA15 := Lib.hid (cell_next hq4A L15.out)
      have KAA16 := Lib.hid (cell_next hq4A L16.out)
      have hwn : w.heap.size + 1 < w3.heap.size := by omega
      have hne4X : w4.heap.size ≠ w3.heap.size := by omega
      have hne4T : w4.heap.size ≠ w.heap.size + 1 := by omega
      have HYA := Lib.hid ((box_new w4 #[.string ⟨#[]⟩, .slice none 0 0, .slice none 0 0, .slice none 0 0, .slice none 0 0] 55).next ((Below.refl _ _).drew))
      have HYFA : Hid (Free (w4.alloc (.cells #[.string ⟨#[]⟩, .slice none 0 0, .slice none 0 0, .slice none 0 0, .slice none 0 0] 55)).drew w4.heap.size) := Lib.hid (Free.next (fun j => by simp [go_sem]) (by simp) ((Below.refl _ _).drew))
      obtain ⟨LB, hLB⟩ : ∃ L, Hid (putL t f.body = L) := ⟨_, Lib.hid rfl⟩
      go_cut [8] (fun a wx => ∃ (Y : Nat) (a5 a6 a7 : Option Addr) (c5 c6 c7 : Nat), a = .pointer (some ⟨Y, 0, none⟩) ∧ w4.heap.size ≤ Y ∧ Y < wx.heap.size ∧ Below w4.heap.size w4 wx ∧ BoxAt wx Y [.string f.nm, .slice none 0 0, .slice a5 f.vars.length c5, .slice a7 LB.length c7, .slice a6 f.fin.length c6] ∧ Free wx Y ∧
        StrC (only (fun g => w4.heap.size ≤ g ∧ g ≠ Y) (cw wx)) (.slice a5 f.vars.length c5) f.vars ∧ StrC (only (fun g => w4.heap.size ≤ g ∧ g ≠ Y) (cw wx)) (.slice a6 f.fin.length c6) f.fin ∧ StC (only (fun g => w4.heap.size ≤ g ∧ g ≠ Y) (cw wx)) (d + D) (.slice a7 LB.length c7) LB ∧
        ∃ M, w4.heap.size ≤ M ∧ M ≤ wx.heap.size ∧ RowS w4.heap.size wx (.slice a5 f.vars.length c5) f.vars ∧ (∀ b, (Value.slice a5 f.vars.length c5).ownBlock = some b → b < M ∧ b ≠ Y) ∧ StrC (only (fun g => M ≤ g ∧ g ≠ Y) (cw wx)) (.slice a6 f.fin.length c6) f.fin ∧ StC (only (fun g => M ≤ g ∧ g ≠ Y) (cw wx)) (d + D) (.slice a7 LB.length c7) LB)
      case first =>
        go_region_held3 (fun w' => w'.cell? ⟨w3.heap.size, 0, none⟩ = some (.string f.nm) ∧ w'.cell? ⟨w3.heap.size, 2, none⟩ = some (.slice a2 f.vars.length c2) ∧ w'.cell? ⟨w3.heap.size, 3, none⟩ = some (.slice a3 f.body.length c3) ∧ w'.cell? ⟨w3.heap.size, 4, none⟩ = some (.slice a4 f.fin.length c4) ∧ w'.cell? ⟨w.heap.size + 1, 0, none⟩ = some (.int .i64 t.id) ∧ w'.cell? ⟨w.heap.size + 1, 1, none⟩ = some (.int .i64 t.kind) ∧ w'.cell? ⟨w.heap.size + 1, 2, none⟩ = some (.slice lat t.labels.length lct) ∧ w'.cell? ⟨w.heap.size + 1, 3, none⟩ = some (.string t.nm) ∧ w'.cell? ⟨w.heap.size + 1, 4, none⟩ = some (.string t.proc) ∧ w'.cell? ⟨w.heap.size + 1, 5, none⟩ = some (.int .i64 t.x.op) ∧ w'.cell? ⟨w.heap.size + 1, 6, none⟩ = some (.int .i64 t.x.n) ∧ w'.cell? ⟨w.heap.size + 1, 7, none⟩ = some (.string t.x.nm) ∧ w'.cell? ⟨w.heap.size + 1, 8, none⟩ = some (.slice kat t.x.ks.length kct) ∧ w'.cell? ⟨w.heap.size + 1, 9, none⟩ = some (.bool t.has) ∧ w'.cell? ⟨w.heap.size + 1, 10, none⟩ = some (.slice aat t.args.length act) ∧ w'.cell? ⟨w.heap.size + 1, 11, none⟩ = some (.slice tat t.thn.length tct) ∧ w'.cell? ⟨w.heap.size + 1, 12, none⟩ = some (.slice eat t.els.length ect))
          (first
            | with_reducible exact ⟨KA0.out, KA1.out, KA2.out, KA3.out, KA4.out, KA5.out, KA6.out, KA7.out, KA8.out, KA9.out, KA10.out, KA11.out, KA12.out, KA13.out, KA14.out, KA15.out, KA16.out⟩
            | with_reducible exact ⟨KAA0.out, KAA1.out, KAA2.out, KAA3.out, KAA4.out, KAA5.out, KAA6.out, KAA7.out, KAA8.out, KAA9.out, KAA10.out, KAA11.out, KAA12.out, KAA13.out, KAA14.out, KAA15.out, KAA16.out⟩
            | with_reducible exact ⟨KB0.out, KB1.out, KB2.out, KB3.out, KB4.out, KB5.out, KB6.out, KB7.out, KB8.out, KB9.out, KB10.out, KB11.out, KB12.out, KB13.out, KB14.out, KB15.out, KB16.out⟩
            | with_reducible exact ⟨KC0.out, KC1.out, KC2.out, KC3.out, KC4.out, KC5.out, KC6.out, KC7.out, KC8.out, KC9.out, KC10.out, KC11.out, KC12.out, KC13.out, KC14.out, KC15.out, KC16.out⟩
            | with_reducible exact ⟨KD0.out, KD1.out, KD2.out, KD3.out, KD4.out, KD5.out, KD6.out, KD7.out, KD8.out, KD9.out, KD10.out, KD11.out, KD12.out, KD13.out, KD14.out, KD15.out, KD16.out⟩
            | with_reducible exact ⟨far5 hne4X KD0.out, far5 hne4X KD1.out, far5 hne4X KD2.out, far5 hne4X KD3.out, far5 hne4T KD4.out, far5 hne4T KD5.out, far5 hne4T KD6.out, far5 hne4T KD7.out, far5 hne4T KD8.out, far5 hne4T KD9.out, far5 hne4T KD10.out, far5 hne4T KD11.out, far5 hne4T KD12.out, far5 hne4T KD13.out, far5 hne4T KD14.out, far5 hne4T KD15.out, far5 hne4T KD16.out⟩
            | with_reducible exact ⟨far5 hne5X KD0.out, far5 hne5X KD1.out, far5 hne5X KD2.out, far5 hne5X KD3.out, far5 hne5T KD4.out, far5 hne5T KD5.out, far5 hne5T KD6.out, far5 hne5T KD7.out, far5 hne5T KD8.out, far5 hne5T KD9.out, far5 hne5T KD10.out, far5 hne5T KD11.out, far5 hne5T KD12.out, far5 hne5T KD13.out, far5 hne5T KD14.out, far5 hne5T KD15.out, far5 hne5T KD16.out⟩
            | with_reducible exact ⟨far5 hne6X KD0.out, far5 hne6X KD1.out, far5 hne6X KD2.out, far5 hne6X KD3.out, far5 hne6T KD4.out, far5 hne6T KD5.out, far5 hne6T KD6.out, far5 hne6T KD7.out, far5 hne6T KD8.out, far5 hne6T KD9.out, far5 hne6T KD10.out, far5 hne6T KD11.out, far5 hne6T KD12.out, far5 hne6T KD13.out, far5 hne6T KD14.out, far5 hne6T KD15.out, far5 hne6T KD16.out⟩
            | with_reducible exact ⟨KBA0.out, KBA1.out, KBA2.out, KBA3.out, KBA4.out, KBA5.out, KBA6.out, KBA7.out, KBA8.out, KBA9.out, KBA10.out, KBA11.out, KBA12.out, KBA13.out, KBA14.out, KBA15.out, KBA16.out⟩
            | with_reducible exact ⟨KCA0.out, KCA1.out, KCA2.out, KCA3.out, KCA4.out, KCA5.out, KCA6.out, KCA7.out, KCA8.out, KCA9.out, KCA10.out, KCA11.out, KCA12.out, KCA13.out, KCA14.out, KCA15.out, KCA16.out⟩
            | with_reducible exact ⟨KDA0.out, KDA1.out, KDA2.out, KDA3.out, KDA4.out, KDA5.out, KDA6.out, KDA7.out, KDA8.out, KDA9.out, KDA10.out, KDA11.out, KDA12.out, KDA13.out, KDA14.out, KDA15.out, KDA16.out⟩
            | with_reducible exact ⟨KDX0.out, KDX1.out, KDX2.out, KDX3.out, KDX4.out, KDX5.out, KDX6.out, KDX7.out, KDX8.out, KDX9.out, KDX10.out, KDX11.out, KDX12.out, KDX13.out, KDX14.out, KDX15.out, KDX16.out⟩)
          (first
            | (go_at_call 75
               have hchk := hb5
               refine (texts_any f.fin _ _ (StrsAt.next (StrC.to HH4.out.fin) (by first | with_reducible exact hq5 | with_reducible exact hq5A)) hflen).mono ?_
               rintro e w6 ⟨v6, rfl, hs6, hb6⟩
               obtain ⟨a6, c6, rfl, -, -⟩ := hs6.form
               have HS6 := Lib.hid hs6
               have hq6 := below_then hb6 (by first | with_reducible exact hq5 | with_reducible exact hq5A)
               have hs6 : w4.heap.size ≤ w6.heap.size := hq6.size
               have hz6 := hb6.size
               have hq6A := hq6.alloc hs6 (.cells #[.string ⟨#[]⟩, .slice none 0 0, .slice none 0 0, .slice none 0 0, .slice none 0 0] 55)
               have hne6X : w6.heap.size ≠ w3.heap.size := by omega
               have hne6T : w6.heap.size ≠ w.heap.size + 1 := by omega
               have KC0 := Lib.hid (cell_next hq6 L0.out)
               have KC1 := Lib.hid (cell_next hq6 L1.out)
               have KC2 := Lib.hid (cell_next hq6 L2.out)
               have KC3 := Lib.hid (cell_next hq6 L3.out)
               have KC4 := Lib.hid (cell_next hq6 L4.out)
               have KC5 := Lib.hid (cell_next hq6 L5.out)
               have KC6 := Lib.hid (cell_next hq6 L6.out)
               have KC7 := Lib.hid (cell_next hq6 L7.out)
               have KC8 := Lib.hid (cell_next hq6 L8.out)
               have KC9 := Lib.hid (cell_next hq6 L9.out)
               have KC10 := Lib.hid (cell_next hq6 L10.out)
               have KC11 := Lib.hid (cell_next hq6 L11.out)
               have KC12 := Lib.hid (cell_next hq6 L12.out)
               have KC13 := Lib.hid (cell_next hq6 L13.out)
               have KC14 := Lib.hid (cell_next hq6 L14.out)
               have KC15 := Lib.hid (cell_next hq6 L15.out)
               have KC16 := Lib.hid (cell_next hq6 L16.out)
               have KCA0 := Lib.hid (cell_next hq6A L0.out)
               have KCA1 := Lib.hid (cell_next hq6A L1.out)
               have KCA2 := Lib.hid (cell_next hq6A L2.out)
               have KCA3 := Lib.hid (cell_next hq6A L3.out)
               have KCA4 := Lib.hid (cell_next hq6A L4.out)
               have KCA5 := Lib.hid (cell_next hq6A L5.out)
               have KCA6 := Lib.hid (cell_next hq6A L6.out)
               have KCA7 := Lib.hid (cell_next hq6A L7.out)
               have KCA8 := Lib.hid (cell_next hq6A L8.out)
               have KCA9 := Lib.hid (cell_next hq6A L9.out)
               have KCA10 := Lib.hid (cell_next hq6A L10.out)
               have KCA11 := Lib.hid (cell_next hq6A L11.out)
               have KCA12 := Lib.hid (cell_next hq6A L12.out)
               have KCA13 := Lib.hid (cell_next hq6A L13.out)
               have KCA14 := Lib.hid (cell_next hq6A L14.out)
               have KCA15 := Lib.hid (cell_next hq6A L15.out)
               have KCA16 := Lib.hid (cell_next hq6A L16.out)
               have HYB6 := Lib.hid (box_new w6 #[.string ⟨#[]⟩, .slice none 0 0, .slice none 0 0, .slice none 0 0, .slice none 0 0] 55)
               first
                 | ((with_reducible have hY6 := hY5.next hb6)
                    have hYF6 := hYF5.next (cell_lt (hY5 0 _ rfl)) hb6)
                 | ((with_reducible have hY6 := HYB5.out.next hb6)
                    have hYF6 : Free w6 w5.heap.size := Free.next (fun j => by simp [go_sem]) (by simp) hb6)
                 | (with_reducible have hcheck := below_then hb6 hq5))
            | (go_at_call 75
               refine (textsO_any f.vars _ _ (StrsAt.next (StrC.to HH4.out.vars) (by first | with_reducible exact hq4 | with_reducible exact hq4A)) hvlen).mono ?_
               rintro e w5 ⟨v5, rfl, hs5, hb5⟩
               obtain ⟨a5, c5, rfl⟩ := ownsForm hs5.1
               have HR5 := Lib.hid hs5
               have HS5 := Lib.hid (strs_owned hs5.1 rfl (by omega) hs5.2)
               have hq5 := below_then hb5 (by first | with_reducible exact hq4 | with_reducible exact hq4A)
               have hs5 : w4.heap.size ≤ w5.heap.size := hq5.size
               have hz5 := hb5.size
               have hq5A := hq5.alloc hs5 (.cells #[.string ⟨#[]⟩, .slice none 0 0, .slice none 0 0, .slice none 0 0, .slice none 0 0] 55)
               have hne5X : w5.heap.size ≠ w3.heap.size := by omega
               have hne5T : w5.heap.size ≠ w.heap.size + 1 := by omega
               have KB0 := Lib.hid (cell_next hq5 L0.out)
               have KB1 := Lib.hid (cell_next hq5 L1.out)
               have KB2 := Lib.hid (cell_next hq5 L2.out)
               have KB3 := Lib.hid (cell_next hq5 L3.out)
               have KB4 := Lib.hid (cell_next hq5 L4.out)
               have KB5 := Lib.hid (cell_next hq5 L5.out)
               have KB6 := Lib.hid (cell_next hq5 L6.out)
               have KB7 := Lib.hid (cell_next hq5 L7.out)
               have KB8 := Lib.hid (cell_next hq5 L8.out)
               have KB9 := Lib.hid (cell_next hq5 L9.out)
               have KB10 := Lib.hid (cell_next hq5 L10.out)
               have KB11 := Lib.hid (cell_next hq5 L11.out)
               have KB12 := Lib.hid (cell_next hq5 L12.out)
               have KB13 := Lib.hid (cell_next hq5 L13.out)
               have KB14 := Lib.hid (cell_next hq5 L14.out)
               have KB15 := Lib.hid (cell_next hq5 L15.out)
               have KB16 := Lib.hid (cell_next hq5 L16.out)
               have KBA0 := Lib.hid (cell_next hq5A L0.out)
               have KBA1 := Lib.hid (cell_next hq5A L1.out)
               have KBA2 := Lib.hid (cell_next hq5A L2.out)
               have KBA3 := Lib.hid (cell_next hq5A L3.out)
               have KBA4 := Lib.hid (cell_next hq5A L4.out)
               have KBA5 := Lib.hid (cell_next hq5A L5.out)
               have KBA6 := Lib.hid (cell_next hq5A L6.out)
               have KBA7 := Lib.hid (cell_next hq5A L7.out)
               have KBA8 := Lib.hid (cell_next hq5A L8.out)
               have KBA9 := Lib.hid (cell_next hq5A L9.out)
               have KBA10 := Lib.hid (cell_next hq5A L10.out)
               have KBA11 := Lib.hid (cell_next hq5A L11.out)
               have KBA12 := Lib.hid (cell_next hq5A L12.out)
               have KBA13 := Lib.hid (cell_next hq5A L13.out)
               have KBA14 := Lib.hid (cell_next hq5A L14.out)
               have KBA15 := Lib.hid (cell_next hq5A L15.out)
               have KBA16 := Lib.hid (cell_next hq5A L16.out)
               have HYB5 := Lib.hid (box_new w5 #[.string ⟨#[]⟩, .slice none 0 0, .slice none 0 0, .slice none 0 0, .slice none 0 0] 55)
               first
                 | ((with_reducible have hY5 := HYA.out.next hb5)
                    have hYF5 : Free w5 w4.heap.size := Free.next HYFA.out (by simp) hb5)
                 | (with_reducible have hcheck := below_then hb5 hq4))
            | (go_at_call 76
               refine (put_call D t HOKT.out HT1.out HT2.out HT3.out HT4.out HWT.out kat lat aat tat eat kct lct act tct ect d f.body _ _ (HH4.out.body.next (by first | with_reducible exact hq6 | with_reducible exact hq6A)) hbwt (HHT4.out.next (by first | with_reducible exact hq6 | with_reducible exact hq6A))).mono ?_
               rintro e w7 ⟨v7, rfl, hs7, hb7⟩
               rw [hLB.out] at hs7
               obtain ⟨a7, c7, rfl, -, -⟩ := hs7.form
               have HS7 := Lib.hid hs7
               have hq7 := below_then hb7 (by first | with_reducible exact hq6 | with_reducible exact hq6A)
               have hs7 : w4.heap.size ≤ w7.heap.size := hq7.size
               have hz7 := hb7.size
               have hq7A := hq7.alloc hs7 (.cells #[.string ⟨#[]⟩, .slice none 0 0, .slice none 0 0, .slice none 0 0, .slice none 0 0] 55)
               have hne7X : w7.heap.size ≠ w3.heap.size := by omega
               have hne7T : w7.heap.size ≠ w.heap.size + 1 := by omega
               have KD0 := Lib.hid (cell_next hq7 L0.out)
               have KD1 := Lib.hid (cell_next hq7 L1.out)
               have KD2 := Lib.hid (cell_next hq7 L2.out)
               have KD3 := Lib.hid (cell_next hq7 L3.out)
               have KD4 := Lib.hid (cell_next hq7 L4.out)
               have KD5 := Lib.hid (cell_next hq7 L5.out)
               have KD6 := Lib.hid (cell_next hq7 L6.out)
               have KD7 := Lib.hid (cell_next hq7 L7.out)
               have KD8 := Lib.hid (cell_next hq7 L8.out)
               have KD9 := Lib.hid (cell_next hq7 L9.out)
               have KD10 := Lib.hid (cell_next hq7 L10.out)
               have KD11 := Lib.hid (cell_next hq7 L11.out)
               have KD12 := Lib.hid (cell_next hq7 L12.out)
               have KD13 := Lib.hid (cell_next hq7 L13.out)
               have KD14 := Lib.hid (cell_next hq7 L14.out)
               have KD15 := Lib.hid (cell_next hq7 L15.out)
               have KD16 := Lib.hid (cell_next hq7 L16.out)
               have KDA0 := Lib.hid (cell_next hq7A L0.out)
               have KDA1 := Lib.hid (cell_next hq7A L1.out)
               have KDA2 := Lib.hid (cell_next hq7A L2.out)
               have KDA3 := Lib.hid (cell_next hq7A L3.out)
               have KDA4 := Lib.hid (cell_next hq7A L4.out)
               have KDA5 := Lib.hid (cell_next hq7A L5.out)
               have KDA6 := Lib.hid (cell_next hq7A L6.out)
               have KDA7 := Lib.hid (cell_next hq7A L7.out)
               have KDA8 := Lib.hid (cell_next hq7A L8.out)
               have KDA9 := Lib.hid (cell_next hq7A L9.out)
               have KDA10 := Lib.hid (cell_next hq7A L10.out)
               have KDA11 := Lib.hid (cell_next hq7A L11.out)
               have KDA12 := Lib.hid (cell_next hq7A L12.out)
               have KDA13 := Lib.hid (cell_next hq7A L13.out)
               have KDA14 := Lib.hid (cell_next hq7A L14.out)
               have KDA15 := Lib.hid (cell_next hq7A L15.out)
               have KDA16 := Lib.hid (cell_next hq7A L16.out)
               have HYB7 := Lib.hid (box_new w7 #[.string ⟨#[]⟩, .slice none 0 0, .slice none 0 0, .slice none 0 0, .slice none 0 0] 55)
               have hq7X := hq7.alloc hs7 (.cells #[.string f.nm, .slice none 0 0, .slice a5 f.vars.length c5, .slice a7 LB.length c7, .slice a6 f.fin.length c6] 55)
               have KDX0 := Lib.hid (cell_next hq7X L0.out)
               have KDX1 := Lib.hid (cell_next hq7X L1.out)
               have KDX2 := Lib.hid (cell_next hq7X L2.out)
               have KDX3 := Lib.hid (cell_next hq7X L3.out)
               have KDX4 := Lib.hid (cell_next hq7X L4.out)
               have KDX5 := Lib.hid (cell_next hq7X L5.out)
               have KDX6 := Lib.hid (cell_next hq7X L6.out)
               have KDX7 := Lib.hid (cell_next hq7X L7.out)
               have KDX8 := Lib.hid (cell_next hq7X L8.out)
               have KDX9 := Lib.hid (cell_next hq7X L9.out)
               have KDX10 := Lib.hid (cell_next hq7X L10.out)
               have KDX11 := Lib.hid (cell_next hq7X L11.out)
               have KDX12 := Lib.hid (cell_next hq7X L12.out)
               have KDX13 := Lib.hid (cell_next hq7X L13.out)
               have KDX14 := Lib.hid (cell_next hq7X L14.out)
               have KDX15 := Lib.hid (cell_next hq7X L15.out)
               have KDX16 := Lib.hid (cell_next hq7X L16.out)
               first
                 | ((with_reducible have hY7 := hY6.next hb7)
                    have hYF7 := hYF6.next (cell_lt (hY6 0 _ rfl)) hb7
                    have y0 := hY7 0 _ rfl
                    have y1 := hY7 1 _ rfl
                    have y2 := hY7 2 _ rfl
                    have y3 := hY7 3 _ rfl
                    have y4 := hY7 4 _ rfl
                    have f0 := hYF7 0
                    have f1 := hYF7 1
                    have f2 := hYF7 2
                    have f3 := hYF7 3
                    have f4 := hYF7 4)
                 | ((with_reducible have hY7 := HYB6.out.next hb7)
                    have hYF7 : Free w7 w6.heap.size := Free.next (fun j => by simp [go_sem]) (by simp) hb7
                    have y0 := hY7 0 _ rfl
                    have y1 := hY7 1 _ rfl
                    have y2 := hY7 2 _ rfl
                    have y3 := hY7 3 _ rfl
                    have y4 := hY7 4 _ rfl
                    have f0 := hYF7 0
                    have f1 := hYF7 1
                    have f2 := hYF7 2
                    have f3 := hYF7 3
                    have f4 := hYF7 4)
                 | (with_reducible have hcheck := below_then hb7 hq6)))
        all_goals
          have b56 : Below w5.heap.size w5 w6 := by first | with_reducible exact hb6 | with_reducible exact below_then hb6 (boxed w5 _)
          have b67 : Below w6.heap.size w6 w7 := by first | with_reducible exact hb7 | with_reducible exact below_then hb7 (boxed w6 _)
          have m6 := b56.size
          have m7 := b67.size
          have k5 := hb5.size
          have k6 := hb6.size
          have k7 := hb7.size
          (try simp only [World.size_drew, World.size_alloc] at k5 k6 k7)
          go_wp2_with fail
          go_meet
          first
           | (refine ⟨w7.heap.size, a5, a6, a7, c5, c6, c7, (by with_reducible rfl), ?_, ?_, ?_, ?_, ?_, ?_, ?_, ?_, w5.heap.size, ?_, ?_, ?_, ?_, ?_, ?_⟩
              · omega
              · simp
              · exact hq7.alloc hs7 _
              · exact (box_new w7 #[.string f.nm, .slice none 0 0, .slice a5 f.vars.length c5, .slice a7 LB.length c7, .slice a6 f.fin.length c6] 55)
              · exact fun j => by simp [go_sem]
              · refine StrC.mono (le_ne (B' := w4.heap.size) (Y := w7.heap.size) (below_then (boxed w7 _) (b56.trans (b67.mono b56.size))) ?_ ?_) HS5.out
                · first | omega | (simp; omega) | simp
                · first | (left; omega) | (right; omega) | (left; simp; omega) | (left; simp) | (right; simp; omega)
              · refine StrC.mono (le_ne (B' := w4.heap.size) (Y := w7.heap.size) (below_then (boxed w7 _) b67) ?_ ?_) HS6.out
                · first | omega | (simp; omega) | simp
                · first | (left; omega) | (right; omega) | (left; simp; omega) | (left; simp) | (right; simp; omega)
              · refine StC.mono (le_ne (B' := w4.heap.size) (Y := w7.heap.size) (boxed w7 _) ?_ ?_) HS7.out
                · first | omega | (simp; omega) | simp
                · first | (left; omega) | (right; omega) | (left; simp; omega) | (left; simp) | (right; simp; omega)
              · omega
              · first | omega | (simp; omega)
              · exact (HR5.out.next (below_then (boxed w7 _) (b56.trans (b67.mono b56.size)))).mono (by first | omega | (simp; omega) | simp)
              · intro b hb
                have hl := HR5.out.lt b hb
                try simp only [World.size_drew, World.size_alloc] at hl
                first | (constructor <;> omega) | (refine ⟨by omega, ?_⟩; simp; omega)
              · refine StrC.mono (le_ne (B' := w5.heap.size) (Y := w7.heap.size) (below_then (boxed w7 _) b67) ?_ ?_) HS6.out
                · first | omega | (simp; omega) | simp
                · first | (left; omega) | (right; omega) | (left; simp; omega) | (left; simp) | (right; simp; omega)
              · refine StC.mono (le_ne (B' := w5.heap.size) (Y := w7.heap.size) (boxed w7 _) ?_ ?_) HS7.out
                · first | omega | (simp; omega) | simp
                · first | (left; omega) | (right; omega) | (left; simp; omega) | (left; simp) | (right; simp; omega))
           | (refine ⟨w6.heap.size, a5, a6, a7, c5, c6, c7, (by with_reducible rfl), ?_, ?_, ?_, ?_, ?_, ?_, ?_, ?_, w5.heap.size, ?_, ?_, ?_, ?_, ?_, ?_⟩
              · omega
              · rw [size5]; exact cell_lt (hY7 0 _ rfl)
              · exact below5 hq7 (by omega)
              · exact box5 hY7
              · exact free5 hYF7
              · refine StrC.mono (Cs.le_trans (le_ne (B' := w4.heap.size) (Y := w6.heap.size) (b56.trans (b67.mono b56.size)) ?_ ?_) (only5 ?_)) HS5.out
                · first | omega | (simp; omega) | simp
                · first | (left; omega) | (right; omega) | (left; simp; omega) | (left; simp) | (right; simp; omega)
                · simp
              · refine StrC.mono (Cs.le_trans (le_ne (B' := w4.heap.size) (Y := w6.heap.size) b67 ?_ ?_) (only5 ?_)) HS6.out
                · first | omega | (simp; omega) | simp
                · first | (left; omega) | (right; omega) | (left; simp; omega) | (left; simp) | (right; simp; omega)
                · simp
              · refine StC.mono (Cs.le_trans (le_ne (B' := w4.heap.size) (Y := w6.heap.size) (Below.refl _ _) ?_ ?_) (only5 ?_)) HS7.out
                · first | omega | (simp; omega) | simp
                · first | (left; omega) | (right; omega) | (left; simp; omega) | (left; simp) | (right; simp; omega)
                · simp
              · omega
              · rw [size5]; omega
              · exact rows_five ((HR5.out.next (b56.trans (b67.mono b56.size))).mono (by first | omega | (simp; omega) | simp)) (fun b hb => by have hl := HR5.out.lt b hb; (try simp only [World.size_drew, World.size_alloc] at hl); omega)
              · intro b hb
                have hl := HR5.out.lt b hb
                try simp only [World.size_drew, World.size_alloc] at hl
                first | (constructor <;> omega) | (refine ⟨by omega, ?_⟩; simp; omega)
              · refine StrC.mono (Cs.le_trans (le_ne (B' := w5.heap.size) (Y := w6.heap.size) b67 ?_ ?_) (only5 ?_)) HS6.out
                · first | omega | (simp; omega) | simp
                · first | (left; omega) | (right; omega) | (left; simp; omega) | (left; simp) | (right; simp; omega)
                · simp
              · refine StC.mono (Cs.le_trans (le_ne (B' := w5.heap.size) (Y := w6.heap.size) (Below.refl _ _) ?_ ?_) (only5 ?_)) HS7.out
                · first | omega | (simp; omega) | simp
                · first | (left; omega) | (right; omega) | (left; simp; omega) | (left; simp) | (right; simp; omega)
                · simp)
           | (refine ⟨w5.heap.size, a5, a6, a7, c5, c6, c7, (by with_reducible rfl), ?_, ?_, ?_, ?_, ?_, ?_, ?_, ?_, w5.heap.size, ?_, ?_, ?_, ?_, ?_, ?_⟩
              · omega
              · rw [size5]; exact cell_lt (hY7 0 _ rfl)
              · exact below5 hq7 (by omega)
              · exact box5 hY7
              · exact free5 hYF7
              · refine StrC.mono (Cs.le_trans (le_ne (B' := w4.heap.size) (Y := w5.heap.size) (b56.trans (b67.mono b56.size)) ?_ ?_) (only5 ?_)) HS5.out
                · first | omega | (simp; omega) | simp
                · first | (left; omega) | (right; omega) | (left; simp; omega) | (left; simp) | (right; simp; omega)
                · simp
              · refine StrC.mono (Cs.le_trans (le_ne (B' := w4.heap.size) (Y := w5.heap.size) b67 ?_ ?_) (only5 ?_)) HS6.out
                · first | omega | (simp; omega) | simp
                · first | (left; omega) | (right; omega) | (left; simp; omega) | (left; simp) | (right; simp; omega)
                · simp
              · refine StC.mono (Cs.le_trans (le_ne (B' := w4.heap.size) (Y := w5.heap.size) (Below.refl _ _) ?_ ?_) (only5 ?_)) HS7.out
                · first | omega | (simp; omega) | simp
                · first | (left; omega) | (right; omega) | (left; simp; omega) | (left; simp) | (right; simp; omega)
                · simp
              · omega
              · rw [size5]; omega
              · exact rows_five ((HR5.out.next (b56.trans (b67.mono b56.size))).mono (by first | omega | (simp; omega) | simp)) (fun b hb => by have hl := HR5.out.lt b hb; (try simp only [World.size_drew, World.size_alloc] at hl); omega)
              · intro b hb
                have hl := HR5.out.lt b hb
                try simp only [World.size_drew, World.size_alloc] at hl
                first | (constructor <;> omega) | (refine ⟨by omega, ?_⟩; simp; omega)
              · refine StrC.mono (Cs.le_trans (le_ne (B' := w5.heap.size) (Y := w5.heap.size) b67 ?_ ?_) (only5 ?_)) HS6.out
                · first | omega | (simp; omega) | simp
                · first | (left; omega) | (right; omega) | (left; simp; omega) | (left; simp) | (right; simp; omega)
                · simp
              · refine StC.mono (Cs.le_trans (le_ne (B' := w5.heap.size) (Y := w5.heap.size) (Below.refl _ _) ?_ ?_) (only5 ?_)) HS7.out
                · first | omega | (simp; omega) | simp
                · first | (left; omega) | (right; omega) | (left; simp; omega) | (left; simp) | (right; simp; omega)
                · simp)
           | (refine ⟨w4.heap.size, a5, a6, a7, c5, c6, c7, (by with_reducible rfl), ?_, ?_, ?_, ?_, ?_, ?_, ?_, ?_, w5.heap.size, ?_, ?_, ?_, ?_, ?_, ?_⟩
              · omega
              · rw [size5]; exact cell_lt (hY7 0 _ rfl)
              · exact below5 hq7 (by omega)
              · exact box5 hY7
              · exact free5 hYF7
              · refine StrC.mono (Cs.le_trans (le_ne (B' := w4.heap.size) (Y := w4.heap.size) (b56.trans (b67.mono b56.size)) ?_ ?_) (only5 ?_)) HS5.out
                · first | omega | (simp; omega) | simp
                · first | (left; omega) | (right; omega) | (left; simp; omega) | (left; simp) | (right; simp; omega)
                · simp
              · refine StrC.mono (Cs.le_trans (le_ne (B' := w4.heap.size) (Y := w4.heap.size) b67 ?_ ?_) (only5 ?_)) HS6.out
                · first | omega | (simp; omega) | simp
                · first | (left; omega) | (right; omega) | (left; simp; omega) | (left; simp) | (right; simp; omega)
                · simp
              · refine StC.mono (Cs.le_trans (le_ne (B' := w4.heap.size) (Y := w4.heap.size) (Below.refl _ _) ?_ ?_) (only5 ?_)) HS7.out
                · first | omega | (simp; omega) | simp
                · first | (left; omega) | (right; omega) | (left; simp; omega) | (left; simp) | (right; simp; omega)
                · simp
              · omega
              · rw [size5]; omega
              · exact rows_five ((HR5.out.next (b56.trans (b67.mono b56.size))).mono (by first | omega | (simp; omega) | simp)) (fun b hb => by have hl := HR5.out.lt b hb; (try simp only [World.size_drew, World.size_alloc] at hl); omega)
              · intro b hb
                have hl := HR5.out.lt b hb
                try simp only [World.size_drew, World.size_alloc] at hl
                first | (constructor <;> omega) | (refine ⟨by omega, ?_⟩; simp; omega)
              · refine StrC.mono (Cs.le_trans (le_ne (B' := w5.heap.size) (Y := w4.heap.size) b67 ?_ ?_) (only5 ?_)) HS6.out
                · first | omega | (simp; omega) | simp
                · first | (left; omega) | (right; omega) | (left; simp; omega) | (left; simp) | (right; simp; omega)
                · simp
              · refine StC.mono (Cs.le_trans (le_ne (B' := w5.heap.size) (Y := w4.heap.size) (Below.refl _ _) ?_ ?_) (only5 ?_)) HS7.out
                · first | omega | (simp; omega) | simp
                · first | (left; omega) | (right; omega) | (left; simp; omega) | (left; simp) | (right; simp; omega)
                · simp)
      case rest =>
        obtain ⟨Y, a5, a6, a7, c5, c6, c7, rfl, hY0, hY1, hbc, hT, hTF, h5, h6, h7, M, hM1, hM2, hM3, hM4, hM5, hM6⟩ := hcut
        have hs34 := HB4.out.size
        have HM3 := Lib.hid hM3
        have HM4 := Lib.hid hM4
        have HM5 := Lib.hid hM5
        have HM6 := Lib.hid hM6
        clear hM3 hM4 hM5 hM6
        have HBC := Lib.hid hbc
        have HBC3 := Lib.hid (HB4.out.trans (hbc.mono hs34))
        have HT := Lib.hid hT
        have HTF := Lib.hid hTF
        have H5 := Lib.hid h5
        have H6 := Lib.hid h6
        have H7 := Lib.hid h7
        have hpar := (HH4.out.next hbc).par
        obtain ⟨hpn, hpc⟩ := paNews hpar
        have HPC := Lib.hid hpc
        have HPSZ := Lib.hid (PaAt.sizes hpar)
        have hplen : f.params.length ≤ 20000 := by have h1 := wtPa_len f.params; have h2 := hwf.out; unfold wtPc at h2; omega
        have y1 := hT 1 _ rfl
        have f1 := hTF 1
        have x1 := HX4.out.next hbc 1 _ rfl
        obtain ⟨iA, hiA, hzA0, hzA1, hzA2⟩ := info_parts infoPa
        have hneYX : Y ≠ w3.heap.size := by omega
        clear hbc hT hTF h5 h6 h7 hpar hpc HX4 HT4B
        go_wp2_with (at_builtin; refine wpList_append_sl _ rfl (.tmp 34) (.tmp 36) 53 rfl wc.heap.size 62 iA (.agg #[.string ⟨#[]⟩, .bool false]) 2 24 Try.underlying53 hiA hzA0 hzA1 hzA2 rfl (by decide) _ 0 [] rfl ?oa1 a1 f.params.length c1 (paRows f.params) rfl ?oz1 ?ob1 ?oc1 (paRows_one _) ?od1 ?oe1 ?of1 ?_)
        case oa1 => exact World.ownsRow_nil _ _ _ _
        case oz1 => exact fun h => List.eq_nil_of_length_eq_zero (hpn h)
        case ob1 => exact paRows_len _
        case oc1 => exact HPC.out
        case od1 => unfold maxLen; omega
        case oe1 => omega
        intro v10 w10 hown10 hg10 hat10
        obtain ⟨a10, c10, rfl⟩ := ownsForm hown10
        have hb10 : Below wc.heap.size wc w10 := (Below.refl _ _).grown hg10 (Nat.le_refl _) fun q hq => by cases hq
        have hpar10 := pa_owned (by simpa using hown10) rfl (by omega) HPSZ.out
        have HOP10 : Hid (w10.ownsRow wc.heap.size 62 2 (.slice a10 f.params.length c10) f.params.length (paRows f.params)) := Lib.hid (by simpa using hown10)
        have HPAR10 := Lib.hid hpar10
        have HB10 := Lib.hid hb10
        have hT10 := HT.out.next hb10
        have HT10 := Lib.hid hT10
        have z1 := hT10 1 _ rfl
        have zf := HTF.out.next hY1 hb10 1
        clear hown10 hg10 hat10 hb10 hpar10 hT10 y1 f1 x1
        go_upto_region 7 with fail
        have hYc : ¬ wc.heap.size ≤ Y := by omega
        refine cut_world (fun wx => Below w3.heap.size w3 wx ∧ Below w4.heap.size w4 wx ∧ BoxAt wx Y [.string f.nm, .slice a10 f.params.length c10, .slice a5 f.vars.length c5, .slice a7 LB.length c7, .slice a6 f.fin.length c6] ∧
          PcQ (d + D) (nwC w4.heap.size wx) [.string f.nm, .slice a10 f.params.length c10, .slice a5 f.vars.length c5, .slice a7 LB.length c7, .slice a6 f.fin.length c6] (putPc t f) ∧ PcZ (d + D) w4.heap.size wx [.string f.nm, .slice a10 f.params.length c10, .slice a5 f.vars.length c5, .slice a7 LB.length c7, .slice a6 f.fin.length c6] (putPc t f)) ⟨?_, ?_, ?_, ?_, ?_⟩ ?_
        · exact (HBC3.out.trans (HB10.out.mono HBC3.out.size)).setCell (p := ⟨Y, 1, none⟩) (by simp; omega) _
        · exact (HBC.out.trans (HB10.out.mono HBC.out.size)).setCell (p := ⟨Y, 1, none⟩) hY0 _
        · exact HT10.out.put (j := 1) (x := .slice a10 f.params.length c10) (by simp)
        · have hle : Cs.le (only (fun g => w4.heap.size ≤ g ∧ g ≠ Y) (cw wc)) (nwC w4.heap.size (w10.setCell ⟨Y, 1, none⟩ (.slice a10 f.params.length c10))) := Cs.le_trans (only_le (fun _ h => h) (cw_next HB10.out)) (Cs.le_trans (only_set (by simp)) (only_le (fun g h => h.1) (fun _ _ _ h => h)))
          have hle2 : Cs.le (nwC wc.heap.size w10) (nwC w4.heap.size (w10.setCell ⟨Y, 1, none⟩ (.slice a10 f.params.length c10))) := Cs.le_trans (only_set hYc) (only_le (fun g h => Nat.le_trans HBC.out.size h) (fun _ _ _ h => h))
          refine ⟨_, _, _, _, rfl, HNM.out, SlAt.imp HPAR10.out (fun _ _ _ _ => PaAt.mono hle2), StrC.mono hle H5.out, ?_, StrC.mono hle H6.out⟩
          show StC _ _ _ (putL t f.body)
          rw [hLB.out]
          exact StC.mono hle H7.out
        · have hs10 := HB10.out.size
          have hle : Cs.le (only (fun g => M ≤ g ∧ g ≠ Y) (cw wc)) (only (fun g => M ≤ g ∧ g < wc.heap.size) (cw (w10.setCell ⟨Y, 1, none⟩ (.slice a10 f.params.length c10)))) := fun g j u ⟨h1, h2⟩ => by
            have h3 := cell_lt h2
            refine ⟨⟨h1.1, h3⟩, ?_⟩
            show (w10.setCell ⟨Y, 1, none⟩ (.slice a10 f.params.length c10)).cell? ⟨g, j, none⟩ = some u
            rw [World.cell?_setCell_other _ _ _ _ (fun e => h1.2 (congrArg Addr.block e).symm)]
            exact cell_next HB10.out h2
          refine ⟨M, wc.heap.size, _, _, _, _, rfl, HNM.out, hM1, hM2, by rw [World.size_setCell]; exact hs10, ?_, fun b hb => (HM4.out b hb).1, StrC.mono hle HM5.out, ?_, ?_, HPSZ.out⟩
          · exact rows_same (HM3.out.next HB10.out) fun b hb => set_block (HM4.out b hb).2
          · show StC _ _ _ (putL t f.body)
            rw [hLB.out]
            exact StC.mono hle HM6.out
          · exact owns_same HOP10.out fun b hb => set_block (by have := (HOP10.out.lt b hb).1; omega)
        rintro w11 ⟨hb11, hb411, hT11, hpq, hpz⟩
        have HPZ := Lib.hid hpz
        have HB11 := Lib.hid hb11
        have HB411 := Lib.hid hb411
        have HPQ := Lib.hid hpq
        have q0 := hT11 0 _ rfl
        have q1 := hT11 1 _ rfl
        have q2 := hT11 2 _ rfl
        have q3 := hT11 3 _ rfl
        have q4 := hT11 4 _ rfl
        have g1 := cell_next hb11 (HG.out.y 1 _ rfl)
        have g1f := frozen_next hb11 (HG.out.y 1 _ rfl) (HG.out.fy 1)
        have hown := ownsBelow HG.out.acc.own hb11
        rw [HQA.out] at hown
        have HOWN := Lib.hid hown
        have hbw := HG.out.bw
        have hylt := HG.out.ylt
        have hz11 := hb11.size
        have hyb := HG.out.yb
        have HNB := Lib.hid HG.out.own
        have hplen2 : p.procs.length ≤ 20000 := by have h1 := wtPc_len p.procs; have h2 := HWP.out; unfold wtPr at h2; omega
        clear hb11 hb411 hT11 hpq hpz hown z1 zf HT10 HPAR10 HB10 HT HTF H5 H6 H7 HPC
        go_wp2_with (at_builtin; refine wpList_append_lies _ rfl (.tmp 40) (.tmp 42) 23 rfl wb.heap.size 55 iP (.agg #[.string ⟨#[]⟩, .slice none 0 0, .slice none 0 0, .slice none 0 0, .slice none 0 0]) 5 112 Try.underlying23 hiP hzP0 hzP1 hzP2 rfl (by decide) _ _ _ rfl (HOWN.out.alloc _) ⟨_, 0, none⟩ 1 1 [.string f.nm, .slice a10 f.params.length c10, .slice a5 f.vars.length c5, .slice a7 LB.length c7, .slice a6 f.fin.length c6] rfl rfl ?_ (by simp [Value.oneCell']) (by decide) ?_ ?_ ?_ _ rfl ?_)
        · intro j u h
          rw [Addr.add_lit, World.cell?_alloc_new]
          simpa using h
        · unfold maxLen; omega
        · omega
        · simp only [World.size_alloc]
          omega
        intro g12 cap12 w12 hown12 hg12 hat12 hlt12
        have HOWN12 := Lib.hid hown12
        have HG12 := Lib.hid hg12
        have HAT12 := Lib.hid hat12
        have r1 := (hg12.cell_far ⟨w2.heap.size, 1, none⟩ (by simp <;> omega) (HNB.out _ (by simp <;> omega))).trans (cell_next (boxed w11 _) g1)
        have r1f := (hg12.frozen_far ⟨w2.heap.size, 1, none⟩ (by simp <;> omega) (HNB.out _ (by simp <;> omega))).trans (frozen_next (boxed w11 _) g1 g1f)
        clear hown12 hg12 hat12 hlt12
        go_wp2_with fail
        go_roundw
        case rel =>
          have hbw11 := boxed w11 (.cells #[.string f.nm, .slice a10 f.params.length c10, .slice a5 f.vars.length c5, .slice a7 LB.length c7, .slice a6 f.fin.length c6] 55)
          have hch := HB11.out.trans (hbw11.mono HB11.out.size)
          refine ⟨k + 1, .slice (some ⟨g12, 0, none⟩) (k + 1) cap12, rows5 ++ [[.string f.nm, .slice a10 f.params.length c10, .slice a5 f.vars.length c5, .slice a7 LB.length c7, .slice a6 f.fin.length c6]], by omega, by go_num, ?_, ?_, ?_, ?_, ?_, ?_⟩
          · exact Grow.below (B := wb.heap.size) (Y := w2.heap.size) (slot := 1) HBel.out hch HG12.out (by omega) (by omega) HG.out.own
          · have := HG12.out.size
            have := hch.size
            simp only [World.size_setCell, World.size_alloc] at *
            omega
          · exact Cs.le_trans (D := only (fun g => g < wb.heap.size ∧ g ≠ w2.heap.size) (cw w3)) (fun g j u h => ⟨h.1, HKEEP.out g j u h⟩) (Cs.le_trans (grow_keep hch HG12.out HG.out.own) only_out)
          · have hst := HG.out.step (v4 := .slice (some ⟨g12, 0, none⟩) (k + 1) cap12) (by simp) (PcQ.mono (d + D)) HB4.out HB411.out hbw11 HG12.out (fun z hz => by have hzz : g12 = z := by { simpa [Value.ownBlock] using hz }; subst hzz; exact HAT12.out.imp id fun h => by omega) rfl HPQ.out (by rw [HQA.out]; exact HOWN12.out)
            rw [List.take_succ_eq_append_getElem hlt, List.map_append, hf.out]
            exact hst
          · have hzs := HZ.out.step (v4 := .slice (some ⟨g12, 0, none⟩) (k + 1) cap12) (Y := w2.heap.size) (slot := 1) (HG.out.acc.len) (fun g hg => (HG.out.acc.own.lt g hg).2) hz5 HB4.out HB411.out hbw11 HG12.out (fun z hz => by have hzz : g12 = z := by { simpa [Value.ownBlock] using hz }; subst hzz; exact HAT12.out.imp id fun h => by omega) (by omega) HPZ.out
            rw [List.take_succ_eq_append_getElem hlt, List.map_append, hf.out]
            exact ⟨_, _, hzs⟩
          · refine rows_same (rows_same (HGR3.out.next hch) (w' := w12) fun g hg => ?_) fun g hg => set_block (by have := HGLT.out g hg; omega)
            have hgl := HGLT.out g hg
            refine HG12.out.block g (Nat.lt_of_lt_of_le (Nat.lt_of_lt_of_le (by omega) hz5) hch.size) fun e => ?_
            exact HG.out.own g (by omega) e
        case measure => simp [intOf]; omega
    · have hlt' : ¬ (k : Int) < (p.procs.length : Int) := by omega
      have hke : k = p.procs.length := by omega
      subst hke
      rw [List.take_length] at HG HZ
      have HZE := Lib.hid HZ.out
      have y0 := HG.out.y 0 _ rfl
      have y1 := HG.out.y 1 _ rfl
      obtain ⟨r0, hr0⟩ := HG.out.r 0 (by omega)
      obtain ⟨r1, hr1⟩ := HG.out.r 1 (by omega)
      have f1 := HG.out.fr 0
      have f2 := HG.out.fr 1
      have HACC := Lib.hid HG.out.acc
      have hne1 : ∀ i j, (⟨w.heap.size + 1 + 1, i, none⟩ : Addr) ≠ ⟨w2.heap.size, j, none⟩ := fun i j e => by have := congrArg Addr.block e; simp only at this; omega
      have HGL : Hid (StrC (only (fun g => w.heap.size + 1 + 1 + 1 ≤ g ∧ g < wb.heap.size) (cw w3)) (.slice ga2 p.globals.length gc2) p.globals) := Lib.hid (StrC.mono (fun g j u h => ⟨⟨h.1.1, cell_lt h.2⟩, HKEEP.out g j u ⟨⟨cell_lt h.2, h.1.2⟩, h.2⟩⟩) HGB.out)
      clear hbel
      go_wp2_with fail
      have q0 : ((w3.setCell ⟨w.heap.size + 1 + 1, 0, none⟩ (.slice ga2 p.globals.length gc2)).setCell ⟨w.heap.size + 1 + 1, 1, none⟩ (.slice va5 p.procs.length vc5)).cell? ⟨w.heap.size + 1 + 1, 0, none⟩ = some (.slice ga2 p.globals.length gc2) := by
        rw [World.cell?_setCell_other _ _ _ _ (fun e => by have := congrArg Addr.off e; simp at this)]
        exact cell_set hr0
      have q1 : ((w3.setCell ⟨w.heap.size + 1 + 1, 0, none⟩ (.slice ga2 p.globals.length gc2)).setCell ⟨w.heap.size + 1 + 1, 1, none⟩ (.slice va5 p.procs.length vc5)).cell? ⟨w.heap.size + 1 + 1, 1, none⟩ = some (.slice va5 p.procs.length vc5) := by
        refine cell_set (y := r1) ?_
        rw [World.cell?_setCell_other _ _ _ _ (fun e => by have := congrArg Addr.off e; simp at this)]
        exact hr1
      refine bodyPost_ret (v := .agg #[.slice ga2 p.globals.length gc2, .slice va5 p.procs.length vc5]) (by simp [results, Try.results29, go_sem, q0, q1]) rfl ⟨.slice ga2 p.globals.length gc2, .slice va5 p.procs.length vc5, wb.heap.size, rows5, Lo, W, rfl, by omega, ?_, fun g hg => Nat.lt_trans (HGLT.out g hg) hnb, ?_, ?_, ?_⟩
      · have hA : ∀ g, w.heap.size + 1 + 1 ≠ g → True := fun _ _ => trivial
        exact rows_same (rows_same HGR3.out fun g hg => set_block (GNE.out g hg)) fun g hg => set_block (GNE.out g hg)
      · exact (HACC.out.set (PcQ.mono (d + D)) (b := w.heap.size + 1 + 1) (by omega) _).set (PcQ.mono (d + D)) (b := w.heap.size + 1 + 1) (by omega) _
      · exact (HZE.out.set (by omega) _).set (by omega) _
      · exact (HBel.out.setCell (p := ⟨_, _, none⟩) (by simp; omega) _).setCell (p := ⟨_, _, none⟩) (by simp; omega) _
end Go.Proofs.Ytghlmengcidmdaa.Tr
