/- Parts of SwapP, SwapPl: walks and plain laws that later texts use. Conditions: as each statement says. -/
import Derived.Test.YtghlmengcidmdaaSa0
import Derived.Test.YtghlmengcidmdaaSa1
import Derived.Test.YtghlmengcidmdaaSa10
import Derived.Test.YtghlmengcidmdaaSa11
import Derived.Test.YtghlmengcidmdaaSa12
import Derived.Test.YtghlmengcidmdaaSa13
import Derived.Test.YtghlmengcidmdaaSa14
import Derived.Test.YtghlmengcidmdaaSa15
import Derived.Test.YtghlmengcidmdaaSa16
import Derived.Test.YtghlmengcidmdaaSa2
import Derived.Test.YtghlmengcidmdaaSa20
import Derived.Test.YtghlmengcidmdaaSa28
import Derived.Test.YtghlmengcidmdaaSa3
import Derived.Test.YtghlmengcidmdaaSa4
import Derived.Test.YtghlmengcidmdaaSa5
import Derived.Test.YtghlmengcidmdaaSa6
import Derived.Test.YtghlmengcidmdaaSa7
import Derived.Test.YtghlmengcidmdaaSa8
import Derived.Test.YtghlmengcidmdaaSa9
import Derived.Test.YtghlmengcidmdaaSf0
import Derived.Test.YtghlmengcidmdaaSf1
import Derived.Outline
import Derived.OrdersHeld
import Derived.Deep.RegionHeld3
import Derived.Deep.RegionLaw
import Derived.Deep.DeepCutAuto
import Derived.IntWalk
import Derived.Deep.QuietTactic
import Derived.BigQuiet
import Derived.Deep.RegionWith
import Derived.Laws.Cover3
import Derived.OwnWalk
import Derived.OneCell
import Derived.Deep.AppendLies
import Derived.Deep.CutBlock
import Derived.Laws.StructEq
import Derived.WalkKit
import Derived.Test.YtghlmengcidmdaaRows
import Derived.WalkSpells
import Derived.Lib.Hide
import Derived.Below
import Derived.Laws.BitsAllLaws
import Derived.WalkSmall
import Derived.StillTailTactics
import Derived.RegionTactic
import Derived.Maps.Range
import Derived.Lib.SmallJoins
import Derived.Deep.Upon
import Derived.Maps.AppendAt
import Derived.Laws.OwnMore
import Derived.Deep.Slices
import Derived.Deep.Fields
import Derived.SliceStrings
import Derived.ChangeSlices
section
/- What Swap of the reference makes: a program with two names changed for each other. Conditions: it lies in memory and is light. -/
namespace Go.Proofs.Ytghlmengcidmdaa.Tr
open Go.RowKit Go.Proofs.Ytghlmengcidmdaa.Lx Go.Proofs.Ytghlmengcidmdaa.Wd
def swPa (a b : ByteArray) (x : Pa) : Pa := ⟨other a b x.nm, x.ref⟩
def swPc (a b : ByteArray) (f : Pc) : Pc := ⟨other a b f.nm, f.params.map (swPa a b), f.vars.map (other a b), swL a b f.body, f.fin.map (other a b)⟩
def swPr (a b : ByteArray) (p : Pr) : Pr := ⟨p.globals.map (other a b), p.procs.map (swPc a b)⟩
theorem Acc.paC {B : Nat} {w : World} {v : Value} {l : List Pa} {rows : List (List Value)} (h : Acc PaQ B 62 2 w v l rows) : SlAt 2 (PaAt (nwC B w)) v l :=
  h.sl (P := fun C g o x => PaAt C g o x) h.max (fun _ _ _ _ _ h => h) fun C c g o x _ _ hq hc => by
    obtain ⟨rfl, h2⟩ := hq
    exact ⟨hc 0 _ rfl, hc 1 _ rfl, h2⟩
/-- So much of a program as can be swapped. -/
structure FewP (p : Pr) : Prop where
  glob : p.globals.length ≤ 20000
  procs : p.procs.length ≤ 20000
  each : ∀ f ∈ p.procs, f.params.length ≤ 20000 ∧ f.vars.length ≤ 20000 ∧ f.fin.length ≤ 20000 ∧ f.body.length ≤ 20000 ∧ FewL f.body
theorem FewP.of {p : Pr} (h : wtPr p ≤ 20000) : FewP p := by
  unfold wtPr at h
  have h1 := wtTs_len p.globals
  have h2 := wtPc_len p.procs
  refine ⟨by omega, by omega, fun f hf => ?_⟩
  have h3 := sum_mem wtPc p.procs f hf
  have h4 : wtPc f ≤ 20000 := by omega
  unfold wtPc at h4
  have h5 := wtPa_len f.params
  have h6 := wtTs_len f.vars
  have h7 := wtTs_len f.fin
  have h8 := wtL_len f.body
  exact ⟨by omega, by omega, by omega, by omega, fewL_of _ (by omega)⟩
set_option linter.unusedSimpArgs false
set_option maxHeartbeats 8000000 in
set_option maxRecDepth 100000 in
theorem swapP_row (a b : ByteArray) (ha : a.size ≤ 9223372036854775807) (hb : b.size ≤ 9223372036854775807) (d : Nat) (p : Pr) (gv pv : Value) (w : World) (hp : PrC (cw w) d gv pv p) (hwp : FewP p) :
    Calls Try.prog 45 #[.agg #[gv, pv], .string a, .string b] w (ProgRow d (swPr a b p) w) := by
  obtain ⟨ga, gc, rfl, -, -⟩ := hp.1.form
  obtain ⟨pa, pc, rfl, hl1, hl2⟩ := hp.2.form
  have HP := Lib.hid hp
  have HWP := Lib.hid hwp
  have HLIM := Lib.hid (Nat.le_trans hl1 hl2)
  have HSA := Lib.hid ha
  have HSB := Lib.hid hb
  obtain ⟨GS, hGS⟩ : ∃ L, Hid (p.globals.map (other a b) = L) := ⟨_, Lib.hid rfl⟩
  clear hp hwp hl1 hl2 ha hb
  go_enter Try.func45, Try.ntmps45
  go_upto_region 1 with fail
  refine cut_world (fun wx => Below w.heap.size w wx ∧ wx.heap.size = w.heap.size + 1 + 1 ∧ BoxAt wx w.heap.size [.slice ga p.globals.length gc, .slice pa p.procs.length pc] ∧ BoxAt wx (w.heap.size + 1) [.slice none 0 0, .slice none 0 0] ∧ Free wx (w.heap.size + 1)) ⟨?_, by simp, ?_, ?_, ?_⟩ ?_
  · exact (boxed w _).alloc (by simp) _
  · exact (box_new w #[.slice ga p.globals.length gc, .slice pa p.procs.length pc] 25).next (boxed _ _)
  · exact box_two w _ #[.slice none 0 0, .slice none 0 0] 25
  · exact fun j => by simp [go_sem]
  rintro w1 ⟨hb1, hz1, hp1, hr1, hrf1⟩
  have HB1 := Lib.hid hb1
  have HP1 := Lib.hid hp1
  have HR1 := Lib.hid hr1
  have HRF1 := Lib.hid hrf1
  have HPP1 := Lib.hid (PrC.mono (cw_next hb1) HP.out)
  have p0 := hp1 0 _ rfl
  have hglob : p.globals.length ≤ 1000000 := by have := HWP.out.glob; omega
  clear hb1 hp1 hr1 hrf1
  go_wp2_with fail
  refine (swapTexts_any p.globals _ a b _ (StrC.to HPP1.out.1) hglob HSA.out HSB.out).mono ?_
  rintro e w2 ⟨gv2, rfl, hg2, hb2⟩
  rw [hGS.out] at hg2
  obtain ⟨ga2, gc2, rfl, -, -⟩ := hg2.form
  have HG2 := Lib.hid hg2
  have HB2 := Lib.hid hb2
  have p1 := HP1.out.next hb2 1 _ rfl
  clear hg2 hb2 p0
  have zl := cell_lt p1
  have zn := World.new_ne _ _ p1
  go_wp2_with fail
  refine cut_world (fun wx => Below w.heap.size w wx ∧ w.heap.size + 1 + 1 ≤ w2.heap.size ∧ w2.heap.size < wx.heap.size ∧ BoxAt wx (w.heap.size + 1) [.slice none 0 0, .slice none 0 0] ∧ Free wx (w.heap.size + 1) ∧ BoxAt wx w2.heap.size [.slice ga2 GS.length gc2, .slice none 0 0] ∧ Free wx w2.heap.size ∧ StrC (only (fun g => w.heap.size + 1 + 1 ≤ g ∧ g ≠ w2.heap.size) (cw wx)) (.slice ga2 GS.length gc2) GS) ⟨?_, ?_, by simp, ?_, ?_, box_new w2 #[.slice ga2 GS.length gc2, .slice none 0 0] 25, fun j => by simp [go_sem], ?_⟩ ?_
  · exact (HB1.out.trans (HB2.out.mono HB1.out.size)).trans ((boxed w2 _).mono (Nat.le_trans HB1.out.size HB2.out.size))
  · have := HB2.out.size; omega
  · exact (HR1.out.next HB2.out).next (boxed _ _)
  · exact (HRF1.out.next (by omega) HB2.out).next (by have := HB2.out.size; omega) (boxed _ _)
  · exact StrC.mono (le_ne (boxed w2 _) (by omega) (.inr (Nat.le_refl _))) HG2.out
  rintro wb ⟨hbb, hn2, hnb, hrb, hrf, hqb, hqf, hgb⟩
  have HBB := Lib.hid hbb
  have HRB := Lib.hid hrb
  have HRF := Lib.hid hrf
  have HQB := Lib.hid hqb
  have HQF := Lib.hid hqf
  have HGB := Lib.hid hgb
  obtain ⟨iP, hiP, hzP0, hzP1, hzP2⟩ := info_parts infoPc
  clear hbb hrb hrf hqb hqf hgb p1 zl zn HB1 HP1 HR1 HRF1 HPP1 HG2 HB2 hglob
  go_loopw [22] (fun i wr => ∃ (k : Nat) (v : Value) (rows : List (List Value)), k ≤ p.procs.length ∧ i = .int .i64 k ∧ Below w.heap.size w wr ∧ wb.heap.size ≤ wr.heap.size ∧ Cs.le (only (fun g => g < wb.heap.size ∧ g ≠ w2.heap.size) (cw wb)) (cw wr) ∧
    Grow (PcQ d) 55 5 wb.heap.size w2.heap.size (w.heap.size + 1) 2 [.slice ga2 GS.length gc2, .slice none 0 0] 1 ((p.procs.take k).map (swPc a b)) wr v rows) (fun i _ => (p.procs.length - intOf i).toNat)
  case atStart =>
    refine ⟨0, .slice none 0 0, [], by omega, rfl, HBB.out, Nat.le_refl _, only_out, by omega, by omega, by omega, by omega, HQB.out, HQF.out, fun j hj => ⟨_, HRB.out j _ (List.getElem?_eq_getElem (by simpa using hj))⟩, HRF.out, ?_, Nat.le_refl _⟩
    exact Acc.nil _ _ _ _ _
  case round =>
    obtain ⟨k, v5, rows5, hk, rfl, hbel, hz5, hkeep, hG⟩ := hrel
    have HBel := Lib.hid hbel
    have HKEEP := Lib.hid hkeep
    have HG := Lib.hid hG
    have hqa : ((p.procs.take k).map (swPc a b)).length = k := by rw [List.length_map, List.length_take]; omega
    obtain ⟨va5, vc5, hv5⟩ := ownsForm hG.acc.own
    rw [hqa] at hv5
    subst hv5
    have HQA := Lib.hid hqa
    have hlim := HLIM.out
    obtain ⟨w3, hw3⟩ : ∃ w3 : World, w3 = wr := ⟨_, rfl⟩
    subst hw3
    clear hqa hG hkeep
    by_cases hlt : k < p.procs.length
    · have hlt' : (k : Int) < (p.procs.length : Int) := by omega
      have h0k : (0 : Int) ≤ (k : Int) := by omega
      have hne : p.procs ≠ [] := by intro h; rw [h] at hlt; simp at hlt
      obtain ⟨g, off, cap', hv, _, hcells⟩ := SlAt.cells (PrC.mono (cw_next hbel) HP.out).2 hne
      simp only [Value.slice.injEq] at hv
      obtain ⟨rfl, -, rfl⟩ := hv
      have hat := hcells k hlt
      have hmem := List.getElem_mem hlt
      obtain ⟨f, hf⟩ : ∃ f, Hid (p.procs[k] = f) := ⟨_, Lib.hid rfl⟩
      rw [hf.out] at hat hmem
      have hwf := Lib.hid (HWP.out.each f hmem)
      obtain ⟨pv, vv, bv, fv, p0, p1, p2, p3, p4, hnm, hps, hvs, hbody, hfin⟩ := hat
      obtain ⟨a1, c1, rfl, bp1, bp2⟩ := hps.form
      obtain ⟨a2, c2, rfl, -, -⟩ := hvs.form
      obtain ⟨a3, c3, rfl, -, -⟩ := hbody.form
      obtain ⟨a4, c4, rfl, -, -⟩ := hfin.form
      have e0 : w3.cell? ⟨g, off + k * 5, none⟩ = _ := p0
      have e1 : w3.cell? ⟨g, off + k * 5 + 1, none⟩ = _ := p1
      have e2 : w3.cell? ⟨g, off + k * 5 + 2, none⟩ = _ := p2
      have e3 : w3.cell? ⟨g, off + k * 5 + 3, none⟩ = _ := p3
      have e4 : w3.cell? ⟨g, off + k * 5 + 4, none⟩ = _ := p4
      have HH := Lib.hid (HangP.mk (f := f) hps hvs hbody hfin)
      have HNMF := Lib.hid hnm
      clear hcells hne p0 p1 p2 p3 p4 hps hvs hbody hfin hbel bp1 bp2 hmem hnm
      go_upto_region 5 with fail
      refine cut_world (fun wx => Below w3.heap.size w3 wx ∧ w3.heap.size < wx.heap.size ∧ Free wx w3.heap.size ∧ BoxAt wx w3.heap.size [.string f.nm, .slice a1 f.params.length c1, .slice a2 f.vars.length c2, .slice a3 f.body.length c3, .slice a4 f.fin.length c4]) ⟨boxed _ _, by simp, fun j => by simp [go_sem], box_new w3 #[.string f.nm, .slice a1 f.params.length c1, .slice a2 f.vars.length c2, .slice a3 f.body.length c3, .slice a4 f.fin.length c4] 55⟩ ?_
      rintro w4 ⟨hb4, hz4, hfx4, hx4⟩
      have HFX4 := Lib.hid hfx4
      clear e0 e1 e2 e3 e4
      have HB4 := Lib.hid hb4
      have HX4 := Lib.hid hx4
      have HH4 := Lib.hid (HH.out.next hb4)
      have hplen : f.params.length ≤ 1000000 := by have h2 := hwf.out; omega
      have hvlen : f.vars.length ≤ 1000000 := by have h2 := hwf.out; omega
      have hflen : f.fin.length ≤ 1000000 := by have h2 := hwf.out; omega
      have hbwt := hwf.out.2.2.2.2
      have hblen := hwf.out.2.2.2.1
      clear hb4 hx4 hfx4
      have hq4 : Below w4.heap.size w4 w4.drew := (Below.refl _ _).drew
      have hq4A : Below w4.heap.size w4 (w4.alloc (.cells #[.string ⟨#[]⟩, .slice none 0 0, .slice none 0 0, .slice none 0 0, .slice none 0 0] 55)).drew := (boxed w4 _).drew
      have L0 : Hid (w4.cell? ⟨w3.heap.size, 0, none⟩ = some (.string f.nm)) := Lib.hid (HX4.out 0 _ rfl)
      have L1 : Hid (w4.cell? ⟨w3.heap.size, 2, none⟩ = some (.slice a2 f.vars.length c2)) := Lib.hid (HX4.out 2 _ rfl)
      have L2 : Hid (w4.cell? ⟨w3.heap.size, 3, none⟩ = some (.slice a3 f.body.length c3)) := Lib.hid (HX4.out 3 _ rfl)
      have L3 : Hid (w4.cell? ⟨w3.heap.size, 4, none⟩ = some (.slice a4 f.fin.length c4)) := Lib.hid (HX4.out 4 _ rfl)
      have KA0 := Lib.hid (cell_next hq4 L0.out)
      have KA1 := Lib.hid (cell_next hq4 L1.out)
      have KA2 := Lib.hid (cell_next hq4 L2.out)
      have KA3 := Lib.hid (cell_next hq4 L3.out)
      have KAA0 := Lib.hid (cell_next hq4A L0.out)
      have KAA1 := Lib.hid (cell_next hq4A L1.out)
      have KAA2 := Lib.hid (cell_next hq4A L2.out)
      have KAA3 := Lib.hid (cell_next hq4A L3.out)
      have hne4X : w4.heap.size ≠ w3.heap.size := by omega
      have HYA := Lib.hid ((box_new w4 #[.string ⟨#[]⟩, .slice none 0 0, .slice none 0 0, .slice none 0 0, .slice none 0 0] 55).next ((Below.refl _ _).drew))
      have HYFA : Hid (Free (w4.alloc (.cells #[.string ⟨#[]⟩, .slice none 0 0, .slice none 0 0, .slice none 0 0, .slice none 0 0] 55)).drew w4.heap.size) := Lib.hid (Free.next (fun j => by simp [go_sem]) (by simp) ((Below.refl _ _).drew))
      obtain ⟨NM, hNM⟩ : ∃ L, Hid (other a b f.nm = L) := ⟨_, Lib.hid rfl⟩
      obtain ⟨VS, hVS⟩ : ∃ L, Hid (f.vars.map (other a b) = L) := ⟨_, Lib.hid rfl⟩
      obtain ⟨FS, hFS⟩ : ∃ L, Hid (f.fin.map (other a b) = L) := ⟨_, Lib.hid rfl⟩
      obtain ⟨LB, hLB⟩ : ∃ L, Hid (swL a b f.body = L) := ⟨_, Lib.hid rfl⟩
      go_cut [10] (fun ax wx => ∃ (Y : Nat) (a5 a6 a7 : Option Addr) (c5 c6 c7 : Nat), ax = .pointer (some ⟨Y, 0, none⟩) ∧ w4.heap.size ≤ Y ∧ Y < wx.heap.size ∧ Below w4.heap.size w4 wx ∧ BoxAt wx Y [.string NM, .slice none 0 0, .slice a5 VS.length c5, .slice a7 LB.length c7, .slice a6 FS.length c6] ∧ Free wx Y ∧
        StrC (only (fun g => w4.heap.size ≤ g ∧ g ≠ Y) (cw wx)) (.slice a5 VS.length c5) VS ∧ StrC (only (fun g => w4.heap.size ≤ g ∧ g ≠ Y) (cw wx)) (.slice a6 FS.length c6) FS ∧ StC (only (fun g => w4.heap.size ≤ g ∧ g ≠ Y) (cw wx)) d (.slice a7 LB.length c7) LB)
      case first =>
        go_region_held3 (fun w' => w'.cell? ⟨w3.heap.size, 0, none⟩ = some (.string f.nm) ∧ w'.cell? ⟨w3.heap.size, 2, none⟩ = some (.slice a2 f.vars.length c2) ∧ w'.cell? ⟨w3.heap.size, 3, none⟩ = some (.slice a3 f.body.length c3) ∧ w'.cell? ⟨w3.heap.size, 4, none⟩ = some (.slice a4 f.fin.length c4))
          (first
            | with_reducible exact ⟨KA0.out, KA1.out, KA2.out, KA3.out⟩
            | with_reducible exact ⟨KAA0.out, KAA1.out, KAA2.out, KAA3.out⟩
            | with_reducible exact ⟨KB0.out, KB1.out, KB2.out, KB3.out⟩
            | with_reducible exact ⟨KC0.out, KC1.out, KC2.out, KC3.out⟩
            | with_reducible exact ⟨KD0.out, KD1.out, KD2.out, KD3.out⟩
            | with_reducible exact ⟨far5 hne4X KD0.out, far5 hne4X KD1.out, far5 hne4X KD2.out, far5 hne4X KD3.out⟩
            | with_reducible exact ⟨far5 hne5X KD0.out, far5 hne5X KD1.out, far5 hne5X KD2.out, far5 hne5X KD3.out⟩
            | with_reducible exact ⟨far5 hne6X KD0.out, far5 hne6X KD1.out, far5 hne6X KD2.out, far5 hne6X KD3.out⟩
            | with_reducible exact ⟨KBA0.out, KBA1.out, KBA2.out, KBA3.out⟩
            | with_reducible exact ⟨KCA0.out, KCA1.out, KCA2.out, KCA3.out⟩
            | with_reducible exact ⟨KDA0.out, KDA1.out, KDA2.out, KDA3.out⟩
            | with_reducible exact ⟨KDX0.out, KDX1.out, KDX2.out, KDX3.out⟩)
          (first
            | (go_at_call 95; refine (other_any _ a b _).mono ?_; rintro e w' ⟨rfl, rfl⟩; rw [hNM.out])
            | (go_at_call 46
               have hchk := hb5
               refine (swapTexts_any f.fin _ a b _ (StrsAt.next (StrC.to HH4.out.fin) (by first | with_reducible exact hq5 | with_reducible exact hq5A)) hflen HSA.out HSB.out).mono ?_
               rintro e w6 ⟨v6, rfl, hs6, hb6⟩
               rw [hFS.out] at hs6
               obtain ⟨a6, c6, rfl, -, -⟩ := hs6.form
               have HS6 := Lib.hid hs6
               have hq6 := below_then hb6 (by first | with_reducible exact hq5 | with_reducible exact hq5A)
               have hs6 : w4.heap.size ≤ w6.heap.size := hq6.size
               have hz6 := hb6.size
               have hq6A := hq6.alloc hs6 (.cells #[.string ⟨#[]⟩, .slice none 0 0, .slice none 0 0, .slice none 0 0, .slice none 0 0] 55)
               have hne6X : w6.heap.size ≠ w3.heap.size := by omega
               have KC0 := Lib.hid (cell_next hq6 L0.out)
               have KC1 := Lib.hid (cell_next hq6 L1.out)
               have KC2 := Lib.hid (cell_next hq6 L2.out)
               have KC3 := Lib.hid (cell_next hq6 L3.out)
               have KCA0 := Lib.hid (cell_next hq6A L0.out)
               have KCA1 := Lib.hid (cell_next hq6A L1.out)
               have KCA2 := Lib.hid (cell_next hq6A L2.out)
               have KCA3 := Lib.hid (cell_next hq6A L3.out)
               have HYB6 := Lib.hid (box_new w6 #[.string ⟨#[]⟩, .slice none 0 0, .slice none 0 0, .slice none 0 0, .slice none 0 0] 55)
               first
                 | ((with_reducible have hY6 := hY5.next hb6)
                    have hYF6 := hYF5.next (cell_lt (hY5 0 _ rfl)) hb6)
                 | ((with_reducible have hY6 := HYB5.out.next hb6)
                    have hYF6 : Free w6 w5.heap.size := Free.next (fun j => by simp [go_sem]) (by simp) hb6)
                 | (with_reducible have hcheck := below_then hb6 hq5))
            | (go_at_call 46
               refine (swapTexts_any f.vars _ a b _ (StrsAt.next (StrC.to HH4.out.vars) (by first | with_reducible exact hq4 | with_reducible exact hq4A)) hvlen HSA.out HSB.out).mono ?_
               rintro e w5 ⟨v5, rfl, hs5, hb5⟩
               rw [hVS.out] at hs5
               obtain ⟨a5, c5, rfl, -, -⟩ := hs5.form
               have HS5 := Lib.hid hs5
               have hq5 := below_then hb5 (by first | with_reducible exact hq4 | with_reducible exact hq4A)
               have hs5 : w4.heap.size ≤ w5.heap.size := hq5.size
               have hz5 := hb5.size
               have hq5A := hq5.alloc hs5 (.cells #[.string ⟨#[]⟩, .slice none 0 0, .slice none 0 0, .slice none 0 0, .slice none 0 0] 55)
               have hne5X : w5.heap.size ≠ w3.heap.size := by omega
               have KB0 := Lib.hid (cell_next hq5 L0.out)
               have KB1 := Lib.hid (cell_next hq5 L1.out)
               have KB2 := Lib.hid (cell_next hq5 L2.out)
               have KB3 := Lib.hid (cell_next hq5 L3.out)
               have KBA0 := Lib.hid (cell_next hq5A L0.out)
               have KBA1 := Lib.hid (cell_next hq5A L1.out)
               have KBA2 := Lib.hid (cell_next hq5A L2.out)
               have KBA3 := Lib.hid (cell_next hq5A L3.out)
               have HYB5 := Lib.hid (box_new w5 #[.string ⟨#[]⟩, .slice none 0 0, .slice none 0 0, .slice none 0 0, .slice none 0 0] 55)
               first
                 | ((with_reducible have hY5 := HYA.out.next hb5)
                    have hYF5 : Free w5 w4.heap.size := Free.next HYFA.out (by simp) hb5)
                 | (with_reducible have hcheck := below_then hb5 hq4))
            | (go_at_call 96
               refine (swL_any a b HSA.out HSB.out d f.body _ _ (HH4.out.body.next (by first | with_reducible exact hq6 | with_reducible exact hq6A)) hblen hbwt).mono ?_
               rintro e w7 ⟨v7, rfl, hs7, hb7⟩
               rw [hLB.out] at hs7
               obtain ⟨a7, c7, rfl, -, -⟩ := hs7.form
               have HS7 := Lib.hid hs7
               have hq7 := below_then hb7 (by first | with_reducible exact hq6 | with_reducible exact hq6A)
               have hs7 : w4.heap.size ≤ w7.heap.size := hq7.size
               have hz7 := hb7.size
               have hq7A := hq7.alloc hs7 (.cells #[.string ⟨#[]⟩, .slice none 0 0, .slice none 0 0, .slice none 0 0, .slice none 0 0] 55)
               have hne7X : w7.heap.size ≠ w3.heap.size := by omega
               have KD0 := Lib.hid (cell_next hq7 L0.out)
               have KD1 := Lib.hid (cell_next hq7 L1.out)
               have KD2 := Lib.hid (cell_next hq7 L2.out)
               have KD3 := Lib.hid (cell_next hq7 L3.out)
               have KDA0 := Lib.hid (cell_next hq7A L0.out)
               have KDA1 := Lib.hid (cell_next hq7A L1.out)
               have KDA2 := Lib.hid (cell_next hq7A L2.out)
               have KDA3 := Lib.hid (cell_next hq7A L3.out)
               have HYB7 := Lib.hid (box_new w7 #[.string ⟨#[]⟩, .slice none 0 0, .slice none 0 0, .slice none 0 0, .slice none 0 0] 55)
               have hq7X := hq7.alloc hs7 (.cells #[.string NM, .slice none 0 0, .slice a5 VS.length c5, .slice a7 LB.length c7, .slice a6 FS.length c6] 55)
               have KDX0 := Lib.hid (cell_next hq7X L0.out)
               have KDX1 := Lib.hid (cell_next hq7X L1.out)
               have KDX2 := Lib.hid (cell_next hq7X L2.out)
               have KDX3 := Lib.hid (cell_next hq7X L3.out)
               first
                 | ((with_reducible have hY7 := hY6.next hb7)
                    have hYF7 := hYF6.next (cell_lt (hY6 0 _ rfl)) hb7
                    have y0 := hY7 0 _ rfl
                    have y1 := hY7 1 _ rfl
                    have y2 := hY7 2 _ rfl
                    have y3 := hY7 3 _ rfl
                    have y4 := hY7 4 _ rfl
                    have f0 := hYF7 0
                    have f1 := hYF7 1
                    have f2 := hYF7 2
                    have f3 := hYF7 3
                    have f4 := hYF7 4)
                 | ((with_reducible have hY7 := HYB6.out.next hb7)
                    have hYF7 : Free w7 w6.heap.size := Free.next (fun j => by simp [go_sem]) (by simp) hb7
                    have y0 := hY7 0 _ rfl
                    have y1 := hY7 1 _ rfl
                    have y2 := hY7 2 _ rfl
                    have y3 := hY7 3 _ rfl
                    have y4 := hY7 4 _ rfl
                    have f0 := hYF7 0
                    have f1 := hYF7 1
                    have f2 := hYF7 2
                    have f3 := hYF7 3
                    have f4 := hYF7 4)
                 | (with_reducible have hcheck := below_then hb7 hq6)))
        all_goals
          have b56 : Below w5.heap.size w5 w6 := by first | with_reducible exact hb6 | with_reducible exact below_then hb6 (boxed w5 _)
          have b67 : Below w6.heap.size w6 w7 := by first | with_reducible exact hb7 | with_reducible exact below_then hb7 (boxed w6 _)
          have m6 := b56.size
          have m7 := b67.size
          have k5 := hb5.size
          have k6 := hb6.size
          have k7 := hb7.size
          (try simp only [World.size_drew, World.size_alloc] at k5 k6 k7)
          go_wp2_with fail
          go_meet
          first
           | (refine ⟨w7.heap.size, a5, a6, a7, c5, c6, c7, (by with_reducible rfl), ?_, ?_, ?_, ?_, ?_, ?_, ?_, ?_⟩
              · omega
              · simp
              · exact hq7.alloc hs7 _
              · exact (box_new w7 #[.string NM, .slice none 0 0, .slice a5 VS.length c5, .slice a7 LB.length c7, .slice a6 FS.length c6] 55)
              · exact fun j => by simp [go_sem]
              · refine StrC.mono (le_ne (B' := w4.heap.size) (Y := w7.heap.size) (below_then (boxed w7 _) (b56.trans (b67.mono b56.size))) ?_ ?_) HS5.out
                · first | omega | (simp; omega) | simp
                · first | (left; omega) | (right; omega) | (left; simp; omega) | (left; simp) | (right; simp; omega)
              · refine StrC.mono (le_ne (B' := w4.heap.size) (Y := w7.heap.size) (below_then (boxed w7 _) b67) ?_ ?_) HS6.out
                · first | omega | (simp; omega) | simp
                · first | (left; omega) | (right; omega) | (left; simp; omega) | (left; simp) | (right; simp; omega)
              · refine StC.mono (le_ne (B' := w4.heap.size) (Y := w7.heap.size) (boxed w7 _) ?_ ?_) HS7.out
                · first | omega | (simp; omega) | simp
                · first | (left; omega) | (right; omega) | (left; simp; omega) | (left; simp) | (right; simp; omega))
           | (refine ⟨w6.heap.size, a5, a6, a7, c5, c6, c7, (by with_reducible rfl), ?_, ?_, ?_, ?_, ?_, ?_, ?_, ?_⟩
              · omega
              · rw [size5]; exact cell_lt (hY7 0 _ rfl)
              · exact below5 hq7 (by omega)
              · exact box5 hY7
              · exact free5 hYF7
              · refine StrC.mono (Cs.le_trans (le_ne (B' := w4.heap.size) (Y := w6.heap.size) (b56.trans (b67.mono b56.size)) ?_ ?_) (only5 ?_)) HS5.out
                · first | omega | (simp; omega) | simp
                · first | (left; omega) | (right; omega) | (left; simp; omega) | (left; simp) | (right; simp; omega)
                · simp
              · refine StrC.mono (Cs.le_trans (le_ne (B' := w4.heap.size) (Y := w6.heap.size) b67 ?_ ?_) (only5 ?_)) HS6.out
                · first | omega | (simp; omega) | simp
                · first | (left; omega) | (right; omega) | (left; simp; omega) | (left; simp) | (right; simp; omega)
                · simp
              · refine StC.mono (Cs.le_trans (le_ne (B' := w4.heap.size) (Y := w6.heap.size) (Below.refl _ _) ?_ ?_) (only5 ?_)) HS7.out
                · first | omega | (simp; omega) | simp
                · first | (left; omega) | (right; omega) | (left; simp; omega) | (left; simp) | (right; simp; omega)
                · simp)
           | (refine ⟨w5.heap.size, a5, a6, a7, c5, c6, c7, (by with_reducible rfl), ?_, ?_, ?_, ?_, ?_, ?_, ?_, ?_⟩
              · omega
              · rw [size5]; exact cell_lt (hY7 0 _ rfl)
              · exact below5 hq7 (by omega)
              · exact box5 hY7
              · exact free5 hYF7
              · refine StrC.mono (Cs.le_trans (le_ne (B' := w4.heap.size) (Y := w5.heap.size) (b56.trans (b67.mono b56.size)) ?_ ?_) (only5 ?_)) HS5.out
                · first | omega | (simp; omega) | simp
                · first | (left; omega) | (right; omega) | (left; simp; omega) | (left; simp) | (right; simp; omega)
                · simp
              · refine StrC.mono (Cs.le_trans (le_ne (B' := w4.heap.size) (Y := w5.heap.size) b67 ?_ ?_) (only5 ?_)) HS6.out
                · first | omega | (simp; omega) | simp
                · first | (left; omega) | (right; omega) | (left; simp; omega) | (left; simp) | (right; simp; omega)
                · simp
              · refine StC.mono (Cs.le_trans (le_ne (B' := w4.heap.size) (Y := w5.heap.size) (Below.refl _ _) ?_ ?_) (only5 ?_)) HS7.out
                · first | omega | (simp; omega) | simp
                · first | (left; omega) | (right; omega) | (left; simp; omega) | (left; simp) | (right; simp; omega)
                · simp)
           | (refine ⟨w4.heap.size, a5, a6, a7, c5, c6, c7, (by with_reducible rfl), ?_, ?_, ?_, ?_, ?_, ?_, ?_, ?_⟩
              · omega
              · rw [size5]; exact cell_lt (hY7 0 _ rfl)
              · exact below5 hq7 (by omega)
              · exact box5 hY7
              · exact free5 hYF7
              · refine StrC.mono (Cs.le_trans (le_ne (B' := w4.heap.size) (Y := w4.heap.size) (b56.trans (b67.mono b56.size)) ?_ ?_) (only5 ?_)) HS5.out
                · first | omega | (simp; omega) | simp
                · first | (left; omega) | (right; omega) | (left; simp; omega) | (left; simp) | (right; simp; omega)
                · simp
              · refine StrC.mono (Cs.le_trans (le_ne (B' := w4.heap.size) (Y := w4.heap.size) b67 ?_ ?_) (only5 ?_)) HS6.out
                · first | omega | (simp; omega) | simp
                · first | (left; omega) | (right; omega) | (left; simp; omega) | (left; simp) | (right; simp; omega)
                · simp
              · refine StC.mono (Cs.le_trans (le_ne (B' := w4.heap.size) (Y := w4.heap.size) (Below.refl _ _) ?_ ?_) (only5 ?_)) HS7.out
                · first | omega | (simp; omega) | simp
                · first | (left; omega) | (right; omega) | (left; simp; omega) | (left; simp) | (right; simp; omega)
                · simp)
      case rest =>
        obtain ⟨Y, a5, a6, a7, c5, c6, c7, rfl, hY0, hY1, hbc, hT, hTF, h5, h6, h7⟩ := hcut
        have hs34 := HB4.out.size
        have HBC := Lib.hid hbc
        have HBC3 := Lib.hid (HB4.out.trans (hbc.mono hs34))
        have HT := Lib.hid hT
        have HTF := Lib.hid hTF
        have H5 := Lib.hid h5
        have H6 := Lib.hid h6
        have H7 := Lib.hid h7
        have HXC := Lib.hid (HX4.out.next hbc)
        have HXF := Lib.hid (HFX4.out.next hz4 hbc)
        have x1 := HX4.out.next hbc 1 _ rfl
        have hszc := hbc.size
        have hplenI : f.params.length ≤ 1000000 := hplen
        obtain ⟨iA, hiA, hzA0, hzA1, hzA2⟩ := info_parts infoPa
        have hneYX : Y ≠ w3.heap.size := by omega
        clear hbc hT hTF h5 h6 h7 HX4 HFX4
        go_wp2_with fail
        go_loopw [50] (fun i wr => ∃ (q : Nat) (v6 : Value) (rows6 : List (List Value)), q ≤ f.params.length ∧ i = .int .i64 q ∧ Below w4.heap.size w4 wr ∧ wc.heap.size ≤ wr.heap.size ∧ Cs.le (only (fun g => g < wc.heap.size ∧ g ≠ Y) (cw wc)) (cw wr) ∧
          Grow PaQ 62 2 wc.heap.size Y w3.heap.size 5 [.string NM, .slice none 0 0, .slice a5 VS.length c5, .slice a7 LB.length c7, .slice a6 FS.length c6] 1 ((f.params.take q).map (swPa a b)) wr v6 rows6) (fun i _ => (f.params.length - intOf i).toNat)
        case atStart =>
          exact ⟨0, .slice none 0 0, [], by omega, rfl, HBC.out, Nat.le_refl _, only_out, by omega, by omega, by omega, by omega, HT.out, HTF.out, fun j hj => ⟨_, HXC.out j _ (List.getElem?_eq_getElem (by simpa using hj))⟩, HXF.out, Acc.nil _ _ _ _ _, Nat.le_refl _⟩
        case round =>
          obtain ⟨q, v6, rows6, hqq, rfl, hbel5, hz6, hkeep2, hG2⟩ := hrel
          have HBEL5 := Lib.hid hbel5
          have HKEEP2 := Lib.hid hkeep2
          have HG2 := Lib.hid hG2
          obtain ⟨va6, vc6, hv6⟩ := ownsForm hG2.acc.own
          have hqa2 : ((f.params.take q).map (swPa a b)).length = q := by rw [List.length_map, List.length_take]; omega
          rw [hqa2] at hv6
          subst hv6
          have HQA2 := Lib.hid hqa2
          obtain ⟨w5, hw5⟩ : ∃ w5 : World, w5 = wr := ⟨_, rfl⟩
          subst hw5
          clear hqa2 x1
          by_cases hqt : q < f.params.length
          · have hqt' : (q : Int) < (f.params.length : Int) := by omega
            have h0q : (0 : Int) ≤ (q : Int) := by omega
            have hne2 : f.params ≠ [] := by intro h; rw [h] at hqt; simp at hqt
            obtain ⟨g2, off2, cap2, hv2, _, hcells2⟩ := SlAt.cells (SlAt.imp HH4.out.par fun _ _ _ _ => PaAt.mono (cw_next hbel5)) hne2
            simp only [Value.slice.injEq] at hv2
            obtain ⟨rfl, -, rfl⟩ := hv2
            obtain ⟨r0, r1, r2⟩ := hcells2 q hqt
            obtain ⟨pr, hpr⟩ : ∃ pr, Hid (f.params[q] = pr) := ⟨_, Lib.hid rfl⟩
            rw [hpr.out] at r0 r1 r2
            have d0 : w5.cell? ⟨g2, off2 + q * 2, none⟩ = _ := r0
            have d1 : w5.cell? ⟨g2, off2 + q * 2 + 1, none⟩ = _ := r1
            have HNMX := Lib.hid r2
            clear hcells2 r0 r1 r2 hne2 hbel5 hkeep2 hG2
            go_upto_region 9 with fail
            refine cut_world (fun wx => Below w5.heap.size w5 wx ∧ w5.heap.size < wx.heap.size ∧ BoxAt wx w5.heap.size [.string pr.nm, .bool pr.ref]) ⟨boxed _ _, by simp, box_new w5 #[.string pr.nm, .bool pr.ref] 62⟩ ?_
            rintro w6 ⟨hb6, hz66, hA⟩
            clear d0 d1
            have HB6 := Lib.hid hb6
            have HA := Lib.hid hA
            have Y10 := Lib.hid (cell_next hb6 (HG2.out.y 1 _ rfl))
            have FY10 := Lib.hid (frozen_next hb6 (HG2.out.y 1 _ rfl) (HG2.out.fy 1))
            have hown6 := ownsBelow HG2.out.acc.own hb6
            rw [HQA2.out] at hown6
            have HOWN6 := Lib.hid hown6
            have hq6 : Below w6.heap.size w6 w6.drew := (Below.refl _ _).drew
            obtain ⟨AN, hAN⟩ : ∃ L, Hid (other a b pr.nm = L) := ⟨_, Lib.hid rfl⟩
            clear hb6 hA hown6
            refine wp_region_z (fun w' => w'.cell? ⟨Y, 1, none⟩ = some (.slice va6 q vc6) ∧ w'.cell? ⟨w5.heap.size, 0, none⟩ = some (.string pr.nm) ∧ w'.cell? ⟨w5.heap.size, 1, none⟩ = some (.bool pr.ref)) 13 (by kernel_rfl) ⟨cell_next hq6 Y10.out, cell_next hq6 (HA.out 0 _ rfl), cell_next hq6 (HA.out 1 _ rfl)⟩ (fun hS => ?_)
            refine' wpAnyZ_take (i := 0) (oi := _) (v := _) rfl (by kernel_rfl) (by kernel_rfl) (by kernel_rfl) (by kernel_rfl) (fun _ _ _ h => h) (Or.inl ⟨by rfl, ?hy0⟩) hS ?rest0
            case hy0 => (intro w hSw; (try dsimp only at hSw); go_simp; (try with_reducible rfl))
            try simp only [Act.put, List.setIfInBounds_toArray, List.set_cons_zero, List.set_cons_succ]
            refine' wpAnyZ_take (i := 1) (oi := _) (v := _) rfl (by kernel_rfl) (by kernel_rfl) (by kernel_rfl) (by kernel_rfl) (fun _ _ _ h => h) (Or.inl ⟨by rfl, ?hy1⟩) hS ?rest1
            case hy1 => (intro w hSw; (try dsimp only at hSw); go_simp; (try with_reducible rfl))
            try simp only [Act.put, List.setIfInBounds_toArray, List.set_cons_zero, List.set_cons_succ]
            refine' wpAnyZ_take (i := 2) (oi := _) (v := _) rfl (by kernel_rfl) (by kernel_rfl) (by kernel_rfl) (by kernel_rfl) (fun _ _ _ h => h) (Or.inl ⟨by rfl, ?hy2⟩) hS ?rest2
            case hy2 => (intro w hSw; (try dsimp only at hSw); go_simp; (try with_reducible rfl))
            try simp only [Act.put, List.setIfInBounds_toArray, List.set_cons_zero, List.set_cons_succ]
            refine' wpAnyZ_take (i := 3) (oi := _) (v := _) rfl (by kernel_rfl) (by kernel_rfl) (by kernel_rfl) (by kernel_rfl) (fun _ _ _ h => h) (Or.inl ⟨by rfl, ?hy3⟩) hS ?rest3
            case hy3 => (intro w hSw; (try dsimp only at hSw); go_simp; (try with_reducible rfl))
            try simp only [Act.put, List.setIfInBounds_toArray, List.set_cons_zero, List.set_cons_succ]
            refine' wpAnyZ_take (i := 4) (oi := _) (v := _) rfl (by kernel_rfl) (by kernel_rfl) (by kernel_rfl) (by kernel_rfl) (fun _ _ _ h => h) (Or.inl ⟨by rfl, ?hy4⟩) hS ?rest4
            case hy4 => (intro w hSw; (try dsimp only at hSw); go_simp; (try with_reducible rfl))
            try simp only [Act.put, List.setIfInBounds_toArray, List.set_cons_zero, List.set_cons_succ]
            refine' wpAnyZ_take (i := 5) (oi := _) (v := _) rfl (by kernel_rfl) (by kernel_rfl) (by kernel_rfl) (by kernel_rfl) (fun _ _ _ h => h) (Or.inl ⟨by rfl, ?hy5⟩) hS ?rest5
            case hy5 => (intro w hSw; (try dsimp only at hSw); go_simp; (try with_reducible rfl))
            try simp only [Act.put, List.setIfInBounds_toArray, List.set_cons_zero, List.set_cons_succ]
            refine' wpAnyZ_take (i := 6) (oi := _) (v := _) rfl (by kernel_rfl) (by kernel_rfl) (by kernel_rfl) (by kernel_rfl) (fun _ _ _ h => h) (Or.inl ⟨by rfl, ?hy6⟩) hS ?rest6
            case hy6 => (intro w hSw; (try dsimp only at hSw); go_simp; (try with_reducible rfl))
            try simp only [Act.put, List.setIfInBounds_toArray, List.set_cons_zero, List.set_cons_succ]
            refine' wpAnyZ_take (i := 7) (oi := _) (v := _) rfl (by kernel_rfl) (by kernel_rfl) (by kernel_rfl) (by kernel_rfl) (fun _ _ _ h => h) (Or.inl ⟨by rfl, ?hy7⟩) hS ?rest7
            case hy7 => (intro w hSw; (try dsimp only at hSw); go_simp; (try with_reducible rfl))
            try simp only [Act.put, List.setIfInBounds_toArray, List.set_cons_zero, List.set_cons_succ]
            have L0 := Lib.hid (cell_next hq6 Y10.out)
            have L1 := Lib.hid (cell_next hq6 (HA.out 0 _ rfl))
            have L2 := Lib.hid (cell_next hq6 (HA.out 1 _ rfl))
            refine' wpAnyZ_step (i := 8) (o := _) rfl (by kernel_rfl) (fun K hK => ?_)
            go_simp
            go_at_call 95
            refine (other_any pr.nm a b _).mono ?_
            rintro e w' ⟨rfl, rfl⟩
            rw [hAN.out]
            have hbw := boxed w6 (.cells #[.string AN, .bool pr.ref] 62)
            have hbwd : Below w6.heap.size w6 (w6.alloc (.cells #[.string AN, .bool pr.ref] 62)).drew := hbw.drew
            have M0 := Lib.hid (cell_next hbwd Y10.out)
            have M1 := Lib.hid (cell_next hbwd (HA.out 0 _ rfl))
            have M2 := Lib.hid (cell_next hbwd (HA.out 1 _ rfl))
            refine hK _ _ (fun _ => ⟨L0.out, L1.out, L2.out⟩) ?_
            clear hK K
            have hS : w6.drew.cell? ⟨Y, 1, none⟩ = some (.slice va6 q vc6) ∧ w6.drew.cell? ⟨w5.heap.size, 0, none⟩ = some (.string pr.nm) ∧ w6.drew.cell? ⟨w5.heap.size, 1, none⟩ = some (.bool pr.ref) := ⟨L0.out, L1.out, L2.out⟩
            refine' wpAnyZ_take (i := 9) (oi := _) (v := _) rfl (by kernel_rfl) (by kernel_rfl) (by kernel_rfl) (by kernel_rfl) (fun _ _ _ h => h) (Or.inl ⟨by rfl, ?hy9⟩) hS ?rest9
            case hy9 => (intro w hSw; (try dsimp only at hSw); go_simp; (try with_reducible rfl))
            try simp only [Act.put, List.setIfInBounds_toArray, List.set_cons_zero, List.set_cons_succ]
            refine' wpAnyZ_step (i := 10) (o := _) rfl (by kernel_rfl) (fun K hK => ?_)
            go_simp
            refine hK _ _ (fun _ => ⟨M0.out, M1.out, M2.out⟩) ?_
            clear hK K
            try simp only [Act.put, List.setIfInBounds_toArray, List.set_cons_zero, List.set_cons_succ]
            refine' wpAnyZ_step (i := 11) (o := _) rfl (by kernel_rfl) (fun K hK => ?_)
            have hs6 := HB6.out.size
            refine step_append_lies _ (by rfl) (.tmp 55) (.tmp 64) _ (by rfl) wc.heap.size 62 iA (.agg #[.string ⟨#[]⟩, .bool false]) 2 24 Try.underlying53 hiA hzA0 hzA1 hzA2 rfl (by omega) (.slice va6 q vc6) q rows6.flatten (by rfl) (ownsBelow HOWN6.out hbwd)
              ⟨w6.heap.size, 0, none⟩ 1 1 [.string AN, .bool pr.ref] (by rfl) (by rfl) (World.news_of_block (cs := #[.string AN, .bool pr.ref]) (t := 62) (fr := (0, 0)) (heap_alloc_new w6 _)) (by simp [Value.oneCell'])
              (by omega) (by unfold maxLen; omega) (by omega) (by simp; omega) (w6.heap.size + 1) (by simp) ?_
            intro g8 cap8 w8 hown8 hg8 hat8 hlt8
            have hYB : Y < wc.heap.size := hY1
            have q10 := (hg8.cell_far ⟨Y, 1, none⟩ (by simp; omega) (HG2.out.own _ hYB)).trans M0.out
            have qf10 := (hg8.frozen_far ⟨Y, 1, none⟩ (by simp; omega) (HG2.out.own _ hYB)).trans (frozen_next hbwd Y10.out FY10.out)
            have hn5 : some w5.heap.size ≠ (Value.slice va6 q vc6).ownBlock := fun e => by have h := (HG2.out.acc.own.lt _ e.symm).2; omega
            have b0 := (hg8.cell_far ⟨w5.heap.size, 0, none⟩ (by simp; omega) hn5).trans M1.out
            have b1 := (hg8.cell_far ⟨w5.heap.size, 1, none⟩ (by simp; omega) hn5).trans M2.out
            refine hK _ _ (fun _ => ⟨q10, b0, b1⟩) ?_
            clear hK K
            try simp only [Act.put, List.setIfInBounds_toArray, List.set_cons_zero, List.set_cons_succ]
            refine' wpAnyZ_step (i := 12) (o := _) rfl (by kernel_rfl) (fun K hK => ?_)
            go_simp
            refine hK _ _ (fun _ => ⟨q10, b0, b1⟩) ?_
            clear hK K b0 b1
            try simp only [Act.put, List.setIfInBounds_toArray, List.set_cons_zero, List.set_cons_succ]
            refine' wpAnyZ_step (i := 13) (o := _) rfl (by kernel_rfl) (fun K hK => ?_)
            go_simp
            refine hK _ _ (fun h => absurd rfl h) ?_
            clear hK K
            try simp only [Act.put, List.setIfInBounds_toArray, List.set_cons_zero, List.set_cons_succ]
            refine wpAnyZ_done (by kernel_rfl) ?_ _
            go_wp2_with fail
            go_roundw
            case rel =>
              have hch : Below w5.heap.size w5 (w6.alloc (.cells #[.string AN, .bool pr.ref] 62)).drew := HB6.out.trans (hbwd.mono HB6.out.size)
              have hq9 : PaQ (nwC w6.heap.size w6) [.string AN, .bool pr.ref] (swPa a b pr) := by
                refine ⟨?_, ?_⟩
                · show _ = [Value.string (other a b pr.nm), Value.bool pr.ref]
                  rw [hAN.out]
                · exact other_le HSA.out HSB.out HNMX.out
              refine ⟨q + 1, .slice (some ⟨g8, 0, none⟩) (q + 1) cap8, rows6 ++ [[.string AN, .bool pr.ref]], by omega, by go_num, ?_, ?_, ?_, ?_⟩
              · exact Grow.below (B := wc.heap.size) (Y := Y) (slot := 1) HBEL5.out hch hg8 (by omega) (by omega) HG2.out.own
              · have := hg8.size
                have := hch.size
                simp only [World.size_setCell] at *
                omega
              · refine Cs.le_trans (D := only (fun g => g < wc.heap.size ∧ g ≠ Y) (cw w5)) (fun g j u h => ⟨h.1, HKEEP2.out g j u h⟩) (Cs.le_trans (grow_keep hch hg8 HG2.out.own) only_out)
              · have hst8 := HG2.out.step (v4 := .slice (some ⟨g8, 0, none⟩) (q + 1) cap8) (by simp) (fun _ _ _ _ _ h => h) HB6.out (Below.refl _ _) hbwd hg8 (fun z hz => by have hzz : g8 = z := by { simpa [Value.ownBlock] using hz }; subst hzz; exact hat8.imp id fun h => by { (try simp only [World.size_drew, World.size_alloc] at h); omega }) rfl hq9 (by rw [HQA2.out]; exact hown8)
                rw [List.take_succ_eq_append_getElem hqt, List.map_append, hpr.out]
                exact hst8
            case measure => simp [intOf]; omega
          · have hqt' : ¬ (q : Int) < (f.params.length : Int) := by omega
            have hqe : q = f.params.length := by omega
            subst hqe
            rw [List.take_length] at HG2
            obtain ⟨PS, hPS⟩ : ∃ L, Hid (f.params.map (swPa a b) = L) := ⟨_, Lib.hid rfl⟩
            rw [hPS.out] at HG2
            have hal : f.params.length = PS.length := by rw [← hPS.out, List.length_map]
            have har5 := HG2.out.acc.paC
            have hY5 : BoxAt w5 Y [.string NM, .slice va6 f.params.length vc6, .slice a5 VS.length c5, .slice a7 LB.length c7, .slice a6 FS.length c6] := HG2.out.y
            rw [hal] at har5 hY5
            have hold : Cs.le (only (fun g => w4.heap.size ≤ g ∧ g ≠ Y) (cw wc)) (nwC w4.heap.size w5) := fun g j u h => ⟨h.1.1, HKEEP2.out g j u ⟨⟨cell_lt h.2, h.1.2⟩, h.2⟩⟩
            have hnew : Cs.le (nwC wc.heap.size w5) (nwC w4.heap.size w5) := only_le (fun g h => Nat.le_trans HBC.out.size h) (fun _ _ _ h => h)
            go_upto_region 11 with fail
            refine cut_world (fun wx => Below w3.heap.size w3 wx ∧ Below w4.heap.size w4 wx ∧ BoxAt wx Y [.string NM, .slice va6 PS.length vc6, .slice a5 VS.length c5, .slice a7 LB.length c7, .slice a6 FS.length c6] ∧ PcQ d (nwC w4.heap.size wx) [.string NM, .slice va6 PS.length vc6, .slice a5 VS.length c5, .slice a7 LB.length c7, .slice a6 FS.length c6] (swPc a b f)) ⟨HB4.out.trans (HBEL5.out.mono hs34), HBEL5.out, hY5, ?_⟩ ?_
            · refine ⟨.slice va6 PS.length vc6, .slice a5 VS.length c5, .slice a7 LB.length c7, .slice a6 FS.length c6, ?_, ?_, ?_, ?_, ?_, ?_⟩
              · rw [show (swPc a b f).nm = NM from hNM.out]
              · exact other_le HSA.out HSB.out HNMF.out
              · rw [show (swPc a b f).params = PS from hPS.out]; exact SlAt.imp har5 (fun _ _ _ _ => PaAt.mono hnew)
              · rw [show (swPc a b f).vars = VS from hVS.out]; exact StrC.mono hold H5.out
              · rw [show (swPc a b f).body = LB from hLB.out]; exact StC.mono hold H7.out
              · rw [show (swPc a b f).fin = FS from hFS.out]; exact StrC.mono hold H6.out
            rintro w11 ⟨hb11, hb411, hT11, hpq⟩
            have HB11 := Lib.hid hb11
            have HB411 := Lib.hid hb411
            have HPQ := Lib.hid hpq
            have q0 := hT11 0 _ rfl
            have q1 := hT11 1 _ rfl
            have q2 := hT11 2 _ rfl
            have q3 := hT11 3 _ rfl
            have q4 := hT11 4 _ rfl
            have g1 := cell_next hb11 (HG.out.y 1 _ rfl)
            have g1f := frozen_next hb11 (HG.out.y 1 _ rfl) (HG.out.fy 1)
            have hown := ownsBelow HG.out.acc.own hb11
            rw [HQA.out] at hown
            have HOWN := Lib.hid hown
            have hbw := HG.out.bw
            have hylt := HG.out.ylt
            have hz11 := hb11.size
            have hyb := HG.out.yb
            have HNB := Lib.hid HG.out.own
            have hplen2 : p.procs.length ≤ 20000 := HWP.out.procs
            clear hb11 hb411 hT11 hpq hown HT HTF H5 H6 H7 har5 hY5 hold hnew hbel5 hkeep2 hG2 HKEEP2 HG2 HXC HXF
            go_wp2_with (at_builtin; refine wpList_append_lies _ rfl (.tmp 69) (.tmp 71) 23 rfl wb.heap.size 55 iP (.agg #[.string ⟨#[]⟩, .slice none 0 0, .slice none 0 0, .slice none 0 0, .slice none 0 0]) 5 112 Try.underlying23 hiP hzP0 hzP1 hzP2 rfl (by decide) _ _ _ rfl (HOWN.out.alloc _) ⟨_, 0, none⟩ 1 1 [.string NM, .slice va6 PS.length vc6, .slice a5 VS.length c5, .slice a7 LB.length c7, .slice a6 FS.length c6] rfl rfl ?_ (by simp [Value.oneCell']) (by decide) ?_ ?_ ?_ _ rfl ?_)
            · unfold maxLen; omega
            · omega
            · first | omega | (simp only [World.size_alloc]; omega)
            intro g12 cap12 w12 hown12 hg12 hat12 hlt12
            have HOWN12 := Lib.hid hown12
            have HG12 := Lib.hid hg12
            have HAT12 := Lib.hid hat12
            have r1 := (hg12.cell_far ⟨w2.heap.size, 1, none⟩ (by simp <;> omega) (HNB.out _ (by simp <;> omega))).trans (cell_next (boxed w11 _) g1)
            have r1f := (hg12.frozen_far ⟨w2.heap.size, 1, none⟩ (by simp <;> omega) (HNB.out _ (by simp <;> omega))).trans (frozen_next (boxed w11 _) g1 g1f)
            clear hown12 hg12 hat12 hlt12
            go_wp2_with fail
            go_roundw
            case rel =>
              have hbw11 := boxed w11 (.cells #[.string NM, .slice va6 PS.length vc6, .slice a5 VS.length c5, .slice a7 LB.length c7, .slice a6 FS.length c6] 55)
              have hch := HB11.out.trans (hbw11.mono HB11.out.size)
              refine ⟨k + 1, .slice (some ⟨g12, 0, none⟩) (k + 1) cap12, rows5 ++ [[.string NM, .slice va6 PS.length vc6, .slice a5 VS.length c5, .slice a7 LB.length c7, .slice a6 FS.length c6]], by omega, by go_num, ?_, ?_, ?_, ?_⟩
              · exact Grow.below (B := wb.heap.size) (Y := w2.heap.size) (slot := 1) HBel.out hch HG12.out (by omega) (by omega) HG.out.own
              · have := HG12.out.size
                have := hch.size
                simp only [World.size_setCell, World.size_alloc] at *
                omega
              · exact Cs.le_trans (D := only (fun g => g < wb.heap.size ∧ g ≠ w2.heap.size) (cw w3)) (fun g j u h => ⟨h.1, HKEEP.out g j u h⟩) (Cs.le_trans (grow_keep hch HG12.out HG.out.own) only_out)
              · have hst := HG.out.step (v4 := .slice (some ⟨g12, 0, none⟩) (k + 1) cap12) (by simp) (PcQ.mono d) HB4.out HB411.out hbw11 HG12.out (fun z hz => by have hzz : g12 = z := by { simpa [Value.ownBlock] using hz }; subst hzz; exact HAT12.out.imp id fun h => by omega) rfl HPQ.out (by rw [HQA.out]; exact HOWN12.out)
                rw [List.take_succ_eq_append_getElem hlt, List.map_append, hf.out]
                exact hst
            case measure => simp [intOf]; omega
    · have hlt' : ¬ (k : Int) < (p.procs.length : Int) := by omega
      have hke : k = p.procs.length := by omega
      subst hke
      rw [List.take_length] at HG
      have y0 := HG.out.y 0 _ rfl
      have y1 := HG.out.y 1 _ rfl
      obtain ⟨r0, hr0⟩ := HG.out.r 0 (by omega)
      obtain ⟨r1, hr1⟩ := HG.out.r 1 (by omega)
      have f1 := HG.out.fr 0
      have f2 := HG.out.fr 1
      have HACC := Lib.hid HG.out.acc
      have hne1 : ∀ i j, (⟨w.heap.size + 1, i, none⟩ : Addr) ≠ ⟨w2.heap.size, j, none⟩ := fun i j e => by have := congrArg Addr.block e; simp only at this; omega
      have HGL : Hid (StrC (only (fun g => w.heap.size + 1 + 1 ≤ g ∧ g < wb.heap.size) (cw w3)) (.slice ga2 GS.length gc2) GS) := Lib.hid (StrC.mono (fun g j u h => ⟨⟨h.1.1, cell_lt h.2⟩, HKEEP.out g j u ⟨⟨cell_lt h.2, h.1.2⟩, h.2⟩⟩) HGB.out)
      clear hbel
      go_wp2_with fail
      have q0 : ((w3.setCell ⟨w.heap.size + 1, 0, none⟩ (.slice ga2 GS.length gc2)).setCell ⟨w.heap.size + 1, 1, none⟩ (.slice va5 p.procs.length vc5)).cell? ⟨w.heap.size + 1, 0, none⟩ = some (.slice ga2 GS.length gc2) := by
        rw [World.cell?_setCell_other _ _ _ _ (fun e => by have := congrArg Addr.off e; simp at this)]
        exact cell_set hr0
      have q1 : ((w3.setCell ⟨w.heap.size + 1, 0, none⟩ (.slice ga2 GS.length gc2)).setCell ⟨w.heap.size + 1, 1, none⟩ (.slice va5 p.procs.length vc5)).cell? ⟨w.heap.size + 1, 1, none⟩ = some (.slice va5 p.procs.length vc5) := by
        refine cell_set (y := r1) ?_
        rw [World.cell?_setCell_other _ _ _ _ (fun e => by have := congrArg Addr.off e; simp at this)]
        exact hr1
      refine bodyPost_ret (v := .agg #[.slice ga2 GS.length gc2, .slice va5 p.procs.length vc5]) (by simp [results, Try.results45, go_sem, q0, q1]) rfl ⟨.slice ga2 GS.length gc2, .slice va5 p.procs.length vc5, wb.heap.size, rows5, rfl, by omega, ?_, ?_, ?_⟩
      · have HGL2 := HGL.out
        rw [show (swPr a b p).globals = GS from hGS.out]
        exact StrC.mono (Cs.le_trans (only_set (by omega)) (Cs.le_trans (only_set (by omega)) (only_le (fun g (h : w.heap.size + 1 + 1 ≤ g ∧ g < wb.heap.size) => (⟨by omega, h.2⟩ : w.heap.size ≤ g ∧ g < wb.heap.size)) (fun _ _ _ h => h)))) HGL2
      · exact (HACC.out.set (PcQ.mono d) (b := w.heap.size + 1) (by omega) _).set (PcQ.mono d) (b := w.heap.size + 1) (by omega) _
      · exact (HBel.out.setCell (p := ⟨_, _, none⟩) (by simp) _).setCell (p := ⟨_, _, none⟩) (by simp) _
end Go.Proofs.Ytghlmengcidmdaa.Tr
end
section
/- A program in which two names are changed for each other may be, if it could; changed twice it is the same. No program. Conditions: the names are names. -/
namespace Go.Proofs.Ytghlmengcidmdaa.Tr
open Go.RowKit Go.Proofs.Ytghlmengcidmdaa.Lx Go.Proofs.Ytghlmengcidmdaa.Wd
set_option linter.unusedSectionVars false
mutual
theorem mapE_back (a b : ByteArray) : ∀ x : Ex, mapE (other a b) (mapE (other a b) x) = x
  | .mk o n s ks => by rw [mapE, mapE, other_back, mapL_back a b ks]
theorem mapL_back (a b : ByteArray) : ∀ l : List Ex, mapL (other a b) (mapL (other a b) l) = l
  | [] => by rw [mapL, mapL]
  | x :: r => by rw [mapL, mapL, mapE_back a b x, mapL_back a b r]
end
mutual
theorem sw_cntS (a b : ByteArray) : ∀ s : St, cntS (swS a b s) = cntS s
  | .mk i k ls nm pr x h ar th el => by rw [swS, cntS, cntS, sw_cntL a b th, sw_cntL a b el]
theorem sw_cntL (a b : ByteArray) : ∀ l : List St, cntL (swL a b l) = cntL l
  | [] => by rw [swL]
  | s :: r => by rw [swL, cntL, cntL, sw_cntS a b s, sw_cntL a b r]
end
theorem sw_cnt (a b : ByteArray) (p : Pr) : cntP (swPr a b p).procs = cntP p.procs := by
  unfold cntP swPr
  rw [List.map_map]
  congr 1
  apply List.map_congr_left
  intro f _
  exact sw_cntL a b f.body
section
variable {a b : ByteArray} (ha : isName (bl a) = true) (hb : isName (bl b) = true)
include ha hb
theorem other_name (s : ByteArray) : isName (bl (other a b s)) = isName (bl s) := by
  rw [other_eq]
  split
  · rename_i h; rw [h, ha, hb]
  · split
    · rename_i h; rw [h, ha, hb]
    · rfl
theorem other_no (s : ByteArray) : noName (other a b s) = noName s := by
  rw [other_eq]
  split
  · rename_i h; rw [h, name_some ha, name_some hb]
  · split
    · rename_i h; rw [h, name_some ha, name_some hb]
    · rfl
theorem others_names (l : List ByteArray) : namesB (l.map (other a b)) = namesB l := by
  unfold namesB
  rw [List.all_map]
  congr 1
  funext s
  exact other_name ha hb s
theorem sw_may (l : Nat) (x : Ex) : mayE l (mapE (other a b) x) = mayE l x := by
  rw [Bool.eq_iff_iff]
  constructor
  · intro h
    have := may_other ha hb h
    rwa [mapE_back] at this
  · exact fun h => may_other ha hb h
theorem sw_none (x : Ex) : noneE (mapE (other a b) x) = noneE x := by
  unfold noneE
  rw [mapE_op, mapE_n, mapE_nm, mapE_ks, other_no ha hb]
  congr 1
  cases x.ks <;> rfl
theorem sw_named (s : ByteArray) (i : Bool) : namedB (other a b s) i = namedB s i := by
  unfold namedB
  rw [other_name ha hb, other_no ha hb]
theorem sw_worth (x : Ex) (i : Bool) : worthB (mapE (other a b) x) i = worthB x i := by
  unfold worthB
  rw [sw_may ha hb, sw_none ha hb]
theorem sw_handed (l : List Ar) : handedB (l.map (swA a b)) = handedB l := by
  unfold handedB
  rw [List.all_map]
  congr 1
  funext x
  show (namedB (other a b x.nm) x.ref && worthB (mapE (other a b) x.x) (!x.ref)) = _
  rw [sw_named ha hb, sw_worth ha hb]
mutual
theorem sw_rowS : ∀ (s : St) (nest n : Int), rowS 200 12 nest n (swS a b s) = rowS 200 12 nest n s
  | .mk i k ls nm pr x h ar th el, nest, n => by
    rw [swS, rowS, rowS, others_names ha hb, sw_rowL th, sw_cntL, sw_rowL el]
    have e1 : fieldsB (.mk i k (ls.map (other a b)) (other a b nm) (other a b pr) (mapE (other a b) x) h (ar.map (swA a b)) (swL a b th) (swL a b el)) = fieldsB (.mk i k ls nm pr x h ar th el) := by
      unfold fieldsB okK moreI nameI procI xI hasI thenI otherI
      simp only [St.kind, St.nm, St.proc, St.x, St.has, St.args, St.thn, St.els, swL_map, List.length_map, other_no ha hb, sw_named ha hb, sw_worth ha hb, sw_handed ha hb]
      rfl
    rw [e1]
theorem sw_rowL : ∀ (l : List St) (nest n : Int), rowsL 200 12 nest n (swL a b l) = rowsL 200 12 nest n l
  | [], nest, n => by rw [swL]
  | s :: r, nest, n => by rw [swL, rowsL, rowsL, sw_rowS s, sw_cntS, sw_rowL r]
end
theorem sw_mayPs : ∀ (l : List Pc) (n : Int), mayPs n (l.map (swPc a b)) = mayPs n l := by
  intro l
  induction l with
  | nil => intro n; rfl
  | cons f r ih =>
    intro n
    rw [List.map_cons, mayPs, mayPs, ih]
    have e1 : cntL (swPc a b f).body = cntL f.body := sw_cntL a b f.body
    have e2 : mayPc n (swPc a b f) = mayPc n f := by
      unfold mayPc headPc swPc
      simp only
      rw [others_names ha hb, others_names ha hb, other_name ha hb, sw_rowL ha hb, List.length_map, List.length_map, List.all_map]
      have : ((fun x : Pa => isName (bl x.nm)) ∘ swPa a b) = fun x => isName (bl x.nm) := by
        funext x
        exact other_name ha hb x.nm
      rw [this]
    rw [e1, e2]
theorem sw_mayP (p : Pr) : mayP (swPr a b p) = mayP p := by
  unfold mayP swPr
  simp only
  rw [sw_mayPs ha hb, others_names ha hb, List.length_map, List.length_map]
end
end Go.Proofs.Ytghlmengcidmdaa.Tr
end
