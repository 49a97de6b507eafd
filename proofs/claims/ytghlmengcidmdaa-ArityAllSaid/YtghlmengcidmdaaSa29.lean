/- Parts of PickW: walks and plain laws that later texts use. Conditions: as each statement says. -/
import Derived.Test.YtghlmengcidmdaaSa0
import Derived.Test.YtghlmengcidmdaaSa1
import Derived.Test.YtghlmengcidmdaaSa2
import Derived.Test.YtghlmengcidmdaaSa3
import Derived.Test.YtghlmengcidmdaaSa4
import Derived.Test.YtghlmengcidmdaaSa5
import Derived.Test.YtghlmengcidmdaaSa6
import Derived.Test.YtghlmengcidmdaaSa7
import Derived.Test.YtghlmengcidmdaaSa8
import Derived.Test.YtghlmengcidmdaaSa9
import Derived.Test.YtghlmengcidmdaaSa10
import Derived.Test.YtghlmengcidmdaaSa11
import Derived.Test.YtghlmengcidmdaaSa12
import Derived.Test.YtghlmengcidmdaaSa13
import Derived.Test.YtghlmengcidmdaaSa14
import Derived.Test.YtghlmengcidmdaaSa15
import Derived.Test.YtghlmengcidmdaaSa16
import Derived.Test.YtghlmengcidmdaaSa17
import Derived.Test.YtghlmengcidmdaaSa18
import Derived.Test.YtghlmengcidmdaaSa19
import Derived.Test.YtghlmengcidmdaaSa20
import Derived.Test.YtghlmengcidmdaaSa21
import Derived.Test.YtghlmengcidmdaaSa22
import Derived.Test.YtghlmengcidmdaaSa23
import Derived.Test.YtghlmengcidmdaaSa24
import Derived.Test.YtghlmengcidmdaaSa25
import Derived.Test.YtghlmengcidmdaaSa26
import Derived.Test.YtghlmengcidmdaaSa27
import Derived.Test.YtghlmengcidmdaaSa28
import Derived.Deep.DeepCutAuto
import Derived.Deep.RegionHeld3
import Derived.RegionTactic
import Derived.IntWalk
import Derived.Deep.QuietTactic
import Derived.BigQuiet
import Derived.StillTailTactics
import Derived.Deep.RegionLaw
import Derived.Deep.RegionWith
import Derived.Laws.Cover3
import Derived.Maps.Range
import Derived.Outline
import Derived.Lib.SmallJoins
import Derived.Deep.Upon
import Derived.Maps.AppendAt
import Derived.Laws.OwnMore
import Derived.Deep.AppendLies
import Derived.Deep.CutBlock
import Derived.Laws.StructEq
import Derived.WalkKit
import Derived.Test.YtghlmengcidmdaaRows
import Derived.WalkSpells
import Derived.Lib.Hide
import Derived.Below
import Derived.WalkSmall
import Derived.OrdersHeld
import Derived.Laws.BitsAllLaws
import Derived.OwnWalk
import Derived.OneCell
import Derived.Deep.Slices
import Derived.Deep.Fields
import Derived.SliceStrings
import Derived.ChangeSlices
/- A procedure by its name; what a name stands for in it. Conditions: the program lies in memory. -/
namespace Go.Proofs.Ytghlmengcidmdaa.Tr
open Go.RowKit Go.Proofs.Ytghlmengcidmdaa.Lx Go.Proofs.Ytghlmengcidmdaa.Wd
def PcMade (d : Nat) (r : Option Pc) (w : World) (e : Ending) (w' : World) : Prop := match r with
  | some f => ∃ (a1 a2 a3 a4 : Option Addr) (c1 c2 c3 c4 : Nat), e = .returned (.tuple #[.agg #[.string f.nm, .slice a1 f.params.length c1, .slice a2 f.vars.length c2, .slice a3 f.body.length c3, .slice a4 f.fin.length c4], .bool true]) ∧ HangP d w' f (.slice a1 f.params.length c1) (.slice a2 f.vars.length c2) (.slice a3 f.body.length c3) (.slice a4 f.fin.length c4) ∧ f.nm.size ≤ 9223372036854775807 ∧ Below w.heap.size w w'
  | none => e = .returned (.tuple #[.agg #[.string ⟨#[]⟩, .slice none 0 0, .slice none 0 0, .slice none 0 0, .slice none 0 0], .bool false]) ∧ Below w.heap.size w w'
theorem HangP.of {C : Cs} {d : Nat} {w : World} {f : Pc} {qv vv bv fv : Value} (hle : Cs.le C (cw w)) (h1 : SlAt 2 (PaAt C) qv f.params) (h2 : StrC C vv f.vars) (h3 : StC C d bv f.body) (h4 : StrC C fv f.fin) : HangP d w f qv vv bv fv :=
  ⟨SlAt.imp h1 (fun _ _ _ _ => PaAt.mono hle), StrC.mono hle h2, StC.mono hle h3, StrC.mono hle h4⟩
theorem but_set5 {R : Nat} {w : World} {x0 x1 x2 x3 x4 : Value} : Cs.le (but R w) (cw (((((w.setCell ⟨R, 0, none⟩ x0).setCell ⟨R, 1, none⟩ x1).setCell ⟨R, 2, none⟩ x2).setCell ⟨R, 3, none⟩ x3).setCell ⟨R, 4, none⟩ x4)) := Cs.le_trans (only5 (S := fun g => g ≠ R) (by simp)) only_out
/-- The procedure of a name, of a program that may be. -/
def pcIn (p : Pr) (s : ByteArray) : Option Pc := if mayP p = true then pcOf p.procs s else none
def kindIn (p : Pr) (s nm : ByteArray) : Int := match pcIn p s with
  | some f => kindP p.globals f nm
  | none => 0
set_option maxHeartbeats 4000000 in
set_option maxRecDepth 100000 in
theorem named_any (d : Nat) (p : Pr) (gv pv : Value) (s : ByteArray) (w : World) (hp : PrC (cw w) d gv pv p) :
    Calls Try.prog 90 #[.agg #[gv, pv], .string s] w (PcMade d (pcOf p.procs s) w) := by
  obtain ⟨ga, gc, rfl, -, -⟩ := hp.1.form
  obtain ⟨pa, pc, rfl, hl1, hl2⟩ := hp.2.form
  have hpl : p.procs.length ≤ 9223372036854775807 := Nat.le_trans hl1 hl2
  have HP := Lib.hid hp
  clear hp hl1 hl2
  go_enter Try.func90, Try.ntmps90
  go_upto_region 1 with fail
  refine cut_world (fun wx => Below w.heap.size w wx ∧ wx.heap.size = w.heap.size + 1 + 1 ∧ BoxAt wx w.heap.size [.slice ga p.globals.length gc, .slice pa p.procs.length pc] ∧ BoxAt wx (w.heap.size + 1) [.string ⟨#[]⟩, .slice none 0 0, .slice none 0 0, .slice none 0 0, .slice none 0 0] ∧ Free wx (w.heap.size + 1)) ⟨(boxed w _).alloc (by simp) _, by simp, (box_new w #[.slice ga p.globals.length gc, .slice pa p.procs.length pc] 25).next (boxed _ _), box_two w _ #[.string ⟨#[]⟩, .slice none 0 0, .slice none 0 0, .slice none 0 0, .slice none 0 0] 55, free_two w _ _ _⟩ ?_
  rintro w1 ⟨hb1, hz1, hx1, hr1, hf1⟩
  obtain ⟨R, hR⟩ : ∃ R, R = w.heap.size + 1 := ⟨_, rfl⟩
  rw [← hR] at hr1 hf1
  try rw [← hR]
  have hRw : w.heap.size < R := by omega
  have hR1 : R < w1.heap.size := by omega
  have HB1 := Lib.hid hb1
  have HX1 := Lib.hid hx1
  have HR1 := Lib.hid hr1
  have HF1 := Lib.hid hf1
  have HBP1 : Hid (PrC (but R w1) d (.slice ga p.globals.length gc) (.slice pa p.procs.length pc) p) := Lib.hid (PrC.mono (fun g j u h => ⟨by have := cell_lt h; omega, cw_next hb1 _ _ _ h⟩) HP.out)
  clear hb1 hx1 hr1 hf1 hz1 hR
  have x1 := HX1.out 1 _ rfl
  go_wp2_with fail
  clear x1
  go_loopw [11] (fun i wr => ∃ k : Nat, k ≤ p.procs.length ∧ i = .int .i64 k ∧ (∀ j (hj : j < p.procs.length), j < k → (p.procs[j].nm.toList == s.toList) = false) ∧ Below w1.heap.size w1 wr) (fun i _ => (p.procs.length - intOf i).toNat)
  case atStart => exact ⟨0, by omega, rfl, fun j _ h => absurd h (by omega), Below.refl _ _⟩
  case round =>
    obtain ⟨k, hk, rfl, hno, hbr⟩ := hrel
    obtain ⟨wq, hwq⟩ : ∃ x : World, x = wr := ⟨_, rfl⟩
    subst hwq
    have HNO := Lib.hid hno
    have HBR := Lib.hid hbr
    have HPQ := Lib.hid (PrC.mono (but_next hbr) HBP1.out)
    have HRQ := Lib.hid (HR1.out.next hbr)
    have HFQ := Lib.hid (HF1.out.next (cell_lt (HR1.out 0 _ rfl)) hbr)
    have HBQ := Lib.hid (HB1.out.trans (hbr.mono HB1.out.size))
    have hRq : R < wq.heap.size := cell_lt (HRQ.out 0 _ rfl)
    clear hno hbr
    by_cases hlt : k < p.procs.length
    · have hlt' : (k : Int) < (p.procs.length : Int) := by omega
      have h0k : (0 : Int) ≤ (k : Int) := by omega
      have hne : p.procs ≠ [] := by intro h; rw [h] at hlt; simp at hlt
      obtain ⟨g, off, cap', hv, _, hcells⟩ := SlAt.cells HPQ.out.2 hne
      simp only [Value.slice.injEq] at hv
      obtain ⟨rfl, -, rfl⟩ := hv
      obtain ⟨pv, vv, bv, fv, p0, p1, p2, p3, p4, hnm, hps, hvs, hbody, hfin⟩ := hcells k hlt
      have hfa := fun h => fst_at hlt (f := fun f : Pc => f.nm.toList == s.toList) (fun j hj hjk => HNO.out j hj hjk) h
      obtain ⟨f, hf⟩ : ∃ f, Hid (p.procs[k] = f) := ⟨_, Lib.hid rfl⟩
      rw [hf.out] at p0 hnm hps hvs hbody hfin hfa
      obtain ⟨a1, c1, rfl, -, -⟩ := hps.form
      obtain ⟨a2, c2, rfl, -, -⟩ := hvs.form
      obtain ⟨a3, c3, rfl, -, -⟩ := hbody.form
      obtain ⟨a4, c4, rfl, -, -⟩ := hfin.form
      have e0 : wq.cell? ⟨g, off + k * 5, none⟩ = _ := p0.2
      have e1 : wq.cell? ⟨g, off + k * 5 + 1, none⟩ = _ := p1.2
      have e2 : wq.cell? ⟨g, off + k * 5 + 2, none⟩ = _ := p2.2
      have e3 : wq.cell? ⟨g, off + k * 5 + 3, none⟩ = _ := p3.2
      have e4 : wq.cell? ⟨g, off + k * 5 + 4, none⟩ = _ := p4.2
      have HNM := Lib.hid hnm
      have HH1 := Lib.hid hps
      have HH2 := Lib.hid hvs
      have HH3 := Lib.hid hbody
      have HH4 := Lib.hid hfin
      have HFA := Lib.hid hfa
      clear hcells hne p0 p1 p2 p3 p4 hnm hps hvs hbody hfin hfa
      go_upto_region 4 with fail
      refine cut_world (fun wx => Below wq.heap.size wq wx ∧ BoxAt wx wq.heap.size [.string f.nm, .slice a1 f.params.length c1, .slice a2 f.vars.length c2, .slice a3 f.body.length c3, .slice a4 f.fin.length c4]) ⟨boxed wq _, box_new wq #[.string f.nm, .slice a1 f.params.length c1, .slice a2 f.vars.length c2, .slice a3 f.body.length c3, .slice a4 f.fin.length c4] 55⟩ ?_
      clear e0 e1 e2 e3 e4
      rintro w5 ⟨hb5, hx5⟩
      have HB5 := Lib.hid hb5
      have x0 := hx5 0 _ rfl
      have x1 := hx5 1 _ rfl
      have x2 := hx5 2 _ rfl
      have x3 := hx5 3 _ rfl
      have x4 := hx5 4 _ rfl
      have HR5 := Lib.hid (HRQ.out.next hb5)
      have HF5 := Lib.hid (HFQ.out.next hRq hb5)
      have HBW5 := Lib.hid (HBQ.out.trans (hb5.mono HBQ.out.size))
      clear hb5 hx5
      cases hc : (f.nm.toList == s.toList) with
      | true =>
        have hfa := HFA.out hc
        have HFA2 := Lib.hid hfa
        clear hfa
        have r0 := HR5.out 0 _ rfl
        have r1 := HR5.out 1 _ rfl
        have r2 := HR5.out 2 _ rfl
        have r3 := HR5.out 3 _ rfl
        have r4 := HR5.out 4 _ rfl
        have f0 := HF5.out 0
        have f1 := HF5.out 1
        have f2 := HF5.out 2
        have f3 := HF5.out 3
        have f4 := HF5.out 4
        go_wp2_with fail
        have hq := box5 (x0 := .string f.nm) (x1 := .slice a1 f.params.length c1) (x2 := .slice a2 f.vars.length c2) (x3 := .slice a3 f.body.length c3) (x4 := .slice a4 f.fin.length c4) HR5.out
        have q0 := hq 0 _ rfl
        have q1 := hq 1 _ rfl
        have q2 := hq 2 _ rfl
        have q3 := hq 3 _ rfl
        have q4 := hq 4 _ rfl
        refine bodyPost_ret (v := .tuple #[.agg #[.string f.nm, .slice a1 f.params.length c1, .slice a2 f.vars.length c2, .slice a3 f.body.length c3, .slice a4 f.fin.length c4], .bool true]) (by simp [results, Try.results90, go_sem, q0, q1, q2, q3, q4]) rfl ?_
        rw [show (pcOf p.procs s) = some f from HFA2.out]
        have hle : Cs.le (but R wq) _ := Cs.le_trans (but_next HB5.out) (but_set5 (x0 := .string f.nm) (x1 := .slice a1 f.params.length c1) (x2 := .slice a2 f.vars.length c2) (x3 := .slice a3 f.body.length c3) (x4 := .slice a4 f.fin.length c4))
        exact ⟨a1, a2, a3, a4, c1, c2, c3, c4, rfl, HangP.of hle HH1.out HH2.out HH3.out HH4.out, HNM.out, below5 HBW5.out (by omega)⟩
      | false =>
        have HC := Lib.hid hc
        go_wp2_with fail
        go_roundw
        case rel =>
          refine ⟨k + 1, by omega, by go_num, fun j hj hjk => ?_, HBR.out.trans (HB5.out.mono HBR.out.size)⟩
          rcases Nat.lt_or_ge j k with h | h
          · exact HNO.out j hj h
          · obtain rfl : j = k := by omega
            rw [hf.out]; exact HC.out
        case measure => simp [intOf]; omega
    · have hlt' : ¬ (k : Int) < (p.procs.length : Int) := by omega
      have hfn : p.procs.find? (fun f : Pc => f.nm.toList == s.toList) = none := fst_no fun j hj => HNO.out j hj (by omega)
      have HNON := Lib.hid hfn
      clear hfn
      have r0 := HRQ.out 0 _ rfl
      have r1 := HRQ.out 1 _ rfl
      have r2 := HRQ.out 2 _ rfl
      have r3 := HRQ.out 3 _ rfl
      have r4 := HRQ.out 4 _ rfl
      have f0 := HFQ.out 0
      have f1 := HFQ.out 1
      have f2 := HFQ.out 2
      have f3 := HFQ.out 3
      have f4 := HFQ.out 4
      go_wp2_with fail
      have hq := box5 (x0 := .string ⟨#[]⟩) (x1 := .slice none 0 0) (x2 := .slice none 0 0) (x3 := .slice none 0 0) (x4 := .slice none 0 0) HRQ.out
      have q0 := hq 0 _ rfl
      have q1 := hq 1 _ rfl
      have q2 := hq 2 _ rfl
      have q3 := hq 3 _ rfl
      have q4 := hq 4 _ rfl
      refine bodyPost_ret (v := .tuple #[.agg #[.string ⟨#[]⟩, .slice none 0 0, .slice none 0 0, .slice none 0 0, .slice none 0 0], .bool false]) (by simp [results, Try.results90, go_sem, q0, q1, q2, q3, q4]) rfl ?_
      rw [show (pcOf p.procs s) = none from HNON.out]
      exact ⟨rfl, below5 HBQ.out (by omega)⟩
set_option maxHeartbeats 4000000 in
set_option maxRecDepth 100000 in
theorem rproc_any (d : Nat) (p : Pr) (gv pv : Value) (s : ByteArray) (w : World) (hp : PrC (cw w) d gv pv p) :
    Calls Try.prog 33 #[.agg #[gv, pv], .string s] w (PcMade d (pcIn p s) w) := by
  obtain ⟨ga, gc, rfl, -, -⟩ := hp.1.form
  obtain ⟨pa, pc, rfl, hl1, hl2⟩ := hp.2.form
  have hpl : p.procs.length ≤ 9223372036854775807 := Nat.le_trans hl1 hl2
  have HP := Lib.hid hp
  clear hp hl1 hl2
  go_enter Try.func33, Try.ntmps33
  go_upto_region 1 with fail
  refine cut_world (fun wx => Below w.heap.size w wx ∧ wx.heap.size = w.heap.size + 1 + 1 ∧ BoxAt wx w.heap.size [.slice ga p.globals.length gc, .slice pa p.procs.length pc] ∧ BoxAt wx (w.heap.size + 1) [.string ⟨#[]⟩, .slice none 0 0, .slice none 0 0, .slice none 0 0, .slice none 0 0] ∧ Free wx (w.heap.size + 1)) ⟨(boxed w _).alloc (by simp) _, by simp, (box_new w #[.slice ga p.globals.length gc, .slice pa p.procs.length pc] 25).next (boxed _ _), box_two w _ #[.string ⟨#[]⟩, .slice none 0 0, .slice none 0 0, .slice none 0 0, .slice none 0 0] 55, free_two w _ _ _⟩ ?_
  rintro w1 ⟨hb1, hz1, hx1, hr1, hf1⟩
  obtain ⟨R, hR⟩ : ∃ R, R = w.heap.size + 1 := ⟨_, rfl⟩
  rw [← hR] at hr1 hf1
  try rw [← hR]
  have hRw : w.heap.size < R := by omega
  have hR1 : R < w1.heap.size := by omega
  have HB1 := Lib.hid hb1
  have HX1 := Lib.hid hx1
  have HR1 := Lib.hid hr1
  have HF1 := Lib.hid hf1
  have HBP1 : Hid (PrC (but R w1) d (.slice ga p.globals.length gc) (.slice pa p.procs.length pc) p) := Lib.hid (PrC.mono (fun g j u h => ⟨by have := cell_lt h; omega, cw_next hb1 _ _ _ h⟩) HP.out)
  clear hb1 hx1 hr1 hf1 hz1 hR
  have x0 := HX1.out 0 _ rfl
  have x1 := HX1.out 1 _ rfl
  go_wp2_with fail
  refine (rmayP_any d p _ _ _ (PrC.mono only_out HBP1.out)).mono ?_
  rintro e w2 ⟨rfl, hb2⟩
  obtain ⟨m1, hm1⟩ : ∃ m, Hid (mayP p = m) := ⟨_, Lib.hid rfl⟩
  rw [hm1.out]
  have HB2 := Lib.hid (HB1.out.trans (hb2.mono HB1.out.size))
  have HX2 := Lib.hid (HX1.out.next hb2)
  have HR2 := Lib.hid (HR1.out.next hb2)
  have HF2 := Lib.hid (HF1.out.next hR1 hb2)
  have HBP2 := Lib.hid (PrC.mono (but_next hb2) HBP1.out)
  clear hb2 x0 x1
  cases m1 with
  | false =>
    have r0 := HR2.out 0 _ rfl
    have r1 := HR2.out 1 _ rfl
    have r2 := HR2.out 2 _ rfl
    have r3 := HR2.out 3 _ rfl
    have r4 := HR2.out 4 _ rfl
    have f0 := HF2.out 0
    have f1 := HF2.out 1
    have f2 := HF2.out 2
    have f3 := HF2.out 3
    have f4 := HF2.out 4
    go_wp2_with fail
    have hq := box5 (x0 := .string ⟨#[]⟩) (x1 := .slice none 0 0) (x2 := .slice none 0 0) (x3 := .slice none 0 0) (x4 := .slice none 0 0) HR2.out
    have q0 := hq 0 _ rfl
    have q1 := hq 1 _ rfl
    have q2 := hq 2 _ rfl
    have q3 := hq 3 _ rfl
    have q4 := hq 4 _ rfl
    refine bodyPost_ret (v := .tuple #[.agg #[.string ⟨#[]⟩, .slice none 0 0, .slice none 0 0, .slice none 0 0, .slice none 0 0], .bool false]) (by simp [results, Try.results33, go_sem, q0, q1, q2, q3, q4]) rfl ?_
    rw [show (pcIn p s) = none from by unfold pcIn; rw [if_neg (by rw [hm1.out]; decide)]]
    exact ⟨rfl, below5 HB2.out (by omega)⟩
  | true =>
    have x1 := HX2.out 1 _ rfl
    go_wp2_with fail
    clear x1
    go_loopw [13] (fun i wr => ∃ k : Nat, k ≤ p.procs.length ∧ i = .int .i64 k ∧ (∀ j (hj : j < p.procs.length), j < k → (p.procs[j].nm.toList == s.toList) = false) ∧ Below w2.heap.size w2 wr) (fun i _ => (p.procs.length - intOf i).toNat)
    case atStart => exact ⟨0, by omega, rfl, fun j _ h => absurd h (by omega), Below.refl _ _⟩
    case round =>
      obtain ⟨k, hk, rfl, hno, hbr⟩ := hrel
      obtain ⟨wq, hwq⟩ : ∃ x : World, x = wr := ⟨_, rfl⟩
      subst hwq
      have HNO := Lib.hid hno
      have HBR := Lib.hid hbr
      have HPQ := Lib.hid (PrC.mono (but_next hbr) HBP2.out)
      have HRQ := Lib.hid (HR2.out.next hbr)
      have HFQ := Lib.hid (HF2.out.next (cell_lt (HR2.out 0 _ rfl)) hbr)
      have HBQ := Lib.hid (HB2.out.trans (hbr.mono HB2.out.size))
      have hRq : R < wq.heap.size := cell_lt (HRQ.out 0 _ rfl)
      clear hno hbr
      by_cases hlt : k < p.procs.length
      · have hlt' : (k : Int) < (p.procs.length : Int) := by omega
        have h0k : (0 : Int) ≤ (k : Int) := by omega
        have hne : p.procs ≠ [] := by intro h; rw [h] at hlt; simp at hlt
        obtain ⟨g, off, cap', hv, _, hcells⟩ := SlAt.cells HPQ.out.2 hne
        simp only [Value.slice.injEq] at hv
        obtain ⟨rfl, -, rfl⟩ := hv
        obtain ⟨pv, vv, bv, fv, p0, p1, p2, p3, p4, hnm, hps, hvs, hbody, hfin⟩ := hcells k hlt
        have hfa := fun h => fst_at hlt (f := fun f : Pc => f.nm.toList == s.toList) (fun j hj hjk => HNO.out j hj hjk) h
        obtain ⟨f, hf⟩ : ∃ f, Hid (p.procs[k] = f) := ⟨_, Lib.hid rfl⟩
        rw [hf.out] at p0 hnm hps hvs hbody hfin hfa
        obtain ⟨a1, c1, rfl, -, -⟩ := hps.form
        obtain ⟨a2, c2, rfl, -, -⟩ := hvs.form
        obtain ⟨a3, c3, rfl, -, -⟩ := hbody.form
        obtain ⟨a4, c4, rfl, -, -⟩ := hfin.form
        have e0 : wq.cell? ⟨g, off + k * 5, none⟩ = _ := p0.2
        have e1 : wq.cell? ⟨g, off + k * 5 + 1, none⟩ = _ := p1.2
        have e2 : wq.cell? ⟨g, off + k * 5 + 2, none⟩ = _ := p2.2
        have e3 : wq.cell? ⟨g, off + k * 5 + 3, none⟩ = _ := p3.2
        have e4 : wq.cell? ⟨g, off + k * 5 + 4, none⟩ = _ := p4.2
        have HNM := Lib.hid hnm
        have HH1 := Lib.hid hps
        have HH2 := Lib.hid hvs
        have HH3 := Lib.hid hbody
        have HH4 := Lib.hid hfin
        have HFA := Lib.hid hfa
        clear hcells hne p0 p1 p2 p3 p4 hnm hps hvs hbody hfin hfa
        go_upto_region 5 with fail
        refine cut_world (fun wx => Below wq.heap.size wq wx ∧ BoxAt wx wq.heap.size [.string f.nm, .slice a1 f.params.length c1, .slice a2 f.vars.length c2, .slice a3 f.body.length c3, .slice a4 f.fin.length c4]) ⟨boxed wq _, box_new wq #[.string f.nm, .slice a1 f.params.length c1, .slice a2 f.vars.length c2, .slice a3 f.body.length c3, .slice a4 f.fin.length c4] 55⟩ ?_
        clear e0 e1 e2 e3 e4
        rintro w5 ⟨hb5, hx5⟩
        have HB5 := Lib.hid hb5
        have x0 := hx5 0 _ rfl
        have x1 := hx5 1 _ rfl
        have x2 := hx5 2 _ rfl
        have x3 := hx5 3 _ rfl
        have x4 := hx5 4 _ rfl
        have HR5 := Lib.hid (HRQ.out.next hb5)
        have HF5 := Lib.hid (HFQ.out.next hRq hb5)
        have HBW5 := Lib.hid (HBQ.out.trans (hb5.mono HBQ.out.size))
        clear hb5 hx5
        cases hc : (f.nm.toList == s.toList) with
        | true =>
          have hfa := HFA.out hc
          have HFA2 := Lib.hid hfa
          clear hfa
          have r0 := HR5.out 0 _ rfl
          have r1 := HR5.out 1 _ rfl
          have r2 := HR5.out 2 _ rfl
          have r3 := HR5.out 3 _ rfl
          have r4 := HR5.out 4 _ rfl
          have f0 := HF5.out 0
          have f1 := HF5.out 1
          have f2 := HF5.out 2
          have f3 := HF5.out 3
          have f4 := HF5.out 4
          go_wp2_with fail
          have hq := box5 (x0 := .string f.nm) (x1 := .slice a1 f.params.length c1) (x2 := .slice a2 f.vars.length c2) (x3 := .slice a3 f.body.length c3) (x4 := .slice a4 f.fin.length c4) HR5.out
          have q0 := hq 0 _ rfl
          have q1 := hq 1 _ rfl
          have q2 := hq 2 _ rfl
          have q3 := hq 3 _ rfl
          have q4 := hq 4 _ rfl
          refine bodyPost_ret (v := .tuple #[.agg #[.string f.nm, .slice a1 f.params.length c1, .slice a2 f.vars.length c2, .slice a3 f.body.length c3, .slice a4 f.fin.length c4], .bool true]) (by simp [results, Try.results33, go_sem, q0, q1, q2, q3, q4]) rfl ?_
          rw [show (pcIn p s) = some f from by unfold pcIn; rw [if_pos hm1.out]; exact HFA2.out]
          have hle : Cs.le (but R wq) _ := Cs.le_trans (but_next HB5.out) (but_set5 (x0 := .string f.nm) (x1 := .slice a1 f.params.length c1) (x2 := .slice a2 f.vars.length c2) (x3 := .slice a3 f.body.length c3) (x4 := .slice a4 f.fin.length c4))
          exact ⟨a1, a2, a3, a4, c1, c2, c3, c4, rfl, HangP.of hle HH1.out HH2.out HH3.out HH4.out, HNM.out, below5 HBW5.out (by omega)⟩
        | false =>
          have HC := Lib.hid hc
          go_wp2_with fail
          go_roundw
          case rel =>
            refine ⟨k + 1, by omega, by go_num, fun j hj hjk => ?_, HBR.out.trans (HB5.out.mono HBR.out.size)⟩
            rcases Nat.lt_or_ge j k with h | h
            · exact HNO.out j hj h
            · obtain rfl : j = k := by omega
              rw [hf.out]; exact HC.out
          case measure => simp [intOf]; omega
      · have hlt' : ¬ (k : Int) < (p.procs.length : Int) := by omega
        have hfn : p.procs.find? (fun f : Pc => f.nm.toList == s.toList) = none := fst_no fun j hj => HNO.out j hj (by omega)
        have HNON := Lib.hid hfn
        clear hfn
        have r0 := HRQ.out 0 _ rfl
        have r1 := HRQ.out 1 _ rfl
        have r2 := HRQ.out 2 _ rfl
        have r3 := HRQ.out 3 _ rfl
        have r4 := HRQ.out 4 _ rfl
        have f0 := HFQ.out 0
        have f1 := HFQ.out 1
        have f2 := HFQ.out 2
        have f3 := HFQ.out 3
        have f4 := HFQ.out 4
        go_wp2_with fail
        have hq := box5 (x0 := .string ⟨#[]⟩) (x1 := .slice none 0 0) (x2 := .slice none 0 0) (x3 := .slice none 0 0) (x4 := .slice none 0 0) HRQ.out
        have q0 := hq 0 _ rfl
        have q1 := hq 1 _ rfl
        have q2 := hq 2 _ rfl
        have q3 := hq 3 _ rfl
        have q4 := hq 4 _ rfl
        refine bodyPost_ret (v := .tuple #[.agg #[.string ⟨#[]⟩, .slice none 0 0, .slice none 0 0, .slice none 0 0, .slice none 0 0], .bool false]) (by simp [results, Try.results33, go_sem, q0, q1, q2, q3, q4]) rfl ?_
        rw [show (pcIn p s) = none from by unfold pcIn; rw [if_pos hm1.out]; exact HNON.out]
        exact ⟨rfl, below5 HBQ.out (by omega)⟩
set_option maxHeartbeats 4000000 in
set_option maxRecDepth 100000 in
theorem sproc_any (d : Nat) (p : Pr) (gv pv : Value) (s : ByteArray) (w : World) (hp : PrC (cw w) d gv pv p) (hwp : wtPr p ≤ 20000) :
    Calls Try.prog 32 #[.agg #[gv, pv], .string s] w (PcMade d (pcIn p s) w) := by
  obtain ⟨ga, gc, rfl, -, -⟩ := hp.1.form
  obtain ⟨pa, pc, rfl, hl1, hl2⟩ := hp.2.form
  have hpl : p.procs.length ≤ 9223372036854775807 := Nat.le_trans hl1 hl2
  have HP := Lib.hid hp
  clear hp hl1 hl2
  go_enter Try.func32, Try.ntmps32
  go_upto_region 1 with fail
  refine cut_world (fun wx => Below w.heap.size w wx ∧ wx.heap.size = w.heap.size + 1 + 1 ∧ BoxAt wx w.heap.size [.slice ga p.globals.length gc, .slice pa p.procs.length pc] ∧ BoxAt wx (w.heap.size + 1) [.string ⟨#[]⟩, .slice none 0 0, .slice none 0 0, .slice none 0 0, .slice none 0 0] ∧ Free wx (w.heap.size + 1)) ⟨(boxed w _).alloc (by simp) _, by simp, (box_new w #[.slice ga p.globals.length gc, .slice pa p.procs.length pc] 25).next (boxed _ _), box_two w _ #[.string ⟨#[]⟩, .slice none 0 0, .slice none 0 0, .slice none 0 0, .slice none 0 0] 55, free_two w _ _ _⟩ ?_
  rintro w1 ⟨hb1, hz1, hx1, hr1, hf1⟩
  obtain ⟨R, hR⟩ : ∃ R, R = w.heap.size + 1 := ⟨_, rfl⟩
  rw [← hR] at hr1 hf1
  try rw [← hR]
  have hRw : w.heap.size < R := by omega
  have hR1 : R < w1.heap.size := by omega
  have HB1 := Lib.hid hb1
  have HX1 := Lib.hid hx1
  have HR1 := Lib.hid hr1
  have HF1 := Lib.hid hf1
  have HBP1 : Hid (PrC (but R w1) d (.slice ga p.globals.length gc) (.slice pa p.procs.length pc) p) := Lib.hid (PrC.mono (fun g j u h => ⟨by have := cell_lt h; omega, cw_next hb1 _ _ _ h⟩) HP.out)
  clear hb1 hx1 hr1 hf1 hz1 hR
  have x0 := HX1.out 0 _ rfl
  have x1 := HX1.out 1 _ rfl
  go_wp2_with fail
  refine (mayP_any d p _ _ _ (PrC.mono only_out HBP1.out)).mono ?_
  rintro e w2 ⟨rfl, hb2⟩
  obtain ⟨m1, hm1⟩ : ∃ m, Hid (mayP p = m) := ⟨_, Lib.hid rfl⟩
  rw [hm1.out]
  have HB2 := Lib.hid (HB1.out.trans (hb2.mono HB1.out.size))
  have HX2 := Lib.hid (HX1.out.next hb2)
  have HR2 := Lib.hid (HR1.out.next hb2)
  have HF2 := Lib.hid (HF1.out.next hR1 hb2)
  have hR2 : R < w2.heap.size := cell_lt (HR2.out 0 _ rfl)
  have HP2 := Lib.hid (PrC.mono (Cs.le_trans only_out (cw_next hb2)) HBP1.out)
  clear hb2 x0 x1
  cases m1 with
  | false =>
    have r0 := HR2.out 0 _ rfl
    have r1 := HR2.out 1 _ rfl
    have r2 := HR2.out 2 _ rfl
    have r3 := HR2.out 3 _ rfl
    have r4 := HR2.out 4 _ rfl
    have f0 := HF2.out 0
    have f1 := HF2.out 1
    have f2 := HF2.out 2
    have f3 := HF2.out 3
    have f4 := HF2.out 4
    go_wp2_with fail
    have hq := box5 (x0 := .string ⟨#[]⟩) (x1 := .slice none 0 0) (x2 := .slice none 0 0) (x3 := .slice none 0 0) (x4 := .slice none 0 0) HR2.out
    have q0 := hq 0 _ rfl
    have q1 := hq 1 _ rfl
    have q2 := hq 2 _ rfl
    have q3 := hq 3 _ rfl
    have q4 := hq 4 _ rfl
    refine bodyPost_ret (v := .tuple #[.agg #[.string ⟨#[]⟩, .slice none 0 0, .slice none 0 0, .slice none 0 0, .slice none 0 0], .bool false]) (by simp [results, Try.results32, go_sem, q0, q1, q2, q3, q4]) rfl ?_
    rw [show (pcIn p s) = none from by unfold pcIn; rw [if_neg (by rw [hm1.out]; decide)]]
    exact ⟨rfl, below5 HB2.out (by omega)⟩
  | true =>
    have x0 := HX2.out 0 _ rfl
    have x1 := HX2.out 1 _ rfl
    go_wp2_with fail
    refine ((number_row d p _ _ _ HP2.out hwp).mono fun _ _ h => h.made).mono ?_
    rw [num_same hm1.out]
    rintro e w3 ⟨gv3, pv3, rfl, hp3, hb3⟩
    obtain ⟨gn, gnc, rfl, -, -⟩ := hp3.1.form
    obtain ⟨pn, pnc, rfl, hn1, hn2⟩ := hp3.2.form
    have HP3 := Lib.hid hp3
    have HB3 := Lib.hid (HB2.out.trans (hb3.mono HB2.out.size))
    have HR3 := Lib.hid (HR2.out.next hb3)
    have HF3 := Lib.hid (HF2.out.next hR2 hb3)
    have hs3 := hb3.size
    clear hb3 hp3 x0 x1 hn1 hn2
    go_upto_region 4 with fail
    refine cut_world (fun wx => Below w3.heap.size w3 wx ∧ BoxAt wx w3.heap.size [.slice gn p.globals.length gnc, .slice pn p.procs.length pnc]) ⟨boxed w3 _, box_new w3 #[.slice gn p.globals.length gnc, .slice pn p.procs.length pnc] 25⟩ ?_
    rintro w4 ⟨hb4, hx4⟩
    have HX4 := Lib.hid hx4
    have HB4 := Lib.hid (HB3.out.trans (hb4.mono HB3.out.size))
    have HR4 := Lib.hid (HR3.out.next hb4)
    have HF4 := Lib.hid (HF3.out.next (by omega) hb4)
    have HBP4 : Hid (PrC (but R w4) d (.slice gn p.globals.length gnc) (.slice pn p.procs.length pnc) p) := Lib.hid (PrC.mono (fun g j u h => ⟨by have := h.1; omega, cw_next hb4 _ _ _ h.2⟩) HP3.out)
    clear hb4 hx4
    have x1 := HX4.out 1 _ rfl
    go_wp2_with fail
    clear x1
    go_loopw [18] (fun i wr => ∃ k : Nat, k ≤ p.procs.length ∧ i = .int .i64 k ∧ (∀ j (hj : j < p.procs.length), j < k → (p.procs[j].nm.toList == s.toList) = false) ∧ Below w4.heap.size w4 wr) (fun i _ => (p.procs.length - intOf i).toNat)
    case atStart => exact ⟨0, by omega, rfl, fun j _ h => absurd h (by omega), Below.refl _ _⟩
    case round =>
      obtain ⟨k, hk, rfl, hno, hbr⟩ := hrel
      obtain ⟨wq, hwq⟩ : ∃ x : World, x = wr := ⟨_, rfl⟩
      subst hwq
      have HNO := Lib.hid hno
      have HBR := Lib.hid hbr
      have HPQ := Lib.hid (PrC.mono (but_next hbr) HBP4.out)
      have HRQ := Lib.hid (HR4.out.next hbr)
      have HFQ := Lib.hid (HF4.out.next (cell_lt (HR4.out 0 _ rfl)) hbr)
      have HBQ := Lib.hid (HB4.out.trans (hbr.mono HB4.out.size))
      have hRq : R < wq.heap.size := cell_lt (HRQ.out 0 _ rfl)
      clear hno hbr
      by_cases hlt : k < p.procs.length
      · have hlt' : (k : Int) < (p.procs.length : Int) := by omega
        have h0k : (0 : Int) ≤ (k : Int) := by omega
        have hne : p.procs ≠ [] := by intro h; rw [h] at hlt; simp at hlt
        obtain ⟨g, off, cap', hv, _, hcells⟩ := SlAt.cells HPQ.out.2 hne
        simp only [Value.slice.injEq] at hv
        obtain ⟨rfl, -, rfl⟩ := hv
        obtain ⟨pv, vv, bv, fv, p0, p1, p2, p3, p4, hnm, hps, hvs, hbody, hfin⟩ := hcells k hlt
        have hfa := fun h => fst_at hlt (f := fun f : Pc => f.nm.toList == s.toList) (fun j hj hjk => HNO.out j hj hjk) h
        obtain ⟨f, hf⟩ : ∃ f, Hid (p.procs[k] = f) := ⟨_, Lib.hid rfl⟩
        rw [hf.out] at p0 hnm hps hvs hbody hfin hfa
        obtain ⟨a1, c1, rfl, -, -⟩ := hps.form
        obtain ⟨a2, c2, rfl, -, -⟩ := hvs.form
        obtain ⟨a3, c3, rfl, -, -⟩ := hbody.form
        obtain ⟨a4, c4, rfl, -, -⟩ := hfin.form
        have e0 : wq.cell? ⟨g, off + k * 5, none⟩ = _ := p0.2
        have e1 : wq.cell? ⟨g, off + k * 5 + 1, none⟩ = _ := p1.2
        have e2 : wq.cell? ⟨g, off + k * 5 + 2, none⟩ = _ := p2.2
        have e3 : wq.cell? ⟨g, off + k * 5 + 3, none⟩ = _ := p3.2
        have e4 : wq.cell? ⟨g, off + k * 5 + 4, none⟩ = _ := p4.2
        have HNM := Lib.hid hnm
        have HH1 := Lib.hid hps
        have HH2 := Lib.hid hvs
        have HH3 := Lib.hid hbody
        have HH4 := Lib.hid hfin
        have HFA := Lib.hid hfa
        clear hcells hne p0 p1 p2 p3 p4 hnm hps hvs hbody hfin hfa
        go_upto_region 7 with fail
        refine cut_world (fun wx => Below wq.heap.size wq wx ∧ BoxAt wx wq.heap.size [.string f.nm, .slice a1 f.params.length c1, .slice a2 f.vars.length c2, .slice a3 f.body.length c3, .slice a4 f.fin.length c4]) ⟨boxed wq _, box_new wq #[.string f.nm, .slice a1 f.params.length c1, .slice a2 f.vars.length c2, .slice a3 f.body.length c3, .slice a4 f.fin.length c4] 55⟩ ?_
        clear e0 e1 e2 e3 e4
        rintro w5 ⟨hb5, hx5⟩
        have HB5 := Lib.hid hb5
        have x0 := hx5 0 _ rfl
        have x1 := hx5 1 _ rfl
        have x2 := hx5 2 _ rfl
        have x3 := hx5 3 _ rfl
        have x4 := hx5 4 _ rfl
        have HR5 := Lib.hid (HRQ.out.next hb5)
        have HF5 := Lib.hid (HFQ.out.next hRq hb5)
        have HBW5 := Lib.hid (HBQ.out.trans (hb5.mono HBQ.out.size))
        clear hb5 hx5
        cases hc : (f.nm.toList == s.toList) with
        | true =>
          have hfa := HFA.out hc
          have HFA2 := Lib.hid hfa
          clear hfa
          have r0 := HR5.out 0 _ rfl
          have r1 := HR5.out 1 _ rfl
          have r2 := HR5.out 2 _ rfl
          have r3 := HR5.out 3 _ rfl
          have r4 := HR5.out 4 _ rfl
          have f0 := HF5.out 0
          have f1 := HF5.out 1
          have f2 := HF5.out 2
          have f3 := HF5.out 3
          have f4 := HF5.out 4
          go_wp2_with fail
          have hq := box5 (x0 := .string f.nm) (x1 := .slice a1 f.params.length c1) (x2 := .slice a2 f.vars.length c2) (x3 := .slice a3 f.body.length c3) (x4 := .slice a4 f.fin.length c4) HR5.out
          have q0 := hq 0 _ rfl
          have q1 := hq 1 _ rfl
          have q2 := hq 2 _ rfl
          have q3 := hq 3 _ rfl
          have q4 := hq 4 _ rfl
          refine bodyPost_ret (v := .tuple #[.agg #[.string f.nm, .slice a1 f.params.length c1, .slice a2 f.vars.length c2, .slice a3 f.body.length c3, .slice a4 f.fin.length c4], .bool true]) (by simp [results, Try.results32, go_sem, q0, q1, q2, q3, q4]) rfl ?_
          rw [show (pcIn p s) = some f from by unfold pcIn; rw [if_pos hm1.out]; exact HFA2.out]
          have hle : Cs.le (but R wq) _ := Cs.le_trans (but_next HB5.out) (but_set5 (x0 := .string f.nm) (x1 := .slice a1 f.params.length c1) (x2 := .slice a2 f.vars.length c2) (x3 := .slice a3 f.body.length c3) (x4 := .slice a4 f.fin.length c4))
          exact ⟨a1, a2, a3, a4, c1, c2, c3, c4, rfl, HangP.of hle HH1.out HH2.out HH3.out HH4.out, HNM.out, below5 HBW5.out (by omega)⟩
        | false =>
          have HC := Lib.hid hc
          go_wp2_with fail
          go_roundw
          case rel =>
            refine ⟨k + 1, by omega, by go_num, fun j hj hjk => ?_, HBR.out.trans (HB5.out.mono HBR.out.size)⟩
            rcases Nat.lt_or_ge j k with h | h
            · exact HNO.out j hj h
            · obtain rfl : j = k := by omega
              rw [hf.out]; exact HC.out
          case measure => simp [intOf]; omega
      · have hlt' : ¬ (k : Int) < (p.procs.length : Int) := by omega
        have hfn : p.procs.find? (fun f : Pc => f.nm.toList == s.toList) = none := fst_no fun j hj => HNO.out j hj (by omega)
        have HNON := Lib.hid hfn
        clear hfn
        have r0 := HRQ.out 0 _ rfl
        have r1 := HRQ.out 1 _ rfl
        have r2 := HRQ.out 2 _ rfl
        have r3 := HRQ.out 3 _ rfl
        have r4 := HRQ.out 4 _ rfl
        have f0 := HFQ.out 0
        have f1 := HFQ.out 1
        have f2 := HFQ.out 2
        have f3 := HFQ.out 3
        have f4 := HFQ.out 4
        go_wp2_with fail
        have hq := box5 (x0 := .string ⟨#[]⟩) (x1 := .slice none 0 0) (x2 := .slice none 0 0) (x3 := .slice none 0 0) (x4 := .slice none 0 0) HRQ.out
        have q0 := hq 0 _ rfl
        have q1 := hq 1 _ rfl
        have q2 := hq 2 _ rfl
        have q3 := hq 3 _ rfl
        have q4 := hq 4 _ rfl
        refine bodyPost_ret (v := .tuple #[.agg #[.string ⟨#[]⟩, .slice none 0 0, .slice none 0 0, .slice none 0 0, .slice none 0 0], .bool false]) (by simp [results, Try.results32, go_sem, q0, q1, q2, q3, q4]) rfl ?_
        rw [show (pcIn p s) = none from by unfold pcIn; rw [if_pos hm1.out]; exact HNON.out]
        exact ⟨rfl, below5 HBQ.out (by omega)⟩
set_option maxHeartbeats 4000000 in
set_option maxRecDepth 100000 in
theorem skind_any (d : Nat) (p : Pr) (gv pv : Value) (s nm : ByteArray) (w : World) (hp : PrC (cw w) d gv pv p) :
    Calls Try.prog 31 #[.agg #[gv, pv], .string s, .string nm] w fun e w' => e = .returned (.int .i64 (kindIn p s nm)) ∧ Below w.heap.size w w' := by
  obtain ⟨ga, gc, rfl, -, -⟩ := hp.1.form
  obtain ⟨pa, pc, rfl, hl1, hl2⟩ := hp.2.form
  have hpl : p.procs.length ≤ 9223372036854775807 := Nat.le_trans hl1 hl2
  have HP := Lib.hid hp
  clear hp hl1 hl2
  obtain ⟨KK, hKK⟩ : ∃ n, Hid (kindIn p s nm = n) := ⟨_, Lib.hid rfl⟩
  rw [hKK.out]
  go_enter Try.func31, Try.ntmps31
  go_upto_region 1 with fail
  refine cut_world (fun wx => Below w.heap.size w wx ∧ BoxAt wx w.heap.size [.slice ga p.globals.length gc, .slice pa p.procs.length pc]) ⟨boxed w _, box_new w #[.slice ga p.globals.length gc, .slice pa p.procs.length pc] 25⟩ ?_
  rintro w1 ⟨hb1, hx1⟩
  have HB1 := Lib.hid hb1
  have HX1 := Lib.hid hx1
  have HP1 := Lib.hid (PrC.mono (cw_next hb1) HP.out)
  have x0 := hx1 0 _ rfl
  have x1 := hx1 1 _ rfl
  clear hb1 hx1
  go_wp2_with fail
  refine (mayP_any d p _ _ _ HP1.out).mono ?_
  rintro e w2 ⟨rfl, hb2⟩
  obtain ⟨m1, hm1⟩ : ∃ m, Hid (mayP p = m) := ⟨_, Lib.hid rfl⟩
  rw [hm1.out]
  have HB2 := Lib.hid (HB1.out.trans (hb2.mono HB1.out.size))
  have HX2 := Lib.hid (HX1.out.next hb2)
  have HP2 := Lib.hid (PrC.mono (cw_next hb2) HP1.out)
  clear hb2 x0 x1
  cases m1 with
  | false =>
    go_wp2_with fail
    go_ret
    exact ⟨by rw [← hKK.out]; unfold kindIn pcIn; rw [if_neg (by rw [hm1.out]; decide)]; rfl, HB2.out⟩
  | true =>
    have x1 := HX2.out 1 _ rfl
    go_wp2_with fail
    clear x1
    go_loopw [15] (fun i wr => ∃ k : Nat, k ≤ p.procs.length ∧ i = .int .i64 k ∧ (∀ j (hj : j < p.procs.length), j < k → (p.procs[j].nm.toList == s.toList) = false) ∧ Below w2.heap.size w2 wr) (fun i _ => (p.procs.length - intOf i).toNat)
    case atStart => exact ⟨0, by omega, rfl, fun j _ h => absurd h (by omega), Below.refl _ _⟩
    case round =>
      obtain ⟨k, hk, rfl, hno, hbr⟩ := hrel
      obtain ⟨wq, hwq⟩ : ∃ x : World, x = wr := ⟨_, rfl⟩
      subst hwq
      have HNO := Lib.hid hno
      have HBR := Lib.hid hbr
      have HPQ := Lib.hid (PrC.mono (cw_next hbr) HP2.out)
      have HBQ := Lib.hid (HB2.out.trans (hbr.mono HB2.out.size))
      clear hno hbr
      by_cases hlt : k < p.procs.length
      · have hlt' : (k : Int) < (p.procs.length : Int) := by omega
        have h0k : (0 : Int) ≤ (k : Int) := by omega
        have hne : p.procs ≠ [] := by intro h; rw [h] at hlt; simp at hlt
        obtain ⟨g, off, cap', hv, _, hcells⟩ := SlAt.cells HPQ.out.2 hne
        simp only [Value.slice.injEq] at hv
        obtain ⟨rfl, -, rfl⟩ := hv
        obtain ⟨pv, vv, bv, fv, p0, p1, p2, p3, p4, hnm, hps, hvs, hbody, hfin⟩ := hcells k hlt
        have hfa := fun h => fst_at hlt (f := fun f : Pc => f.nm.toList == s.toList) (fun j hj hjk => HNO.out j hj hjk) h
        obtain ⟨f, hf⟩ : ∃ f, Hid (p.procs[k] = f) := ⟨_, Lib.hid rfl⟩
        rw [hf.out] at p0 hnm hps hvs hbody hfin hfa
        obtain ⟨a1, c1, rfl, -, -⟩ := hps.form
        obtain ⟨a2, c2, rfl, -, -⟩ := hvs.form
        obtain ⟨a3, c3, rfl, -, -⟩ := hbody.form
        obtain ⟨a4, c4, rfl, -, -⟩ := hfin.form
        have e0 : wq.cell? ⟨g, off + k * 5, none⟩ = _ := p0
        have e1 : wq.cell? ⟨g, off + k * 5 + 1, none⟩ = _ := p1
        have e2 : wq.cell? ⟨g, off + k * 5 + 2, none⟩ = _ := p2
        have e3 : wq.cell? ⟨g, off + k * 5 + 3, none⟩ = _ := p3
        have e4 : wq.cell? ⟨g, off + k * 5 + 4, none⟩ = _ := p4
        have HNM := Lib.hid hnm
        have HH1 := Lib.hid hps
        have HH2 := Lib.hid hvs
        have HH3 := Lib.hid hbody
        have HH4 := Lib.hid hfin
        have HFA := Lib.hid hfa
        clear hcells hne p0 p1 p2 p3 p4 hnm hps hvs hbody hfin hfa
        go_upto_region 6 with fail
        refine cut_world (fun wx => Below wq.heap.size wq wx ∧ BoxAt wx wq.heap.size [.string f.nm, .slice a1 f.params.length c1, .slice a2 f.vars.length c2, .slice a3 f.body.length c3, .slice a4 f.fin.length c4]) ⟨boxed wq _, box_new wq #[.string f.nm, .slice a1 f.params.length c1, .slice a2 f.vars.length c2, .slice a3 f.body.length c3, .slice a4 f.fin.length c4] 55⟩ ?_
        clear e0 e1 e2 e3 e4
        rintro w5 ⟨hb5, hx5⟩
        have HB5 := Lib.hid hb5
        have x0 := hx5 0 _ rfl
        have x1 := hx5 1 _ rfl
        have x2 := hx5 2 _ rfl
        have x3 := hx5 3 _ rfl
        have x4 := hx5 4 _ rfl
        have HBW5 := Lib.hid (HBQ.out.trans (hb5.mono HBQ.out.size))
        clear hb5 hx5
        cases hc : (f.nm.toList == s.toList) with
        | true =>
          have hfa := HFA.out hc
          have hk : KK = kindP p.globals f nm := by
            rw [← hKK.out]
            unfold kindIn pcIn pcOf
            rw [if_pos hm1.out, hfa]
          have HK := Lib.hid hk
          clear hfa hk
          have y0 := (HX2.out.next HBR.out).next HB5.out 0 _ rfl
          have y1 := (HX2.out.next HBR.out).next HB5.out 1 _ rfl
          go_wp2_with fail
          refine (kind_any p.globals f nm _ _ a1 a2 a3 a4 c1 c2 c3 c4 _ (StrsAt.next (StrsAt.next (StrC.to HP2.out.1) HBR.out) HB5.out) (SlAt.imp HH1.out fun _ _ _ _ => PaAt.mono (cw_next HB5.out)) (StrsAt.next (StrC.to HH2.out) HB5.out)).mono ?_
          rintro e w6 ⟨rfl, hb6⟩
          rw [← HK.out]
          have HBZ := Lib.hid (HBW5.out.trans (hb6.mono HBW5.out.size))
          clear hb6
          go_wp2_with fail
          go_ret
          exact ⟨rfl, HBZ.out⟩
        | false =>
          have HC := Lib.hid hc
          go_wp2_with fail
          go_roundw
          case rel =>
            refine ⟨k + 1, by omega, by go_num, fun j hj hjk => ?_, HBR.out.trans (HB5.out.mono HBR.out.size)⟩
            rcases Nat.lt_or_ge j k with h | h
            · exact HNO.out j hj h
            · obtain rfl : j = k := by omega
              rw [hf.out]; exact HC.out
          case measure => simp [intOf]; omega
      · have hlt' : ¬ (k : Int) < (p.procs.length : Int) := by omega
        have hfn : p.procs.find? (fun f : Pc => f.nm.toList == s.toList) = none := fst_no fun j hj => HNO.out j hj (by omega)
        have HNON := Lib.hid hfn
        clear hfn
        go_wp2_with fail
        go_ret
        refine ⟨?_, HBQ.out⟩
        rw [← hKK.out]
        unfold kindIn pcIn pcOf
        rw [if_pos hm1.out, HNON.out]
        rfl
set_option maxHeartbeats 4000000 in
set_option maxRecDepth 100000 in
theorem rkindin_any (d : Nat) (p : Pr) (gv pv : Value) (s nm : ByteArray) (w : World) (hp : PrC (cw w) d gv pv p) :
    Calls Try.prog 34 #[.agg #[gv, pv], .string s, .string nm] w fun e w' => e = .returned (.int .i64 (kindIn p s nm)) ∧ Below w.heap.size w w' := by
  obtain ⟨ga, gc, rfl, -, -⟩ := hp.1.form
  obtain ⟨pa, pc, rfl, hl1, hl2⟩ := hp.2.form
  have hpl : p.procs.length ≤ 9223372036854775807 := Nat.le_trans hl1 hl2
  have HP := Lib.hid hp
  clear hp hl1 hl2
  obtain ⟨KK, hKK⟩ : ∃ n, Hid (kindIn p s nm = n) := ⟨_, Lib.hid rfl⟩
  rw [hKK.out]
  go_enter Try.func34, Try.ntmps34
  go_upto_region 1 with fail
  refine cut_world (fun wx => Below w.heap.size w wx ∧ BoxAt wx w.heap.size [.slice ga p.globals.length gc, .slice pa p.procs.length pc]) ⟨boxed w _, box_new w #[.slice ga p.globals.length gc, .slice pa p.procs.length pc] 25⟩ ?_
  rintro w1 ⟨hb1, hx1⟩
  have HB1 := Lib.hid hb1
  have HX1 := Lib.hid hx1
  have HP1 := Lib.hid (PrC.mono (cw_next hb1) HP.out)
  have x0 := hx1 0 _ rfl
  have x1 := hx1 1 _ rfl
  clear hb1 hx1
  go_wp2_with fail
  refine (rproc_any d p _ _ s _ HP1.out).mono ?_
  intro e w2 hr
  cases hpi : pcIn p s with
  | none =>
    rw [hpi] at hr
    obtain ⟨rfl, hb2⟩ := hr
    have HB2 := Lib.hid (HB1.out.trans (hb2.mono HB1.out.size))
    clear hb2 x0 x1
    have hk : KK = 0 := by rw [← hKK.out]; unfold kindIn; rw [hpi]
    subst hk
    go_wp2_with fail
    go_ret
    exact ⟨rfl, HB2.out.trans ((boxed w2 _).mono HB2.out.size)⟩
  | some f =>
    rw [hpi] at hr
    obtain ⟨a1, a2, a3, a4, c1, c2, c3, c4, rfl, hh, hnm, hb2⟩ := hr
    have hk : KK = kindP p.globals f nm := by rw [← hKK.out]; unfold kindIn; rw [hpi]
    have HK := Lib.hid hk
    have HB2 := Lib.hid (HB1.out.trans (hb2.mono HB1.out.size))
    have HX2 := Lib.hid (HX1.out.next hb2)
    have HH := Lib.hid hh
    have HG2 := Lib.hid (StrsAt.next (StrC.to HP1.out.1) hb2)
    clear hb2 x0 x1 hk hh
    go_upto_region 2 with fail
    refine cut_world (fun wx => Below w2.heap.size w2 wx ∧ BoxAt wx w2.heap.size [.string f.nm, .slice a1 f.params.length c1, .slice a2 f.vars.length c2, .slice a3 f.body.length c3, .slice a4 f.fin.length c4]) ⟨boxed w2 _, box_new w2 #[.string f.nm, .slice a1 f.params.length c1, .slice a2 f.vars.length c2, .slice a3 f.body.length c3, .slice a4 f.fin.length c4] 55⟩ ?_
    rintro w3 ⟨hb3, hx3⟩
    have HB3 := Lib.hid hb3
    have x0 := HX2.out.next hb3 0 _ rfl
    have x1 := HX2.out.next hb3 1 _ rfl
    have y0 := hx3 0 _ rfl
    have y1 := hx3 1 _ rfl
    have y2 := hx3 2 _ rfl
    have y3 := hx3 3 _ rfl
    have y4 := hx3 4 _ rfl
    have HBW := Lib.hid (HB2.out.trans (hb3.mono HB2.out.size))
    clear hb3 hx3
    go_wp2_with fail
    refine (rkind_any p.globals f nm _ _ a1 a2 a3 a4 c1 c2 c3 c4 _ (HG2.out.next HB3.out) (SlAt.imp HH.out.par fun _ _ _ _ => PaAt.mono (cw_next HB3.out)) (StrsAt.next (StrC.to HH.out.vars) HB3.out)).mono ?_
    rintro e w6 ⟨rfl, hb6⟩
    rw [← HK.out]
    have HBZ := Lib.hid (HBW.out.trans (hb6.mono HBW.out.size))
    clear hb6
    go_wp2_with fail
    go_ret
    exact ⟨rfl, HBZ.out⟩
end Go.Proofs.Ytghlmengcidmdaa.Tr
