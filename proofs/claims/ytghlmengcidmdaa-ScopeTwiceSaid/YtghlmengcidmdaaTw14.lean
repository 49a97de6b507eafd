/- Parts of PickW, SheetP, SizeW: walks and plain laws that later texts use. Conditions: as each statement says. -/
import Derived.Test.YtghlmengcidmdaaTw0
import Derived.Test.YtghlmengcidmdaaTw1
import Derived.Test.YtghlmengcidmdaaTw2
import Derived.Test.YtghlmengcidmdaaTw3
import Derived.Test.YtghlmengcidmdaaTw4
import Derived.Test.YtghlmengcidmdaaTw5
import Derived.Test.YtghlmengcidmdaaTw6
import Derived.Test.YtghlmengcidmdaaTw7
import Derived.Test.YtghlmengcidmdaaTw8
import Derived.Test.YtghlmengcidmdaaTw9
import Derived.Test.YtghlmengcidmdaaTw10
import Derived.Test.YtghlmengcidmdaaTw11
import Derived.Test.YtghlmengcidmdaaTw12
import Derived.Test.YtghlmengcidmdaaTw13
import Derived.Laws.StructEq
import Derived.Deep.DeepCutAuto
import Derived.Deep.RegionHeld3
import Derived.Deep.QuietTactic
import Derived.BigQuiet
import Derived.Deep.Slices
import Derived.Deep.Fields
import Derived.Lib.SmallJoins
import Derived.SliceStrings
import Derived.ChangeSlices
import Derived.IntWalk
import Derived.Deep.RegionLaw
import Derived.Deep.CutBlock
import Derived.WalkKit
import Derived.Test.YtghlmengcidmdaaRows
import Derived.WalkSpells
import Derived.Lib.Hide
import Derived.Below
import Derived.Laws.BitsAllLaws
import Derived.OwnWalk
import Derived.OneCell
import Derived.Deep.AppendLies
import Derived.Deep.RegionWith
import Derived.Laws.Cover3
import Derived.StillTailTactics
import Derived.RegionTactic
import Derived.Maps.Range
import Derived.Outline
import Derived.Deep.Upon
import Derived.Maps.AppendAt
import Derived.Laws.OwnMore
import Derived.OrdersHeld
import Derived.WalkSmall
section
/- A procedure by its name; what a name stands for in it. Conditions: the program lies in memory. -/
namespace Go.Proofs.Ytghlmengcidmdaa.Tr
open Go.RowKit Go.Proofs.Ytghlmengcidmdaa.Lx Go.Proofs.Ytghlmengcidmdaa.Wd
def PcMade (d : Nat) (r : Option Pc) (w : World) (e : Ending) (w' : World) : Prop := match r with
  | some f => ∃ (a1 a2 a3 a4 : Option Addr) (c1 c2 c3 c4 : Nat), e = .returned (.tuple #[.agg #[.string f.nm, .slice a1 f.params.length c1, .slice a2 f.vars.length c2, .slice a3 f.body.length c3, .slice a4 f.fin.length c4], .bool true]) ∧ HangP d w' f (.slice a1 f.params.length c1) (.slice a2 f.vars.length c2) (.slice a3 f.body.length c3) (.slice a4 f.fin.length c4) ∧ f.nm.size ≤ 9223372036854775807 ∧ Below w.heap.size w w'
  | none => e = .returned (.tuple #[.agg #[.string ⟨#[]⟩, .slice none 0 0, .slice none 0 0, .slice none 0 0, .slice none 0 0], .bool false]) ∧ Below w.heap.size w w'
theorem HangP.of {C : Cs} {d : Nat} {w : World} {f : Pc} {qv vv bv fv : Value} (hle : Cs.le C (cw w)) (h1 : SlAt 2 (PaAt C) qv f.params) (h2 : StrC C vv f.vars) (h3 : StC C d bv f.body) (h4 : StrC C fv f.fin) : HangP d w f qv vv bv fv :=
  ⟨SlAt.imp h1 (fun _ _ _ _ => PaAt.mono hle), StrC.mono hle h2, StC.mono hle h3, StrC.mono hle h4⟩
theorem but_set5 {R : Nat} {w : World} {x0 x1 x2 x3 x4 : Value} : Cs.le (but R w) (cw (((((w.setCell ⟨R, 0, none⟩ x0).setCell ⟨R, 1, none⟩ x1).setCell ⟨R, 2, none⟩ x2).setCell ⟨R, 3, none⟩ x3).setCell ⟨R, 4, none⟩ x4)) := Cs.le_trans (only5 (S := fun g => g ≠ R) (by simp)) only_out
/-- The procedure of a name, of a program that may be. -/
def pcIn (p : Pr) (s : ByteArray) : Option Pc := if mayP p = true then pcOf p.procs s else none
def kindIn (p : Pr) (s nm : ByteArray) : Int := match pcIn p s with
  | some f => kindP p.globals f nm
  | none => 0
set_option maxHeartbeats 4000000 in
set_option maxRecDepth 100000 in
theorem sproc_any (d : Nat) (p : Pr) (gv pv : Value) (s : ByteArray) (w : World) (hp : PrC (cw w) d gv pv p) (hwp : wtPr p ≤ 20000) :
    Calls Try.prog 32 #[.agg #[gv, pv], .string s] w (PcMade d (pcIn p s) w) := by
  obtain ⟨ga, gc, rfl, -, -⟩ := hp.1.form
  obtain ⟨pa, pc, rfl, hl1, hl2⟩ := hp.2.form
  have hpl : p.procs.length ≤ 9223372036854775807 := Nat.le_trans hl1 hl2
  have HP := Lib.hid hp
  clear hp hl1 hl2
  go_enter Try.func32, Try.ntmps32
  go_upto_region 1 with fail
  refine cut_world (fun wx => Below w.heap.size w wx ∧ wx.heap.size = w.heap.size + 1 + 1 ∧ BoxAt wx w.heap.size [.slice ga p.globals.length gc, .slice pa p.procs.length pc] ∧ BoxAt wx (w.heap.size + 1) [.string ⟨#[]⟩, .slice none 0 0, .slice none 0 0, .slice none 0 0, .slice none 0 0] ∧ Free wx (w.heap.size + 1)) ⟨(boxed w _).alloc (by simp) _, by simp, (box_new w #[.slice ga p.globals.length gc, .slice pa p.procs.length pc] 25).next (boxed _ _), box_two w _ #[.string ⟨#[]⟩, .slice none 0 0, .slice none 0 0, .slice none 0 0, .slice none 0 0] 55, free_two w _ _ _⟩ ?_
  rintro w1 ⟨hb1, hz1, hx1, hr1, hf1⟩
  obtain ⟨R, hR⟩ : ∃ R, R = w.heap.size + 1 := ⟨_, rfl⟩
  rw [← hR] at hr1 hf1
  try rw [← hR]
  have hRw : w.heap.size < R := by omega
  have hR1 : R < w1.heap.size := by omega
  have HB1 := Lib.hid hb1
  have HX1 := Lib.hid hx1
  have HR1 := Lib.hid hr1
  have HF1 := Lib.hid hf1
  have HBP1 : Hid (PrC (but R w1) d (.slice ga p.globals.length gc) (.slice pa p.procs.length pc) p) := Lib.hid (PrC.mono (fun g j u h => ⟨by have := cell_lt h; omega, cw_next hb1 _ _ _ h⟩) HP.out)
  clear hb1 hx1 hr1 hf1 hz1 hR
  have x0 := HX1.out 0 _ rfl
  have x1 := HX1.out 1 _ rfl
  go_wp2_with fail
  refine (mayP_any d p _ _ _ (PrC.mono only_out HBP1.out)).mono ?_
  rintro e w2 ⟨rfl, hb2⟩
  obtain ⟨m1, hm1⟩ : ∃ m, Hid (mayP p = m) := ⟨_, Lib.hid rfl⟩
  rw [hm1.out]
  have HB2 := Lib.hid (HB1.out.trans (hb2.mono HB1.out.size))
  have HX2 := Lib.hid (HX1.out.next hb2)
  have HR2 := Lib.hid (HR1.out.next hb2)
  have HF2 := Lib.hid (HF1.out.next hR1 hb2)
  have hR2 : R < w2.heap.size := cell_lt (HR2.out 0 _ rfl)
  have HP2 := Lib.hid (PrC.mono (Cs.le_trans only_out (cw_next hb2)) HBP1.out)
  clear hb2 x0 x1
  cases m1 with
  | false =>
    have r0 := HR2.out 0 _ rfl
    have r1 := HR2.out 1 _ rfl
    have r2 := HR2.out 2 _ rfl
    have r3 := HR2.out 3 _ rfl
    have r4 := HR2.out 4 _ rfl
    have f0 := HF2.out 0
    have f1 := HF2.out 1
    have f2 := HF2.out 2
    have f3 := HF2.out 3
    have f4 := HF2.out 4
    go_wp2_with fail
    have hq := box5 (x0 := .string ⟨#[]⟩) (x1 := .slice none 0 0) (x2 := .slice none 0 0) (x3 := .slice none 0 0) (x4 := .slice none 0 0) HR2.out
    have q0 := hq 0 _ rfl
    have q1 := hq 1 _ rfl
    have q2 := hq 2 _ rfl
    have q3 := hq 3 _ rfl
    have q4 := hq 4 _ rfl
    refine bodyPost_ret (v := .tuple #[.agg #[.string ⟨#[]⟩, .slice none 0 0, .slice none 0 0, .slice none 0 0, .slice none 0 0], .bool false]) (by simp [results, Try.results32, go_sem, q0, q1, q2, q3, q4]) rfl ?_
    rw [show (pcIn p s) = none from by unfold pcIn; rw [if_neg (by rw [hm1.out]; decide)]]
    exact ⟨rfl, below5 HB2.out (by omega)⟩
  | true =>
    have x0 := HX2.out 0 _ rfl
    have x1 := HX2.out 1 _ rfl
    go_wp2_with fail
    refine ((number_row d p _ _ _ HP2.out hwp).mono fun _ _ h => h.made).mono ?_
    rw [num_same hm1.out]
    rintro e w3 ⟨gv3, pv3, rfl, hp3, hb3⟩
    obtain ⟨gn, gnc, rfl, -, -⟩ := hp3.1.form
    obtain ⟨pn, pnc, rfl, hn1, hn2⟩ := hp3.2.form
    have HP3 := Lib.hid hp3
    have HB3 := Lib.hid (HB2.out.trans (hb3.mono HB2.out.size))
    have HR3 := Lib.hid (HR2.out.next hb3)
    have HF3 := Lib.hid (HF2.out.next hR2 hb3)
    have hs3 := hb3.size
    clear hb3 hp3 x0 x1 hn1 hn2
    go_upto_region 4 with fail
    refine cut_world (fun wx => Below w3.heap.size w3 wx ∧ BoxAt wx w3.heap.size [.slice gn p.globals.length gnc, .slice pn p.procs.length pnc]) ⟨boxed w3 _, box_new w3 #[.slice gn p.globals.length gnc, .slice pn p.procs.length pnc] 25⟩ ?_
    rintro w4 ⟨hb4, hx4⟩
    have HX4 := Lib.hid hx4
    have HB4 := Lib.hid (HB3.out.trans (hb4.mono HB3.out.size))
    have HR4 := Lib.hid (HR3.out.next hb4)
    have HF4 := Lib.hid (HF3.out.next (by omega) hb4)
    have HBP4 : Hid (PrC (but R w4) d (.slice gn p.globals.length gnc) (.slice pn p.procs.length pnc) p) := Lib.hid (PrC.mono (fun g j u h => ⟨by have := h.1; omega, cw_next hb4 _ _ _ h.2⟩) HP3.out)
    clear hb4 hx4
    have x1 := HX4.out 1 _ rfl
    go_wp2_with fail
    clear x1
    go_loopw [18] (fun i wr => ∃ k : Nat, k ≤ p.procs.length ∧ i = .int .i64 k ∧ (∀ j (hj : j < p.procs.length), j < k → (p.procs[j].nm.toList == s.toList) = false) ∧ Below w4.heap.size w4 wr) (fun i _ => (p.procs.length - intOf i).toNat)
    case atStart => exact ⟨0, by omega, rfl, fun j _ h => absurd h (by omega), Below.refl _ _⟩
    case round =>
      obtain ⟨k, hk, rfl, hno, hbr⟩ := hrel
      obtain ⟨wq, hwq⟩ : ∃ x : World, x = wr := ⟨_, rfl⟩
      subst hwq
      have HNO := Lib.hid hno
      have HBR := Lib.hid hbr
      have HPQ := Lib.hid (PrC.mono (but_next hbr) HBP4.out)
      have HRQ := Lib.hid (HR4.out.next hbr)
      have HFQ := Lib.hid (HF4.out.next (cell_lt (HR4.out 0 _ rfl)) hbr)
      have HBQ := Lib.hid (HB4.out.trans (hbr.mono HB4.out.size))
      have hRq : R < wq.heap.size := cell_lt (HRQ.out 0 _ rfl)
      clear hno hbr
      by_cases hlt : k < p.procs.length
      · have hlt' : (k : Int) < (p.procs.length : Int) := by omega
        have h0k : (0 : Int) ≤ (k : Int) := by omega
        have hne : p.procs ≠ [] := by intro h; rw [h] at hlt; simp at hlt
        obtain ⟨g, off, cap', hv, _, hcells⟩ := SlAt.cells HPQ.out.2 hne
        simp only [Value.slice.injEq] at hv
        obtain ⟨rfl, -, rfl⟩ := hv
        obtain ⟨pv, vv, bv, fv, p0, p1, p2, p3, p4, hnm, hps, hvs, hbody, hfin⟩ := hcells k hlt
        have hfa := fun h => fst_at hlt (f := fun f : Pc => f.nm.toList == s.toList) (fun j hj hjk => HNO.out j hj hjk) h
        obtain ⟨f, hf⟩ : ∃ f, Hid (p.procs[k] = f) := ⟨_, Lib.hid rfl⟩
        rw [hf.out] at p0 hnm hps hvs hbody hfin hfa
        obtain ⟨a1, c1, rfl, -, -⟩ := hps.form
        obtain ⟨a2, c2, rfl, -, -⟩ := hvs.form
        obtain ⟨a3, c3, rfl, -, -⟩ := hbody.form
        obtain ⟨a4, c4, rfl, -, -⟩ := hfin.form
        have e0 : wq.cell? ⟨g, off + k * 5, none⟩ = _ := p0.2
        have e1 : wq.cell? ⟨g, off + k * 5 + 1, none⟩ = _ := p1.2
        have e2 : wq.cell? ⟨g, off + k * 5 + 2, none⟩ = _ := p2.2
        have e3 : wq.cell? ⟨g, off + k * 5 + 3, none⟩ = _ := p3.2
        have e4 : wq.cell? ⟨g, off + k * 5 + 4, none⟩ = _ := p4.2
        have HNM := Lib.hid hnm
        have HH1 := Lib.hid hps
        have HH2 := Lib.hid hvs
        have HH3 := Lib.hid hbody
        have HH4 := Lib.hid hfin
        have HFA := Lib.hid hfa
        clear hcells hne p0 p1 p2 p3 p4 hnm hps hvs hbody hfin hfa
        go_upto_region 7 with fail
        refine cut_world (fun wx => Below wq.heap.size wq wx ∧ BoxAt wx wq.heap.size [.string f.nm, .slice a1 f.params.length c1, .slice a2 f.vars.length c2, .slice a3 f.body.length c3, .slice a4 f.fin.length c4]) ⟨boxed wq _, box_new wq #[.string f.nm, .slice a1 f.params.length c1, .slice a2 f.vars.length c2, .slice a3 f.body.length c3, .slice a4 f.fin.length c4] 55⟩ ?_
        clear e0 e1 e2 e3 e4
        rintro w5 ⟨hb5, hx5⟩
        have HB5 := Lib.hid hb5
        have x0 := hx5 0 _ rfl
        have x1 := hx5 1 _ rfl
        have x2 := hx5 2 _ rfl
        have x3 := hx5 3 _ rfl
        have x4 := hx5 4 _ rfl
        have HR5 := Lib.hid (HRQ.out.next hb5)
        have HF5 := Lib.hid (HFQ.out.next hRq hb5)
        have HBW5 := Lib.hid (HBQ.out.trans (hb5.mono HBQ.out.size))
        clear hb5 hx5
        cases hc : (f.nm.toList == s.toList) with
        | true =>
          have hfa := HFA.out hc
          have HFA2 := Lib.hid hfa
          clear hfa
          have r0 := HR5.out 0 _ rfl
          have r1 := HR5.out 1 _ rfl
          have r2 := HR5.out 2 _ rfl
          have r3 := HR5.out 3 _ rfl
          have r4 := HR5.out 4 _ rfl
          have f0 := HF5.out 0
          have f1 := HF5.out 1
          have f2 := HF5.out 2
          have f3 := HF5.out 3
          have f4 := HF5.out 4
          go_wp2_with fail
          have hq := box5 (x0 := .string f.nm) (x1 := .slice a1 f.params.length c1) (x2 := .slice a2 f.vars.length c2) (x3 := .slice a3 f.body.length c3) (x4 := .slice a4 f.fin.length c4) HR5.out
          have q0 := hq 0 _ rfl
          have q1 := hq 1 _ rfl
          have q2 := hq 2 _ rfl
          have q3 := hq 3 _ rfl
          have q4 := hq 4 _ rfl
          refine bodyPost_ret (v := .tuple #[.agg #[.string f.nm, .slice a1 f.params.length c1, .slice a2 f.vars.length c2, .slice a3 f.body.length c3, .slice a4 f.fin.length c4], .bool true]) (by simp [results, Try.results32, go_sem, q0, q1, q2, q3, q4]) rfl ?_
          rw [show (pcIn p s) = some f from by unfold pcIn; rw [if_pos hm1.out]; exact HFA2.out]
          have hle : Cs.le (but R wq) _ := Cs.le_trans (but_next HB5.out) (but_set5 (x0 := .string f.nm) (x1 := .slice a1 f.params.length c1) (x2 := .slice a2 f.vars.length c2) (x3 := .slice a3 f.body.length c3) (x4 := .slice a4 f.fin.length c4))
          exact ⟨a1, a2, a3, a4, c1, c2, c3, c4, rfl, HangP.of hle HH1.out HH2.out HH3.out HH4.out, HNM.out, below5 HBW5.out (by omega)⟩
        | false =>
          have HC := Lib.hid hc
          go_wp2_with fail
          go_roundw
          case rel =>
            refine ⟨k + 1, by omega, by go_num, fun j hj hjk => ?_, HBR.out.trans (HB5.out.mono HBR.out.size)⟩
            rcases Nat.lt_or_ge j k with h | h
            · exact HNO.out j hj h
            · obtain rfl : j = k := by omega
              rw [hf.out]; exact HC.out
          case measure => simp [intOf]; omega
      · have hlt' : ¬ (k : Int) < (p.procs.length : Int) := by omega
        have hfn : p.procs.find? (fun f : Pc => f.nm.toList == s.toList) = none := fst_no fun j hj => HNO.out j hj (by omega)
        have HNON := Lib.hid hfn
        clear hfn
        have r0 := HRQ.out 0 _ rfl
        have r1 := HRQ.out 1 _ rfl
        have r2 := HRQ.out 2 _ rfl
        have r3 := HRQ.out 3 _ rfl
        have r4 := HRQ.out 4 _ rfl
        have f0 := HFQ.out 0
        have f1 := HFQ.out 1
        have f2 := HFQ.out 2
        have f3 := HFQ.out 3
        have f4 := HFQ.out 4
        go_wp2_with fail
        have hq := box5 (x0 := .string ⟨#[]⟩) (x1 := .slice none 0 0) (x2 := .slice none 0 0) (x3 := .slice none 0 0) (x4 := .slice none 0 0) HRQ.out
        have q0 := hq 0 _ rfl
        have q1 := hq 1 _ rfl
        have q2 := hq 2 _ rfl
        have q3 := hq 3 _ rfl
        have q4 := hq 4 _ rfl
        refine bodyPost_ret (v := .tuple #[.agg #[.string ⟨#[]⟩, .slice none 0 0, .slice none 0 0, .slice none 0 0, .slice none 0 0], .bool false]) (by simp [results, Try.results32, go_sem, q0, q1, q2, q3, q4]) rfl ?_
        rw [show (pcIn p s) = none from by unfold pcIn; rw [if_pos hm1.out]; exact HNON.out]
        exact ⟨rfl, below5 HBQ.out (by omega)⟩
set_option maxHeartbeats 4000000 in
set_option maxRecDepth 100000 in
theorem skind_any (d : Nat) (p : Pr) (gv pv : Value) (s nm : ByteArray) (w : World) (hp : PrC (cw w) d gv pv p) :
    Calls Try.prog 31 #[.agg #[gv, pv], .string s, .string nm] w fun e w' => e = .returned (.int .i64 (kindIn p s nm)) ∧ Below w.heap.size w w' := by
  obtain ⟨ga, gc, rfl, -, -⟩ := hp.1.form
  obtain ⟨pa, pc, rfl, hl1, hl2⟩ := hp.2.form
  have hpl : p.procs.length ≤ 9223372036854775807 := Nat.le_trans hl1 hl2
  have HP := Lib.hid hp
  clear hp hl1 hl2
  obtain ⟨KK, hKK⟩ : ∃ n, Hid (kindIn p s nm = n) := ⟨_, Lib.hid rfl⟩
  rw [hKK.out]
  go_enter Try.func31, Try.ntmps31
  go_upto_region 1 with fail
  refine cut_world (fun wx => Below w.heap.size w wx ∧ BoxAt wx w.heap.size [.slice ga p.globals.length gc, .slice pa p.procs.length pc]) ⟨boxed w _, box_new w #[.slice ga p.globals.length gc, .slice pa p.procs.length pc] 25⟩ ?_
  rintro w1 ⟨hb1, hx1⟩
  have HB1 := Lib.hid hb1
  have HX1 := Lib.hid hx1
  have HP1 := Lib.hid (PrC.mono (cw_next hb1) HP.out)
  have x0 := hx1 0 _ rfl
  have x1 := hx1 1 _ rfl
  clear hb1 hx1
  go_wp2_with fail
  refine (mayP_any d p _ _ _ HP1.out).mono ?_
  rintro e w2 ⟨rfl, hb2⟩
  obtain ⟨m1, hm1⟩ : ∃ m, Hid (mayP p = m) := ⟨_, Lib.hid rfl⟩
  rw [hm1.out]
  have HB2 := Lib.hid (HB1.out.trans (hb2.mono HB1.out.size))
  have HX2 := Lib.hid (HX1.out.next hb2)
  have HP2 := Lib.hid (PrC.mono (cw_next hb2) HP1.out)
  clear hb2 x0 x1
  cases m1 with
  | false =>
    go_wp2_with fail
    go_ret
    exact ⟨by rw [← hKK.out]; unfold kindIn pcIn; rw [if_neg (by rw [hm1.out]; decide)]; rfl, HB2.out⟩
  | true =>
    have x1 := HX2.out 1 _ rfl
    go_wp2_with fail
    clear x1
    go_loopw [15] (fun i wr => ∃ k : Nat, k ≤ p.procs.length ∧ i = .int .i64 k ∧ (∀ j (hj : j < p.procs.length), j < k → (p.procs[j].nm.toList == s.toList) = false) ∧ Below w2.heap.size w2 wr) (fun i _ => (p.procs.length - intOf i).toNat)
    case atStart => exact ⟨0, by omega, rfl, fun j _ h => absurd h (by omega), Below.refl _ _⟩
    case round =>
      obtain ⟨k, hk, rfl, hno, hbr⟩ := hrel
      obtain ⟨wq, hwq⟩ : ∃ x : World, x = wr := ⟨_, rfl⟩
      subst hwq
      have HNO := Lib.hid hno
      have HBR := Lib.hid hbr
      have HPQ := Lib.hid (PrC.mono (cw_next hbr) HP2.out)
      have HBQ := Lib.hid (HB2.out.trans (hbr.mono HB2.out.size))
      clear hno hbr
      by_cases hlt : k < p.procs.length
      · have hlt' : (k : Int) < (p.procs.length : Int) := by omega
        have h0k : (0 : Int) ≤ (k : Int) := by omega
        have hne : p.procs ≠ [] := by intro h; rw [h] at hlt; simp at hlt
        obtain ⟨g, off, cap', hv, _, hcells⟩ := SlAt.cells HPQ.out.2 hne
        simp only [Value.slice.injEq] at hv
        obtain ⟨rfl, -, rfl⟩ := hv
        obtain ⟨pv, vv, bv, fv, p0, p1, p2, p3, p4, hnm, hps, hvs, hbody, hfin⟩ := hcells k hlt
        have hfa := fun h => fst_at hlt (f := fun f : Pc => f.nm.toList == s.toList) (fun j hj hjk => HNO.out j hj hjk) h
        obtain ⟨f, hf⟩ : ∃ f, Hid (p.procs[k] = f) := ⟨_, Lib.hid rfl⟩
        rw [hf.out] at p0 hnm hps hvs hbody hfin hfa
        obtain ⟨a1, c1, rfl, -, -⟩ := hps.form
        obtain ⟨a2, c2, rfl, -, -⟩ := hvs.form
        obtain ⟨a3, c3, rfl, -, -⟩ := hbody.form
        obtain ⟨a4, c4, rfl, -, -⟩ := hfin.form
        have e0 : wq.cell? ⟨g, off + k * 5, none⟩ = _ := p0
        have e1 : wq.cell? ⟨g, off + k * 5 + 1, none⟩ = _ := p1
        have e2 : wq.cell? ⟨g, off + k * 5 + 2, none⟩ = _ := p2
        have e3 : wq.cell? ⟨g, off + k * 5 + 3, none⟩ = _ := p3
        have e4 : wq.cell? ⟨g, off + k * 5 + 4, none⟩ = _ := p4
        have HNM := Lib.hid hnm
        have HH1 := Lib.hid hps
        have HH2 := Lib.hid hvs
        have HH3 := Lib.hid hbody
        have HH4 := Lib.hid hfin
        have HFA := Lib.hid hfa
        clear hcells hne p0 p1 p2 p3 p4 hnm hps hvs hbody hfin hfa
        go_upto_region 6 with fail
        refine cut_world (fun wx => Below wq.heap.size wq wx ∧ BoxAt wx wq.heap.size [.string f.nm, .slice a1 f.params.length c1, .slice a2 f.vars.length c2, .slice a3 f.body.length c3, .slice a4 f.fin.length c4]) ⟨boxed wq _, box_new wq #[.string f.nm, .slice a1 f.params.length c1, .slice a2 f.vars.length c2, .slice a3 f.body.length c3, .slice a4 f.fin.length c4] 55⟩ ?_
        clear e0 e1 e2 e3 e4
        rintro w5 ⟨hb5, hx5⟩
        have HB5 := Lib.hid hb5
        have x0 := hx5 0 _ rfl
        have x1 := hx5 1 _ rfl
        have x2 := hx5 2 _ rfl
        have x3 := hx5 3 _ rfl
        have x4 := hx5 4 _ rfl
        have HBW5 := Lib.hid (HBQ.out.trans (hb5.mono HBQ.out.size))
        clear hb5 hx5
        cases hc : (f.nm.toList == s.toList) with
        | true =>
          have hfa := HFA.out hc
          have hk : KK = kindP p.globals f nm := by
            rw [← hKK.out]
            unfold kindIn pcIn pcOf
            rw [if_pos hm1.out, hfa]
          have HK := Lib.hid hk
          clear hfa hk
          have y0 := (HX2.out.next HBR.out).next HB5.out 0 _ rfl
          have y1 := (HX2.out.next HBR.out).next HB5.out 1 _ rfl
          go_wp2_with fail
          refine (kind_any p.globals f nm _ _ a1 a2 a3 a4 c1 c2 c3 c4 _ (StrsAt.next (StrsAt.next (StrC.to HP2.out.1) HBR.out) HB5.out) (SlAt.imp HH1.out fun _ _ _ _ => PaAt.mono (cw_next HB5.out)) (StrsAt.next (StrC.to HH2.out) HB5.out)).mono ?_
          rintro e w6 ⟨rfl, hb6⟩
          rw [← HK.out]
          have HBZ := Lib.hid (HBW5.out.trans (hb6.mono HBW5.out.size))
          clear hb6
          go_wp2_with fail
          go_ret
          exact ⟨rfl, HBZ.out⟩
        | false =>
          have HC := Lib.hid hc
          go_wp2_with fail
          go_roundw
          case rel =>
            refine ⟨k + 1, by omega, by go_num, fun j hj hjk => ?_, HBR.out.trans (HB5.out.mono HBR.out.size)⟩
            rcases Nat.lt_or_ge j k with h | h
            · exact HNO.out j hj h
            · obtain rfl : j = k := by omega
              rw [hf.out]; exact HC.out
          case measure => simp [intOf]; omega
      · have hlt' : ¬ (k : Int) < (p.procs.length : Int) := by omega
        have hfn : p.procs.find? (fun f : Pc => f.nm.toList == s.toList) = none := fst_no fun j hj => HNO.out j hj (by omega)
        have HNON := Lib.hid hfn
        clear hfn
        go_wp2_with fail
        go_ret
        refine ⟨?_, HBQ.out⟩
        rw [← hKK.out]
        unfold kindIn pcIn pcOf
        rw [if_pos hm1.out, HNON.out]
        rfl
end Go.Proofs.Ytghlmengcidmdaa.Tr
end
section
/- A program laid flat: its items, their row in memory. Conditions: none. -/
namespace Go.Proofs.Ytghlmengcidmdaa.Tr
open Go.RowKit Go.Proofs.Ytghlmengcidmdaa.Lx Go.Proofs.Ytghlmengcidmdaa.Wd
/-- A statement, its procedure, in whom it stands, what is behind it, its loop. -/
structure Fi where
  s : St
  proc : Int
  up : Int
  next : Int
  loop : Int
structure Ar5 where
  proc : Int
  up : Int
  next : Int
  loop : Int
def itemOf (s : St) (a : Ar5) (nx : Int) : Fi := ⟨s, a.proc, a.up, nx, a.loop⟩
/-- What is around those that stand in a statement of that id and kind. -/
def inside (k id nx : Int) (a : Ar5) : Ar5 := ⟨a.proc, id, if k = 6 then id else nx, if k = 6 then id else a.loop⟩
mutual
def shS : St → Ar5 → Bool → List Fi → List Fi
  | .mk i k ls nm pr x h ar th el, a, last, out =>
    shL el (inside k (out.length + 1) (if last then a.next else out.length + 1 + (1 + cntL th + cntL el : Nat)) a)
      (shL th (inside k (out.length + 1) (if last then a.next else out.length + 1 + (1 + cntL th + cntL el : Nat)) a)
        (out ++ [itemOf (.mk i k ls nm pr x h ar th el) a (if last then a.next else out.length + 1 + (1 + cntL th + cntL el : Nat))]))
def shL : List St → Ar5 → List Fi → List Fi
  | [], _, out => out
  | s :: r, a, out => shL r a (shS s a r.isEmpty out)
end
/-- What is behind a statement. -/
def nextOf (s : St) (a : Ar5) (last : Bool) (n : Nat) : Int := if last then a.next else n + 1 + (cntS s : Nat)
theorem shS_eq (s : St) (a : Ar5) (last : Bool) (out : List Fi) : shS s a last out = shL s.els (inside s.kind (out.length + 1) (nextOf s a last out.length) a) (shL s.thn (inside s.kind (out.length + 1) (nextOf s a last out.length) a) (out ++ [itemOf s a (nextOf s a last out.length)])) := by
  cases s
  rw [shS]
  unfold nextOf
  rw [cntS]
  rfl
mutual
theorem shS_len : ∀ (s : St) (a : Ar5) (last : Bool) (out : List Fi), (shS s a last out).length = out.length + cntS s
  | .mk i k ls nm pr x h ar th el, a, last, out => by
    rw [shS, shL_len el, shL_len th, List.length_append, cntS]
    simp only [List.length_singleton]
    omega
theorem shL_len : ∀ (l : List St) (a : Ar5) (out : List Fi), (shL l a out).length = out.length + cntL l
  | [], a, out => by rw [shL, cntL]; rfl
  | s :: r, a, out => by rw [shL, shL_len r, shS_len s, cntL]; omega
end
/-- A row's first so many laid: the last one is not the row's last. -/
def shT (l : List St) (a : Ar5) : Nat → List Fi → List Fi
  | 0, out => out
  | k + 1, out => match l with
    | [] => out
    | s :: r => shT r a k (shS s a r.isEmpty out)
theorem shT_succ : ∀ (l : List St) (a : Ar5) (k : Nat) (h : k < l.length) (out : List Fi), shT l a (k + 1) out = shS l[k] a (decide (k + 1 = l.length)) (shT l a k out) := by
  intro l
  induction l with
  | nil => intro a k h; exact absurd h (by simp)
  | cons s r ih =>
    intro a k h out
    cases k with
    | zero =>
      simp only [shT]
      congr 1
      cases r with
      | nil => rfl
      | cons t r' => simp
    | succ k =>
      have h' : k < r.length := by simpa using h
      rw [shT, ih a k h', shT]
      simp only [List.getElem_cons_succ, List.length_cons, Nat.add_right_cancel_iff]
theorem shT_all : ∀ (l : List St) (a : Ar5) (out : List Fi), shT l a l.length out = shL l a out := by
  intro l
  induction l with
  | nil => intro a out; rw [shL]; rfl
  | cons s r ih => intro a out; rw [List.length_cons, shT, ih, shL]
theorem shT_len : ∀ (l : List St) (a : Ar5) (k : Nat) (out : List Fi), (shT l a k out).length = out.length + cntL (l.take k) := by
  intro l
  induction l with
  | nil => intro a k out; cases k <;> simp [shT, cntL]
  | cons s r ih =>
    intro a k out
    cases k with
    | zero => simp [shT, cntL]
    | succ k => rw [shT, ih, shS_len, List.take_succ_cons, cntL]; omega
/-- A program's sheet: its items, and where each procedure's begin and end. -/
def sheetPs : List Pc → Nat → List Fi → List Fi
  | [], _, out => out
  | f :: r, i, out => sheetPs r (i + 1) (shL f.body ⟨i, 0, -1, 0⟩ out)
def sheetOf (p : Pr) : List Fi := sheetPs p.procs 0 []
theorem sheetPs_append : ∀ (l m : List Pc) (i : Nat) (out : List Fi), sheetPs (l ++ m) i out = sheetPs m (i + l.length) (sheetPs l i out) := by
  intro l
  induction l with
  | nil => intro m i out; rfl
  | cons f r ih =>
    intro m i out
    rw [List.cons_append, sheetPs, ih, sheetPs, List.length_cons]
    congr 1
    omega
theorem sheet_take (p : Pr) {k : Nat} (h : k < p.procs.length) : sheetPs (p.procs.take (k + 1)) 0 [] = shL p.procs[k].body ⟨k, 0, -1, 0⟩ (sheetPs (p.procs.take k) 0 []) := by
  rw [List.take_succ_eq_append_getElem h, sheetPs_append]
  have e : 0 + (p.procs.take k).length = k := by rw [List.length_take]; omega
  rw [e]
  simp only [sheetPs]
theorem sheetPs_len : ∀ (l : List Pc) (i : Nat) (out : List Fi), (sheetPs l i out).length = out.length + cntP l := by
  intro l
  induction l with
  | nil => intro i out; simp [sheetPs, cntP]
  | cons f r ih => intro i out; rw [sheetPs, ih, shL_len]; unfold cntP; simp; omega
def losOf (l : List Pc) : Nat → List Int
  | 0 => []
  | k + 1 => losOf l k ++ [(cntP (l.take k) : Int) + 1]
def hisOf (l : List Pc) : Nat → List Int
  | 0 => []
  | k + 1 => hisOf l k ++ [(cntP (l.take (k + 1)) : Int) + 1]
theorem los_len (l : List Pc) : ∀ k, (losOf l k).length = k := by
  intro k
  induction k with
  | zero => rfl
  | succ k ih => rw [losOf, List.length_append, ih]; rfl
theorem his_len (l : List Pc) : ∀ k, (hisOf l k).length = k := by
  intro k
  induction k with
  | zero => rfl
  | succ k ih => rw [hisOf, List.length_append, ih]; rfl
theorem los_at (l : List Pc) : ∀ (k i : Nat) (h : i < (losOf l k).length), (losOf l k)[i] = (cntP (l.take i) : Int) + 1 := by
  intro k
  induction k with
  | zero => intro i h; exact absurd h (by simp [losOf])
  | succ k ih =>
    intro i h
    simp only [losOf, List.getElem_append]
    by_cases hi : i < (losOf l k).length
    · rw [dif_pos hi]; exact ih i hi
    · rw [dif_neg hi]
      have h1 := los_len l k
      have h2 := los_len l (k + 1)
      have : i = k := by omega
      subst this
      simp
theorem his_at (l : List Pc) : ∀ (k i : Nat) (h : i < (hisOf l k).length), (hisOf l k)[i] = (cntP (l.take (i + 1)) : Int) + 1 := by
  intro k
  induction k with
  | zero => intro i h; exact absurd h (by simp [hisOf])
  | succ k ih =>
    intro i h
    simp only [hisOf, List.getElem_append]
    by_cases hi : i < (hisOf l k).length
    · rw [dif_pos hi]; exact ih i hi
    · rw [dif_neg hi]
      have h1 := his_len l k
      have h2 := his_len l (k + 1)
      have : i = k := by omega
      subst this
      simp
def fiCells (i : Fi) (kv lv av tv ev : Value) : List Value := stCells i.s kv lv av tv ev ++ [.int .i64 i.proc, .int .i64 i.up, .int .i64 i.next, .int .i64 i.loop]
/-- A row of such items: what hangs on them lies below. -/
def FiQ (d : Nat) (C : Cs) (c : List Value) (i : Fi) : Prop := ∃ kv lv av tv ev, c = fiCells i kv lv av tv ev ∧ OkE i.s.x ∧ ExC C d kv i.s.x.ks ∧ InI i.s.id ∧ InI i.s.kind ∧ i.s.nm.size ≤ 9223372036854775807 ∧ i.s.proc.size ≤ 9223372036854775807 ∧
    StrC C lv i.s.labels ∧ SlAt 6 (ArAt C d) av i.s.args ∧ StC C d tv i.s.thn ∧ StC C d ev i.s.els ∧ InI i.proc ∧ InI i.up ∧ InI i.next ∧ InI i.loop
theorem FiQ.mono {C D : Cs} (h : Cs.le C D) {d : Nat} {c : List Value} {i : Fi} (q : FiQ d C c i) : FiQ d D c i := by
  obtain ⟨kv, lv, av, tv, ev, h1, h2, h3, h4, h5, h6, h7, h8, h9, h10, h11, h12, h13⟩ := q
  exact ⟨kv, lv, av, tv, ev, h1, h2, ExC.mono h h3, h4, h5, h6, h7, StrC.mono h h8, SlAt.imp h9 (fun _ _ _ _ => ArAt.mono h), StC.mono h h10, StC.mono h h11, h12, h13⟩
structure RowF (B d : Nat) (w : World) (v : Value) (l : List Fi) (rows : List (List Value)) : Prop where
  len : rows.length = l.length
  own : w.ownsRow B 95 17 v l.length rows.flatten
  wide : ∀ r ∈ rows, r.length = 17
  each : ∀ i (h : i < l.length) (h' : i < rows.length), FiQ d (lowC B w) rows[i] l[i]
theorem RowF.nil (B d : Nat) (w : World) : RowF B d w (.slice none 0 0) [] [] := ⟨rfl, World.ownsRow_nil _ _ _ _, fun r h => (by cases h), fun i h => (by cases h)⟩
theorem RowF.next {B d : Nat} {w w' : World} {v : Value} {l : List Fi} {rows : List (List Value)} (h : RowF B d w v l rows) (hb : Below w.heap.size w w') : RowF B d w' v l rows :=
  ⟨h.len, ownsBelow h.own hb, h.wide, fun i h1 h2 => FiQ.mono (low_next hb) (h.each i h1 h2)⟩
theorem RowF.more {B d : Nat} {w w3 w4 : World} {v v4 : Value} {l : List Fi} {rows : List (List Value)} {c : List Value} {x : Fi} (h : RowF B d w v l rows) (hb : Below w.heap.size w w3) (hg : w3.grownBy w4 v.ownBlock)
    (hx : FiQ d (lowC B w) c x) (hown : w4.ownsRow B 95 17 v4 (l.length + 1) (rows.flatten ++ c)) : RowF B d w4 v4 (l ++ [x]) (rows ++ [c]) := by
  have hlen := h.len
  have le : Cs.le (lowC B w) (lowC B w4) := Cs.le_trans (low_next hb) (low_grown hg fun g hg => (h.own.lt g hg).1)
  refine ⟨by simp [hlen], by simpa using hown, fun r hr => ?_, fun i h1 h2 => ?_⟩
  · rcases List.mem_append.1 hr with hr | hr
    · exact h.wide r hr
    · simp at hr
      rw [hr]
      obtain ⟨kv, lv, av, tv, ev, h1, -⟩ := hx
      rw [h1]; rfl
  · simp only [List.getElem_append]
    simp at h1 h2
    by_cases hi : i < l.length
    · rw [dif_pos hi, dif_pos (by omega)]
      exact FiQ.mono le (h.each i hi (by omega))
    · rw [dif_neg hi, dif_neg (by omega)]
      have e1 : i - l.length = 0 := by omega
      have e2 : i - rows.length = 0 := by omega
      simp only [e1, e2, List.getElem_cons_zero]
      exact FiQ.mono le hx
theorem infoFi : (Try.prog.info? 95).map (fun i => (i.zero, i.size, i.bytes)) = some (some (.agg #[.int .i64 0, .int .i64 0, .slice none 0 0, .string ⟨#[]⟩, .string ⟨#[]⟩, .int .i64 0, .int .i64 0, .string ⟨#[]⟩, .slice none 0 0, .bool false, .slice none 0 0, .slice none 0 0, .slice none 0 0, .int .i64 0, .int .i64 0, .int .i64 0, .int .i64 0]), 17, 240) := by kernel_rfl
def FiAt (C : Cs) (d : Nat) (g o : Nat) (i : Fi) : Prop := StAt C d (StC C d) g o i.s ∧ C g (o + 13) (.int .i64 i.proc) ∧ C g (o + 14) (.int .i64 i.up) ∧ C g (o + 15) (.int .i64 i.next) ∧ C g (o + 16) (.int .i64 i.loop) ∧ InI i.proc ∧ InI i.up ∧ InI i.next ∧ InI i.loop
theorem FiAt.mono {C D : Cs} (h : Cs.le C D) {d g o : Nat} {i : Fi} (q : FiAt C d g o i) : FiAt D d g o i := ⟨StAt.mono h (fun _ _ => StC.mono h) q.1, h _ _ _ q.2.1, h _ _ _ q.2.2.1, h _ _ _ q.2.2.2.1, h _ _ _ q.2.2.2.2.1, q.2.2.2.2.2⟩
theorem RowF.sl {B d : Nat} {w : World} {v : Value} {l : List Fi} {rows : List (List Value)} (h : RowF B d w v l rows) : SlAt 17 (FiAt (cw w) d) v l := by
  have hlen := h.len
  have hown := h.own
  rcases h.own.2 with ⟨hv, hn⟩ | ⟨g, cap, cur, hv, h1, h2, h3, h4, h5, h6⟩
  · have : l = [] := List.eq_nil_of_length_eq_zero hn
    subst this
    rw [hv]
    exact SlAt.nil
  · refine ⟨_, cap, hv, h3, h4, fun hne => ⟨g, 0, rfl, fun i hi => ?_⟩⟩
    obtain ⟨kv, lv, av, tv, ev, hc, k1, k2, k3, k4, k5, k6, k7, k8, k9, k10, k11, k12, k13, k14⟩ := FiQ.mono (D := cw w) (fun _ _ _ h => h.2) (h.each i hi (by omega))
    have at_ : ∀ j u, (fiCells l[i] kv lv av tv ev)[j]? = some u → cw w g (0 + i * 17 + j) u := fun j u hu => by
      have := hown.cells (g := g) (by rw [hv]; rfl) (i * 17 + j) u (flat_get rows i j u h.wide (by omega) (by rw [hc]; exact hu))
      rw [Addr.add_lit, Nat.zero_add] at this
      show w.cell? ⟨g, 0 + i * 17 + j, none⟩ = _
      rw [Nat.zero_add]
      exact this
    exact ⟨⟨lv, av, tv, ev, at_ 0 _ rfl, at_ 1 _ rfl, at_ 2 _ rfl, at_ 3 _ rfl, at_ 4 _ rfl, ⟨kv, at_ 5 _ rfl, at_ 6 _ rfl, at_ 7 _ rfl, at_ 8 _ rfl, k1, k2⟩, at_ 9 _ rfl, at_ 10 _ rfl, at_ 11 _ rfl, at_ 12 _ rfl, k3, k4, k5, k6, k7, k8, k9, k10⟩,
      at_ 13 _ rfl, at_ 14 _ rfl, at_ 15 _ rfl, at_ 16 _ rfl, k11, k12, k13, k14⟩
/-- What was there stays, but for the box Y and the row's own block. -/
structure Kp (Y : Nat) (w : World) (v : Value) (w' : World) (v' : Value) : Prop where
  os : w'.os = w.os
  tape : w'.tape = w.tape
  output : w'.output = w.output
  size : w.heap.size ≤ w'.heap.size
  block : ∀ k, k < w.heap.size → k ≠ Y → some k ≠ v.ownBlock → w'.heap[k]? = w.heap[k]?
  own : ∀ g, v'.ownBlock = some g → v.ownBlock = some g ∨ w.heap.size ≤ g
theorem Kp.refl (Y : Nat) (w : World) (v : Value) : Kp Y w v w v := ⟨rfl, rfl, rfl, Nat.le_refl _, fun _ _ _ _ => rfl, fun _ h => .inl h⟩
theorem Kp.trans {Y : Nat} {a b c : World} {u v x : Value} (h : Kp Y a u b v) (k : Kp Y b v c x) : Kp Y a u c x :=
  ⟨k.os.trans h.os, k.tape.trans h.tape, k.output.trans h.output, Nat.le_trans h.size k.size, fun i hi h1 h2 => (k.block i (Nat.lt_of_lt_of_le hi h.size) h1 fun e => (h.own i e.symm).elim (fun e => h2 e.symm) (by omega)).trans (h.block i hi h1 h2),
    fun g hg => (k.own g hg).elim (h.own g) fun h' => .inr (Nat.le_trans h.size h')⟩
theorem Kp.below {Y : Nat} {w w' : World} {v : Value} (h : Below w.heap.size w w') : Kp Y w v w' v := ⟨h.os, h.tape, h.output, h.size, fun k hk _ _ => h.block k hk, fun _ h => .inl h⟩
theorem Kp.grown {Y : Nat} {w w' : World} {v v' : Value} (h : w.grownBy w' v.ownBlock) (ho : ∀ g, v'.ownBlock = some g → v.ownBlock = some g ∨ w.heap.size ≤ g) : Kp Y w v w' v' := ⟨h.os, h.tape, h.output, h.size, fun k hk _ h2 => h.block k hk h2, ho⟩
theorem Kp.set {Y j : Nat} {w w' : World} {v v' u : Value} (h : Kp Y w v w' v') : Kp Y w v (w'.setCell ⟨Y, j, none⟩ u) v' :=
  ⟨h.os, h.tape, h.output, by simpa using h.size, fun k hk h1 h2 => by
    rw [← h.block k hk h1 h2]
    unfold World.setCell
    simp only
    rw [Array.getElem?_modify]
    rw [if_neg (fun e => h1 e.symm)], h.own⟩
theorem Kp.cell {Y g j : Nat} {w w' : World} {v v' u : Value} (h : Kp Y w v w' v') (hu : w.cell? ⟨g, j, none⟩ = some u) (h1 : g ≠ Y) (h2 : v.ownBlock ≠ some g) : w'.cell? ⟨g, j, none⟩ = some u :=
  (World.cell?_of_block (a := ⟨g, j, none⟩) (h.block g (cell_lt hu) h1 fun e => h2 e.symm)).trans hu
theorem Kp.box {Y g : Nat} {w w' : World} {v v' : Value} {cs : List Value} (h : Kp Y w v w' v') (hx : BoxAt w g cs) (h1 : g ≠ Y) (h2 : v.ownBlock ≠ some g) : BoxAt w' g cs := fun j u hu => h.cell (hx j u hu) h1 h2
theorem Kp.low {Y B : Nat} {w w' : World} {v v' : Value} (h : Kp Y w v w' v') (h1 : B ≤ Y) (h2 : ∀ g, v.ownBlock = some g → B ≤ g) : Cs.le (lowC B w) (lowC B w') := fun g j u ⟨hg, hu⟩ =>
  ⟨hg, h.cell hu (by omega) fun e => by have := h2 g e; omega⟩
theorem Kp.belowB {Y B : Nat} {w w' : World} {v v' : Value} (h : Kp Y w v w' v') (h0 : B ≤ w.heap.size) (h1 : B ≤ Y) (h2 : ∀ g, v.ownBlock = some g → B ≤ g) : Below B w w' :=
  ⟨h.os, h.tape, h.output, h.size, fun k hk => h.block k (by omega) (by omega) fun e => by have := h2 k e.symm; omega⟩
theorem Kp.rows {Y B z n : Nat} {e : TypeId} {w w' : World} {v v' u : Value} {xs : List Value} (h : Kp Y w v w' v') (hr : w.ownsRow B e z u n xs) (h1 : ∀ g, u.ownBlock = some g → g ≠ Y ∧ v.ownBlock ≠ some g) : w'.ownsRow B e z u n xs := by
  refine ⟨hr.1, ?_⟩
  rcases hr.2 with h' | ⟨g, cap, cur, k1, k2, k3, k4⟩
  · exact .inl h'
  · refine .inr ⟨g, cap, cur, k1, k2, ?_, k4⟩
    have hlt : g < w.heap.size := by
      rcases Nat.lt_or_ge g w.heap.size with hlt | hge
      · exact hlt
      · rw [Array.getElem?_eq_none hge] at k3; cases k3
    have hh := h1 g (by rw [k1]; rfl)
    rw [h.block g hlt hh.1 fun e => hh.2 e.symm]
    exact k3
/-- The sheet while it is laid. -/
structure ShAt (B d : Nat) (w : World) (Y : Nat) (gv pv lov hiv v : Value) (l : List Fi) (rows : List (List Value)) : Prop where
  yb : B ≤ Y
  bw : B ≤ w.heap.size
  box : BoxAt w Y [gv, pv, v, lov, hiv]
  free : Free w Y
  row : RowF B d w v l rows
  ne : v.ownBlock ≠ some Y
theorem ShAt.lo {B d : Nat} {w : World} {Y : Nat} {gv pv lov hiv v : Value} {l : List Fi} {rows : List (List Value)} (h : ShAt B d w Y gv pv lov hiv v l rows) : ∀ g, v.ownBlock = some g → B ≤ g := fun g hg => (h.row.own.lt g hg).1
theorem ShAt.next {B d : Nat} {w w' : World} {Y : Nat} {gv pv lov hiv v : Value} {l : List Fi} {rows : List (List Value)} (h : ShAt B d w Y gv pv lov hiv v l rows) (hb : Below w.heap.size w w') : ShAt B d w' Y gv pv lov hiv v l rows :=
  ⟨h.yb, Nat.le_trans h.bw hb.size, h.box.next hb, h.free.next (cell_lt (h.box 0 _ rfl)) hb, h.row.next hb, h.ne⟩
end Go.Proofs.Ytghlmengcidmdaa.Tr
end
section
/- What size of flat tells: how many statements a statement is. Conditions: it lies in memory. -/
namespace Go.Proofs.Ytghlmengcidmdaa.Tr
open Go.RowKit Go.Proofs.Ytghlmengcidmdaa.Lx Go.Proofs.Ytghlmengcidmdaa.Wd
theorem cnt_take {l : List St} {k : Nat} (h : k < l.length) : cntL (l.take (k + 1)) = cntL (l.take k) + cntS l[k] := by
  rw [List.take_succ_eq_append_getElem h, cntL_append, cntL, cntL]
  omega
theorem cnt_le {l : List St} {k : Nat} (h : k < l.length) : cntL (l.take k) + cntS l[k] ≤ cntL l := by
  have h1 := cnt_take h
  have h2 : cntL l = cntL (l.take (k + 1)) + cntL (l.drop (k + 1)) := by
    conv => lhs; rw [← List.take_append_drop (k + 1) l]
    rw [cntL_append]
  omega
theorem cntS_parts (s : St) : cntS s = 1 + cntL s.thn + cntL s.els := by cases s; rw [cntS]; rfl
theorem cntS_pos (s : St) : 1 ≤ cntS s := by rw [cntS_parts]; omega
theorem cntL_len (l : List St) : l.length ≤ cntL l := by
  induction l with
  | nil => simp
  | cons s r ih => rw [cntL, List.length_cons]; have := cntS_pos s; omega
set_option maxHeartbeats 4000000 in
set_option maxRecDepth 100000 in
theorem size_any : ∀ (d : Nat) (s : St) (la ka aa ta ea : Option Addr) (lc kc ac tc ec : Nat) (w : World), Hang d w s (.slice la s.labels.length lc) (.slice ka s.x.ks.length kc) (.slice aa s.args.length ac) (.slice ta s.thn.length tc) (.slice ea s.els.length ec) → cntS s ≤ 1000000 →
    Calls Try.prog 135 #[.agg #[.int .i64 s.id, .int .i64 s.kind, .slice la s.labels.length lc, .string s.nm, .string s.proc, .int .i64 s.x.op, .int .i64 s.x.n, .string s.x.nm, .slice ka s.x.ks.length kc, .bool s.has, .slice aa s.args.length ac, .slice ta s.thn.length tc, .slice ea s.els.length ec]] w fun e w' => e = .returned (.int .i64 (cntS s : Nat)) ∧ Below w.heap.size w w' := by
  intro d
  induction d with
  | zero => intro s la ka aa ta ea lc kc ac tc ec w hh; exact hh.thn.elim
  | succ d ih =>
    intro s la ka aa ta ea lc kc ac tc ec w hh hcs
    have IH := Lib.hid ih
    rw [cntS_parts] at hcs ⊢
    have hct : cntL s.thn ≤ 1000000 := by omega
    have hce : cntL s.els ≤ 1000000 := by omega
    have hlt' := cntL_len s.thn
    have hle' := cntL_len s.els
    have HTH := Lib.hid hh.thn
    have HEL := Lib.hid hh.els
    clear ih hh
    go_enter Try.func135, Try.ntmps135
    go_upto_region 1 with fail
    refine cut_world (fun wx => Below w.heap.size w wx ∧ BoxAt wx w.heap.size [.int .i64 s.id, .int .i64 s.kind, .slice la s.labels.length lc, .string s.nm, .string s.proc, .int .i64 s.x.op, .int .i64 s.x.n, .string s.x.nm, .slice ka s.x.ks.length kc, .bool s.has, .slice aa s.args.length ac, .slice ta s.thn.length tc, .slice ea s.els.length ec]) ⟨boxed w _, box_new w #[.int .i64 s.id, .int .i64 s.kind, .slice la s.labels.length lc, .string s.nm, .string s.proc, .int .i64 s.x.op, .int .i64 s.x.n, .string s.x.nm, .slice ka s.x.ks.length kc, .bool s.has, .slice aa s.args.length ac, .slice ta s.thn.length tc, .slice ea s.els.length ec] 41⟩ ?_
    rintro w1 ⟨hb1, hx1⟩
    have HB1 := Lib.hid hb1
    have HX1 := Lib.hid hx1
    have x8 := hx1 11 _ rfl
    clear hb1 hx1
    go_wp2_with fail
    clear x8
    go_loopw [11, 3] (fun i nn wr => ∃ k : Nat, k ≤ s.thn.length ∧ i = .int .i64 k ∧ nn = .int .i64 ((1 + cntL (s.thn.take k) : Nat) : Int) ∧ Below w.heap.size w wr ∧ Below w1.heap.size w1 wr) (fun i _ _ => (s.thn.length - intOf i).toNat)
    case atStart => exact ⟨0, by omega, rfl, by simp [cntL], HB1.out, Below.refl _ _⟩
    case round =>
      obtain ⟨k, hk, rfl, rfl, hbel, hb1r⟩ := hrel
      obtain ⟨w0, hw0⟩ : ∃ x : World, x = wr := ⟨_, rfl⟩
      subst hw0
      have HBEL := Lib.hid hbel
      have HB1R := Lib.hid hb1r
      clear hb1r
      by_cases hlt : k < s.thn.length
      · have hlt' : (k : Int) < (s.thn.length : Int) := by omega
        have h0k : (0 : Int) ≤ (k : Int) := by omega
        have hc1 := cnt_take hlt
        have hc2 := cnt_le hlt
        have hnez : s.thn ≠ [] := by intro h; rw [h] at hlt; simp at hlt
        obtain ⟨g, off, capg, hvg, _, hcellsg⟩ := SlAt.cells (StC.next HTH.out hbel) hnez
        simp only [Value.slice.injEq] at hvg
        obtain ⟨rfl, -, rfl⟩ := hvg
        have hstt := hcellsg k hlt
        obtain ⟨t, ht⟩ : ∃ z, Hid (s.thn[k] = z) := ⟨_, Lib.hid rfl⟩
        rw [ht.out] at hstt
        obtain ⟨lv, av, tv, ev, p0, p1, p2, p3, p4, ⟨kv, p5, p6, p7, p8, hok, hk1⟩, p9, p10, p11, p12, j1, j2, j3, j4, hl1, ha1, ht1, he1⟩ := hstt
        obtain ⟨la2, lc2, rfl, bl1, bl2⟩ := hl1.form
        obtain ⟨aa2, ac2, rfl, ba1, ba2⟩ := ha1.form
        obtain ⟨ta2, tc2, rfl, bt1, bt2⟩ := ht1.form
        obtain ⟨ea2, ec2, rfl, be1, be2⟩ := he1.form
        have HML2 := Lib.hid (Nat.le_trans bl1 bl2)
        have HMA2 := Lib.hid (Nat.le_trans ba1 ba2)
        have HMT2 := Lib.hid (Nat.le_trans bt1 bt2)
        have HME2 := Lib.hid (Nat.le_trans be1 be2)
        clear bl1 bl2 ba1 ba2 bt1 bt2 be1 be2
        obtain ⟨ka2, kc2, rfl, -, -⟩ := hk1.form
        have e0 : w0.cell? ⟨g, off + k * 13, none⟩ = _ := p0
        have e1 : w0.cell? ⟨g, off + k * 13 + 1, none⟩ = _ := p1
        have e2 : w0.cell? ⟨g, off + k * 13 + 2, none⟩ = _ := p2
        have e3 : w0.cell? ⟨g, off + k * 13 + 3, none⟩ = _ := p3
        have e4 : w0.cell? ⟨g, off + k * 13 + 4, none⟩ = _ := p4
        have e5 : w0.cell? ⟨g, off + k * 13 + 5, none⟩ = _ := p5
        have e6 : w0.cell? ⟨g, off + k * 13 + 6, none⟩ = _ := p6
        have e7 : w0.cell? ⟨g, off + k * 13 + 7, none⟩ = _ := p7
        have e8 : w0.cell? ⟨g, off + k * 13 + 8, none⟩ = _ := p8
        have e9 : w0.cell? ⟨g, off + k * 13 + 9, none⟩ = _ := p9
        have e10 : w0.cell? ⟨g, off + k * 13 + 10, none⟩ = _ := p10
        have e11 : w0.cell? ⟨g, off + k * 13 + 11, none⟩ = _ := p11
        have e12 : w0.cell? ⟨g, off + k * 13 + 12, none⟩ = _ := p12
        have HLB2 := Lib.hid hl1
        have HKB2 := Lib.hid hk1
        have HAB2 := Lib.hid ha1
        have HTB2 := Lib.hid ht1
        have HEB2 := Lib.hid he1
        have HOK2 := Lib.hid hok
        have HJ12 := Lib.hid j1
        have HJ22 := Lib.hid j2
        have HJ32 := Lib.hid j3
        have HJ42 := Lib.hid j4
        clear hcellsg hnez p0 p1 p2 p3 p4 p5 p6 p7 p8 p9 p10 p11 p12 hok hk1 hl1 ha1 ht1 he1 j1 j2 j3 j4
        rw [ht.out] at hc1 hc2
        obtain ⟨CT, hCT⟩ : ∃ n, Hid (cntS t = n) := ⟨_, Lib.hid rfl⟩
        obtain ⟨CK, hCK⟩ : ∃ n, Hid (cntL (s.thn.take k) = n) := ⟨_, Lib.hid rfl⟩
        rw [hCT.out, hCK.out] at hc1 hc2
        rw [hCK.out]
        have hct2 : cntS t ≤ 1000000 := by rw [hCT.out]; omega
        have HC1 := Lib.hid hc1
        have HHT := Lib.hid (Hang.mk (s := t) HLB2.out HKB2.out HAB2.out HTB2.out HEB2.out)
        clear hbel hc1
        go_upto_region 5 with fail
        refine cut_world (fun wx => Below w0.heap.size w0 wx ∧ BoxAt wx w0.heap.size (stCells t (.slice ka2 t.x.ks.length kc2) (.slice la2 t.labels.length lc2) (.slice aa2 t.args.length ac2) (.slice ta2 t.thn.length tc2) (.slice ea2 t.els.length ec2))) ⟨boxed w0 _, box_new w0 #[.int .i64 t.id, .int .i64 t.kind, .slice la2 t.labels.length lc2, .string t.nm, .string t.proc, .int .i64 t.x.op, .int .i64 t.x.n, .string t.x.nm, .slice ka2 t.x.ks.length kc2, .bool t.has, .slice aa2 t.args.length ac2, .slice ta2 t.thn.length tc2, .slice ea2 t.els.length ec2] 41⟩ ?_
        clear e0 e1 e2 e3 e4 e5 e6 e7 e8 e9 e10 e11 e12
        rintro w3 ⟨hb3, hx3⟩
        have HB3 := Lib.hid hb3
        have m0 := hx3 0 _ rfl
        have m1 := hx3 1 _ rfl
        have m2 := hx3 2 _ rfl
        have m3 := hx3 3 _ rfl
        have m4 := hx3 4 _ rfl
        have m5 := hx3 5 _ rfl
        have m6 := hx3 6 _ rfl
        have m7 := hx3 7 _ rfl
        have m8 := hx3 8 _ rfl
        have m9 := hx3 9 _ rfl
        have m10 := hx3 10 _ rfl
        have m11 := hx3 11 _ rfl
        have m12 := hx3 12 _ rfl
        clear hx3 hb3
        go_wp2_with fail
        refine (IH.out t la2 ka2 aa2 ta2 ea2 lc2 kc2 ac2 tc2 ec2 _ (HHT.out.next HB3.out) hct2).mono ?_
        rintro e w4 ⟨rfl, hb4⟩
        rw [hCT.out]
        have HB4 := Lib.hid (HB3.out.trans (hb4.mono HB3.out.size))
        clear hb4 m0 m1 m2 m3 m4 m5 m6 m7 m8 m9 m10 m11 m12
        have hsum : IntKind.i64.wrap ((1 + CK : Nat) + (CT : Int)) = ((1 + CK + CT : Nat) : Int) := by rw [IntWalk.i64_in _ (by push_cast; omega)]; push_cast; rfl
        go_wp2_with fail
        go_roundw
        case rel =>
          refine ⟨k + 1, by omega, by go_num, ?_, HBEL.out.trans (HB4.out.mono HBEL.out.size), HB1R.out.trans (HB4.out.mono HB1R.out.size)⟩
          rw [HC1.out]
          congr 2
          push_cast
          omega
        case measure => simp [intOf]; omega
      · have hlt' : ¬ (k : Int) < (s.thn.length : Int) := by omega
        have hke : k = s.thn.length := by omega
        subst hke
        rw [List.take_length]
        have x9 := HX1.out.next HB1R.out 12 _ rfl
        clear hbel
        go_wp2_with fail
        go_loopw [23, 3] (fun i nn wr => ∃ k : Nat, k ≤ s.els.length ∧ i = .int .i64 k ∧ nn = .int .i64 ((1 + cntL s.thn + cntL (s.els.take k) : Nat) : Int) ∧ Below w.heap.size w wr ∧ Below w1.heap.size w1 wr) (fun i _ _ => (s.els.length - intOf i).toNat)
        case atStart => exact ⟨0, by omega, rfl, by simp [cntL], HBEL.out, HB1R.out⟩
        case round =>
          obtain ⟨k, hk, rfl, rfl, hbel, hb1r⟩ := hrel
          obtain ⟨w0, hw0⟩ : ∃ x : World, x = wr := ⟨_, rfl⟩
          subst hw0
          have HBEL := Lib.hid hbel
          have HB1R := Lib.hid hb1r
          clear hb1r
          by_cases hlt : k < s.els.length
          · have hlt' : (k : Int) < (s.els.length : Int) := by omega
            have h0k : (0 : Int) ≤ (k : Int) := by omega
            have hc1 := cnt_take hlt
            have hc2 := cnt_le hlt
            have hnez : s.els ≠ [] := by intro h; rw [h] at hlt; simp at hlt
            obtain ⟨g, off, capg, hvg, _, hcellsg⟩ := SlAt.cells (StC.next HEL.out hbel) hnez
            simp only [Value.slice.injEq] at hvg
            obtain ⟨rfl, -, rfl⟩ := hvg
            have hstt := hcellsg k hlt
            obtain ⟨t, ht⟩ : ∃ z, Hid (s.els[k] = z) := ⟨_, Lib.hid rfl⟩
            rw [ht.out] at hstt
            obtain ⟨lv, av, tv, ev, p0, p1, p2, p3, p4, ⟨kv, p5, p6, p7, p8, hok, hk1⟩, p9, p10, p11, p12, j1, j2, j3, j4, hl1, ha1, ht1, he1⟩ := hstt
            obtain ⟨la2, lc2, rfl, bl1, bl2⟩ := hl1.form
            obtain ⟨aa2, ac2, rfl, ba1, ba2⟩ := ha1.form
            obtain ⟨ta2, tc2, rfl, bt1, bt2⟩ := ht1.form
            obtain ⟨ea2, ec2, rfl, be1, be2⟩ := he1.form
            have HML2 := Lib.hid (Nat.le_trans bl1 bl2)
            have HMA2 := Lib.hid (Nat.le_trans ba1 ba2)
            have HMT2 := Lib.hid (Nat.le_trans bt1 bt2)
            have HME2 := Lib.hid (Nat.le_trans be1 be2)
            clear bl1 bl2 ba1 ba2 bt1 bt2 be1 be2
            obtain ⟨ka2, kc2, rfl, -, -⟩ := hk1.form
            have e0 : w0.cell? ⟨g, off + k * 13, none⟩ = _ := p0
            have e1 : w0.cell? ⟨g, off + k * 13 + 1, none⟩ = _ := p1
            have e2 : w0.cell? ⟨g, off + k * 13 + 2, none⟩ = _ := p2
            have e3 : w0.cell? ⟨g, off + k * 13 + 3, none⟩ = _ := p3
            have e4 : w0.cell? ⟨g, off + k * 13 + 4, none⟩ = _ := p4
            have e5 : w0.cell? ⟨g, off + k * 13 + 5, none⟩ = _ := p5
            have e6 : w0.cell? ⟨g, off + k * 13 + 6, none⟩ = _ := p6
            have e7 : w0.cell? ⟨g, off + k * 13 + 7, none⟩ = _ := p7
            have e8 : w0.cell? ⟨g, off + k * 13 + 8, none⟩ = _ := p8
            have e9 : w0.cell? ⟨g, off + k * 13 + 9, none⟩ = _ := p9
            have e10 : w0.cell? ⟨g, off + k * 13 + 10, none⟩ = _ := p10
            have e11 : w0.cell? ⟨g, off + k * 13 + 11, none⟩ = _ := p11
            have e12 : w0.cell? ⟨g, off + k * 13 + 12, none⟩ = _ := p12
            have HLB2 := Lib.hid hl1
            have HKB2 := Lib.hid hk1
            have HAB2 := Lib.hid ha1
            have HTB2 := Lib.hid ht1
            have HEB2 := Lib.hid he1
            have HOK2 := Lib.hid hok
            have HJ12 := Lib.hid j1
            have HJ22 := Lib.hid j2
            have HJ32 := Lib.hid j3
            have HJ42 := Lib.hid j4
            clear hcellsg hnez p0 p1 p2 p3 p4 p5 p6 p7 p8 p9 p10 p11 p12 hok hk1 hl1 ha1 ht1 he1 j1 j2 j3 j4
            rw [ht.out] at hc1 hc2
            obtain ⟨CT, hCT⟩ : ∃ n, Hid (cntS t = n) := ⟨_, Lib.hid rfl⟩
            obtain ⟨CK, hCK⟩ : ∃ n, Hid (cntL (s.els.take k) = n) := ⟨_, Lib.hid rfl⟩
            rw [hCT.out, hCK.out] at hc1 hc2
            rw [hCK.out]
            have hct2 : cntS t ≤ 1000000 := by rw [hCT.out]; omega
            have HC1 := Lib.hid hc1
            have HHT := Lib.hid (Hang.mk (s := t) HLB2.out HKB2.out HAB2.out HTB2.out HEB2.out)
            clear hbel hc1
            go_upto_region 10 with fail
            refine cut_world (fun wx => Below w0.heap.size w0 wx ∧ BoxAt wx w0.heap.size (stCells t (.slice ka2 t.x.ks.length kc2) (.slice la2 t.labels.length lc2) (.slice aa2 t.args.length ac2) (.slice ta2 t.thn.length tc2) (.slice ea2 t.els.length ec2))) ⟨boxed w0 _, box_new w0 #[.int .i64 t.id, .int .i64 t.kind, .slice la2 t.labels.length lc2, .string t.nm, .string t.proc, .int .i64 t.x.op, .int .i64 t.x.n, .string t.x.nm, .slice ka2 t.x.ks.length kc2, .bool t.has, .slice aa2 t.args.length ac2, .slice ta2 t.thn.length tc2, .slice ea2 t.els.length ec2] 41⟩ ?_
            clear e0 e1 e2 e3 e4 e5 e6 e7 e8 e9 e10 e11 e12
            rintro w3 ⟨hb3, hx3⟩
            have HB3 := Lib.hid hb3
            have m0 := hx3 0 _ rfl
            have m1 := hx3 1 _ rfl
            have m2 := hx3 2 _ rfl
            have m3 := hx3 3 _ rfl
            have m4 := hx3 4 _ rfl
            have m5 := hx3 5 _ rfl
            have m6 := hx3 6 _ rfl
            have m7 := hx3 7 _ rfl
            have m8 := hx3 8 _ rfl
            have m9 := hx3 9 _ rfl
            have m10 := hx3 10 _ rfl
            have m11 := hx3 11 _ rfl
            have m12 := hx3 12 _ rfl
            clear hx3 hb3
            go_wp2_with fail
            refine (IH.out t la2 ka2 aa2 ta2 ea2 lc2 kc2 ac2 tc2 ec2 _ (HHT.out.next HB3.out) hct2).mono ?_
            rintro e w4 ⟨rfl, hb4⟩
            rw [hCT.out]
            have HB4 := Lib.hid (HB3.out.trans (hb4.mono HB3.out.size))
            clear hb4 m0 m1 m2 m3 m4 m5 m6 m7 m8 m9 m10 m11 m12
            have hsum : IntKind.i64.wrap ((1 + cntL s.thn + CK : Nat) + (CT : Int)) = ((1 + cntL s.thn + CK + CT : Nat) : Int) := by rw [IntWalk.i64_in _ (by push_cast; omega)]; push_cast; rfl
            go_wp2_with fail
            go_roundw
            case rel =>
              refine ⟨k + 1, by omega, by go_num, ?_, HBEL.out.trans (HB4.out.mono HBEL.out.size), HB1R.out.trans (HB4.out.mono HB1R.out.size)⟩
              rw [HC1.out]
              congr 2
              push_cast
              omega
            case measure => simp [intOf]; omega
          · have hlt' : ¬ (k : Int) < (s.els.length : Int) := by omega
            have hke : k = s.els.length := by omega
            subst hke
            rw [List.take_length]
            go_wp2_with fail
            go_ret
            exact ⟨rfl, HBEL.out⟩
end Go.Proofs.Ytghlmengcidmdaa.Tr
end
