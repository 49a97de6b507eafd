/- Parts of TreeFindW, NumSame, PickW, ScopedW, IdsW, PutN, UsedW, NewName: walks and plain laws that later texts use. Conditions: as each statement says. -/
import Derived.Test.YtghlmengcidmdaaTa0
import Derived.Test.YtghlmengcidmdaaTa1
import Derived.Test.YtghlmengcidmdaaTa10
import Derived.Test.YtghlmengcidmdaaTa11
import Derived.Test.YtghlmengcidmdaaTa12
import Derived.Test.YtghlmengcidmdaaTa13
import Derived.Test.YtghlmengcidmdaaTa14
import Derived.Test.YtghlmengcidmdaaTa15
import Derived.Test.YtghlmengcidmdaaTa16
import Derived.Test.YtghlmengcidmdaaTa17
import Derived.Test.YtghlmengcidmdaaTa18
import Derived.Test.YtghlmengcidmdaaTa19
import Derived.Test.YtghlmengcidmdaaTa2
import Derived.Test.YtghlmengcidmdaaTa3
import Derived.Test.YtghlmengcidmdaaTa4
import Derived.Test.YtghlmengcidmdaaTa5
import Derived.Test.YtghlmengcidmdaaTa6
import Derived.Test.YtghlmengcidmdaaTa7
import Derived.Test.YtghlmengcidmdaaTa8
import Derived.Test.YtghlmengcidmdaaTa9
import Derived.Test.YtghlmengcidmdaaTn0
import Derived.Test.YtghlmengcidmdaaTn1
import Derived.Test.YtghlmengcidmdaaTn2
import Derived.Test.YtghlmengcidmdaaTn3
import Derived.Deep.QuietTactic
import Derived.BigQuiet
import Derived.Deep.DeepCutAuto
import Derived.Deep.CutBlock
import Derived.Deep.RegionHeld3
import Derived.Deep.Slices
import Derived.Deep.Fields
import Derived.Lib.SmallJoins
import Derived.SliceStrings
import Derived.ChangeSlices
import Derived.IntWalk
import Derived.WalkKit
import Derived.Test.YtghlmengcidmdaaRows
import Derived.WalkSpells
import Derived.Lib.Hide
import Derived.Below
import Derived.WalkSmall
import Derived.StillTailTactics
import Derived.OwnWalk
import Derived.OneCell
import Derived.Deep.AppendLies
import Derived.Deep.RegionLaw
import Derived.Maps.Range
import Derived.Outline
import Derived.Deep.Upon
import Derived.Maps.AppendAt
import Derived.Laws.OwnMore
import Derived.Deep.RegionWith
import Derived.Laws.Cover3
import Derived.RegionTactic
import Derived.Laws.StructEq
import Derived.Laws.BitsAllLaws
import Derived.OrdersHeld
import Derived.Deep.MidRow
section
/- The law TreeFind, walked: it returns true. Conditions: the arguments lie in memory. -/
namespace Go.Proofs.Ytghlmengcidmdaa.Tr
open Go.RowKit Go.Proofs.Ytghlmengcidmdaa.Lx Go.Proofs.Ytghlmengcidmdaa.Wd
def FlatMade (d : Nat) (l : List It) (w : World) (e : Ending) (w' : World) : Prop := ∃ v, e = .returned v ∧ SlAt 16 (ItAt (cw w') d) v l ∧ Below w.heap.size w w'
set_option maxHeartbeats 1000000 in
theorem flatOf_any (d : Nat) (f : Pc) (pv vv bv fv : Value) (w : World) (hb : StC (cw w) d bv f.body) : Calls Try.prog 60 #[(.agg #[.string f.nm, pv, vv, bv, fv])] w (FlatMade d (flatOf f) w) := by
  obtain ⟨ba, bc, rfl, -, -⟩ := hb.form
  have hbox := boxed w (.cells #[.string f.nm, pv, vv, .slice ba f.body.length bc, fv] 55)
  have HB := Lib.hid hbox
  have HBODY := Lib.hid (hb.next hbox)
  clear hbox hb
  go_enter Try.func60, Try.ntmps60
  go_wp2_with fail
  refine (flat_any _ d d f.body _ (.slice none 0 0) 1 0 false [] [] _ (Nat.le_refl _) (StC.mono low_all HBODY.out) (RowT.nil _ _ _) (Nat.le_refl _) (by omega) (by omega) (by unfold InI; omega) (by simp)).mono ?_
  rintro e w1 ⟨v, rows, rfl, hr, hg⟩
  have HR := Lib.hid hr.sl
  have HG := Lib.hid (((Below.refl _ _).grown hg.1 (Nat.le_refl _) (fun g h => by cases h)).mono HB.out.size)
  obtain ⟨va, vc, rfl⟩ := ownsForm hr.own
  clear hr hg
  go_wp2_with fail
  go_ret
  exact ⟨_, rfl, HR.out, HB.out.trans HG.out⟩
end Go.Proofs.Ytghlmengcidmdaa.Tr
end
section
/- A program that may be has its ids already. No program. Conditions: it may be. -/
namespace Go.Proofs.Ytghlmengcidmdaa.Tr
open Go.RowKit Go.Proofs.Ytghlmengcidmdaa.Lx Go.Proofs.Ytghlmengcidmdaa.Wd
mutual
theorem num_sameS : ∀ (s : St) (nest n : Int), rowS 200 12 nest n s = true → 0 ≤ n → cpS true n s = s
  | .mk i k ls nm pr x h ar th el, nest, n => fun hr h0 => by
    rw [rowS_eq] at hr
    simp only [Bool.and_eq_true, decide_eq_true_eq, beq_iff_eq, St.id, St.labels, St.thn, St.els] at hr
    have hn := hr.1.1.1.1.2
    have hm := hr.1.1.1.1.1
    have e : wrap64 (n + 1) = i := by unfold wrap64; omega
    rw [cpS, num_sameL th _ _ hr.1.2 (by omega), num_sameL el _ _ hr.2 (by omega), if_pos rfl, e]
theorem num_sameL : ∀ (l : List St) (nest n : Int), rowsL 200 12 nest n l = true → 0 ≤ n → cpL true n l = l
  | [], nest, n => fun _ _ => by rw [cpL]
  | s :: r, nest, n => fun hr h0 => by
    rw [rowsL_cons] at hr
    simp only [Bool.and_eq_true, decide_eq_true_eq] at hr
    rw [cpL, num_sameS s _ _ hr.1.2 h0, num_sameL r _ _ hr.2 (by omega)]
end
theorem num_samePs : ∀ (l : List Pc) (n : Int), mayPs n l = true → 0 ≤ n → numPs n l = l := by
  intro l
  induction l with
  | nil => intro n _ _; rfl
  | cons f r ih =>
    intro n h h0
    rw [mayPs, Bool.and_eq_true] at h
    rw [numPs]
    have e2 : numPc n f = f := by
      unfold numPc
      rw [num_sameL f.body _ _ (mayPc_rows h.1) h0]
    rw [e2, ih _ h.2 (by omega)]
theorem num_same {p : Pr} (h : mayP p = true) : numPr p = p := by
  unfold numPr
  rw [num_samePs p.procs 0 (mayP_procs h) (by omega)]
end Go.Proofs.Ytghlmengcidmdaa.Tr
end
section
/- A procedure by its name; what a name stands for in it. Conditions: the program lies in memory. -/
namespace Go.Proofs.Ytghlmengcidmdaa.Tr
open Go.RowKit Go.Proofs.Ytghlmengcidmdaa.Lx Go.Proofs.Ytghlmengcidmdaa.Wd
def PcMade (d : Nat) (r : Option Pc) (w : World) (e : Ending) (w' : World) : Prop := match r with
  | some f => ∃ (a1 a2 a3 a4 : Option Addr) (c1 c2 c3 c4 : Nat), e = .returned (.tuple #[.agg #[.string f.nm, .slice a1 f.params.length c1, .slice a2 f.vars.length c2, .slice a3 f.body.length c3, .slice a4 f.fin.length c4], .bool true]) ∧ HangP d w' f (.slice a1 f.params.length c1) (.slice a2 f.vars.length c2) (.slice a3 f.body.length c3) (.slice a4 f.fin.length c4) ∧ f.nm.size ≤ 9223372036854775807 ∧ Below w.heap.size w w'
  | none => e = .returned (.tuple #[.agg #[.string ⟨#[]⟩, .slice none 0 0, .slice none 0 0, .slice none 0 0, .slice none 0 0], .bool false]) ∧ Below w.heap.size w w'
theorem HangP.of {C : Cs} {d : Nat} {w : World} {f : Pc} {qv vv bv fv : Value} (hle : Cs.le C (cw w)) (h1 : SlAt 2 (PaAt C) qv f.params) (h2 : StrC C vv f.vars) (h3 : StC C d bv f.body) (h4 : StrC C fv f.fin) : HangP d w f qv vv bv fv :=
  ⟨SlAt.imp h1 (fun _ _ _ _ => PaAt.mono hle), StrC.mono hle h2, StC.mono hle h3, StrC.mono hle h4⟩
theorem but_set5 {R : Nat} {w : World} {x0 x1 x2 x3 x4 : Value} : Cs.le (but R w) (cw (((((w.setCell ⟨R, 0, none⟩ x0).setCell ⟨R, 1, none⟩ x1).setCell ⟨R, 2, none⟩ x2).setCell ⟨R, 3, none⟩ x3).setCell ⟨R, 4, none⟩ x4)) := Cs.le_trans (only5 (S := fun g => g ≠ R) (by simp)) only_out
def kindIn (p : Pr) (s nm : ByteArray) : Int := match pcIn p s with
  | some f => kindP p.globals f nm
  | none => 0
set_option maxHeartbeats 4000000 in
set_option maxRecDepth 100000 in
theorem sproc_any (d : Nat) (p : Pr) (gv pv : Value) (s : ByteArray) (w : World) (hp : PrC (cw w) d gv pv p) (hwp : wtPr p ≤ 20000) :
    Calls Try.prog 32 #[.agg #[gv, pv], .string s] w (PcMade d (pcIn p s) w) := by
  obtain ⟨ga, gc, rfl, -, -⟩ := hp.1.form
  obtain ⟨pa, pc, rfl, hl1, hl2⟩ := hp.2.form
  have hpl : p.procs.length ≤ 9223372036854775807 := Nat.le_trans hl1 hl2
  have HP := Lib.hid hp
  clear hp hl1 hl2
  go_enter Try.func32, Try.ntmps32
  go_upto_region 1 with fail
  refine cut_world (fun wx => Below w.heap.size w wx ∧ wx.heap.size = w.heap.size + 1 + 1 ∧ BoxAt wx w.heap.size [.slice ga p.globals.length gc, .slice pa p.procs.length pc] ∧ BoxAt wx (w.heap.size + 1) [.string ⟨#[]⟩, .slice none 0 0, .slice none 0 0, .slice none 0 0, .slice none 0 0] ∧ Free wx (w.heap.size + 1)) ⟨(boxed w _).alloc (by simp) _, by simp, (box_new w #[.slice ga p.globals.length gc, .slice pa p.procs.length pc] 25).next (boxed _ _), box_two w _ #[.string ⟨#[]⟩, .slice none 0 0, .slice none 0 0, .slice none 0 0, .slice none 0 0] 55, free_two w _ _ _⟩ ?_
  rintro w1 ⟨hb1, hz1, hx1, hr1, hf1⟩
  obtain ⟨R, hR⟩ : ∃ R, R = w.heap.size + 1 := ⟨_, rfl⟩
  rw [← hR] at hr1 hf1
  try rw [← hR]
  have hRw : w.heap.size < R := by omega
  have hR1 : R < w1.heap.size := by omega
  have HB1 := Lib.hid hb1
  have HX1 := Lib.hid hx1
  have HR1 := Lib.hid hr1
  have HF1 := Lib.hid hf1
  have HBP1 : Hid (PrC (but R w1) d (.slice ga p.globals.length gc) (.slice pa p.procs.length pc) p) := Lib.hid (PrC.mono (fun g j u h => ⟨by have := cell_lt h; omega, cw_next hb1 _ _ _ h⟩) HP.out)
  clear hb1 hx1 hr1 hf1 hz1 hR
  have x0 := HX1.out 0 _ rfl
  have x1 := HX1.out 1 _ rfl
  go_wp2_with fail
  refine (mayP_any d p _ _ _ (PrC.mono only_out HBP1.out)).mono ?_
  rintro e w2 ⟨rfl, hb2⟩
  obtain ⟨m1, hm1⟩ : ∃ m, Hid (mayP p = m) := ⟨_, Lib.hid rfl⟩
  rw [hm1.out]
  have HB2 := Lib.hid (HB1.out.trans (hb2.mono HB1.out.size))
  have HX2 := Lib.hid (HX1.out.next hb2)
  have HR2 := Lib.hid (HR1.out.next hb2)
  have HF2 := Lib.hid (HF1.out.next hR1 hb2)
  have hR2 : R < w2.heap.size := cell_lt (HR2.out 0 _ rfl)
  have HP2 := Lib.hid (PrC.mono (Cs.le_trans only_out (cw_next hb2)) HBP1.out)
  clear hb2 x0 x1
  cases m1 with
  | false =>
    have r0 := HR2.out 0 _ rfl
    have r1 := HR2.out 1 _ rfl
    have r2 := HR2.out 2 _ rfl
    have r3 := HR2.out 3 _ rfl
    have r4 := HR2.out 4 _ rfl
    have f0 := HF2.out 0
    have f1 := HF2.out 1
    have f2 := HF2.out 2
    have f3 := HF2.out 3
    have f4 := HF2.out 4
    go_wp2_with fail
    have hq := box5 (x0 := .string ⟨#[]⟩) (x1 := .slice none 0 0) (x2 := .slice none 0 0) (x3 := .slice none 0 0) (x4 := .slice none 0 0) HR2.out
    have q0 := hq 0 _ rfl
    have q1 := hq 1 _ rfl
    have q2 := hq 2 _ rfl
    have q3 := hq 3 _ rfl
    have q4 := hq 4 _ rfl
    refine bodyPost_ret (v := .tuple #[.agg #[.string ⟨#[]⟩, .slice none 0 0, .slice none 0 0, .slice none 0 0, .slice none 0 0], .bool false]) (by simp [results, Try.results32, go_sem, q0, q1, q2, q3, q4]) rfl ?_
    rw [show (pcIn p s) = none from by unfold pcIn; rw [if_neg (by rw [hm1.out]; decide)]]
    exact ⟨rfl, below5 HB2.out (by omega)⟩
  | true =>
    have x0 := HX2.out 0 _ rfl
    have x1 := HX2.out 1 _ rfl
    go_wp2_with fail
    refine ((number_row d p _ _ _ HP2.out hwp).mono fun _ _ h => h.made).mono ?_
    rw [num_same hm1.out]
    rintro e w3 ⟨gv3, pv3, rfl, hp3, hb3⟩
    obtain ⟨gn, gnc, rfl, -, -⟩ := hp3.1.form
    obtain ⟨pn, pnc, rfl, hn1, hn2⟩ := hp3.2.form
    have HP3 := Lib.hid hp3
    have HB3 := Lib.hid (HB2.out.trans (hb3.mono HB2.out.size))
    have HR3 := Lib.hid (HR2.out.next hb3)
    have HF3 := Lib.hid (HF2.out.next hR2 hb3)
    have hs3 := hb3.size
    clear hb3 hp3 x0 x1 hn1 hn2
    go_upto_region 4 with fail
    refine cut_world (fun wx => Below w3.heap.size w3 wx ∧ BoxAt wx w3.heap.size [.slice gn p.globals.length gnc, .slice pn p.procs.length pnc]) ⟨boxed w3 _, box_new w3 #[.slice gn p.globals.length gnc, .slice pn p.procs.length pnc] 25⟩ ?_
    rintro w4 ⟨hb4, hx4⟩
    have HX4 := Lib.hid hx4
    have HB4 := Lib.hid (HB3.out.trans (hb4.mono HB3.out.size))
    have HR4 := Lib.hid (HR3.out.next hb4)
    have HF4 := Lib.hid (HF3.out.next (by omega) hb4)
    have HBP4 : Hid (PrC (but R w4) d (.slice gn p.globals.length gnc) (.slice pn p.procs.length pnc) p) := Lib.hid (PrC.mono (fun g j u h => ⟨by have := h.1; omega, cw_next hb4 _ _ _ h.2⟩) HP3.out)
    clear hb4 hx4
    have x1 := HX4.out 1 _ rfl
    go_wp2_with fail
    clear x1
    go_loopw [18] (fun i wr => ∃ k : Nat, k ≤ p.procs.length ∧ i = .int .i64 k ∧ (∀ j (hj : j < p.procs.length), j < k → (p.procs[j].nm.toList == s.toList) = false) ∧ Below w4.heap.size w4 wr) (fun i _ => (p.procs.length - intOf i).toNat)
    case atStart => exact ⟨0, by omega, rfl, fun j _ h => absurd h (by omega), Below.refl _ _⟩
    case round =>
      obtain ⟨k, hk, rfl, hno, hbr⟩ := hrel
      obtain ⟨wq, hwq⟩ : ∃ x : World, x = wr := ⟨_, rfl⟩
      subst hwq
      have HNO := Lib.hid hno
      have HBR := Lib.hid hbr
      have HPQ := Lib.hid (PrC.mono (but_next hbr) HBP4.out)
      have HRQ := Lib.hid (HR4.out.next hbr)
      have HFQ := Lib.hid (HF4.out.next (cell_lt (HR4.out 0 _ rfl)) hbr)
      have HBQ := Lib.hid (HB4.out.trans (hbr.mono HB4.out.size))
      have hRq : R < wq.heap.size := cell_lt (HRQ.out 0 _ rfl)
      clear hno hbr
      by_cases hlt : k < p.procs.length
      · have hlt' : (k : Int) < (p.procs.length : Int) := by omega
        have h0k : (0 : Int) ≤ (k : Int) := by omega
        have hne : p.procs ≠ [] := by intro h; rw [h] at hlt; simp at hlt
        obtain ⟨g, off, cap', hv, _, hcells⟩ := SlAt.cells HPQ.out.2 hne
        simp only [Value.slice.injEq] at hv
        obtain ⟨rfl, -, rfl⟩ := hv
        obtain ⟨pv, vv, bv, fv, p0, p1, p2, p3, p4, hnm, hps, hvs, hbody, hfin⟩ := hcells k hlt
        have hfa := fun h => fst_at hlt (f := fun f : Pc => f.nm.toList == s.toList) (fun j hj hjk => HNO.out j hj hjk) h
        obtain ⟨f, hf⟩ : ∃ f, Hid (p.procs[k] = f) := ⟨_, Lib.hid rfl⟩
        rw [hf.out] at p0 hnm hps hvs hbody hfin hfa
        obtain ⟨a1, c1, rfl, -, -⟩ := hps.form
        obtain ⟨a2, c2, rfl, -, -⟩ := hvs.form
        obtain ⟨a3, c3, rfl, -, -⟩ := hbody.form
        obtain ⟨a4, c4, rfl, -, -⟩ := hfin.form
        have e0 : wq.cell? ⟨g, off + k * 5, none⟩ = _ := p0.2
        have e1 : wq.cell? ⟨g, off + k * 5 + 1, none⟩ = _ := p1.2
        have e2 : wq.cell? ⟨g, off + k * 5 + 2, none⟩ = _ := p2.2
        have e3 : wq.cell? ⟨g, off + k * 5 + 3, none⟩ = _ := p3.2
        have e4 : wq.cell? ⟨g, off + k * 5 + 4, none⟩ = _ := p4.2
        have HNM := Lib.hid hnm
        have HH1 := Lib.hid hps
        have HH2 := Lib.hid hvs
        have HH3 := Lib.hid hbody
        have HH4 := Lib.hid hfin
        have HFA := Lib.hid hfa
        clear hcells hne p0 p1 p2 p3 p4 hnm hps hvs hbody hfin hfa
        go_upto_region 7 with fail
        refine cut_world (fun wx => Below wq.heap.size wq wx ∧ BoxAt wx wq.heap.size [.string f.nm, .slice a1 f.params.length c1, .slice a2 f.vars.length c2, .slice a3 f.body.length c3, .slice a4 f.fin.length c4]) ⟨boxed wq _, box_new wq #[.string f.nm, .slice a1 f.params.length c1, .slice a2 f.vars.length c2, .slice a3 f.body.length c3, .slice a4 f.fin.length c4] 55⟩ ?_
        clear e0 e1 e2 e3 e4
        rintro w5 ⟨hb5, hx5⟩
        have HB5 := Lib.hid hb5
        have x0 := hx5 0 _ rfl
        have x1 := hx5 1 _ rfl
        have x2 := hx5 2 _ rfl
        have x3 := hx5 3 _ rfl
        have x4 := hx5 4 _ rfl
        have HR5 := Lib.hid (HRQ.out.next hb5)
        have HF5 := Lib.hid (HFQ.out.next hRq hb5)
        have HBW5 := Lib.hid (HBQ.out.trans (hb5.mono HBQ.out.size))
        clear hb5 hx5
        cases hc : (f.nm.toList == s.toList) with
        | true =>
          have hfa := HFA.out hc
          have HFA2 := Lib.hid hfa
          clear hfa
          have r0 := HR5.out 0 _ rfl
          have r1 := HR5.out 1 _ rfl
          have r2 := HR5.out 2 _ rfl
          have r3 := HR5.out 3 _ rfl
          have r4 := HR5.out 4 _ rfl
          have f0 := HF5.out 0
          have f1 := HF5.out 1
          have f2 := HF5.out 2
          have f3 := HF5.out 3
          have f4 := HF5.out 4
          go_wp2_with fail
          have hq := box5 (x0 := .string f.nm) (x1 := .slice a1 f.params.length c1) (x2 := .slice a2 f.vars.length c2) (x3 := .slice a3 f.body.length c3) (x4 := .slice a4 f.fin.length c4) HR5.out
          have q0 := hq 0 _ rfl
          have q1 := hq 1 _ rfl
          have q2 := hq 2 _ rfl
          have q3 := hq 3 _ rfl
          have q4 := hq 4 _ rfl
          refine bodyPost_ret (v := .tuple #[.agg #[.string f.nm, .slice a1 f.params.length c1, .slice a2 f.vars.length c2, .slice a3 f.body.length c3, .slice a4 f.fin.length c4], .bool true]) (by simp [results, Try.results32, go_sem, q0, q1, q2, q3, q4]) rfl ?_
          rw [show (pcIn p s) = some f from by unfold pcIn; rw [if_pos hm1.out]; exact HFA2.out]
          have hle : Cs.le (but R wq) _ := Cs.le_trans (but_next HB5.out) (but_set5 (x0 := .string f.nm) (x1 := .slice a1 f.params.length c1) (x2 := .slice a2 f.vars.length c2) (x3 := .slice a3 f.body.length c3) (x4 := .slice a4 f.fin.length c4))
          exact ⟨a1, a2, a3, a4, c1, c2, c3, c4, rfl, HangP.of hle HH1.out HH2.out HH3.out HH4.out, HNM.out, below5 HBW5.out (by omega)⟩
        | false =>
          have HC := Lib.hid hc
          go_wp2_with fail
          go_roundw
          case rel =>
            refine ⟨k + 1, by omega, by go_num, fun j hj hjk => ?_, HBR.out.trans (HB5.out.mono HBR.out.size)⟩
            rcases Nat.lt_or_ge j k with h | h
            · exact HNO.out j hj h
            · obtain rfl : j = k := by omega
              rw [hf.out]; exact HC.out
          case measure => simp [intOf]; omega
      · have hlt' : ¬ (k : Int) < (p.procs.length : Int) := by omega
        have hfn : p.procs.find? (fun f : Pc => f.nm.toList == s.toList) = none := fst_no fun j hj => HNO.out j hj (by omega)
        have HNON := Lib.hid hfn
        clear hfn
        have r0 := HRQ.out 0 _ rfl
        have r1 := HRQ.out 1 _ rfl
        have r2 := HRQ.out 2 _ rfl
        have r3 := HRQ.out 3 _ rfl
        have r4 := HRQ.out 4 _ rfl
        have f0 := HFQ.out 0
        have f1 := HFQ.out 1
        have f2 := HFQ.out 2
        have f3 := HFQ.out 3
        have f4 := HFQ.out 4
        go_wp2_with fail
        have hq := box5 (x0 := .string ⟨#[]⟩) (x1 := .slice none 0 0) (x2 := .slice none 0 0) (x3 := .slice none 0 0) (x4 := .slice none 0 0) HRQ.out
        have q0 := hq 0 _ rfl
        have q1 := hq 1 _ rfl
        have q2 := hq 2 _ rfl
        have q3 := hq 3 _ rfl
        have q4 := hq 4 _ rfl
        refine bodyPost_ret (v := .tuple #[.agg #[.string ⟨#[]⟩, .slice none 0 0, .slice none 0 0, .slice none 0 0, .slice none 0 0], .bool false]) (by simp [results, Try.results32, go_sem, q0, q1, q2, q3, q4]) rfl ?_
        rw [show (pcIn p s) = none from by unfold pcIn; rw [if_pos hm1.out]; exact HNON.out]
        exact ⟨rfl, below5 HBQ.out (by omega)⟩
set_option maxHeartbeats 4000000 in
set_option maxRecDepth 100000 in
theorem skind_any (d : Nat) (p : Pr) (gv pv : Value) (s nm : ByteArray) (w : World) (hp : PrC (cw w) d gv pv p) :
    Calls Try.prog 31 #[.agg #[gv, pv], .string s, .string nm] w fun e w' => e = .returned (.int .i64 (kindIn p s nm)) ∧ Below w.heap.size w w' := by
  obtain ⟨ga, gc, rfl, -, -⟩ := hp.1.form
  obtain ⟨pa, pc, rfl, hl1, hl2⟩ := hp.2.form
  have hpl : p.procs.length ≤ 9223372036854775807 := Nat.le_trans hl1 hl2
  have HP := Lib.hid hp
  clear hp hl1 hl2
  obtain ⟨KK, hKK⟩ : ∃ n, Hid (kindIn p s nm = n) := ⟨_, Lib.hid rfl⟩
  rw [hKK.out]
  go_enter Try.func31, Try.ntmps31
  go_upto_region 1 with fail
  refine cut_world (fun wx => Below w.heap.size w wx ∧ BoxAt wx w.heap.size [.slice ga p.globals.length gc, .slice pa p.procs.length pc]) ⟨boxed w _, box_new w #[.slice ga p.globals.length gc, .slice pa p.procs.length pc] 25⟩ ?_
  rintro w1 ⟨hb1, hx1⟩
  have HB1 := Lib.hid hb1
  have HX1 := Lib.hid hx1
  have HP1 := Lib.hid (PrC.mono (cw_next hb1) HP.out)
  have x0 := hx1 0 _ rfl
  have x1 := hx1 1 _ rfl
  clear hb1 hx1
  go_wp2_with fail
  refine (mayP_any d p _ _ _ HP1.out).mono ?_
  rintro e w2 ⟨rfl, hb2⟩
  obtain ⟨m1, hm1⟩ : ∃ m, Hid (mayP p = m) := ⟨_, Lib.hid rfl⟩
  rw [hm1.out]
  have HB2 := Lib.hid (HB1.out.trans (hb2.mono HB1.out.size))
  have HX2 := Lib.hid (HX1.out.next hb2)
  have HP2 := Lib.hid (PrC.mono (cw_next hb2) HP1.out)
  clear hb2 x0 x1
  cases m1 with
  | false =>
    go_wp2_with fail
    go_ret
    exact ⟨by rw [← hKK.out]; unfold kindIn pcIn; rw [if_neg (by rw [hm1.out]; decide)]; rfl, HB2.out⟩
  | true =>
    have x1 := HX2.out 1 _ rfl
    go_wp2_with fail
    clear x1
    go_loopw [15] (fun i wr => ∃ k : Nat, k ≤ p.procs.length ∧ i = .int .i64 k ∧ (∀ j (hj : j < p.procs.length), j < k → (p.procs[j].nm.toList == s.toList) = false) ∧ Below w2.heap.size w2 wr) (fun i _ => (p.procs.length - intOf i).toNat)
    case atStart => exact ⟨0, by omega, rfl, fun j _ h => absurd h (by omega), Below.refl _ _⟩
    case round =>
      obtain ⟨k, hk, rfl, hno, hbr⟩ := hrel
      obtain ⟨wq, hwq⟩ : ∃ x : World, x = wr := ⟨_, rfl⟩
      subst hwq
      have HNO := Lib.hid hno
      have HBR := Lib.hid hbr
      have HPQ := Lib.hid (PrC.mono (cw_next hbr) HP2.out)
      have HBQ := Lib.hid (HB2.out.trans (hbr.mono HB2.out.size))
      clear hno hbr
      by_cases hlt : k < p.procs.length
      · have hlt' : (k : Int) < (p.procs.length : Int) := by omega
        have h0k : (0 : Int) ≤ (k : Int) := by omega
        have hne : p.procs ≠ [] := by intro h; rw [h] at hlt; simp at hlt
        obtain ⟨g, off, cap', hv, _, hcells⟩ := SlAt.cells HPQ.out.2 hne
        simp only [Value.slice.injEq] at hv
        obtain ⟨rfl, -, rfl⟩ := hv
        obtain ⟨pv, vv, bv, fv, p0, p1, p2, p3, p4, hnm, hps, hvs, hbody, hfin⟩ := hcells k hlt
        have hfa := fun h => fst_at hlt (f := fun f : Pc => f.nm.toList == s.toList) (fun j hj hjk => HNO.out j hj hjk) h
        obtain ⟨f, hf⟩ : ∃ f, Hid (p.procs[k] = f) := ⟨_, Lib.hid rfl⟩
        rw [hf.out] at p0 hnm hps hvs hbody hfin hfa
        obtain ⟨a1, c1, rfl, -, -⟩ := hps.form
        obtain ⟨a2, c2, rfl, -, -⟩ := hvs.form
        obtain ⟨a3, c3, rfl, -, -⟩ := hbody.form
        obtain ⟨a4, c4, rfl, -, -⟩ := hfin.form
        have e0 : wq.cell? ⟨g, off + k * 5, none⟩ = _ := p0
        have e1 : wq.cell? ⟨g, off + k * 5 + 1, none⟩ = _ := p1
        have e2 : wq.cell? ⟨g, off + k * 5 + 2, none⟩ = _ := p2
        have e3 : wq.cell? ⟨g, off + k * 5 + 3, none⟩ = _ := p3
        have e4 : wq.cell? ⟨g, off + k * 5 + 4, none⟩ = _ := p4
        have HNM := Lib.hid hnm
        have HH1 := Lib.hid hps
        have HH2 := Lib.hid hvs
        have HH3 := Lib.hid hbody
        have HH4 := Lib.hid hfin
        have HFA := Lib.hid hfa
        clear hcells hne p0 p1 p2 p3 p4 hnm hps hvs hbody hfin hfa
        go_upto_region 6 with fail
        refine cut_world (fun wx => Below wq.heap.size wq wx ∧ BoxAt wx wq.heap.size [.string f.nm, .slice a1 f.params.length c1, .slice a2 f.vars.length c2, .slice a3 f.body.length c3, .slice a4 f.fin.length c4]) ⟨boxed wq _, box_new wq #[.string f.nm, .slice a1 f.params.length c1, .slice a2 f.vars.length c2, .slice a3 f.body.length c3, .slice a4 f.fin.length c4] 55⟩ ?_
        clear e0 e1 e2 e3 e4
        rintro w5 ⟨hb5, hx5⟩
        have HB5 := Lib.hid hb5
        have x0 := hx5 0 _ rfl
        have x1 := hx5 1 _ rfl
        have x2 := hx5 2 _ rfl
        have x3 := hx5 3 _ rfl
        have x4 := hx5 4 _ rfl
        have HBW5 := Lib.hid (HBQ.out.trans (hb5.mono HBQ.out.size))
        clear hb5 hx5
        cases hc : (f.nm.toList == s.toList) with
        | true =>
          have hfa := HFA.out hc
          have hk : KK = kindP p.globals f nm := by
            rw [← hKK.out]
            unfold kindIn pcIn pcOf
            rw [if_pos hm1.out, hfa]
          have HK := Lib.hid hk
          clear hfa hk
          have y0 := (HX2.out.next HBR.out).next HB5.out 0 _ rfl
          have y1 := (HX2.out.next HBR.out).next HB5.out 1 _ rfl
          go_wp2_with fail
          refine (kind_any p.globals f nm _ _ a1 a2 a3 a4 c1 c2 c3 c4 _ (StrsAt.next (StrsAt.next (StrC.to HP2.out.1) HBR.out) HB5.out) (SlAt.imp HH1.out fun _ _ _ _ => PaAt.mono (cw_next HB5.out)) (StrsAt.next (StrC.to HH2.out) HB5.out)).mono ?_
          rintro e w6 ⟨rfl, hb6⟩
          rw [← HK.out]
          have HBZ := Lib.hid (HBW5.out.trans (hb6.mono HBW5.out.size))
          clear hb6
          go_wp2_with fail
          go_ret
          exact ⟨rfl, HBZ.out⟩
        | false =>
          have HC := Lib.hid hc
          go_wp2_with fail
          go_roundw
          case rel =>
            refine ⟨k + 1, by omega, by go_num, fun j hj hjk => ?_, HBR.out.trans (HB5.out.mono HBR.out.size)⟩
            rcases Nat.lt_or_ge j k with h | h
            · exact HNO.out j hj h
            · obtain rfl : j = k := by omega
              rw [hf.out]; exact HC.out
          case measure => simp [intOf]; omega
      · have hlt' : ¬ (k : Int) < (p.procs.length : Int) := by omega
        have hfn : p.procs.find? (fun f : Pc => f.nm.toList == s.toList) = none := fst_no fun j hj => HNO.out j hj (by omega)
        have HNON := Lib.hid hfn
        clear hfn
        go_wp2_with fail
        go_ret
        refine ⟨?_, HBQ.out⟩
        rw [← hKK.out]
        unfold kindIn pcIn pcOf
        rw [if_pos hm1.out, HNON.out]
        rfl
end Go.Proofs.Ytghlmengcidmdaa.Tr
end
section
/- What scoped of the laws on scope tells: true. Conditions: none. -/
namespace Go.Proofs.Ytghlmengcidmdaa.Tr
open Go.RowKit Go.Proofs.Ytghlmengcidmdaa.Lx Go.Proofs.Ytghlmengcidmdaa.Wd
def someQ : Pc := ⟨sP, [⟨sX, false⟩, ⟨sY, true⟩], [], someBody, [sE]⟩
theorem some_pc : pcIn someP sP = some someQ := by kernel_rfl
theorem some_k1 : kindIn someP sP sY = 3 := by kernel_rfl
theorem some_k2 : kindIn someP sMain sV = 4 := by kernel_rfl
theorem some_vars : varsIn someP sP = [sG, sX, sY] := by kernel_rfl
theorem none_scope : scopeP ⟨[], []⟩ = (5, 0) := by kernel_rfl
set_option maxHeartbeats 1000000 in
set_option maxRecDepth 100000 in
theorem scoped_any (w : World) : Calls Try.prog 30 #[] w fun e w' => e = .returned (.bool true) ∧ Below w.heap.size w w' := by
  go_enter Try.func30, Try.ntmps30
  go_wp2_with fail
  refine (some_any _).mono ?_
  rintro e w1 ⟨gv, pv, rfl, hp, hb1⟩
  obtain ⟨ga, gc, rfl, -, -⟩ := hp.1.form
  obtain ⟨pa, pc, rfl, -, -⟩ := hp.2.form
  have HP1 := Lib.hid hp
  have HB1 := Lib.hid hb1
  clear hp hb1
  go_upto_region 2 with fail
  refine cut_world (fun wx => Below w1.heap.size w1 wx ∧ BoxAt wx w1.heap.size [.slice ga someP.globals.length gc, .slice pa someP.procs.length pc]) ⟨boxed w1 _, box_new w1 #[.slice ga someP.globals.length gc, .slice pa someP.procs.length pc] 25⟩ ?_
  rintro w2 ⟨hb2, hx2⟩
  have HX2 := Lib.hid hx2
  have HP2 := Lib.hid (PrC.mono (cw_next hb2) HP1.out)
  have HB2 := Lib.hid (HB1.out.trans (hb2.mono HB1.out.size))
  clear hb2 hx2
  have x0 := HX2.out 0 _ rfl
  have x1 := HX2.out 1 _ rfl
  go_wp2_with fail
  refine (sproc_any 3 someP _ _ sP _ HP2.out some_wt6).mono ?_
  rw [some_pc]
  rintro e w3 ⟨a1, a2, a3, a4, c1, c2, c3, c4, rfl, hh, hnm, hb3⟩
  have HX3 := Lib.hid (HX2.out.next hb3)
  have HP3 := Lib.hid (PrC.mono (cw_next hb3) HP2.out)
  have HB3 := Lib.hid (HB2.out.trans (hb3.mono HB2.out.size))
  clear hb3 x0 x1 hh hnm
  go_upto_region 3 with fail
  refine cut_world (fun wx => Below w3.heap.size w3 wx ∧ BoxAt wx w3.heap.size [.string someQ.nm, .slice a1 someQ.params.length c1, .slice a2 someQ.vars.length c2, .slice a3 someQ.body.length c3, .slice a4 someQ.fin.length c4]) ⟨boxed w3 _, box_new w3 #[.string someQ.nm, .slice a1 someQ.params.length c1, .slice a2 someQ.vars.length c2, .slice a3 someQ.body.length c3, .slice a4 someQ.fin.length c4] 55⟩ ?_
  rintro w4 ⟨hb4, hy4⟩
  have HY4 := Lib.hid hy4
  have HX4 := Lib.hid (HX3.out.next hb4)
  have HP4 := Lib.hid (PrC.mono (cw_next hb4) HP3.out)
  have HB4 := Lib.hid (HB3.out.trans (hb4.mono HB3.out.size))
  clear hb4 hy4
  have x0 := HX4.out 0 _ rfl
  have x1 := HX4.out 1 _ rfl
  go_wp2_with fail
  refine (skind_any 3 someP _ _ sP sY _ HP4.out).mono ?_
  rw [some_k1]
  rintro e w5 ⟨rfl, hb5⟩
  have HY5 := Lib.hid (HY4.out.next hb5)
  have HX5 := Lib.hid (HX4.out.next hb5)
  have HP5 := Lib.hid (PrC.mono (cw_next hb5) HP4.out)
  have HB5 := Lib.hid (HB4.out.trans (hb5.mono HB4.out.size))
  clear hb5 x0 x1
  have x0 := HX5.out 0 _ rfl
  have x1 := HX5.out 1 _ rfl
  go_wp2_with fail
  refine (skind_any 3 someP _ _ sMain sV _ HP5.out).mono ?_
  rw [some_k2]
  rintro e w6 ⟨rfl, hb6⟩
  have HY6 := Lib.hid (HY5.out.next hb6)
  have HX6 := Lib.hid (HX5.out.next hb6)
  have HP6 := Lib.hid (PrC.mono (cw_next hb6) HP5.out)
  have HB6 := Lib.hid (HB5.out.trans (hb6.mono HB5.out.size))
  clear hb6 x0 x1
  have x0 := HX6.out 0 _ rfl
  have x1 := HX6.out 1 _ rfl
  go_wp2_with fail
  refine (svars_any 3 someP _ _ sP _ HP6.out (RoomP.of (Nat.le_trans some_wt6 (by decide)))).mono ?_
  rw [some_vars]
  rintro e w7 ⟨v7, rfl, hr7, hb7⟩
  obtain ⟨va, vc, rfl⟩ := ownsForm hr7.1
  have HY7 := Lib.hid (HY6.out.next hb7)
  have HB7 := Lib.hid (HB6.out.trans (hb7.mono HB6.out.size))
  clear hb7 x0 x1 hr7
  have y3 : w7.cell? ⟨w3.heap.size, 3, none⟩ = some (.slice a3 3 c3) := HY7.out 3 _ rfl
  simp only [List.length_cons, List.length_nil]
  go_wp2_with fail
  refine (scheck_any 3 ⟨[], []⟩ _ _ _ ⟨SlAt.nil, SlAt.nil⟩ (RoomP.of (by unfold wtPr wtTs; simp))).mono ?_
  rw [none_scope]
  rintro e w8 ⟨rfl, hb8⟩
  have HB8 := Lib.hid (HB7.out.trans (hb8.mono HB7.out.size))
  clear hb8 y3
  have hfd := run_code 5 0
  go_wp2_with fail
  go_ret
  exact ⟨rfl, HB8.out⟩
end Go.Proofs.Ytghlmengcidmdaa.Tr
end
section
/- What Stmt, ProcOf, Ids and Pick of the reference tell. Conditions: what they are handed lies in memory. -/
namespace Go.Proofs.Ytghlmengcidmdaa.Tr
open Go.RowKit Go.Proofs.Ytghlmengcidmdaa.Lx Go.Proofs.Ytghlmengcidmdaa.Wd
set_option linter.unusedSimpArgs false
theorem RowN.app {B : Nat} {w : World} {v : Value} {l m : List Int} (h : w.ownsRow B 3 1 v (l.length + m.length) (l.map (Value.int .i64) ++ m.map (Value.int .i64))) : RowN B w v (l ++ m) := by
  unfold RowN; simpa using h
theorem RowN.len {B n c : Nat} {w : World} {a : Option Addr} {l : List Int} (h : RowN B w (.slice a n c) l) : n = l.length := by
  have hown := h
  unfold RowN at hown
  rcases hown.2 with ⟨hv, hn⟩ | ⟨g, cap, cur, hv, h1, h2, h3, h4, h5, h6⟩
  · injection hv with e1 e2 e3; omega
  · injection hv with e1 e2 e3
end Go.Proofs.Ytghlmengcidmdaa.Tr
end
section
/- A statement by its id; what the checks tell of a program in which one statement is put for another. No program's code. Conditions: the program may be. -/
namespace Go.Proofs.Ytghlmengcidmdaa.Tr
open Go.RowKit Go.Proofs.Ytghlmengcidmdaa.Lx Go.Proofs.Ytghlmengcidmdaa.Wd
theorem same_at {f : Pc} {n : Int} (h : mayPc n f = true) {j k : Nat} (hj : j < (stsOf f).length) (hk : k < (stsOf f).length) (he : (stsOf f)[j].id = (stsOf f)[k].id) : j = k := by
  rw [sts_at_id h, sts_at_id h] at he
  omega
/-- Names well, the statement put not known: that is told. -/
theorem scope_put_bad {p : Pr} (h : (scopeP p).1 = 0) {t s : St} {k : Nat} (hs : Picked p t.id s k) (hm : mayP (putPr t p) = true) (hk : knownS p.globals (p.procs[k]'hs.lt) (procNs p) t = false) : scopeP (putPr t p) = (5, t.id) := by
  obtain ⟨h1, h2, h3⟩ := scope_code h
  have hkl : k < (putPr t p).procs.length := by rw [show (putPr t p).procs = p.procs.map (putPc t) from rfl, List.length_map]; exact hs.lt
  have hst : ∀ j (hj : j < p.procs.length) m (hmm : m < (stsOf (putPc t p.procs[j])).length), ∃ hm' : m < (stsOf p.procs[j]).length, (stsOf (putPc t p.procs[j]))[m] = putS t (stsOf p.procs[j])[m] := fun j hj m hmm => by
    have hm' : m < (stsOf p.procs[j]).length := by rwa [sts_put, List.length_map] at hmm
    exact ⟨hm', by simp only [sts_put]; exact List.getElem_map _⟩
  refine scope_at hm (by rw [head_put]; exact h2) hkl (fun j hj hjk => ?_) ?_
  · have hj' : j < p.procs.length := by rwa [show (putPr t p).procs = p.procs.map (putPc t) from rfl, List.length_map] at hj
    have he : (putPr t p).procs[j] = putPc t p.procs[j] := List.getElem_map _
    obtain ⟨g1, g2, g3⟩ := pc_parts (h3 _ (List.getElem_mem hj'))
    rw [he, procNs_put]
    show pcFault p.globals (procNs p) _ = none
    refine pc_ok g1 g2 fun m hmm => ?_
    obtain ⟨hmm', he2⟩ := hst j hj' m hmm
    rw [he2, known_put]
    have hid : (stsOf p.procs[j])[m].id ≠ t.id := fun e => by
      have := same_pc h1 hj' hs.lt (List.getElem_mem hmm') hs.st (by rw [e, hs.id])
      omega
    rw [known_same (putS_out hid)]
    exact g3 _ (List.getElem_mem hmm')
  · have he : (putPr t p).procs[k] = putPc t (p.procs[k]'hs.lt) := List.getElem_map _
    obtain ⟨g1, g2, g3⟩ := pc_parts (h3 _ (List.getElem_mem hs.lt))
    obtain ⟨m0, -, hm0⟩ := mayPs_at (mayP_procs h1) (by omega) k hs.lt
    obtain ⟨m, hml, hms⟩ := List.getElem_of_mem hs.st
    have hmm : m < (stsOf (putPc t (p.procs[k]'hs.lt))).length := by rw [sts_put, List.length_map]; exact hml
    rw [he, procNs_put]
    show pcFault p.globals (procNs p) _ = some t.id
    have hid : (stsOf (p.procs[k]'hs.lt))[m].id = t.id := by rw [hms, hs.id]
    obtain ⟨_, he2⟩ := hst k hs.lt m hmm
    have hB : knownS p.globals (putPc t (p.procs[k]'hs.lt)) (procNs p) (stsOf (putPc t (p.procs[k]'hs.lt)))[m] = false := by
      rw [he2, known_put, known_same (putS_at hid)]
      exact hk
    have hA : ∀ j (hj : j < (stsOf (putPc t (p.procs[k]'hs.lt))).length), j < m → knownS p.globals (putPc t (p.procs[k]'hs.lt)) (procNs p) (stsOf (putPc t (p.procs[k]'hs.lt)))[j] = true := fun j hj hjm => by
      obtain ⟨hjl, he3⟩ := hst k hs.lt j hj
      rw [he3, known_put]
      have hid2 : (stsOf (p.procs[k]'hs.lt))[j].id ≠ t.id := fun e => by
        have := same_at hm0 hjl hml (by rw [e, hid])
        omega
      rw [known_same (putS_out hid2)]
      exact g3 _ (List.getElem_mem hjl)
    rw [pc_st (f := putPc t (p.procs[k]'hs.lt)) (k := m) g1 g2 hmm hA hB, he2, putS_id, hid]
end Go.Proofs.Ytghlmengcidmdaa.Tr
end
section
/- What Used of the reference tells: where it says no a program does not say the name. Conditions: the program lies in memory and may be, and there is room. -/
namespace Go.Proofs.Ytghlmengcidmdaa.Tr
open Go.RowKit Go.Proofs.Ytghlmengcidmdaa.Lx Go.Proofs.Ytghlmengcidmdaa.Wd
set_option linter.unusedSimpArgs false
/-- A name that a program does not say. -/
structure Unsaid (p : Pr) (s : ByteArray) : Prop where
  glob : s ∉ p.globals
  nm : ∀ f ∈ p.procs, f.nm ≠ s
  own : ∀ f ∈ p.procs, s ∉ ownNs f
def UsedTold (p : Pr) (s : ByteArray) (w : World) (e : Ending) (w' : World) : Prop := ∃ b, e = .returned (.bool b) ∧ (b = false → Unsaid p s) ∧ Below w.heap.size w w'
set_option maxHeartbeats 8000000 in
set_option maxRecDepth 100000 in
theorem used_any (d : Nat) (p : Pr) (gv pv : Value) (s : ByteArray) (w : World) (hp : PrC (cw w) d gv pv p) (hroom : RoomP p) (hmay : mayP p = true) :
    Calls Try.prog 42 #[.agg #[gv, pv], .string s] w (UsedTold p s w) := by
  have HROOM := Lib.hid hroom
  have HMAY := Lib.hid hmay
  clear hroom hmay
  obtain ⟨ga, gc, rfl, hgl1, hgl2⟩ := hp.1.form
  obtain ⟨pa, pc, rfl, hl1, hl2⟩ := hp.2.form
  have hpl : p.procs.length ≤ 9223372036854775807 := Nat.le_trans hl1 hl2
  have HP := Lib.hid hp
  clear hp hl1 hl2 hgl1 hgl2
  go_enter Try.func42, Try.ntmps42
  go_upto_region 1 with fail
  refine cut_world (fun wx => Below w.heap.size w wx ∧ BoxAt wx w.heap.size [.slice ga p.globals.length gc, .slice pa p.procs.length pc]) ⟨boxed _ _, box_new w #[.slice ga p.globals.length gc, .slice pa p.procs.length pc] 25⟩ ?_
  rintro w1 ⟨hb1, hx1⟩
  have HB1 := Lib.hid hb1
  have HX1 := Lib.hid hx1
  have HP1 := Lib.hid (PrC.mono (cw_next hb1) HP.out)
  clear hb1 hx1
  have x0 := HX1.out 0 _ rfl
  go_wp2_with fail
  refine (in_any p.globals _ s _ (StrC.to HP1.out.1)).mono ?_
  rintro e w' ⟨rfl, rfl⟩
  obtain ⟨GB, hGB⟩ : ∃ b, Hid ((at_ s p.globals).isSome = b) := ⟨_, Lib.hid rfl⟩
  rw [hGB.out]
  clear x0
  cases GB with
  | true =>
    go_wp2_with fail
    go_ret
    exact ⟨true, rfl, (fun h => by cases h), HB1.out⟩
  | false =>
    have HG : Hid (s ∉ p.globals) := Lib.hid (inB_no.1 hGB.out)
    have x1 := HX1.out 1 _ rfl
    go_wp2_with fail
    clear x1
    go_loopw [16] (fun i wr => ∃ k : Nat, k ≤ p.procs.length ∧ i = .int .i64 k ∧ (∀ j (hj : j < p.procs.length), j < k → p.procs[j].nm ≠ s ∧ s ∉ ownNs p.procs[j]) ∧ Below w1.heap.size w1 wr) (fun i _ => (p.procs.length - intOf i).toNat)
    case atStart => exact ⟨0, by omega, rfl, fun j _ h => absurd h (by omega), Below.refl _ _⟩
    case round =>
      obtain ⟨k, hk, rfl, hno, hbr⟩ := hrel
      obtain ⟨w2, hw2⟩ : ∃ x : World, x = wr := ⟨_, rfl⟩
      subst hw2
      have HNO := Lib.hid hno
      have HBR2 := Lib.hid hbr
      have HX2 := Lib.hid (HX1.out.next hbr)
      have HP2 := Lib.hid (PrC.mono (cw_next hbr) HP1.out)
      have HB2 := Lib.hid (HB1.out.trans (hbr.mono HB1.out.size))
      clear hno hbr
      by_cases hlt : k < p.procs.length
      · have hlt' : (k : Int) < (p.procs.length : Int) := by omega
        have h0k : (0 : Int) ≤ (k : Int) := by omega
        obtain ⟨g, off, hvp, qv, vv, bv, fv, p0, p1, p2, p3, p4, hnm, hps, hvs, hbody, hfin⟩ := procs_at HP2.out.2 hlt
        cases hvp
        obtain ⟨f, hf⟩ : ∃ f, Hid (p.procs[k] = f) := ⟨_, Lib.hid rfl⟩
        rw [hf.out] at p0 hnm hps hvs hbody hfin
        obtain ⟨a1, c1, rfl, -, -⟩ := hps.form
        obtain ⟨a2, c2, rfl, -, -⟩ := hvs.form
        obtain ⟨a3, c3, rfl, -, -⟩ := hbody.form
        obtain ⟨a4, c4, rfl, -, -⟩ := hfin.form
        have e0 : w2.cell? ⟨g, off + k * 5, none⟩ = _ := p0
        have e1 : w2.cell? ⟨g, off + k * 5 + 1, none⟩ = _ := p1
        have e2 : w2.cell? ⟨g, off + k * 5 + 2, none⟩ = _ := p2
        have e3 : w2.cell? ⟨g, off + k * 5 + 3, none⟩ = _ := p3
        have e4 : w2.cell? ⟨g, off + k * 5 + 4, none⟩ = _ := p4
        have HNM := Lib.hid hnm
        have HH1 := Lib.hid hps
        have HH2 := Lib.hid hvs
        have HH3 := Lib.hid hbody
        have HH4 := Lib.hid hfin
        clear p0 p1 p2 p3 p4 hnm hps hvs hbody hfin
        have HK := Lib.hid hf.out
        have HMEM : Hid (f ∈ p.procs) := Lib.hid (by rw [← hf.out]; exact List.getElem_mem hlt)
        go_upto_region 6 with fail
        refine cut_world (fun wx => Below w2.heap.size w2 wx ∧ BoxAt wx w2.heap.size [.string f.nm, .slice a1 f.params.length c1, .slice a2 f.vars.length c2, .slice a3 f.body.length c3, .slice a4 f.fin.length c4]) ⟨boxed w2 _, box_new w2 #[.string f.nm, .slice a1 f.params.length c1, .slice a2 f.vars.length c2, .slice a3 f.body.length c3, .slice a4 f.fin.length c4] 55⟩ ?_
        clear e0 e1 e2 e3 e4
        rintro w3 ⟨hb3, hy3⟩
        have HY3 := Lib.hid hy3
        have HX3 := Lib.hid (HX2.out.next hb3)
        have HP3 := Lib.hid (PrC.mono (cw_next hb3) HP2.out)
        have HB3 := Lib.hid (HB2.out.trans (hb3.mono HB2.out.size))
        have HBR3 := Lib.hid (HBR2.out.trans (hb3.mono HBR2.out.size))
        have HC3 := Lib.hid (StC.mono (cw_next hb3) HH3.out)
        have HQ3 := Lib.hid (SlAt.imp HH1.out fun _ _ _ _ => PaAt.mono (cw_next hb3))
        have HV3 := Lib.hid (StrsAt.next (StrC.to HH2.out) hb3)
        have HE3 := Lib.hid (StrsAt.next (StrC.to HH4.out) hb3)
        have hown := HROOM.out.own f HMEM.out
        clear hb3 hy3
        have y0 := HY3.out 0 _ rfl
        have y1 := HY3.out 1 _ rfl
        have y2 := HY3.out 2 _ rfl
        have y3 := HY3.out 3 _ rfl
        have y4 := HY3.out 4 _ rfl
        cases hnb : (f.nm.toList == s.toList) with
        | true =>
          go_wp2_with fail
          go_ret
          exact ⟨true, rfl, (fun h => by cases h), HB3.out⟩
        | false =>
          have HNB := Lib.hid (same_no.1 hnb)
          go_wp2_with fail
          refine (rparams_any f _ _ _ _ _ _ _ _ _ HQ3.out HV3.out (by omega)).mono ?_
          rintro e w4 ⟨v4, rfl, hr4, hb4⟩
          have HR4 := Lib.hid (hr4.strs (by rw [List.length_map]; omega))
          obtain ⟨pa4, pc4, rfl⟩ := ownsForm hr4.1
          rw [List.length_map] at HR4
          try rw [List.length_map]
          have HX4 := Lib.hid (HX3.out.next hb4)
          have HP4 := Lib.hid (PrC.mono (cw_next hb4) HP3.out)
          have HB4 := Lib.hid (HB3.out.trans (hb4.mono HB3.out.size))
          have HBR4 := Lib.hid (HBR3.out.trans (hb4.mono HBR3.out.size))
          have HY4 := Lib.hid (HY3.out.next hb4)
          have HC4 := Lib.hid (StC.mono (cw_next hb4) HC3.out)
          have HV4 := Lib.hid (HV3.out.next hb4)
          have HE4 := Lib.hid (HE3.out.next hb4)
          clear hb4 hr4 y0 y1 y2 y3 y4 hnb
          go_wp2_with fail
          refine (in_any (f.params.map Pa.nm) _ s _ HR4.out).mono ?_
          rintro e w' ⟨rfl, rfl⟩
          obtain ⟨B1, hB1⟩ : ∃ b, Hid ((at_ s (f.params.map Pa.nm)).isSome = b) := ⟨_, Lib.hid rfl⟩
          rw [hB1.out]
          have y2 := HY4.out 2 _ rfl
          have y4 := HY4.out 4 _ rfl
          cases B1 with
          | true =>
            go_wp2_with fail
            go_ret
            exact ⟨true, rfl, (fun h => by cases h), HB4.out⟩
          | false =>
            go_wp2_with fail
            refine (in_any f.vars _ s _ HV4.out).mono ?_
            rintro e w' ⟨rfl, rfl⟩
            obtain ⟨B2, hB2⟩ : ∃ b, Hid ((at_ s f.vars).isSome = b) := ⟨_, Lib.hid rfl⟩
            rw [hB2.out]
            cases B2 with
            | true =>
              go_wp2_with fail
              go_ret
              exact ⟨true, rfl, (fun h => by cases h), HB4.out⟩
            | false =>
              go_wp2_with fail
              refine (in_any f.fin _ s _ HE4.out).mono ?_
              rintro e w' ⟨rfl, rfl⟩
              obtain ⟨B3, hB3⟩ : ∃ b, Hid ((at_ s f.fin).isSome = b) := ⟨_, Lib.hid rfl⟩
              rw [hB3.out]
              cases B3 with
              | true =>
                go_wp2_with fail
                go_ret
                exact ⟨true, rfl, (fun h => by cases h), HB4.out⟩
              | false =>
                have HOWN : Hid (s ∉ ownNs f) := Lib.hid (by
                  unfold ownNs
                  rw [List.mem_append, not_or]
                  exact ⟨inB_no.1 hB1.out, inB_no.1 hB2.out⟩)
                clear y2 y4
                go_upto_region 8 with fail
                have y0 := HY4.out 0 _ rfl
                have y1 := HY4.out 1 _ rfl
                have y2 := HY4.out 2 _ rfl
                have y3 := HY4.out 3 _ rfl
                have y4 := HY4.out 4 _ rfl
                go_wp2_with fail
                refine (flatOf_any d f _ _ _ _ _ HC4.out).mono ?_
                rintro e w5 ⟨v5, rfl, hs5, hb5⟩
                rw [flat_its HMAY.out HMEM.out] at hs5
                obtain ⟨PT, hPT⟩ : ∃ L, Hid (itsOf f = L) := ⟨_, Lib.hid rfl⟩
                have hsaid : ∀ t ∈ PT, (saidS t.s).length ≤ 300000 := fun t ht => HROOM.out.said f HMEM.out t.s (List.mem_map.2 ⟨t, by rw [hPT.out]; exact ht, rfl⟩)
                rw [hPT.out] at hs5
                obtain ⟨ia, ic, rfl, hil1, hil2⟩ := hs5.form
                have hil : PT.length ≤ 9223372036854775807 := Nat.le_trans hil1 hil2
                have HL5 := Lib.hid hs5
                have HSAID := Lib.hid hsaid
                have HX5 := Lib.hid (HX4.out.next hb5)
                have HP5 := Lib.hid (PrC.mono (cw_next hb5) HP4.out)
                have HB5 := Lib.hid (HB4.out.trans (hb5.mono HB4.out.size))
                have HBR5 := Lib.hid (HBR4.out.trans (hb5.mono HBR4.out.size))
                have HY5 := Lib.hid (HY4.out.next hb5)
                clear hs5 hb5 hil1 hil2 hsaid y0 y1 y2 y3 y4
                go_wp2_with fail
                obtain ⟨W5, hW5⟩ : ∃ x : World, x = w5 := ⟨_, rfl⟩
                subst hW5
                go_loopw [45] (fun i wr => ∃ q : Nat, q ≤ PT.length ∧ i = .int .i64 q ∧ Below W5.heap.size W5 wr) (fun i _ => (PT.length - intOf i).toNat)
                case atStart => exact ⟨0, by omega, rfl, Below.refl _ _⟩
                case round =>
                  obtain ⟨q, hq, rfl, hbq⟩ := hrel
                  obtain ⟨w6, hw6⟩ : ∃ x : World, x = wr := ⟨_, rfl⟩
                  subst hw6
                  have HBQ6 := Lib.hid hbq
                  have HX6 := Lib.hid (HX5.out.next hbq)
                  have HP6 := Lib.hid (PrC.mono (cw_next hbq) HP5.out)
                  have HB6 := Lib.hid (HB5.out.trans (hbq.mono HB5.out.size))
                  have HBR6 := Lib.hid (HBR5.out.trans (hbq.mono HBR5.out.size))
                  have HY6 := Lib.hid (HY5.out.next hbq)
                  have HL6 := Lib.hid (SlAt.imp HL5.out fun _ _ _ _ => ItAt.mono (cw_next hbq))
                  clear hbq
                  by_cases hlq : q < PT.length
                  · have hlq' : (q : Int) < (PT.length : Int) := by omega
                    have h0q : (0 : Int) ≤ (q : Int) := by omega
                    obtain ⟨gi, oi, hvi, hfi⟩ := its6_at HL6.out hlq
                    cases hvi
                    have hsd := HSAID.out PT[q] (List.getElem_mem hlq)
                    obtain ⟨t, ht⟩ : ∃ t, Hid (PT[q] = t) := ⟨_, Lib.hid rfl⟩
                    rw [ht.out] at hfi hsd
                    obtain ⟨la, ka, aa, ta, ea, lc, kc, ac, tc, ec, hce, hha, hok, j1, j2, j3, j4, j5, j6⟩ := it_open hfi
                    have HCE := Lib.hid hce
                    have HHA := Lib.hid (hha w6 (fun _ _ _ h => h))
                    have HOK := Lib.hid hok
                    have HJ3 := Lib.hid j3
                    have HSD := Lib.hid hsd
                    clear hfi hce hha hok j1 j2 j3 j4 j5 j6 hsd
                    have HI0 : Hid (BoxAt (w6.alloc (.cells #[.int .i64 0, .int .i64 0, .slice none 0 0, .string ⟨#[]⟩, .string ⟨#[]⟩, .int .i64 0, .int .i64 0, .string ⟨#[]⟩, .slice none 0 0, .bool false, .slice none 0 0, .slice none 0 0, .slice none 0 0, .int .i64 0, .int .i64 0, .bool false] 76)) w6.heap.size [.int .i64 0, .int .i64 0, .slice none 0 0, .string ⟨#[]⟩, .string ⟨#[]⟩, .int .i64 0, .int .i64 0, .string ⟨#[]⟩, .slice none 0 0, .bool false, .slice none 0 0, .slice none 0 0, .slice none 0 0, .int .i64 0, .int .i64 0, .bool false]) := Lib.hid (box_new w6 #[.int .i64 0, .int .i64 0, .slice none 0 0, .string ⟨#[]⟩, .string ⟨#[]⟩, .int .i64 0, .int .i64 0, .string ⟨#[]⟩, .slice none 0 0, .bool false, .slice none 0 0, .slice none 0 0, .slice none 0 0, .int .i64 0, .int .i64 0, .bool false] 76)
                    have HF0 : Hid (Free (w6.alloc (.cells #[.int .i64 0, .int .i64 0, .slice none 0 0, .string ⟨#[]⟩, .string ⟨#[]⟩, .int .i64 0, .int .i64 0, .string ⟨#[]⟩, .slice none 0 0, .bool false, .slice none 0 0, .slice none 0 0, .slice none 0 0, .int .i64 0, .int .i64 0, .bool false] 76)) w6.heap.size) := Lib.hid (fun j => by simp [go_sem])
                    have hzi := World.size_alloc w6 (.cells #[.int .i64 0, .int .i64 0, .slice none 0 0, .string ⟨#[]⟩, .string ⟨#[]⟩, .int .i64 0, .int .i64 0, .string ⟨#[]⟩, .slice none 0 0, .bool false, .slice none 0 0, .slice none 0 0, .slice none 0 0, .int .i64 0, .int .i64 0, .bool false] 76)
                    go_upto_region 11 with (first | refine wpList_load_mid rfl 76 (.tmp 47) rfl gi (oi + q * 16) rfl [.int .i64 t.s.id, .int .i64 t.s.kind, .slice la t.s.labels.length lc, .string t.s.nm, .string t.s.proc, .int .i64 t.s.x.op, .int .i64 t.s.x.n, .string t.s.x.nm, .slice ka t.s.x.ks.length kc, .bool t.s.has, .slice aa t.s.args.length ac, .slice ta t.s.thn.length tc, .slice ea t.s.els.length ec, .int .i64 t.deep, .int .i64 t.inn, .bool t.els] _ (fun j v hv => HCE.out j v hv) Try.underlying76 rfl (by kernel_rfl) ?_ | refine wpList_store_mid rfl 76 (.tmp 8) (.tmp 48) rfl w6.heap.size 0 #[.int .i64 t.s.id, .int .i64 t.s.kind, .slice la t.s.labels.length lc, .string t.s.nm, .string t.s.proc, .int .i64 t.s.x.op, .int .i64 t.s.x.n, .string t.s.x.nm, .slice ka t.s.x.ks.length kc, .bool t.s.has, .slice aa t.s.args.length ac, .slice ta t.s.thn.length tc, .slice ea t.s.els.length ec, .int .i64 t.deep, .int .i64 t.inn, .bool t.els] rfl rfl (box_there (n := 16) HI0.out HF0.out (by simp)) (by kernel_rfl) (by simp [Value.oneCell']) ?_)
                    refine cut_world (fun wx => Below w6.heap.size w6 wx ∧ BoxAt wx w6.heap.size [.int .i64 t.s.id, .int .i64 t.s.kind, .slice la t.s.labels.length lc, .string t.s.nm, .string t.s.proc, .int .i64 t.s.x.op, .int .i64 t.s.x.n, .string t.s.x.nm, .slice ka t.s.x.ks.length kc, .bool t.s.has, .slice aa t.s.args.length ac, .slice ta t.s.thn.length tc, .slice ea t.s.els.length ec, .int .i64 t.deep, .int .i64 t.inn, .bool t.els]) ⟨setCells_below _ _ (boxed w6 _) (Nat.le_refl _), box_over (old := [.int .i64 0, .int .i64 0, .slice none 0 0, .string ⟨#[]⟩, .string ⟨#[]⟩, .int .i64 0, .int .i64 0, .string ⟨#[]⟩, .slice none 0 0, .bool false, .slice none 0 0, .slice none 0 0, .slice none 0 0, .int .i64 0, .int .i64 0, .bool false]) (xs := [.int .i64 t.s.id, .int .i64 t.s.kind, .slice la t.s.labels.length lc, .string t.s.nm, .string t.s.proc, .int .i64 t.s.x.op, .int .i64 t.s.x.n, .string t.s.x.nm, .slice ka t.s.x.ks.length kc, .bool t.s.has, .slice aa t.s.args.length ac, .slice ta t.s.thn.length tc, .slice ea t.s.els.length ec, .int .i64 t.deep, .int .i64 t.inn, .bool t.els]) (rest := []) HI0.out HF0.out rfl⟩ ?_
                    clear hzi HI0 HF0
                    rintro w7 ⟨hb7, ht7⟩
                    have HT7 := Lib.hid ht7
                    have HH7 := Lib.hid (HHA.out.next hb7)
                    have HX7 := Lib.hid (HX6.out.next hb7)
                    have HP7 := Lib.hid (PrC.mono (cw_next hb7) HP6.out)
                    have HB7 := Lib.hid (HB6.out.trans (hb7.mono HB6.out.size))
                    have HBR7 := Lib.hid (HBR6.out.trans (hb7.mono HBR6.out.size))
                    have HBQ7 := Lib.hid (HBQ6.out.trans (hb7.mono HBQ6.out.size))
                    have HY7 := Lib.hid (HY6.out.next hb7)
                    clear hb7 ht7
                    have t0 := HT7.out 0 _ rfl
                    have t1 := HT7.out 1 _ rfl
                    have t2 := HT7.out 2 _ rfl
                    have t3 := HT7.out 3 _ rfl
                    have t4 := HT7.out 4 _ rfl
                    have t5 := HT7.out 5 _ rfl
                    have t6 := HT7.out 6 _ rfl
                    have t7 := HT7.out 7 _ rfl
                    have t8 := HT7.out 8 _ rfl
                    have t9 := HT7.out 9 _ rfl
                    have t10 := HT7.out 10 _ rfl
                    have t11 := HT7.out 11 _ rfl
                    have t12 := HT7.out 12 _ rfl
                    go_wp2_with fail
                    refine (in_any t.s.labels _ s _ (StrC.to HH7.out.lab)).mono ?_
                    rintro e w' ⟨rfl, rfl⟩
                    obtain ⟨B4, hB4⟩ : ∃ b, Hid ((at_ s t.s.labels).isSome = b) := ⟨_, Lib.hid rfl⟩
                    rw [hB4.out]
                    cases B4 with
                    | true =>
                      go_wp2_with fail
                      go_ret
                      exact ⟨true, rfl, (fun h => by cases h), HB7.out⟩
                    | false =>
                      cases hnn : (t.s.nm.toList == s.toList) with
                      | true =>
                        go_wp2_with fail
                        go_ret
                        exact ⟨true, rfl, (fun h => by cases h), HB7.out⟩
                      | false =>
                        cases hpp : (t.s.proc.toList == s.toList) with
                        | true =>
                          go_wp2_with fail
                          go_ret
                          exact ⟨true, rfl, (fun h => by cases h), HB7.out⟩
                        | false =>
                          go_wp2_with fail
                          refine (rsaid_any d t.s la ka aa ta ea lc kc ac tc ec _ HH7.out HOK.out HJ3.out (by have := HSD.out; omega)).mono ?_
                          rintro e w8 ⟨v8, rfl, hr8, hb8⟩
                          obtain ⟨LS, hLS⟩ : ∃ L, Hid (saidS t.s = L) := ⟨_, Lib.hid rfl⟩
                          rw [hLS.out] at hr8
                          have HR8 := Lib.hid (hr8.strs (by have := HSD.out; rw [hLS.out] at this; omega))
                          obtain ⟨sa, sc, rfl⟩ := ownsForm hr8.1
                          have HB8 := Lib.hid (HB7.out.trans (hb8.mono HB7.out.size))
                          have HBR8 := Lib.hid (HBR7.out.trans (hb8.mono HBR7.out.size))
                          have HBQ8 := Lib.hid (HBQ7.out.trans (hb8.mono HBQ7.out.size))
                          clear hb8 hr8 hnn hpp t0 t1 t2 t3 t4 t5 t6 t7 t8 t9 t10 t11 t12
                          go_wp2_with fail
                          refine (in_any LS _ s _ HR8.out).mono ?_
                          rintro e w' ⟨rfl, rfl⟩
                          obtain ⟨B5, hB5⟩ : ∃ b, Hid ((at_ s LS).isSome = b) := ⟨_, Lib.hid rfl⟩
                          rw [hB5.out]
                          cases B5 with
                          | true =>
                            go_wp2_with fail
                            go_ret
                            exact ⟨true, rfl, (fun h => by cases h), HB8.out⟩
                          | false =>
                            go_wp2_with fail
                            go_roundw
                            case rel => exact ⟨q + 1, by omega, by go_num, HBQ8.out⟩
                            case measure => simp [intOf]; omega
                  · have hlq' : ¬ (q : Int) < (PT.length : Int) := by omega
                    go_wp2_with fail
                    go_roundw
                    case rel =>
                      refine ⟨k + 1, by omega, by go_num, fun j hj hjk => ?_, HBR6.out⟩
                      rcases Nat.lt_or_ge j k with h | h
                      · exact HNO.out j hj h
                      · obtain rfl : j = k := by omega
                        rw [hf.out]; exact ⟨HNB.out, HOWN.out⟩
                    case measure => simp [intOf]; omega
      · have hlt' : ¬ (k : Int) < (p.procs.length : Int) := by omega
        have hun : Unsaid p s := ⟨HG.out, fun f hf => by
          obtain ⟨j, hj, rfl⟩ := List.getElem_of_mem hf
          exact (HNO.out j hj (by omega)).1, fun f hf => by
          obtain ⟨j, hj, rfl⟩ := List.getElem_of_mem hf
          exact (HNO.out j hj (by omega)).2⟩
        have HUN := Lib.hid hun
        clear hun
        go_wp2_with fail
        go_ret
        exact ⟨false, rfl, fun _ => HUN.out, HB2.out⟩
end Go.Proofs.Ytghlmengcidmdaa.Tr
end
section
/- A statement that says a new name: it is told. No program's code. Conditions: names are well. -/
namespace Go.Proofs.Ytghlmengcidmdaa.Tr
open Go.RowKit Go.Proofs.Ytghlmengcidmdaa.Lx Go.Proofs.Ytghlmengcidmdaa.Wd
def setNm (s : St) (nm : ByteArray) : St := .mk s.id s.kind s.labels nm s.proc s.x s.has s.args s.thn s.els
def setProc (s : St) (nm : ByteArray) : St := .mk s.id s.kind s.labels s.nm nm s.x s.has s.args s.thn s.els
theorem fields_proc {s : St} (hk : s.kind = 4) (h : fieldsB s = true) {nm : ByteArray} (hn : isName (bl nm) = true) : fieldsB (setProc s nm) = true := by
  unfold fieldsB at h ⊢
  simp only [Bool.and_eq_true] at h ⊢
  obtain ⟨⟨⟨⟨⟨h1, h2⟩, h3⟩, h4⟩, h5⟩, h6⟩ := h
  refine ⟨⟨⟨⟨⟨h1, h2⟩, h3⟩, ?_⟩, h5⟩, h6⟩
  have hp : procI (setProc s nm) = true := by unfold procI; show (s.kind == 4) = true; rw [hk]; rfl
  rw [hp]
  exact hn
theorem fields_nm {s : St} (hk : s.kind = 1 ∨ s.kind = 2) (h : fieldsB s = true) {nm : ByteArray} (hn : isName (bl nm) = true) : fieldsB (setNm s nm) = true := by
  unfold fieldsB at h ⊢
  simp only [Bool.and_eq_true] at h ⊢
  obtain ⟨⟨⟨⟨⟨h1, h2⟩, h3⟩, h4⟩, h5⟩, h6⟩ := h
  refine ⟨⟨⟨⟨⟨h1, h2⟩, ?_⟩, h4⟩, h5⟩, h6⟩
  have hp : nameI (setNm s nm) = true := by
    unfold nameI
    show (s.kind == 1 || s.kind == 2 || s.kind == 10 || (s.kind == 4 && !noName nm)) = true
    rcases hk with hk | hk <;> rw [hk] <;> rfl
  rw [hp]
  exact hn
theorem scope_new4 {p : Pr} (h : (scopeP p).1 = 0) {id : Int} {s : St} {k : Nat} (hs : Picked p id s k) (hk : s.kind = 4) {nm : ByteArray} (hn : isName (bl nm) = true) (hu : Unsaid p nm) : scopeP (putPr (setProc s nm) p) = (5, id) := by
  have hm := (scope_code h).1
  obtain ⟨hfb, hlb⟩ := picked_row hm hs
  have hs' : Picked p (setProc s nm).id s k := by show Picked p s.id s k; rw [hs.id]; exact hs
  have hmt : mayP (putPr (setProc s nm) p) = true := may_put hm (hs'.find hm) hlb (fields_proc hk hfb hn)
  rw [scope_put_bad h hs' hmt ?_]
  · show (5, s.id) = _
    rw [hs.id]
  · unfold knownS
    have h1 : inB nm (procNs p) = false := inB_no.2 fun hx => by
      obtain ⟨f, hf, he⟩ := List.mem_map.1 hx
      exact hu.nm f hf he
    have h2 : (!((setProc s nm).kind == 4) || (!((setProc s nm).proc.toList == sMain.toList) && inB (setProc s nm).proc (procNs p))) = false := by
      show (!(s.kind == 4) || (!(nm.toList == sMain.toList) && inB nm (procNs p))) = false
      rw [hk, h1]
      simp
    rw [h2, Bool.and_false]
theorem scope_new1 {p : Pr} (h : (scopeP p).1 = 0) {id : Int} {s : St} {k : Nat} (hs : Picked p id s k) (hk : s.kind = 1 ∨ s.kind = 2) {nm : ByteArray} (hn : isName (bl nm) = true) (hu : Unsaid p nm) : scopeP (putPr (setNm s nm) p) = (5, id) := by
  have hm := (scope_code h).1
  obtain ⟨hfb, hlb⟩ := picked_row hm hs
  have hs' : Picked p (setNm s nm).id s k := by show Picked p s.id s k; rw [hs.id]; exact hs
  have hmt : mayP (putPr (setNm s nm) p) = true := may_put hm (hs'.find hm) hlb (fields_nm hk hfb hn)
  rw [scope_put_bad h hs' hmt ?_]
  · show (5, s.id) = _
    rw [hs.id]
  · unfold knownS
    have h1 : kindP p.globals (p.procs[k]'hs.lt) nm = 0 := kind_zero.2 ⟨hu.own _ (List.getElem_mem hs.lt), hu.glob⟩
    have h2 : nm ∈ saidS (setNm s nm) := by
      unfold saidS saidN
      refine List.mem_append_left _ (List.mem_append_left _ ?_)
      have h3 : (!((setNm s nm).kind == 10) && !noName (setNm s nm).nm) = true := by
        show (!(s.kind == 10) && !noName nm) = true
        rw [name_some hn]
        rcases hk with hk | hk <;> rw [hk] <;> rfl
      rw [if_pos h3]
      exact List.mem_cons_self
    have h4 : ((saidS (setNm s nm)).all fun n => !(kindP p.globals (p.procs[k]'hs.lt) n == 0)) = false := by
      rw [List.all_eq_false]
      exact ⟨nm, h2, by rw [h1]; simp⟩
    rw [h4, Bool.false_and]
theorem set_light {s : St} (h : wtS s ≤ 20000) (nm : ByteArray) : LightS (setNm s nm) ∧ LightS (setProc s nm) := (fun h' : LightS s => ⟨⟨h'.1, h'.2.1, h'.2.2.1, h'.2.2.2⟩, ⟨h'.1, h'.2.1, h'.2.2.1, h'.2.2.2⟩⟩) (LightS.of h)
theorem set_said {s : St} (h : wtS s ≤ 20000) (nm : ByteArray) : (saidS (setNm s nm)).length ≤ 200000 ∧ (saidS (setProc s nm)).length ≤ 200000 := by
  have h1 := saidS_wt s
  unfold saidS at h1 ⊢
  have e1 : ∀ t, (saidN t).length ≤ 1 := fun t => by unfold saidN; split <;> simp
  have e2 := e1 (setNm s nm)
  have e3 := e1 (setProc s nm)
  have e4 : (setNm s nm).x = s.x ∧ (setNm s nm).args = s.args ∧ (setProc s nm).x = s.x ∧ (setProc s nm).args = s.args := ⟨rfl, rfl, rfl, rfl⟩
  rw [e4.1, e4.2.1, e4.2.2.1, e4.2.2.2]
  simp only [List.length_append] at h1 ⊢
  omega
theorem ids_three {p : Pr} (h : mayP p = true) {n : Int} (h0 : pickP (idsP p 1 ++ idsP p 2 ++ idsP p 4) n ≠ 0) : ∃ s k, Picked p (pickP (idsP p 1 ++ idsP p 2 ++ idsP p 4) n) s k ∧ (s.kind = 1 ∨ s.kind = 2 ∨ s.kind = 4) := by
  have hm := pick_mem h0
  have hk : ∀ kind : Int, kind ≠ 0 → ∀ s : St, isKind kind s = true → s.kind = kind := fun kind hk s hs => by
    unfold isKind at hs
    rw [Bool.or_eq_true] at hs
    rcases hs with h1 | h1
    · exact absurd (by simpa using h1) hk
    · simpa using h1
  rcases List.mem_append.1 hm with hm | hm
  · rcases List.mem_append.1 hm with hm | hm
    · obtain ⟨s, k, h1, h2⟩ := ids_in h hm; exact ⟨s, k, h1, .inl (hk 1 (by decide) s h2)⟩
    · obtain ⟨s, k, h1, h2⟩ := ids_in h hm; exact ⟨s, k, h1, .inr (.inl (hk 2 (by decide) s h2))⟩
  · obtain ⟨s, k, h1, h2⟩ := ids_in h hm; exact ⟨s, k, h1, .inr (.inr (hk 4 (by decide) s h2))⟩
end Go.Proofs.Ytghlmengcidmdaa.Tr
end
