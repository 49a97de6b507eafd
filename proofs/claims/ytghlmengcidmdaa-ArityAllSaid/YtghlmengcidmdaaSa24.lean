/- Parts of ReqP, TreeFindW: walks and plain laws that later texts use. Conditions: as each statement says. -/
import Derived.Test.YtghlmengcidmdaaSa0
import Derived.Test.YtghlmengcidmdaaSa1
import Derived.Test.YtghlmengcidmdaaSa2
import Derived.Test.YtghlmengcidmdaaSa3
import Derived.Test.YtghlmengcidmdaaSa4
import Derived.Test.YtghlmengcidmdaaSa5
import Derived.Test.YtghlmengcidmdaaSa6
import Derived.Test.YtghlmengcidmdaaSa7
import Derived.Test.YtghlmengcidmdaaSa8
import Derived.Test.YtghlmengcidmdaaSa9
import Derived.Test.YtghlmengcidmdaaSa10
import Derived.Test.YtghlmengcidmdaaSa11
import Derived.Test.YtghlmengcidmdaaSa12
import Derived.Test.YtghlmengcidmdaaSa13
import Derived.Test.YtghlmengcidmdaaSa14
import Derived.Test.YtghlmengcidmdaaSa15
import Derived.Test.YtghlmengcidmdaaSa16
import Derived.Test.YtghlmengcidmdaaSa23
import Derived.IntWalk
import Derived.Deep.QuietTactic
import Derived.BigQuiet
import Derived.StillTailTactics
import Derived.Deep.RegionHeld3
import Derived.Deep.DeepCutAuto
import Derived.Deep.RegionLaw
import Derived.Laws.StructEq
import Derived.Deep.RegionWith
import Derived.Laws.Cover3
import Derived.WalkKit
import Derived.Test.YtghlmengcidmdaaRows
import Derived.WalkSpells
import Derived.Lib.Hide
import Derived.Below
import Derived.Laws.BitsAllLaws
import Derived.RegionTactic
import Derived.Maps.Range
import Derived.Outline
import Derived.Lib.SmallJoins
import Derived.Deep.Upon
import Derived.Maps.AppendAt
import Derived.Laws.OwnMore
import Derived.OwnWalk
import Derived.OneCell
import Derived.Deep.AppendLies
import Derived.Deep.Slices
import Derived.Deep.Fields
import Derived.SliceStrings
import Derived.ChangeSlices
import Derived.WalkSmall
import Derived.Deep.CutBlock
section
/- What Eq of the reference computes: are two programs the same? Conditions: they lie in memory. -/
namespace Go.Proofs.Ytghlmengcidmdaa.Tr
open Go.RowKit Go.Proofs.Ytghlmengcidmdaa.Lx Go.Proofs.Ytghlmengcidmdaa.Wd
theorem eqPc_at {x y : Pc} (h : eqPc x y = false) {l m : List Pc} {k : Nat} (h1 : k < l.length) (h2 : k < m.length) (hx : l[k] = x) (hy : m[k] = y) : eqL eqPc l m = false := eqL_at h1 h2 (by rw [hx, hy]; exact h)
set_option maxHeartbeats 4000000 in
set_option maxRecDepth 100000 in
theorem reqPr_any (d : Nat) (p q : Pr) (gp pp gq pq : Value) (w : World) (hp : PrC (cw w) d gp pp p) (hq : PrC (cw w) d gq pq q) :
    Calls Try.prog 37 #[.agg #[gp, pp], .agg #[gq, pq]] w fun e w' => e = .returned (.bool (eqPr p q)) ∧ Below w.heap.size w w' := by
  obtain ⟨ga, gc, rfl, -, -⟩ := hp.1.form
  obtain ⟨pa, pc, rfl, hl1, hl2⟩ := hp.2.form
  obtain ⟨ga2, gc2, rfl, -, -⟩ := hq.1.form
  obtain ⟨pa2, pc2, rfl, -, -⟩ := hq.2.form
  have hbox : Below w.heap.size w ((w.alloc (.cells #[.slice ga p.globals.length gc, .slice pa p.procs.length pc] 25)).alloc (.cells #[.slice ga2 q.globals.length gc2, .slice pa2 q.procs.length pc2] 25)) := (boxed w _).alloc (by simp) _
  have hS : BoxAt ((w.alloc (.cells #[.slice ga p.globals.length gc, .slice pa p.procs.length pc] 25)).alloc (.cells #[.slice ga2 q.globals.length gc2, .slice pa2 q.procs.length pc2] 25)) w.heap.size [.slice ga p.globals.length gc, .slice pa p.procs.length pc] := (box_new w _ _).next (boxed _ _)
  have hT : BoxAt ((w.alloc (.cells #[.slice ga p.globals.length gc, .slice pa p.procs.length pc] 25)).alloc (.cells #[.slice ga2 q.globals.length gc2, .slice pa2 q.procs.length pc2] 25)) (w.heap.size + 1) [.slice ga2 q.globals.length gc2, .slice pa2 q.procs.length pc2] := box_two w _ _ _
  have HB := Lib.hid hbox
  have HS := Lib.hid hS
  have HT := Lib.hid hT
  have HP := Lib.hid (PrC.mono (cw_next hbox) hp)
  have HQ := Lib.hid (PrC.mono (cw_next hbox) hq)
  have HLIM := Lib.hid (Nat.le_trans hl1 hl2)
  clear hbox hS hT hp hq hl1 hl2
  unfold eqPr
  obtain ⟨c0, hc0⟩ : ∃ c, Hid (eqT p.globals q.globals = c) := ⟨_, Lib.hid rfl⟩
  obtain ⟨c1, hc1⟩ : ∃ c, Hid (eqL eqPc p.procs q.procs = c) := ⟨_, Lib.hid rfl⟩
  rw [hc0.out, hc1.out]
  by_cases hlen : p.procs.length = q.procs.length
  · have b1 : ((p.procs.length : Int) != (q.procs.length : Int)) = false := by simp [hlen]
    have HLEN := Lib.hid hlen
    clear hlen
    go_enter Try.func37, Try.ntmps37
    go_wp2_with fail
    refine (eqTexts_any p.globals q.globals _ _ _ (StrC.to HP.out.1) (StrC.to HQ.out.1)).mono ?_
    rintro e w1 ⟨rfl, hb⟩
    rw [hc0.out]
    replace HB := Lib.hid (HB.out.trans (hb.mono HB.out.size))
    replace HS := Lib.hid (HS.out.next hb)
    replace HT := Lib.hid (HT.out.next hb)
    have s1 := HS.out 1 _ rfl
    have t1 := HT.out 1 _ rfl
    replace HP := Lib.hid (PrC.mono (cw_next hb) HP.out)
    replace HQ := Lib.hid (PrC.mono (cw_next hb) HQ.out)
    clear hb
    cases c0 with
    | false =>
      go_wp2_with fail
      go_ret
      exact ⟨rfl, HB.out⟩
    | true =>
      go_wp2_with fail
      go_loopw [27] (fun i wr => ∃ k : Nat, k ≤ p.procs.length ∧ i = .int .i64 k ∧ Below w1.heap.size w1 wr ∧ ∀ j (h1 : j < p.procs.length) (h2 : j < q.procs.length), j < k → eqPc p.procs[j] q.procs[j] = true) (fun i _ => (p.procs.length - intOf i).toNat)
      case atStart => exact ⟨0, by omega, rfl, Below.refl _ _, fun j _ _ h => absurd h (by omega)⟩
      case round =>
        obtain ⟨k, hk, rfl, hbel, hno⟩ := hrel
        have HBel := Lib.hid hbel
        have HNO := Lib.hid hno
        have hlim := HLIM.out
        replace s1 := cell_next hbel s1
        replace t1 := cell_next hbel t1
        obtain ⟨w4, hw4⟩ : ∃ w4 : World, w4 = wr := ⟨_, rfl⟩
        subst hw4
        clear hno
        by_cases hlt : k < p.procs.length
        · have hlt' : (k : Int) < (p.procs.length : Int) := by omega
          have hlt2 : k < q.procs.length := by have := HLEN.out; omega
          have hlt3 : (k : Int) < (q.procs.length : Int) := by omega
          have h0k : (0 : Int) ≤ (k : Int) := by omega
          have hne : p.procs ≠ [] := by intro h; rw [h] at hlt; simp at hlt
          have hne2 : q.procs ≠ [] := by intro h; rw [h] at hlt2; simp at hlt2
          obtain ⟨g, off, cap', hv, _, hcells⟩ := SlAt.cells (PrC.mono (cw_next hbel) HP.out).2 hne
          simp only [Value.slice.injEq] at hv
          obtain ⟨rfl, -, rfl⟩ := hv
          have hst1 := hcells k hlt
          obtain ⟨x, hx⟩ : ∃ x, Hid (p.procs[k] = x) := ⟨_, Lib.hid rfl⟩
          rw [hx.out] at hst1
          obtain ⟨g2, off2, cap2, hv, _, hcells2⟩ := SlAt.cells (PrC.mono (cw_next hbel) HQ.out).2 hne2
          simp only [Value.slice.injEq] at hv
          obtain ⟨rfl, -, rfl⟩ := hv
          have hst2 := hcells2 k hlt2
          obtain ⟨y, hy⟩ : ∃ y, Hid (q.procs[k] = y) := ⟨_, Lib.hid rfl⟩
          rw [hy.out] at hst2
          clear hcells hcells2 hne hne2
          obtain ⟨qv, vv, bv, fv, m0, m1, m2, m3, m4, -, hp, hv, hb, hf⟩ := hst1
          obtain ⟨qa1, qc1, rfl, lima, limb⟩ := hp.form
          obtain ⟨va1, vc1, rfl, -, -⟩ := hv.form
          obtain ⟨ba1, bc1, rfl, -, -⟩ := hb.form
          obtain ⟨fa1, fc1, rfl, -, -⟩ := hf.form
          have HLI1 := Lib.hid (Nat.le_trans lima limb)
          have HH1 := Lib.hid (HangP.mk (f := x) hp hv hb hf)
          have em0 : w4.cell? ⟨g, off + k * 5, none⟩ = _ := m0
          have em1 : w4.cell? ⟨g, off + k * 5 + 1, none⟩ = _ := m1
          have em2 : w4.cell? ⟨g, off + k * 5 + 2, none⟩ = _ := m2
          have em3 : w4.cell? ⟨g, off + k * 5 + 3, none⟩ = _ := m3
          have em4 : w4.cell? ⟨g, off + k * 5 + 4, none⟩ = _ := m4
          clear lima limb hp hv hb hf m0 m1 m2 m3 m4
          obtain ⟨qv, vv, bv, fv, r0, r1, r2, r3, r4, -, hp, hv, hb, hf⟩ := hst2
          obtain ⟨qa2, qc2, rfl, lima, limb⟩ := hp.form
          obtain ⟨va2, vc2, rfl, -, -⟩ := hv.form
          obtain ⟨ba2, bc2, rfl, -, -⟩ := hb.form
          obtain ⟨fa2, fc2, rfl, -, -⟩ := hf.form
          have HLI2 := Lib.hid (Nat.le_trans lima limb)
          have HH2 := Lib.hid (HangP.mk (f := y) hp hv hb hf)
          have er0 : w4.cell? ⟨g2, off2 + k * 5, none⟩ = _ := r0
          have er1 : w4.cell? ⟨g2, off2 + k * 5 + 1, none⟩ = _ := r1
          have er2 : w4.cell? ⟨g2, off2 + k * 5 + 2, none⟩ = _ := r2
          have er3 : w4.cell? ⟨g2, off2 + k * 5 + 3, none⟩ = _ := r3
          have er4 : w4.cell? ⟨g2, off2 + k * 5 + 4, none⟩ = _ := r4
          clear lima limb hp hv hb hf r0 r1 r2 r3 r4
          clear hbel
          go_upto_region 6 with fail
          go_cut [6, 7] (fun a b wx => ∃ gx gy : Nat, a = .pointer (some ⟨gx, 0, none⟩) ∧ b = .pointer (some ⟨gy, 0, none⟩) ∧ Below w4.heap.size w4 wx ∧ BoxAt wx gx [.string x.nm, .slice qa1 x.params.length qc1, .slice va1 x.vars.length vc1, .slice ba1 x.body.length bc1, .slice fa1 x.fin.length fc1] ∧ BoxAt wx gy [.string y.nm, .slice qa2 y.params.length qc2, .slice va2 y.vars.length vc2, .slice ba2 y.body.length bc2, .slice fa2 y.fin.length fc2])
          case first =>
            go_region_held3 (fun w' => w'.cell? ⟨w.heap.size, 1, none⟩ = some (.slice (some ⟨g, off, none⟩) p.procs.length pc) ∧ w'.cell? ⟨w.heap.size + 1, 1, none⟩ = some (.slice (some ⟨g2, off2, none⟩) q.procs.length pc2) ∧ w'.cell? ⟨g, off + k * 5, none⟩ = some (.string x.nm) ∧ w'.cell? ⟨g, off + k * 5 + 1, none⟩ = some (.slice qa1 x.params.length qc1) ∧ w'.cell? ⟨g, off + k * 5 + 2, none⟩ = some (.slice va1 x.vars.length vc1) ∧ w'.cell? ⟨g, off + k * 5 + 3, none⟩ = some (.slice ba1 x.body.length bc1) ∧ w'.cell? ⟨g, off + k * 5 + 4, none⟩ = some (.slice fa1 x.fin.length fc1) ∧ w'.cell? ⟨g2, off2 + k * 5, none⟩ = some (.string y.nm) ∧ w'.cell? ⟨g2, off2 + k * 5 + 1, none⟩ = some (.slice qa2 y.params.length qc2) ∧ w'.cell? ⟨g2, off2 + k * 5 + 2, none⟩ = some (.slice va2 y.vars.length vc2) ∧ w'.cell? ⟨g2, off2 + k * 5 + 3, none⟩ = some (.slice ba2 y.body.length bc2) ∧ w'.cell? ⟨g2, off2 + k * 5 + 4, none⟩ = some (.slice fa2 y.fin.length fc2))
              (go_keep)
              ((fail))
            all_goals
              go_wp2_with fail
              go_meet
              refine ⟨_, _, rfl, rfl, ?_, ?_, ?_⟩
              · exact ((boxed w4 _).alloc (by simp) _).drew
              · first
                  | exact ((box_new w4 #[.string x.nm, .slice qa1 x.params.length qc1, .slice va1 x.vars.length vc1, .slice ba1 x.body.length bc1, .slice fa1 x.fin.length fc1] _).next (boxed _ _)).next ((Below.refl _ _).drew)
                  | exact (box_two w4 _ #[.string x.nm, .slice qa1 x.params.length qc1, .slice va1 x.vars.length vc1, .slice ba1 x.body.length bc1, .slice fa1 x.fin.length fc1] _).next ((Below.refl _ _).drew)
              · first
                  | exact ((box_new w4 #[.string y.nm, .slice qa2 y.params.length qc2, .slice va2 y.vars.length vc2, .slice ba2 y.body.length bc2, .slice fa2 y.fin.length fc2] _).next (boxed _ _)).next ((Below.refl _ _).drew)
                  | exact (box_two w4 _ #[.string y.nm, .slice qa2 y.params.length qc2, .slice va2 y.vars.length vc2, .slice ba2 y.body.length bc2, .slice fa2 y.fin.length fc2] _).next ((Below.refl _ _).drew)
          case rest =>
            obtain ⟨gx, gy, rfl, rfl, hb, hbx, hby⟩ := hcut
            have HBC := Lib.hid (HBel.out.trans (hb.mono HBel.out.size))
            have HX := Lib.hid hbx
            have HY := Lib.hid hby
            have HHX := Lib.hid (HH1.out.next hb)
            have HHY := Lib.hid (HH2.out.next hb)
            have x0 := HX.out 0 _ rfl
            have y0 := HY.out 0 _ rfl
            have x1 := HX.out 1 _ rfl
            have y1 := HY.out 1 _ rfl
            have x2 := HX.out 2 _ rfl
            have y2 := HY.out 2 _ rfl
            have x3 := HX.out 3 _ rfl
            have y3 := HY.out 3 _ rfl
            have x4 := HX.out 4 _ rfl
            have y4 := HY.out 4 _ rfl
            clear hb hbx hby em0 em1 em2 em3 em4 er0 er1 er2 er3 er4 s1 t1
            cases h0 : (x.nm.toList == y.nm.toList) with
            | false =>
              have z0 : (x.nm.toList != y.nm.toList) = true := by unfold bne; rw [h0]; rfl
              go_wp2_with fail
              go_ret
              have hz : c1 = false := by rw [← hc1.out]; exact eqPc_at (by unfold eqPc; simp [h0]) hlt hlt2 hx.out hy.out
              subst hz
              exact ⟨rfl, HB.out.trans (HBC.out.mono HB.out.size)⟩
            | true =>
              have z0 : (x.nm.toList != y.nm.toList) = false := by unfold bne; rw [h0]; rfl
              by_cases hpl : x.params.length = y.params.length
              · have b2 : ((x.params.length : Int) != (y.params.length : Int)) = false := by simp [hpl]
                have HPL := Lib.hid hpl
                clear hpl
                obtain ⟨cv, hcv⟩ : ∃ c, Hid (eqT x.vars y.vars = c) := ⟨_, Lib.hid rfl⟩
                go_wp2_with fail
                refine (eqTexts_any x.vars y.vars _ _ _ (StrC.to HHX.out.vars) (StrC.to HHY.out.vars)).mono ?_
                rintro e w5 ⟨rfl, hb⟩
                rw [hcv.out]
                replace HBC := Lib.hid (HBC.out.trans (hb.mono HBC.out.size))
                replace HX := Lib.hid (HX.out.next hb)
                replace HY := Lib.hid (HY.out.next hb)
                replace HHX := Lib.hid (HHX.out.next hb)
                replace HHY := Lib.hid (HHY.out.next hb)
                clear hb x0 y0 x1 y1 x2 y2 x3 y3 x4 y4
                have x0 := HX.out 0 _ rfl
                have y0 := HY.out 0 _ rfl
                have x1 := HX.out 1 _ rfl
                have y1 := HY.out 1 _ rfl
                have x2 := HX.out 2 _ rfl
                have y2 := HY.out 2 _ rfl
                have x3 := HX.out 3 _ rfl
                have y3 := HY.out 3 _ rfl
                have x4 := HX.out 4 _ rfl
                have y4 := HY.out 4 _ rfl
                cases cv with
                | false =>
                  go_wp2_with fail
                  go_ret
                  have hz : c1 = false := by rw [← hc1.out]; exact eqPc_at (by unfold eqPc; simp [hcv.out]) hlt hlt2 hx.out hy.out
                  subst hz
                  exact ⟨rfl, HB.out.trans (HBC.out.mono HB.out.size)⟩
                | true =>
                  obtain ⟨cf, hcf⟩ : ∃ c, Hid (eqT x.fin y.fin = c) := ⟨_, Lib.hid rfl⟩
                  go_wp2_with fail
                  refine (eqTexts_any x.fin y.fin _ _ _ (StrC.to HHX.out.fin) (StrC.to HHY.out.fin)).mono ?_
                  rintro e w6 ⟨rfl, hb⟩
                  rw [hcf.out]
                  replace HBC := Lib.hid (HBC.out.trans (hb.mono HBC.out.size))
                  replace HX := Lib.hid (HX.out.next hb)
                  replace HY := Lib.hid (HY.out.next hb)
                  replace HHX := Lib.hid (HHX.out.next hb)
                  replace HHY := Lib.hid (HHY.out.next hb)
                  clear hb x0 y0 x1 y1 x2 y2 x3 y3 x4 y4
                  have x0 := HX.out 0 _ rfl
                  have y0 := HY.out 0 _ rfl
                  have x1 := HX.out 1 _ rfl
                  have y1 := HY.out 1 _ rfl
                  have x2 := HX.out 2 _ rfl
                  have y2 := HY.out 2 _ rfl
                  have x3 := HX.out 3 _ rfl
                  have y3 := HY.out 3 _ rfl
                  have x4 := HX.out 4 _ rfl
                  have y4 := HY.out 4 _ rfl
                  cases cf with
                  | false =>
                    go_wp2_with fail
                    go_ret
                    have hz : c1 = false := by rw [← hc1.out]; exact eqPc_at (by unfold eqPc; simp [hcf.out]) hlt hlt2 hx.out hy.out
                    subst hz
                    exact ⟨rfl, HB.out.trans (HBC.out.mono HB.out.size)⟩
                  | true =>
                    obtain ⟨cb, hcb⟩ : ∃ c, Hid (eqL eqS x.body y.body = c) := ⟨_, Lib.hid rfl⟩
                    go_wp2_with fail
                    refine (reqStmts_any d x.body y.body _ _ _ HHX.out.body HHY.out.body).mono ?_
                    rintro e w7 ⟨rfl, hb⟩
                    rw [hcb.out]
                    replace HBC := Lib.hid (HBC.out.trans (hb.mono HBC.out.size))
                    replace HX := Lib.hid (HX.out.next hb)
                    replace HY := Lib.hid (HY.out.next hb)
                    replace HHX := Lib.hid (HHX.out.next hb)
                    replace HHY := Lib.hid (HHY.out.next hb)
                    clear hb x0 y0 x1 y1 x2 y2 x3 y3 x4 y4
                    have x0 := HX.out 0 _ rfl
                    have y0 := HY.out 0 _ rfl
                    have x1 := HX.out 1 _ rfl
                    have y1 := HY.out 1 _ rfl
                    have x2 := HX.out 2 _ rfl
                    have y2 := HY.out 2 _ rfl
                    have x3 := HX.out 3 _ rfl
                    have y3 := HY.out 3 _ rfl
                    have x4 := HX.out 4 _ rfl
                    have y4 := HY.out 4 _ rfl
                    cases cb with
                    | false =>
                      go_wp2_with fail
                      go_ret
                      have hz : c1 = false := by rw [← hc1.out]; exact eqPc_at (by unfold eqPc; simp [hcb.out]) hlt hlt2 hx.out hy.out
                      subst hz
                      exact ⟨rfl, HB.out.trans (HBC.out.mono HB.out.size)⟩
                    | true =>
                      have HPW := Lib.hid HHX.out
                      have HQW := Lib.hid HHY.out
                      have HX1 := Lib.hid (HX.out 1 _ rfl)
                      have HY1 := Lib.hid (HY.out 1 _ rfl)
                      have HLIX := Lib.hid HLI1.out
                      go_wp2_with fail
                      go_loopw [81] (fun i wr => ∃ n : Nat, n ≤ x.params.length ∧ i = .int .i64 n ∧ Below w7.heap.size w7 wr ∧ ∀ j (h1 : j < x.params.length) (h2 : j < y.params.length), j < n → eqPa x.params[j] y.params[j] = true) (fun i _ => (x.params.length - intOf i).toNat)
                      case atStart => exact ⟨0, by omega, rfl, Below.refl _ _, fun j _ _ h => absurd h (by omega)⟩
                      case round =>
                        obtain ⟨n, hn, rfl, hb7, hno⟩ := hrel
                        have HB7 := Lib.hid hb7
                        have HNO2 := Lib.hid hno
                        have hli := HLIX.out
                        have u1 := cell_next hb7 HX1.out
                        have v1 := cell_next hb7 HY1.out
                        clear hno x0 y0 x1 y1 x2 y2 x3 y3 x4 y4
                        by_cases hnt : n < x.params.length
                        · have hnt' : (n : Int) < (x.params.length : Int) := by omega
                          have hnt2 : n < y.params.length := by have := HPL.out; omega
                          have hnt3 : (n : Int) < (y.params.length : Int) := by omega
                          have h0n : (0 : Int) ≤ (n : Int) := by omega
                          have hne : x.params ≠ [] := by intro h; rw [h] at hnt; simp at hnt
                          have hne2 : y.params ≠ [] := by intro h; rw [h] at hnt2; simp at hnt2
                          obtain ⟨g3, off3, cap3, hv, _, hcs⟩ := SlAt.cells (HPW.out.next hb7).par hne
                          simp only [Value.slice.injEq] at hv
                          obtain ⟨rfl, -, rfl⟩ := hv
                          obtain ⟨p0, p1, -⟩ := hcs n hnt
                          obtain ⟨g4, off4, cap4, hv, _, hcs2⟩ := SlAt.cells (HQW.out.next hb7).par hne2
                          simp only [Value.slice.injEq] at hv
                          obtain ⟨rfl, -, rfl⟩ := hv
                          obtain ⟨r0, r1, -⟩ := hcs2 n hnt2
                          obtain ⟨a, ha⟩ : ∃ z, Hid (x.params[n] = z) := ⟨_, Lib.hid rfl⟩
                          obtain ⟨b, hb⟩ : ∃ z, Hid (y.params[n] = z) := ⟨_, Lib.hid rfl⟩
                          rw [ha.out] at p0 p1
                          rw [hb.out] at r0 r1
                          have e0 : wr.cell? ⟨g3, off3 + n * 2, none⟩ = _ := p0
                          have e1 : wr.cell? ⟨g3, off3 + n * 2 + 1, none⟩ = _ := p1
                          have e2 : wr.cell? ⟨g4, off4 + n * 2, none⟩ = _ := r0
                          have e3 : wr.cell? ⟨g4, off4 + n * 2 + 1, none⟩ = _ := r1
                          clear hcs hne hcs2 hne2 hb7 p0 p1 r0 r1
                          cases k1 : (a.nm.toList == b.nm.toList) with
                          | false =>
                            have HK : Hid (eqPa a b = false) := Lib.hid (by unfold eqPa; rw [k1]; rfl)
                            go_wp2_with fail
                            go_quiet (fail)
                            go_wp2_with fail
                            go_ret
                            have hz : c1 = false := by rw [← hc1.out]; exact eqPc_at (by unfold eqPc; rw [eqL_at (f := eqPa) hnt hnt2 (by rw [ha.out, hb.out]; exact HK.out)]; simp) hlt hlt2 hx.out hy.out
                            subst hz
                            exact ⟨rfl, HB.out.trans ((HBC.out.trans ((below_drewN HB7.out nq).mono HBC.out.size)).mono HB.out.size)⟩
                          | true =>
                            cases k2 : (a.ref == b.ref) with
                            | false =>
                              have HK : Hid (eqPa a b = false) := Lib.hid (by unfold eqPa; rw [k1, k2]; rfl)
                              go_wp2_with fail
                              go_quiet (fail)
                              go_wp2_with fail
                              go_ret
                              have hz : c1 = false := by rw [← hc1.out]; exact eqPc_at (by unfold eqPc; rw [eqL_at (f := eqPa) hnt hnt2 (by rw [ha.out, hb.out]; exact HK.out)]; simp) hlt hlt2 hx.out hy.out
                              subst hz
                              exact ⟨rfl, HB.out.trans ((HBC.out.trans ((below_drewN HB7.out nq).mono HBC.out.size)).mono HB.out.size)⟩
                            | true =>
                              have HK : Hid (eqPa a b = true) := Lib.hid (by unfold eqPa; rw [k1, k2]; rfl)
                              go_wp2_with fail
                              go_quiet (fail)
                              go_wp2_with fail
                              go_roundw
                              case rel =>
                                refine ⟨n + 1, by omega, by go_num, below_drewN HB7.out nq, fun j h1 h2 hjk => ?_⟩
                                rcases Nat.lt_or_ge j n with h | h
                                · exact HNO2.out j h1 h2 h
                                · obtain rfl : j = n := by omega
                                  rw [ha.out, hb.out]
                                  exact HK.out
                              case measure => simp [intOf]; omega
                        · have hnt' : ¬ (n : Int) < (x.params.length : Int) := by omega
                          have hpa := eqL_all (f := eqPa) HPL.out fun j h1 h2 => HNO2.out j h1 h2 (by omega)
                          have HK : Hid (eqPc x y = true) := Lib.hid (by unfold eqPc; rw [h0, hpa, hcv.out, hcf.out, hcb.out]; rfl)
                          clear hb7 hpa
                          go_wp2_with fail
                          go_roundw
                          case rel =>
                            refine ⟨k + 1, by omega, by go_num, HBC.out.trans (HB7.out.mono HBC.out.size), fun j h1 h2 hjk => ?_⟩
                            rcases Nat.lt_or_ge j k with h | h
                            · exact HNO.out j h1 h2 h
                            · obtain rfl : j = k := by omega
                              rw [hx.out, hy.out]
                              exact HK.out
                          case measure => simp [intOf]; omega
              · have b2 : ((x.params.length : Int) != (y.params.length : Int)) = true := by simp; omega
                have HPL := Lib.hid hpl
                clear hpl
                go_wp2_with fail
                go_ret
                have hz : c1 = false := by rw [← hc1.out]; exact eqPc_at (by unfold eqPc; simp [eqL_len HPL.out]) hlt hlt2 hx.out hy.out
                subst hz
                exact ⟨rfl, HB.out.trans (HBC.out.mono HB.out.size)⟩
        · have hlt' : ¬ (k : Int) < (p.procs.length : Int) := by omega
          have hz : c1 = true := by rw [← hc1.out]; exact eqL_all (f := eqPc) HLEN.out fun j h1 h2 => HNO.out j h1 h2 (by omega)
          subst hz
          clear hbel
          go_wp2_with fail
          go_ret
          exact ⟨rfl, HB.out.trans (HBel.out.mono HB.out.size)⟩
  · have b1 : ((p.procs.length : Int) != (q.procs.length : Int)) = true := by simp; omega
    have hz : c1 = false := by rw [← hc1.out]; exact eqL_len hlen
    subst hz
    clear hlen
    go_enter Try.func37, Try.ntmps37
    go_wp2_with fail
    refine (eqTexts_any p.globals q.globals _ _ _ (StrC.to HP.out.1) (StrC.to HQ.out.1)).mono ?_
    rintro e w1 ⟨rfl, hb⟩
    rw [hc0.out]
    replace HB := Lib.hid (HB.out.trans (hb.mono HB.out.size))
    have s1 := HS.out.next hb 1 _ rfl
    have t1 := HT.out.next hb 1 _ rfl
    clear hb
    cases c0 with
    | false =>
      go_wp2_with fail
      go_ret
      exact ⟨rfl, HB.out⟩
    | true =>
      go_wp2_with fail
      go_ret
      exact ⟨rfl, HB.out⟩
end Go.Proofs.Ytghlmengcidmdaa.Tr
end
section
/- The law TreeFind, walked: it returns true. Conditions: the arguments lie in memory. -/
namespace Go.Proofs.Ytghlmengcidmdaa.Tr
open Go.RowKit Go.Proofs.Ytghlmengcidmdaa.Lx Go.Proofs.Ytghlmengcidmdaa.Wd
def ItAt (C : Cs) (d : Nat) (g o : Nat) (i : It) : Prop := StAt C d (StC C d) g o i.s ∧ C g (o + 13) (.int .i64 i.deep) ∧ C g (o + 14) (.int .i64 i.inn) ∧ C g (o + 15) (.bool i.els) ∧ InI i.deep ∧ InI i.inn
theorem ItAt.mono {C D : Cs} (h : Cs.le C D) {d g o : Nat} {i : It} (q : ItAt C d g o i) : ItAt D d g o i := ⟨StAt.mono h (fun _ _ => StC.mono h) q.1, h _ _ _ q.2.1, h _ _ _ q.2.2.1, h _ _ _ q.2.2.2.1, q.2.2.2.2⟩
theorem RowT.sl {B d : Nat} {w : World} {v : Value} {l : List It} {rows : List (List Value)} (h : RowT B d w v l rows) : SlAt 16 (ItAt (cw w) d) v l := by
  have hlen := h.len
  have hown := h.own
  rcases h.own.2 with ⟨hv, hn⟩ | ⟨g, cap, cur, hv, h1, h2, h3, h4, h5, h6⟩
  · have : l = [] := List.eq_nil_of_length_eq_zero hn
    subst this
    rw [hv]
    exact SlAt.nil
  · refine ⟨_, cap, hv, h3, h4, fun hne => ⟨g, 0, rfl, fun i hi => ?_⟩⟩
    obtain ⟨kv, lv, av, tv, ev, hc, k1, k2, k3, k4, k5, k6, k7, k8, k9, k10, k11, k12⟩ := ItQ.mono (D := cw w) (fun _ _ _ h => h.2) (h.each i hi (by omega))
    have at_ : ∀ j u, (itCells l[i] kv lv av tv ev)[j]? = some u → cw w g (0 + i * 16 + j) u := fun j u hu => by
      have := hown.cells (g := g) (by rw [hv]; rfl) (i * 16 + j) u (flat_get rows i j u h.wide (by omega) (by rw [hc]; exact hu))
      rw [Addr.add_lit, Nat.zero_add] at this
      show w.cell? ⟨g, 0 + i * 16 + j, none⟩ = _
      rw [Nat.zero_add]
      exact this
    exact ⟨⟨lv, av, tv, ev, at_ 0 _ rfl, at_ 1 _ rfl, at_ 2 _ rfl, at_ 3 _ rfl, at_ 4 _ rfl, ⟨kv, at_ 5 _ rfl, at_ 6 _ rfl, at_ 7 _ rfl, at_ 8 _ rfl, k1, k2⟩, at_ 9 _ rfl, at_ 10 _ rfl, at_ 11 _ rfl, at_ 12 _ rfl, k3, k4, k5, k6, k7, k8, k9, k10⟩,
      at_ 13 _ rfl, at_ 14 _ rfl, at_ 15 _ rfl, k11, k12⟩
def FlatMade (d : Nat) (l : List It) (w : World) (e : Ending) (w' : World) : Prop := ∃ v, e = .returned v ∧ SlAt 16 (ItAt (cw w') d) v l ∧ Below w.heap.size w w'
set_option maxHeartbeats 1000000 in
theorem flatOf_any (d : Nat) (f : Pc) (pv vv bv fv : Value) (w : World) (hb : StC (cw w) d bv f.body) : Calls Try.prog 60 #[(.agg #[.string f.nm, pv, vv, bv, fv])] w (FlatMade d (flatOf f) w) := by
  obtain ⟨ba, bc, rfl, -, -⟩ := hb.form
  have hbox := boxed w (.cells #[.string f.nm, pv, vv, .slice ba f.body.length bc, fv] 55)
  have HB := Lib.hid hbox
  have HBODY := Lib.hid (hb.next hbox)
  clear hbox hb
  go_enter Try.func60, Try.ntmps60
  go_wp2_with fail
  refine (flat_any _ d d f.body _ (.slice none 0 0) 1 0 false [] [] _ (Nat.le_refl _) (StC.mono low_all HBODY.out) (RowT.nil _ _ _) (Nat.le_refl _) (by omega) (by omega) (by unfold InI; omega) (by simp)).mono ?_
  rintro e w1 ⟨v, rows, rfl, hr, hg⟩
  have HR := Lib.hid hr.sl
  have HG := Lib.hid (((Below.refl _ _).grown hg.1 (Nat.le_refl _) (fun g h => by cases h)).mono HB.out.size)
  obtain ⟨va, vc, rfl⟩ := ownsForm hr.own
  clear hr hg
  go_wp2_with fail
  go_ret
  exact ⟨_, rfl, HR.out, HB.out.trans HG.out⟩
end Go.Proofs.Ytghlmengcidmdaa.Tr
end
