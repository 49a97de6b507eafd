/- Parts of NewW, OfP, OfW: walks and plain laws that later texts use. Conditions: as each statement says. -/
import Derived.Test.YtghlmengcidmdaaTw0
import Derived.Test.YtghlmengcidmdaaTw1
import Derived.Test.YtghlmengcidmdaaTw2
import Derived.Test.YtghlmengcidmdaaTw3
import Derived.Test.YtghlmengcidmdaaTw4
import Derived.Test.YtghlmengcidmdaaTw5
import Derived.Test.YtghlmengcidmdaaTw6
import Derived.Test.YtghlmengcidmdaaTw7
import Derived.Test.YtghlmengcidmdaaTw8
import Derived.Test.YtghlmengcidmdaaTw9
import Derived.Test.YtghlmengcidmdaaTw10
import Derived.Test.YtghlmengcidmdaaTw11
import Derived.Test.YtghlmengcidmdaaTw13
import Derived.Test.YtghlmengcidmdaaTw14
import Derived.Test.YtghlmengcidmdaaTw15
import Derived.Test.YtghlmengcidmdaaTw18
import Derived.Laws.StructEq
import Derived.Deep.RegionHeld3
import Derived.Deep.QuietTactic
import Derived.BigQuiet
import Derived.Deep.Slices
import Derived.Deep.Fields
import Derived.Lib.SmallJoins
import Derived.SliceStrings
import Derived.ChangeSlices
import Derived.IntWalk
import Derived.Deep.RegionLaw
import Derived.Deep.DeepCutAuto
import Derived.Deep.CutBlock
import Derived.WalkKit
import Derived.Test.YtghlmengcidmdaaRows
import Derived.WalkSpells
import Derived.Lib.Hide
import Derived.Below
import Derived.Laws.BitsAllLaws
import Derived.OwnWalk
import Derived.OneCell
import Derived.Deep.AppendLies
import Derived.Deep.RegionWith
import Derived.Laws.Cover3
import Derived.StillTailTactics
import Derived.RegionTactic
import Derived.Maps.Range
import Derived.Outline
import Derived.Deep.Upon
import Derived.Maps.AppendAt
import Derived.Laws.OwnMore
import Derived.OrdersHeld
import Derived.WalkSmall
import Derived.Deep.MidRow
section
/- What New of flat makes: a program's sheet. Conditions: the program lies in memory. -/
namespace Go.Proofs.Ytghlmengcidmdaa.Tr
open Go.RowKit Go.Proofs.Ytghlmengcidmdaa.Lx Go.Proofs.Ytghlmengcidmdaa.Wd
def SheetMade (D : Nat) (p : Pr) (gv pv : Value) (w : World) (e : Ending) (w' : World) : Prop :=
  ∃ (Y : Nat) (lov hiv v : Value) (rows : List (List Value)), e = .returned (.pointer (some ⟨Y, 0, none⟩)) ∧ SheetSt w.heap.size D w' Y gv pv lov hiv v (losOf p.procs p.procs.length) (hisOf p.procs p.procs.length) (sheetOf p) rows ∧ Below w.heap.size w w'
set_option linter.unusedSimpArgs false
set_option maxHeartbeats 8000000 in
set_option maxRecDepth 100000 in
theorem new_any (D : Nat) (p : Pr) (gv pv : Value) (w : World) (hp : PrC (cw w) D gv pv p) (hm : cntP p.procs ≤ 1000000) (hpn : p.procs.length ≤ 1000000) :
    Calls Try.prog 65 #[.agg #[gv, pv]] w (SheetMade D p gv pv w) := by
  obtain ⟨ga, gc, rfl, -, -⟩ := hp.1.form
  obtain ⟨pa, pc, rfl, -, -⟩ := hp.2.form
  have HP := Lib.hid hp
  have HM := Lib.hid hm
  obtain ⟨iI, hiI, hzI0, hzI1, hzI2⟩ := info_parts infoInt
  clear hp hm
  go_enter Try.func65, Try.ntmps65
  go_upto_region 2 with fail
  refine cut_world (fun wx => Below w.heap.size w wx ∧ wx.heap.size = w.heap.size + 1 + 1 ∧ BoxAt wx w.heap.size [.slice ga p.globals.length gc, .slice pa p.procs.length pc] ∧ BoxAt wx (w.heap.size + 1) [.slice ga p.globals.length gc, .slice pa p.procs.length pc, .slice none 0 0, .slice none 0 0, .slice none 0 0] ∧ Free wx (w.heap.size + 1)) ⟨(boxed w _).alloc (by simp) _, by simp, (box_new w #[.slice ga p.globals.length gc, .slice pa p.procs.length pc] 25).next (boxed _ _), box_two w _ #[.slice ga p.globals.length gc, .slice pa p.procs.length pc, .slice none 0 0, .slice none 0 0, .slice none 0 0] 91, free_two w _ _ _⟩ ?_
  rintro w1 ⟨hb1, hz1, hx1, hy1, hf1⟩
  obtain ⟨Y, hY⟩ : ∃ Y, Y = w.heap.size + 1 := ⟨_, rfl⟩
  rw [← hY] at hy1 hf1
  try rw [← hY]
  have hYw : w.heap.size ≤ Y := by omega
  have HST1 := Lib.hid (SheetSt.start (B := w.heap.size) (D := D) hYw (by omega) hy1 hf1)
  have HB1 := Lib.hid hb1
  have x1 := hx1 1 _ rfl
  clear hb1 hz1 hx1 hy1 hf1 hY
  go_wp2_with fail
  clear x1
  go_loopw [12] (fun i wr => ∃ (k : Nat) (lov hiv v : Value) (rows : List (List Value)), k ≤ p.procs.length ∧ i = .int .i64 k ∧ SheetSt w.heap.size D wr Y (.slice ga p.globals.length gc) (.slice pa p.procs.length pc) lov hiv v (losOf p.procs k) (hisOf p.procs k) (sheetPs (p.procs.take k) 0 []) rows ∧ Below w.heap.size w wr) (fun i _ => (p.procs.length - intOf i).toNat)
  case atStart => exact ⟨0, _, _, _, _, by omega, rfl, HST1.out, HB1.out⟩
  case round =>
    obtain ⟨k, lov, hiv, v, rows, hk, rfl, hst, hbel⟩ := hrel
    obtain ⟨w3, hw3⟩ : ∃ x : World, x = wr := ⟨_, rfl⟩
    subst hw3
    have HST := Lib.hid hst
    have HBEL := Lib.hid hbel
    by_cases hlt : k < p.procs.length
    · have hlt' : (k : Int) < (p.procs.length : Int) := by omega
      have h0k : (0 : Int) ≤ (k : Int) := by omega
      have hne : p.procs ≠ [] := by intro h; rw [h] at hlt; simp at hlt
      obtain ⟨g, off, cap', hv, _, hcells⟩ := SlAt.cells HP.out.2 hne
      simp only [Value.slice.injEq] at hv
      obtain ⟨rfl, -, rfl⟩ := hv
      obtain ⟨qv, vv, bv, fv, p0, p1, p2, p3, p4, hnm, hps, hvs, hbody, hfin⟩ := hcells k hlt
      have hct := cntP_take hlt
      have hcm : cntP (p.procs.take (k + 1)) ≤ cntP p.procs := by
        conv => rhs; rw [← List.take_append_drop (k + 1) p.procs]
        unfold cntP
        rw [List.map_append, List.sum_append]
        omega
      have hsl : (sheetPs (p.procs.take k) 0 []).length = cntP (p.procs.take k) := by rw [sheetPs_len]; simp
      have hstk := sheet_take p hlt
      obtain ⟨f, hf⟩ : ∃ f, Hid (p.procs[k] = f) := ⟨_, Lib.hid rfl⟩
      rw [hf.out] at p0 hnm hps hvs hbody hfin hct hstk
      obtain ⟨a1, c1, rfl, -, -⟩ := hps.form
      obtain ⟨a2, c2, rfl, -, -⟩ := hvs.form
      obtain ⟨a3, c3, rfl, -, -⟩ := hbody.form
      obtain ⟨a4, c4, rfl, -, -⟩ := hfin.form
      have e0 : w3.cell? ⟨g, off + k * 5, none⟩ = _ := cell_next hbel p0
      have e1 : w3.cell? ⟨g, off + k * 5 + 1, none⟩ = _ := cell_next hbel p1
      have e2 : w3.cell? ⟨g, off + k * 5 + 2, none⟩ = _ := cell_next hbel p2
      have e3 : w3.cell? ⟨g, off + k * 5 + 3, none⟩ = _ := cell_next hbel p3
      have e4 : w3.cell? ⟨g, off + k * 5 + 4, none⟩ = _ := cell_next hbel p4
      have HBD := Lib.hid hbody
      obtain ⟨N, hN⟩ : ∃ n, Hid ((sheetPs (p.procs.take k) 0 []).length = n) := ⟨_, Lib.hid rfl⟩
      obtain ⟨SO, hSO⟩ : ∃ x, Hid (sheetPs (p.procs.take k) 0 [] = x) := ⟨_, Lib.hid rfl⟩
      rw [hN.out] at hsl
      have hmm := HM.out
      have hNB : N + cntL f.body ≤ 1000000 := by omega
      have HSL := Lib.hid hsl
      have HCT := Lib.hid hct
      rw [hSO.out] at hN hst HST hstk
      have HSTK := Lib.hid hstk
      obtain ⟨va, vc, hvf⟩ := ownsForm hst.sh.row.own
      rw [hN.out] at hvf
      subst hvf
      obtain ⟨oa, oc, hof⟩ := ownsForm hst.lo
      rw [los_len] at hof
      subst hof
      clear hcells hne p0 p1 p2 p3 p4 hnm hps hvs hbody hfin hst hsl hct hcm hstk hbel
      go_upto_region 5 with fail
      refine cut_world (fun wx => Below w3.heap.size w3 wx ∧ BoxAt wx w3.heap.size [.string f.nm, .slice a1 f.params.length c1, .slice a2 f.vars.length c2, .slice a3 f.body.length c3, .slice a4 f.fin.length c4]) ⟨boxed w3 _, box_new w3 #[.string f.nm, .slice a1 f.params.length c1, .slice a2 f.vars.length c2, .slice a3 f.body.length c3, .slice a4 f.fin.length c4] 55⟩ ?_
      clear e0 e1 e2 e3 e4
      rintro w4 ⟨hb4, hx4⟩
      have HX4 := Lib.hid hx4
      have HST4 := Lib.hid (HST.out.next hb4)
      have HB4 := Lib.hid (HBEL.out.trans (hb4.mono HBEL.out.size))
      have hn1 : IntKind.i64.wrap ((N : Int) + 1) = (N : Int) + 1 := IntWalk.i64_in _ (by omega)
      clear hb4 hx4
      have Y3 := Lib.hid (HST4.out.sh.box 3 _ rfl)
      have YF3 := Lib.hid (HST4.out.sh.free 3)
      have Y2 := Lib.hid (HST4.out.sh.box 2 _ rfl)
      have hq : Below w4.heap.size w4 w4.drew := (Below.refl _ _).drew
      have hbwd : Below w4.heap.size w4 (w4.alloc (.cells #[.int .i64 ((N : Int) + 1)] 3)).drew := (boxed w4 _).drew
      have hYl := cell_lt Y3.out
      have hB4 := HST4.out.sh.bw
      have hLY : some Y ≠ (Value.slice oa k oc).ownBlock := fun e => (HST4.out.d1 Y e.symm).1 rfl
      have HLO := Lib.hid (HST4.out.lo)
      unfold RowN at HLO
      rw [los_len] at HLO
      refine wp_region_z (fun w' => w'.cell? ⟨Y, 3, none⟩ = some (.slice oa k oc) ∧ w'.cell? ⟨Y, 2, none⟩ = some (.slice va N vc)) 15 (by kernel_rfl) ⟨cell_next hq Y3.out, cell_next hq Y2.out⟩ (fun hS => ?_)
      refine' wpAnyZ_take (i := 0) (oi := _) (v := _) rfl (by kernel_rfl) (by kernel_rfl) (by kernel_rfl) (by kernel_rfl) (fun _ _ _ h => h) (Or.inl ⟨by rfl, ?hy0⟩) hS ?rest0
      case hy0 => (intro w hSw; have c0 := hSw.1; have c1 := hSw.2; clear hSw; go_simp; (try with_reducible rfl))
      try simp only [Act.put, List.setIfInBounds_toArray, List.set_cons_zero, List.set_cons_succ]
      refine' wpAnyZ_take (i := 1) (oi := _) (v := _) rfl (by kernel_rfl) (by kernel_rfl) (by kernel_rfl) (by kernel_rfl) (fun _ _ _ h => h) (Or.inl ⟨by rfl, ?hy1⟩) hS ?rest1
      case hy1 => (intro w hSw; have c0 := hSw.1; have c1 := hSw.2; clear hSw; go_simp; (try with_reducible rfl))
      try simp only [Act.put, List.setIfInBounds_toArray, List.set_cons_zero, List.set_cons_succ]
      refine' wpAnyZ_take (i := 2) (oi := _) (v := _) rfl (by kernel_rfl) (by kernel_rfl) (by kernel_rfl) (by kernel_rfl) (fun _ _ _ h => h) (Or.inl ⟨by rfl, ?hy2⟩) hS ?rest2
      case hy2 => (intro w hSw; have c0 := hSw.1; have c1 := hSw.2; clear hSw; go_simp; (try with_reducible rfl))
      try simp only [Act.put, List.setIfInBounds_toArray, List.set_cons_zero, List.set_cons_succ]
      refine' wpAnyZ_take (i := 3) (oi := _) (v := _) rfl (by kernel_rfl) (by kernel_rfl) (by kernel_rfl) (by kernel_rfl) (fun _ _ _ h => h) (Or.inl ⟨by rfl, ?hy3⟩) hS ?rest3
      case hy3 => (intro w hSw; have c0 := hSw.1; have c1 := hSw.2; clear hSw; go_simp; (try with_reducible rfl))
      try simp only [Act.put, List.setIfInBounds_toArray, List.set_cons_zero, List.set_cons_succ]
      refine' wpAnyZ_take (i := 4) (oi := _) (v := _) rfl (by kernel_rfl) (by kernel_rfl) (by kernel_rfl) (by kernel_rfl) (fun _ _ _ h => h) (Or.inl ⟨by rfl, ?hy4⟩) hS ?rest4
      case hy4 => (intro w hSw; have c0 := hSw.1; have c1 := hSw.2; clear hSw; go_simp; (try with_reducible rfl))
      try simp only [Act.put, List.setIfInBounds_toArray, List.set_cons_zero, List.set_cons_succ]
      refine' wpAnyZ_take (i := 5) (oi := _) (v := _) rfl (by kernel_rfl) (by kernel_rfl) (by kernel_rfl) (by kernel_rfl) (fun _ _ _ h => h) (Or.inl ⟨by rfl, ?hy5⟩) hS ?rest5
      case hy5 => (intro w hSw; have c0 := hSw.1; have c1 := hSw.2; clear hSw; go_simp; (try with_reducible rfl))
      try simp only [Act.put, List.setIfInBounds_toArray, List.set_cons_zero, List.set_cons_succ]
      refine' wpAnyZ_take (i := 6) (oi := _) (v := _) rfl (by kernel_rfl) (by kernel_rfl) (by kernel_rfl) (by kernel_rfl) (fun _ _ _ h => h) (Or.inl ⟨by rfl, ?hy6⟩) hS ?rest6
      case hy6 => (intro w hSw; have c0 := hSw.1; have c1 := hSw.2; clear hSw; go_simp; (try with_reducible rfl))
      try simp only [Act.put, List.setIfInBounds_toArray, List.set_cons_zero, List.set_cons_succ]
      refine' wpAnyZ_take (i := 7) (oi := _) (v := _) rfl (by kernel_rfl) (by kernel_rfl) (by kernel_rfl) (by kernel_rfl) (fun _ _ _ h => h) (Or.inl ⟨by rfl, ?hy7⟩) hS ?rest7
      case hy7 => (intro w hSw; have c0 := hSw.1; have c1 := hSw.2; clear hSw; go_simp; (try with_reducible rfl))
      try simp only [Act.put, List.setIfInBounds_toArray, List.set_cons_zero, List.set_cons_succ]
      refine' wpAnyZ_take (i := 8) (oi := _) (v := _) rfl (by kernel_rfl) (by kernel_rfl) (by kernel_rfl) (by kernel_rfl) (fun _ _ _ h => h) (Or.inl ⟨by rfl, ?hy8⟩) hS ?rest8
      case hy8 => (intro w hSw; have c0 := hSw.1; have c1 := hSw.2; clear hSw; go_simp; (try with_reducible rfl))
      try simp only [Act.put, List.setIfInBounds_toArray, List.set_cons_zero, List.set_cons_succ]
      refine' wpAnyZ_take (i := 9) (oi := _) (v := _) rfl (by kernel_rfl) (by kernel_rfl) (by kernel_rfl) (by kernel_rfl) (fun _ _ _ h => h) (Or.inl ⟨by rfl, ?hy9⟩) hS ?rest9
      case hy9 => (intro w hSw; have c0 := hSw.1; have c1 := hSw.2; clear hSw; go_simp; (try with_reducible rfl))
      try simp only [Act.put, List.setIfInBounds_toArray, List.set_cons_zero, List.set_cons_succ]
      refine' wpAnyZ_take (i := 10) (oi := _) (v := _) rfl (by kernel_rfl) (by kernel_rfl) (by kernel_rfl) (by kernel_rfl) (fun _ _ _ h => h) (Or.inl ⟨by rfl, ?hy10⟩) hS ?rest10
      case hy10 => (intro w hSw; have c0 := hSw.1; have c1 := hSw.2; clear hSw; go_simp; (try with_reducible rfl))
      try simp only [Act.put, List.setIfInBounds_toArray, List.set_cons_zero, List.set_cons_succ]
      refine' wpAnyZ_step (i := 11) (o := _) rfl (by kernel_rfl) (fun K hK => ?_)
      go_simp
      refine hK _ _ (fun _ => ⟨cell_next hbwd Y3.out, cell_next hbwd Y2.out⟩) ?_
      clear hK K
      try simp only [Act.put, List.setIfInBounds_toArray, List.set_cons_zero, List.set_cons_succ]
      refine' wpAnyZ_step (i := 12) (o := _) rfl (by kernel_rfl) (fun K hK => ?_)
      refine step_append_lies _ (by rfl) (.tmp 21) (.tmp 28) _ (by rfl) w.heap.size 3 iI (.int .i64 0) 1 8 Try.underlying33 hiI hzI0 hzI1 hzI2 rfl (by omega) (.slice oa k oc) k _ (by rfl) (ownsBelow HLO.out hbwd)
        ⟨w4.heap.size, 0, none⟩ 1 1 [.int .i64 ((N : Int) + 1)] (by rfl) (by rfl) (World.news_of_block (cs := #[.int .i64 ((N : Int) + 1)]) (t := 3) (fr := (0, 0)) (heap_alloc_new w4 _)) (by simp [Value.oneCell'])
        (by omega) (by unfold maxLen; omega) (by omega) (by simp; omega) (w4.heap.size + 1) (by simp) ?_
      intro g8 cap8 w8 hown8 hg8 hat8 hlt8
      have q3 := (hg8.cell_far ⟨Y, 3, none⟩ (by simp; omega) hLY).trans (cell_next hbwd Y3.out)
      have q2 := (hg8.cell_far ⟨Y, 2, none⟩ (by simp; omega) hLY).trans (cell_next hbwd Y2.out)
      have qf3 := (hg8.frozen_far ⟨Y, 3, none⟩ (by simp; omega) hLY).trans (frozen_next hbwd Y3.out YF3.out)
      refine hK _ _ (fun _ => ⟨q3, q2⟩) ?_
      clear hK K
      try simp only [Act.put, List.setIfInBounds_toArray, List.set_cons_zero, List.set_cons_succ]
      refine' wpAnyZ_step (i := 13) (o := _) rfl (by kernel_rfl) (fun K hK => ?_)
      go_simp
      refine hK _ _ (fun _ => ⟨q3, q2⟩) ?_
      clear hK K
      try simp only [Act.put, List.setIfInBounds_toArray, List.set_cons_zero, List.set_cons_succ]
      refine' wpAnyZ_step (i := 14) (o := _) rfl (by kernel_rfl) (fun K hK => ?_)
      go_simp
      refine hK _ _ (fun _ => ⟨q3, q2⟩) ?_
      clear hK K
      try simp only [Act.put, List.setIfInBounds_toArray, List.set_cons_zero, List.set_cons_succ]
      refine' wpAnyZ_step (i := 15) (o := _) rfl (by kernel_rfl) (fun K hK => ?_)
      go_simp
      refine hK _ _ (fun h => absurd rfl h) ?_
      clear hK K
      try simp only [Act.put, List.setIfInBounds_toArray, List.set_cons_zero, List.set_cons_succ]
      refine wpAnyZ_done (by kernel_rfl) ?_ _
      have hat : ∀ q, (Value.slice (some ⟨g8, 0, none⟩) (k + 1) cap8).ownBlock = some q → (Value.slice oa k oc).ownBlock = some q ∨ w4.heap.size ≤ q := fun q hq => by
        have hqq : g8 = q := by simpa [Value.ownBlock] using hq
        subst hqq
        exact hat8.imp id fun h => by omega
      have hst5 := HST4.out.more_lo (lov' := .slice (some ⟨g8, 0, none⟩) (k + 1) cap8) (n := (N : Int) + 1) hbwd hg8 hat (by rw [los_len]; exact hown8)
      have hloE : losOf p.procs k ++ [(N : Int) + 1] = losOf p.procs (k + 1) := by rw [losOf, HSL.out]
      rw [hloE] at hst5
      have hoB : ∀ q, (Value.slice oa k oc).ownBlock = some q → w.heap.size ≤ q ∧ q < w3.heap.size := fun q hq => HST.out.lo.lt q hq
      have hgs8 := hg8.size
      have hb48 : Below w.heap.size w w8 := (HB4.out.trans (hbwd.mono HB4.out.size)).grown hg8 (Nat.le_trans HB4.out.size hbwd.size) fun q hq => (hoB q hq).1
      have hx8 : BoxAt w8 w3.heap.size [.string f.nm, .slice a1 f.params.length c1, .slice a2 f.vars.length c2, .slice a3 f.body.length c3, .slice a4 f.fin.length c4] := (HX4.out.next hbwd).grown hg8 fun e => by have := (hoB _ e.symm).2; omega
      have hYl3 : Y < w3.heap.size := cell_lt (HST.out.sh.box 0 _ rfl)
      go_upto_region 6 with fail
      refine cut_world (fun wx => SheetSt w.heap.size D wx Y (.slice ga p.globals.length gc) (.slice (some ⟨g, off, none⟩) p.procs.length pc) (.slice (some ⟨g8, 0, none⟩) (k + 1) cap8) hiv (.slice va N vc) (losOf p.procs (k + 1)) (hisOf p.procs k) SO rows ∧ Below w.heap.size w wx ∧ BoxAt wx w3.heap.size [.string f.nm, .slice a1 f.params.length c1, .slice a2 f.vars.length c2, .slice a3 f.body.length c3, .slice a4 f.fin.length c4]) ⟨hst5, hb48.setCell (p := ⟨Y, 3, none⟩) hYw _, hx8.set (b := Y) (Nat.ne_of_lt hYl3)⟩ ?_
      clear hst5 hb48 hx8 q3 q2 qf3 hat hat8 hlt8 hg8 hown8 hS hgs8 hoB
      rintro w5 ⟨hst5, hb5, hx5⟩
      have HST5 := Lib.hid hst5
      have HB5 := Lib.hid hb5
      have x3 := hx5 3 _ rfl
      have hbody5 : StC (lowC w.heap.size w5) D (.slice a3 f.body.length c3) f.body := StC.mono (fun g j u h => ⟨cell_lt h, cw_next hb5 _ _ _ h⟩) HBD.out
      have HBD5 := Lib.hid hbody5
      have hak : Ar5.ok ⟨(k : Int), 0, -1, 0⟩ := ⟨by show InI (k : Int); unfold InI; omega, by show InI 0; unfold InI; omega, by show InI (-1); unfold InI; omega, by show InI 0; unfold InI; omega⟩
      have hcount : SO.length + cntL f.body ≤ 1000000 := by rw [hN.out]; exact hNB
      clear hst5 hb5 hx5 hbody5
      go_wp2_with fail
      have hcall := row_any w.heap.size D Y _ _ _ _ D f.body _ _ ⟨(k : Int), 0, -1, 0⟩ SO rows _ (Nat.le_refl _) HBD5.out HST5.out.sh hak hcount
      refine hcall.mono ?_
      clear hcall x3
      rintro e w6 ⟨v6, rows6, rfl, hsh6, hkp6⟩
      rw [← HSTK.out] at hsh6
      have hst6 := HST5.out.row hsh6 hkp6
      have HB6 := Lib.hid (HB5.out.trans (hkp6.belowB HB5.out.size hYw fun g hg => HST5.out.sh.lo g hg))
      obtain ⟨N2, hN2⟩ : ∃ n, Hid ((sheetPs (p.procs.take (k + 1)) 0 []).length = n) := ⟨_, Lib.hid rfl⟩
      have hn2 : N2 = cntP (p.procs.take (k + 1)) := by rw [← hN2.out, sheetPs_len]; simp
      have hN2B : N2 ≤ 1000000 := by have h1 := HSL.out; have h2 := HCT.out; omega
      have HN2C := Lib.hid hn2
      obtain ⟨va6, vc6, hvf⟩ := ownsForm hst6.sh.row.own
      rw [hN2.out] at hvf
      subst hvf
      obtain ⟨ia, ic, hif⟩ := ownsForm hst6.hi
      rw [his_len] at hif
      subst hif
      have HST6 := Lib.hid hst6
      have hn1b : IntKind.i64.wrap ((N2 : Int) + 1) = (N2 : Int) + 1 := IntWalk.i64_in _ (by omega)
      clear hsh6 hkp6 hst6 hn2 hn1
      go_upto_region 7 with fail
      have Z3 := Lib.hid (HST6.out.sh.box 4 _ rfl)
      have ZF3 := Lib.hid (HST6.out.sh.free 4)
      have Z2 := Lib.hid (HST6.out.sh.box 2 _ rfl)
      have hq6 : Below w6.heap.size w6 w6.drew := (Below.refl _ _).drew
      have hbwd6 : Below w6.heap.size w6 (w6.alloc (.cells #[.int .i64 ((N2 : Int) + 1)] 3)).drew := (boxed w6 _).drew
      have hYl6 := cell_lt Z3.out
      have hB6 := HST6.out.sh.bw
      have hLY6 : some Y ≠ (Value.slice ia k ic).ownBlock := fun e => (HST6.out.d2 Y e.symm).1 rfl
      have HHI := Lib.hid (HST6.out.hi)
      unfold RowN at HHI
      rw [his_len] at HHI
      refine wp_region_z (fun w' => w'.cell? ⟨Y, 4, none⟩ = some (.slice ia k ic) ∧ w'.cell? ⟨Y, 2, none⟩ = some (.slice va6 N2 vc6)) 15 (by kernel_rfl) ⟨cell_next hq6 Z3.out, cell_next hq6 Z2.out⟩ (fun hS => ?_)
      refine' wpAnyZ_take (i := 0) (oi := _) (v := _) rfl (by kernel_rfl) (by kernel_rfl) (by kernel_rfl) (by kernel_rfl) (fun _ _ _ h => h) (Or.inl ⟨by rfl, ?hz0⟩) hS ?sest0
      case hz0 => (intro w hSw; have c0 := hSw.1; have c1 := hSw.2; clear hSw; go_simp; (try with_reducible rfl))
      try simp only [Act.put, List.setIfInBounds_toArray, List.set_cons_zero, List.set_cons_succ]
      refine' wpAnyZ_take (i := 1) (oi := _) (v := _) rfl (by kernel_rfl) (by kernel_rfl) (by kernel_rfl) (by kernel_rfl) (fun _ _ _ h => h) (Or.inl ⟨by rfl, ?hz1⟩) hS ?sest1
      case hz1 => (intro w hSw; have c0 := hSw.1; have c1 := hSw.2; clear hSw; go_simp; (try with_reducible rfl))
      try simp only [Act.put, List.setIfInBounds_toArray, List.set_cons_zero, List.set_cons_succ]
      refine' wpAnyZ_take (i := 2) (oi := _) (v := _) rfl (by kernel_rfl) (by kernel_rfl) (by kernel_rfl) (by kernel_rfl) (fun _ _ _ h => h) (Or.inl ⟨by rfl, ?hz2⟩) hS ?sest2
      case hz2 => (intro w hSw; have c0 := hSw.1; have c1 := hSw.2; clear hSw; go_simp; (try with_reducible rfl))
      try simp only [Act.put, List.setIfInBounds_toArray, List.set_cons_zero, List.set_cons_succ]
      refine' wpAnyZ_take (i := 3) (oi := _) (v := _) rfl (by kernel_rfl) (by kernel_rfl) (by kernel_rfl) (by kernel_rfl) (fun _ _ _ h => h) (Or.inl ⟨by rfl, ?hz3⟩) hS ?sest3
      case hz3 => (intro w hSw; have c0 := hSw.1; have c1 := hSw.2; clear hSw; go_simp; (try with_reducible rfl))
      try simp only [Act.put, List.setIfInBounds_toArray, List.set_cons_zero, List.set_cons_succ]
      refine' wpAnyZ_take (i := 4) (oi := _) (v := _) rfl (by kernel_rfl) (by kernel_rfl) (by kernel_rfl) (by kernel_rfl) (fun _ _ _ h => h) (Or.inl ⟨by rfl, ?hz4⟩) hS ?sest4
      case hz4 => (intro w hSw; have c0 := hSw.1; have c1 := hSw.2; clear hSw; go_simp; (try with_reducible rfl))
      try simp only [Act.put, List.setIfInBounds_toArray, List.set_cons_zero, List.set_cons_succ]
      refine' wpAnyZ_take (i := 5) (oi := _) (v := _) rfl (by kernel_rfl) (by kernel_rfl) (by kernel_rfl) (by kernel_rfl) (fun _ _ _ h => h) (Or.inl ⟨by rfl, ?hz5⟩) hS ?sest5
      case hz5 => (intro w hSw; have c0 := hSw.1; have c1 := hSw.2; clear hSw; go_simp; (try with_reducible rfl))
      try simp only [Act.put, List.setIfInBounds_toArray, List.set_cons_zero, List.set_cons_succ]
      refine' wpAnyZ_take (i := 6) (oi := _) (v := _) rfl (by kernel_rfl) (by kernel_rfl) (by kernel_rfl) (by kernel_rfl) (fun _ _ _ h => h) (Or.inl ⟨by rfl, ?hz6⟩) hS ?sest6
      case hz6 => (intro w hSw; have c0 := hSw.1; have c1 := hSw.2; clear hSw; go_simp; (try with_reducible rfl))
      try simp only [Act.put, List.setIfInBounds_toArray, List.set_cons_zero, List.set_cons_succ]
      refine' wpAnyZ_take (i := 7) (oi := _) (v := _) rfl (by kernel_rfl) (by kernel_rfl) (by kernel_rfl) (by kernel_rfl) (fun _ _ _ h => h) (Or.inl ⟨by rfl, ?hz7⟩) hS ?sest7
      case hz7 => (intro w hSw; have c0 := hSw.1; have c1 := hSw.2; clear hSw; go_simp; (try with_reducible rfl))
      try simp only [Act.put, List.setIfInBounds_toArray, List.set_cons_zero, List.set_cons_succ]
      refine' wpAnyZ_take (i := 8) (oi := _) (v := _) rfl (by kernel_rfl) (by kernel_rfl) (by kernel_rfl) (by kernel_rfl) (fun _ _ _ h => h) (Or.inl ⟨by rfl, ?hz8⟩) hS ?sest8
      case hz8 => (intro w hSw; have c0 := hSw.1; have c1 := hSw.2; clear hSw; go_simp; (try with_reducible rfl))
      try simp only [Act.put, List.setIfInBounds_toArray, List.set_cons_zero, List.set_cons_succ]
      refine' wpAnyZ_take (i := 9) (oi := _) (v := _) rfl (by kernel_rfl) (by kernel_rfl) (by kernel_rfl) (by kernel_rfl) (fun _ _ _ h => h) (Or.inl ⟨by rfl, ?hz9⟩) hS ?sest9
      case hz9 => (intro w hSw; have c0 := hSw.1; have c1 := hSw.2; clear hSw; go_simp; (try with_reducible rfl))
      try simp only [Act.put, List.setIfInBounds_toArray, List.set_cons_zero, List.set_cons_succ]
      refine' wpAnyZ_take (i := 10) (oi := _) (v := _) rfl (by kernel_rfl) (by kernel_rfl) (by kernel_rfl) (by kernel_rfl) (fun _ _ _ h => h) (Or.inl ⟨by rfl, ?hz10⟩) hS ?sest10
      case hz10 => (intro w hSw; have c0 := hSw.1; have c1 := hSw.2; clear hSw; go_simp; (try with_reducible rfl))
      try simp only [Act.put, List.setIfInBounds_toArray, List.set_cons_zero, List.set_cons_succ]
      refine' wpAnyZ_step (i := 11) (o := _) rfl (by kernel_rfl) (fun K hK => ?_)
      go_simp
      refine hK _ _ (fun _ => ⟨cell_next hbwd6 Z3.out, cell_next hbwd6 Z2.out⟩) ?_
      clear hK K
      try simp only [Act.put, List.setIfInBounds_toArray, List.set_cons_zero, List.set_cons_succ]
      refine' wpAnyZ_step (i := 12) (o := _) rfl (by kernel_rfl) (fun K hK => ?_)
      refine step_append_lies _ (by rfl) (.tmp 42) (.tmp 49) _ (by rfl) w.heap.size 3 iI (.int .i64 0) 1 8 Try.underlying33 hiI hzI0 hzI1 hzI2 rfl (by omega) (.slice ia k ic) k _ (by rfl) (ownsBelow HHI.out hbwd6)
        ⟨w6.heap.size, 0, none⟩ 1 1 [.int .i64 ((N2 : Int) + 1)] (by rfl) (by rfl) (World.news_of_block (cs := #[.int .i64 ((N2 : Int) + 1)]) (t := 3) (fr := (0, 0)) (heap_alloc_new w6 _)) (by simp [Value.oneCell'])
        (by omega) (by unfold maxLen; omega) (by omega) (by simp; omega) (w6.heap.size + 1) (by simp) ?_
      intro g10 cap10 w10 hown10 hg10 hat10 hlt10
      have q3 := (hg10.cell_far ⟨Y, 4, none⟩ (by simp; omega) hLY6).trans (cell_next hbwd6 Z3.out)
      have q2 := (hg10.cell_far ⟨Y, 2, none⟩ (by simp; omega) hLY6).trans (cell_next hbwd6 Z2.out)
      have qf3 := (hg10.frozen_far ⟨Y, 4, none⟩ (by simp; omega) hLY6).trans (frozen_next hbwd6 Z3.out ZF3.out)
      refine hK _ _ (fun _ => ⟨q3, q2⟩) ?_
      clear hK K
      try simp only [Act.put, List.setIfInBounds_toArray, List.set_cons_zero, List.set_cons_succ]
      refine' wpAnyZ_step (i := 13) (o := _) rfl (by kernel_rfl) (fun K hK => ?_)
      go_simp
      refine hK _ _ (fun _ => ⟨q3, q2⟩) ?_
      clear hK K
      try simp only [Act.put, List.setIfInBounds_toArray, List.set_cons_zero, List.set_cons_succ]
      refine' wpAnyZ_step (i := 14) (o := _) rfl (by kernel_rfl) (fun K hK => ?_)
      go_simp
      refine hK _ _ (fun _ => ⟨q3, q2⟩) ?_
      clear hK K
      try simp only [Act.put, List.setIfInBounds_toArray, List.set_cons_zero, List.set_cons_succ]
      refine' wpAnyZ_step (i := 15) (o := _) rfl (by kernel_rfl) (fun K hK => ?_)
      go_simp
      refine hK _ _ (fun h => absurd rfl h) ?_
      clear hK K
      try simp only [Act.put, List.setIfInBounds_toArray, List.set_cons_zero, List.set_cons_succ]
      refine wpAnyZ_done (by kernel_rfl) ?_ _
      have hat : ∀ q, (Value.slice (some ⟨g10, 0, none⟩) (k + 1) cap10).ownBlock = some q → (Value.slice ia k ic).ownBlock = some q ∨ w6.heap.size ≤ q := fun q hq => by
        have hqq : g10 = q := by simpa [Value.ownBlock] using hq
        subst hqq
        exact hat10.imp id fun h => by omega
      have hst7 := HST6.out.more_hi (hiv' := .slice (some ⟨g10, 0, none⟩) (k + 1) cap10) (n := (N2 : Int) + 1) hbwd6 hg10 hat (by rw [his_len]; exact hown10)
      have hhiE : hisOf p.procs k ++ [(N2 : Int) + 1] = hisOf p.procs (k + 1) := by rw [hisOf, HN2C.out]
      rw [hhiE] at hst7
      have hb7 : Below w.heap.size w w10 := (HB6.out.trans (hbwd6.mono HB6.out.size)).grown hg10 (Nat.le_trans HB6.out.size hbwd6.size) fun q hq => (HST6.out.hi.lt q hq).1
      have HST7 := Lib.hid hst7
      have HB7 := Lib.hid (hb7.setCell (p := ⟨Y, 4, none⟩) hYw (.slice (some ⟨g10, 0, none⟩) (k + 1) cap10))
      clear hst7 hb7 hat
      go_wp2_with fail
      go_roundw
      case rel => exact ⟨k + 1, _, _, _, _, by omega, by go_num, HST7.out, HB7.out⟩
      case measure => simp [intOf]; omega
    · have hlt' : ¬ (k : Int) < (p.procs.length : Int) := by omega
      have hke : k = p.procs.length := by omega
      subst hke
      rw [List.take_length] at HST
      clear hst hbel
      go_wp2_with fail
      go_ret
      exact ⟨Y, lov, hiv, v, rows, rfl, HST.out, HBEL.out⟩
end Go.Proofs.Ytghlmengcidmdaa.Tr
end
section
/- A part of a slice. No program's code. Conditions: the bounds are in it. -/
namespace Go.Proofs.Ytghlmengcidmdaa.Tr
open Go.RowKit Go.Proofs.Ytghlmengcidmdaa.Lx Go.Proofs.Ytghlmengcidmdaa.Wd
theorem run_sub (T e : TypeId) (hT : Try.prog.underlying T = some (.slice e)) (sz : Nat) (hs : ∀ w, (sizeOf e).run Try.prog w = .ok sz w) (a : Option Addr) (n cap lo hi : Nat) (x y : Int) (hx : x = lo) (hy : y = hi) (hlo : lo ≤ hi) (hk : hi ≤ cap) (_ : cap ≤ 9223372036854775807) (w : World) :
    (Instr.slice T (.slice a n cap) (some (.int .i64 x)) (some (.int .i64 y)) none).run Try.prog w = .ok (.slice (if cap = lo then a else a.map fun q => q.add (lo * sz)) (hi - lo) (cap - lo)) w := by
  subst hx hy
  by_cases h : cap = lo
  · rw [if_pos h]
    subst h
    cases a with
    | none => simp [go_sem, hT, hs, hk, hlo]
    | some a => simp [go_sem, hT, hs, hk, hlo]
  · rw [if_neg h]
    cases a with
    | none => simp [go_sem, hT, hs, hk, hlo]
    | some a => simp [go_sem, hT, hs, hk, hlo, h]
theorem SlAt.sub {α : Type} {size : Nat} {P : Nat → Nat → α → Prop} {a : Option Addr} {n c : Nat} {l : List α} (h : SlAt size P (.slice a n c) l) {lo hi : Nat} (h1 : lo ≤ hi) (h2 : hi ≤ l.length) : SlAt size P (.slice (if c = lo then a else a.map fun q => q.add (lo * size)) (hi - lo) (c - lo)) ((l.drop lo).take (hi - lo)) := by
  have hlen : ((l.drop lo).take (hi - lo)).length = hi - lo := by rw [List.length_take, List.length_drop]; omega
  obtain ⟨a', c', hv, hc1, hc2⟩ := h.form
  injection hv with e1 e2 e3
  subst e1 e3
  refine ⟨_, _, by rw [hlen], by omega, by omega, fun hne => ?_⟩
  have hlt : lo < hi := by
    rcases Nat.lt_or_ge lo hi with h' | h'
    · exact h'
    · exfalso; apply hne; exact List.eq_nil_of_length_eq_zero (by omega)
  have hnl : l ≠ [] := by intro e; subst e; simp at h2; omega
  obtain ⟨g, off, cap, hv', _, hc⟩ := h.cells hnl
  injection hv' with e1' e2' e3'
  subst e1'
  rw [if_neg (by omega)]
  refine ⟨g, off + lo * size, by simp [Addr.add], fun i hi' => ?_⟩
  rw [List.getElem_take, List.getElem_drop]
  have := hc (lo + i) (by omega)
  rwa [Nat.add_mul, ← Nat.add_assoc] at this
end Go.Proofs.Ytghlmengcidmdaa.Tr
end
section
/- What Of of flat's Sheet tells: a procedure's part. Conditions: the sheet stands in memory. -/
namespace Go.Proofs.Ytghlmengcidmdaa.Tr
open Go.RowKit Go.Proofs.Ytghlmengcidmdaa.Lx Go.Proofs.Ytghlmengcidmdaa.Wd
theorem cntP_le (l : List Pc) (k : Nat) : cntP (l.take k) ≤ cntP l := by
  conv => rhs; rw [← List.take_append_drop k l]
  unfold cntP
  rw [List.map_append, List.sum_append]
  omega
set_option maxHeartbeats 4000000 in
set_option maxRecDepth 100000 in
theorem of_any (B D : Nat) (p : Pr) (Y : Nat) (gv pv lov hiv v : Value) (rows : List (List Value)) (i : Nat) (hi : i < p.procs.length) (w : World) (h : SheetSt B D w Y gv pv lov hiv v (losOf p.procs p.procs.length) (hisOf p.procs p.procs.length) (sheetOf p) rows) (hm : cntP p.procs ≤ 1000000) :
    Calls Try.prog 88 #[.pointer (some ⟨Y, 0, none⟩), .int .i64 i] w fun e w' => ∃ sv, e = .returned sv ∧ SlAt 17 (FiAt (cw w) D) sv (partOf p i) ∧ Below w.heap.size w w' := by
  have hlo := h.lo
  have hhi := h.hi
  unfold RowN at hlo hhi
  have c1 : ∃ g1 k1, lov = .slice (some ⟨g1, 0, none⟩) p.procs.length k1 ∧ w.cell? ⟨g1, i, none⟩ = some (.int .i64 ((cntP (p.procs.take i) : Int) + 1)) := by
    rcases hlo.2 with ⟨-, hn⟩ | ⟨g1, cap1, cur1, hv1, -⟩
    · rw [los_len] at hn; omega
    · rw [los_len] at hv1
      have := hlo.cells (g := g1) (by rw [hv1]; rfl) i (.int .i64 ((cntP (p.procs.take i) : Int) + 1)) (by rw [List.getElem?_map, List.getElem?_eq_getElem (by rw [los_len]; exact hi), los_at]; rfl)
      rw [Addr.add_lit, Nat.zero_add] at this
      exact ⟨g1, cap1, hv1, this⟩
  have c2 : ∃ g1 k1, hiv = .slice (some ⟨g1, 0, none⟩) p.procs.length k1 ∧ w.cell? ⟨g1, i, none⟩ = some (.int .i64 ((cntP (p.procs.take (i + 1)) : Int) + 1)) := by
    rcases hhi.2 with ⟨-, hn⟩ | ⟨g1, cap1, cur1, hv1, -⟩
    · rw [his_len] at hn; omega
    · rw [his_len] at hv1
      have := hhi.cells (g := g1) (by rw [hv1]; rfl) i (.int .i64 ((cntP (p.procs.take (i + 1)) : Int) + 1)) (by rw [List.getElem?_map, List.getElem?_eq_getElem (by rw [his_len]; exact hi), his_at]; rfl)
      rw [Addr.add_lit, Nat.zero_add] at this
      exact ⟨g1, cap1, hv1, this⟩
  obtain ⟨g1, k1, rfl, l1⟩ := c1
  obtain ⟨g2, k2, rfl, l2⟩ := c2
  have hsl := h.sh.row.sl
  obtain ⟨va, vc, rfl, hv1, hv2⟩ := hsl.form
  have hln : (sheetOf p).length = cntP p.procs := by unfold sheetOf; rw [sheetPs_len]; simp
  have hA := cntP_le p.procs i
  have hE := cntP_le p.procs (i + 1)
  have hAE := cntP_take hi
  have hpart : partOf p i = ((sheetOf p).drop (cntP (p.procs.take i))).take (cntP (p.procs.take (i + 1)) - cntP (p.procs.take i)) := rfl
  obtain ⟨A, hA'⟩ : ∃ A, Hid (cntP (p.procs.take i) = A) := ⟨_, Lib.hid rfl⟩
  obtain ⟨E, hE'⟩ : ∃ E, Hid (cntP (p.procs.take (i + 1)) = E) := ⟨_, Lib.hid rfl⟩
  rw [hA'.out] at l1 hA hAE hpart
  rw [hE'.out] at l2 hE hAE hpart
  have HSUB := Lib.hid (SlAt.sub hsl (show A ≤ E by omega) (by omega))
  have y2 := h.sh.box 2 _ rfl
  have y3 := h.sh.box 3 _ rfl
  have y4 := h.sh.box 4 _ rfl
  have hcut := run_sub 89 95 Try.underlying89 17 (fun _ => by kernel_rfl) va (sheetOf p).length vc A E _ _ rfl rfl (by omega) (by omega) hv2
  obtain ⟨AD, hAD⟩ : ∃ x, Hid ((if vc = A then va else va.map fun q => q.add (A * 17)) = x) := ⟨_, Lib.hid rfl⟩
  rw [hAD.out] at hcut HSUB
  have w1 : IntKind.i64.wrap ((A : Int) + 1 - 1) = (A : Int) := by rw [IntWalk.i64_in _ (by omega)]; omega
  have w2 : IntKind.i64.wrap ((E : Int) + 1 - 1) = (E : Int) := by rw [IntWalk.i64_in _ (by omega)]; omega
  have w3 : IntKind.i64.wrap (A : Int) = (A : Int) := IntWalk.i64_in _ (by omega)
  have w4 : IntKind.i64.wrap (E : Int) = (E : Int) := IntWalk.i64_in _ (by omega)
  have hi' : (i : Int) < (p.procs.length : Int) := by omega
  have h0i : (0 : Int) ≤ (i : Int) := by omega
  have HPART := Lib.hid hpart
  clear h hlo hhi hsl hv1 hv2 hln hA hE hAE hpart
  go_enter Try.func88, Try.ntmps88
  go_wp2_with fail
  go_quiet (fail)
  go_wp2_with fail
  go_ret
  exact ⟨_, rfl, by rw [HPART.out]; exact HSUB.out, by first | exact below_drewN (Below.refl _ _) _ | exact (Below.refl _ _).drew⟩
end Go.Proofs.Ytghlmengcidmdaa.Tr
end
