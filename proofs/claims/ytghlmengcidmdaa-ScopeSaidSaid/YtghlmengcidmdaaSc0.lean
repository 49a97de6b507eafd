/- Parts of ScopeAllW: walks and plain laws that later texts use. Conditions: as each statement says. -/
import Derived.Test.YtghlmengcidmdaaSa0
import Derived.Test.YtghlmengcidmdaaSa1
import Derived.Test.YtghlmengcidmdaaSa10
import Derived.Test.YtghlmengcidmdaaSa11
import Derived.Test.YtghlmengcidmdaaSa12
import Derived.Test.YtghlmengcidmdaaSa13
import Derived.Test.YtghlmengcidmdaaSa14
import Derived.Test.YtghlmengcidmdaaSa15
import Derived.Test.YtghlmengcidmdaaSa16
import Derived.Test.YtghlmengcidmdaaSa17
import Derived.Test.YtghlmengcidmdaaSa18
import Derived.Test.YtghlmengcidmdaaSa19
import Derived.Test.YtghlmengcidmdaaSa2
import Derived.Test.YtghlmengcidmdaaSa20
import Derived.Test.YtghlmengcidmdaaSa21
import Derived.Test.YtghlmengcidmdaaSa22
import Derived.Test.YtghlmengcidmdaaSa23
import Derived.Test.YtghlmengcidmdaaSa24
import Derived.Test.YtghlmengcidmdaaSa25
import Derived.Test.YtghlmengcidmdaaSa26
import Derived.Test.YtghlmengcidmdaaSa27
import Derived.Test.YtghlmengcidmdaaSa28
import Derived.Test.YtghlmengcidmdaaSa29
import Derived.Test.YtghlmengcidmdaaSa3
import Derived.Test.YtghlmengcidmdaaSa30
import Derived.Test.YtghlmengcidmdaaSa31
import Derived.Test.YtghlmengcidmdaaSa32
import Derived.Test.YtghlmengcidmdaaSa33
import Derived.Test.YtghlmengcidmdaaSa34
import Derived.Test.YtghlmengcidmdaaSa35
import Derived.Test.YtghlmengcidmdaaSa36
import Derived.Test.YtghlmengcidmdaaSa37
import Derived.Test.YtghlmengcidmdaaSa38
import Derived.Test.YtghlmengcidmdaaSa39
import Derived.Test.YtghlmengcidmdaaSa4
import Derived.Test.YtghlmengcidmdaaSa40
import Derived.Test.YtghlmengcidmdaaSa5
import Derived.Test.YtghlmengcidmdaaSa6
import Derived.Test.YtghlmengcidmdaaSa7
import Derived.Test.YtghlmengcidmdaaSa8
import Derived.Test.YtghlmengcidmdaaSa9
import Derived.Deep.RegionHeld3
import Derived.Deep.RegionLaw
import Derived.Deep.AppendLies
import Derived.IntWalk
import Derived.Deep.DeepCutAuto
import Derived.Deep.QuietTactic
import Derived.BigQuiet
import Derived.WalkKit
import Derived.Test.YtghlmengcidmdaaRows
import Derived.WalkSpells
import Derived.Lib.Hide
import Derived.Below
import Derived.WalkSmall
import Derived.Deep.RegionWith
import Derived.Laws.Cover3
import Derived.OrdersHeld
import Derived.Laws.StructEq
import Derived.Deep.CutBlock
import Derived.Laws.BitsAllLaws
import Derived.OwnWalk
import Derived.OneCell
import Derived.Maps.Range
import Derived.Outline
import Derived.Lib.SmallJoins
import Derived.Deep.Upon
import Derived.Maps.AppendAt
import Derived.Laws.OwnMore
import Derived.RegionTactic
import Derived.Deep.Slices
import Derived.Deep.Fields
import Derived.SliceStrings
import Derived.ChangeSlices
import Derived.Deep.MidRow
import Derived.StillTailTactics
/- The law ScopeAll, walked: it returns true. Conditions: the arguments lie in memory. -/
namespace Go.Proofs.Ytghlmengcidmdaa.Tr
open Go.RowKit Go.Proofs.Ytghlmengcidmdaa.Lx Go.Proofs.Ytghlmengcidmdaa.Wd
set_option linter.unusedSimpArgs false
def zPc : Pc := ⟨⟨#[]⟩, [], [], [], []⟩
/-- What is made of a procedure, or of none. -/
theorem PcMade.all {d : Nat} {r : Option Pc} {w w' : World} {e : Ending} (h : PcMade d r w e w') : ∃ (a1 a2 a3 a4 : Option Addr) (c1 c2 c3 c4 : Nat), e = .returned (.tuple #[.agg #[.string (r.getD zPc).nm, .slice a1 (r.getD zPc).params.length c1, .slice a2 (r.getD zPc).vars.length c2, .slice a3 (r.getD zPc).body.length c3, .slice a4 (r.getD zPc).fin.length c4], .bool r.isSome]) ∧
    HangP (d + 1) w' (r.getD zPc) (.slice a1 (r.getD zPc).params.length c1) (.slice a2 (r.getD zPc).vars.length c2) (.slice a3 (r.getD zPc).body.length c3) (.slice a4 (r.getD zPc).fin.length c4) ∧ (r.getD zPc).nm.size ≤ 9223372036854775807 ∧ Below w.heap.size w w' := by
  cases r with
  | none =>
    obtain ⟨h1, h2⟩ := h
    exact ⟨none, none, none, none, 0, 0, 0, 0, h1, ⟨SlAt.nil, StrC.none _, SlAt.nil, StrC.none _⟩, by decide, h2⟩
  | some f =>
    obtain ⟨a1, a2, a3, a4, c1, c2, c3, c4, h1, h2, h3, h4⟩ := h
    exact ⟨a1, a2, a3, a4, c1, c2, c3, c4, h1, ⟨h2.par, h2.vars, h2.body.up, h2.fin⟩, h3, h4⟩
theorem one_pr {w : World} {d g : Nat} {F : Pc} {qv vv bv fv : Value} (hb : BoxAt w g [.string F.nm, qv, vv, bv, fv]) (hn : F.nm.size ≤ 9223372036854775807) (hh : HangP d w F qv vv bv fv) : PrC (cw w) d (.slice none 0 0) (.slice (some ⟨g, 0, none⟩) 1 1) ⟨[], [F]⟩ :=
  ⟨StrC.none _, ⟨_, 1, rfl, Nat.le_refl _, by omega, fun _ => ⟨g, 0, rfl, fun i hi => by
    match i, hi with
    | 0, _ => exact ⟨qv, vv, bv, fv, hb 0 _ rfl, hb 1 _ rfl, hb 2 _ rfl, hb 3 _ rfl, hb 4 _ rfl, hn, hh.par, hh.vars, hh.body, hh.fin⟩⟩⟩⟩
theorem pcIn_mem {p : Pr} {s : ByteArray} {f : Pc} (h : pcIn p s = some f) : f ∈ p.procs := by
  unfold pcIn at h
  split at h
  · exact List.mem_of_find?_eq_some h
  · cases h
theorem vars_room {p : Pr} (h : RoomP p) (s : ByteArray) : (varsIn p s).length ≤ 600000 := by
  unfold varsIn
  cases hp : pcIn p s with
  | none => simp
  | some f =>
    have h1 := h.own f (pcIn_mem hp)
    have h2 := h.glob
    simp only [ownNs, List.length_append, List.length_map]
    omega
set_option maxHeartbeats 4000000 in
set_option maxRecDepth 100000 in
theorem law_scopeAll {w : World} (d : Nat) (p : Pr) (gv pv : Value) (hp : PrC (cw w) d gv pv p) (proc : ByteArray) (_ : proc.size ≤ 9223372036854775807) (nm : ByteArray) (_ : nm.size ≤ 9223372036854775807) :
    Calls Try.prog 5 #[.agg #[gv, pv], .string proc, .string nm] w fun e w' => e = .returned (.bool true) ∧ Below w.heap.size w w' := by
  obtain ⟨ga, gc, rfl, -, -⟩ := hp.1.form
  obtain ⟨pa, pc, rfl, hpl1, hpl2⟩ := hp.2.form
  have hpl : p.procs.length ≤ 9223372036854775807 := Nat.le_trans hpl1 hpl2
  have HP := Lib.hid hp
  clear hp hpl1 hpl2
  go_enter Try.func5, Try.ntmps5
  go_upto_region 1 with fail
  refine cut_world (fun wx => Below w.heap.size w wx ∧ BoxAt wx w.heap.size [.slice ga p.globals.length gc, .slice pa p.procs.length pc]) ⟨boxed _ _, box_new w #[.slice ga p.globals.length gc, .slice pa p.procs.length pc] 25⟩ ?_
  rintro w1 ⟨hb1, hx1⟩
  have HB1 := Lib.hid hb1
  have HX1 := Lib.hid hx1
  have HP1 := Lib.hid (PrC.mono (cw_next hb1) HP.out)
  clear hb1 hx1
  have p0 := HX1.out 0 _ rfl
  have p1 := HX1.out 1 _ rfl
  go_wp2_with fail
  refine (scoped_any _).mono ?_
  rintro e w2 ⟨rfl, hb2⟩
  have HX2 := Lib.hid (HX1.out.next hb2)
  have HP2 := Lib.hid (PrC.mono (cw_next hb2) HP1.out)
  have HB2 := Lib.hid (HB1.out.trans (hb2.mono HB1.out.size))
  clear hb2
  clear p0 p1
  have p0 := HX2.out 0 _ rfl
  have p1 := HX2.out 1 _ rfl
  go_wp2_with fail
  refine (fits_any d p _ _ _ HP2.out).mono ?_
  rintro e w3 ⟨b1, hf1, rfl, hb3⟩
  have HF1 := Lib.hid hf1
  clear hf1
  have HX3 := Lib.hid (HX2.out.next hb3)
  have HP3 := Lib.hid (PrC.mono (cw_next hb3) HP2.out)
  have HB3 := Lib.hid (HB2.out.trans (hb3.mono HB2.out.size))
  clear hb3
  clear p0 p1
  cases b1 with
  | false =>
    have p0 := HX3.out 0 _ rfl
    have p1 := HX3.out 1 _ rfl
    go_wp2_with fail
    go_ret
    exact ⟨rfl, HB3.out⟩
  | true =>
    have HWP := Lib.hid (HF1.out (by simp))
    have HROOM := Lib.hid (RoomP.of (Nat.le_trans HWP.out (by decide)))
    clear HF1
    have p0 := HX3.out 0 _ rfl
    have p1 := HX3.out 1 _ rfl
    go_wp2_with fail
    refine (mayP_any d p _ _ _ HP3.out).mono ?_
    rintro e w4 ⟨rfl, hb4⟩
    obtain ⟨m1, hm1⟩ : ∃ m, Hid (mayP p = m) := ⟨_, Lib.hid rfl⟩
    rw [hm1.out]
    have HX4 := Lib.hid (HX3.out.next hb4)
    have HP4 := Lib.hid (PrC.mono (cw_next hb4) HP3.out)
    have HB4 := Lib.hid (HB3.out.trans (hb4.mono HB3.out.size))
    clear hb4
    clear p0 p1
    cases m1 with
    | false =>
      have hk0 : kindIn p proc nm = 0 := by unfold kindIn pcIn; rw [if_neg (by rw [hm1.out]; decide)]
      have hv0 : varsIn p proc = [] := by unfold varsIn pcIn; rw [if_neg (by rw [hm1.out]; decide)]
      have HK0 := Lib.hid hk0
      have HV0 := Lib.hid hv0
      clear hk0 hv0
      have p0 := HX4.out 0 _ rfl
      have p1 := HX4.out 1 _ rfl
      go_wp2_with fail
      refine (skind_any d p _ _ proc nm _ HP4.out).mono ?_
      rintro e w5 ⟨rfl, hb5⟩
      rw [HK0.out]
      have HX5 := Lib.hid (HX4.out.next hb5)
      have HP5 := Lib.hid (PrC.mono (cw_next hb5) HP4.out)
      have HB5 := Lib.hid (HB4.out.trans (hb5.mono HB4.out.size))
      clear hb5
      clear p0 p1
      have p0 := HX5.out 0 _ rfl
      have p1 := HX5.out 1 _ rfl
      go_wp2_with fail
      refine (svars_any d p _ _ proc _ HP5.out HROOM.out).mono ?_
      rintro e w6 ⟨v6, rfl, hr6, hb6⟩
      rw [HV0.out] at hr6
      obtain ⟨va6, vc6, rfl⟩ := ownsForm hr6.1
      clear hr6
      have HX6 := Lib.hid (HX5.out.next hb6)
      have HP6 := Lib.hid (PrC.mono (cw_next hb6) HP5.out)
      have HB6 := Lib.hid (HB5.out.trans (hb6.mono HB5.out.size))
      clear hb6
      clear p0 p1
      simp only [List.length_nil]
      go_wp2_with fail
      go_ret
      exact ⟨rfl, HB6.out⟩
    | true =>
      have p0 := HX4.out 0 _ rfl
      have p1 := HX4.out 1 _ rfl
      go_wp2_with fail
      refine (sproc_any d p _ _ proc _ HP4.out HWP.out).mono ?_
      intro e w5 hpm
      obtain ⟨a1, a2, a3, a4, c1, c2, c3, c4, rfl, hh5, hn5, hb5⟩ := hpm.all
      obtain ⟨FQ, hFQ⟩ : ∃ f, Hid ((pcIn p proc).getD zPc = f) := ⟨_, Lib.hid rfl⟩
      obtain ⟨OKQ, hOKQ⟩ : ∃ b, Hid ((pcIn p proc).isSome = b) := ⟨_, Lib.hid rfl⟩
      rw [hFQ.out] at hh5 hn5
      rw [hFQ.out, hOKQ.out]
      have HH5 := Lib.hid hh5
      have HN5 := Lib.hid hn5
      clear hpm hh5 hn5
      have HX5 := Lib.hid (HX4.out.next hb5)
      have HP5 := Lib.hid (PrC.mono (cw_next hb5) HP4.out)
      have HB5 := Lib.hid (HB4.out.trans (hb5.mono HB4.out.size))
      clear hb5
      clear p0 p1
      go_upto_region 8 with fail
      refine cut_world (fun wx => Below w5.heap.size w5 wx ∧ BoxAt wx w5.heap.size [.string FQ.nm, .slice a1 FQ.params.length c1, .slice a2 FQ.vars.length c2, .slice a3 FQ.body.length c3, .slice a4 FQ.fin.length c4]) ⟨boxed w5 _, box_new w5 #[.string FQ.nm, .slice a1 FQ.params.length c1, .slice a2 FQ.vars.length c2, .slice a3 FQ.body.length c3, .slice a4 FQ.fin.length c4] 55⟩ ?_
      rintro w6 ⟨hb6, hq6⟩
      have HQ6 := Lib.hid hq6
      have HH6 := Lib.hid (HH5.out.next hb6)
      have HX6 := Lib.hid (HX5.out.next hb6)
      have HP6 := Lib.hid (PrC.mono (cw_next hb6) HP5.out)
      have HB6 := Lib.hid (HB5.out.trans (hb6.mono HB5.out.size))
      clear hb6 hq6
      have p0 := HX6.out 0 _ rfl
      have p1 := HX6.out 1 _ rfl
      go_wp2_with fail
      refine (rproc_any d p _ _ proc _ HP6.out).mono ?_
      intro e w7 hpm
      obtain ⟨b1, b2, b3, b4, k1, k2, k3, k4, rfl, hh7, hn7, hb7⟩ := hpm.all
      rw [hFQ.out] at hh7 hn7
      rw [hFQ.out, hOKQ.out]
      have HG7 := Lib.hid hh7
      have HQ7 := Lib.hid (HQ6.out.next hb7)
      have HH7 := Lib.hid (HH6.out.next hb7)
      clear hpm hh7 hn7
      have HX7 := Lib.hid (HX6.out.next hb7)
      have HP7 := Lib.hid (PrC.mono (cw_next hb7) HP6.out)
      have HB7 := Lib.hid (HB6.out.trans (hb7.mono HB6.out.size))
      clear hb7
      clear p0 p1
      go_upto_region 9 with fail
      refine cut_world (fun wx => Below w7.heap.size w7 wx ∧ BoxAt wx w7.heap.size [.string FQ.nm, .slice b1 FQ.params.length k1, .slice b2 FQ.vars.length k2, .slice b3 FQ.body.length k3, .slice b4 FQ.fin.length k4]) ⟨boxed w7 _, box_new w7 #[.string FQ.nm, .slice b1 FQ.params.length k1, .slice b2 FQ.vars.length k2, .slice b3 FQ.body.length k3, .slice b4 FQ.fin.length k4] 55⟩ ?_
      rintro w8 ⟨hb8, hr8⟩
      have HR8 := Lib.hid hr8
      have HQ8 := Lib.hid (HQ7.out.next hb8)
      have HH8 := Lib.hid (HH7.out.next hb8)
      have HG8 := Lib.hid (HG7.out.next hb8)
      have HX8 := Lib.hid (HX7.out.next hb8)
      have HP8 := Lib.hid (PrC.mono (cw_next hb8) HP7.out)
      have HB8 := Lib.hid (HB7.out.trans (hb8.mono HB7.out.size))
      clear hb8 hr8
      have hq : Below w8.heap.size w8 w8.drew := (Below.refl _ _).drew
      obtain ⟨KI, hKI⟩ : ∃ k, Hid (kindIn p proc nm = k) := ⟨_, Lib.hid rfl⟩
      obtain ⟨VL, hVL⟩ : ∃ k, Hid (varsIn p proc = k) := ⟨_, Lib.hid rfl⟩
      have hvr : VL.length ≤ 600000 := by rw [← hVL.out]; exact vars_room HROOM.out proc
      have hkk : (KI == KI) = true := by simp
      have hoo : (OKQ == OKQ) = true := by simp
      refine wp_region_z (fun w' => BoxAt w' w.heap.size [.slice ga p.globals.length gc, .slice pa p.procs.length pc] ∧ BoxAt w' w5.heap.size [.string FQ.nm, .slice a1 FQ.params.length c1, .slice a2 FQ.vars.length c2, .slice a3 FQ.body.length c3, .slice a4 FQ.fin.length c4] ∧ BoxAt w' w7.heap.size [.string FQ.nm, .slice b1 FQ.params.length k1, .slice b2 FQ.vars.length k2, .slice b3 FQ.body.length k3, .slice b4 FQ.fin.length k4]) 32 (by kernel_rfl) ⟨HX8.out.next hq, HQ8.out.next hq, HR8.out.next hq⟩ (fun hS => ?_)
      refine' wpAnyZ_take (i := 0) (oi := _) (v := _) rfl (by kernel_rfl) (by kernel_rfl) (by kernel_rfl) (by kernel_rfl) (fun _ _ _ h => h) (Or.inl ⟨by rfl, ?hy0⟩) hS ?rest0
      case hy0 => (intro w hSw; have c0 := hSw.1 0 _ rfl; have c1 := hSw.1 1 _ rfl; clear hSw; go_simp; (try with_reducible rfl))
      try simp only [Act.put, List.setIfInBounds_toArray, List.set_cons_zero, List.set_cons_succ]
      refine' wpAnyZ_take (i := 1) (oi := _) (v := _) rfl (by kernel_rfl) (by kernel_rfl) (by kernel_rfl) (by kernel_rfl) (fun _ _ _ h => h) (Or.inl ⟨by rfl, ?hy1⟩) hS ?rest1
      case hy1 => (intro w hSw; clear hSw; go_simp; (try with_reducible rfl))
      try simp only [Act.put, List.setIfInBounds_toArray, List.set_cons_zero, List.set_cons_succ]
      refine' wpAnyZ_take (i := 2) (oi := _) (v := _) rfl (by kernel_rfl) (by kernel_rfl) (by kernel_rfl) (by kernel_rfl) (fun _ _ _ h => h) (Or.inl ⟨by rfl, ?hy2⟩) hS ?rest2
      case hy2 => (intro w hSw; clear hSw; go_simp; (try with_reducible rfl))
      try simp only [Act.put, List.setIfInBounds_toArray, List.set_cons_zero, List.set_cons_succ]
      refine' wpAnyZ_take (i := 4) (oi := _) (v := _) rfl (by kernel_rfl) (by kernel_rfl) (by kernel_rfl) (by kernel_rfl) (fun _ _ _ h => h) (Or.inl ⟨by rfl, ?hy4⟩) hS ?rest4
      case hy4 => (intro w hSw; have c0 := hSw.1 0 _ rfl; have c1 := hSw.1 1 _ rfl; clear hSw; go_simp; (try with_reducible rfl))
      try simp only [Act.put, List.setIfInBounds_toArray, List.set_cons_zero, List.set_cons_succ]
      refine' wpAnyZ_take (i := 5) (oi := _) (v := _) rfl (by kernel_rfl) (by kernel_rfl) (by kernel_rfl) (by kernel_rfl) (fun _ _ _ h => h) (Or.inl ⟨by rfl, ?hy5⟩) hS ?rest5
      case hy5 => (intro w hSw; clear hSw; go_simp; (try with_reducible rfl))
      try simp only [Act.put, List.setIfInBounds_toArray, List.set_cons_zero, List.set_cons_succ]
      refine' wpAnyZ_take (i := 6) (oi := _) (v := _) rfl (by kernel_rfl) (by kernel_rfl) (by kernel_rfl) (by kernel_rfl) (fun _ _ _ h => h) (Or.inl ⟨by rfl, ?hy6⟩) hS ?rest6
      case hy6 => (intro w hSw; clear hSw; go_simp; (try with_reducible rfl))
      try simp only [Act.put, List.setIfInBounds_toArray, List.set_cons_zero, List.set_cons_succ]
      refine' wpAnyZ_step (i := 3) (o := _) rfl (by kernel_rfl) (fun K hK => ?_)
      go_simp
      go_at_call 31
      refine (skind_any d p _ _ proc nm _ (PrC.mono (cw_next hq) HP8.out)).mono ?_
      rintro e w9 ⟨rfl, hb9⟩
      rw [hKI.out]
      have L9 := Lib.hid (below_then hb9 hq)
      clear hb9
      refine hK _ _ (fun _ => ⟨HX8.out.next L9.out, HQ8.out.next L9.out, HR8.out.next L9.out⟩) ?_
      clear hK K
      try simp only [Act.put, List.setIfInBounds_toArray, List.set_cons_zero, List.set_cons_succ]
      refine' wpAnyZ_step (i := 7) (o := _) rfl (by kernel_rfl) (fun K hK => ?_)
      go_simp
      go_at_call 34
      refine (rkindin_any d p _ _ proc nm _ (PrC.mono (cw_next L9.out) HP8.out)).mono ?_
      rintro e wa ⟨rfl, hba⟩
      rw [hKI.out]
      have LA := Lib.hid (L9.out.trans (hba.mono L9.out.size))
      clear hba
      refine hK _ _ (fun _ => ⟨HX8.out.next LA.out, HQ8.out.next LA.out, HR8.out.next LA.out⟩) ?_
      clear hK K
      try simp only [Act.put, List.setIfInBounds_toArray, List.set_cons_zero, List.set_cons_succ]
      refine' wpAnyZ_step (i := 8) (o := _) rfl (by kernel_rfl) (fun K hK => ?_)
      go_simp
      refine hK _ _ (fun _ => ⟨HX8.out.next LA.out, HQ8.out.next LA.out, HR8.out.next LA.out⟩) ?_
      clear hK K
      try simp only [Act.put, List.setIfInBounds_toArray, List.set_cons_zero, List.set_cons_succ]
      refine' wpAnyZ_step (i := 9) (o := _) rfl (by kernel_rfl) (fun K hK => ?_)
      go_simp
      refine hK _ _ (fun _ => ⟨HX8.out.next LA.out, HQ8.out.next LA.out, HR8.out.next LA.out⟩) ?_
      clear hK K
      try simp only [Act.put, List.setIfInBounds_toArray, List.set_cons_zero, List.set_cons_succ]
      have hSA : BoxAt wa w.heap.size [.slice ga p.globals.length gc, .slice pa p.procs.length pc] ∧ BoxAt wa w5.heap.size [.string FQ.nm, .slice a1 FQ.params.length c1, .slice a2 FQ.vars.length c2, .slice a3 FQ.body.length c3, .slice a4 FQ.fin.length c4] ∧ BoxAt wa w7.heap.size [.string FQ.nm, .slice b1 FQ.params.length k1, .slice b2 FQ.vars.length k2, .slice b3 FQ.body.length k3, .slice b4 FQ.fin.length k4] := ⟨HX8.out.next LA.out, HQ8.out.next LA.out, HR8.out.next LA.out⟩
      refine' wpAnyZ_take (i := 10) (oi := _) (v := _) rfl (by kernel_rfl) (by kernel_rfl) (by kernel_rfl) (by kernel_rfl) (fun _ _ _ h => h) (Or.inl ⟨by rfl, ?hy10⟩) hSA ?rest10
      case hy10 => (intro w hSw; have c0 := hSw.1 0 _ rfl; have c1 := hSw.1 1 _ rfl; clear hSw; go_simp; (try with_reducible rfl))
      try simp only [Act.put, List.setIfInBounds_toArray, List.set_cons_zero, List.set_cons_succ]
      refine' wpAnyZ_take (i := 11) (oi := _) (v := _) rfl (by kernel_rfl) (by kernel_rfl) (by kernel_rfl) (by kernel_rfl) (fun _ _ _ h => h) (Or.inl ⟨by rfl, ?hy11⟩) hSA ?rest11
      case hy11 => (intro w hSw; clear hSw; go_simp; (try with_reducible rfl))
      try simp only [Act.put, List.setIfInBounds_toArray, List.set_cons_zero, List.set_cons_succ]
      refine' wpAnyZ_take (i := 13) (oi := _) (v := _) rfl (by kernel_rfl) (by kernel_rfl) (by kernel_rfl) (by kernel_rfl) (fun _ _ _ h => h) (Or.inl ⟨by rfl, ?hy13⟩) hSA ?rest13
      case hy13 => (intro w hSw; have c0 := hSw.1 0 _ rfl; have c1 := hSw.1 1 _ rfl; clear hSw; go_simp; (try with_reducible rfl))
      try simp only [Act.put, List.setIfInBounds_toArray, List.set_cons_zero, List.set_cons_succ]
      refine' wpAnyZ_take (i := 14) (oi := _) (v := _) rfl (by kernel_rfl) (by kernel_rfl) (by kernel_rfl) (by kernel_rfl) (fun _ _ _ h => h) (Or.inl ⟨by rfl, ?hy14⟩) hSA ?rest14
      case hy14 => (intro w hSw; clear hSw; go_simp; (try with_reducible rfl))
      try simp only [Act.put, List.setIfInBounds_toArray, List.set_cons_zero, List.set_cons_succ]
      refine' wpAnyZ_step (i := 12) (o := _) rfl (by kernel_rfl) (fun K hK => ?_)
      go_simp
      go_at_call 26
      refine (svars_any d p _ _ proc _ (PrC.mono (cw_next LA.out) HP8.out) HROOM.out).mono ?_
      rintro e wb ⟨vb, rfl, hrb, hbb⟩
      rw [hVL.out] at hrb
      have LB := Lib.hid (LA.out.trans (hbb.mono LA.out.size))
      have SB := Lib.hid (hrb.strs (by omega))
      obtain ⟨vba, vbc, rfl⟩ := ownsForm hrb.1
      clear hbb hrb hSA
      refine hK _ _ (fun _ => ⟨HX8.out.next LB.out, HQ8.out.next LB.out, HR8.out.next LB.out⟩) ?_
      clear hK K
      try simp only [Act.put, List.setIfInBounds_toArray, List.set_cons_zero, List.set_cons_succ]
      refine' wpAnyZ_step (i := 15) (o := _) rfl (by kernel_rfl) (fun K hK => ?_)
      go_simp
      go_at_call 36
      refine (rvars_any d p _ _ proc _ (PrC.mono (cw_next LB.out) HP8.out) HROOM.out).mono ?_
      rintro e wc ⟨vc, rfl, hrc, hbc⟩
      rw [hVL.out] at hrc
      have LC := Lib.hid (LB.out.trans (hbc.mono LB.out.size))
      have SC := Lib.hid (hrc.strs (by omega))
      have SB2 := Lib.hid (SB.out.next hbc)
      obtain ⟨vca, vcc, rfl⟩ := ownsForm hrc.1
      clear hbc hrc
      refine hK _ _ (fun _ => ⟨HX8.out.next LC.out, HQ8.out.next LC.out, HR8.out.next LC.out⟩) ?_
      clear hK K
      try simp only [Act.put, List.setIfInBounds_toArray, List.set_cons_zero, List.set_cons_succ]
      refine' wpAnyZ_step (i := 16) (o := _) rfl (by kernel_rfl) (fun K hK => ?_)
      go_simp
      go_at_call 35
      refine (eqTexts_any VL VL _ _ _ SB2.out SC.out).mono ?_
      rintro e wd ⟨rfl, hbd⟩
      rw [eqT_same]
      have LD := Lib.hid (LC.out.trans (hbd.mono LC.out.size))
      clear hbd
      refine hK _ _ (fun _ => ⟨HX8.out.next LD.out, HQ8.out.next LD.out, HR8.out.next LD.out⟩) ?_
      clear hK K
      try simp only [Act.put, List.setIfInBounds_toArray, List.set_cons_zero, List.set_cons_succ]
      refine' wpAnyZ_step (i := 17) (o := _) rfl (by kernel_rfl) (fun K hK => ?_)
      go_simp
      refine hK _ _ (fun _ => ⟨HX8.out.next LD.out, HQ8.out.next LD.out, HR8.out.next LD.out⟩) ?_
      clear hK K
      try simp only [Act.put, List.setIfInBounds_toArray, List.set_cons_zero, List.set_cons_succ]
      refine' wpAnyZ_step (i := 18) (o := _) rfl (by kernel_rfl) (fun K hK => ?_)
      go_simp
      refine hK _ _ (fun _ => ⟨HX8.out.next LD.out, HQ8.out.next LD.out, HR8.out.next LD.out⟩) ?_
      clear hK K
      try simp only [Act.put, List.setIfInBounds_toArray, List.set_cons_zero, List.set_cons_succ]
      have hSD : BoxAt wd w.heap.size [.slice ga p.globals.length gc, .slice pa p.procs.length pc] ∧ BoxAt wd w5.heap.size [.string FQ.nm, .slice a1 FQ.params.length c1, .slice a2 FQ.vars.length c2, .slice a3 FQ.body.length c3, .slice a4 FQ.fin.length c4] ∧ BoxAt wd w7.heap.size [.string FQ.nm, .slice b1 FQ.params.length k1, .slice b2 FQ.vars.length k2, .slice b3 FQ.body.length k3, .slice b4 FQ.fin.length k4] := ⟨HX8.out.next LD.out, HQ8.out.next LD.out, HR8.out.next LD.out⟩
      refine' wpAnyZ_take (i := 19) (oi := _) (v := _) rfl (by kernel_rfl) (by kernel_rfl) (by kernel_rfl) (by kernel_rfl) (fun _ _ _ h => h) (Or.inl ⟨by rfl, ?hy19⟩) hSD ?rest19
      case hy19 => (intro w hSw; clear hSw; go_simp; (try with_reducible rfl))
      try simp only [Act.put, List.setIfInBounds_toArray, List.set_cons_zero, List.set_cons_succ]
      refine' wpAnyZ_take (i := 20) (oi := _) (v := _) rfl (by kernel_rfl) (by kernel_rfl) (by kernel_rfl) (by kernel_rfl) (fun _ _ _ h => h) (Or.inl ⟨by rfl, ?hy20⟩) hSD ?rest20
      case hy20 => (intro w hSw; clear hSw; go_simp; (try with_reducible rfl))
      try simp only [Act.put, List.setIfInBounds_toArray, List.set_cons_zero, List.set_cons_succ]
      refine' wpAnyZ_step (i := 21) (o := _) rfl (by kernel_rfl) (fun K hK => ?_)
      go_simp
      refine hK _ _ (fun _ => ⟨HX8.out.next LD.out, HQ8.out.next LD.out, HR8.out.next LD.out⟩) ?_
      clear hK K
      try simp only [Act.put, List.setIfInBounds_toArray, List.set_cons_zero, List.set_cons_succ]
      refine' wpAnyZ_step (i := 22) (o := _) rfl (by kernel_rfl) (fun K hK => ?_)
      go_simp
      refine hK _ _ (fun _ => ⟨HX8.out.next LD.out, HQ8.out.next LD.out, HR8.out.next LD.out⟩) ?_
      clear hK K
      try simp only [Act.put, List.setIfInBounds_toArray, List.set_cons_zero, List.set_cons_succ]
      refine' wpAnyZ_step (i := 23) (o := _) rfl (by kernel_rfl) (fun K hK => ?_)
      go_simp
      refine hK _ _ (fun _ => ⟨HX8.out.next LD.out, HQ8.out.next LD.out, HR8.out.next LD.out⟩) ?_
      clear hK K
      try simp only [Act.put, List.setIfInBounds_toArray, List.set_cons_zero, List.set_cons_succ]
      refine' wpAnyZ_take (i := 24) (oi := _) (v := _) rfl (by kernel_rfl) (by kernel_rfl) (by kernel_rfl) (by kernel_rfl) (fun _ _ _ h => h) (Or.inl ⟨by rfl, ?hy24⟩) hSD ?rest24
      case hy24 => (intro w hSw; have q0 := hSw.2.1 0 _ rfl; have q1 := hSw.2.1 1 _ rfl; have q2 := hSw.2.1 2 _ rfl; have q3 := hSw.2.1 3 _ rfl; have q4 := hSw.2.1 4 _ rfl; clear hSw; go_simp; (try with_reducible rfl))
      try simp only [Act.put, List.setIfInBounds_toArray, List.set_cons_zero, List.set_cons_succ]
      refine' wpAnyZ_take (i := 27) (oi := _) (v := _) rfl (by kernel_rfl) (by kernel_rfl) (by kernel_rfl) (by kernel_rfl) (fun _ _ _ h => h) (Or.inl ⟨by rfl, ?hy27⟩) hSD ?rest27
      case hy27 => (intro w hSw; have q0 := hSw.2.2 0 _ rfl; have q1 := hSw.2.2 1 _ rfl; have q2 := hSw.2.2 2 _ rfl; have q3 := hSw.2.2 3 _ rfl; have q4 := hSw.2.2 4 _ rfl; clear hSw; go_simp; (try with_reducible rfl))
      try simp only [Act.put, List.setIfInBounds_toArray, List.set_cons_zero, List.set_cons_succ]
      refine' wpAnyZ_two (i := 25) (j := 28) (o1 := _) (o2 := _) rfl rfl (by kernel_rfl) (fun K hK => ?one) (fun K hK => ?two)
      case one =>
        go_simp
        have LE := Lib.hid (LD.out.trans ((boxed wd (.cells #[.string FQ.nm, .slice a1 FQ.params.length c1, .slice a2 FQ.vars.length c2, .slice a3 FQ.body.length c3, .slice a4 FQ.fin.length c4] 55)).mono LD.out.size))
        refine hK _ _ (fun _ => ⟨HX8.out.next LE.out, HQ8.out.next LE.out, HR8.out.next LE.out⟩) ?_
        clear hK K
        try simp only [Act.put, List.setIfInBounds_toArray, List.set_cons_zero, List.set_cons_succ]
        have hSE : BoxAt (wd.alloc (.cells #[.string FQ.nm, .slice a1 FQ.params.length c1, .slice a2 FQ.vars.length c2, .slice a3 FQ.body.length c3, .slice a4 FQ.fin.length c4] 55)) w.heap.size [.slice ga p.globals.length gc, .slice pa p.procs.length pc] ∧ BoxAt (wd.alloc (.cells #[.string FQ.nm, .slice a1 FQ.params.length c1, .slice a2 FQ.vars.length c2, .slice a3 FQ.body.length c3, .slice a4 FQ.fin.length c4] 55)) w5.heap.size [.string FQ.nm, .slice a1 FQ.params.length c1, .slice a2 FQ.vars.length c2, .slice a3 FQ.body.length c3, .slice a4 FQ.fin.length c4] ∧ BoxAt (wd.alloc (.cells #[.string FQ.nm, .slice a1 FQ.params.length c1, .slice a2 FQ.vars.length c2, .slice a3 FQ.body.length c3, .slice a4 FQ.fin.length c4] 55)) w7.heap.size [.string FQ.nm, .slice b1 FQ.params.length k1, .slice b2 FQ.vars.length k2, .slice b3 FQ.body.length k3, .slice b4 FQ.fin.length k4] := ⟨HX8.out.next LE.out, HQ8.out.next LE.out, HR8.out.next LE.out⟩
        refine' wpAnyZ_take (i := 26) (oi := _) (v := _) rfl (by kernel_rfl) (by kernel_rfl) (by kernel_rfl) (by kernel_rfl) (fun _ _ _ h => h) (Or.inl ⟨by rfl, ?hyx26⟩) hSE ?restx26
        case hyx26 => (intro w hSw; clear hSw; go_simp; (try with_reducible rfl))
        try simp only [Act.put, List.setIfInBounds_toArray, List.set_cons_zero, List.set_cons_succ]
        refine' wpAnyZ_step (i := 28) (o := _) rfl (by kernel_rfl) (fun K hK => ?_)
        go_simp
        have LF := Lib.hid (LE.out.trans ((boxed (wd.alloc (.cells #[.string FQ.nm, .slice a1 FQ.params.length c1, .slice a2 FQ.vars.length c2, .slice a3 FQ.body.length c3, .slice a4 FQ.fin.length c4] 55)) (.cells #[.string FQ.nm, .slice b1 FQ.params.length k1, .slice b2 FQ.vars.length k2, .slice b3 FQ.body.length k3, .slice b4 FQ.fin.length k4] 55)).mono LE.out.size))
        refine hK _ _ (fun _ => ⟨HX8.out.next LF.out, HQ8.out.next LF.out, HR8.out.next LF.out⟩) ?_
        clear hK K
        try simp only [Act.put, List.setIfInBounds_toArray, List.set_cons_zero, List.set_cons_succ]
        obtain ⟨wf, hwf⟩ : ∃ x : World, x = (wd.alloc (.cells #[.string FQ.nm, .slice a1 FQ.params.length c1, .slice a2 FQ.vars.length c2, .slice a3 FQ.body.length c3, .slice a4 FQ.fin.length c4] 55)).alloc (.cells #[.string FQ.nm, .slice b1 FQ.params.length k1, .slice b2 FQ.vars.length k2, .slice b3 FQ.body.length k3, .slice b4 FQ.fin.length k4] 55) := ⟨_, rfl⟩
        have z1 : BoxAt wf wd.heap.size [.string FQ.nm, .slice a1 FQ.params.length c1, .slice a2 FQ.vars.length c2, .slice a3 FQ.body.length c3, .slice a4 FQ.fin.length c4] := by rw [hwf]; exact (box_new wd #[.string FQ.nm, .slice a1 FQ.params.length c1, .slice a2 FQ.vars.length c2, .slice a3 FQ.body.length c3, .slice a4 FQ.fin.length c4] 55).next (boxed _ _)
        have z2 : BoxAt wf (wd.heap.size + 1) [.string FQ.nm, .slice b1 FQ.params.length k1, .slice b2 FQ.vars.length k2, .slice b3 FQ.body.length k3, .slice b4 FQ.fin.length k4] := by rw [hwf]; have := box_new (wd.alloc (.cells #[.string FQ.nm, .slice a1 FQ.params.length c1, .slice a2 FQ.vars.length c2, .slice a3 FQ.body.length c3, .slice a4 FQ.fin.length c4] 55)) #[.string FQ.nm, .slice b1 FQ.params.length k1, .slice b2 FQ.vars.length k2, .slice b3 FQ.body.length k3, .slice b4 FQ.fin.length k4] 55; rwa [World.size_alloc] at this
        try rw [← hwf]
        rw [← hwf] at LF
        have Z1 := Lib.hid z1
        have Z2 := Lib.hid z2
        clear z1 z2 hwf hSE LE
        refine' wpAnyZ_step (i := 29) (o := _) rfl (by kernel_rfl) (fun K hK => ?_)
        go_simp
        refine hK _ _ (fun _ => ⟨HX8.out.next LF.out, HQ8.out.next LF.out, HR8.out.next LF.out⟩) ?_
        clear hK K
        try simp only [Act.put, List.setIfInBounds_toArray, List.set_cons_zero, List.set_cons_succ]
        refine' wpAnyZ_step (i := 30) (o := _) rfl (by kernel_rfl) (fun K hK => ?_)
        go_simp
        go_at_call 37
        refine (reqPr_any (d + 1) ⟨[], [FQ]⟩ ⟨[], [FQ]⟩ _ _ _ _ _ (one_pr (d := d + 1) Z1.out HN5.out (HH8.out.next LF.out)) (one_pr (d := d + 1) Z2.out HN5.out (HG8.out.next LF.out))).mono ?_
        rintro e wg ⟨rfl, hbg⟩
        rw [eqPr_refl]
        have LG := Lib.hid (LF.out.trans (hbg.mono LF.out.size))
        clear hbg
        refine hK _ _ (fun _ => ⟨HX8.out.next LG.out, HQ8.out.next LG.out, HR8.out.next LG.out⟩) ?_
        clear hK K
        try simp only [Act.put, List.setIfInBounds_toArray, List.set_cons_zero, List.set_cons_succ]
        refine' wpAnyZ_step (i := 31) (o := _) rfl (by kernel_rfl) (fun K hK => ?_)
        go_simp
        refine hK _ _ (fun _ => ⟨HX8.out.next LG.out, HQ8.out.next LG.out, HR8.out.next LG.out⟩) ?_
        clear hK K
        try simp only [Act.put, List.setIfInBounds_toArray, List.set_cons_zero, List.set_cons_succ]
        refine' wpAnyZ_step (i := 32) (o := _) rfl (by kernel_rfl) (fun K hK => ?_)
        go_simp
        refine hK _ _ (fun h => absurd rfl h) ?_
        clear hK K
        try simp only [Act.put, List.setIfInBounds_toArray, List.set_cons_zero, List.set_cons_succ]
        refine wpAnyZ_done (by kernel_rfl) ?_ _
        have HBZ := Lib.hid (HB8.out.trans (LG.out.mono HB8.out.size))
        clear hS hq
        go_wp2_with fail
        go_ret
        exact ⟨rfl, HBZ.out⟩
      case two =>
        go_simp
        have LE := Lib.hid (LD.out.trans ((boxed wd (.cells #[.string FQ.nm, .slice b1 FQ.params.length k1, .slice b2 FQ.vars.length k2, .slice b3 FQ.body.length k3, .slice b4 FQ.fin.length k4] 55)).mono LD.out.size))
        refine hK _ _ (fun _ => ⟨HX8.out.next LE.out, HQ8.out.next LE.out, HR8.out.next LE.out⟩) ?_
        clear hK K
        try simp only [Act.put, List.setIfInBounds_toArray, List.set_cons_zero, List.set_cons_succ]
        have hSE : BoxAt (wd.alloc (.cells #[.string FQ.nm, .slice b1 FQ.params.length k1, .slice b2 FQ.vars.length k2, .slice b3 FQ.body.length k3, .slice b4 FQ.fin.length k4] 55)) w.heap.size [.slice ga p.globals.length gc, .slice pa p.procs.length pc] ∧ BoxAt (wd.alloc (.cells #[.string FQ.nm, .slice b1 FQ.params.length k1, .slice b2 FQ.vars.length k2, .slice b3 FQ.body.length k3, .slice b4 FQ.fin.length k4] 55)) w5.heap.size [.string FQ.nm, .slice a1 FQ.params.length c1, .slice a2 FQ.vars.length c2, .slice a3 FQ.body.length c3, .slice a4 FQ.fin.length c4] ∧ BoxAt (wd.alloc (.cells #[.string FQ.nm, .slice b1 FQ.params.length k1, .slice b2 FQ.vars.length k2, .slice b3 FQ.body.length k3, .slice b4 FQ.fin.length k4] 55)) w7.heap.size [.string FQ.nm, .slice b1 FQ.params.length k1, .slice b2 FQ.vars.length k2, .slice b3 FQ.body.length k3, .slice b4 FQ.fin.length k4] := ⟨HX8.out.next LE.out, HQ8.out.next LE.out, HR8.out.next LE.out⟩
        refine' wpAnyZ_take (i := 29) (oi := _) (v := _) rfl (by kernel_rfl) (by kernel_rfl) (by kernel_rfl) (by kernel_rfl) (fun _ _ _ h => h) (Or.inl ⟨by rfl, ?hyy29⟩) hSE ?resty29
        case hyy29 => (intro w hSw; clear hSw; go_simp; (try with_reducible rfl))
        try simp only [Act.put, List.setIfInBounds_toArray, List.set_cons_zero, List.set_cons_succ]
        refine' wpAnyZ_step (i := 25) (o := _) rfl (by kernel_rfl) (fun K hK => ?_)
        go_simp
        have LF := Lib.hid (LE.out.trans ((boxed (wd.alloc (.cells #[.string FQ.nm, .slice b1 FQ.params.length k1, .slice b2 FQ.vars.length k2, .slice b3 FQ.body.length k3, .slice b4 FQ.fin.length k4] 55)) (.cells #[.string FQ.nm, .slice a1 FQ.params.length c1, .slice a2 FQ.vars.length c2, .slice a3 FQ.body.length c3, .slice a4 FQ.fin.length c4] 55)).mono LE.out.size))
        refine hK _ _ (fun _ => ⟨HX8.out.next LF.out, HQ8.out.next LF.out, HR8.out.next LF.out⟩) ?_
        clear hK K
        try simp only [Act.put, List.setIfInBounds_toArray, List.set_cons_zero, List.set_cons_succ]
        obtain ⟨wf, hwf⟩ : ∃ x : World, x = (wd.alloc (.cells #[.string FQ.nm, .slice b1 FQ.params.length k1, .slice b2 FQ.vars.length k2, .slice b3 FQ.body.length k3, .slice b4 FQ.fin.length k4] 55)).alloc (.cells #[.string FQ.nm, .slice a1 FQ.params.length c1, .slice a2 FQ.vars.length c2, .slice a3 FQ.body.length c3, .slice a4 FQ.fin.length c4] 55) := ⟨_, rfl⟩
        have z1 : BoxAt wf wd.heap.size [.string FQ.nm, .slice b1 FQ.params.length k1, .slice b2 FQ.vars.length k2, .slice b3 FQ.body.length k3, .slice b4 FQ.fin.length k4] := by rw [hwf]; exact (box_new wd #[.string FQ.nm, .slice b1 FQ.params.length k1, .slice b2 FQ.vars.length k2, .slice b3 FQ.body.length k3, .slice b4 FQ.fin.length k4] 55).next (boxed _ _)
        have z2 : BoxAt wf (wd.heap.size + 1) [.string FQ.nm, .slice a1 FQ.params.length c1, .slice a2 FQ.vars.length c2, .slice a3 FQ.body.length c3, .slice a4 FQ.fin.length c4] := by rw [hwf]; have := box_new (wd.alloc (.cells #[.string FQ.nm, .slice b1 FQ.params.length k1, .slice b2 FQ.vars.length k2, .slice b3 FQ.body.length k3, .slice b4 FQ.fin.length k4] 55)) #[.string FQ.nm, .slice a1 FQ.params.length c1, .slice a2 FQ.vars.length c2, .slice a3 FQ.body.length c3, .slice a4 FQ.fin.length c4] 55; rwa [World.size_alloc] at this
        try rw [← hwf]
        rw [← hwf] at LF
        have Z1 := Lib.hid z1
        have Z2 := Lib.hid z2
        clear z1 z2 hwf hSE LE
        refine' wpAnyZ_step (i := 26) (o := _) rfl (by kernel_rfl) (fun K hK => ?_)
        go_simp
        refine hK _ _ (fun _ => ⟨HX8.out.next LF.out, HQ8.out.next LF.out, HR8.out.next LF.out⟩) ?_
        clear hK K
        try simp only [Act.put, List.setIfInBounds_toArray, List.set_cons_zero, List.set_cons_succ]
        refine' wpAnyZ_step (i := 30) (o := _) rfl (by kernel_rfl) (fun K hK => ?_)
        go_simp
        go_at_call 37
        refine (reqPr_any (d + 1) ⟨[], [FQ]⟩ ⟨[], [FQ]⟩ _ _ _ _ _ (one_pr (d := d + 1) Z2.out HN5.out (HH8.out.next LF.out)) (one_pr (d := d + 1) Z1.out HN5.out (HG8.out.next LF.out))).mono ?_
        rintro e wg ⟨rfl, hbg⟩
        rw [eqPr_refl]
        have LG := Lib.hid (LF.out.trans (hbg.mono LF.out.size))
        clear hbg
        refine hK _ _ (fun _ => ⟨HX8.out.next LG.out, HQ8.out.next LG.out, HR8.out.next LG.out⟩) ?_
        clear hK K
        try simp only [Act.put, List.setIfInBounds_toArray, List.set_cons_zero, List.set_cons_succ]
        refine' wpAnyZ_step (i := 31) (o := _) rfl (by kernel_rfl) (fun K hK => ?_)
        go_simp
        refine hK _ _ (fun _ => ⟨HX8.out.next LG.out, HQ8.out.next LG.out, HR8.out.next LG.out⟩) ?_
        clear hK K
        try simp only [Act.put, List.setIfInBounds_toArray, List.set_cons_zero, List.set_cons_succ]
        refine' wpAnyZ_step (i := 32) (o := _) rfl (by kernel_rfl) (fun K hK => ?_)
        go_simp
        refine hK _ _ (fun h => absurd rfl h) ?_
        clear hK K
        try simp only [Act.put, List.setIfInBounds_toArray, List.set_cons_zero, List.set_cons_succ]
        refine wpAnyZ_done (by kernel_rfl) ?_ _
        have HBZ := Lib.hid (HB8.out.trans (LG.out.mono HB8.out.size))
        clear hS hq
        go_wp2_with fail
        go_ret
        exact ⟨rfl, HBZ.out⟩
end Go.Proofs.Ytghlmengcidmdaa.Tr
