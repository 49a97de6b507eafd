/- Parts of ScopeTwiceW: walks and plain laws that later texts use. Conditions: as each statement says. -/
import Derived.Test.YtghlmengcidmdaaTw0
import Derived.Test.YtghlmengcidmdaaTw1
import Derived.Test.YtghlmengcidmdaaTw2
import Derived.Test.YtghlmengcidmdaaTw3
import Derived.Test.YtghlmengcidmdaaTw4
import Derived.Test.YtghlmengcidmdaaTw5
import Derived.Test.YtghlmengcidmdaaTw6
import Derived.Test.YtghlmengcidmdaaTw7
import Derived.Test.YtghlmengcidmdaaTw8
import Derived.Test.YtghlmengcidmdaaTw9
import Derived.Test.YtghlmengcidmdaaTw10
import Derived.Test.YtghlmengcidmdaaTw11
import Derived.Test.YtghlmengcidmdaaTw12
import Derived.Test.YtghlmengcidmdaaTw13
import Derived.Test.YtghlmengcidmdaaTw14
import Derived.Test.YtghlmengcidmdaaTw15
import Derived.Test.YtghlmengcidmdaaTw16
import Derived.Test.YtghlmengcidmdaaTw17
import Derived.Test.YtghlmengcidmdaaTw18
import Derived.Test.YtghlmengcidmdaaTw19
import Derived.Test.YtghlmengcidmdaaTw20
import Derived.Deep.DeepCutAuto
import Derived.Deep.CutBlock
import Derived.IntWalk
import Derived.Laws.StructEq
import Derived.Deep.RegionHeld3
import Derived.Deep.QuietTactic
import Derived.BigQuiet
import Derived.WalkKit
import Derived.Test.YtghlmengcidmdaaRows
import Derived.WalkSpells
import Derived.Lib.Hide
import Derived.Below
import Derived.Laws.BitsAllLaws
import Derived.OwnWalk
import Derived.OneCell
import Derived.Deep.AppendLies
import Derived.Deep.RegionLaw
import Derived.Deep.RegionWith
import Derived.Laws.Cover3
import Derived.StillTailTactics
import Derived.Outline
import Derived.Deep.Slices
import Derived.Deep.Fields
import Derived.Lib.SmallJoins
import Derived.SliceStrings
import Derived.ChangeSlices
import Derived.RegionTactic
import Derived.Maps.Range
import Derived.Deep.Upon
import Derived.Maps.AppendAt
import Derived.Laws.OwnMore
import Derived.OrdersHeld
import Derived.WalkSmall
import Derived.Deep.MidRow
/- The law ScopeTwice, walked: it returns true. Conditions: the arguments lie in memory. -/
namespace Go.Proofs.Ytghlmengcidmdaa.Tr
open Go.RowKit Go.Proofs.Ytghlmengcidmdaa.Lx Go.Proofs.Ytghlmengcidmdaa.Wd
set_option linter.unusedSimpArgs false
set_option maxHeartbeats 8000000 in
set_option maxRecDepth 100000 in
theorem law_scopeTwice {w : World} (d : Nat) (p : Pr) (gv pv : Value) (hp : PrC (cw w) d gv pv p) (n : Int) (hn0 : (Lit.int .i64 n).wf = true) (k : Int) (hk0 : (Lit.int .i64 k).wf = true) (name : ByteArray) (hs0 : name.size ≤ 9223372036854775807) :
    Calls Try.prog 9 #[.agg #[gv, pv], .int .i64 n, .int .i64 k, .string name] w fun e w' => e = .returned (.bool true) ∧ Below w.heap.size w w' := by
  obtain ⟨ga, gc, rfl, -, -⟩ := hp.1.form
  obtain ⟨pa, pc, rfl, hpl1, hpl2⟩ := hp.2.form
  have hpl : p.procs.length ≤ 9223372036854775807 := Nat.le_trans hpl1 hpl2
  have HP := Lib.hid hp
  clear hp hpl1 hpl2
  have hn : InI n := wf_in hn0
  have HKI := Lib.hid (wf_in hk0)
  have HSN := Lib.hid hs0
  clear hn0 hk0 hs0
  go_enter Try.func9, Try.ntmps9
  go_upto_region 1 with fail
  refine cut_world (fun wx => Below w.heap.size w wx ∧ BoxAt wx w.heap.size [.slice ga p.globals.length gc, .slice pa p.procs.length pc]) ⟨boxed _ _, box_new w #[.slice ga p.globals.length gc, .slice pa p.procs.length pc] 25⟩ ?_
  rintro w1 ⟨hb1, hx1⟩
  have HB1 := Lib.hid hb1
  have HX1 := Lib.hid hx1
  have HP1 := Lib.hid (PrC.mono (cw_next hb1) HP.out)
  clear hb1 hx1
  have p0 := HX1.out 0 _ rfl
  have p1 := HX1.out 1 _ rfl
  go_wp2_with fail
  refine (scoped_any _).mono ?_
  rintro e w2 ⟨rfl, hb2⟩
  have HX2 := Lib.hid (HX1.out.next hb2)
  have HP2 := Lib.hid (PrC.mono (cw_next hb2) HP1.out)
  have HB2 := Lib.hid (HB1.out.trans (hb2.mono HB1.out.size))
  clear hb2
  clear p0 p1
  have p0 := HX2.out 0 _ rfl
  have p1 := HX2.out 1 _ rfl
  go_wp2_with fail
  refine (fits_any d p _ _ _ HP2.out).mono ?_
  rintro e w3 ⟨b1, hf1, rfl, hb3⟩
  have HF1 := Lib.hid hf1
  clear hf1
  have HX3 := Lib.hid (HX2.out.next hb3)
  have HP3 := Lib.hid (PrC.mono (cw_next hb3) HP2.out)
  have HB3 := Lib.hid (HB2.out.trans (hb3.mono HB2.out.size))
  clear hb3
  clear p0 p1
  cases b1 with
  | false =>
    have p0 := HX3.out 0 _ rfl
    have p1 := HX3.out 1 _ rfl
    go_wp2_with fail
    go_ret
    exact ⟨rfl, HB3.out⟩
  | true =>
    have HWP := Lib.hid (HF1.out (by simp))
    have HROOM := Lib.hid (RoomP.of (Nat.le_trans HWP.out (by decide)))
    clear HF1
    have p0 := HX3.out 0 _ rfl
    have p1 := HX3.out 1 _ rfl
    go_wp2_with fail
    refine (scheck_any d p _ _ _ HP3.out HROOM.out).mono ?_
    rintro e w4 ⟨rfl, hb4⟩
    obtain ⟨SC, hSC⟩ : ∃ r, Hid ((scopeP p).1 = r) := ⟨_, Lib.hid rfl⟩
    obtain ⟨SI, hSI⟩ : ∃ r, Hid ((scopeP p).2 = r) := ⟨_, Lib.hid rfl⟩
    rw [hSC.out, hSI.out]
    have HX4 := Lib.hid (HX3.out.next hb4)
    have HP4 := Lib.hid (PrC.mono (cw_next hb4) HP3.out)
    have HB4 := Lib.hid (HB3.out.trans (hb4.mono HB3.out.size))
    clear hb4
    clear p0 p1
    have hfd := run_code SC SI
    by_cases hz : SC = 0
    · have hz1 : (SC == 0) = true := by simpa using hz
      have hz2 : (SC != 0) = false := by rw [bne, hz1]; rfl
      have HWELL := Lib.hid (hSC.out.trans hz)
      have HMAY := Lib.hid (scope_code HWELL.out).1
      clear hz
      have hpos := well_procs HWELL.out
      have HPOS := Lib.hid hpos
      have hl0 : ((p.procs.length : Int) == 0) = false := by simp only [beq_eq_false_iff_ne]; omega
      clear hpos
      have p0 := HX4.out 0 _ rfl
      have p1 := HX4.out 1 _ rfl
      go_wp2_with fail
      refine (name_any name _ HSN.out).mono ?_
      rintro e w' ⟨rfl, rfl⟩
      cases hnm : isName (bl name) with
      | true =>
        have HNM := Lib.hid hnm
        clear hnm
        go_upto_region 7 with fail
        clear hz1 hz2 hfd hl0
        have hcp := copyZ_row d p _ _ _ HP4.out HWP.out
        rw [put_sameP HMAY.out] at hcp
        go_wp2_with fail
        refine hcp.mono ?_
        rintro e w5 ⟨gq, pq, B, rows, Lo, W, rfl, hBB, hgr, hgl, hacc, hz, hb5⟩
        obtain ⟨gqa, gqc, rfl⟩ := ownsForm hgr.1
        obtain ⟨G, pqc, rfl⟩ : ∃ G pqc, pq = .slice (some ⟨G, 0, none⟩) p.procs.length pqc := by
          rcases hacc.own.2 with ⟨-, h⟩ | ⟨g, cap, cur, h1, -⟩
          · have := HPOS.out; omega
          · exact ⟨g, cap, h1⟩
        have HACC := Lib.hid hacc
        have HZ := Lib.hid hz
        have HGR := Lib.hid hgr
        have HGL := Lib.hid hgl
        have HGG := Lib.hid (hacc.own.lt G rfl)
        have HB45 : Hid (w4.heap.size ≤ w5.heap.size) := Lib.hid hb5.size
        have HWB : Hid (w.heap.size ≤ B) := Lib.hid (Nat.le_trans HB4.out.size hBB)
        have HGW : Hid (∀ g, (Value.slice gqa p.globals.length gqc).ownBlock = some g → w.heap.size < g) := Lib.hid (fun g hg => by have h1 := (hgr.lt g hg).1; have h2 := cell_lt (HX4.out 0 _ rfl); omega)
        have HX5 := Lib.hid (HX4.out.next hb5)
        have HP5 := Lib.hid (PrC.mono (cw_next hb5) HP4.out)
        have HB5 := Lib.hid (HB4.out.trans (hb5.mono HB4.out.size))
        clear hcp hacc hz hgr hgl hBB hb5 p0 p1
        go_upto_region 8 with fail
        refine cut_world (fun wx => Below w5.heap.size w5 wx ∧ BoxAt wx w5.heap.size [.slice gqa p.globals.length gqc, .slice (some ⟨G, 0, none⟩) p.procs.length pqc] ∧ Free wx w5.heap.size) ⟨boxed w5 _, box_new w5 #[.slice gqa p.globals.length gqc, .slice (some ⟨G, 0, none⟩) p.procs.length pqc] 25, fun j => by simp [go_sem]⟩ ?_
        rintro w6 ⟨hb6, hy6, hv6⟩
        obtain ⟨QB, hQB⟩ : ∃ b, Hid (w5.heap.size = b) := ⟨_, Lib.hid rfl⟩
        rw [hQB.out] at hy6 hv6
        try rw [hQB.out]
        have HQ6 := Lib.hid hb6
        have HY6 := Lib.hid hy6
        have HV6 := Lib.hid hv6
        have hqs : QB < w6.heap.size := cell_lt (hy6 0 _ rfl)
        have HX6 := Lib.hid (HX5.out.next hb6)
        have HP6 := Lib.hid (PrC.mono (cw_next hb6) HP5.out)
        have HB6 := Lib.hid (HB5.out.trans (hb6.mono HB5.out.size))
        clear hb6 hy6 hv6
        obtain ⟨m, hm, hmi⟩ : ∃ m : Nat, m < p.procs.length ∧ n % (p.procs.length : Int) = (m : Int) := ⟨(n % (p.procs.length : Int)).toNat, (mod_at HPOS.out).1, (mod_at HPOS.out).2⟩
        have HMM := Lib.hid (fun w => mod_any n (p.procs.length : Int) (m : Int) w hn.1 hn.2 (by have := HPOS.out; omega) (by have := HROOM.out.procs; omega) hmi)
        have hmr : m < rows.length := by rw [HACC.out.len]; exact hm
        obtain ⟨f, hf⟩ : ∃ f, Hid (p.procs[m] = f) := ⟨_, Lib.hid rfl⟩
        obtain ⟨M, N, pv, vv, bv, fv, hrow, hF⟩ := HZ.out.pc m hm hmr
        rw [hf.out] at hrow hF
        have hF' : ZoneF (d + 1) (Lo m) (W m) M N pv vv bv fv f := hF
        obtain ⟨va, vc, rfl⟩ := ownsForm hF'.2.2.2.2.1.1
        obtain ⟨qa, qc, rfl⟩ := ownsForm hF'.2.2.2.2.2.2.2.2.1
        have HF := Lib.hid hF'
        have HROW := Lib.hid hrow
        have HC0 := Lib.hid (acc_cell HACC.out (g := G) rfl hmr (i := m) (j := 0) (u := .string f.nm) (by rw [hrow]; rfl))
        have HC1 := Lib.hid (acc_cell HACC.out (g := G) rfl hmr (i := m) (j := 1) (by rw [hrow]; rfl))
        have HC2 := Lib.hid (acc_cell HACC.out (g := G) rfl hmr (i := m) (j := 2) (by rw [hrow]; rfl))
        have HGF := Lib.hid (acc_soft HACC.out (g := G) rfl)
        have hmem : f ∈ p.procs := by rw [← hf.out]; exact List.getElem_mem hm
        have HMEM := Lib.hid hmem
        have HVAR := Lib.hid (zone_kept HZ.out hm hF'.2.2.2.2.1)
        have HPAR := Lib.hid (zone_keptP HZ.out hm (by have h1 := hF'.2.1; have h2 := hF'.2.2.1; omega) hF'.2.2.2.2.2.2.2.2.1)
        have HLEN : Hid (p.globals.length ≤ 20000 ∧ ∀ f ∈ p.procs, f.params.length ≤ 20000 ∧ f.vars.length ≤ 20000) := Lib.hid (by
          have h := HWP.out
          unfold wtPr at h
          have h1 := wtTs_len p.globals
          refine ⟨by omega, fun x hx => ?_⟩
          have h2 := sum_mem wtPc p.procs x hx
          have h3 := wtPas_len x.params
          have h4 := wtTs_len x.vars
          unfold wtPc at h2
          unfold wtPc at h
          omega)
        have hm0 : (0 : Int) ≤ (m : Int) := by omega
        have hm1 : (m : Int) < (p.procs.length : Int) := by omega
        clear hrow hF hF' hmem hmi
        have y1 := HY6.out 1 _ rfl
        go_wp2_with fail
        refine (HMM.out _).mono ?_
        rintro e w' ⟨rfl, rfl⟩
        go_upto_region 9 with fail
        clear y1
        have hq : Below w6.heap.size w6 w6.drew := (Below.refl _ _).drew
        have hmz : m * 5 + 0 = m * 5 := rfl
        refine wp_region_z (fun w' => BoxAt w' w.heap.size [.slice ga p.globals.length gc, .slice pa p.procs.length pc] ∧ BoxAt w' QB [.slice gqa p.globals.length gqc, .slice (some ⟨G, 0, none⟩) p.procs.length pqc] ∧ w'.cell? ⟨G, m * 5, none⟩ = some (.string f.nm)) 8 (by kernel_rfl) ⟨HX6.out.next hq, HY6.out.next hq, cell_next (HQ6.out.trans (hq.mono HQ6.out.size)) HC0.out⟩ (fun hS => ?_)
        show wpAnyZ _ _ _ _ _ _ 9 #[false, false, false, false, false, false, false, false, false] _ _
        refine' wpAnyZ_take (i := 0) (oi := _) (v := _) rfl (by kernel_rfl) (by kernel_rfl) (by kernel_rfl) (by kernel_rfl) (fun _ _ _ h => h) (Or.inl ⟨by rfl, ?hyn0⟩) hS ?restn0
        case hyn0 => (intro w hSw; have c0 := hSw.1 0 _ rfl; have c1 := hSw.1 1 _ rfl; clear hSw; go_simp; (try with_reducible rfl))
        try simp only [Act.put, List.getElem_toArray, List.getElem_cons_succ, List.getElem_cons_zero, List.setIfInBounds_toArray, List.set_cons_zero, List.set_cons_succ]
        refine' wpAnyZ_take (i := 1) (oi := _) (v := _) rfl (by kernel_rfl) (by kernel_rfl) (by kernel_rfl) (by kernel_rfl) (fun _ _ _ h => h) (Or.inl ⟨by rfl, ?hyn1⟩) hS ?restn1
        case hyn1 => (intro w hSw; clear hSw; go_simp; (try with_reducible rfl))
        try simp only [Act.put, List.getElem_toArray, List.getElem_cons_succ, List.getElem_cons_zero, List.setIfInBounds_toArray, List.set_cons_zero, List.set_cons_succ]
        refine' wpAnyZ_take (i := 2) (oi := _) (v := _) rfl (by kernel_rfl) (by kernel_rfl) (by kernel_rfl) (by kernel_rfl) (fun _ _ _ h => h) (Or.inl ⟨by rfl, ?hyn2⟩) hS ?restn2
        case hyn2 => (intro w hSw; have c1 := hSw.2.1 1 _ rfl; clear hSw; go_simp; (try with_reducible rfl))
        try simp only [Act.put, List.getElem_toArray, List.getElem_cons_succ, List.getElem_cons_zero, List.setIfInBounds_toArray, List.set_cons_zero, List.set_cons_succ]
        refine' wpAnyZ_take (i := 3) (oi := _) (v := _) rfl (by kernel_rfl) (by kernel_rfl) (by kernel_rfl) (by kernel_rfl) (fun _ _ _ h => h) (Or.inl ⟨by rfl, ?hyn3⟩) hS ?restn3
        case hyn3 => (intro w hSw; clear hSw; go_simp; (try with_reducible rfl))
        try simp only [Act.put, List.getElem_toArray, List.getElem_cons_succ, List.getElem_cons_zero, List.setIfInBounds_toArray, List.set_cons_zero, List.set_cons_succ]
        refine' wpAnyZ_take (i := 4) (oi := _) (v := _) rfl (by kernel_rfl) (by kernel_rfl) (by kernel_rfl) (by kernel_rfl) (fun _ _ _ h => h) (Or.inl ⟨by rfl, ?hyn4⟩) hS ?restn4
        case hyn4 => (intro w hSw; clear hSw; go_simp; (try with_reducible rfl))
        try simp only [Act.put, List.getElem_toArray, List.getElem_cons_succ, List.getElem_cons_zero, List.setIfInBounds_toArray, List.set_cons_zero, List.set_cons_succ]
        refine' wpAnyZ_take (i := 5) (oi := _) (v := _) rfl (by kernel_rfl) (by kernel_rfl) (by kernel_rfl) (by kernel_rfl) (fun _ _ _ h => h) (Or.inl ⟨by rfl, ?hyn5⟩) hS ?restn5
        case hyn5 => (intro w hSw; clear hSw; go_simp; (try with_reducible rfl))
        try simp only [Act.put, List.getElem_toArray, List.getElem_cons_succ, List.getElem_cons_zero, List.setIfInBounds_toArray, List.set_cons_zero, List.set_cons_succ]
        refine' wpAnyZ_take (i := 6) (oi := _) (v := _) rfl (by kernel_rfl) (by kernel_rfl) (by kernel_rfl) (by kernel_rfl) (fun _ _ _ h => h) (Or.inl ⟨by rfl, ?hyn6⟩) hS ?restn6
        case hyn6 => (intro w hSw; have c0 := hSw.2.2; clear hSw; go_simp; (try with_reducible rfl))
        try simp only [Act.put, List.getElem_toArray, List.getElem_cons_succ, List.getElem_cons_zero, List.setIfInBounds_toArray, List.set_cons_zero, List.set_cons_succ]
        refine' wpAnyZ_step (i := 7) (o := _) rfl (by kernel_rfl) (fun K hK => ?_)
        go_simp
        go_at_call 26
        refine (svars_any d p _ _ f.nm _ (PrC.mono (cw_next hq) HP6.out) HROOM.out).mono ?_
        rintro e w7 ⟨v7, rfl, hr7, hb7⟩
        have L7 := Lib.hid (below_then hb7 hq)
        clear hb7
        refine hK _ _ (fun _ => ⟨HX6.out.next L7.out, HY6.out.next L7.out, cell_next (HQ6.out.trans (L7.out.mono HQ6.out.size)) HC0.out⟩) ?_
        clear hK K
        try simp only [Act.put, List.getElem_toArray, List.getElem_cons_succ, List.getElem_cons_zero, List.setIfInBounds_toArray, List.set_cons_zero, List.set_cons_succ]
        refine' wpAnyZ_step (i := 8) (o := _) rfl (by kernel_rfl) (fun K hK => ?_)
        go_simp
        refine hK _ _ (fun h => absurd rfl h) ?_
        clear hK K
        try simp only [Act.put, List.getElem_toArray, List.getElem_cons_succ, List.getElem_cons_zero, List.setIfInBounds_toArray, List.set_cons_zero, List.set_cons_succ]
        refine wpAnyZ_done (by kernel_rfl) ?_ _
        obtain ⟨VL, hVL⟩ : ∃ r, Hid (varsIn p f.nm = r) := ⟨_, Lib.hid rfl⟩
        rw [hVL.out] at hr7
        have hvl : VL.length ≤ 1000000 := by
          rw [← hVL.out]
          unfold varsIn
          rw [well_pc HMEM.out HWELL.out]
          have h1 := HLEN.out.1
          have h2 := HLEN.out.2 f HMEM.out
          simp only [ownNs, List.length_append, List.length_map]
          omega
        obtain ⟨va7, vc7, rfl⟩ := ownsForm hr7.1
        have HS7 := Lib.hid (hr7.strs (by omega))
        have HQ7 := Lib.hid (HQ6.out.trans (L7.out.mono HQ6.out.size))
        have HY7 := Lib.hid (HY6.out.next L7.out)
        have HV7 := Lib.hid (HV6.out.next hqs L7.out)
        have hqs7 : QB < w7.heap.size := Nat.lt_of_lt_of_le hqs L7.out.size
        have HX7 := Lib.hid (HX6.out.next L7.out)
        have HP7 := Lib.hid (PrC.mono (cw_next L7.out) HP6.out)
        have HB7 := Lib.hid (HB6.out.trans (L7.out.mono HB6.out.size))
        clear hS hq hr7 hvl
        go_wp2_with fail
        refine (in_any VL _ name _ HS7.out).mono ?_
        obtain ⟨O1, hO1⟩ : ∃ b, Hid ((at_ name VL).isSome = b) := ⟨_, Lib.hid rfl⟩
        rw [hO1.out]
        rintro e w' ⟨rfl, rfl⟩
        obtain ⟨K3, hK3⟩ : ∃ r, Hid (k % 3 = r) := ⟨_, Lib.hid rfl⟩
        have hk30 : 0 ≤ K3 := by rw [← hK3.out]; omega
        have hk33 : K3 < 3 := by rw [← hK3.out]; omega
        have HM3 := Lib.hid (fun w => mod_any k 3 K3 w HKI.out.1 HKI.out.2 (by omega) (by omega) hK3.out)
        go_upto_block 0 with (refine (HM3.out _).mono ?_; rintro e w' ⟨rfl, rfl⟩)
        have HIN : Hid (inB name (varsIn p f.nm) = O1) := Lib.hid (by rw [hVL.out]; exact hO1.out)
        go_cut [12] (fun v wx => v = .bool (oldP K3 f name p) ∧ TwiceAt (d + 1) QB w wx (newP K3 f m name p))
        case first =>
          have hq : Below w7.heap.size w7 w7.drew := (Below.refl _ _).drew
          have hGz := HGG.out
          have hz5 := HQ7.out.size
          have hlf := HLEN.out.2 f HMEM.out
          have hQ5 : QB ≤ w5.heap.size ∧ w5.heap.size ≤ QB := ⟨Nat.le_of_eq hQB.out.symm, Nat.le_of_eq hQB.out⟩
          by_cases hk0 : K3 = 0
          · have hk0' : (K3 == 0) = true := by simpa using hk0
            have HOLD : Hid (oldP K3 f name p = O1) := Lib.hid (by unfold oldP; rw [if_pos hk0]; exact HIN.out)
            have HNEW : Hid (newP K3 f m name p = addPc (moreV name f) m p) := Lib.hid (by unfold newP; rw [if_pos hk0])
            obtain ⟨i0, hi, hz0, hz1, hz2⟩ := info_parts infoStr
            clear hk0
            go_upto_region 19 with fail
            refine wp_region_z (fun w' => BoxAt w' QB [.slice gqa p.globals.length gqc, .slice (some ⟨G, 0, none⟩) p.procs.length pqc] ∧ w'.cell? ⟨G, m * 5 + 2, none⟩ = some (.slice va f.vars.length vc)) 14 (by kernel_rfl) ⟨HY7.out.next hq, cell_next (HQ7.out.trans (hq.mono HQ7.out.size)) HC2.out⟩ (fun hS => ?_)
            show wpAnyZ _ _ _ _ _ _ 15 #[false, false, false, false, false, false, false, false, false, false, false, false, false, false, false] _ _
            refine' wpAnyZ_take (i := 0) (oi := _) (v := _) rfl (by kernel_rfl) (by kernel_rfl) (by kernel_rfl) (by kernel_rfl) (fun _ _ _ h => h) (Or.inl ⟨by rfl, ?hya0⟩) hS ?resta0
            case hya0 => (intro w hSw; clear hSw; go_simp; (try with_reducible rfl))
            try simp only [Act.put, List.getElem_toArray, List.getElem_cons_succ, List.getElem_cons_zero, List.setIfInBounds_toArray, List.set_cons_zero, List.set_cons_succ]
            refine' wpAnyZ_take (i := 1) (oi := _) (v := _) rfl (by kernel_rfl) (by kernel_rfl) (by kernel_rfl) (by kernel_rfl) (fun _ _ _ h => h) (Or.inl ⟨by rfl, ?hya1⟩) hS ?resta1
            case hya1 => (intro w hSw; have c1 := hSw.1 1 _ rfl; clear hSw; go_simp; (try with_reducible rfl))
            try simp only [Act.put, List.getElem_toArray, List.getElem_cons_succ, List.getElem_cons_zero, List.setIfInBounds_toArray, List.set_cons_zero, List.set_cons_succ]
            refine' wpAnyZ_take (i := 2) (oi := _) (v := _) rfl (by kernel_rfl) (by kernel_rfl) (by kernel_rfl) (by kernel_rfl) (fun _ _ _ h => h) (Or.inl ⟨by rfl, ?hya2⟩) hS ?resta2
            case hya2 => (intro w hSw; clear hSw; go_simp; (try with_reducible rfl))
            try simp only [Act.put, List.getElem_toArray, List.getElem_cons_succ, List.getElem_cons_zero, List.setIfInBounds_toArray, List.set_cons_zero, List.set_cons_succ]
            refine' wpAnyZ_take (i := 3) (oi := _) (v := _) rfl (by kernel_rfl) (by kernel_rfl) (by kernel_rfl) (by kernel_rfl) (fun _ _ _ h => h) (Or.inl ⟨by rfl, ?hya3⟩) hS ?resta3
            case hya3 => (intro w hSw; clear hSw; go_simp; (try with_reducible rfl))
            try simp only [Act.put, List.getElem_toArray, List.getElem_cons_succ, List.getElem_cons_zero, List.setIfInBounds_toArray, List.set_cons_zero, List.set_cons_succ]
            refine' wpAnyZ_take (i := 4) (oi := _) (v := _) rfl (by kernel_rfl) (by kernel_rfl) (by kernel_rfl) (by kernel_rfl) (fun _ _ _ h => h) (Or.inl ⟨by rfl, ?hya4⟩) hS ?resta4
            case hya4 => (intro w hSw; have c1 := hSw.1 1 _ rfl; clear hSw; go_simp; (try with_reducible rfl))
            try simp only [Act.put, List.getElem_toArray, List.getElem_cons_succ, List.getElem_cons_zero, List.setIfInBounds_toArray, List.set_cons_zero, List.set_cons_succ]
            refine' wpAnyZ_take (i := 5) (oi := _) (v := _) rfl (by kernel_rfl) (by kernel_rfl) (by kernel_rfl) (by kernel_rfl) (fun _ _ _ h => h) (Or.inl ⟨by rfl, ?hya5⟩) hS ?resta5
            case hya5 => (intro w hSw; clear hSw; go_simp; (try with_reducible rfl))
            try simp only [Act.put, List.getElem_toArray, List.getElem_cons_succ, List.getElem_cons_zero, List.setIfInBounds_toArray, List.set_cons_zero, List.set_cons_succ]
            refine' wpAnyZ_take (i := 6) (oi := _) (v := _) rfl (by kernel_rfl) (by kernel_rfl) (by kernel_rfl) (by kernel_rfl) (fun _ _ _ h => h) (Or.inl ⟨by rfl, ?hya6⟩) hS ?resta6
            case hya6 => (intro w hSw; clear hSw; go_simp; (try with_reducible rfl))
            try simp only [Act.put, List.getElem_toArray, List.getElem_cons_succ, List.getElem_cons_zero, List.setIfInBounds_toArray, List.set_cons_zero, List.set_cons_succ]
            refine' wpAnyZ_take (i := 7) (oi := _) (v := _) rfl (by kernel_rfl) (by kernel_rfl) (by kernel_rfl) (by kernel_rfl) (fun _ _ _ h => h) (Or.inl ⟨by rfl, ?hya7⟩) hS ?resta7
            case hya7 => (intro w hSw; clear hSw; go_simp; (try with_reducible rfl))
            try simp only [Act.put, List.getElem_toArray, List.getElem_cons_succ, List.getElem_cons_zero, List.setIfInBounds_toArray, List.set_cons_zero, List.set_cons_succ]
            refine' wpAnyZ_take (i := 8) (oi := _) (v := _) rfl (by kernel_rfl) (by kernel_rfl) (by kernel_rfl) (by kernel_rfl) (fun _ _ _ h => h) (Or.inl ⟨by rfl, ?hya8⟩) hS ?resta8
            case hya8 => (intro w hSw; have c1 := hSw.2; clear hSw; go_simp; (try with_reducible rfl))
            try simp only [Act.put, List.getElem_toArray, List.getElem_cons_succ, List.getElem_cons_zero, List.setIfInBounds_toArray, List.set_cons_zero, List.set_cons_succ]
            refine' wpAnyZ_take (i := 9) (oi := _) (v := _) rfl (by kernel_rfl) (by kernel_rfl) (by kernel_rfl) (by kernel_rfl) (fun _ _ _ h => h) (Or.inl ⟨by rfl, ?hya9⟩) hS ?resta9
            case hya9 => (intro w hSw; clear hSw; go_simp; (try with_reducible rfl))
            try simp only [Act.put, List.getElem_toArray, List.getElem_cons_succ, List.getElem_cons_zero, List.setIfInBounds_toArray, List.set_cons_zero, List.set_cons_succ]
            have HBL := Lib.hid (below_then (boxed w7.drew (.cells #[.string name] 9)) hq)
            have HQL := Lib.hid (HQ7.out.trans (HBL.out.mono HQ7.out.size))
            have hsL : BoxAt (w7.drew.alloc (.cells #[.string name] 9)) QB [.slice gqa p.globals.length gqc, .slice (some ⟨G, 0, none⟩) p.procs.length pqc] ∧ (w7.drew.alloc (.cells #[.string name] 9)).cell? ⟨G, m * 5 + 2, none⟩ = some (.slice va f.vars.length vc) := ⟨HY7.out.next HBL.out, cell_next HQL.out HC2.out⟩
            have HSL := Lib.hid hsL
            have HOW := Lib.hid (HVAR.out.next HQL.out)
            have hszL := HQL.out.size
            have hbase : Lo m ≤ w5.heap.size := by have := HZ.out.lo m hm; have := HF.out.2.1; have := HF.out.2.2.1; have := HF.out.2.2.2.1; omega
            have hnews : ∀ ad, (some ⟨w7.drew.heap.size, 0, none⟩ : Option Addr) = some ad → ∀ j u, ([.string name] : List Value)[j]? = some u → (w7.drew.alloc (.cells #[.string name] 9)).cell? (ad.add j) = some u := fun ad had j u hu => by
              cases had
              rw [Addr.add_lit, Nat.zero_add]
              exact box_new w7.drew #[.string name] 9 j u hu
            clear hsL
            refine' wpAnyZ_step (i := 10) (o := _) rfl (by kernel_rfl) (fun K hK => ?_)
            go_simp
            refine hK _ _ (fun _ => HSL.out) ?_
            clear hK K
            try simp only [Act.put, List.getElem_toArray, List.getElem_cons_succ, List.getElem_cons_zero, List.setIfInBounds_toArray, List.set_cons_zero, List.set_cons_succ]
            refine' wpAnyZ_step (i := 11) (o := _) rfl (by kernel_rfl) (fun K hK => ?_)
            refine step_append_sl _ (by rfl) (.tmp 89) (.tmp 91) 22 (by rfl) (Lo m) 9 i0 (.string ⟨#[]⟩) 1 16 Try.underlying22 hi hz0 hz1 hz2 rfl (by decide) _ f.vars.length (f.vars.map Value.string) (by rfl) HOW.out.1 (some ⟨w7.drew.heap.size, 0, none⟩) 1 1 [.string name] (by rfl) (fun h => by cases h) rfl hnews (by simp [Value.oneCell']) (by unfold maxLen; omega) (by omega) (Nat.le_trans hbase hszL) ?_
            intro va8 vc8 w8 hown8 hg8 hat8
            have HPR := Lib.hid (put_vars (s := name) HACC.out HZ.out HGR.out HGL.out (G := G) rfl hm hmr HROW.out HF.out ⟨by have := HLEN.out.1; omega, fun x hx => by have := HLEN.out.2 x hx; omega⟩ ⟨by omega, by omega⟩ HQL.out hg8 hown8 hat8 HSN.out)
            have hXZ : ∀ g, (Value.slice va f.vars.length vc).ownBlock = some g → Lo m ≤ g ∧ g < w5.heap.size := fun g hg => by
              have h1 := HVAR.out.lt g hg
              have h2 := HF.out.2.1
              have h3 := HF.out.2.2.1
              exact ⟨by omega, h1.2⟩
            have hXW : ∀ g, (Value.slice va f.vars.length vc).ownBlock = some g → g < (W m).heap.size := fun g hg => (HF.out.2.2.2.2.1.lt g hg).2
            have hXG : (Value.slice va f.vars.length vc).ownBlock ≠ some G := fun e => by have h1 := hXZ G e; have h2 := HZ.out.out m hm G rfl; have h3 := hXW G e; omega
            have hXQ : (Value.slice va f.vars.length vc).ownBlock ≠ some QB := fun e => by have h1 := hXZ QB e; omega
            have HY8 := Lib.hid (box_grown HSL.out.1 hg8 hXQ)
            have HC8 := Lib.hid (grow_g HQL.out hg8 hXG HC2.out)
            have HWLO := Lib.hid (Nat.le_trans HWB.out (HZ.out.lo m hm).1)
            have HB8 := Lib.hid ((HB7.out.trans (HBL.out.mono HB7.out.size)).grown hg8 (Nat.le_trans HB7.out.size HBL.out.size) (fun x hx => Nat.le_trans HWLO.out (hXZ x hx).1))
            have hK8 : BoxAt w8 QB [.slice gqa p.globals.length gqc, .slice (some ⟨G, 0, none⟩) p.procs.length pqc] ∧ w8.cell? ⟨G, m * 5 + 2, none⟩ = some (.slice va f.vars.length vc) := ⟨HY8.out, HC8.out⟩
            have hG8 : w8.frozen? ⟨G, m * 5 + 2, none⟩ = false := free_row (HGF.out.next HGG.out.2 HQL.out) (by omega) hg8 hXG _
            have HN8 := Lib.hid (grow_g HQL.out hg8 hXG HC0.out)
            refine hK _ _ (fun _ => hK8) ?_
            clear hK K hown8 hg8 hat8
            try simp only [Act.put, List.getElem_toArray, List.getElem_cons_succ, List.getElem_cons_zero, List.setIfInBounds_toArray, List.set_cons_zero, List.set_cons_succ]
            refine' wpAnyZ_step (i := 12) (o := _) rfl (by kernel_rfl) (fun K hK => ?_)
            go_simp
            refine hK _ _ (fun _ => hK8) ?_
            clear hK K
            try simp only [Act.put, List.getElem_toArray, List.getElem_cons_succ, List.getElem_cons_zero, List.setIfInBounds_toArray, List.set_cons_zero, List.set_cons_succ]
            refine' wpAnyZ_step (i := 13) (o := _) rfl (by kernel_rfl) (fun K hK => ?_)
            go_simp
            refine hK _ _ (fun _ => hK8) ?_
            clear hK K
            try simp only [Act.put, List.getElem_toArray, List.getElem_cons_succ, List.getElem_cons_zero, List.setIfInBounds_toArray, List.set_cons_zero, List.set_cons_succ]
            have c8 := HC8.out
            refine' wpAnyZ_step (i := 14) (o := _) rfl (by kernel_rfl) (fun K hK => ?_)
            go_simp
            refine hK _ _ (fun h => absurd rfl h) ?_
            clear hK K
            try simp only [Act.put, List.getElem_toArray, List.getElem_cons_succ, List.getElem_cons_zero, List.setIfInBounds_toArray, List.set_cons_zero, List.set_cons_succ]
            refine wpAnyZ_done (by kernel_rfl) ?_ _
            clear hS hK8 hG8 c8 hnews
            have hGQ : G ≠ QB := by omega
            have HYE : Hid (BoxAt (w8.setCell ⟨G, m * 5 + 2, none⟩ (.slice va8 (f.vars.length + 1) vc8)) QB [.slice gqa p.globals.length gqc, .slice (some ⟨G, 0, none⟩) p.procs.length pqc]) := Lib.hid (HY8.out.set hGQ)
            have HBE : Hid (Below w.heap.size w (w8.setCell ⟨G, m * 5 + 2, none⟩ (.slice va8 (f.vars.length + 1) vc8))) := Lib.hid (HB8.out.setCell (p := ⟨G, m * 5 + 2, none⟩) (by show w.heap.size ≤ G; have := HWB.out; have := HGG.out.1; omega) _)
            go_wp2_with fail
            go_meet
            rw [HNEW.out, HOLD.out]
            refine ⟨rfl, gqa, some ⟨G, 0, none⟩, gqc, pqc, ?_, ?_, HBE.out⟩
            · show BoxAt _ QB [.slice gqa p.globals.length gqc, .slice (some ⟨G, 0, none⟩) (p.procs.set m (moreV name f)).length pqc]
              rw [List.length_set]
              exact HYE.out
            · show PrC _ _ (.slice gqa p.globals.length gqc) (.slice (some ⟨G, 0, none⟩) (p.procs.set m (moreV name f)).length pqc) _
              rw [List.length_set]
              exact HPR.out
          · have hk0' : (K3 == 0) = false := by simpa using hk0
            by_cases hk1 : K3 = 1
            · have hk1' : (K3 == 1) = true := by simpa using hk1
              have HOLD : Hid (oldP K3 f name p = (O1 || (f.nm.toList == sMain.toList))) := Lib.hid (by unfold oldP; rw [if_neg hk0, if_pos hk1, HIN.out])
              have HNEW : Hid (newP K3 f m name p = addPc (moreQ name f) m p) := Lib.hid (by unfold newP; rw [if_neg hk0, if_pos hk1])
              obtain ⟨i0, hi, hz0, hz1, hz2⟩ := info_parts infoPa
              clear hk0
              clear hk1
              go_upto_region 21 with fail
              refine wp_region_z (fun w' => BoxAt w' QB [.slice gqa p.globals.length gqc, .slice (some ⟨G, 0, none⟩) p.procs.length pqc] ∧ w'.cell? ⟨G, m * 5 + 1, none⟩ = some (.slice qa f.params.length qc)) 15 (by kernel_rfl) ⟨HY7.out.next hq, cell_next (HQ7.out.trans (hq.mono HQ7.out.size)) HC1.out⟩ (fun hS => ?_)
              show wpAnyZ _ _ _ _ _ _ 16 #[false, false, false, false, false, false, false, false, false, false, false, false, false, false, false, false] _ _
              refine' wpAnyZ_take (i := 0) (oi := _) (v := _) rfl (by kernel_rfl) (by kernel_rfl) (by kernel_rfl) (by kernel_rfl) (fun _ _ _ h => h) (Or.inl ⟨by rfl, ?hyb0⟩) hS ?restb0
              case hyb0 => (intro w hSw; clear hSw; go_simp; (try with_reducible rfl))
              try simp only [Act.put, List.getElem_toArray, List.getElem_cons_succ, List.getElem_cons_zero, List.setIfInBounds_toArray, List.set_cons_zero, List.set_cons_succ]
              refine' wpAnyZ_take (i := 1) (oi := _) (v := _) rfl (by kernel_rfl) (by kernel_rfl) (by kernel_rfl) (by kernel_rfl) (fun _ _ _ h => h) (Or.inl ⟨by rfl, ?hyb1⟩) hS ?restb1
              case hyb1 => (intro w hSw; have c1 := hSw.1 1 _ rfl; clear hSw; go_simp; (try with_reducible rfl))
              try simp only [Act.put, List.getElem_toArray, List.getElem_cons_succ, List.getElem_cons_zero, List.setIfInBounds_toArray, List.set_cons_zero, List.set_cons_succ]
              refine' wpAnyZ_take (i := 2) (oi := _) (v := _) rfl (by kernel_rfl) (by kernel_rfl) (by kernel_rfl) (by kernel_rfl) (fun _ _ _ h => h) (Or.inl ⟨by rfl, ?hyb2⟩) hS ?restb2
              case hyb2 => (intro w hSw; clear hSw; go_simp; (try with_reducible rfl))
              try simp only [Act.put, List.getElem_toArray, List.getElem_cons_succ, List.getElem_cons_zero, List.setIfInBounds_toArray, List.set_cons_zero, List.set_cons_succ]
              refine' wpAnyZ_take (i := 3) (oi := _) (v := _) rfl (by kernel_rfl) (by kernel_rfl) (by kernel_rfl) (by kernel_rfl) (fun _ _ _ h => h) (Or.inl ⟨by rfl, ?hyb3⟩) hS ?restb3
              case hyb3 => (intro w hSw; clear hSw; go_simp; (try with_reducible rfl))
              try simp only [Act.put, List.getElem_toArray, List.getElem_cons_succ, List.getElem_cons_zero, List.setIfInBounds_toArray, List.set_cons_zero, List.set_cons_succ]
              refine' wpAnyZ_take (i := 4) (oi := _) (v := _) rfl (by kernel_rfl) (by kernel_rfl) (by kernel_rfl) (by kernel_rfl) (fun _ _ _ h => h) (Or.inl ⟨by rfl, ?hyb4⟩) hS ?restb4
              case hyb4 => (intro w hSw; have c1 := hSw.1 1 _ rfl; clear hSw; go_simp; (try with_reducible rfl))
              try simp only [Act.put, List.getElem_toArray, List.getElem_cons_succ, List.getElem_cons_zero, List.setIfInBounds_toArray, List.set_cons_zero, List.set_cons_succ]
              refine' wpAnyZ_take (i := 5) (oi := _) (v := _) rfl (by kernel_rfl) (by kernel_rfl) (by kernel_rfl) (by kernel_rfl) (fun _ _ _ h => h) (Or.inl ⟨by rfl, ?hyb5⟩) hS ?restb5
              case hyb5 => (intro w hSw; clear hSw; go_simp; (try with_reducible rfl))
              try simp only [Act.put, List.getElem_toArray, List.getElem_cons_succ, List.getElem_cons_zero, List.setIfInBounds_toArray, List.set_cons_zero, List.set_cons_succ]
              refine' wpAnyZ_take (i := 6) (oi := _) (v := _) rfl (by kernel_rfl) (by kernel_rfl) (by kernel_rfl) (by kernel_rfl) (fun _ _ _ h => h) (Or.inl ⟨by rfl, ?hyb6⟩) hS ?restb6
              case hyb6 => (intro w hSw; clear hSw; go_simp; (try with_reducible rfl))
              try simp only [Act.put, List.getElem_toArray, List.getElem_cons_succ, List.getElem_cons_zero, List.setIfInBounds_toArray, List.set_cons_zero, List.set_cons_succ]
              refine' wpAnyZ_take (i := 7) (oi := _) (v := _) rfl (by kernel_rfl) (by kernel_rfl) (by kernel_rfl) (by kernel_rfl) (fun _ _ _ h => h) (Or.inl ⟨by rfl, ?hyb7⟩) hS ?restb7
              case hyb7 => (intro w hSw; clear hSw; go_simp; (try with_reducible rfl))
              try simp only [Act.put, List.getElem_toArray, List.getElem_cons_succ, List.getElem_cons_zero, List.setIfInBounds_toArray, List.set_cons_zero, List.set_cons_succ]
              refine' wpAnyZ_take (i := 8) (oi := _) (v := _) rfl (by kernel_rfl) (by kernel_rfl) (by kernel_rfl) (by kernel_rfl) (fun _ _ _ h => h) (Or.inl ⟨by rfl, ?hyb8⟩) hS ?restb8
              case hyb8 => (intro w hSw; have c1 := hSw.2; clear hSw; go_simp; (try with_reducible rfl))
              try simp only [Act.put, List.getElem_toArray, List.getElem_cons_succ, List.getElem_cons_zero, List.setIfInBounds_toArray, List.set_cons_zero, List.set_cons_succ]
              refine' wpAnyZ_take (i := 9) (oi := _) (v := _) rfl (by kernel_rfl) (by kernel_rfl) (by kernel_rfl) (by kernel_rfl) (fun _ _ _ h => h) (Or.inl ⟨by rfl, ?hyb9⟩) hS ?restb9
              case hyb9 => (intro w hSw; clear hSw; go_simp; (try with_reducible rfl))
              try simp only [Act.put, List.getElem_toArray, List.getElem_cons_succ, List.getElem_cons_zero, List.setIfInBounds_toArray, List.set_cons_zero, List.set_cons_succ]
              refine' wpAnyZ_take (i := 10) (oi := _) (v := _) rfl (by kernel_rfl) (by kernel_rfl) (by kernel_rfl) (by kernel_rfl) (fun _ _ _ h => h) (Or.inl ⟨by rfl, ?hyb10⟩) hS ?restb10
              case hyb10 => (intro w hSw; clear hSw; go_simp; (try with_reducible rfl))
              try simp only [Act.put, List.getElem_toArray, List.getElem_cons_succ, List.getElem_cons_zero, List.setIfInBounds_toArray, List.set_cons_zero, List.set_cons_succ]
              have HBL := Lib.hid (below_then (boxed w7.drew (.cells #[.string name, .bool false] 62)) hq)
              have HQL := Lib.hid (HQ7.out.trans (HBL.out.mono HQ7.out.size))
              have hsL : BoxAt (w7.drew.alloc (.cells #[.string name, .bool false] 62)) QB [.slice gqa p.globals.length gqc, .slice (some ⟨G, 0, none⟩) p.procs.length pqc] ∧ (w7.drew.alloc (.cells #[.string name, .bool false] 62)).cell? ⟨G, m * 5 + 1, none⟩ = some (.slice qa f.params.length qc) := ⟨HY7.out.next HBL.out, cell_next HQL.out HC1.out⟩
              have HSL := Lib.hid hsL
              have HOW := Lib.hid (ownsBelow HPAR.out HQL.out)
              have hszL := HQL.out.size
              have hbase : N ≤ w5.heap.size := by have := HZ.out.lo m hm; have := HF.out.2.1; have := HF.out.2.2.1; have := HF.out.2.2.2.1; omega
              have hnews : ∀ ad, (some ⟨w7.drew.heap.size, 0, none⟩ : Option Addr) = some ad → ∀ j u, ([.string name, .bool false] : List Value)[j]? = some u → (w7.drew.alloc (.cells #[.string name, .bool false] 62)).cell? (ad.add j) = some u := fun ad had j u hu => by
                cases had
                rw [Addr.add_lit, Nat.zero_add]
                exact box_new w7.drew #[.string name, .bool false] 62 j u hu
              clear hsL
              refine' wpAnyZ_step (i := 11) (o := _) rfl (by kernel_rfl) (fun K hK => ?_)
              go_simp
              refine hK _ _ (fun _ => HSL.out) ?_
              clear hK K
              try simp only [Act.put, List.getElem_toArray, List.getElem_cons_succ, List.getElem_cons_zero, List.setIfInBounds_toArray, List.set_cons_zero, List.set_cons_succ]
              refine' wpAnyZ_step (i := 12) (o := _) rfl (by kernel_rfl) (fun K hK => ?_)
              refine step_append_sl _ (by rfl) (.tmp 105) (.tmp 108) 53 (by rfl) (N) 62 i0 (.agg #[.string ⟨#[]⟩, .bool false]) 2 24 Try.underlying53 hi hz0 hz1 hz2 rfl (by decide) _ f.params.length (paRows f.params) (by rfl) HOW.out (some ⟨w7.drew.heap.size, 0, none⟩) 1 1 [.string name, .bool false] (by rfl) (fun h => by cases h) rfl hnews (by simp [Value.oneCell']) (by unfold maxLen; omega) (by omega) (Nat.le_trans hbase hszL) ?_
              intro va8 vc8 w8 hown8 hg8 hat8
              have HPR := Lib.hid (put_pars (s := name) HACC.out HZ.out HGR.out HGL.out (G := G) rfl hm hmr HROW.out HF.out ⟨by have := HLEN.out.1; omega, fun x hx => by have := HLEN.out.2 x hx; omega⟩ ⟨by omega, by omega⟩ HQL.out hg8 hown8 hat8 HSN.out)
              have hXZ : ∀ g, (Value.slice qa f.params.length qc).ownBlock = some g → Lo m ≤ g ∧ g < w5.heap.size := fun g hg => by
                have h1 := (fun g hg => HPAR.out.lt g hg) g hg
                have h2 := HF.out.2.1
                have h3 := HF.out.2.2.1
                exact ⟨by omega, h1.2⟩
              have hXW : ∀ g, (Value.slice qa f.params.length qc).ownBlock = some g → g < (W m).heap.size := fun g hg => (HF.out.2.2.2.2.2.2.2.2.1.lt g hg).2
              have hXG : (Value.slice qa f.params.length qc).ownBlock ≠ some G := fun e => by have h1 := hXZ G e; have h2 := HZ.out.out m hm G rfl; have h3 := hXW G e; omega
              have hXQ : (Value.slice qa f.params.length qc).ownBlock ≠ some QB := fun e => by have h1 := hXZ QB e; omega
              have HY8 := Lib.hid (box_grown HSL.out.1 hg8 hXQ)
              have HC8 := Lib.hid (grow_g HQL.out hg8 hXG HC1.out)
              have HWLO := Lib.hid (Nat.le_trans HWB.out (HZ.out.lo m hm).1)
              have HB8 := Lib.hid ((HB7.out.trans (HBL.out.mono HB7.out.size)).grown hg8 (Nat.le_trans HB7.out.size HBL.out.size) (fun x hx => Nat.le_trans HWLO.out (hXZ x hx).1))
              have hK8 : BoxAt w8 QB [.slice gqa p.globals.length gqc, .slice (some ⟨G, 0, none⟩) p.procs.length pqc] ∧ w8.cell? ⟨G, m * 5 + 1, none⟩ = some (.slice qa f.params.length qc) := ⟨HY8.out, HC8.out⟩
              have hG8 : w8.frozen? ⟨G, m * 5 + 1, none⟩ = false := free_row (HGF.out.next HGG.out.2 HQL.out) (by omega) hg8 hXG _
              have HN8 := Lib.hid (grow_g HQL.out hg8 hXG HC0.out)
              refine hK _ _ (fun _ => hK8) ?_
              clear hK K hown8 hg8 hat8
              try simp only [Act.put, List.getElem_toArray, List.getElem_cons_succ, List.getElem_cons_zero, List.setIfInBounds_toArray, List.set_cons_zero, List.set_cons_succ]
              refine' wpAnyZ_step (i := 13) (o := _) rfl (by kernel_rfl) (fun K hK => ?_)
              go_simp
              refine hK _ _ (fun _ => hK8) ?_
              clear hK K
              try simp only [Act.put, List.getElem_toArray, List.getElem_cons_succ, List.getElem_cons_zero, List.setIfInBounds_toArray, List.set_cons_zero, List.set_cons_succ]
              refine' wpAnyZ_step (i := 14) (o := _) rfl (by kernel_rfl) (fun K hK => ?_)
              go_simp
              refine hK _ _ (fun _ => hK8) ?_
              clear hK K
              try simp only [Act.put, List.getElem_toArray, List.getElem_cons_succ, List.getElem_cons_zero, List.setIfInBounds_toArray, List.set_cons_zero, List.set_cons_succ]
              have c8 := HC8.out
              refine' wpAnyZ_step (i := 15) (o := _) rfl (by kernel_rfl) (fun K hK => ?_)
              go_simp
              refine hK _ _ (fun h => absurd rfl h) ?_
              clear hK K
              try simp only [Act.put, List.getElem_toArray, List.getElem_cons_succ, List.getElem_cons_zero, List.setIfInBounds_toArray, List.set_cons_zero, List.set_cons_succ]
              refine wpAnyZ_done (by kernel_rfl) ?_ _
              clear hS hK8 hG8 c8 hnews
              have hGQ : G ≠ QB := by omega
              have HYE : Hid (BoxAt (w8.setCell ⟨G, m * 5 + 1, none⟩ (.slice va8 (f.params.length + 1) vc8)) QB [.slice gqa p.globals.length gqc, .slice (some ⟨G, 0, none⟩) p.procs.length pqc]) := Lib.hid (HY8.out.set hGQ)
              have HBE : Hid (Below w.heap.size w (w8.setCell ⟨G, m * 5 + 1, none⟩ (.slice va8 (f.params.length + 1) vc8))) := Lib.hid (HB8.out.setCell (p := ⟨G, m * 5 + 1, none⟩) (by show w.heap.size ≤ G; have := HWB.out; have := HGG.out.1; omega) _)
              have hne0 : (⟨G, m * 5 + 1, none⟩ : Addr) ≠ ⟨G, m * 5, none⟩ := fun e => by have := congrArg Addr.off e; simp at this
              have HN9 : Hid ((w8.setCell ⟨G, m * 5 + 1, none⟩ (.slice va8 (f.params.length + 1) vc8)).cell? ⟨G, m * 5, none⟩ = some (.string f.nm)) := Lib.hid (by rw [World.cell?_setCell_other _ _ _ _ hne0]; exact HN8.out)
              obtain ⟨BM, hBM⟩ : ∃ c, Hid ((f.nm.toList == sMain.toList) = c) := ⟨_, Lib.hid rfl⟩
              rw [hBM.out] at HOLD
              have hbm : (f.nm.toList == [109, 97, 105, 110]) = BM := by rw [← main_list]; exact hBM.out
              generalize hw9 : w8.setCell ⟨G, m * 5 + 1, none⟩ (.slice va8 (f.params.length + 1) vc8) = w9 at HYE HBE HN9 HPR ⊢
              clear hw9 hne0
              have n9 := HN9.out
              have y1 := HYE.out 1 _ rfl
              cases O1 with
              | true =>
                go_wp2_with fail
                go_meet
                rw [HNEW.out, HOLD.out]
                refine ⟨rfl, gqa, some ⟨G, 0, none⟩, gqc, pqc, ?_, ?_, HBE.out⟩
                · show BoxAt _ QB [.slice gqa p.globals.length gqc, .slice (some ⟨G, 0, none⟩) (p.procs.set m (moreQ name f)).length pqc]
                  rw [List.length_set]
                  exact HYE.out
                · show PrC _ _ (.slice gqa p.globals.length gqc) (.slice (some ⟨G, 0, none⟩) (p.procs.set m (moreQ name f)).length pqc) _
                  rw [List.length_set]
                  exact HPR.out
              | false =>
                go_wp2_with fail
                go_meet
                rw [HNEW.out, HOLD.out]
                refine ⟨by simp, gqa, some ⟨G, 0, none⟩, gqc, pqc, ?_, ?_, HBE.out⟩
                · show BoxAt _ QB [.slice gqa p.globals.length gqc, .slice (some ⟨G, 0, none⟩) (p.procs.set m (moreQ name f)).length pqc]
                  rw [List.length_set]
                  exact HYE.out
                · show PrC _ _ (.slice gqa p.globals.length gqc) (.slice (some ⟨G, 0, none⟩) (p.procs.set m (moreQ name f)).length pqc) _
                  rw [List.length_set]
                  exact HPR.out
            · have hk1' : (K3 == 1) = false := by simpa using hk1
              have HOLD : Hid (oldP K3 f name p = (O1 || p.procs.any fun x => inB name (varsIn p x.nm))) := Lib.hid (by unfold oldP; rw [if_neg hk0, if_neg hk1, HIN.out])
              have HNEW : Hid (newP K3 f m name p = addG name p) := Lib.hid (by unfold newP; rw [if_neg hk0, if_neg hk1])
              obtain ⟨i0, hi, hz0, hz1, hz2⟩ := info_parts infoStr
              clear hk0 hk1 hq
              have y0 := HY7.out 0 _ rfl
              have HBL := Lib.hid (boxed w7 (.cells #[.string name] 9))
              have HQL := Lib.hid (HQ7.out.trans (HBL.out.mono HQ7.out.size))
              have HOW := Lib.hid (HGR.out.next HQL.out)
              have hszL := HQL.out.size
              have hgl2 := HLEN.out.1
              have hb45 := HB5.out.size
              have hnews : ∀ ad, (some ⟨w7.heap.size, 0, none⟩ : Option Addr) = some ad → ∀ j u, ([.string name] : List Value)[j]? = some u → (w7.alloc (.cells #[.string name] 9)).cell? (ad.add j) = some u := fun ad had j u hu => by
                cases had
                rw [Addr.add_lit, Nat.zero_add]
                exact box_new w7 #[.string name] 9 j u hu
              go_wp2_with (at_builtin; refine wpList_append_sl _ rfl (.tmp 57) (.tmp 59) 22 rfl w4.heap.size 9 i0 (.string ⟨#[]⟩) 1 16 Try.underlying22 hi hz0 hz1 hz2 rfl (by decide) _ p.globals.length (p.globals.map Value.string) rfl HOW.out.1 (some ⟨w7.heap.size, 0, none⟩) 1 1 [.string name] rfl (fun h => by cases h) rfl hnews (by simp [Value.oneCell']) (by unfold maxLen; omega) (by omega) (by have := HB45.out; omega) ?_)
              intro v8 w8 hown8 hg8 hat8
              obtain ⟨ga8, gc8, rfl⟩ := ownsForm hown8
              have hXL : ∀ g, (Value.slice gqa p.globals.length gqc).ownBlock = some g → g < w5.heap.size ∧ w.heap.size < g := fun g hg => ⟨(HGR.out.lt g hg).2, HGW.out g hg⟩
              have hXQ : (Value.slice gqa p.globals.length gqc).ownBlock ≠ some QB := fun e => by have := hXL QB e; omega
              have hXP : (Value.slice gqa p.globals.length gqc).ownBlock ≠ some w.heap.size := fun e => by have := hXL _ e; omega
              have hXG : (Value.slice gqa p.globals.length gqc).ownBlock ≠ some G := fun e => by have h1 := HGL.out G e; have h2 := HGG.out.1; omega
              have hnQ : (Value.slice ga8 (p.globals.length + 1) gc8).ownBlock ≠ some QB := fun e => by
                rcases hat8 QB e with h | h
                · exact hXQ h
                · have := World.size_alloc w7 (.cells #[.string name] 9); omega
              have HPR := Lib.hid (put_glob (s := name) (G := QB) (o := 0) HACC.out HZ.out HGR.out HGL.out (by omega) ⟨by have := HLEN.out.1; omega, fun x hx => by have := HLEN.out.2 x hx; omega⟩ HQL.out hg8 hown8 hnQ HSN.out)
              have HY8 := Lib.hid (box_grown (HY7.out.next HBL.out) hg8 hXQ)
              have HV8 := Lib.hid (free_row (HV7.out.next hqs7 HBL.out) (by have := HBL.out.size; omega) hg8 hXQ)
              have HX8 := Lib.hid (box_grown (HX7.out.next HBL.out) hg8 hXP)
              have HB8 := Lib.hid ((HB7.out.trans (HBL.out.mono HB7.out.size)).grown hg8 (Nat.le_trans HB7.out.size HBL.out.size) (fun x hx => Nat.le_of_lt (hXL x hx).2))
              have HR8 : Hid (∀ i (hi : i < rows.length) j u, rows[i][j]? = some u → w8.cell? ⟨G, i * 5 + j, none⟩ = some u) := Lib.hid (fun i hi j u hu => grow_g HQL.out hg8 hXG (acc_cell HACC.out rfl hi hu))
              have hy0 := HY8.out 0 _ rfl
              have hv0 := HV8.out 0
              clear hown8 hg8 hat8 hnews y0
              go_upto_region 13 with fail
              have hwQ : w.heap.size < QB := by have := cell_lt (HX5.out 0 _ rfl); omega
              have HYE : Hid (BoxAt (w8.setCell ⟨QB, 0, none⟩ (.slice ga8 (p.globals.length + 1) gc8)) QB [.slice ga8 (p.globals.length + 1) gc8, .slice (some ⟨G, 0, none⟩) p.procs.length pqc]) := Lib.hid (HY8.out.put (j := 0) (by simp))
              have HXE : Hid (BoxAt (w8.setCell ⟨QB, 0, none⟩ (.slice ga8 (p.globals.length + 1) gc8)) w.heap.size [.slice ga p.globals.length gc, .slice pa p.procs.length pc]) := Lib.hid (HX8.out.set (by omega))
              have HBE : Hid (Below w.heap.size w (w8.setCell ⟨QB, 0, none⟩ (.slice ga8 (p.globals.length + 1) gc8))) := Lib.hid (HB8.out.setCell (p := ⟨QB, 0, none⟩) (Nat.le_of_lt hwQ) _)
              have HRE : Hid (∀ i (hi : i < rows.length) j u, rows[i][j]? = some u → (w8.setCell ⟨QB, 0, none⟩ (.slice ga8 (p.globals.length + 1) gc8)).cell? ⟨G, i * 5 + j, none⟩ = some u) := Lib.hid (fun i hi j u hu => by
                rw [World.cell?_setCell_other _ _ _ _ (fun e => by have := congrArg Addr.block e; simp only at this; omega)]
                exact HR8.out i hi j u hu)
              generalize hw9 : w8.setCell ⟨QB, 0, none⟩ (.slice ga8 (p.globals.length + 1) gc8) = w9 at HYE HBE HXE HRE HPR ⊢
              clear hw9 hy0 hv0
              have y1 := HYE.out 1 _ rfl
              go_wp2_with fail
              go_loopw [65, 12] (fun i o wr => ∃ q : Nat, q ≤ p.procs.length ∧ i = .int .i64 q ∧ o = .bool (O1 || (p.procs.take q).any fun x => inB name (varsIn p x.nm)) ∧ Below w9.heap.size w9 wr) (fun i _ _ => (p.procs.length - intOf i).toNat)
              case atStart => exact ⟨0, by omega, rfl, by simp, Below.refl _ _⟩
              case round =>
                obtain ⟨q, hq, rfl, rfl, hbq⟩ := hrel
                obtain ⟨wa, hwa⟩ : ∃ x : World, x = wr := ⟨_, rfl⟩
                subst hwa
                have HBA := Lib.hid hbq
                obtain ⟨OQ, hOQ⟩ : ∃ c, Hid ((O1 || (p.procs.take q).any fun x => inB name (varsIn p x.nm)) = c) := ⟨_, Lib.hid rfl⟩
                rw [hOQ.out]
                by_cases hlt : q < p.procs.length
                · have hlt' : (q : Int) < (p.procs.length : Int) := by omega
                  have h0q : (0 : Int) ≤ (q : Int) := by omega
                  have hqr : q < rows.length := by rw [HACC.out.len]; exact hlt
                  obtain ⟨x, hx⟩ : ∃ x, Hid (p.procs[q] = x) := ⟨_, Lib.hid rfl⟩
                  obtain ⟨Mx, Nx, pvx, vvx, bvx, fvx, hrowx, hFx⟩ := HZ.out.pc q hlt hqr
                  rw [hx.out] at hrowx hFx
                  obtain ⟨xa, xc, rfl⟩ := ownsForm hFx.2.2.2.2.1.1
                  obtain ⟨ya, yc, rfl⟩ := ownsForm hFx.2.2.2.2.2.2.2.2.1
                  obtain ⟨za, zc, rfl, -, -⟩ := hFx.2.2.2.2.2.2.1.form
                  obtain ⟨ba, bc, rfl, -, -⟩ := hFx.2.2.2.2.2.2.2.1.form
                  have c0 : wa.cell? ⟨G, q * 5, none⟩ = _ := cell_next hbq (HRE.out q hqr 0 _ (by rw [hrowx]; rfl))
                  have c1 := cell_next hbq (HRE.out q hqr 1 _ (by rw [hrowx]; rfl))
                  have c2 := cell_next hbq (HRE.out q hqr 2 _ (by rw [hrowx]; rfl))
                  have c3 := cell_next hbq (HRE.out q hqr 3 _ (by rw [hrowx]; rfl))
                  have c4 := cell_next hbq (HRE.out q hqr 4 _ (by rw [hrowx]; rfl))
                  have hmx : x ∈ p.procs := by rw [← hx.out]; exact List.getElem_mem hlt
                  have HMX := Lib.hid hmx
                  clear hrowx hFx hbq hmx
                  go_upto_region 16 with fail
                  refine cut_world (fun wx => Below wa.heap.size wa wx ∧ BoxAt wx wa.heap.size [.string x.nm, .slice ya x.params.length yc, .slice xa x.vars.length xc, .slice ba x.body.length bc, .slice za x.fin.length zc]) ⟨boxed wa _, box_new wa #[.string x.nm, .slice ya x.params.length yc, .slice xa x.vars.length xc, .slice ba x.body.length bc, .slice za x.fin.length zc] 55⟩ ?_
                  rintro wb ⟨hbb, hxb⟩
                  have HBB := Lib.hid (HBA.out.trans (hbb.mono HBA.out.size))
                  have x0 := hxb 0 _ rfl
                  have hnx : ((O1 || (p.procs.take (q + 1)).any fun x => inB name (varsIn p x.nm))) = (OQ || inB name (varsIn p x.nm)) := by
                    rw [List.take_succ_eq_append_getElem hlt, List.any_append, hx.out, ← hOQ.out]
                    simp [Bool.or_assoc]
                  have HNX := Lib.hid hnx
                  clear c0 c1 c2 c3 c4 hbb hxb hnx
                  cases OQ with
                  | true =>
                    go_wp2_with fail
                    go_roundw
                    case rel => exact ⟨q + 1, by omega, by go_num, by rw [HNX.out]; rfl, HBB.out⟩
                    case measure => simp [intOf]; omega
                  | false =>
                    have p0 := HXE.out.next HBB.out 0 _ rfl
                    have p1 := HXE.out.next HBB.out 1 _ rfl
                    go_wp2_with fail
                    refine (svars_any d p _ _ x.nm _ (PrC.mono (cw_next (HBE.out.trans (HBB.out.mono HBE.out.size))) HP.out) HROOM.out).mono ?_
                    rintro e wd ⟨vd, rfl, hrd, hbd⟩
                    obtain ⟨VX, hVX⟩ : ∃ r, Hid (varsIn p x.nm = r) := ⟨_, Lib.hid rfl⟩
                    rw [hVX.out] at hrd HNX
                    have hvx : VX.length ≤ 1000000 := by
                      rw [← hVX.out]
                      unfold varsIn
                      rw [well_pc HMX.out HWELL.out]
                      have h1 := HLEN.out.1
                      have h2 := HLEN.out.2 x HMX.out
                      simp only [ownNs, List.length_append, List.length_map]
                      omega
                    obtain ⟨vda, vdc, rfl⟩ := ownsForm hrd.1
                    have HSD := Lib.hid (hrd.strs (by omega))
                    have HBD := Lib.hid (HBB.out.trans (hbd.mono HBB.out.size))
                    clear hrd hbd hvx p0 p1 x0
                    go_wp2_with fail
                    refine (in_any VX _ name _ HSD.out).mono ?_
                    obtain ⟨O2, hO2⟩ : ∃ b, Hid ((at_ name VX).isSome = b) := ⟨_, Lib.hid rfl⟩
                    rw [hO2.out]
                    rintro e w' ⟨rfl, rfl⟩
                    have HO2 : Hid (inB name VX = O2) := Lib.hid hO2.out
                    go_wp2_with fail
                    go_roundw
                    case rel => exact ⟨q + 1, by omega, by go_num, by rw [HNX.out, HO2.out]; rfl, HBD.out⟩
                    case measure => simp [intOf]; omega
                · have hlt' : ¬ (q : Int) < (p.procs.length : Int) := by omega
                  have hqe : q = p.procs.length := by omega
                  have hOL : oldP K3 f name p = OQ := by rw [HOLD.out, ← hOQ.out, hqe, List.take_length]
                  have HOL := Lib.hid hOL
                  clear hOL
                  go_wp2_with fail
                  go_meet
                  rw [HNEW.out, HOL.out]
                  refine ⟨rfl, ga8, some ⟨G, 0, none⟩, gc8, pqc, ?_, ?_, HBE.out.trans (HBA.out.mono HBE.out.size)⟩
                  · show BoxAt _ QB [.slice ga8 (p.globals ++ [name]).length gc8, .slice (some ⟨G, 0, none⟩) p.procs.length pqc]
                    rw [List.length_append]
                    exact HYE.out.next HBA.out
                  · show PrC _ _ (.slice ga8 (p.globals ++ [name]).length gc8) (.slice (some ⟨G, 0, none⟩) p.procs.length pqc) _
                    rw [List.length_append]
                    exact PrC.mono (cw_next HBA.out) HPR.out
        case rest =>
          obtain ⟨hv12, ga, pa2, gc, pc2, hbx, hpr, hbw⟩ := hcut
          subst hv12
          have hsc := fun hmay => old_new (k := K3) (s := name) HWELL.out hm hf.out hmay
          have hrm := new_room (k := K3) (s := name) HWP.out hm hf.out
          obtain ⟨OL, hOL⟩ : ∃ c, Hid (oldP K3 f name p = c) := ⟨_, Lib.hid rfl⟩
          obtain ⟨Q, hQ⟩ : ∃ c, Hid (newP K3 f m name p = c) := ⟨_, Lib.hid rfl⟩
          rw [hOL.out]
          rw [hQ.out] at hbx hpr hrm
          simp only [hQ.out, hOL.out] at hsc
          have HSCQ := Lib.hid hsc
          have HRMQ := Lib.hid hrm
          have HYC := Lib.hid hbx
          have HPC := Lib.hid hpr
          have HBC := Lib.hid hbw
          clear hbx hpr hbw hsc hrm
          have y0 := HYC.out 0 _ rfl
          have y1 := HYC.out 1 _ rfl
          go_wp2_with fail
          refine (mayP_any (d + 1) Q _ _ _ HPC.out).mono ?_
          obtain ⟨MQ, hMQ⟩ : ∃ c, Hid (mayP Q = c) := ⟨_, Lib.hid rfl⟩
          rw [hMQ.out]
          rintro e wd ⟨rfl, hbd⟩
          have HBD := Lib.hid (HBC.out.trans (hbd.mono HBC.out.size))
          have HYD := Lib.hid (HYC.out.next hbd)
          have HPD := Lib.hid (PrC.mono (cw_next hbd) HPC.out)
          clear hbd y0 y1
          cases MQ with
          | false =>
            go_wp2_with fail
            go_ret
            exact ⟨rfl, HBD.out⟩
          | true =>
            have hsq := HSCQ.out hMQ.out
            have HSQ := Lib.hid hsq
            clear hsq
            have y0 := HYD.out 0 _ rfl
            have y1 := HYD.out 1 _ rfl
            go_wp2_with fail
            refine (scheck_any (d + 1) Q _ _ _ HPD.out HRMQ.out).mono ?_
            cases OL with
            | true =>
              rw [HSQ.out, if_pos rfl]
              rintro e we ⟨rfl, hbe⟩
              have HBE := Lib.hid (HBD.out.trans (hbe.mono HBD.out.size))
              clear hbe y0 y1
              have heq := fault_same 5 0
              go_wp2_with fail
              go_ret
              exact ⟨rfl, HBE.out.trans ((boxed we _).mono HBE.out.size)⟩
            | false =>
              rw [HSQ.out, if_neg (by simp)]
              rintro e we ⟨rfl, hbe⟩
              have HBE := Lib.hid (HBD.out.trans (hbe.mono HBD.out.size))
              clear hbe y0 y1
              go_wp2_with fail
              go_ret
              exact ⟨rfl, HBE.out.trans ((boxed we _).mono HBE.out.size)⟩
      | false =>
        clear hnm
        go_wp2_with fail
        go_ret
        exact ⟨rfl, HB4.out⟩
    · have hz1 : (SC == 0) = false := by simpa using hz
      have hz2 : (SC != 0) = true := by rw [bne, hz1]; rfl
      have HZ0 := Lib.hid hz
      clear hz
      have p0 := HX4.out 0 _ rfl
      have p1 := HX4.out 1 _ rfl
      go_wp2_with fail
      go_ret
      exact ⟨rfl, HB4.out⟩
end Go.Proofs.Ytghlmengcidmdaa.Tr
