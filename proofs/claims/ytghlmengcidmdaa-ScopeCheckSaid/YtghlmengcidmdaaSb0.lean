/- Parts of ScopeCheckW: walks and plain laws that later texts use. Conditions: as each statement says. -/
import Derived.Test.YtghlmengcidmdaaSa0
import Derived.Test.YtghlmengcidmdaaSa1
import Derived.Test.YtghlmengcidmdaaSa10
import Derived.Test.YtghlmengcidmdaaSa11
import Derived.Test.YtghlmengcidmdaaSa12
import Derived.Test.YtghlmengcidmdaaSa13
import Derived.Test.YtghlmengcidmdaaSa14
import Derived.Test.YtghlmengcidmdaaSa15
import Derived.Test.YtghlmengcidmdaaSa16
import Derived.Test.YtghlmengcidmdaaSa17
import Derived.Test.YtghlmengcidmdaaSa18
import Derived.Test.YtghlmengcidmdaaSa19
import Derived.Test.YtghlmengcidmdaaSa2
import Derived.Test.YtghlmengcidmdaaSa20
import Derived.Test.YtghlmengcidmdaaSa21
import Derived.Test.YtghlmengcidmdaaSa22
import Derived.Test.YtghlmengcidmdaaSa23
import Derived.Test.YtghlmengcidmdaaSa24
import Derived.Test.YtghlmengcidmdaaSa25
import Derived.Test.YtghlmengcidmdaaSa26
import Derived.Test.YtghlmengcidmdaaSa27
import Derived.Test.YtghlmengcidmdaaSa28
import Derived.Test.YtghlmengcidmdaaSa29
import Derived.Test.YtghlmengcidmdaaSa3
import Derived.Test.YtghlmengcidmdaaSa30
import Derived.Test.YtghlmengcidmdaaSa31
import Derived.Test.YtghlmengcidmdaaSa32
import Derived.Test.YtghlmengcidmdaaSa33
import Derived.Test.YtghlmengcidmdaaSa34
import Derived.Test.YtghlmengcidmdaaSa35
import Derived.Test.YtghlmengcidmdaaSa36
import Derived.Test.YtghlmengcidmdaaSa37
import Derived.Test.YtghlmengcidmdaaSa38
import Derived.Test.YtghlmengcidmdaaSa39
import Derived.Test.YtghlmengcidmdaaSa4
import Derived.Test.YtghlmengcidmdaaSa40
import Derived.Test.YtghlmengcidmdaaSa5
import Derived.Test.YtghlmengcidmdaaSa6
import Derived.Test.YtghlmengcidmdaaSa7
import Derived.Test.YtghlmengcidmdaaSa8
import Derived.Test.YtghlmengcidmdaaSa9
import Derived.Laws.StructEq
import Derived.Deep.DeepCutAuto
import Derived.WalkKit
import Derived.Test.YtghlmengcidmdaaRows
import Derived.WalkSpells
import Derived.Lib.Hide
import Derived.Below
import Derived.Deep.QuietTactic
import Derived.BigQuiet
import Derived.WalkSmall
import Derived.IntWalk
import Derived.Deep.RegionWith
import Derived.Laws.Cover3
import Derived.Deep.RegionHeld3
import Derived.Deep.RegionLaw
import Derived.StillTailTactics
import Derived.RegionTactic
import Derived.OrdersHeld
import Derived.Deep.CutBlock
import Derived.Deep.AppendLies
import Derived.Deep.MidRow
import Derived.Outline
import Derived.Deep.Slices
import Derived.Deep.Fields
import Derived.Lib.SmallJoins
import Derived.SliceStrings
import Derived.ChangeSlices
import Derived.OwnWalk
import Derived.OneCell
import Derived.Laws.BitsAllLaws
import Derived.Maps.Range
import Derived.Deep.Upon
import Derived.Maps.AppendAt
import Derived.Laws.OwnMore
/- The law ScopeCheck, walked: it returns true. Conditions: the arguments lie in memory. -/
namespace Go.Proofs.Ytghlmengcidmdaa.Tr
open Go.RowKit Go.Proofs.Ytghlmengcidmdaa.Lx Go.Proofs.Ytghlmengcidmdaa.Wd
set_option linter.unusedSimpArgs false
set_option maxHeartbeats 4000000 in
set_option maxRecDepth 100000 in
theorem law_scopeCheck {w : World} (d : Nat) (p : Pr) (gv pv : Value) (hp : PrC (cw w) d gv pv p) :
    Calls Try.prog 6 #[.agg #[gv, pv]] w fun e w' => e = .returned (.bool true) ∧ Below w.heap.size w w' := by
  obtain ⟨ga, gc, rfl, -, -⟩ := hp.1.form
  obtain ⟨pa, pc, rfl, hpl1, hpl2⟩ := hp.2.form
  have hpl : p.procs.length ≤ 9223372036854775807 := Nat.le_trans hpl1 hpl2
  have HP := Lib.hid hp
  clear hp hpl1 hpl2
  go_enter Try.func6, Try.ntmps6
  go_upto_region 1 with fail
  refine cut_world (fun wx => Below w.heap.size w wx ∧ BoxAt wx w.heap.size [.slice ga p.globals.length gc, .slice pa p.procs.length pc]) ⟨boxed _ _, box_new w #[.slice ga p.globals.length gc, .slice pa p.procs.length pc] 25⟩ ?_
  rintro w1 ⟨hb1, hx1⟩
  have HB1 := Lib.hid hb1
  have HX1 := Lib.hid hx1
  have HP1 := Lib.hid (PrC.mono (cw_next hb1) HP.out)
  clear hb1 hx1
  have p0 := HX1.out 0 _ rfl
  have p1 := HX1.out 1 _ rfl
  go_wp2_with fail
  refine (scoped_any _).mono ?_
  rintro e w2 ⟨rfl, hb2⟩
  have HX2 := Lib.hid (HX1.out.next hb2)
  have HP2 := Lib.hid (PrC.mono (cw_next hb2) HP1.out)
  have HB2 := Lib.hid (HB1.out.trans (hb2.mono HB1.out.size))
  clear hb2
  clear p0 p1
  have p0 := HX2.out 0 _ rfl
  have p1 := HX2.out 1 _ rfl
  go_wp2_with fail
  refine (fits_any d p _ _ _ HP2.out).mono ?_
  rintro e w3 ⟨b1, hf1, rfl, hb3⟩
  have HF1 := Lib.hid hf1
  clear hf1
  have HX3 := Lib.hid (HX2.out.next hb3)
  have HP3 := Lib.hid (PrC.mono (cw_next hb3) HP2.out)
  have HB3 := Lib.hid (HB2.out.trans (hb3.mono HB2.out.size))
  clear hb3
  clear p0 p1
  cases b1 with
  | false =>
    have p0 := HX3.out 0 _ rfl
    have p1 := HX3.out 1 _ rfl
    go_wp2_with fail
    go_ret
    exact ⟨rfl, HB3.out⟩
  | true =>
    have HWP := Lib.hid (HF1.out (by simp))
    have HROOM := Lib.hid (RoomP.of (Nat.le_trans HWP.out (by decide)))
    clear HF1
    go_upto_region 5 with fail
    have hq : Below w3.heap.size w3 w3.drew := (Below.refl _ _).drew
    refine wp_region_z (fun w' => BoxAt w' w.heap.size [.slice ga p.globals.length gc, .slice pa p.procs.length pc]) 5 (by kernel_rfl) (HX3.out.next hq) (fun hS => ?_)
    refine' wpAnyZ_take (i := 0) (oi := _) (v := _) rfl (by kernel_rfl) (by kernel_rfl) (by kernel_rfl) (by kernel_rfl) (fun _ _ _ h => h) (Or.inl ⟨by rfl, ?hy0⟩) hS ?rest0
    case hy0 => (intro w hSw; have c0 := hSw 0 _ rfl; have c1 := hSw 1 _ rfl; clear hSw; go_simp; (try with_reducible rfl))
    try simp only [Act.put, List.setIfInBounds_toArray, List.set_cons_zero, List.set_cons_succ]
    refine' wpAnyZ_take (i := 2) (oi := _) (v := _) rfl (by kernel_rfl) (by kernel_rfl) (by kernel_rfl) (by kernel_rfl) (fun _ _ _ h => h) (Or.inl ⟨by rfl, ?hy2⟩) hS ?rest2
    case hy2 => (intro w hSw; have c0 := hSw 0 _ rfl; have c1 := hSw 1 _ rfl; clear hSw; go_simp; (try with_reducible rfl))
    try simp only [Act.put, List.setIfInBounds_toArray, List.set_cons_zero, List.set_cons_succ]
    refine' wpAnyZ_step (i := 1) (o := _) rfl (by kernel_rfl) (fun K hK => ?_)
    go_simp
    go_at_call 38
    refine (scheck_any d p _ _ _ (PrC.mono (cw_next hq) HP3.out) HROOM.out).mono ?_
    rintro e w4 ⟨rfl, hb4⟩
    have HQ4 := Lib.hid (below_then hb4 hq)
    refine hK _ _ (fun _ => HX3.out.next HQ4.out) ?_
    clear hK K
    try simp only [Act.put, List.setIfInBounds_toArray, List.set_cons_zero, List.set_cons_succ]
    refine' wpAnyZ_step (i := 3) (o := _) rfl (by kernel_rfl) (fun K hK => ?_)
    go_simp
    go_at_call 39
    refine (rscope_any d p _ _ _ (PrC.mono (cw_next HQ4.out) HP3.out) HROOM.out).mono ?_
    rintro e w5 ⟨rfl, hb5⟩
    have HQ5 := Lib.hid (HQ4.out.trans (hb5.mono HQ4.out.size))
    refine hK _ _ (fun _ => HX3.out.next HQ5.out) ?_
    clear hK K
    try simp only [Act.put, List.setIfInBounds_toArray, List.set_cons_zero, List.set_cons_succ]
    refine' wpAnyZ_step (i := 4) (o := _) rfl (by kernel_rfl) (fun K hK => ?_)
    have heq := fault_same (scopeP p).1 (scopeP p).2
    go_simp
    refine hK _ _ (fun _ => HX3.out.next HQ5.out) ?_
    clear hK K
    try simp only [Act.put, List.setIfInBounds_toArray, List.set_cons_zero, List.set_cons_succ]
    refine' wpAnyZ_step (i := 5) (o := _) rfl (by kernel_rfl) (fun K hK => ?_)
    go_simp
    refine hK _ _ (fun h => absurd rfl h) ?_
    clear hK K
    try simp only [Act.put, List.setIfInBounds_toArray, List.set_cons_zero, List.set_cons_succ]
    refine wpAnyZ_done (by kernel_rfl) ?_ _
    have HBZ := Lib.hid (HB3.out.trans (HQ5.out.mono HB3.out.size))
    clear hS hq
    go_wp2_with fail
    go_ret
    exact ⟨rfl, HBZ.out⟩
end Go.Proofs.Ytghlmengcidmdaa.Tr
