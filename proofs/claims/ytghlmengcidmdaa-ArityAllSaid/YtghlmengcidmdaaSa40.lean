/- Parts of ScopedW, FaultEq: walks and plain laws that later texts use. Conditions: as each statement says. -/
import Derived.Test.YtghlmengcidmdaaSa0
import Derived.Test.YtghlmengcidmdaaSa1
import Derived.Test.YtghlmengcidmdaaSa2
import Derived.Test.YtghlmengcidmdaaSa3
import Derived.Test.YtghlmengcidmdaaSa4
import Derived.Test.YtghlmengcidmdaaSa5
import Derived.Test.YtghlmengcidmdaaSa6
import Derived.Test.YtghlmengcidmdaaSa7
import Derived.Test.YtghlmengcidmdaaSa8
import Derived.Test.YtghlmengcidmdaaSa9
import Derived.Test.YtghlmengcidmdaaSa10
import Derived.Test.YtghlmengcidmdaaSa11
import Derived.Test.YtghlmengcidmdaaSa12
import Derived.Test.YtghlmengcidmdaaSa13
import Derived.Test.YtghlmengcidmdaaSa14
import Derived.Test.YtghlmengcidmdaaSa15
import Derived.Test.YtghlmengcidmdaaSa16
import Derived.Test.YtghlmengcidmdaaSa17
import Derived.Test.YtghlmengcidmdaaSa18
import Derived.Test.YtghlmengcidmdaaSa19
import Derived.Test.YtghlmengcidmdaaSa20
import Derived.Test.YtghlmengcidmdaaSa21
import Derived.Test.YtghlmengcidmdaaSa22
import Derived.Test.YtghlmengcidmdaaSa23
import Derived.Test.YtghlmengcidmdaaSa24
import Derived.Test.YtghlmengcidmdaaSa25
import Derived.Test.YtghlmengcidmdaaSa26
import Derived.Test.YtghlmengcidmdaaSa27
import Derived.Test.YtghlmengcidmdaaSa28
import Derived.Test.YtghlmengcidmdaaSa29
import Derived.Test.YtghlmengcidmdaaSa30
import Derived.Test.YtghlmengcidmdaaSa31
import Derived.Test.YtghlmengcidmdaaSa32
import Derived.Test.YtghlmengcidmdaaSa33
import Derived.Test.YtghlmengcidmdaaSa34
import Derived.Test.YtghlmengcidmdaaSa35
import Derived.Test.YtghlmengcidmdaaSa36
import Derived.Test.YtghlmengcidmdaaSa37
import Derived.Test.YtghlmengcidmdaaSa38
import Derived.BigQuiet
import Derived.Deep.DeepCutAuto
import Derived.Deep.RegionHeld3
import Derived.RegionTactic
import Derived.IntWalk
import Derived.Deep.QuietTactic
import Derived.StillTailTactics
import Derived.Deep.RegionLaw
import Derived.Deep.RegionWith
import Derived.Laws.Cover3
import Derived.Maps.Range
import Derived.Outline
import Derived.Lib.SmallJoins
import Derived.Deep.Upon
import Derived.Maps.AppendAt
import Derived.Laws.OwnMore
import Derived.Deep.AppendLies
import Derived.Deep.CutBlock
import Derived.Laws.StructEq
import Derived.WalkKit
import Derived.Test.YtghlmengcidmdaaRows
import Derived.WalkSpells
import Derived.Lib.Hide
import Derived.Below
import Derived.WalkSmall
import Derived.OrdersHeld
import Derived.Deep.MidRow
import Derived.Laws.BitsAllLaws
import Derived.OwnWalk
import Derived.OneCell
import Derived.Deep.Slices
import Derived.Deep.Fields
import Derived.SliceStrings
import Derived.ChangeSlices
section
/- What scoped of the laws on scope tells: true. Conditions: none. -/
namespace Go.Proofs.Ytghlmengcidmdaa.Tr
open Go.RowKit Go.Proofs.Ytghlmengcidmdaa.Lx Go.Proofs.Ytghlmengcidmdaa.Wd
/-- The code of a fault, the place of a fault. -/
theorem run_code (c i : Int) (w : World) : (Instr.field 30 (.agg #[.int .i64 c, .int .i64 i]) 0).run Try.prog w = .ok (.int .i64 c) w := by kernel_rfl
theorem some_wt6 : wtPr someP ≤ 20000 := of_decide_eq_true (by kernel_rfl)
def someQ : Pc := ⟨sP, [⟨sX, false⟩, ⟨sY, true⟩], [], someBody, [sE]⟩
theorem some_pc : pcIn someP sP = some someQ := by kernel_rfl
theorem some_k1 : kindIn someP sP sY = 3 := by kernel_rfl
theorem some_k2 : kindIn someP sMain sV = 4 := by kernel_rfl
theorem some_vars : varsIn someP sP = [sG, sX, sY] := by kernel_rfl
theorem none_scope : scopeP ⟨[], []⟩ = (5, 0) := by kernel_rfl
set_option maxHeartbeats 1000000 in
set_option maxRecDepth 100000 in
theorem scoped_any (w : World) : Calls Try.prog 30 #[] w fun e w' => e = .returned (.bool true) ∧ Below w.heap.size w w' := by
  go_enter Try.func30, Try.ntmps30
  go_wp2_with fail
  refine (some_any _).mono ?_
  rintro e w1 ⟨gv, pv, rfl, hp, hb1⟩
  obtain ⟨ga, gc, rfl, -, -⟩ := hp.1.form
  obtain ⟨pa, pc, rfl, -, -⟩ := hp.2.form
  have HP1 := Lib.hid hp
  have HB1 := Lib.hid hb1
  clear hp hb1
  go_upto_region 2 with fail
  refine cut_world (fun wx => Below w1.heap.size w1 wx ∧ BoxAt wx w1.heap.size [.slice ga someP.globals.length gc, .slice pa someP.procs.length pc]) ⟨boxed w1 _, box_new w1 #[.slice ga someP.globals.length gc, .slice pa someP.procs.length pc] 25⟩ ?_
  rintro w2 ⟨hb2, hx2⟩
  have HX2 := Lib.hid hx2
  have HP2 := Lib.hid (PrC.mono (cw_next hb2) HP1.out)
  have HB2 := Lib.hid (HB1.out.trans (hb2.mono HB1.out.size))
  clear hb2 hx2
  have x0 := HX2.out 0 _ rfl
  have x1 := HX2.out 1 _ rfl
  go_wp2_with fail
  refine (sproc_any 3 someP _ _ sP _ HP2.out some_wt6).mono ?_
  rw [some_pc]
  rintro e w3 ⟨a1, a2, a3, a4, c1, c2, c3, c4, rfl, hh, hnm, hb3⟩
  have HX3 := Lib.hid (HX2.out.next hb3)
  have HP3 := Lib.hid (PrC.mono (cw_next hb3) HP2.out)
  have HB3 := Lib.hid (HB2.out.trans (hb3.mono HB2.out.size))
  clear hb3 x0 x1 hh hnm
  go_upto_region 3 with fail
  refine cut_world (fun wx => Below w3.heap.size w3 wx ∧ BoxAt wx w3.heap.size [.string someQ.nm, .slice a1 someQ.params.length c1, .slice a2 someQ.vars.length c2, .slice a3 someQ.body.length c3, .slice a4 someQ.fin.length c4]) ⟨boxed w3 _, box_new w3 #[.string someQ.nm, .slice a1 someQ.params.length c1, .slice a2 someQ.vars.length c2, .slice a3 someQ.body.length c3, .slice a4 someQ.fin.length c4] 55⟩ ?_
  rintro w4 ⟨hb4, hy4⟩
  have HY4 := Lib.hid hy4
  have HX4 := Lib.hid (HX3.out.next hb4)
  have HP4 := Lib.hid (PrC.mono (cw_next hb4) HP3.out)
  have HB4 := Lib.hid (HB3.out.trans (hb4.mono HB3.out.size))
  clear hb4 hy4
  have x0 := HX4.out 0 _ rfl
  have x1 := HX4.out 1 _ rfl
  go_wp2_with fail
  refine (skind_any 3 someP _ _ sP sY _ HP4.out).mono ?_
  rw [some_k1]
  rintro e w5 ⟨rfl, hb5⟩
  have HY5 := Lib.hid (HY4.out.next hb5)
  have HX5 := Lib.hid (HX4.out.next hb5)
  have HP5 := Lib.hid (PrC.mono (cw_next hb5) HP4.out)
  have HB5 := Lib.hid (HB4.out.trans (hb5.mono HB4.out.size))
  clear hb5 x0 x1
  have x0 := HX5.out 0 _ rfl
  have x1 := HX5.out 1 _ rfl
  go_wp2_with fail
  refine (skind_any 3 someP _ _ sMain sV _ HP5.out).mono ?_
  rw [some_k2]
  rintro e w6 ⟨rfl, hb6⟩
  have HY6 := Lib.hid (HY5.out.next hb6)
  have HX6 := Lib.hid (HX5.out.next hb6)
  have HP6 := Lib.hid (PrC.mono (cw_next hb6) HP5.out)
  have HB6 := Lib.hid (HB5.out.trans (hb6.mono HB5.out.size))
  clear hb6 x0 x1
  have x0 := HX6.out 0 _ rfl
  have x1 := HX6.out 1 _ rfl
  go_wp2_with fail
  refine (svars_any 3 someP _ _ sP _ HP6.out (RoomP.of (Nat.le_trans some_wt6 (by decide)))).mono ?_
  rw [some_vars]
  rintro e w7 ⟨v7, rfl, hr7, hb7⟩
  obtain ⟨va, vc, rfl⟩ := ownsForm hr7.1
  have HY7 := Lib.hid (HY6.out.next hb7)
  have HB7 := Lib.hid (HB6.out.trans (hb7.mono HB6.out.size))
  clear hb7 x0 x1 hr7
  have y3 : w7.cell? ⟨w3.heap.size, 3, none⟩ = some (.slice a3 3 c3) := HY7.out 3 _ rfl
  simp only [List.length_cons, List.length_nil]
  go_wp2_with fail
  refine (scheck_any 3 ⟨[], []⟩ _ _ _ ⟨SlAt.nil, SlAt.nil⟩ (RoomP.of (by unfold wtPr wtTs; simp))).mono ?_
  rw [none_scope]
  rintro e w8 ⟨rfl, hb8⟩
  have HB8 := Lib.hid (HB7.out.trans (hb8.mono HB7.out.size))
  clear hb8 y3
  have hfd := run_code 5 0
  go_wp2_with fail
  go_ret
  exact ⟨rfl, HB8.out⟩
end Go.Proofs.Ytghlmengcidmdaa.Tr
end
section
/- Two faults compared. No program's code. Conditions: none. -/
namespace Go.Proofs.Ytghlmengcidmdaa.Tr
open Go.RowKit
theorem fault_eq (a b c d : Int) (w : World) : (binOp .eql 30 (.agg #[.int .i64 a, .int .i64 b]) (.agg #[.int .i64 c, .int .i64 d])).run Try.prog w = .ok (.bool (a == c && b == d)) w := by
  simp only [go_sem]
  by_cases h1 : a = c <;> by_cases h2 : b = d <;> simp [go_sem, h1, h2]
theorem fault_same (a b : Int) (w : World) : (binOp .eql 30 (.agg #[.int .i64 a, .int .i64 b]) (.agg #[.int .i64 a, .int .i64 b])).run Try.prog w = .ok (.bool true) w := by
  rw [fault_eq]; simp
end Go.Proofs.Ytghlmengcidmdaa.Tr
end
