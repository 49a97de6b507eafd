/- What reckoned answers: expressions are worth something. Conditions: none. -/
import Derived.Test.YtnbclbphggmenaaSomeW
import Derived.Test.YtnbclbphggmenaaEvalW
namespace Go.Proofs.Ytnbclbphggmenaa.Tr
open Go.RowKit Go.Proofs.Ytnbclbphggmenaa.Lx Go.Proofs.Ytnbclbphggmenaa.Wd
theorem some5_may : mayE 20 some5X = true := by kernel_rfl
theorem some5_eval : evalE 20 some5X [sX, sY] [3, 4] = (7, true) := by kernel_rfl
set_option maxHeartbeats 2000000 in
set_option maxRecDepth 100000 in
theorem reckoned_any (w : World) : Calls Try.prog 18 #[] w fun e w' => e = .returned (.bool true) ∧ Below w.heap.size w w' := by
  go_enter Try.func18, Try.ntmps18
  go_wp2_with fail
  refine (some_any _).mono ?_
  rintro e w1 ⟨gv, pv, rfl, hp, hb1⟩
  obtain ⟨g, off, cap, rfl, hcap, hc⟩ := hp.2.cells (by intro h; cases h)
  obtain ⟨ga, gc, rfl, -, -⟩ := SlAt.form hp.1
  obtain ⟨pv1, vv1, bv1, fv1, -, -, -, c3, -, -, -, -, hbody, -⟩ := hc 1 (by decide)
  obtain ⟨g2, off2, cap2, rfl, hcap2, hc2⟩ := SlAt.cells hbody (by intro h; cases h)
  obtain ⟨lv, av, tv, ev, -, -, -, -, -, ⟨kv, x0, x1, x2, x3, hok, hk⟩, -⟩ := hc2 0 (by decide)
  have d3 : w1.cell? ⟨g, off + 5 + 3, none⟩ = some (.slice (some ⟨g2, off2, none⟩) 3 cap2) := c3
  have d3' : w1.cell? ⟨g, off + 8, none⟩ = some (.slice (some ⟨g2, off2, none⟩) 3 cap2) := c3
  have e0 : w1.cell? ⟨g2, off2 + 5, none⟩ = some (.int .i64 8) := x0
  have e1 : w1.cell? ⟨g2, off2 + 6, none⟩ = some (.int .i64 0) := x1
  have e2 : w1.cell? ⟨g2, off2 + 7, none⟩ = some (.string ⟨#[]⟩) := x2
  have e3 : w1.cell? ⟨g2, off2 + 8, none⟩ = some kv := x3
  obtain ⟨ka, kc, rfl, -, -⟩ := SlAt.form hk
  have HK := Lib.hid (ExC.to (d := 2) (l := some5X.ks) hk)
  have HB1 := Lib.hid hb1
  have hl : someP.procs.length = 2 := rfl
  have hl2 : someP.globals.length = 1 := rfl
  rw [hl, hl2]
  have hfd : ∀ w : World, (Instr.field 46 (.agg #[.slice ga 1 gc, .slice (some ⟨g, off, none⟩) 2 cap]) 1).run Try.prog w = .ok (.slice (some ⟨g, off, none⟩) 2 cap) w := fun _ => by kernel_rfl
  clear hp hc c3 hbody hc2 x0 x1 x2 x3 hok hk hb1 hcap hcap2 hl hl2
  go_wp2_with fail
  refine (evalOf_any 2 some5X (.slice ka some5X.ks.length kc) (.slice (some ⟨w1.heap.size + 1, 0, none⟩) 2 2) (.slice (some ⟨w1.heap.size + 1 + 1, 0, none⟩) 2 2) [sX, sY] [3, 4] _ (okTwo _ _ _ (in1 (by omega))) (HK.out.next (((boxed _ _).alloc (by simp) _).alloc (by simp; omega) _)) ?hn ?hv).mono ?_
  case hn =>
    refine ⟨_, 2, rfl, by decide, by omega, fun _ => ⟨_, 0, rfl, fun i hi => ?_⟩⟩
    match i, hi with
    | 0, _ => exact ⟨(show (1 : Nat) ≤ _ by omega), by simp [go_sem]; rfl⟩
    | 1, _ => exact ⟨(show (1 : Nat) ≤ _ by omega), by simp [go_sem]; rfl⟩
  case hv =>
    refine ⟨_, 2, rfl, by decide, by omega, fun _ => ⟨_, 0, rfl, fun i hi => ?_⟩⟩
    match i, hi with
    | 0, _ => exact ⟨in1 (show (-1000 : Int) ≤ 3 ∧ (3 : Int) ≤ 1000 by omega), by simp [go_sem]⟩
    | 1, _ => exact ⟨in1 (show (-1000 : Int) ≤ 4 ∧ (4 : Int) ≤ 1000 by omega), by simp [go_sem]⟩
  rintro e w2 ⟨rfl, -, hb2⟩
  have HB2 := Lib.hid (HB1.out.trans (((((boxed _ _).alloc (by simp) _).alloc (by simp; omega) _).trans (hb2.mono (by simp; omega))).mono HB1.out.size))
  rw [some5_may, if_pos rfl, some5_eval]
  clear hb2
  go_wp2_with fail
  go_ret
  exact ⟨rfl, HB2.out⟩
end Go.Proofs.Ytnbclbphggmenaa.Tr
