/- The law TreeMay, walked: it returns true. Conditions: the arguments lie in memory. -/
import Derived.Test.YtnbclbphggmenaaRMayW
import Derived.Test.YtnbclbphggmenaaFitsW
import Derived.Test.YtnbclbphggmenaaTreeEqW
import Derived.Deep.DeepCutAuto
import Derived.Deep.RegionHeld3
namespace Go.Proofs.Ytnbclbphggmenaa.Tr
open Go.RowKit Go.Proofs.Ytnbclbphggmenaa.Lx Go.Proofs.Ytnbclbphggmenaa.Wd
set_option maxHeartbeats 4000000 in
set_option maxRecDepth 100000 in
theorem law_treeMay {w : World} (d : Nat) (p : Pr) (gv pv : Value) (hp0 : PrC (cw w) d gv pv p) :
    Calls Try.prog 9 #[.agg #[gv, pv]] w fun e w' => e = .returned (.bool true) ∧ Below w.heap.size w w' := by
  have hp : PrC (cw w) (d + 1) gv pv p := PrC.le (by omega) hp0
  obtain ⟨ga, gc, rfl, -, -⟩ := hp.1.form
  obtain ⟨pa, pc, rfl, hpl1, hpl2⟩ := hp.2.form
  have hplen : p.procs.length ≤ 9223372036854775807 := Nat.le_trans hpl1 hpl2
  have HPL := Lib.hid hplen
  have HP0 := Lib.hid hp0
  have HP := Lib.hid hp
  clear hp hp0 hpl1 hpl2 hplen
  go_enter Try.func9, Try.ntmps9
  go_upto_region 1 with fail
  refine cut_world (fun wx => Below w.heap.size w wx ∧ BoxAt wx w.heap.size [.slice ga p.globals.length gc, .slice pa p.procs.length pc]) ⟨boxed _ _, box_new w #[.slice ga p.globals.length gc, .slice pa p.procs.length pc] 46⟩ ?_
  rintro w1 ⟨hb1, hx1⟩
  have HB1 := Lib.hid hb1
  have HX1 := Lib.hid hx1
  have HP1 := Lib.hid (PrC.mono (cw_next hb1) HP.out)
  clear hb1 hx1
  have p0 := HX1.out 0 _ rfl
  have p1 := HX1.out 1 _ rfl
  go_wp2_with fail
  refine (treed_any _).mono ?_
  rintro e w2 ⟨rfl, hb2⟩
  have HB2 := Lib.hid (HB1.out.trans (hb2.mono HB1.out.size))
  have HX2 := Lib.hid (HX1.out.next hb2)
  have HP2 := Lib.hid (PrC.mono (cw_next hb2) HP1.out)
  have HN2 := Lib.hid hb2
  clear hb2
  clear p0 p1
  have p0 := HX2.out 0 _ rfl
  have p1 := HX2.out 1 _ rfl
  go_wp2_with fail
  refine (fits_any (d + 1) p _ _ _ HP2.out).mono ?_
  rintro e w3 ⟨b1, hf1, rfl, hb3⟩
  have HF1 := Lib.hid hf1
  clear hf1
  have HB3 := Lib.hid (HB2.out.trans (hb3.mono HB2.out.size))
  have HX3 := Lib.hid (HX2.out.next hb3)
  have HP3 := Lib.hid (PrC.mono (cw_next hb3) HP2.out)
  have HN3 := Lib.hid hb3
  clear hb3
  clear p0 p1
  cases b1 with
  | false =>
    have p0 := HX3.out 0 _ rfl
    have p1 := HX3.out 1 _ rfl
    go_wp2_with fail
    go_ret
    exact ⟨rfl, HB3.out⟩
  | true =>
    have HWP := Lib.hid (HF1.out (by simp))
    clear HF1
    have p0 := HX3.out 0 _ rfl
    have p1 := HX3.out 1 _ rfl
    obtain ⟨E, hE⟩ : ∃ E, Hid (mayP p = E) := ⟨_, Lib.hid rfl⟩
    have hEE : (E == E) = true := by simp
    have hq : Below w3.heap.size w3 w3.drew := (Below.refl _ _).drew
    have L0 := Lib.hid p0
    have L1 := Lib.hid p1
    clear p0 p1
    go_upto_region 4 with fail
    go_region_held3 (fun w' => w'.cell? ⟨w.heap.size, 0, none⟩ = some (.slice ga p.globals.length gc) ∧ w'.cell? ⟨w.heap.size, 1, none⟩ = some (.slice pa p.procs.length pc) ∧ Below w3.heap.size w3 w')
      (exact ⟨cell_next hq L0.out, cell_next hq L1.out, hq⟩)
      (first
        | (go_split_ands; go_at_call 35; refine (mayP_any (d + 1) p _ _ _ (PrC.mono (cw_next (by assumption)) HP3.out)).mono ?_; rintro e w8 ⟨rfl, hb8⟩; rw [hE.out]; have hq := below_then hb8 (by assumption))
        | (go_split_ands; go_at_call 36; refine (rmayP_any (d + 1) p _ _ _ (PrC.mono (cw_next (by assumption)) HP3.out)).mono ?_; rintro e w8 ⟨rfl, hb8⟩; rw [hE.out]; have hq := below_then hb8 (by assumption)))
    all_goals
      have HBZ := Lib.hid (HB3.out.trans (hq.mono HB3.out.size))
      clear hq
      go_wp2_with fail
      go_ret
      exact ⟨rfl, HBZ.out⟩
end Go.Proofs.Ytnbclbphggmenaa.Tr
