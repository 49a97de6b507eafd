/- The law TreeEq, walked: it returns true. Conditions: the arguments lie in memory. -/
import Derived.Test.YtnbclbphggmenaaCopyP
import Derived.Test.YtnbclbphggmenaaReqP
import Derived.Test.YtnbclbphggmenaaSymL
import Derived.Test.YtnbclbphggmenaaOpenP
import Derived.Deep.DeepCutAuto
import Derived.Deep.RegionHeld3
namespace Go.Proofs.Ytnbclbphggmenaa.Tr
open Go.RowKit Go.Proofs.Ytnbclbphggmenaa.Lx Go.Proofs.Ytnbclbphggmenaa.Wd
theorem PrC.le {C : Cs} {d e : Nat} {gv pv : Value} {p : Pr} (hde : d ≤ e) (h : PrC C d gv pv p) : PrC C e gv pv p := ⟨h.1, SlAt.imp h.2 fun _ _ _ _ q => PcAt.le q hde⟩
set_option maxHeartbeats 4000000 in
set_option maxRecDepth 100000 in
theorem law_treeEq {w : World} (d : Nat) (p : Pr) (gv pv : Value) (hp0 : PrC (cw w) d gv pv p) (d2 : Nat) (q : Pr) (gq pq : Value) (hq0 : PrC (cw w) d2 gq pq q) :
    Calls Try.prog 13 #[.agg #[gv, pv], .agg #[gq, pq]] w fun e w' => e = .returned (.bool true) ∧ Below w.heap.size w w' := by
  obtain ⟨D0, hD1, hD2⟩ : ∃ D0, d ≤ D0 ∧ d2 ≤ D0 := ⟨max d d2, by omega, by omega⟩
  have hp : PrC (cw w) (D0 + 1) gv pv p := PrC.le (by omega) hp0
  have hq : PrC (cw w) (D0 + 1) gq pq q := PrC.le (by omega) hq0
  have hp0' : PrC (cw w) D0 gv pv p := PrC.le hD1 hp0
  obtain ⟨ga, gc, rfl, -, -⟩ := hp.1.form
  obtain ⟨pa, pc, rfl, -, -⟩ := hp.2.form
  obtain ⟨qga, qgc, rfl, -, -⟩ := hq.1.form
  obtain ⟨qa, qc, rfl, -, -⟩ := hq.2.form
  have HP0 := Lib.hid hp0'
  have HP := Lib.hid hp
  have HQ := Lib.hid hq
  clear hp hq hp0 hq0 hp0' hD1 hD2
  go_enter Try.func13, Try.ntmps13
  go_upto_region 1 with fail
  refine cut_world (fun wx => Below w.heap.size w wx ∧ BoxAt wx w.heap.size [.slice ga p.globals.length gc, .slice pa p.procs.length pc] ∧ BoxAt wx (w.heap.size + 1) [.slice qga q.globals.length qgc, .slice qa q.procs.length qc]) ⟨?_, ?_, ?_⟩ ?_
  · exact (boxed w _).alloc (by simp) _
  · exact (box_new w #[.slice ga p.globals.length gc, .slice pa p.procs.length pc] 46).next (boxed _ _)
  · exact box_two w _ #[.slice qga q.globals.length qgc, .slice qa q.procs.length qc] 46
  rintro w1 ⟨hb1, hx1, hy1⟩
  have HB1 := Lib.hid hb1
  have HX1 := Lib.hid hx1
  have HY1 := Lib.hid hy1
  have HP1 := Lib.hid (PrC.mono (cw_next hb1) HP.out)
  have HQ1 := Lib.hid (PrC.mono (cw_next hb1) HQ.out)
  clear hb1 hx1 hy1
  have p0 := HX1.out 0 _ rfl
  have p1 := HX1.out 1 _ rfl
  have q0 := HY1.out 0 _ rfl
  have q1 := HY1.out 1 _ rfl
  go_wp2_with fail
  refine (treed_any _).mono ?_
  rintro e w2 ⟨rfl, hb2⟩
  have HB2 := Lib.hid (HB1.out.trans (hb2.mono HB1.out.size))
  have HX2 := Lib.hid (HX1.out.next hb2)
  have HY2 := Lib.hid (HY1.out.next hb2)
  have HP2 := Lib.hid (PrC.mono (cw_next hb2) HP1.out)
  have HQ2 := Lib.hid (PrC.mono (cw_next hb2) HQ1.out)
  have HN2 := Lib.hid hb2
  clear hb2
  clear p0 p1 q0 q1
  have p0 := HX2.out 0 _ rfl
  have p1 := HX2.out 1 _ rfl
  have q0 := HY2.out 0 _ rfl
  have q1 := HY2.out 1 _ rfl
  go_wp2_with fail
  refine (fits_any (D0 + 1) p _ _ _ HP2.out).mono ?_
  rintro e w3 ⟨b1, hf1, rfl, hb3⟩
  have HF1 := Lib.hid hf1
  clear hf1
  have HB3 := Lib.hid (HB2.out.trans (hb3.mono HB2.out.size))
  have HX3 := Lib.hid (HX2.out.next hb3)
  have HY3 := Lib.hid (HY2.out.next hb3)
  have HP3 := Lib.hid (PrC.mono (cw_next hb3) HP2.out)
  have HQ3 := Lib.hid (PrC.mono (cw_next hb3) HQ2.out)
  have HN3 := Lib.hid hb3
  clear hb3
  clear p0 p1 q0 q1
  cases b1 with
  | false =>
    have p0 := HX3.out 0 _ rfl
    have p1 := HX3.out 1 _ rfl
    have q0 := HY3.out 0 _ rfl
    have q1 := HY3.out 1 _ rfl
    go_wp2_with fail
    go_ret
    exact ⟨rfl, HB3.out⟩
  | true =>
    have p0 := HX3.out 0 _ rfl
    have p1 := HX3.out 1 _ rfl
    have q0 := HY3.out 0 _ rfl
    have q1 := HY3.out 1 _ rfl
    go_wp2_with fail
    refine (fits_any (D0 + 1) q _ _ _ HQ3.out).mono ?_
    rintro e w4 ⟨b2, hf2, rfl, hb4⟩
    have HF2 := Lib.hid hf2
    clear hf2
    have HB4 := Lib.hid (HB3.out.trans (hb4.mono HB3.out.size))
    have HX4 := Lib.hid (HX3.out.next hb4)
    have HY4 := Lib.hid (HY3.out.next hb4)
    have HP4 := Lib.hid (PrC.mono (cw_next hb4) HP3.out)
    have HQ4 := Lib.hid (PrC.mono (cw_next hb4) HQ3.out)
    have HN4 := Lib.hid hb4
    clear hb4
    clear p0 p1 q0 q1
    cases b2 with
    | false =>
      have p0 := HX4.out 0 _ rfl
      have p1 := HX4.out 1 _ rfl
      have q0 := HY4.out 0 _ rfl
      have q1 := HY4.out 1 _ rfl
      go_wp2_with fail
      go_ret
      exact ⟨rfl, HB4.out⟩
    | true =>
      have p0 := HX4.out 0 _ rfl
      have p1 := HX4.out 1 _ rfl
      have q0 := HY4.out 0 _ rfl
      have q1 := HY4.out 1 _ rfl
      go_wp2_with fail
      refine (mayP_any (D0 + 1) p _ _ _ HP4.out).mono ?_
      rintro e w5 ⟨rfl, hb5⟩
      obtain ⟨m1, hm1⟩ : ∃ m, Hid (mayP p = m) := ⟨_, Lib.hid rfl⟩
      rw [hm1.out]
      have HB5 := Lib.hid (HB4.out.trans (hb5.mono HB4.out.size))
      have HX5 := Lib.hid (HX4.out.next hb5)
      have HY5 := Lib.hid (HY4.out.next hb5)
      have HP5 := Lib.hid (PrC.mono (cw_next hb5) HP4.out)
      have HQ5 := Lib.hid (PrC.mono (cw_next hb5) HQ4.out)
      have HN5 := Lib.hid hb5
      clear hb5
      clear p0 p1 q0 q1
      cases m1 with
      | false =>
        have p0 := HX5.out 0 _ rfl
        have p1 := HX5.out 1 _ rfl
        have q0 := HY5.out 0 _ rfl
        have q1 := HY5.out 1 _ rfl
        go_wp2_with fail
        go_ret
        exact ⟨rfl, HB5.out⟩
      | true =>
        have p0 := HX5.out 0 _ rfl
        have p1 := HX5.out 1 _ rfl
        have q0 := HY5.out 0 _ rfl
        have q1 := HY5.out 1 _ rfl
        go_wp2_with fail
        refine (mayP_any (D0 + 1) q _ _ _ HQ5.out).mono ?_
        rintro e w6 ⟨rfl, hb6⟩
        obtain ⟨m2, hm2⟩ : ∃ m, Hid (mayP q = m) := ⟨_, Lib.hid rfl⟩
        rw [hm2.out]
        have HB6 := Lib.hid (HB5.out.trans (hb6.mono HB5.out.size))
        have HX6 := Lib.hid (HX5.out.next hb6)
        have HY6 := Lib.hid (HY5.out.next hb6)
        have HP6 := Lib.hid (PrC.mono (cw_next hb6) HP5.out)
        have HQ6 := Lib.hid (PrC.mono (cw_next hb6) HQ5.out)
        have HN6 := Lib.hid hb6
        clear hb6
        clear p0 p1 q0 q1
        cases m2 with
        | false =>
          have p0 := HX6.out 0 _ rfl
          have p1 := HX6.out 1 _ rfl
          have q0 := HY6.out 0 _ rfl
          have q1 := HY6.out 1 _ rfl
          go_wp2_with fail
          go_ret
          exact ⟨rfl, HB6.out⟩
        | true =>
          have p0 := HX6.out 0 _ rfl
          have p1 := HX6.out 1 _ rfl
          have q0 := HY6.out 0 _ rfl
          have q1 := HY6.out 1 _ rfl
          have hwp := HF1.out (by simp)
          have HWP := Lib.hid hwp
          have HP6d := Lib.hid (PrC.mono (cw_next HB6.out) HP0.out)
          obtain ⟨E, hE1⟩ : ∃ E, Hid (eqPr p q = E) := ⟨_, Lib.hid rfl⟩
          have hE2 : Hid (eqPr q p = E) := Lib.hid (by rw [eqPr_comm, hE1.out])
          have hE3 : Hid (eqPr p (putPr tneg p) = true) := Lib.hid (by rw [put_sameP hm1.out, eqPr_refl])
          have hEE : (E == E) = true := by simp
          have hq : Below w6.heap.size w6 w6.drew := (Below.refl _ _).drew
          have L0 := Lib.hid p0
          have L1 := Lib.hid p1
          have L2 := Lib.hid q0
          have L3 := Lib.hid q1
          clear p0 p1 q0 q1 hwp
          go_upto_region 7 with fail
          go_region_held3 (fun w' => w'.cell? ⟨w.heap.size, 0, none⟩ = some (.slice ga p.globals.length gc) ∧ w'.cell? ⟨w.heap.size, 1, none⟩ = some (.slice pa p.procs.length pc) ∧ w'.cell? ⟨w.heap.size + 1, 0, none⟩ = some (.slice qga q.globals.length qgc) ∧ w'.cell? ⟨w.heap.size + 1, 1, none⟩ = some (.slice qa q.procs.length qc) ∧ Below w6.heap.size w6 w')
            (exact ⟨cell_next hq L0.out, cell_next hq L1.out, cell_next hq L2.out, cell_next hq L3.out, hq⟩)
            (first
              | (go_split_ands
                 go_at_call 45
                 (first
                  | (with_reducible show Calls _ _ #[.agg #[.slice ga _ _, _], .agg #[.slice qga _ _, _]] _ _
                     refine (eqPr_any (D0 + 1) p q _ _ _ _ _ (PrC.mono (cw_next (by assumption)) HP6.out) (PrC.mono (cw_next (by assumption)) HQ6.out)).mono ?_)
                  | (with_reducible show Calls _ _ #[.agg #[.slice qga _ _, _], .agg #[.slice ga _ _, _]] _ _
                     refine (eqPr_any (D0 + 1) q p _ _ _ _ _ (PrC.mono (cw_next (by assumption)) HQ6.out) (PrC.mono (cw_next (by assumption)) HP6.out)).mono ?_)
                  | (refine (eqPr_any (D0 + 1) p (putPr tneg p) _ _ _ _ _ (PrC.mono (cw_next (by assumption)) HP6.out) HC.out).mono ?_))
                 rintro e w8 ⟨rfl, hb8⟩
                 (first | rw [hE1.out] | rw [hE2.out] | rw [hE3.out])
                 have hq := below_then hb8 (by assumption))
              | (go_split_ands
                 go_at_call 46
                 (first
                  | (with_reducible show Calls _ _ #[.agg #[.slice ga _ _, _], .agg #[.slice qga _ _, _]] _ _
                     refine (reqPr_any (D0 + 1) p q _ _ _ _ _ (PrC.mono (cw_next (by assumption)) HP6.out) (PrC.mono (cw_next (by assumption)) HQ6.out)).mono ?_)
                  | (with_reducible show Calls _ _ #[.agg #[.slice qga _ _, _], .agg #[.slice ga _ _, _]] _ _
                     refine (reqPr_any (D0 + 1) q p _ _ _ _ _ (PrC.mono (cw_next (by assumption)) HQ6.out) (PrC.mono (cw_next (by assumption)) HP6.out)).mono ?_)
                  | (refine (reqPr_any (D0 + 1) p (putPr tneg p) _ _ _ _ _ (PrC.mono (cw_next (by assumption)) HP6.out) HC.out).mono ?_))
                 rintro e w8 ⟨rfl, hb8⟩
                 (first | rw [hE1.out] | rw [hE2.out] | rw [hE3.out])
                 have hq := below_then hb8 (by assumption))
              | (go_split_ands; go_at_call 47; refine (copyP_any D0 p _ _ _ (PrC.mono (cw_next (by assumption)) HP6d.out) HWP.out).mono ?_; rintro e w8 ⟨cg, cp, rfl, hc8, hb8⟩; have HC := Lib.hid (PrC.mono (C := nwC _ w8) (D := cw w8) (fun _ _ _ h => h.2) hc8); clear hc8; have hq := below_then hb8 (by assumption)))
          all_goals
            have HBZ := Lib.hid (HB6.out.trans (hq.mono HB6.out.size))
            clear hq
            go_wp2_with fail
            go_ret
            exact ⟨rfl, HBZ.out⟩
end Go.Proofs.Ytnbclbphggmenaa.Tr
