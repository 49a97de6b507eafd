/- The law EvalAll, walked: it returns true. Conditions: the arguments lie in memory. -/
import Derived.Test.YtnbclbphggmenaaReckW
import Derived.Test.YtnbclbphggmenaaWeighW
import Derived.RegionTactic
import Derived.Deep.QuietTactic
import Derived.BigQuiet
namespace Go.Proofs.Ytnbclbphggmenaa.Tr
open Go.RowKit Go.Proofs.Ytnbclbphggmenaa.Lx Go.Proofs.Ytnbclbphggmenaa.Wd
theorem StrsAt.take {w : World} {a : Option Addr} {n cap : Nat} {l : List ByteArray} (h : StrsAt w (.slice a n cap) l) (k : Nat) (hk : k ≤ l.length) : StrsAt w (.slice a k cap) (l.take k) := by
  obtain ⟨a', c, hv, h2, h3, h4⟩ := h
  simp only [Value.slice.injEq] at hv
  obtain ⟨rfl, rfl, rfl⟩ := hv
  refine ⟨_, cap, by rw [List.length_take, Nat.min_eq_left hk], by rw [List.length_take]; omega, h3, fun hne => ?_⟩
  have hne2 : l ≠ [] := by intro h; rw [h] at hne; simp at hne
  obtain ⟨g', off', h5, h6⟩ := h4 hne2
  refine ⟨g', off', h5, fun i hi => ?_⟩
  rw [List.length_take] at hi
  rw [List.getElem_take]
  exact h6 i (by omega)
theorem IntsAt.take {w : World} {a : Option Addr} {n cap : Nat} {l : List Int} (h : IntsAt w (.slice a n cap) l) (k : Nat) (hk : k ≤ l.length) : IntsAt w (.slice a k cap) (l.take k) := by
  obtain ⟨a', c, hv, h2, h3, h4⟩ := h
  simp only [Value.slice.injEq] at hv
  obtain ⟨rfl, rfl, rfl⟩ := hv
  refine ⟨_, cap, by rw [List.length_take, Nat.min_eq_left hk], by rw [List.length_take]; omega, h3, fun hne => ?_⟩
  have hne2 : l ≠ [] := by intro h; rw [h] at hne; simp at hne
  obtain ⟨g', off', h5, h6⟩ := h4 hne2
  refine ⟨g', off', h5, fun i hi => ?_⟩
  rw [List.length_take] at hi
  rw [List.getElem_take]
  exact h6 i (by omega)
/-- A slice cut to its first elements. -/
theorem run_cut (T e : TypeId) (hT : Try.prog.underlying T = some (.slice e)) (sz : Nat) (hs : ∀ w, (sizeOf e).run Try.prog w = .ok sz w) (a : Option Addr) (n cap k : Nat) (z : Int) (hz : z = k) (hk : k ≤ cap) (_hc : cap ≤ 9223372036854775807) (w : World) :
    (Instr.slice T (.slice a n cap) none (some (.int .i64 z)) none).run Try.prog w = .ok (.slice a k cap) w := by
  subst hz
  cases a with
  | none => simp [go_sem, hT, hs, hk]
  | some a => simp [go_sem, hT, hs, hk]
set_option maxHeartbeats 4000000 in
set_option maxRecDepth 100000 in
theorem law_evalAll {w : World} (d : Nat) (x : Ex) (kv : Value) (hok : OkE x) (hk : ExK d w kv x.ks) (nv : Value) (ns : List ByteArray) (hns : StrsAt w nv ns) (vv : Value) (vs : List Int) (hvs : IntsAt w vv vs) :
    Calls Try.prog 3 #[exV x kv, nv, vv] w fun e w' => e = .returned (.bool true) ∧ Below w.heap.size w w' := by
  obtain ⟨a, cap, rfl, hc1, hc2⟩ := hk.form
  obtain ⟨na, nc, rfl, nh1, nh2⟩ := hns.form
  obtain ⟨va, vc, rfl, vh1, vh2⟩ := hvs.form
  have hbox := boxed w (.cells #[.int .i64 x.op, .int .i64 x.n, .string x.nm, .slice a x.ks.length cap] 24)
  have HB1 := Lib.hid hbox
  have HK1 := Lib.hid (hk.next hbox)
  have HNS := Lib.hid (hns.next hbox)
  have HVS := Lib.hid (hvs.next hbox)
  have HOK := Lib.hid hok
  clear hbox hk hok hns hvs
  unfold exV
  go_enter Try.func3, Try.ntmps3
  go_wp2_with fail
  refine (reckoned_any _).mono ?_
  rintro e w1 ⟨rfl, hb1⟩
  have c0 := cell_next (g := w.heap.size) (j := 0) (u := .int .i64 x.op) hb1 (by simp [go_sem])
  have c1 := cell_next (g := w.heap.size) (j := 1) (u := .int .i64 x.n) hb1 (by simp [go_sem])
  have c2 := cell_next (g := w.heap.size) (j := 2) (u := .string x.nm) hb1 (by simp [go_sem])
  have c3 := cell_next (g := w.heap.size) (j := 3) (u := .slice a x.ks.length cap) hb1 (by simp [go_sem])
  replace HK1 := Lib.hid (HK1.out.next hb1)
  replace HNS := Lib.hid (HNS.out.next hb1)
  replace HVS := Lib.hid (HVS.out.next hb1)
  replace HB1 := Lib.hid (HB1.out.trans (hb1.mono HB1.out.size))
  clear hb1
  go_wp2_with fail
  refine (fitsExpr_any d x _ _ HOK.out HK1.out).mono ?_
  rintro e w2 ⟨bf, hbf, rfl, hb2⟩
  replace c0 := cell_next hb2 c0
  replace c1 := cell_next hb2 c1
  replace c2 := cell_next hb2 c2
  replace c3 := cell_next hb2 c3
  replace HK1 := Lib.hid (HK1.out.next hb2)
  replace HNS := Lib.hid (HNS.out.next hb2)
  replace HVS := Lib.hid (HVS.out.next hb2)
  replace HB1 := Lib.hid (HB1.out.trans (hb2.mono HB1.out.size))
  clear hb2 hbf
  cases bf with
  | false =>
    go_wp2_with fail
    go_ret
    exact ⟨rfl, HB1.out⟩
  | true =>
    by_cases hn30 : ns.length ≤ 30
    · have hni : (ns.length : Int) ≤ 30 := by omega
      by_cases hv30 : vs.length ≤ 30
      · have hvi : (vs.length : Int) ≤ 30 := by omega
        have r1 := run_cut 25 9 Try.underlying25 1 (fun _ => by kernel_rfl) na ns.length nc ns.length _ rfl (by omega) nh2
        have r2 := run_cut 26 2 Try.underlying26 1 (fun _ => by kernel_rfl) va vs.length vc vs.length _ rfl (by omega) vh2
        go_wp2_with fail
        go_quiet (fail)
        clear r1 r2
        have HN := Lib.hid ((HNS.out.next (below_drewN (Below.refl _ _) nq)).take ns.length (by omega))
        have HV := Lib.hid ((HVS.out.next (below_drewN (Below.refl _ _) nq)).take vs.length (by omega))
        replace HK1 := Lib.hid (HK1.out.next (below_drewN (Below.refl _ _) nq))
        replace HB1 := Lib.hid (below_drewN HB1.out nq)
        replace c0 := cell_next (below_drewN (Below.refl _ _) nq) c0
        replace c1 := cell_next (below_drewN (Below.refl _ _) nq) c1
        replace c2 := cell_next (below_drewN (Below.refl _ _) nq) c2
        replace c3 := cell_next (below_drewN (Below.refl _ _) nq) c3
        obtain ⟨p, q, hpq⟩ : ∃ p q, Hid ((if mayE 20 x then evalE 20 x (ns.take ns.length) (vs.take vs.length) else (0, false)) = (p, q)) := ⟨_, _, Lib.hid rfl⟩
        generalize w2.drewN nq = w9 at *
        go_wp2_with fail
        refine (evalOf_any d x _ _ _ _ _ _ HOK.out HK1.out HN.out HV.out).mono ?_
        rintro e w3 ⟨rfl, -, hb3⟩
        rw [hpq.out]
        replace c0 := cell_next hb3 c0
        replace c1 := cell_next hb3 c1
        replace c2 := cell_next hb3 c2
        replace c3 := cell_next hb3 c3
        replace HK1 := Lib.hid (HK1.out.next hb3)
        replace HN := Lib.hid (HN.out.next hb3)
        replace HV := Lib.hid (HV.out.next hb3)
        replace HB1 := Lib.hid (HB1.out.trans (hb3.mono HB1.out.size))
        clear hb3
        go_wp2_with fail
        refine (rEval_any d x _ _ _ _ _ _ HOK.out HK1.out HN.out HV.out).mono ?_
        rintro e w4 ⟨rfl, -, hb4⟩
        rw [hpq.out]
        replace HB1 := Lib.hid (HB1.out.trans (hb4.mono HB1.out.size))
        clear hb4
        go_wp2_with fail
        go_ret
        exact ⟨rfl, HB1.out⟩
      · have hvi : ¬ (vs.length : Int) ≤ 30 := by omega
        have r1 := run_cut 25 9 Try.underlying25 1 (fun _ => by kernel_rfl) na ns.length nc ns.length _ rfl (by omega) nh2
        have r2 := run_cut 26 2 Try.underlying26 1 (fun _ => by kernel_rfl) va vs.length vc 30 _ rfl (by omega) vh2
        go_wp2_with fail
        go_quiet (fail)
        clear r1 r2
        have HN := Lib.hid ((HNS.out.next (below_drewN (Below.refl _ _) nq)).take ns.length (by omega))
        have HV := Lib.hid ((HVS.out.next (below_drewN (Below.refl _ _) nq)).take 30 (by omega))
        replace HK1 := Lib.hid (HK1.out.next (below_drewN (Below.refl _ _) nq))
        replace HB1 := Lib.hid (below_drewN HB1.out nq)
        replace c0 := cell_next (below_drewN (Below.refl _ _) nq) c0
        replace c1 := cell_next (below_drewN (Below.refl _ _) nq) c1
        replace c2 := cell_next (below_drewN (Below.refl _ _) nq) c2
        replace c3 := cell_next (below_drewN (Below.refl _ _) nq) c3
        obtain ⟨p, q, hpq⟩ : ∃ p q, Hid ((if mayE 20 x then evalE 20 x (ns.take ns.length) (vs.take 30) else (0, false)) = (p, q)) := ⟨_, _, Lib.hid rfl⟩
        generalize w2.drewN nq = w9 at *
        go_wp2_with fail
        refine (evalOf_any d x _ _ _ _ _ _ HOK.out HK1.out HN.out HV.out).mono ?_
        rintro e w3 ⟨rfl, -, hb3⟩
        rw [hpq.out]
        replace c0 := cell_next hb3 c0
        replace c1 := cell_next hb3 c1
        replace c2 := cell_next hb3 c2
        replace c3 := cell_next hb3 c3
        replace HK1 := Lib.hid (HK1.out.next hb3)
        replace HN := Lib.hid (HN.out.next hb3)
        replace HV := Lib.hid (HV.out.next hb3)
        replace HB1 := Lib.hid (HB1.out.trans (hb3.mono HB1.out.size))
        clear hb3
        go_wp2_with fail
        refine (rEval_any d x _ _ _ _ _ _ HOK.out HK1.out HN.out HV.out).mono ?_
        rintro e w4 ⟨rfl, -, hb4⟩
        rw [hpq.out]
        replace HB1 := Lib.hid (HB1.out.trans (hb4.mono HB1.out.size))
        clear hb4
        go_wp2_with fail
        go_ret
        exact ⟨rfl, HB1.out⟩
    · have hni : ¬ (ns.length : Int) ≤ 30 := by omega
      by_cases hv30 : vs.length ≤ 30
      · have hvi : (vs.length : Int) ≤ 30 := by omega
        have r1 := run_cut 25 9 Try.underlying25 1 (fun _ => by kernel_rfl) na ns.length nc 30 _ rfl (by omega) nh2
        have r2 := run_cut 26 2 Try.underlying26 1 (fun _ => by kernel_rfl) va vs.length vc vs.length _ rfl (by omega) vh2
        go_wp2_with fail
        go_quiet (fail)
        clear r1 r2
        have HN := Lib.hid ((HNS.out.next (below_drewN (Below.refl _ _) nq)).take 30 (by omega))
        have HV := Lib.hid ((HVS.out.next (below_drewN (Below.refl _ _) nq)).take vs.length (by omega))
        replace HK1 := Lib.hid (HK1.out.next (below_drewN (Below.refl _ _) nq))
        replace HB1 := Lib.hid (below_drewN HB1.out nq)
        replace c0 := cell_next (below_drewN (Below.refl _ _) nq) c0
        replace c1 := cell_next (below_drewN (Below.refl _ _) nq) c1
        replace c2 := cell_next (below_drewN (Below.refl _ _) nq) c2
        replace c3 := cell_next (below_drewN (Below.refl _ _) nq) c3
        obtain ⟨p, q, hpq⟩ : ∃ p q, Hid ((if mayE 20 x then evalE 20 x (ns.take 30) (vs.take vs.length) else (0, false)) = (p, q)) := ⟨_, _, Lib.hid rfl⟩
        generalize w2.drewN nq = w9 at *
        go_wp2_with fail
        refine (evalOf_any d x _ _ _ _ _ _ HOK.out HK1.out HN.out HV.out).mono ?_
        rintro e w3 ⟨rfl, -, hb3⟩
        rw [hpq.out]
        replace c0 := cell_next hb3 c0
        replace c1 := cell_next hb3 c1
        replace c2 := cell_next hb3 c2
        replace c3 := cell_next hb3 c3
        replace HK1 := Lib.hid (HK1.out.next hb3)
        replace HN := Lib.hid (HN.out.next hb3)
        replace HV := Lib.hid (HV.out.next hb3)
        replace HB1 := Lib.hid (HB1.out.trans (hb3.mono HB1.out.size))
        clear hb3
        go_wp2_with fail
        refine (rEval_any d x _ _ _ _ _ _ HOK.out HK1.out HN.out HV.out).mono ?_
        rintro e w4 ⟨rfl, -, hb4⟩
        rw [hpq.out]
        replace HB1 := Lib.hid (HB1.out.trans (hb4.mono HB1.out.size))
        clear hb4
        go_wp2_with fail
        go_ret
        exact ⟨rfl, HB1.out⟩
      · have hvi : ¬ (vs.length : Int) ≤ 30 := by omega
        have r1 := run_cut 25 9 Try.underlying25 1 (fun _ => by kernel_rfl) na ns.length nc 30 _ rfl (by omega) nh2
        have r2 := run_cut 26 2 Try.underlying26 1 (fun _ => by kernel_rfl) va vs.length vc 30 _ rfl (by omega) vh2
        go_wp2_with fail
        go_quiet (fail)
        clear r1 r2
        have HN := Lib.hid ((HNS.out.next (below_drewN (Below.refl _ _) nq)).take 30 (by omega))
        have HV := Lib.hid ((HVS.out.next (below_drewN (Below.refl _ _) nq)).take 30 (by omega))
        replace HK1 := Lib.hid (HK1.out.next (below_drewN (Below.refl _ _) nq))
        replace HB1 := Lib.hid (below_drewN HB1.out nq)
        replace c0 := cell_next (below_drewN (Below.refl _ _) nq) c0
        replace c1 := cell_next (below_drewN (Below.refl _ _) nq) c1
        replace c2 := cell_next (below_drewN (Below.refl _ _) nq) c2
        replace c3 := cell_next (below_drewN (Below.refl _ _) nq) c3
        obtain ⟨p, q, hpq⟩ : ∃ p q, Hid ((if mayE 20 x then evalE 20 x (ns.take 30) (vs.take 30) else (0, false)) = (p, q)) := ⟨_, _, Lib.hid rfl⟩
        generalize w2.drewN nq = w9 at *
        go_wp2_with fail
        refine (evalOf_any d x _ _ _ _ _ _ HOK.out HK1.out HN.out HV.out).mono ?_
        rintro e w3 ⟨rfl, -, hb3⟩
        rw [hpq.out]
        replace c0 := cell_next hb3 c0
        replace c1 := cell_next hb3 c1
        replace c2 := cell_next hb3 c2
        replace c3 := cell_next hb3 c3
        replace HK1 := Lib.hid (HK1.out.next hb3)
        replace HN := Lib.hid (HN.out.next hb3)
        replace HV := Lib.hid (HV.out.next hb3)
        replace HB1 := Lib.hid (HB1.out.trans (hb3.mono HB1.out.size))
        clear hb3
        go_wp2_with fail
        refine (rEval_any d x _ _ _ _ _ _ HOK.out HK1.out HN.out HV.out).mono ?_
        rintro e w4 ⟨rfl, -, hb4⟩
        rw [hpq.out]
        replace HB1 := Lib.hid (HB1.out.trans (hb4.mono HB1.out.size))
        clear hb4
        go_wp2_with fail
        go_ret
        exact ⟨rfl, HB1.out⟩
end Go.Proofs.Ytnbclbphggmenaa.Tr
