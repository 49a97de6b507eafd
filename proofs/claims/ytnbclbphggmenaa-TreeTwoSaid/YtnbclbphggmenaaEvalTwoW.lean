/- The law EvalTwo, walked: it returns true. Conditions: the arguments lie in memory. -/
import Derived.Test.YtnbclbphggmenaaBEval
import Derived.Test.YtnbclbphggmenaaBTr
import Derived.Deep.DeepCutAuto
namespace Go.Proofs.Ytnbclbphggmenaa.Tr
open Go.RowKit Go.Proofs.Ytnbclbphggmenaa.Lx Go.Proofs.Ytnbclbphggmenaa.Wd
theorem ExK.le {w : World} {d e : Nat} {v : Value} {l : List Ex} (h : ExK d w v l) (hde : d ≤ e) : ExK e w v l := ((ExC.of h).le hde).to
theorem exk_pair {W : World} {g D : Nat} {x y : Ex} {kx ky : Value} (ox : OkE x) (oy : OkE y) (hx : ExK D W kx x.ks) (hy : ExK D W ky y.ks)
    (c0 : W.cell? ⟨g, 0, none⟩ = some (.int .i64 x.op)) (c1 : W.cell? ⟨g, 1, none⟩ = some (.int .i64 x.n)) (c2 : W.cell? ⟨g, 2, none⟩ = some (.string x.nm)) (c3 : W.cell? ⟨g, 3, none⟩ = some kx)
    (c4 : W.cell? ⟨g, 4, none⟩ = some (.int .i64 y.op)) (c5 : W.cell? ⟨g, 5, none⟩ = some (.int .i64 y.n)) (c6 : W.cell? ⟨g, 6, none⟩ = some (.string y.nm)) (c7 : W.cell? ⟨g, 7, none⟩ = some ky) :
    ExK (D + 1) W (.slice (some ⟨g, 0, none⟩) 2 2) [x, y] := ⟨_, 2, rfl, Nat.le_refl _, by omega, fun _ => ⟨g, 0, rfl, fun i hi => by
      match i, hi with
      | 0, _ => exact ⟨ox, kx, c0, c1, c2, c3, hx⟩
      | 1, _ => exact ⟨oy, ky, c4, c5, c6, c7, hy⟩⟩⟩
/-- What of two may come out. -/
theorem two_cases {op a b : Int} {ia ib : Bool} {R : Int × Bool} (h : R = if ia = false then (0, false) else if op = 16 ∧ a = 0 then (0, true) else if op = 17 ∧ a ≠ 0 then (1, true) else if ib = false then (0, false) else (twoV op a b, twoB op b)) :
    (ia = false ∧ R = (0, false)) ∨ (ia = true ∧ (op == 16) = true ∧ (a != 0) = false ∧ R = (0, true)) ∨ (ia = true ∧ (op == 16) = false ∧ (op == 17) = true ∧ (a != 0) = true ∧ R = (1, true)) ∨
    (ia = true ∧ ((((op == 16) = true ∧ (op == 17) = false) ∧ (a != 0) = true) ∨ (((op == 16) = false ∧ (op == 17) = true) ∧ (a != 0) = false) ∨ ((op == 16) = false ∧ (op == 17) = false)) ∧ ((ib = false ∧ R = (0, false)) ∨ (ib = true ∧ R = (twoV op a b, twoB op b)))) := by
  cases ia with
  | false => left; exact ⟨rfl, h⟩
  | true =>
    right
    rw [if_neg (by simp)] at h
    by_cases hA : op = 16 ∧ a = 0
    · left
      rw [if_pos hA] at h
      exact ⟨rfl, by simpa using hA.1, by simpa using hA.2, h⟩
    · right
      rw [if_neg hA] at h
      by_cases hC : op = 17 ∧ a ≠ 0
      · left
        rw [if_pos hC] at h
        exact ⟨rfl, by simp; omega, by simpa using hC.1, by simpa using hC.2, h⟩
      · right
        rw [if_neg hC] at h
        refine ⟨rfl, ?_, ?_⟩
        · by_cases h16 : op = 16
          · left
            have : a ≠ 0 := fun e => hA ⟨h16, e⟩
            exact ⟨⟨by simpa using h16, by simp; omega⟩, by simpa using this⟩
          · right
            by_cases h17 : op = 17
            · left
              have : a = 0 := by apply Decidable.byContradiction; intro e; exact hC ⟨h17, e⟩
              exact ⟨⟨by simpa using h16, by simpa using h17⟩, by simpa using this⟩
            · right
              exact ⟨by simpa using h16, by simpa using h17⟩
        · cases ib with
          | false => left; exact ⟨rfl, h⟩
          | true => right; exact ⟨rfl, h⟩
set_option maxHeartbeats 8000000 in
set_option maxRecDepth 100000 in
theorem law_evalTwo {w : World} (op : Int) (hop : (Lit.int .i64 op).wf = true) (dx : Nat) (x : Ex) (kx : Value) (hokx : OkE x) (hkx : ExK dx w kx x.ks) (dy : Nat) (y : Ex) (ky : Value) (hoky : OkE y) (hky : ExK dy w ky y.ks)
    (nv : Value) (ns : List ByteArray) (hns : StrsAt w nv ns) (vv : Value) (vs : List Int) (hvs : IntsAt w vv vs) :
    Calls Try.prog 4 #[.int .i64 op, exV x kx, exV y ky, nv, vv] w fun e w' => e = .returned (.bool true) ∧ Below w.heap.size w w' := by
  obtain ⟨ax, cx, rfl, _, _⟩ := hkx.form
  obtain ⟨ay, cy, rfl, _, _⟩ := hky.form
  obtain ⟨na, nc, rfl, nh1, nh2⟩ := hns.form
  obtain ⟨va, vc, rfl, vh1, vh2⟩ := hvs.form
  have hbox : Below w.heap.size w ((w.alloc (.cells #[.int .i64 x.op, .int .i64 x.n, .string x.nm, .slice ax x.ks.length cx] 24)).alloc (.cells #[.int .i64 y.op, .int .i64 y.n, .string y.nm, .slice ay y.ks.length cy] 24)) := (boxed w _).alloc (by simp) _
  have HB := Lib.hid hbox
  have HKX := Lib.hid (hkx.next hbox)
  have HKY := Lib.hid (hky.next hbox)
  have HNS := Lib.hid (hns.next hbox)
  have HVS := Lib.hid (hvs.next hbox)
  have HOX := Lib.hid hokx
  have HOY := Lib.hid hoky
  have HOP := Lib.hid (wf_in hop)
  clear hbox hkx hky hns hvs hokx hoky hop
  unfold exV
  go_enter Try.func4, Try.ntmps4
  go_wp2_with fail
  refine (reckoned_any _).mono ?_
  rintro e w1 ⟨rfl, hb⟩
  have p0 := cell_next (g := w.heap.size) (j := 0) (u := .int .i64 x.op) hb (by simp [go_sem])
  have p1 := cell_next (g := w.heap.size) (j := 1) (u := .int .i64 x.n) hb (by simp [go_sem])
  have p2 := cell_next (g := w.heap.size) (j := 2) (u := .string x.nm) hb (by simp [go_sem])
  have p3 := cell_next (g := w.heap.size) (j := 3) (u := .slice ax x.ks.length cx) hb (by simp [go_sem])
  have q0 := cell_next (g := w.heap.size + 1) (j := 0) (u := .int .i64 y.op) hb (by simp [go_sem])
  have q1 := cell_next (g := w.heap.size + 1) (j := 1) (u := .int .i64 y.n) hb (by simp [go_sem])
  have q2 := cell_next (g := w.heap.size + 1) (j := 2) (u := .string y.nm) hb (by simp [go_sem])
  have q3 := cell_next (g := w.heap.size + 1) (j := 3) (u := .slice ay y.ks.length cy) hb (by simp [go_sem])
  replace HKX := Lib.hid (HKX.out.next hb)
  replace HKY := Lib.hid (HKY.out.next hb)
  replace HNS := Lib.hid (HNS.out.next hb)
  replace HVS := Lib.hid (HVS.out.next hb)
  replace HB := Lib.hid (HB.out.trans (hb.mono HB.out.size))
  clear hb
  go_wp2_with fail
  refine (fitsExpr_any dx x _ _ HOX.out HKX.out).mono ?_
  rintro e w2 ⟨bf, -, rfl, hb⟩
  replace p0 := cell_next hb p0
  replace p1 := cell_next hb p1
  replace p2 := cell_next hb p2
  replace p3 := cell_next hb p3
  replace q0 := cell_next hb q0
  replace q1 := cell_next hb q1
  replace q2 := cell_next hb q2
  replace q3 := cell_next hb q3
  replace HKX := Lib.hid (HKX.out.next hb)
  replace HKY := Lib.hid (HKY.out.next hb)
  replace HNS := Lib.hid (HNS.out.next hb)
  replace HVS := Lib.hid (HVS.out.next hb)
  replace HB := Lib.hid (HB.out.trans (hb.mono HB.out.size))
  clear hb
  cases bf with
  | false =>
    go_wp2_with fail
    go_ret
    exact ⟨rfl, HB.out⟩
  | true =>
    go_wp2_with fail
    refine (fitsExpr_any dy y _ _ HOY.out HKY.out).mono ?_
    rintro e w3 ⟨bf, -, rfl, hb⟩
    replace p0 := cell_next hb p0
    replace p1 := cell_next hb p1
    replace p2 := cell_next hb p2
    replace p3 := cell_next hb p3
    replace q0 := cell_next hb q0
    replace q1 := cell_next hb q1
    replace q2 := cell_next hb q2
    replace q3 := cell_next hb q3
    replace HKX := Lib.hid (HKX.out.next hb)
    replace HKY := Lib.hid (HKY.out.next hb)
    replace HNS := Lib.hid (HNS.out.next hb)
    replace HVS := Lib.hid (HVS.out.next hb)
    replace HB := Lib.hid (HB.out.trans (hb.mono HB.out.size))
    clear hb
    cases bf with
    | false =>
      go_wp2_with fail
      go_ret
      exact ⟨rfl, HB.out⟩
    | true =>
      go_upto_region 5 with fail
      go_cut [3, 4] (fun x1 x2 wx => ∃ k1 k2 n : Nat, k1 ≤ ns.length ∧ k2 ≤ vs.length ∧ x1 = .slice na k1 nc ∧ x2 = .slice va k2 vc ∧ wx = w3.drewN n)
      case first =>
        by_cases hn30 : ns.length ≤ 30
        · have hni : (ns.length : Int) ≤ 30 := by omega
          by_cases hv30 : vs.length ≤ 30
          · have hvi : (vs.length : Int) ≤ 30 := by omega
            have r1 := run_cut 25 9 Try.underlying25 1 (fun _ => by kernel_rfl) na ns.length nc ns.length _ rfl (by omega) nh2
            have r2 := run_cut 26 2 Try.underlying26 1 (fun _ => by kernel_rfl) va vs.length vc vs.length _ rfl (by omega) vh2
            go_quiet (fail)
            clear r1 r2
            go_wp2_with fail
            go_meet
            exact ⟨ns.length, vs.length, nq, by omega, by omega, rfl, rfl, rfl⟩
          · have hvi : ¬ (vs.length : Int) ≤ 30 := by omega
            have r1 := run_cut 25 9 Try.underlying25 1 (fun _ => by kernel_rfl) na ns.length nc ns.length _ rfl (by omega) nh2
            have r2 := run_cut 26 2 Try.underlying26 1 (fun _ => by kernel_rfl) va vs.length vc 30 _ rfl (by omega) vh2
            go_quiet (fail)
            clear r1 r2
            go_wp2_with fail
            go_meet
            exact ⟨ns.length, 30, nq, by omega, by omega, rfl, rfl, rfl⟩
        · have hni : ¬ (ns.length : Int) ≤ 30 := by omega
          by_cases hv30 : vs.length ≤ 30
          · have hvi : (vs.length : Int) ≤ 30 := by omega
            have r1 := run_cut 25 9 Try.underlying25 1 (fun _ => by kernel_rfl) na ns.length nc 30 _ rfl (by omega) nh2
            have r2 := run_cut 26 2 Try.underlying26 1 (fun _ => by kernel_rfl) va vs.length vc vs.length _ rfl (by omega) vh2
            go_quiet (fail)
            clear r1 r2
            go_wp2_with fail
            go_meet
            exact ⟨30, vs.length, nq, by omega, by omega, rfl, rfl, rfl⟩
          · have hvi : ¬ (vs.length : Int) ≤ 30 := by omega
            have r1 := run_cut 25 9 Try.underlying25 1 (fun _ => by kernel_rfl) na ns.length nc 30 _ rfl (by omega) nh2
            have r2 := run_cut 26 2 Try.underlying26 1 (fun _ => by kernel_rfl) va vs.length vc 30 _ rfl (by omega) vh2
            go_quiet (fail)
            clear r1 r2
            go_wp2_with fail
            go_meet
            exact ⟨30, 30, nq, by omega, by omega, rfl, rfl, rfl⟩
      case rest =>
        obtain ⟨k1, k2, n, hk1, hk2, rfl, rfl, rfl⟩ := hcut
        replace HNS := Lib.hid (HNS.out.take k1 hk1)
        replace HVS := Lib.hid (HVS.out.take k2 hk2)
        generalize ns.take k1 = ns at *
        generalize vs.take k2 = vs at *
        replace p0 := cell_next (below_drewN (Below.refl _ _) n) p0
        replace p1 := cell_next (below_drewN (Below.refl _ _) n) p1
        replace p2 := cell_next (below_drewN (Below.refl _ _) n) p2
        replace p3 := cell_next (below_drewN (Below.refl _ _) n) p3
        replace q0 := cell_next (below_drewN (Below.refl _ _) n) q0
        replace q1 := cell_next (below_drewN (Below.refl _ _) n) q1
        replace q2 := cell_next (below_drewN (Below.refl _ _) n) q2
        replace q3 := cell_next (below_drewN (Below.refl _ _) n) q3
        replace HKX := Lib.hid (HKX.out.next (below_drewN (Below.refl _ _) n))
        replace HKY := Lib.hid (HKY.out.next (below_drewN (Below.refl _ _) n))
        replace HNS := Lib.hid (HNS.out.next (below_drewN (Below.refl _ _) n))
        replace HVS := Lib.hid (HVS.out.next (below_drewN (Below.refl _ _) n))
        replace HB := Lib.hid (HB.out.trans ((below_drewN (Below.refl _ _) n).mono HB.out.size))
        generalize w3.drewN n = w4 at *
        have hmem : Below w4.heap.size w4 ((w4.alloc (.cells #[.int .i64 x.op, .int .i64 x.n, .string x.nm, .slice ax x.ks.length cx, .int .i64 y.op, .int .i64 y.n, .string y.nm, .slice ay y.ks.length cy] 24)).alloc (.cells #[.int .i64 op, .int .i64 0, .string ⟨#[]⟩, .slice (some ⟨w4.heap.size, 0, none⟩) 2 2] 24)) := (boxed w4 _).alloc (by simp) _
        have hpair := exk_pair (g := w4.heap.size) HOX.out HOY.out ((HKX.out.le (Nat.le_max_left dx dy)).next hmem) ((HKY.out.le (Nat.le_max_right dx dy)).next hmem) (by simp [go_sem]) (by simp [go_sem]) (by simp [go_sem]) (by simp [go_sem]) (by simp [go_sem]) (by simp [go_sem]) (by simp [go_sem]) (by simp [go_sem])
        have hob : OkE (.mk op 0 ⟨#[]⟩ [x, y]) := ⟨HOP.out, InI_zero, by show (0 : Nat) ≤ _; omega⟩
        have HPR := Lib.hid hpair
        have HOB := Lib.hid hob
        have HNS2 := Lib.hid (HNS.out.next hmem)
        have HVS2 := Lib.hid (HVS.out.next hmem)
        have HMEM := Lib.hid hmem
        clear hpair hob hmem
        obtain ⟨r1, r2, hR⟩ : ∃ r1 r2, Hid ((if mayE 20 (.mk op 0 ⟨#[]⟩ [x, y]) then evalE 20 (.mk op 0 ⟨#[]⟩ [x, y]) ns vs else (0, false)) = (r1, r2)) := ⟨_, _, Lib.hid rfl⟩
        obtain ⟨mb, hm⟩ : ∃ mb, Hid (mayE 20 (.mk op 0 ⟨#[]⟩ [x, y]) = mb) := ⟨_, Lib.hid rfl⟩
        go_wp2_with fail
        refine (evalOf_any (max dx dy + 1) (.mk op 0 ⟨#[]⟩ [x, y]) _ _ _ _ _ _ HOB.out HPR.out HNS2.out HVS2.out).mono ?_
        rintro e w5 ⟨rfl, -, hb⟩
        rw [hR.out]
        have s0 := cell_next (g := w4.heap.size + 1) (j := 0) (u := .int .i64 op) hb (by simp [go_sem])
        have s1 := cell_next (g := w4.heap.size + 1) (j := 1) (u := .int .i64 0) hb (by simp [go_sem])
        have s2 := cell_next (g := w4.heap.size + 1) (j := 2) (u := .string ⟨#[]⟩) hb (by simp [go_sem])
        have s3 := cell_next (g := w4.heap.size + 1) (j := 3) (u := .slice (some ⟨w4.heap.size, 0, none⟩) 2 2) hb (by simp [go_sem])
        have HPR2 := Lib.hid (HPR.out.next hb)
        have hbb := HMEM.out.trans (hb.mono HMEM.out.size)
        replace p0 := cell_next hbb p0
        replace p1 := cell_next hbb p1
        replace p2 := cell_next hbb p2
        replace p3 := cell_next hbb p3
        replace q0 := cell_next hbb q0
        replace q1 := cell_next hbb q1
        replace q2 := cell_next hbb q2
        replace q3 := cell_next hbb q3
        replace HKX := Lib.hid (HKX.out.next hbb)
        replace HKY := Lib.hid (HKY.out.next hbb)
        replace HNS := Lib.hid (HNS.out.next hbb)
        replace HVS := Lib.hid (HVS.out.next hbb)
        replace HB := Lib.hid (HB.out.trans (hbb.mono HB.out.size))
        clear hb hbb HPR HNS2 HVS2 HMEM
        go_wp2_with fail
        refine (mayExpr_any (max dx dy + 1) (.mk op 0 ⟨#[]⟩ [x, y]) _ _ HOB.out HPR2.out).mono ?_
        rintro e w6 ⟨rfl, hb⟩
        rw [hm.out]
        replace p0 := cell_next hb p0
        replace p1 := cell_next hb p1
        replace p2 := cell_next hb p2
        replace p3 := cell_next hb p3
        replace q0 := cell_next hb q0
        replace q1 := cell_next hb q1
        replace q2 := cell_next hb q2
        replace q3 := cell_next hb q3
        replace s0 := cell_next hb s0
        replace s1 := cell_next hb s1
        replace s2 := cell_next hb s2
        replace s3 := cell_next hb s3
        replace HKX := Lib.hid (HKX.out.next hb)
        replace HKY := Lib.hid (HKY.out.next hb)
        replace HNS := Lib.hid (HNS.out.next hb)
        replace HVS := Lib.hid (HVS.out.next hb)
        replace HPR2 := Lib.hid (HPR2.out.next hb)
        replace HB := Lib.hid (HB.out.trans (hb.mono HB.out.size))
        clear hb
        cases mb with
        | false =>
          have hz : (r1, r2) = ((0 : Int), false) := by rw [← hR.out, hm.out]; rfl
          simp only [Prod.mk.injEq] at hz
          obtain ⟨rfl, rfl⟩ := hz
          go_wp2_with fail
          go_ret
          exact ⟨rfl, HB.out⟩
        | true =>
          obtain ⟨hmx, hmy, he⟩ := eval_two ns vs hm.out
          obtain ⟨a, ia, hxa⟩ : ∃ a ia, evalE 20 x ns vs = (a, ia) := ⟨_, _, rfl⟩
          obtain ⟨b, ib, hyb⟩ : ∃ b ib, evalE 20 y ns vs = (b, ib) := ⟨_, _, rfl⟩
          have hRe : (r1, r2) = evalE 20 (.mk op 0 ⟨#[]⟩ [x, y]) ns vs := by rw [← hR.out, hm.out, if_pos rfl]
          rw [hxa, hyb] at he
          have hcs := two_cases (hRe.trans he)
          have HXA : Hid ((if mayE 20 x then evalE 20 x ns vs else (0, false)) = (a, ia)) := Lib.hid (by rw [hmx, if_pos rfl, hxa])
          have HYB : Hid ((if mayE 20 y then evalE 20 y ns vs else (0, false)) = (b, ib)) := Lib.hid (by rw [hmy, if_pos rfl, hyb])
          have HCS := Lib.hid hcs
          clear he hmx hmy hxa hyb hRe hcs hR hm
          go_wp2_with fail
          refine (evalOf_any dx x _ _ _ _ _ _ HOX.out HKX.out HNS.out HVS.out).mono ?_
          rintro e w7 ⟨rfl, hia, hb⟩
          rw [HXA.out] at hia ⊢
          have HIA := Lib.hid hia
          replace p0 := cell_next hb p0
          replace p1 := cell_next hb p1
          replace p2 := cell_next hb p2
          replace p3 := cell_next hb p3
          replace q0 := cell_next hb q0
          replace q1 := cell_next hb q1
          replace q2 := cell_next hb q2
          replace q3 := cell_next hb q3
          replace s0 := cell_next hb s0
          replace s1 := cell_next hb s1
          replace s2 := cell_next hb s2
          replace s3 := cell_next hb s3
          replace HKX := Lib.hid (HKX.out.next hb)
          replace HKY := Lib.hid (HKY.out.next hb)
          replace HNS := Lib.hid (HNS.out.next hb)
          replace HVS := Lib.hid (HVS.out.next hb)
          replace HPR2 := Lib.hid (HPR2.out.next hb)
          replace HB := Lib.hid (HB.out.trans (hb.mono HB.out.size))
          clear hb hia
          go_wp2_with fail
          refine (evalOf_any dy y _ _ _ _ _ _ HOY.out HKY.out HNS.out HVS.out).mono ?_
          rintro e w8 ⟨rfl, hib, hb⟩
          rw [HYB.out] at hib ⊢
          have HIB := Lib.hid hib
          replace p0 := cell_next hb p0
          replace p1 := cell_next hb p1
          replace p2 := cell_next hb p2
          replace p3 := cell_next hb p3
          replace q0 := cell_next hb q0
          replace q1 := cell_next hb q1
          replace q2 := cell_next hb q2
          replace q3 := cell_next hb q3
          replace s0 := cell_next hb s0
          replace s1 := cell_next hb s1
          replace s2 := cell_next hb s2
          replace s3 := cell_next hb s3
          replace HKX := Lib.hid (HKX.out.next hb)
          replace HKY := Lib.hid (HKY.out.next hb)
          replace HNS := Lib.hid (HNS.out.next hb)
          replace HVS := Lib.hid (HVS.out.next hb)
          replace HPR2 := Lib.hid (HPR2.out.next hb)
          replace HB := Lib.hid (HB.out.trans (hb.mono HB.out.size))
          clear hb hib HXA HYB
          rcases HCS.out with ⟨rfl, hz⟩ | ⟨rfl, z1, z2, hz⟩ | ⟨rfl, z1, z3, z2, hz⟩ | ⟨rfl, hD, hE⟩
          · simp only [Prod.mk.injEq] at hz
            obtain ⟨rfl, rfl⟩ := hz
            clear HCS
            go_wp2_with (go_at_call 23; refine (truth_any _ _).mono ?_; rintro e w' ⟨rfl, rfl⟩)
            go_ret
            exact ⟨rfl, HB.out⟩
          · simp only [Prod.mk.injEq] at hz
            obtain ⟨rfl, rfl⟩ := hz
            clear HCS
            go_wp2_with (go_at_call 23; refine (truth_any _ _).mono ?_; rintro e w' ⟨rfl, rfl⟩)
            go_ret
            exact ⟨rfl, HB.out⟩
          · simp only [Prod.mk.injEq] at hz
            obtain ⟨rfl, rfl⟩ := hz
            clear HCS
            go_wp2_with (go_at_call 23; refine (truth_any _ _).mono ?_; rintro e w' ⟨rfl, rfl⟩)
            go_ret
            exact ⟨rfl, HB.out⟩
          · rcases hE with ⟨rfl, hz⟩ | ⟨rfl, hz⟩
            · simp only [Prod.mk.injEq] at hz
              obtain ⟨rfl, rfl⟩ := hz
              clear HCS
              rcases hD with ⟨⟨z1, z2⟩, z3⟩ | ⟨⟨z1, z2⟩, z3⟩ | ⟨z1, z2⟩
              all_goals
                go_wp2_with (go_at_call 23; refine (truth_any _ _).mono ?_; rintro e w' ⟨rfl, rfl⟩)
                go_ret
                exact ⟨rfl, HB.out⟩
            · simp only [Prod.mk.injEq] at hz
              obtain ⟨rfl, rfl⟩ := hz
              clear HCS
              rcases hD with ⟨⟨z1, z2⟩, z3⟩ | ⟨⟨z1, z2⟩, z3⟩ | ⟨z1, z2⟩
              all_goals
                go_wp2_with (first | (go_at_call 23; refine (truth_any _ _).mono ?_; rintro e w' ⟨rfl, rfl⟩) | (go_at_call 24; refine (two_any _ _ _ _ HIA.out HIB.out).mono ?_; rintro e w' ⟨rfl, rfl⟩))
                go_ret
                exact ⟨rfl, HB.out⟩
end Go.Proofs.Ytnbclbphggmenaa.Tr
