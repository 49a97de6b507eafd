/- The law EvalSwap, walked: it returns true. Conditions: the arguments lie in memory. -/
import Derived.Test.YtnbclbphggmenaaEvalAllW
import Derived.Test.YtnbclbphggmenaaSwapE
import Derived.Test.YtnbclbphggmenaaSwapQ
import Derived.Test.YtnbclbphggmenaaOpen
import Derived.Deep.DeepCutAuto
namespace Go.Proofs.Ytnbclbphggmenaa.Tr
open Go.RowKit Go.Proofs.Ytnbclbphggmenaa.Lx Go.Proofs.Ytnbclbphggmenaa.Wd
set_option maxHeartbeats 8000000 in
set_option maxRecDepth 100000 in
theorem law_evalSwap {w : World} (dx : Nat) (x : Ex) (kx : Value) (hokx : OkE x) (hkx : ExK dx w kx x.ks) (a : ByteArray) (ha : a.size ≤ 9223372036854775807) (b : ByteArray) (hb0 : b.size ≤ 9223372036854775807)
    (nv : Value) (ns : List ByteArray) (hns : StrsAt w nv ns) (vv : Value) (vs : List Int) (hvs : IntsAt w vv vs) :
    Calls Try.prog 5 #[exV x kx, .string a, .string b, nv, vv] w fun e w' => e = .returned (.bool true) ∧ Below w.heap.size w w' := by
  obtain ⟨ax, cx, rfl, _, _⟩ := hkx.form
  obtain ⟨na, nc, rfl, nh1, nh2⟩ := hns.form
  obtain ⟨va, vc, rfl, vh1, vh2⟩ := hvs.form
  have hbox : Below w.heap.size w (w.alloc (.cells #[.int .i64 x.op, .int .i64 x.n, .string x.nm, .slice ax x.ks.length cx] 24)) := boxed w _
  have HB := Lib.hid hbox
  have HKX := Lib.hid (hkx.next hbox)
  have HNS := Lib.hid (hns.next hbox)
  have HVS := Lib.hid (hvs.next hbox)
  have HOX := Lib.hid hokx
  clear hbox hkx hns hvs hokx
  unfold exV
  go_enter Try.func5, Try.ntmps5
  go_wp2_with fail
  refine (reckoned_any _).mono ?_
  rintro e w1 ⟨rfl, hb⟩
  have p0 := cell_next (g := w.heap.size) (j := 0) (u := .int .i64 x.op) hb (by simp [go_sem])
  have p1 := cell_next (g := w.heap.size) (j := 1) (u := .int .i64 x.n) hb (by simp [go_sem])
  have p2 := cell_next (g := w.heap.size) (j := 2) (u := .string x.nm) hb (by simp [go_sem])
  have p3 := cell_next (g := w.heap.size) (j := 3) (u := .slice ax x.ks.length cx) hb (by simp [go_sem])
  replace HKX := Lib.hid (HKX.out.next hb)
  replace HNS := Lib.hid (HNS.out.next hb)
  replace HVS := Lib.hid (HVS.out.next hb)
  replace HB := Lib.hid (HB.out.trans (hb.mono HB.out.size))
  clear hb
  go_wp2_with fail
  refine (fitsExpr_any dx x _ _ HOX.out HKX.out).mono ?_
  rintro e w2 ⟨bf, -, rfl, hb⟩
  replace p0 := cell_next hb p0
  replace p1 := cell_next hb p1
  replace p2 := cell_next hb p2
  replace p3 := cell_next hb p3
  replace HKX := Lib.hid (HKX.out.next hb)
  replace HNS := Lib.hid (HNS.out.next hb)
  replace HVS := Lib.hid (HVS.out.next hb)
  replace HB := Lib.hid (HB.out.trans (hb.mono HB.out.size))
  clear hb
  cases bf with
  | false =>
    go_wp2_with fail
    go_ret
    exact ⟨rfl, HB.out⟩
  | true =>
    go_upto_region 5 with fail
    go_cut [3, 4] (fun x1 x2 wx => ∃ k1 k2 n : Nat, k1 ≤ ns.length ∧ k1 ≤ 30 ∧ k2 ≤ vs.length ∧ x1 = .slice na k1 nc ∧ x2 = .slice va k2 vc ∧ wx = w2.drewN n)
    case first =>
      by_cases hn30 : ns.length ≤ 30
      · have hni : (ns.length : Int) ≤ 30 := by omega
        by_cases hv30 : vs.length ≤ 30
        · have hvi : (vs.length : Int) ≤ 30 := by omega
          have r1 := run_cut 25 9 Try.underlying25 1 (fun _ => by kernel_rfl) na ns.length nc ns.length _ rfl (by omega) nh2
          have r2 := run_cut 26 2 Try.underlying26 1 (fun _ => by kernel_rfl) va vs.length vc vs.length _ rfl (by omega) vh2
          go_quiet (fail)
          clear r1 r2
          go_wp2_with fail
          go_meet
          exact ⟨ns.length, vs.length, nq, by omega, by omega, by omega, rfl, rfl, rfl⟩
        · have hvi : ¬ (vs.length : Int) ≤ 30 := by omega
          have r1 := run_cut 25 9 Try.underlying25 1 (fun _ => by kernel_rfl) na ns.length nc ns.length _ rfl (by omega) nh2
          have r2 := run_cut 26 2 Try.underlying26 1 (fun _ => by kernel_rfl) va vs.length vc 30 _ rfl (by omega) vh2
          go_quiet (fail)
          clear r1 r2
          go_wp2_with fail
          go_meet
          exact ⟨ns.length, 30, nq, by omega, by omega, by omega, rfl, rfl, rfl⟩
      · have hni : ¬ (ns.length : Int) ≤ 30 := by omega
        by_cases hv30 : vs.length ≤ 30
        · have hvi : (vs.length : Int) ≤ 30 := by omega
          have r1 := run_cut 25 9 Try.underlying25 1 (fun _ => by kernel_rfl) na ns.length nc 30 _ rfl (by omega) nh2
          have r2 := run_cut 26 2 Try.underlying26 1 (fun _ => by kernel_rfl) va vs.length vc vs.length _ rfl (by omega) vh2
          go_quiet (fail)
          clear r1 r2
          go_wp2_with fail
          go_meet
          exact ⟨30, vs.length, nq, by omega, by omega, by omega, rfl, rfl, rfl⟩
        · have hvi : ¬ (vs.length : Int) ≤ 30 := by omega
          have r1 := run_cut 25 9 Try.underlying25 1 (fun _ => by kernel_rfl) na ns.length nc 30 _ rfl (by omega) nh2
          have r2 := run_cut 26 2 Try.underlying26 1 (fun _ => by kernel_rfl) va vs.length vc 30 _ rfl (by omega) vh2
          go_quiet (fail)
          clear r1 r2
          go_wp2_with fail
          go_meet
          exact ⟨30, 30, nq, by omega, by omega, by omega, rfl, rfl, rfl⟩
    case rest =>
      obtain ⟨k1, k2, n, hk1, hk30, hk2, rfl, rfl, rfl⟩ := hcut
      replace HNS := Lib.hid (HNS.out.take k1 hk1)
      replace HVS := Lib.hid (HVS.out.take k2 hk2)
      have hn30 : (ns.take k1).length ≤ 30 := by simp; omega
      generalize ns.take k1 = ns at *
      generalize vs.take k2 = vs at *
      replace p0 := cell_next (below_drewN (Below.refl _ _) n) p0
      replace p1 := cell_next (below_drewN (Below.refl _ _) n) p1
      replace p2 := cell_next (below_drewN (Below.refl _ _) n) p2
      replace p3 := cell_next (below_drewN (Below.refl _ _) n) p3
      replace HKX := Lib.hid (HKX.out.next (below_drewN (Below.refl _ _) n))
      replace HNS := Lib.hid (HNS.out.next (below_drewN (Below.refl _ _) n))
      replace HVS := Lib.hid (HVS.out.next (below_drewN (Below.refl _ _) n))
      replace HB := Lib.hid (HB.out.trans ((below_drewN (Below.refl _ _) n).mono HB.out.size))
      generalize w2.drewN n = w3 at *
      obtain ⟨mx, hmx⟩ : ∃ mx, Hid (mayE 20 x = mx) := ⟨_, Lib.hid rfl⟩
      obtain ⟨ma, hma⟩ : ∃ ma, Hid (mayE 20 (.mk 2 0 a []) = ma) := ⟨_, Lib.hid rfl⟩
      obtain ⟨mb, hmb⟩ : ∃ mb, Hid (mayE 20 (.mk 2 0 b []) = mb) := ⟨_, Lib.hid rfl⟩
      have HOA : Hid (OkE (.mk 2 0 a [])) := Lib.hid ⟨by show InI 2; unfold InI; omega, InI_zero, ha⟩
      have HOB : Hid (OkE (.mk 2 0 b [])) := Lib.hid ⟨by show InI 2; unfold InI; omega, InI_zero, hb0⟩
      go_wp2_with fail
      refine (mayExpr_any dx x _ _ HOX.out HKX.out).mono ?_
      rintro e w9 ⟨rfl, hb⟩
      replace p0 := cell_next hb p0
      replace p1 := cell_next hb p1
      replace p2 := cell_next hb p2
      replace p3 := cell_next hb p3
      replace HKX := Lib.hid (HKX.out.next hb)
      replace HNS := Lib.hid (HNS.out.next hb)
      replace HVS := Lib.hid (HVS.out.next hb)
      replace HB := Lib.hid (HB.out.trans (hb.mono HB.out.size))
      clear hb
      rw [hmx.out]
      cases mx with
      | false =>
        go_wp2_with fail
        go_ret
        exact ⟨rfl, HB.out⟩
      | true =>
        go_wp2_with fail
        refine (mayExpr_any 1 (.mk 2 0 a []) (.slice none 0 0) _ HOA.out (ExK.none 0 _)).mono ?_
        rintro e w9 ⟨rfl, hb⟩
        replace p0 := cell_next hb p0
        replace p1 := cell_next hb p1
        replace p2 := cell_next hb p2
        replace p3 := cell_next hb p3
        replace HKX := Lib.hid (HKX.out.next hb)
        replace HNS := Lib.hid (HNS.out.next hb)
        replace HVS := Lib.hid (HVS.out.next hb)
        replace HB := Lib.hid (HB.out.trans (hb.mono HB.out.size))
        clear hb
        rw [hma.out]
        cases ma with
        | false =>
          go_wp2_with fail
          go_ret
          exact ⟨rfl, HB.out⟩
        | true =>
          go_wp2_with fail
          refine (mayExpr_any 1 (.mk 2 0 b []) (.slice none 0 0) _ HOB.out (ExK.none 0 _)).mono ?_
          rintro e w9 ⟨rfl, hb⟩
          replace p0 := cell_next hb p0
          replace p1 := cell_next hb p1
          replace p2 := cell_next hb p2
          replace p3 := cell_next hb p3
          replace HKX := Lib.hid (HKX.out.next hb)
          replace HNS := Lib.hid (HNS.out.next hb)
          replace HVS := Lib.hid (HVS.out.next hb)
          replace HB := Lib.hid (HB.out.trans (hb.mono HB.out.size))
          clear hb
          rw [hmb.out]
          cases mb with
          | false =>
            go_wp2_with fail
            go_ret
            exact ⟨rfl, HB.out⟩
          | true =>
            have HLAW := Lib.hid (swap_law hma.out hmb.out hmx.out ns vs)
            obtain ⟨r1, r2, hR⟩ : ∃ r1 r2, Hid ((if mayE 20 x then evalE 20 x ns vs else (0, false)) = (r1, r2)) := ⟨_, _, Lib.hid rfl⟩
            go_wp2_with fail
            refine (evalOf_any dx x _ _ _ _ _ _ HOX.out HKX.out HNS.out HVS.out).mono ?_
            rintro e w9 ⟨rfl, -, hb⟩
            replace p0 := cell_next hb p0
            replace p1 := cell_next hb p1
            replace p2 := cell_next hb p2
            replace p3 := cell_next hb p3
            replace HKX := Lib.hid (HKX.out.next hb)
            replace HNS := Lib.hid (HNS.out.next hb)
            replace HVS := Lib.hid (HVS.out.next hb)
            replace HB := Lib.hid (HB.out.trans (hb.mono HB.out.size))
            clear hb
            rw [hR.out]
            go_wp2_with fail
            refine (swapExpr_any a b ha hb0 dx x _ _ HOX.out HKX.out (may_lim 20 x hmx.out dx)).mono ?_
            rintro e w9 ⟨kv, rfl, hok, hk, hb⟩
            obtain ⟨ka, kc, rfl, -, -⟩ := hk.form
            have HK2 := Lib.hid (ExC.to (ExC.mono only_out hk))
            have HOK2 := Lib.hid hok
            clear hk hok
            unfold exV
            replace p0 := cell_next hb p0
            replace p1 := cell_next hb p1
            replace p2 := cell_next hb p2
            replace p3 := cell_next hb p3
            replace HKX := Lib.hid (HKX.out.next hb)
            replace HNS := Lib.hid (HNS.out.next hb)
            replace HVS := Lib.hid (HVS.out.next hb)
            replace HB := Lib.hid (HB.out.trans (hb.mono HB.out.size))
            clear hb
            go_wp2_with fail
            refine (swapTexts_any ns _ a b _ HNS.out (by omega) ha hb0).mono ?_
            rintro e w9 ⟨kv, rfl, hs, hb⟩
            obtain ⟨sa, sc, rfl, -, -⟩ := hs.form
            have hs2 := StrC.to (StrC.mono only_out hs)
            rw [List.length_map] at hs2
            have HS2 := Lib.hid hs2
            replace HK2 := Lib.hid (HK2.out.next hb)
            clear hs hs2
            replace p0 := cell_next hb p0
            replace p1 := cell_next hb p1
            replace p2 := cell_next hb p2
            replace p3 := cell_next hb p3
            replace HKX := Lib.hid (HKX.out.next hb)
            replace HNS := Lib.hid (HNS.out.next hb)
            replace HVS := Lib.hid (HVS.out.next hb)
            replace HB := Lib.hid (HB.out.trans (hb.mono HB.out.size))
            clear hb
            go_wp2_with fail
            refine (evalOf_any dx (mapE (other a b) x) _ _ _ _ _ _ HOK2.out HK2.out HS2.out HVS.out).mono ?_
            rintro e w9 ⟨rfl, -, hb⟩
            rw [HLAW.out, hR.out]
            replace p0 := cell_next hb p0
            replace p1 := cell_next hb p1
            replace p2 := cell_next hb p2
            replace p3 := cell_next hb p3
            replace HKX := Lib.hid (HKX.out.next hb)
            replace HNS := Lib.hid (HNS.out.next hb)
            replace HVS := Lib.hid (HVS.out.next hb)
            replace HB := Lib.hid (HB.out.trans (hb.mono HB.out.size))
            clear hb
            go_wp2_with fail
            go_ret
            exact ⟨rfl, HB.out⟩
end Go.Proofs.Ytnbclbphggmenaa.Tr
