/- The law EvalSubst, walked: it returns true. Conditions: the arguments lie in memory. -/
import Derived.Test.YtnbclbphggmenaaEvalAllW
import Derived.Test.YtnbclbphggmenaaSubstQ
import Derived.Test.YtnbclbphggmenaaGathS
import Derived.Test.YtnbclbphggmenaaAppA
import Derived.Test.YtnbclbphggmenaaOpen
import Derived.Deep.DeepCutAuto
namespace Go.Proofs.Ytnbclbphggmenaa.Tr
open Go.RowKit Go.Proofs.Ytnbclbphggmenaa.Lx Go.Proofs.Ytnbclbphggmenaa.Wd
theorem infoI64 : (Try.prog.info? 2).map (fun i => (i.zero, i.size, i.bytes)) = some (some (.int .i64 0), 1, 8) := by kernel_rfl
set_option maxHeartbeats 8000000 in
set_option maxRecDepth 100000 in
theorem law_evalSubst {w : World} (dx : Nat) (x : Ex) (kx : Value) (hokx : OkE x) (hkx : ExK dx w kx x.ks) (s : ByteArray) (hs0 : s.size ≤ 9223372036854775807) (n : Int) (hn0 : (Lit.int .i64 n).wf = true)
    (nv : Value) (ns : List ByteArray) (hns : StrsAt w nv ns) (vv : Value) (vs : List Int) (hvs : IntsAt w vv vs) :
    Calls Try.prog 7 #[exV x kx, .string s, .int .i64 n, nv, vv] w fun e w' => e = .returned (.bool true) ∧ Below w.heap.size w w' := by
  have hn := wf_in hn0
  clear hn0
  obtain ⟨ax, cx, rfl, _, _⟩ := hkx.form
  obtain ⟨na, nc, rfl, nh1, nh2⟩ := hns.form
  obtain ⟨va, vc, rfl, vh1, vh2⟩ := hvs.form
  have hbox : Below w.heap.size w (w.alloc (.cells #[.int .i64 x.op, .int .i64 x.n, .string x.nm, .slice ax x.ks.length cx] 24)) := boxed w _
  have HB := Lib.hid hbox
  have HKX := Lib.hid (hkx.next hbox)
  have HNS := Lib.hid (hns.next hbox)
  have HVS := Lib.hid (hvs.next hbox)
  have HOX := Lib.hid hokx
  clear hbox hkx hns hvs hokx
  unfold exV
  go_enter Try.func7, Try.ntmps7
  go_wp2_with fail
  refine (reckoned_any _).mono ?_
  rintro e w1 ⟨rfl, hb⟩
  have p0 := cell_next (g := w.heap.size) (j := 0) (u := .int .i64 x.op) hb (by simp [go_sem])
  have p1 := cell_next (g := w.heap.size) (j := 1) (u := .int .i64 x.n) hb (by simp [go_sem])
  have p2 := cell_next (g := w.heap.size) (j := 2) (u := .string x.nm) hb (by simp [go_sem])
  have p3 := cell_next (g := w.heap.size) (j := 3) (u := .slice ax x.ks.length cx) hb (by simp [go_sem])
  replace HKX := Lib.hid (HKX.out.next hb)
  replace HNS := Lib.hid (HNS.out.next hb)
  replace HVS := Lib.hid (HVS.out.next hb)
  replace HB := Lib.hid (HB.out.trans (hb.mono HB.out.size))
  clear hb
  go_wp2_with fail
  refine (fitsExpr_any dx x _ _ HOX.out HKX.out).mono ?_
  rintro e w2 ⟨bf, -, rfl, hb⟩
  replace p0 := cell_next hb p0
  replace p1 := cell_next hb p1
  replace p2 := cell_next hb p2
  replace p3 := cell_next hb p3
  replace HKX := Lib.hid (HKX.out.next hb)
  replace HNS := Lib.hid (HNS.out.next hb)
  replace HVS := Lib.hid (HVS.out.next hb)
  replace HB := Lib.hid (HB.out.trans (hb.mono HB.out.size))
  clear hb
  cases bf with
  | false =>
    go_wp2_with fail
    go_ret
    exact ⟨rfl, HB.out⟩
  | true =>
    go_upto_region 5 with fail
    go_cut [3, 4] (fun x1 x2 wx => ∃ k1 k2 nn : Nat, k1 ≤ ns.length ∧ k1 ≤ 30 ∧ k2 ≤ 30 ∧ k2 ≤ vs.length ∧ x1 = .slice na k1 nc ∧ x2 = .slice va k2 vc ∧ wx = w2.drewN nn)
    case first =>
      by_cases hn30 : ns.length ≤ 30
      · have hni : (ns.length : Int) ≤ 30 := by omega
        by_cases hv30 : vs.length ≤ 30
        · have hvi : (vs.length : Int) ≤ 30 := by omega
          have r1 := run_cut 25 9 Try.underlying25 1 (fun _ => by kernel_rfl) na ns.length nc ns.length _ rfl (by omega) nh2
          have r2 := run_cut 26 2 Try.underlying26 1 (fun _ => by kernel_rfl) va vs.length vc vs.length _ rfl (by omega) vh2
          go_quiet (fail)
          clear r1 r2
          go_wp2_with fail
          go_meet
          exact ⟨ns.length, vs.length, nq, by omega, by omega, by omega, by omega, rfl, rfl, rfl⟩
        · have hvi : ¬ (vs.length : Int) ≤ 30 := by omega
          have r1 := run_cut 25 9 Try.underlying25 1 (fun _ => by kernel_rfl) na ns.length nc ns.length _ rfl (by omega) nh2
          have r2 := run_cut 26 2 Try.underlying26 1 (fun _ => by kernel_rfl) va vs.length vc 30 _ rfl (by omega) vh2
          go_quiet (fail)
          clear r1 r2
          go_wp2_with fail
          go_meet
          exact ⟨ns.length, 30, nq, by omega, by omega, by omega, by omega, rfl, rfl, rfl⟩
      · have hni : ¬ (ns.length : Int) ≤ 30 := by omega
        by_cases hv30 : vs.length ≤ 30
        · have hvi : (vs.length : Int) ≤ 30 := by omega
          have r1 := run_cut 25 9 Try.underlying25 1 (fun _ => by kernel_rfl) na ns.length nc 30 _ rfl (by omega) nh2
          have r2 := run_cut 26 2 Try.underlying26 1 (fun _ => by kernel_rfl) va vs.length vc vs.length _ rfl (by omega) vh2
          go_quiet (fail)
          clear r1 r2
          go_wp2_with fail
          go_meet
          exact ⟨30, vs.length, nq, by omega, by omega, by omega, by omega, rfl, rfl, rfl⟩
        · have hvi : ¬ (vs.length : Int) ≤ 30 := by omega
          have r1 := run_cut 25 9 Try.underlying25 1 (fun _ => by kernel_rfl) na ns.length nc 30 _ rfl (by omega) nh2
          have r2 := run_cut 26 2 Try.underlying26 1 (fun _ => by kernel_rfl) va vs.length vc 30 _ rfl (by omega) vh2
          go_quiet (fail)
          clear r1 r2
          go_wp2_with fail
          go_meet
          exact ⟨30, 30, nq, by omega, by omega, by omega, by omega, rfl, rfl, rfl⟩
    case rest =>
      obtain ⟨k1, k2, nn, hk1, hk30, hk31, hk2, rfl, rfl, rfl⟩ := hcut
      replace HNS := Lib.hid (HNS.out.take k1 hk1)
      replace HVS := Lib.hid (HVS.out.take k2 hk2)
      have hn30 : (ns.take k1).length ≤ 30 := by simp; omega
      generalize ns.take k1 = ns at *
      have hv30 : (vs.take k2).length ≤ 30 := by simp; omega
      generalize vs.take k2 = vs at *
      replace p0 := cell_next (below_drewN (Below.refl _ _) nn) p0
      replace p1 := cell_next (below_drewN (Below.refl _ _) nn) p1
      replace p2 := cell_next (below_drewN (Below.refl _ _) nn) p2
      replace p3 := cell_next (below_drewN (Below.refl _ _) nn) p3
      replace HKX := Lib.hid (HKX.out.next (below_drewN (Below.refl _ _) nn))
      replace HNS := Lib.hid (HNS.out.next (below_drewN (Below.refl _ _) nn))
      replace HVS := Lib.hid (HVS.out.next (below_drewN (Below.refl _ _) nn))
      replace HB := Lib.hid (HB.out.trans ((below_drewN (Below.refl _ _) nn).mono HB.out.size))
      generalize w2.drewN nn = w3 at *
      obtain ⟨mx, hmx⟩ : ∃ mx, Hid (mayE 20 x = mx) := ⟨_, Lib.hid rfl⟩
      by_cases hneg : n < 0
      · go_wp2_with fail
        go_ret
        exact ⟨rfl, HB.out⟩
      have h0n : (0 : Int) ≤ n := by omega
      go_wp2_with fail
      refine (mayExpr_any dx x _ _ HOX.out HKX.out).mono ?_
      rintro e w9 ⟨rfl, hb⟩
      replace p0 := cell_next hb p0
      replace p1 := cell_next hb p1
      replace p2 := cell_next hb p2
      replace p3 := cell_next hb p3
      replace HKX := Lib.hid (HKX.out.next hb)
      replace HNS := Lib.hid (HNS.out.next hb)
      replace HVS := Lib.hid (HVS.out.next hb)
      replace HB := Lib.hid (HB.out.trans (hb.mono HB.out.size))
      clear hb
      rw [hmx.out]
      cases mx with
      | false =>
        go_wp2_with fail
        go_ret
        exact ⟨rfl, HB.out⟩
      | true =>
        have hlaw := sub_law (s := s) h0n hmx.out ns vs
        obtain ⟨hmy, hlw, hat⟩ := hlaw
        have HMY := Lib.hid hmy
        have HLW := Lib.hid hlw
        have HAT := Lib.hid hat
        obtain ⟨Y, hY⟩ : ∃ Y, Hid (subE s n x = Y) := ⟨_, Lib.hid rfl⟩
        obtain ⟨r1, r2, hR⟩ : ∃ r1 r2, Hid ((if mayE 20 Y then evalE 20 Y ns vs else (0, false)) = (r1, r2)) := ⟨_, _, Lib.hid rfl⟩
        have hkl := may_lim 20 x hmx.out dx
        clear hmy hlw hat
        go_wp2_with fail
        refine (subst_any s n hs0 hn dx x _ _ HOX.out HKX.out hkl).mono ?_
        rintro e w9 ⟨kv, rfl, hok, hk, hb⟩
        rw [hY.out] at hok hk ⊢
        rw [hY.out] at HMY HLW HAT
        rw [hR.out] at HLW
        obtain ⟨ka, kc, rfl, -, -⟩ := hk.form
        have HKY := Lib.hid (ExC.to (ExC.mono only_out hk))
        have HOY := Lib.hid hok
        clear hk hok hkl
        unfold exV
        replace p0 := cell_next hb p0
        replace p1 := cell_next hb p1
        replace p2 := cell_next hb p2
        replace p3 := cell_next hb p3
        replace HKX := Lib.hid (HKX.out.next hb)
        replace HNS := Lib.hid (HNS.out.next hb)
        replace HVS := Lib.hid (HVS.out.next hb)
        replace HB := Lib.hid (HB.out.trans (hb.mono HB.out.size))
        clear hb
        have hmem := boxed w9 (.cells #[.int .i64 Y.op, .int .i64 Y.n, .string Y.nm, .slice ka Y.ks.length kc] 24)
        have HKY2 := Lib.hid (HKY.out.next hmem)
        have HNS2 := Lib.hid (HNS.out.next hmem)
        have HVS2 := Lib.hid (HVS.out.next hmem)
        have HMEM := Lib.hid hmem
        clear hmem
        go_wp2_with fail
        refine (evalOf_any dx Y _ _ _ _ _ _ HOY.out HKY2.out HNS2.out HVS2.out).mono ?_
        rintro e w10 ⟨rfl, -, hb⟩
        rw [hR.out]
        have q0 := cell_next (g := w9.heap.size) (j := 0) (u := .int .i64 Y.op) hb (by simp [go_sem])
        have q1 := cell_next (g := w9.heap.size) (j := 1) (u := .int .i64 Y.n) hb (by simp [go_sem])
        have q2 := cell_next (g := w9.heap.size) (j := 2) (u := .string Y.nm) hb (by simp [go_sem])
        have q3 := cell_next (g := w9.heap.size) (j := 3) (u := .slice ka Y.ks.length kc) hb (by simp [go_sem])
        have hbb := HMEM.out.trans (hb.mono HMEM.out.size)
        replace HKY := Lib.hid (HKY.out.next hbb)
        replace p0 := cell_next hbb p0
        replace p1 := cell_next hbb p1
        replace p2 := cell_next hbb p2
        replace p3 := cell_next hbb p3
        replace HKX := Lib.hid (HKX.out.next hbb)
        replace HNS := Lib.hid (HNS.out.next hbb)
        replace HVS := Lib.hid (HVS.out.next hbb)
        replace HB := Lib.hid (HB.out.trans (hbb.mono HB.out.size))
        clear hb hbb HKY2 HNS2 HVS2 HMEM
        obtain ⟨nk, nz, nnew⟩ := HNS.out.news
        obtain ⟨vk, vz, vnew⟩ := HVS.out.news
        have NNEW := Lib.hid nnew
        have VNEW := Lib.hid vnew
        have NZ := Lib.hid nz
        have VZ := Lib.hid vz
        have NK := Lib.hid nk
        have VK := Lib.hid vk
        have NALL := Lib.hid HNS.out.all
        have VALL := Lib.hid HVS.out.all
        clear nnew vnew nz vz nk vk
        obtain ⟨i0, hi, hz0, hz1, hz2⟩ := info_parts infoStr
        obtain ⟨i1, hi', hz0', hz1', hz2'⟩ := info_parts infoI64
        have hk1 : k1 ≤ 30 := by rw [NK.out]; exact hn30
        have hk2 : k2 ≤ 30 := by rw [VK.out]; exact hv30
        have zn := World.new_ne _ _ p0
        have zl := cell_lt p0
        have nl : (ns.map Value.string).length = k1 * 1 := by rw [List.length_map, Nat.mul_one, NK.out]
        have vl : (vs.map (Value.int .i64)).length = k2 * 1 := by rw [List.length_map, Nat.mul_one, VK.out]
        have NL := Lib.hid nl
        have VL := Lib.hid vl
        clear nl vl
        have P0 := Lib.hid p0
        have P1 := Lib.hid p1
        have P2 := Lib.hid p2
        have P3 := Lib.hid p3
        go_upto_region 10 with fail
        go_region_held3 (fun w' => w'.cell? ⟨w.heap.size, 0, none⟩ = some (.int .i64 x.op) ∧ w'.cell? ⟨w.heap.size, 1, none⟩ = some (.int .i64 x.n) ∧ w'.cell? ⟨w.heap.size, 2, none⟩ = some (.string x.nm) ∧ w'.cell? ⟨w.heap.size, 3, none⟩ = some (.slice ax x.ks.length cx))
          (first
            | exact ⟨cell_next hb7 P0.out, cell_next hb7 P1.out, cell_next hb7 P2.out, cell_next hb7 P3.out⟩
            | exact ⟨cell_next hb5 P0.out, cell_next hb5 P1.out, cell_next hb5 P2.out, cell_next hb5 P3.out⟩
            | exact ⟨cell_next hb4 P0.out, cell_next hb4 P1.out, cell_next hb4 P2.out, cell_next hb4 P3.out⟩
            | go_keep)
          (first
            | (refine step_append_sl _ (by rfl) (.tmp 52) (.tmp 53) _ (by rfl) w10.heap.size 9 i0 (.string ⟨#[]⟩) 1 16 Try.underlying25 hi hz0 hz1 hz2 rfl (by omega) (.slice (some ⟨w10.heap.size, 0, none⟩) 1 1) 1 [.string s] (by rfl) ?_ na k1 nc (ns.map Value.string) (by rfl) NZ.out NL.out ?_ (str_all _) ?_ ?_ ?_ ?_
               · first
                 | exact World.ownsRow_lit w10 #[.string s] 1 (Nat.le_refl _) (by decide) rfl
                 | exact (World.ownsRow_lit w10 #[.string s] 1 (Nat.le_refl _) (by decide) rfl).alloc _
                 | (have h := World.ownsRow_lit (e := 9) (base := w10.heap.size) (size := 1) (w10.alloc (.cells #[.int .i64 n] 2)) #[.string s] 1 (by simp) (by decide) rfl; simp only [World.size_alloc] at h; exact h)
               · first
                 | exact (HNS.out.next (w' := (w10.alloc _).drew) (boxed _ _).drew).news.2.2
                 | exact (HNS.out.next (w' := ((w10.alloc _).alloc _).drew) ((boxed _ _).alloc (by simp) _).drew).news.2.2
               · unfold maxLen; omega
               · omega
               · first | omega | (simp; omega) | simp
               intro va4 vc4 w4 hown4 hg4 hat4
               have hb4 : Below w10.heap.size w10 w4 := by
                 refine Below.grown (w := _) ?_ hg4 ?_ ?_
                 · first | exact (boxed _ _).drew | exact ((boxed _ _).alloc (by simp) _).drew
                 · first | omega | (simp; omega) | simp
                 · intro q hq; have hqq : w10.heap.size = q := by { simpa [Value.ownBlock] using hq }; omega
               have hlt4 : ∀ g, (Value.slice va4 (1 + k1) vc4).ownBlock = some g → g < w4.heap.size ∧ (g = w10.heap.size ∨ w10.heap.size + 1 ≤ g) := fun g hg => by
                 refine ⟨(hown4.lt g hg).2, ?_⟩
                 rcases hat4 g hg with h | h
                 · left; simpa [Value.ownBlock] using h.symm
                 · right; simp at h <;> omega
               have zn4 := World.new_ne _ _ (cell_next hb4 P0.out)
               have zl4 := cell_lt (cell_next hb4 P0.out))
            | (refine step_append_sl _ (by rfl) (.tmp 52) (.tmp 53) _ (by rfl) w10.heap.size 9 i0 (.string ⟨#[]⟩) 1 16 Try.underlying25 hi hz0 hz1 hz2 rfl (by omega) (.slice (some ⟨w10.heap.size + 1, 0, none⟩) 1 1) 1 [.string s] (by rfl) ?_ na k1 nc (ns.map Value.string) (by rfl) NZ.out NL.out ?_ (str_all _) ?_ ?_ ?_ ?_
               · first
                 | exact World.ownsRow_lit w10 #[.string s] 1 (Nat.le_refl _) (by decide) rfl
                 | exact (World.ownsRow_lit w10 #[.string s] 1 (Nat.le_refl _) (by decide) rfl).alloc _
                 | (have h := World.ownsRow_lit (e := 9) (base := w10.heap.size) (size := 1) (w10.alloc (.cells #[.int .i64 n] 2)) #[.string s] 1 (by simp) (by decide) rfl; simp only [World.size_alloc] at h; exact h)
               · first
                 | exact (HNS.out.next (w' := (w10.alloc _).drew) (boxed _ _).drew).news.2.2
                 | exact (HNS.out.next (w' := ((w10.alloc _).alloc _).drew) ((boxed _ _).alloc (by simp) _).drew).news.2.2
               · unfold maxLen; omega
               · omega
               · first | omega | (simp; omega) | simp
               intro va4 vc4 w4 hown4 hg4 hat4
               have hb4 : Below w10.heap.size w10 w4 := by
                 refine Below.grown (w := _) ?_ hg4 ?_ ?_
                 · first | exact (boxed _ _).drew | exact ((boxed _ _).alloc (by simp) _).drew
                 · first | omega | (simp; omega) | simp
                 · intro q hq; have hqq : w10.heap.size + 1 = q := by { simpa [Value.ownBlock] using hq }; omega
               have hlt4 : ∀ g, (Value.slice va4 (1 + k1) vc4).ownBlock = some g → g < w4.heap.size ∧ (g = w10.heap.size + 1 ∨ w10.heap.size + 1 ≤ g) := fun g hg => by
                 refine ⟨(hown4.lt g hg).2, ?_⟩
                 rcases hat4 g hg with h | h
                 · left; simpa [Value.ownBlock] using h.symm
                 · right; simp at h <;> omega
               have zn4 := World.new_ne _ _ (cell_next hb4 P0.out)
               have zl4 := cell_lt (cell_next hb4 P0.out))
            | (refine step_append_sl _ (by rfl) (.tmp 56) (.tmp 57) _ (by rfl) w10.heap.size 2 i1 (.int .i64 0) 1 8 Try.underlying26 hi' hz0' hz1' hz2' rfl (by omega) (.slice (some ⟨w4.heap.size, 0, none⟩) 1 1) 1 [.int .i64 n] (by rfl) ?_ va k2 vc (vs.map (Value.int .i64)) (by rfl) VZ.out VL.out ?_ (int_all _) ?_ ?_ ?_ ?_
               · exact World.ownsRow_lit w4 #[.int .i64 n] 1 hb4.size (by decide) rfl
               · first
                 | exact (HVS.out.next (w' := w4.alloc _) (hb4.trans ((boxed _ _).mono hb4.size))).news.2.2
                 | exact (HVS.out.next (w' := w4) hb4).news.2.2
               · unfold maxLen; omega
               · omega
               · have := hb4.size; first | omega | (simp; omega)
               intro va5 vc5 w5 hown5 hg5 hat5
               have hs4 := hb4.size
               have hb5 : Below w10.heap.size w10 w5 := by
                 refine Below.grown (w := _) ?_ hg5 ?_ ?_
                 · first | exact hb4 | exact hb4.alloc hb4.size _
                 · first | omega | (simp; omega) | simp
                 · intro q hq; have hqq : w4.heap.size = q := by { simpa [Value.ownBlock] using hq }; omega
               have hne5 : (Value.slice va4 (1 + k1) vc4).ownBlock ≠ (Value.slice (some ⟨w4.heap.size, 0, none⟩) 1 1).ownBlock := fun e => by
                 have h1 := hlt4 (w4.heap.size) (e.trans rfl)
                 rcases hat4 (w4.heap.size) (e.trans rfl) with h2 | h2
                 · simp [Value.ownBlock] at h2 <;> omega
                 · simp at h2 <;> omega
               have HSTR : Hid (StrsAt w5 (.slice va4 (1 + k1) vc4) (s :: ns)) := by
                 refine Lib.hid (StrC.to (StrC.mono only_out (strs_owned (B := w10.heap.size) (n := 1 + k1) ?_ ?_ ?_ ?_)))
                 · first
                     | exact (hown4.alloc _).kept hg5 (.inr hne5)
                     | exact hown4.kept hg5 (.inr hne5)
                 · have := NK.out; rw [List.length_cons]; omega
                 · omega
                 · intro t ht
                   rcases List.mem_cons.1 ht with rfl | ht
                   · exact hs0
                   · exact NALL.out t ht
               have HINT : Hid (IntsAt w5 (.slice va5 (1 + k2) vc5) (n :: vs)) := by
                 refine Lib.hid (ints_owned (B := w10.heap.size) (n := 1 + k2) hown5 ?_ ?_ ?_)
                 · have := VK.out; rw [List.length_cons]; omega
                 · omega
                 · intro t ht
                   rcases List.mem_cons.1 ht with rfl | ht
                   · exact hn
                   · exact VALL.out t ht
               have zn5 := World.new_ne _ _ (cell_next hb5 P0.out)
               have zl5 := cell_lt (cell_next hb5 P0.out)
               have HB5 := Lib.hid hb5)
            | (refine step_append_sl _ (by rfl) (.tmp 56) (.tmp 57) _ (by rfl) w10.heap.size 2 i1 (.int .i64 0) 1 8 Try.underlying26 hi' hz0' hz1' hz2' rfl (by omega) (.slice (some ⟨w10.heap.size + 1, 0, none⟩) 1 1) 1 [.int .i64 n] (by rfl) ?_ va k2 vc (vs.map (Value.int .i64)) (by rfl) VZ.out VL.out ?_ (int_all _) ?_ ?_ ?_ ?_
               · exact lit2 hg4
               · first
                 | exact (HVS.out.next (w' := w4.alloc _) (hb4.trans ((boxed _ _).mono hb4.size))).news.2.2
                 | exact (HVS.out.next (w' := w4) hb4).news.2.2
               · unfold maxLen; omega
               · omega
               · have := hb4.size; first | omega | (simp; omega)
               intro va5 vc5 w5 hown5 hg5 hat5
               have hs4 := hb4.size
               have hb5 : Below w10.heap.size w10 w5 := by
                 refine Below.grown (w := _) ?_ hg5 ?_ ?_
                 · first | exact hb4 | exact hb4.alloc hb4.size _
                 · first | omega | (simp; omega) | simp
                 · intro q hq; have hqq : w10.heap.size + 1 = q := by { simpa [Value.ownBlock] using hq }; omega
               have hne5 : (Value.slice va4 (1 + k1) vc4).ownBlock ≠ (Value.slice (some ⟨w10.heap.size + 1, 0, none⟩) 1 1).ownBlock := fun e => by
                 have h1 := hlt4 (w10.heap.size + 1) (e.trans rfl)
                 rcases hat4 (w10.heap.size + 1) (e.trans rfl) with h2 | h2
                 · simp [Value.ownBlock] at h2 <;> omega
                 · simp at h2 <;> omega
               have HSTR : Hid (StrsAt w5 (.slice va4 (1 + k1) vc4) (s :: ns)) := by
                 refine Lib.hid (StrC.to (StrC.mono only_out (strs_owned (B := w10.heap.size) (n := 1 + k1) ?_ ?_ ?_ ?_)))
                 · first
                     | exact (hown4.alloc _).kept hg5 (.inr hne5)
                     | exact hown4.kept hg5 (.inr hne5)
                 · have := NK.out; rw [List.length_cons]; omega
                 · omega
                 · intro t ht
                   rcases List.mem_cons.1 ht with rfl | ht
                   · exact hs0
                   · exact NALL.out t ht
               have HINT : Hid (IntsAt w5 (.slice va5 (1 + k2) vc5) (n :: vs)) := by
                 refine Lib.hid (ints_owned (B := w10.heap.size) (n := 1 + k2) hown5 ?_ ?_ ?_)
                 · have := VK.out; rw [List.length_cons]; omega
                 · omega
                 · intro t ht
                   rcases List.mem_cons.1 ht with rfl | ht
                   · exact hn
                   · exact VALL.out t ht
               have zn5 := World.new_ne _ _ (cell_next hb5 P0.out)
               have zl5 := cell_lt (cell_next hb5 P0.out)
               have HB5 := Lib.hid hb5)
            | (refine step_append_sl _ (by rfl) (.tmp 56) (.tmp 57) _ (by rfl) w10.heap.size 2 i1 (.int .i64 0) 1 8 Try.underlying26 hi' hz0' hz1' hz2' rfl (by omega) (.slice (some ⟨w10.heap.size, 0, none⟩) 1 1) 1 [.int .i64 n] (by rfl) ?_ va k2 vc (vs.map (Value.int .i64)) (by rfl) VZ.out VL.out ?_ (int_all _) ?_ ?_ ?_ ?_
               · exact lit3 hg4
               · first
                 | exact (HVS.out.next (w' := w4.alloc _) (hb4.trans ((boxed _ _).mono hb4.size))).news.2.2
                 | exact (HVS.out.next (w' := w4) hb4).news.2.2
               · unfold maxLen; omega
               · omega
               · have := hb4.size; first | omega | (simp; omega)
               intro va5 vc5 w5 hown5 hg5 hat5
               have hs4 := hb4.size
               have hb5 : Below w10.heap.size w10 w5 := by
                 refine Below.grown (w := _) ?_ hg5 ?_ ?_
                 · first | exact hb4 | exact hb4.alloc hb4.size _
                 · first | omega | (simp; omega) | simp
                 · intro q hq; have hqq : w10.heap.size = q := by { simpa [Value.ownBlock] using hq }; omega
               have hne5 : (Value.slice va4 (1 + k1) vc4).ownBlock ≠ (Value.slice (some ⟨w10.heap.size, 0, none⟩) 1 1).ownBlock := fun e => by
                 have h1 := hlt4 (w10.heap.size) (e.trans rfl)
                 rcases hat4 (w10.heap.size) (e.trans rfl) with h2 | h2
                 · simp [Value.ownBlock] at h2 <;> omega
                 · simp at h2 <;> omega
               have HSTR : Hid (StrsAt w5 (.slice va4 (1 + k1) vc4) (s :: ns)) := by
                 refine Lib.hid (StrC.to (StrC.mono only_out (strs_owned (B := w10.heap.size) (n := 1 + k1) ?_ ?_ ?_ ?_)))
                 · first
                     | exact (hown4.alloc _).kept hg5 (.inr hne5)
                     | exact hown4.kept hg5 (.inr hne5)
                 · have := NK.out; rw [List.length_cons]; omega
                 · omega
                 · intro t ht
                   rcases List.mem_cons.1 ht with rfl | ht
                   · exact hs0
                   · exact NALL.out t ht
               have HINT : Hid (IntsAt w5 (.slice va5 (1 + k2) vc5) (n :: vs)) := by
                 refine Lib.hid (ints_owned (B := w10.heap.size) (n := 1 + k2) hown5 ?_ ?_ ?_)
                 · have := VK.out; rw [List.length_cons]; omega
                 · omega
                 · intro t ht
                   rcases List.mem_cons.1 ht with rfl | ht
                   · exact hn
                   · exact VALL.out t ht
               have zn5 := World.new_ne _ _ (cell_next hb5 P0.out)
               have zl5 := cell_lt (cell_next hb5 P0.out)
               have HB5 := Lib.hid hb5)
            | (go_at_call 20
               refine (evalOf_any dx x _ _ _ _ _ _ HOX.out (HKX.out.next hb5) HSTR.out HINT.out).mono ?_
               rintro e w6 ⟨rfl, -, hb6⟩
               rw [← HLW.out]
               have hb7 : Below w10.heap.size w10 w6 := HB5.out.trans (hb6.mono HB5.out.size)))
        all_goals
          clear p0 p1 p2 p3
          replace q0 := cell_next hb7 q0
          replace q1 := cell_next hb7 q1
          replace q2 := cell_next hb7 q2
          replace q3 := cell_next hb7 q3
          replace HKY := Lib.hid (HKY.out.next hb7)
          replace HB := Lib.hid (HB.out.trans (hb7.mono HB.out.size))
          clear hb4 hb5 hb6 hb7 hown4 hown5 hg4 hg5 hat4 hat5 hlt4 HB5 HSTR HINT zn zl zn4 zl4 zn5 zl5 P0 P1 P2 P3 hne5
          go_wp2_with fail
          refine (mayExpr_any dx Y _ _ HOY.out HKY.out).mono ?_
          rintro e w7 ⟨rfl, hb8⟩
          rw [HMY.out]
          replace q0 := cell_next hb8 q0
          replace q1 := cell_next hb8 q1
          replace q2 := cell_next hb8 q2
          replace q3 := cell_next hb8 q3
          replace HKY := Lib.hid (HKY.out.next hb8)
          replace HB := Lib.hid (HB.out.trans (hb8.mono HB.out.size))
          clear hb8
          have hnm : namesOf Y = namesE 20 Y [] := by unfold namesOf; rw [if_pos HMY.out]
          have HNM := Lib.hid hnm
          clear hnm
          go_wp2_with fail
          refine (names_any dx Y _ _ HOY.out HKY.out).mono ?_
          rintro e w8 ⟨v8, rfl, hr8, hb8⟩
          rw [HNM.out] at hr8
          obtain ⟨va8, n8, vc8, rfl, -⟩ := hr8.form
          have hl8 : (namesE 20 Y []).length ≤ 9223372036854775807 := by have := names_len 20 Y [] HMY.out; rw [List.length_nil] at this; omega
          have HR8 := Lib.hid (hr8.strs hl8)
          replace q0 := cell_next hb8 q0
          replace q1 := cell_next hb8 q1
          replace q2 := cell_next hb8 q2
          replace q3 := cell_next hb8 q3
          replace HKY := Lib.hid (HKY.out.next hb8)
          replace HB := Lib.hid (HB.out.trans (hb8.mono HB.out.size))
          clear hb8 hr8 hl8
          go_wp2_with fail
          refine (in_any (namesE 20 Y []) _ s _ HR8.out).mono ?_
          rintro e w9' ⟨rfl, rfl⟩
          rw [HAT.out]
          go_wp2_with fail
          go_ret
          exact ⟨rfl, HB.out⟩
end Go.Proofs.Ytnbclbphggmenaa.Tr
