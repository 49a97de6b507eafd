/- The law TreeExpr, walked: it returns true. Conditions: the arguments lie in memory. -/
import Derived.Test.YtnbclbphggmenaaBTreed
import Derived.Test.YtnbclbphggmenaaBMay
import Derived.Test.YtnbclbphggmenaaBEval
import Derived.Test.YtnbclbphggmenaaBTr
import Derived.Deep.DeepCutAuto
import Derived.Deep.RegionHeld3
namespace Go.Proofs.Ytnbclbphggmenaa.Tr
open Go.RowKit Go.Proofs.Ytnbclbphggmenaa.Lx Go.Proofs.Ytnbclbphggmenaa.Wd
theorem namesOf_len (x : Ex) : (namesOf x).length ≤ 1048576 := by
  unfold namesOf
  split
  · have h2 := names_len 20 x [] (by assumption)
    simp at h2
    omega
  · simp
theorem below_then {a b c : World} (h2 : Below b.heap.size b c) (h1 : Below a.heap.size a b) : Below a.heap.size a c := h1.trans (h2.mono h1.size)
set_option maxHeartbeats 4000000 in
set_option maxRecDepth 100000 in
theorem law_treeExpr {w : World} (dx : Nat) (x : Ex) (kx : Value) (hokx : OkE x) (hkx : ExK dx w kx x.ks) :
    Calls Try.prog 8 #[exV x kx] w fun e w' => e = .returned (.bool true) ∧ Below w.heap.size w w' := by
  obtain ⟨ax, cx, rfl, _, _⟩ := hkx.form
  have hbox : Below w.heap.size w (w.alloc (.cells #[.int .i64 x.op, .int .i64 x.n, .string x.nm, .slice ax x.ks.length cx] 24)) := boxed w _
  have HB := Lib.hid hbox
  have HKX := Lib.hid (hkx.next hbox)
  have HOX := Lib.hid hokx
  obtain ⟨mx, hmx⟩ : ∃ mx, Hid (mayE 20 x = mx) := ⟨_, Lib.hid rfl⟩
  obtain ⟨L, hL⟩ : ∃ L, Hid (namesOf x = L) := ⟨_, Lib.hid rfl⟩
  have HLL : Hid (L.length ≤ 1048576) := Lib.hid (hL.out ▸ namesOf_len x)
  clear hbox hkx hokx
  unfold exV
  go_enter Try.func8, Try.ntmps8
  go_wp2_with fail
  refine (treed_any _).mono ?_
  rintro e w9 ⟨rfl, hb⟩
  have p0 := cell_next (g := w.heap.size) (j := 0) (u := .int .i64 x.op) hb (by simp [go_sem])
  have p1 := cell_next (g := w.heap.size) (j := 1) (u := .int .i64 x.n) hb (by simp [go_sem])
  have p2 := cell_next (g := w.heap.size) (j := 2) (u := .string x.nm) hb (by simp [go_sem])
  have p3 := cell_next (g := w.heap.size) (j := 3) (u := .slice ax x.ks.length cx) hb (by simp [go_sem])
  replace HKX := Lib.hid (HKX.out.next hb)
  replace HB := Lib.hid (HB.out.trans (hb.mono HB.out.size))
  clear hb
  go_wp2_with fail
  refine (fitsExpr_any dx x _ _ HOX.out HKX.out).mono ?_
  rintro e w9 ⟨bf, -, rfl, hb⟩
  replace p0 := cell_next hb p0
  replace p1 := cell_next hb p1
  replace p2 := cell_next hb p2
  replace p3 := cell_next hb p3
  replace HKX := Lib.hid (HKX.out.next hb)
  replace HB := Lib.hid (HB.out.trans (hb.mono HB.out.size))
  clear hb
  cases bf with
  | false =>
    go_wp2_with fail
    go_ret
    exact ⟨rfl, HB.out⟩
  | true =>
    have hmm : (mx == mx) = true := by simp
    have hq : Below w9.heap.size w9 w9.drew := (Below.refl _ _).drew
    have Hp0 := Lib.hid p0
    have Hp1 := Lib.hid p1
    have Hp2 := Lib.hid p2
    have Hp3 := Lib.hid p3
    go_upto_region 5 with fail
    go_region_held3 (fun w' => w'.cell? ⟨w.heap.size, 0, none⟩ = some (.int .i64 x.op) ∧ w'.cell? ⟨w.heap.size, 1, none⟩ = some (.int .i64 x.n) ∧ w'.cell? ⟨w.heap.size, 2, none⟩ = some (.string x.nm) ∧ w'.cell? ⟨w.heap.size, 3, none⟩ = some (.slice ax x.ks.length cx) ∧ Below w9.heap.size w9 w')
      (exact ⟨cell_next hq Hp0.out, cell_next hq Hp1.out, cell_next hq Hp2.out, cell_next hq Hp3.out, hq⟩)
      (first
        | (go_split_ands; go_at_call 22; refine (mayExpr_any dx x _ _ HOX.out (HKX.out.next (by assumption))).mono ?_; rintro e w8 ⟨rfl, hb8⟩; rw [hmx.out]; have hq := below_then hb8 (by assumption))
        | (go_split_ands; go_at_call 31; refine (rmayExpr_any dx x _ _ HOX.out (HKX.out.next (by assumption))).mono ?_; rintro e w8 ⟨rfl, hb8⟩; rw [hmx.out]; have hq := below_then hb8 (by assumption))
        | (go_split_ands; go_at_call 27; refine (names_any dx x _ _ HOX.out (HKX.out.next (by assumption))).mono ?_; rintro e w8 ⟨v8, rfl, hr8, hb8⟩; rw [hL.out] at hr8; obtain ⟨la, lc, rfl⟩ := ownsForm hr8.1; have HL1 := Lib.hid (hr8.strs (Nat.le_trans HLL.out (by omega))); clear hr8; have hq := below_then hb8 (by assumption))
        | (go_split_ands; go_at_call 33; refine (rnames_any dx x _ _ HOX.out (HKX.out.next (by assumption))).mono ?_; rintro e w8 ⟨v7, rfl, hr7, hb8⟩; rw [hL.out] at hr7; obtain ⟨ma, mc, rfl⟩ := ownsForm hr7.1; have HL2 := Lib.hid (hr7.strs (Nat.le_trans HLL.out (by omega))); have HL3 := Lib.hid (HL1.out.next hb8); clear hr7; have hq := below_then hb8 (by assumption))
        | (go_split_ands; go_at_call 32; refine (eqTexts_any L L _ _ _ HL3.out HL2.out).mono ?_; rintro e w8 ⟨rfl, hb8⟩; rw [eqT_same]; have hq := below_then hb8 (by assumption)))
    all_goals
      replace p0 := cell_next hq p0
      replace p1 := cell_next hq p1
      replace p2 := cell_next hq p2
      replace p3 := cell_next hq p3
      replace HKX := Lib.hid (HKX.out.next hq)
      replace HB := Lib.hid (HB.out.trans (hq.mono HB.out.size))
      clear hq
      clear Hp0
      clear Hp1
      clear Hp2
      clear Hp3
      go_wp2_with fail
      go_ret
      exact ⟨rfl, HB.out⟩
end Go.Proofs.Ytnbclbphggmenaa.Tr
