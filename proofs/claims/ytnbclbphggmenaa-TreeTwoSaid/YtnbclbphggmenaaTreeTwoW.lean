/- The law TreeTwo, walked: it returns true. Conditions: the arguments lie in memory. -/
import Derived.Test.YtnbclbphggmenaaTwoP
import Derived.Test.YtnbclbphggmenaaFitsW
import Derived.IntWalk
import Derived.Test.YtnbclbphggmenaaBTreed
import Derived.Deep.DeepCutAuto
import Derived.Deep.RegionHeld3
namespace Go.Proofs.Ytnbclbphggmenaa.Tr
open Go.RowKit Go.Proofs.Ytnbclbphggmenaa.Lx Go.Proofs.Ytnbclbphggmenaa.Wd
theorem names_many (x : Ex) : (namesOf x).length ≤ 1048576 := by
  unfold namesOf
  split
  · have h2 := names_len 20 x [] (by assumption)
    simp at h2
    omega
  · simp
theorem addAll_many (l q : List ByteArray) : (addAll l q).length ≤ l.length + q.length := by
  induction q generalizing l with
  | nil => simp [addAll]
  | cons s r ih =>
    have := ih (addN s l)
    have h2 : (addN s l).length ≤ l.length + 1 := by unfold addN; split <;> simp
    show (addAll (addN s l) r).length ≤ _
    rw [List.length_cons]
    omega
theorem at_take {s : ByteArray} {l : List ByteArray} {j : Nat} (h : j < l.length) : (at_ s (l.take (j + 1))).isSome = ((at_ s (l.take j)).isSome || (l[j].toList == s.toList)) := by
  rw [List.take_succ_eq_append_getElem h]
  unfold at_
  rw [List.findIdx?_append]
  cases hf : List.findIdx? (fun m => s.toList == m.toList) (l.take j) with
  | some i => rfl
  | none =>
    simp only [List.findIdx?_cons, List.findIdx?_nil]
    rw [BEq.comm]
    cases l[j].toList == s.toList <;> rfl
theorem addN_is (s : ByteArray) (l : List ByteArray) : addN s l = if (at_ s l).isSome = true then l else l ++ [s] := by
  unfold addN
  cases at_ s l <;> simp
/-- Two rows of names, apart. -/
def TwoRows (B : Nat) (w : World) (v : Value) (l : List ByteArray) (u : Value) (m : List ByteArray) : Prop := RowS B w v l ∧ RowS B w u m ∧ Apart v u
theorem TwoRows.make {B B1 B2 : Nat} {w1 w2 : World} {v u : Value} {l m : List ByteArray} (h : RowS B1 w1 v l) (hb : Below w1.heap.size w1 w2) (hu : RowS B2 w2 u m) (h12 : w1.heap.size ≤ B2) (hB1 : B ≤ B1) (hB2 : B ≤ B2) : TwoRows B w2 v l u m :=
  ⟨(h.next hb).mono hB1, hu.mono hB2, RowS.after hu fun g hg => by have := (h.lt g hg).2; omega⟩
theorem TwoRows.comm {B : Nat} {w : World} {v u : Value} {l m : List ByteArray} (h : TwoRows B w v l u m) : TwoRows B w u m v l := ⟨h.2.1, h.1, h.2.2.comm⟩
theorem TwoRows.next {B : Nat} {w w' : World} {v u : Value} {l m : List ByteArray} (h : TwoRows B w v l u m) (hb : Below w.heap.size w w') : TwoRows B w' v l u m := ⟨h.1.next hb, h.2.1.next hb, h.2.2⟩
theorem RowS.push {B : Nat} {w w4 : World} {v v4 : Value} {l : List ByteArray} {s : ByteArray} (h : RowS B w v l) (hown : w4.ownsRow B 9 1 v4 (l.length + 1) (l.map Value.string ++ [.string s])) (hs : s.size ≤ 9223372036854775807) : RowS B w4 v4 (l ++ [s]) :=
  ⟨by simpa using hown, fun t ht => by
    rcases List.mem_append.1 ht with ht | ht
    · exact h.2 t ht
    · simp at ht; rw [ht]; exact hs⟩
set_option maxHeartbeats 8000000 in
set_option maxRecDepth 100000 in
theorem law_treeTwo {w : World} (op : Int) (hop : (Lit.int .i64 op).wf = true) (dx : Nat) (x : Ex) (kx : Value) (hokx : OkE x) (hkx : ExK dx w kx x.ks) (dy : Nat) (y : Ex) (ky : Value) (hoky : OkE y) (hky : ExK dy w ky y.ks) :
    Calls Try.prog 10 #[.int .i64 op, exV x kx, exV y ky] w fun e w' => e = .returned (.bool true) ∧ Below w.heap.size w w' := by
  obtain ⟨ax, cx, rfl, _, _⟩ := hkx.form
  obtain ⟨ay, cy, rfl, _, _⟩ := hky.form
  have TX := Lib.hid hkx.tall
  have TY := Lib.hid hky.tall
  have HKX := Lib.hid hkx
  have HKY := Lib.hid hky
  have HOX := Lib.hid hokx
  have HOY := Lib.hid hoky
  have HOP := Lib.hid (wf_in hop)
  have HLX := Lib.hid (names_many x)
  have HLY := Lib.hid (names_many y)
  clear hkx hky hokx hoky hop
  unfold exV
  go_enter Try.func10, Try.ntmps10
  go_upto_region 1 with fail
  refine cut_world (fun wx => Below w.heap.size w wx ∧ BoxAt wx w.heap.size [.int .i64 x.op, .int .i64 x.n, .string x.nm, .slice ax x.ks.length cx] ∧ BoxAt wx (w.heap.size + 1) [.int .i64 y.op, .int .i64 y.n, .string y.nm, .slice ay y.ks.length cy]) ⟨(boxed w _).alloc (by simp) _, (box_new w #[.int .i64 x.op, .int .i64 x.n, .string x.nm, .slice ax x.ks.length cx] 24).next (boxed _ _), box_two w _ #[.int .i64 y.op, .int .i64 y.n, .string y.nm, .slice ay y.ks.length cy] 24⟩ ?_
  rintro w1 ⟨hb, hx, hy⟩
  have HX := Lib.hid hx
  have HY := Lib.hid hy
  replace HKX := Lib.hid (HKX.out.next hb)
  replace HKY := Lib.hid (HKY.out.next hb)
  have HB := Lib.hid hb
  clear hb hx hy
  have p0 := HX.out 0 _ rfl
  have p1 := HX.out 1 _ rfl
  have p2 := HX.out 2 _ rfl
  have p3 := HX.out 3 _ rfl
  have q0 := HY.out 0 _ rfl
  have q1 := HY.out 1 _ rfl
  have q2 := HY.out 2 _ rfl
  have q3 := HY.out 3 _ rfl
  go_wp2_with fail
  refine (treed_any _).mono ?_
  rintro e w9 ⟨rfl, hb⟩
  replace HX := Lib.hid (HX.out.next hb)
  replace HY := Lib.hid (HY.out.next hb)
  replace HKX := Lib.hid (HKX.out.next hb)
  replace HKY := Lib.hid (HKY.out.next hb)
  replace HB := Lib.hid (HB.out.trans (hb.mono HB.out.size))
  clear hb
  clear p0 p1 p2 p3
  clear q0 q1 q2 q3
  have p0 := HX.out 0 _ rfl
  have p1 := HX.out 1 _ rfl
  have p2 := HX.out 2 _ rfl
  have p3 := HX.out 3 _ rfl
  have q0 := HY.out 0 _ rfl
  have q1 := HY.out 1 _ rfl
  have q2 := HY.out 2 _ rfl
  have q3 := HY.out 3 _ rfl
  go_wp2_with fail
  refine (fitsExpr_any dx x _ _ HOX.out HKX.out).mono ?_
  rintro e w9 ⟨b1, -, rfl, hb⟩
  replace HX := Lib.hid (HX.out.next hb)
  replace HY := Lib.hid (HY.out.next hb)
  replace HKX := Lib.hid (HKX.out.next hb)
  replace HKY := Lib.hid (HKY.out.next hb)
  replace HB := Lib.hid (HB.out.trans (hb.mono HB.out.size))
  clear hb
  clear p0 p1 p2 p3
  clear q0 q1 q2 q3
  cases b1 with
  | false =>
    have p0 := HX.out 0 _ rfl
    have p1 := HX.out 1 _ rfl
    have p2 := HX.out 2 _ rfl
    have p3 := HX.out 3 _ rfl
    have q0 := HY.out 0 _ rfl
    have q1 := HY.out 1 _ rfl
    have q2 := HY.out 2 _ rfl
    have q3 := HY.out 3 _ rfl
    go_wp2_with fail
    go_ret
    exact ⟨rfl, HB.out⟩
  | true =>
    have p0 := HX.out 0 _ rfl
    have p1 := HX.out 1 _ rfl
    have p2 := HX.out 2 _ rfl
    have p3 := HX.out 3 _ rfl
    have q0 := HY.out 0 _ rfl
    have q1 := HY.out 1 _ rfl
    have q2 := HY.out 2 _ rfl
    have q3 := HY.out 3 _ rfl
    go_wp2_with fail
    refine (fitsExpr_any dy y _ _ HOY.out HKY.out).mono ?_
    rintro e w9 ⟨b2, -, rfl, hb⟩
    replace HX := Lib.hid (HX.out.next hb)
    replace HY := Lib.hid (HY.out.next hb)
    replace HKX := Lib.hid (HKX.out.next hb)
    replace HKY := Lib.hid (HKY.out.next hb)
    replace HB := Lib.hid (HB.out.trans (hb.mono HB.out.size))
    clear hb
    clear p0 p1 p2 p3
    clear q0 q1 q2 q3
    cases b2 with
    | false =>
      have p0 := HX.out 0 _ rfl
      have p1 := HX.out 1 _ rfl
      have p2 := HX.out 2 _ rfl
      have p3 := HX.out 3 _ rfl
      have q0 := HY.out 0 _ rfl
      have q1 := HY.out 1 _ rfl
      have q2 := HY.out 2 _ rfl
      have q3 := HY.out 3 _ rfl
      go_wp2_with fail
      go_ret
      exact ⟨rfl, HB.out⟩
    | true =>
      have p0 := HX.out 0 _ rfl
      have p1 := HX.out 1 _ rfl
      have p2 := HX.out 2 _ rfl
      have p3 := HX.out 3 _ rfl
      have q0 := HY.out 0 _ rfl
      have q1 := HY.out 1 _ rfl
      have q2 := HY.out 2 _ rfl
      have q3 := HY.out 3 _ rfl
      obtain ⟨m1, hm1⟩ : ∃ m, Hid (mayE 20 x = m) := ⟨_, Lib.hid rfl⟩
      go_wp2_with fail
      refine (mayExpr_any dx x _ _ HOX.out HKX.out).mono ?_
      rintro e w9 ⟨rfl, hb⟩
      rw [hm1.out]
      replace HX := Lib.hid (HX.out.next hb)
      replace HY := Lib.hid (HY.out.next hb)
      replace HKX := Lib.hid (HKX.out.next hb)
      replace HKY := Lib.hid (HKY.out.next hb)
      replace HB := Lib.hid (HB.out.trans (hb.mono HB.out.size))
      clear hb
      clear p0 p1 p2 p3
      clear q0 q1 q2 q3
      cases m1 with
      | false =>
        have p0 := HX.out 0 _ rfl
        have p1 := HX.out 1 _ rfl
        have p2 := HX.out 2 _ rfl
        have p3 := HX.out 3 _ rfl
        have q0 := HY.out 0 _ rfl
        have q1 := HY.out 1 _ rfl
        have q2 := HY.out 2 _ rfl
        have q3 := HY.out 3 _ rfl
        go_wp2_with fail
        go_ret
        exact ⟨rfl, HB.out⟩
      | true =>
        have p0 := HX.out 0 _ rfl
        have p1 := HX.out 1 _ rfl
        have p2 := HX.out 2 _ rfl
        have p3 := HX.out 3 _ rfl
        have q0 := HY.out 0 _ rfl
        have q1 := HY.out 1 _ rfl
        have q2 := HY.out 2 _ rfl
        have q3 := HY.out 3 _ rfl
        obtain ⟨m2, hm2⟩ : ∃ m, Hid (mayE 20 y = m) := ⟨_, Lib.hid rfl⟩
        go_wp2_with fail
        refine (mayExpr_any dy y _ _ HOY.out HKY.out).mono ?_
        rintro e w8 ⟨rfl, hb⟩
        rw [hm2.out]
        replace HX := Lib.hid (HX.out.next hb)
        replace HY := Lib.hid (HY.out.next hb)
        replace HKX := Lib.hid (HKX.out.next hb)
        replace HKY := Lib.hid (HKY.out.next hb)
        replace HB := Lib.hid (HB.out.trans (hb.mono HB.out.size))
        clear hb
        clear p0 p1 p2 p3
        clear q0 q1 q2 q3
        cases m2 with
        | false =>
          have p0 := HX.out 0 _ rfl
          have p1 := HX.out 1 _ rfl
          have p2 := HX.out 2 _ rfl
          have p3 := HX.out 3 _ rfl
          have q0 := HY.out 0 _ rfl
          have q1 := HY.out 1 _ rfl
          have q2 := HY.out 2 _ rfl
          have q3 := HY.out 3 _ rfl
          go_wp2_with fail
          go_ret
          exact ⟨rfl, HB.out⟩
        | true =>
          go_upto_region 7 with fail
          have p0 := HX.out 0 _ rfl
          have p1 := HX.out 1 _ rfl
          have p2 := HX.out 2 _ rfl
          have p3 := HX.out 3 _ rfl
          have q0 := HY.out 0 _ rfl
          have q1 := HY.out 1 _ rfl
          have q2 := HY.out 2 _ rfl
          have q3 := HY.out 3 _ rfl
          go_upto_region 8 with fail
          refine cut_world (fun wx => Below w8.heap.size w8 wx ∧ BoxAt wx (w8.heap.size + 1) [.int .i64 op, .int .i64 0, .string ⟨#[]⟩, .slice (some ⟨w8.heap.size, 0, none⟩) 2 2] ∧ ExK (max dx dy + 1) wx (.slice (some ⟨w8.heap.size, 0, none⟩) 2 2) [x, y]) ⟨(boxed w8 _).alloc (by simp) _, box_two w8 _ #[.int .i64 op, .int .i64 0, .string ⟨#[]⟩, .slice (some ⟨w8.heap.size, 0, none⟩) 2 2] 24, ?_⟩ ?_
          · have hmem : Below w8.heap.size w8 ((w8.alloc (.cells #[.int .i64 x.op, .int .i64 x.n, .string x.nm, .slice ax x.ks.length cx, .int .i64 y.op, .int .i64 y.n, .string y.nm, .slice ay y.ks.length cy] 24)).alloc (.cells #[.int .i64 op, .int .i64 0, .string ⟨#[]⟩, .slice (some ⟨w8.heap.size, 0, none⟩) 2 2] 24)) := (boxed w8 _).alloc (by simp) _
            exact exk_pair (g := w8.heap.size) HOX.out HOY.out ((HKX.out.le (Nat.le_max_left dx dy)).next hmem) ((HKY.out.le (Nat.le_max_right dx dy)).next hmem) (by simp [go_sem]) (by simp [go_sem]) (by simp [go_sem]) (by simp [go_sem]) (by simp [go_sem]) (by simp [go_sem]) (by simp [go_sem]) (by simp [go_sem])
          rintro w2 ⟨hb, hbb, hpr⟩
          have HBB := Lib.hid hbb
          have HPR := Lib.hid hpr
          have HOB : Hid (OkE (.mk op 0 ⟨#[]⟩ [x, y])) := Lib.hid ⟨HOP.out, InI_zero, by show (0 : Nat) ≤ _; omega⟩
          replace HX := Lib.hid (HX.out.next hb)
          replace HY := Lib.hid (HY.out.next hb)
          replace HKX := Lib.hid (HKX.out.next hb)
          replace HKY := Lib.hid (HKY.out.next hb)
          replace HB := Lib.hid (HB.out.trans (hb.mono HB.out.size))
          clear hb hbb hpr
          clear p0 p1 p2 p3
          clear q0 q1 q2 q3
          obtain ⟨A, hA⟩ : ∃ A, Hid (dE 20 x = A) := ⟨_, Lib.hid rfl⟩
          obtain ⟨D, hD⟩ : ∃ D, Hid (dE 20 y = D) := ⟨_, Lib.hid rfl⟩
          have hA21 : A ≤ 21 := by rw [← hA.out]; exact dE_le 20 x
          have hD21 : D ≤ 21 := by rw [← hD.out]; exact dE_le 20 y
          have p0 := HX.out 0 _ rfl
          have p1 := HX.out 1 _ rfl
          have p2 := HX.out 2 _ rfl
          have p3 := HX.out 3 _ rfl
          have q0 := HY.out 0 _ rfl
          have q1 := HY.out 1 _ rfl
          have q2 := HY.out 2 _ rfl
          have q3 := HY.out 3 _ rfl
          have hq : Below w2.heap.size w2 w2.drew := (Below.refl _ _).drew
          have Hp0 := Lib.hid p0
          have Hp1 := Lib.hid p1
          have Hp2 := Lib.hid p2
          have Hp3 := Lib.hid p3
          have Hq0 := Lib.hid q0
          have Hq1 := Lib.hid q1
          have Hq2 := Lib.hid q2
          have Hq3 := Lib.hid q3
          clear p0 p1 p2 p3
          clear q0 q1 q2 q3
          go_cut [8] (fun x8 wx => x8 = .int .i64 ((max A D + 1 : Nat) : Int) ∧ Below w2.heap.size w2 wx)
          case first =>
            have e8 : IntKind.i64.wrap ((max A D : Nat) : Int) = ((max A D : Nat) : Int) := IntWalk.i64_in _ (by omega)
            have e9 : IntKind.i64.wrap ((A : Int) + 1) = (A : Int) + 1 := IntWalk.i64_in _ (by omega)
            have e10 : IntKind.i64.wrap ((D : Int) + 1) = (D : Int) + 1 := IntWalk.i64_in _ (by omega)
            by_cases hAD : A < D
            · have f1 : (A : Int) < (D : Int) := by omega
              have f2 : ¬ (D : Int) < (A : Int) := by omega
              have f3 : max (A : Int) (D : Int) = (D : Int) := by omega
              go_region_held3 (fun w' => w'.cell? ⟨w.heap.size, 0, none⟩ = some (.int .i64 x.op) ∧ w'.cell? ⟨w.heap.size, 1, none⟩ = some (.int .i64 x.n) ∧ w'.cell? ⟨w.heap.size, 2, none⟩ = some (.string x.nm) ∧ w'.cell? ⟨w.heap.size, 3, none⟩ = some (.slice ax x.ks.length cx) ∧ w'.cell? ⟨w.heap.size + 1, 0, none⟩ = some (.int .i64 y.op) ∧ w'.cell? ⟨w.heap.size + 1, 1, none⟩ = some (.int .i64 y.n) ∧ w'.cell? ⟨w.heap.size + 1, 2, none⟩ = some (.string y.nm) ∧ w'.cell? ⟨w.heap.size + 1, 3, none⟩ = some (.slice ay y.ks.length cy) ∧ Below w2.heap.size w2 w')
                (exact ⟨cell_next hq Hp0.out, cell_next hq Hp1.out, cell_next hq Hp2.out, cell_next hq Hp3.out, cell_next hq Hq0.out, cell_next hq Hq1.out, cell_next hq Hq2.out, cell_next hq Hq3.out, hq⟩)
                (first
                  | (go_split_ands
                     go_at_call 37
                     (first
                      | ((with_reducible show Calls _ _ #[.agg #[_, _, _, .slice ax _ _]] _ _)
                         refine (deepX_any dx x _ _ HOX.out (HKX.out.next (by assumption))).mono ?_)
                      | (refine (deepX_any dy y _ _ HOY.out (HKY.out.next (by assumption))).mono ?_))
                     rintro e w7 ⟨rfl, hb7⟩
                     (first | rw [hA.out] | rw [hD.out])
                     have hq := below_then hb7 (by assumption)))
              all_goals
                have HQ := Lib.hid hq
                clear hq
                go_wp2_with fail
                go_meet
                exact ⟨by rw [show ((max A D + 1 : Nat) : Int) = (D : Int) + 1 from by omega], HQ.out⟩
            · have f1 : ¬ (A : Int) < (D : Int) := by omega
              have f3 : max (A : Int) (D : Int) = (A : Int) := by omega
              go_region_held3 (fun w' => w'.cell? ⟨w.heap.size, 0, none⟩ = some (.int .i64 x.op) ∧ w'.cell? ⟨w.heap.size, 1, none⟩ = some (.int .i64 x.n) ∧ w'.cell? ⟨w.heap.size, 2, none⟩ = some (.string x.nm) ∧ w'.cell? ⟨w.heap.size, 3, none⟩ = some (.slice ax x.ks.length cx) ∧ w'.cell? ⟨w.heap.size + 1, 0, none⟩ = some (.int .i64 y.op) ∧ w'.cell? ⟨w.heap.size + 1, 1, none⟩ = some (.int .i64 y.n) ∧ w'.cell? ⟨w.heap.size + 1, 2, none⟩ = some (.string y.nm) ∧ w'.cell? ⟨w.heap.size + 1, 3, none⟩ = some (.slice ay y.ks.length cy) ∧ Below w2.heap.size w2 w')
                (exact ⟨cell_next hq Hp0.out, cell_next hq Hp1.out, cell_next hq Hp2.out, cell_next hq Hp3.out, cell_next hq Hq0.out, cell_next hq Hq1.out, cell_next hq Hq2.out, cell_next hq Hq3.out, hq⟩)
                (first
                  | (go_split_ands
                     go_at_call 37
                     (first
                      | ((with_reducible show Calls _ _ #[.agg #[_, _, _, .slice ax _ _]] _ _)
                         refine (deepX_any dx x _ _ HOX.out (HKX.out.next (by assumption))).mono ?_)
                      | (refine (deepX_any dy y _ _ HOY.out (HKY.out.next (by assumption))).mono ?_))
                     rintro e w7 ⟨rfl, hb7⟩
                     (first | rw [hA.out] | rw [hD.out])
                     have hq := below_then hb7 (by assumption)))
              all_goals
                have HQ := Lib.hid hq
                clear hq
                go_wp2_with fail
                go_meet
                exact ⟨by rw [show ((max A D + 1 : Nat) : Int) = (A : Int) + 1 from by omega], HQ.out⟩
          case rest =>
            rename_i w3
            obtain ⟨rfl, hb⟩ := hcut
            obtain ⟨Z, hZ⟩ : ∃ Z, Hid (max A D + 1 = Z) := ⟨_, Lib.hid rfl⟩
            rw [hZ.out]
            clear hq Hp0 Hp1 Hp2 Hp3 Hq0 Hq1 Hq2 Hq3
            replace HX := Lib.hid (HX.out.next hb)
            replace HY := Lib.hid (HY.out.next hb)
            replace HKX := Lib.hid (HKX.out.next hb)
            replace HKY := Lib.hid (HKY.out.next hb)
            replace HB := Lib.hid (HB.out.trans (hb.mono HB.out.size))
            replace HBB := Lib.hid (HBB.out.next hb)
            replace HPR := Lib.hid (HPR.out.next hb)
            clear hb
            obtain ⟨T, hT⟩ : ∃ T, Hid (twoM op x y = T) := ⟨_, Lib.hid rfl⟩
            have hTM : Hid (mayE 20 (.mk op 0 ⟨#[]⟩ [x, y]) = T) := Lib.hid (by rw [← hT.out]; exact may_two TX.out TY.out hm1.out hm2.out)
            have r0 := HBB.out 0 _ rfl
            have r1 := HBB.out 1 _ rfl
            have r2 := HBB.out 2 _ rfl
            have r3 := HBB.out 3 _ rfl
            go_wp2_with fail
            refine (mayExpr_any (max dx dy + 1) (.mk op 0 ⟨#[]⟩ [x, y]) _ _ HOB.out HPR.out).mono ?_
            rintro e w4 ⟨rfl, hb⟩
            rw [hTM.out]
            replace HX := Lib.hid (HX.out.next hb)
            replace HY := Lib.hid (HY.out.next hb)
            replace HKX := Lib.hid (HKX.out.next hb)
            replace HKY := Lib.hid (HKY.out.next hb)
            replace HB := Lib.hid (HB.out.trans (hb.mono HB.out.size))
            replace HBB := Lib.hid (HBB.out.next hb)
            replace HPR := Lib.hid (HPR.out.next hb)
            clear hb
            clear r0 r1 r2 r3
            by_cases g1 : 5 ≤ op
            case neg =>
              obtain rfl : T = false := by rw [← hT.out]; unfold twoM; rw [decide_eq_false g1]; rfl
              have z1 : decide (5 ≤ op) = false := decide_eq_false g1
              have p0 := HX.out 0 _ rfl
              have p1 := HX.out 1 _ rfl
              have p2 := HX.out 2 _ rfl
              have p3 := HX.out 3 _ rfl
              have q0 := HY.out 0 _ rfl
              have q1 := HY.out 1 _ rfl
              have q2 := HY.out 2 _ rfl
              have q3 := HY.out 3 _ rfl
              have r0 := HBB.out 0 _ rfl
              have r1 := HBB.out 1 _ rfl
              have r2 := HBB.out 2 _ rfl
              have r3 := HBB.out 3 _ rfl
              have HB4S := Lib.hid HB.out.size
              obtain ⟨L, hL⟩ : ∃ L, Hid (namesOf x = L) := ⟨_, Lib.hid rfl⟩
              obtain ⟨M, hM⟩ : ∃ M, Hid (namesOf (.mk op 0 ⟨#[]⟩ [x, y]) = M) := ⟨_, Lib.hid rfl⟩
              have hq : Below w4.heap.size w4 w4.drew := (Below.refl _ _).drew
              have Hp0 := Lib.hid p0
              have Hp1 := Lib.hid p1
              have Hp2 := Lib.hid p2
              have Hp3 := Lib.hid p3
              have Hr0 := Lib.hid r0
              have Hr1 := Lib.hid r1
              have Hr2 := Lib.hid r2
              have Hr3 := Lib.hid r3
              clear p0 p1 p2 p3
              clear q0 q1 q2 q3
              clear r0 r1 r2 r3
              go_upto_region 11 with fail
              go_region_held3 (fun w' => w'.cell? ⟨w.heap.size, 0, none⟩ = some (.int .i64 x.op) ∧ w'.cell? ⟨w.heap.size, 1, none⟩ = some (.int .i64 x.n) ∧ w'.cell? ⟨w.heap.size, 2, none⟩ = some (.string x.nm) ∧ w'.cell? ⟨w.heap.size, 3, none⟩ = some (.slice ax x.ks.length cx) ∧ w'.cell? ⟨w8.heap.size + 1, 0, none⟩ = some (.int .i64 op) ∧ w'.cell? ⟨w8.heap.size + 1, 1, none⟩ = some (.int .i64 0) ∧ w'.cell? ⟨w8.heap.size + 1, 2, none⟩ = some (.string ⟨#[]⟩) ∧ w'.cell? ⟨w8.heap.size + 1, 3, none⟩ = some (.slice (some ⟨w8.heap.size, 0, none⟩) 2 2) ∧ Below w4.heap.size w4 w')
                (exact ⟨cell_next hq Hp0.out, cell_next hq Hp1.out, cell_next hq Hp2.out, cell_next hq Hp3.out, cell_next hq Hr0.out, cell_next hq Hr1.out, cell_next hq Hr2.out, cell_next hq Hr3.out, hq⟩)
                (first
                  | (go_split_ands
                     go_at_call 27
                     (first
                      | ((with_reducible show Calls _ _ #[.agg #[_, _, _, .slice ax _ _]] _ _)
                         refine (names_any dx x _ _ HOX.out (HKX.out.next (by assumption))).mono ?_
                         rintro e w7 ⟨v7, rfl, hr7, hb7⟩
                         rw [hL.out] at hr7
                         obtain ⟨la, lc, rfl⟩ := ownsForm hr7.1
                         (first
                          | have HTW := Lib.hid (TwoRows.comm (TwoRows.make (B := w4.heap.size) HMR.out hb7 hr7 (Nat.le_refl _) (HQM.out.size) (hq.size)))
                          | (have HLR := Lib.hid hr7
                             have HQL := Lib.hid hq))
                         have hq := below_then hb7 (by assumption)
                         clear hr7)
                      | (refine (names_any (max dx dy + 1) (.mk op 0 ⟨#[]⟩ [x, y]) _ _ HOB.out (HPR.out.next (by assumption))).mono ?_
                         rintro e w7 ⟨v7, rfl, hr7, hb7⟩
                         rw [hM.out] at hr7
                         obtain ⟨ma, mc, rfl⟩ := ownsForm hr7.1
                         (first
                          | have HTW := Lib.hid (TwoRows.make (B := w4.heap.size) HLR.out hb7 hr7 (Nat.le_refl _) (HQL.out.size) (hq.size))
                          | (have HMR := Lib.hid hr7
                             have HQM := Lib.hid hq))
                         have hq := below_then hb7 (by assumption)
                         clear hr7))))
              all_goals
                have hb := hq
                clear hq Hp0 Hp1 Hp2 Hp3 Hr0 Hr1 Hr2 Hr3
                replace HX := Lib.hid (HX.out.next hb)
                replace HY := Lib.hid (HY.out.next hb)
                replace HKX := Lib.hid (HKX.out.next hb)
                replace HKY := Lib.hid (HKY.out.next hb)
                replace HB := Lib.hid (HB.out.trans (hb.mono HB.out.size))
                replace HBB := Lib.hid (HBB.out.next hb)
                replace HPR := Lib.hid (HPR.out.next hb)
                have HB4 := Lib.hid hb
                clear hb
                have r0 := HBB.out 0 _ rfl
                have r1 := HBB.out 1 _ rfl
                have r2 := HBB.out 2 _ rfl
                have r3 := HBB.out 3 _ rfl
                go_wp2_with fail
                refine (mayExpr_any (max dx dy + 1) (.mk op 0 ⟨#[]⟩ [x, y]) _ _ HOB.out HPR.out).mono ?_
                rintro e w5 ⟨rfl, hb⟩
                rw [hTM.out]
                replace HX := Lib.hid (HX.out.next hb)
                replace HY := Lib.hid (HY.out.next hb)
                replace HKX := Lib.hid (HKX.out.next hb)
                replace HKY := Lib.hid (HKY.out.next hb)
                replace HB := Lib.hid (HB.out.trans (hb.mono HB.out.size))
                replace HBB := Lib.hid (HBB.out.next hb)
                replace HPR := Lib.hid (HPR.out.next hb)
                replace HTW := Lib.hid (HTW.out.next hb)
                replace HB4 := Lib.hid (HB4.out.trans (hb.mono HB4.out.size))
                clear hb
                clear r0 r1 r2 r3
                have hM0 : M = [] := by
                  rw [← hM.out]
                  unfold namesOf
                  rw [hTM.out]
                  rfl
                subst hM0
                go_wp2_with fail
                go_ret
                exact ⟨rfl, HB.out⟩
            have z1 : decide (5 ≤ op) = true := decide_eq_true g1
            by_cases g2 : op ≤ 17
            case neg =>
              obtain rfl : T = false := by rw [← hT.out]; unfold twoM; rw [decide_eq_false g2, Bool.and_false]; rfl
              have z2 : decide (op ≤ 17) = false := decide_eq_false g2
              have p0 := HX.out 0 _ rfl
              have p1 := HX.out 1 _ rfl
              have p2 := HX.out 2 _ rfl
              have p3 := HX.out 3 _ rfl
              have q0 := HY.out 0 _ rfl
              have q1 := HY.out 1 _ rfl
              have q2 := HY.out 2 _ rfl
              have q3 := HY.out 3 _ rfl
              have r0 := HBB.out 0 _ rfl
              have r1 := HBB.out 1 _ rfl
              have r2 := HBB.out 2 _ rfl
              have r3 := HBB.out 3 _ rfl
              have HB4S := Lib.hid HB.out.size
              obtain ⟨L, hL⟩ : ∃ L, Hid (namesOf x = L) := ⟨_, Lib.hid rfl⟩
              obtain ⟨M, hM⟩ : ∃ M, Hid (namesOf (.mk op 0 ⟨#[]⟩ [x, y]) = M) := ⟨_, Lib.hid rfl⟩
              have hq : Below w4.heap.size w4 w4.drew := (Below.refl _ _).drew
              have Hp0 := Lib.hid p0
              have Hp1 := Lib.hid p1
              have Hp2 := Lib.hid p2
              have Hp3 := Lib.hid p3
              have Hr0 := Lib.hid r0
              have Hr1 := Lib.hid r1
              have Hr2 := Lib.hid r2
              have Hr3 := Lib.hid r3
              clear p0 p1 p2 p3
              clear q0 q1 q2 q3
              clear r0 r1 r2 r3
              go_upto_region 11 with fail
              go_region_held3 (fun w' => w'.cell? ⟨w.heap.size, 0, none⟩ = some (.int .i64 x.op) ∧ w'.cell? ⟨w.heap.size, 1, none⟩ = some (.int .i64 x.n) ∧ w'.cell? ⟨w.heap.size, 2, none⟩ = some (.string x.nm) ∧ w'.cell? ⟨w.heap.size, 3, none⟩ = some (.slice ax x.ks.length cx) ∧ w'.cell? ⟨w8.heap.size + 1, 0, none⟩ = some (.int .i64 op) ∧ w'.cell? ⟨w8.heap.size + 1, 1, none⟩ = some (.int .i64 0) ∧ w'.cell? ⟨w8.heap.size + 1, 2, none⟩ = some (.string ⟨#[]⟩) ∧ w'.cell? ⟨w8.heap.size + 1, 3, none⟩ = some (.slice (some ⟨w8.heap.size, 0, none⟩) 2 2) ∧ Below w4.heap.size w4 w')
                (exact ⟨cell_next hq Hp0.out, cell_next hq Hp1.out, cell_next hq Hp2.out, cell_next hq Hp3.out, cell_next hq Hr0.out, cell_next hq Hr1.out, cell_next hq Hr2.out, cell_next hq Hr3.out, hq⟩)
                (first
                  | (go_split_ands
                     go_at_call 27
                     (first
                      | ((with_reducible show Calls _ _ #[.agg #[_, _, _, .slice ax _ _]] _ _)
                         refine (names_any dx x _ _ HOX.out (HKX.out.next (by assumption))).mono ?_
                         rintro e w7 ⟨v7, rfl, hr7, hb7⟩
                         rw [hL.out] at hr7
                         obtain ⟨la, lc, rfl⟩ := ownsForm hr7.1
                         (first
                          | have HTW := Lib.hid (TwoRows.comm (TwoRows.make (B := w4.heap.size) HMR.out hb7 hr7 (Nat.le_refl _) (HQM.out.size) (hq.size)))
                          | (have HLR := Lib.hid hr7
                             have HQL := Lib.hid hq))
                         have hq := below_then hb7 (by assumption)
                         clear hr7)
                      | (refine (names_any (max dx dy + 1) (.mk op 0 ⟨#[]⟩ [x, y]) _ _ HOB.out (HPR.out.next (by assumption))).mono ?_
                         rintro e w7 ⟨v7, rfl, hr7, hb7⟩
                         rw [hM.out] at hr7
                         obtain ⟨ma, mc, rfl⟩ := ownsForm hr7.1
                         (first
                          | have HTW := Lib.hid (TwoRows.make (B := w4.heap.size) HLR.out hb7 hr7 (Nat.le_refl _) (HQL.out.size) (hq.size))
                          | (have HMR := Lib.hid hr7
                             have HQM := Lib.hid hq))
                         have hq := below_then hb7 (by assumption)
                         clear hr7))))
              all_goals
                have hb := hq
                clear hq Hp0 Hp1 Hp2 Hp3 Hr0 Hr1 Hr2 Hr3
                replace HX := Lib.hid (HX.out.next hb)
                replace HY := Lib.hid (HY.out.next hb)
                replace HKX := Lib.hid (HKX.out.next hb)
                replace HKY := Lib.hid (HKY.out.next hb)
                replace HB := Lib.hid (HB.out.trans (hb.mono HB.out.size))
                replace HBB := Lib.hid (HBB.out.next hb)
                replace HPR := Lib.hid (HPR.out.next hb)
                have HB4 := Lib.hid hb
                clear hb
                have r0 := HBB.out 0 _ rfl
                have r1 := HBB.out 1 _ rfl
                have r2 := HBB.out 2 _ rfl
                have r3 := HBB.out 3 _ rfl
                go_wp2_with fail
                refine (mayExpr_any (max dx dy + 1) (.mk op 0 ⟨#[]⟩ [x, y]) _ _ HOB.out HPR.out).mono ?_
                rintro e w5 ⟨rfl, hb⟩
                rw [hTM.out]
                replace HX := Lib.hid (HX.out.next hb)
                replace HY := Lib.hid (HY.out.next hb)
                replace HKX := Lib.hid (HKX.out.next hb)
                replace HKY := Lib.hid (HKY.out.next hb)
                replace HB := Lib.hid (HB.out.trans (hb.mono HB.out.size))
                replace HBB := Lib.hid (HBB.out.next hb)
                replace HPR := Lib.hid (HPR.out.next hb)
                replace HTW := Lib.hid (HTW.out.next hb)
                replace HB4 := Lib.hid (HB4.out.trans (hb.mono HB4.out.size))
                clear hb
                clear r0 r1 r2 r3
                have hM0 : M = [] := by
                  rw [← hM.out]
                  unfold namesOf
                  rw [hTM.out]
                  rfl
                subst hM0
                go_wp2_with fail
                go_ret
                exact ⟨rfl, HB.out⟩
            have z2 : decide (op ≤ 17) = true := decide_eq_true g2
            by_cases g3 : Z ≤ 20
            case neg =>
              obtain rfl : T = false := by rw [← hT.out]; unfold twoM; rw [hA.out, hD.out, hZ.out, decide_eq_false g3, Bool.and_false]
              have z3 : decide ((Z : Int) ≤ 20) = false := decide_eq_false (by omega)
              have p0 := HX.out 0 _ rfl
              have p1 := HX.out 1 _ rfl
              have p2 := HX.out 2 _ rfl
              have p3 := HX.out 3 _ rfl
              have q0 := HY.out 0 _ rfl
              have q1 := HY.out 1 _ rfl
              have q2 := HY.out 2 _ rfl
              have q3 := HY.out 3 _ rfl
              have r0 := HBB.out 0 _ rfl
              have r1 := HBB.out 1 _ rfl
              have r2 := HBB.out 2 _ rfl
              have r3 := HBB.out 3 _ rfl
              have HB4S := Lib.hid HB.out.size
              obtain ⟨L, hL⟩ : ∃ L, Hid (namesOf x = L) := ⟨_, Lib.hid rfl⟩
              obtain ⟨M, hM⟩ : ∃ M, Hid (namesOf (.mk op 0 ⟨#[]⟩ [x, y]) = M) := ⟨_, Lib.hid rfl⟩
              have hq : Below w4.heap.size w4 w4.drew := (Below.refl _ _).drew
              have Hp0 := Lib.hid p0
              have Hp1 := Lib.hid p1
              have Hp2 := Lib.hid p2
              have Hp3 := Lib.hid p3
              have Hr0 := Lib.hid r0
              have Hr1 := Lib.hid r1
              have Hr2 := Lib.hid r2
              have Hr3 := Lib.hid r3
              clear p0 p1 p2 p3
              clear q0 q1 q2 q3
              clear r0 r1 r2 r3
              go_upto_region 11 with fail
              go_region_held3 (fun w' => w'.cell? ⟨w.heap.size, 0, none⟩ = some (.int .i64 x.op) ∧ w'.cell? ⟨w.heap.size, 1, none⟩ = some (.int .i64 x.n) ∧ w'.cell? ⟨w.heap.size, 2, none⟩ = some (.string x.nm) ∧ w'.cell? ⟨w.heap.size, 3, none⟩ = some (.slice ax x.ks.length cx) ∧ w'.cell? ⟨w8.heap.size + 1, 0, none⟩ = some (.int .i64 op) ∧ w'.cell? ⟨w8.heap.size + 1, 1, none⟩ = some (.int .i64 0) ∧ w'.cell? ⟨w8.heap.size + 1, 2, none⟩ = some (.string ⟨#[]⟩) ∧ w'.cell? ⟨w8.heap.size + 1, 3, none⟩ = some (.slice (some ⟨w8.heap.size, 0, none⟩) 2 2) ∧ Below w4.heap.size w4 w')
                (exact ⟨cell_next hq Hp0.out, cell_next hq Hp1.out, cell_next hq Hp2.out, cell_next hq Hp3.out, cell_next hq Hr0.out, cell_next hq Hr1.out, cell_next hq Hr2.out, cell_next hq Hr3.out, hq⟩)
                (first
                  | (go_split_ands
                     go_at_call 27
                     (first
                      | ((with_reducible show Calls _ _ #[.agg #[_, _, _, .slice ax _ _]] _ _)
                         refine (names_any dx x _ _ HOX.out (HKX.out.next (by assumption))).mono ?_
                         rintro e w7 ⟨v7, rfl, hr7, hb7⟩
                         rw [hL.out] at hr7
                         obtain ⟨la, lc, rfl⟩ := ownsForm hr7.1
                         (first
                          | have HTW := Lib.hid (TwoRows.comm (TwoRows.make (B := w4.heap.size) HMR.out hb7 hr7 (Nat.le_refl _) (HQM.out.size) (hq.size)))
                          | (have HLR := Lib.hid hr7
                             have HQL := Lib.hid hq))
                         have hq := below_then hb7 (by assumption)
                         clear hr7)
                      | (refine (names_any (max dx dy + 1) (.mk op 0 ⟨#[]⟩ [x, y]) _ _ HOB.out (HPR.out.next (by assumption))).mono ?_
                         rintro e w7 ⟨v7, rfl, hr7, hb7⟩
                         rw [hM.out] at hr7
                         obtain ⟨ma, mc, rfl⟩ := ownsForm hr7.1
                         (first
                          | have HTW := Lib.hid (TwoRows.make (B := w4.heap.size) HLR.out hb7 hr7 (Nat.le_refl _) (HQL.out.size) (hq.size))
                          | (have HMR := Lib.hid hr7
                             have HQM := Lib.hid hq))
                         have hq := below_then hb7 (by assumption)
                         clear hr7))))
              all_goals
                have hb := hq
                clear hq Hp0 Hp1 Hp2 Hp3 Hr0 Hr1 Hr2 Hr3
                replace HX := Lib.hid (HX.out.next hb)
                replace HY := Lib.hid (HY.out.next hb)
                replace HKX := Lib.hid (HKX.out.next hb)
                replace HKY := Lib.hid (HKY.out.next hb)
                replace HB := Lib.hid (HB.out.trans (hb.mono HB.out.size))
                replace HBB := Lib.hid (HBB.out.next hb)
                replace HPR := Lib.hid (HPR.out.next hb)
                have HB4 := Lib.hid hb
                clear hb
                have r0 := HBB.out 0 _ rfl
                have r1 := HBB.out 1 _ rfl
                have r2 := HBB.out 2 _ rfl
                have r3 := HBB.out 3 _ rfl
                go_wp2_with fail
                refine (mayExpr_any (max dx dy + 1) (.mk op 0 ⟨#[]⟩ [x, y]) _ _ HOB.out HPR.out).mono ?_
                rintro e w5 ⟨rfl, hb⟩
                rw [hTM.out]
                replace HX := Lib.hid (HX.out.next hb)
                replace HY := Lib.hid (HY.out.next hb)
                replace HKX := Lib.hid (HKX.out.next hb)
                replace HKY := Lib.hid (HKY.out.next hb)
                replace HB := Lib.hid (HB.out.trans (hb.mono HB.out.size))
                replace HBB := Lib.hid (HBB.out.next hb)
                replace HPR := Lib.hid (HPR.out.next hb)
                replace HTW := Lib.hid (HTW.out.next hb)
                replace HB4 := Lib.hid (HB4.out.trans (hb.mono HB4.out.size))
                clear hb
                clear r0 r1 r2 r3
                have hM0 : M = [] := by
                  rw [← hM.out]
                  unfold namesOf
                  rw [hTM.out]
                  rfl
                subst hM0
                go_wp2_with fail
                go_ret
                exact ⟨rfl, HB.out⟩
            have z3 : decide ((Z : Int) ≤ 20) = true := decide_eq_true (by omega)
            obtain rfl : T = true := by rw [← hT.out]; unfold twoM; rw [hA.out, hD.out, hZ.out, decide_eq_true g1, decide_eq_true g2, decide_eq_true g3]; rfl
            have p0 := HX.out 0 _ rfl
            have p1 := HX.out 1 _ rfl
            have p2 := HX.out 2 _ rfl
            have p3 := HX.out 3 _ rfl
            have q0 := HY.out 0 _ rfl
            have q1 := HY.out 1 _ rfl
            have q2 := HY.out 2 _ rfl
            have q3 := HY.out 3 _ rfl
            have r0 := HBB.out 0 _ rfl
            have r1 := HBB.out 1 _ rfl
            have r2 := HBB.out 2 _ rfl
            have r3 := HBB.out 3 _ rfl
            have HB4S := Lib.hid HB.out.size
            obtain ⟨L, hL⟩ : ∃ L, Hid (namesOf x = L) := ⟨_, Lib.hid rfl⟩
            obtain ⟨M, hM⟩ : ∃ M, Hid (namesOf (.mk op 0 ⟨#[]⟩ [x, y]) = M) := ⟨_, Lib.hid rfl⟩
            have hq : Below w4.heap.size w4 w4.drew := (Below.refl _ _).drew
            have Hp0 := Lib.hid p0
            have Hp1 := Lib.hid p1
            have Hp2 := Lib.hid p2
            have Hp3 := Lib.hid p3
            have Hr0 := Lib.hid r0
            have Hr1 := Lib.hid r1
            have Hr2 := Lib.hid r2
            have Hr3 := Lib.hid r3
            clear p0 p1 p2 p3
            clear q0 q1 q2 q3
            clear r0 r1 r2 r3
            go_upto_region 11 with fail
            go_region_held3 (fun w' => w'.cell? ⟨w.heap.size, 0, none⟩ = some (.int .i64 x.op) ∧ w'.cell? ⟨w.heap.size, 1, none⟩ = some (.int .i64 x.n) ∧ w'.cell? ⟨w.heap.size, 2, none⟩ = some (.string x.nm) ∧ w'.cell? ⟨w.heap.size, 3, none⟩ = some (.slice ax x.ks.length cx) ∧ w'.cell? ⟨w8.heap.size + 1, 0, none⟩ = some (.int .i64 op) ∧ w'.cell? ⟨w8.heap.size + 1, 1, none⟩ = some (.int .i64 0) ∧ w'.cell? ⟨w8.heap.size + 1, 2, none⟩ = some (.string ⟨#[]⟩) ∧ w'.cell? ⟨w8.heap.size + 1, 3, none⟩ = some (.slice (some ⟨w8.heap.size, 0, none⟩) 2 2) ∧ Below w4.heap.size w4 w')
              (exact ⟨cell_next hq Hp0.out, cell_next hq Hp1.out, cell_next hq Hp2.out, cell_next hq Hp3.out, cell_next hq Hr0.out, cell_next hq Hr1.out, cell_next hq Hr2.out, cell_next hq Hr3.out, hq⟩)
              (first
                | (go_split_ands
                   go_at_call 27
                   (first
                    | ((with_reducible show Calls _ _ #[.agg #[_, _, _, .slice ax _ _]] _ _)
                       refine (names_any dx x _ _ HOX.out (HKX.out.next (by assumption))).mono ?_
                       rintro e w7 ⟨v7, rfl, hr7, hb7⟩
                       rw [hL.out] at hr7
                       obtain ⟨la, lc, rfl⟩ := ownsForm hr7.1
                       (first
                        | have HTW := Lib.hid (TwoRows.comm (TwoRows.make (B := w4.heap.size) HMR.out hb7 hr7 (Nat.le_refl _) (HQM.out.size) (hq.size)))
                        | (have HLR := Lib.hid hr7
                           have HQL := Lib.hid hq))
                       have hq := below_then hb7 (by assumption)
                       clear hr7)
                    | (refine (names_any (max dx dy + 1) (.mk op 0 ⟨#[]⟩ [x, y]) _ _ HOB.out (HPR.out.next (by assumption))).mono ?_
                       rintro e w7 ⟨v7, rfl, hr7, hb7⟩
                       rw [hM.out] at hr7
                       obtain ⟨ma, mc, rfl⟩ := ownsForm hr7.1
                       (first
                        | have HTW := Lib.hid (TwoRows.make (B := w4.heap.size) HLR.out hb7 hr7 (Nat.le_refl _) (HQL.out.size) (hq.size))
                        | (have HMR := Lib.hid hr7
                           have HQM := Lib.hid hq))
                       have hq := below_then hb7 (by assumption)
                       clear hr7))))
            all_goals
              have hb := hq
              clear hq Hp0 Hp1 Hp2 Hp3 Hr0 Hr1 Hr2 Hr3
              replace HX := Lib.hid (HX.out.next hb)
              replace HY := Lib.hid (HY.out.next hb)
              replace HKX := Lib.hid (HKX.out.next hb)
              replace HKY := Lib.hid (HKY.out.next hb)
              replace HB := Lib.hid (HB.out.trans (hb.mono HB.out.size))
              replace HBB := Lib.hid (HBB.out.next hb)
              replace HPR := Lib.hid (HPR.out.next hb)
              have HB4 := Lib.hid hb
              clear hb
              have r0 := HBB.out 0 _ rfl
              have r1 := HBB.out 1 _ rfl
              have r2 := HBB.out 2 _ rfl
              have r3 := HBB.out 3 _ rfl
              go_wp2_with fail
              refine (mayExpr_any (max dx dy + 1) (.mk op 0 ⟨#[]⟩ [x, y]) _ _ HOB.out HPR.out).mono ?_
              rintro e w5 ⟨rfl, hb⟩
              rw [hTM.out]
              replace HX := Lib.hid (HX.out.next hb)
              replace HY := Lib.hid (HY.out.next hb)
              replace HKX := Lib.hid (HKX.out.next hb)
              replace HKY := Lib.hid (HKY.out.next hb)
              replace HB := Lib.hid (HB.out.trans (hb.mono HB.out.size))
              replace HBB := Lib.hid (HBB.out.next hb)
              replace HPR := Lib.hid (HPR.out.next hb)
              replace HTW := Lib.hid (HTW.out.next hb)
              replace HB4 := Lib.hid (HB4.out.trans (hb.mono HB4.out.size))
              clear hb
              clear r0 r1 r2 r3
              obtain ⟨N, hN⟩ : ∃ N, Hid (namesOf y = N) := ⟨_, Lib.hid rfl⟩
              have hLN : Hid (addAll L N = M) := Lib.hid (by rw [← hL.out, ← hN.out, ← hM.out]; exact names_two TX.out TY.out hm1.out hm2.out hTM.out)
              have hL20 : L.length ≤ 1048576 := by rw [← hL.out]; exact HLX.out
              have hN20 : N.length ≤ 1048576 := by rw [← hN.out]; exact HLY.out
              have hM20 : M.length ≤ 1048576 := by rw [← hM.out]; exact names_many _
              have q0 := HY.out 0 _ rfl
              have q1 := HY.out 1 _ rfl
              have q2 := HY.out 2 _ rfl
              have q3 := HY.out 3 _ rfl
              go_wp2_with fail
              refine (names_any dy y _ _ HOY.out HKY.out).mono ?_
              rintro e w6 ⟨v6, rfl, hr6, hb⟩
              rw [hN.out] at hr6
              obtain ⟨na, nc, rfl⟩ := ownsForm hr6.1
              clear q0 q1 q2 q3
              have HNR := Lib.hid (TwoRows.make (B := w4.heap.size) HTW.out.1 hb hr6 (Nat.le_refl _) (Nat.le_refl _) HB4.out.size)
              have HNM := Lib.hid (TwoRows.make (B := w4.heap.size) HTW.out.2.1 hb hr6 (Nat.le_refl _) (Nat.le_refl _) HB4.out.size)
              replace HB := Lib.hid (HB.out.trans (hb.mono HB.out.size))
              replace HTW := Lib.hid (HTW.out.next hb)
              replace HB4 := Lib.hid (HB4.out.trans (hb.mono HB4.out.size))
              clear hb hr6
              obtain ⟨i0, hi, hz0, hz1, hz2⟩ := info_parts infoStr
              go_wp2_with fail
              go_loopw [9, 71] (fun s9 i wr => ∃ (k : Nat) (vl : Value), k ≤ N.length ∧ i = .int .i64 k ∧ s9 = vl ∧ RowS w4.heap.size wr vl (addAll L (N.take k)) ∧ RowS w4.heap.size wr (.slice ma M.length mc) M ∧ RowS w4.heap.size wr (.slice na N.length nc) N ∧ Apart vl (.slice ma M.length mc) ∧ Apart vl (.slice na N.length nc) ∧ Below w.heap.size w wr ∧ w4.heap.size ≤ wr.heap.size) (fun _ i _ => (N.length - intOf i).toNat)
              case atStart => exact ⟨0, _, by omega, rfl, rfl, HTW.out.1, HTW.out.2.1, HNR.out.2.1, HTW.out.2.2, HNR.out.2.2, HB.out, HB4.out.size⟩
              case round =>
                obtain ⟨w0, hw0⟩ : ∃ w0 : World, w0 = wr := ⟨_, rfl⟩
                subst hw0
                obtain ⟨k, vl, hk, rfl, rfl, hl9, hm9, hn9, ha1, ha2, hbel, hsz9⟩ := hrel
                obtain ⟨va, vc, rfl⟩ := ownsForm hl9.1
                have HL9 := Lib.hid hl9
                have HM9 := Lib.hid hm9
                have HN9 := Lib.hid hn9
                have HA1 := Lib.hid ha1
                have HA2 := Lib.hid ha2
                have HBEL := Lib.hid hbel
                have hll := addAll_many L (N.take k)
                rw [List.length_take] at hll
                obtain ⟨LL, hLL⟩ : ∃ LL, Hid (addAll L (N.take k) = LL) := ⟨_, Lib.hid rfl⟩
                rw [hLL.out] at hll HL9 HA1 HA2 ⊢
                have hll2 : LL.length ≤ 4000000 := by omega
                clear hl9 hm9 hn9 ha1 ha2 hbel hll
                by_cases hlt : k < N.length
                · have hlt' : (k : Int) < (N.length : Int) := by omega
                  have hne : N ≠ [] := by intro h; rw [h] at hlt; simp at hlt
                  obtain ⟨g, off, cap', hv, hcells⟩ := (HN9.out.strs (by omega)).cells hne
                  simp only [Value.slice.injEq] at hv
                  obtain ⟨rfl, -, rfl⟩ := hv
                  obtain ⟨hs, c0⟩ := hcells k hlt
                  obtain ⟨s, hs2⟩ : ∃ s, Hid (N[k] = s) := ⟨_, Lib.hid rfl⟩
                  rw [hs2.out] at c0 hs
                  have HLS := Lib.hid (HL9.out.strs (by omega))
                  have hstep : Hid (addAll L (N.take (k + 1)) = addN s LL) := Lib.hid (by rw [List.take_succ_eq_append_getElem hlt, hs2.out, addAll_snoc, hLL.out])
                  clear hcells hne
                  go_wp2_with fail
                  go_loop [13, 77] (fun b i => ∃ j : Nat, j ≤ LL.length ∧ i = .int .i64 j ∧ b = .bool (at_ s (LL.take j)).isSome) (fun _ i => (LL.length - intOf i).toNat)
                  case atStart => exact ⟨0, by omega, rfl, by rw [List.take_zero]; rfl⟩
                  case round =>
                    obtain ⟨j, hj, rfl, rfl⟩ := hrel
                    obtain ⟨b1, hb1⟩ : ∃ b, Hid ((at_ s (LL.take j)).isSome = b) := ⟨_, Lib.hid rfl⟩
                    rw [hb1.out]
                    by_cases hjt : j < LL.length
                    · have hjt' : (j : Int) < (LL.length : Int) := by omega
                      have hne : LL ≠ [] := by intro h; rw [h] at hjt; simp at hjt
                      obtain ⟨g2, off2, cap2, hv2, hcells2⟩ := HLS.out.cells hne
                      simp only [Value.slice.injEq] at hv2
                      obtain ⟨rfl, -, rfl⟩ := hv2
                      obtain ⟨hs3, d0⟩ := hcells2 j hjt
                      have hat := at_take (s := s) hjt
                      rw [hb1.out] at hat
                      have HAT := Lib.hid hat
                      obtain ⟨t, ht⟩ : ∃ t, Hid (LL[j] = t) := ⟨_, Lib.hid rfl⟩
                      rw [ht.out] at d0 hs3
                      clear hcells2 hne hat
                      cases b1 with
                      | true =>
                        go_wp2_with fail
                        go_round
                        case rel => exact ⟨j + 1, by omega, by go_num, by rw [HAT.out]; rfl⟩
                        case measure => simp [intOf]; omega
                      | false =>
                        cases hts : (t.toList == s.toList) with
                        | true =>
                          go_wp2_with fail
                          go_round
                          case rel => exact ⟨j + 1, by omega, by go_num, by rw [HAT.out, ht.out, hts]; rfl⟩
                          case measure => simp [intOf]; omega
                        | false =>
                          go_wp2_with fail
                          go_round
                          case rel => exact ⟨j + 1, by omega, by go_num, by rw [HAT.out, ht.out, hts]; rfl⟩
                          case measure => simp [intOf]; omega
                    · have hjt' : ¬ (j : Int) < (LL.length : Int) := by omega
                      have hfull : Hid ((at_ s LL).isSome = b1) := Lib.hid (by rw [← hb1.out, List.take_of_length_le (by omega)])
                      have hadd : Hid (addN s LL = if b1 = true then LL else LL ++ [s]) := Lib.hid (by rw [addN_is, hfull.out])
                      cases b1 with
                      | true =>
                        have hadd2 : Hid (addN s LL = LL) := Lib.hid (by rw [hadd.out, if_pos rfl])
                        clear hadd
                        go_wp2_with fail
                        go_roundw
                        case rel => exact ⟨k + 1, _, by omega, by go_num, rfl, by rw [hstep.out, hadd2.out]; exact HL9.out, HM9.out, HN9.out, HA1.out, HA2.out, HBEL.out, hsz9⟩
                        case measure => simp [intOf]; omega
                      | false =>
                        have hadd2 : Hid (addN s LL = LL ++ [s]) := Lib.hid (by rw [hadd.out, if_neg (by simp)])
                        clear hadd
                        go_wp2_with (at_builtin; refine wpList_append_lies _ rfl (.tmp 90) (.tmp 92) 25 rfl w4.heap.size 9 i0 (.string ⟨#[]⟩) 1 16 Try.underlying25 hi hz0 hz1 hz2 rfl (by decide) _ _ _ rfl (HL9.out.1.alloc _) ⟨_, 0, none⟩ 1 1 [.string s] rfl rfl ?c1 str_cells (by decide) ?c3 ?c4 ?c5 _ rfl ?_)
                        case c3 => unfold maxLen; omega
                        case c4 => omega
                        case c5 => first | omega | (simp; omega)
                        intro g4 cap4 w10 hown4 hg4 hat4 hlt4
                        have hgr := (grown_of (boxed w0 (.cells #[.string s] 9)) (Value.slice va LL.length vc).ownBlock).trans hg4
                        have hr10 : RowS w4.heap.size w10 (.slice (some ⟨g4, 0, none⟩) (LL.length + 1) cap4) (LL ++ [s]) := RowS.push HL9.out hown4 hs
                        have ha10 : ∀ u m, RowS w4.heap.size w0 u m → Apart (.slice va LL.length vc) u → RowS w4.heap.size w10 u m ∧ Apart (.slice (some ⟨g4, 0, none⟩) (LL.length + 1) cap4) u := fun u m hu hap => ⟨hu.far hgr hap, fun q hq he => by
                          have hqq : g4 = q := by { simpa [Value.ownBlock] using hq }
                          subst hqq
                          rcases hat4 with h | h
                          · exact hap _ h he
                          · have := (hu.lt _ he).2
                            (try simp at h)
                            omega⟩
                        have HR10 := Lib.hid hr10
                        have HM10 := Lib.hid (ha10 _ _ HM9.out HA1.out)
                        have HN10 := Lib.hid (ha10 _ _ HN9.out HA2.out)
                        have hb10 : Below w.heap.size w w10 := HBEL.out.grown hgr (Nat.le_trans HB4S.out hsz9) fun q hq => by have := (HL9.out.lt q hq).1; have := HB4S.out; omega
                        have HB10 := Lib.hid hb10
                        have hsz10 : w4.heap.size ≤ w10.heap.size := Nat.le_trans hsz9 hgr.size
                        have hln : LL.length + 1 = (LL ++ [s]).length := by simp
                        have HLNN := Lib.hid hln
                        clear hown4 hg4 hat4 hgr hr10 ha10 hb10 hln
                        go_wp2_with fail
                        go_roundw
                        case rel => exact ⟨k + 1, _, by omega, by go_num, rfl, by rw [hstep.out, hadd2.out]; exact HR10.out, HM10.out.1, HN10.out.1, HM10.out.2, HN10.out.2, HB10.out, hsz10⟩
                        case measure => simp [intOf]; omega
                · have hlt' : ¬ (k : Int) < (N.length : Int) := by omega
                  have hfin : Hid (LL = M) := Lib.hid (by rw [← hLL.out, List.take_of_length_le (by omega), hLN.out])
                  have HLS := Lib.hid (HL9.out.strs (by omega))
                  have HMS := Lib.hid (HM9.out.strs (by omega))
                  go_wp2_with fail
                  refine (eqTexts_any LL M _ _ _ HLS.out HMS.out).mono ?_
                  rintro e w10 ⟨rfl, hb⟩
                  rw [hfin.out, eqT_same]
                  have HB10 := Lib.hid (HBEL.out.trans (hb.mono HBEL.out.size))
                  clear hb
                  go_wp2_with fail
                  go_ret
                  exact ⟨rfl, HB10.out⟩
end Go.Proofs.Ytnbclbphggmenaa.Tr
