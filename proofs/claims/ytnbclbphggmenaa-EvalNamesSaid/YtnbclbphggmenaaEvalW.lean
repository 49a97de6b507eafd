/- What eval.of, eval.Of and the reference's worth, Eval compute: what an expression is worth. Conditions: the expression, the names, the values lie in memory; of, worth: the expression may be. -/
import Derived.Test.YtnbclbphggmenaaLookW
import Derived.Test.YtnbclbphggmenaaWordRefC
namespace Go.Proofs.Ytnbclbphggmenaa.Tr
open Go.RowKit Go.Proofs.Ytnbclbphggmenaa.Lx Go.Proofs.Ytnbclbphggmenaa.Wd
theorem ev_num {l : Nat} {x : Ex} {ns : List ByteArray} {vs : List Int} (h : x.op = 1) : evalE (l + 1) x ns vs = (x.n, true) := by rw [evalE, if_pos h]
theorem ev_name {l : Nat} {x : Ex} {ns : List ByteArray} {vs : List Int} (h : x.op = 2) : evalE (l + 1) x ns vs = (look x.nm ns vs, true) := by rw [evalE, if_neg (by omega), if_pos h]
theorem ev_one {l : Nat} {x a : Ex} {ns : List ByteArray} {vs : List Int} (h1 : x.op ≠ 1) (h2 : x.op ≠ 2) (hk : x.ks = [a]) : evalE (l + 1) x ns vs = if (evalE l a ns vs).2 = false then (0, false) else (oneV x.op (evalE l a ns vs).1, oneB x.op) := by
  rw [evalE, if_neg h1, if_neg h2, hk]
theorem ev_two {l : Nat} {x a b : Ex} {ns : List ByteArray} {vs : List Int} (h1 : x.op ≠ 1) (h2 : x.op ≠ 2) (hk : x.ks = [a, b]) : evalE (l + 1) x ns vs =
    if (evalE l a ns vs).2 = false then (0, false) else if x.op = 16 ∧ (evalE l a ns vs).1 = 0 then (0, true) else if x.op = 17 ∧ (evalE l a ns vs).1 ≠ 0 then (1, true)
    else if (evalE l b ns vs).2 = false then (0, false) else (twoV x.op (evalE l a ns vs).1 (evalE l b ns vs).1, twoB x.op (evalE l b ns vs).1) := by
  rw [evalE, if_neg h1, if_neg h2, hk]
theorem list_one {α : Type} : ∀ {l : List α} (h : l.length = 1), l = [l[0]]
  | [_], _ => rfl
theorem list_two {α : Type} : ∀ {l : List α} (h : l.length = 2), l = [l[0], l[1]]
  | [_, _], _ => rfl
/-- What an evaluation leaves. -/
def Worth (r : Int × Bool) (w : World) (e : Ending) (w' : World) : Prop := e = .returned (.tuple #[.int .i64 r.1, .bool r.2]) ∧ InI r.1 ∧ Below w.heap.size w w'
theorem mk_worth {r : Int × Bool} {w w' : World} {e : Ending} {p : Int} {q : Bool} (he : e = .returned (.tuple #[.int .i64 p, .bool q])) (hr : r = (p, q)) (hi : InI p) (hb : Below w.heap.size w w') : Worth r w e w' := by
  subst hr; exact ⟨he, hi, hb⟩
theorem look_in {s : ByteArray} {ns : List ByteArray} {vs : List Int} (h : ∀ v ∈ vs, InI v) : InI (look s ns vs) := by
  unfold look
  split
  · rename_i i _
    rcases Nat.lt_or_ge i vs.length with hi | hi
    · simp only [List.getD, List.getElem?_eq_getElem hi, Option.getD_some]; exact h _ (List.getElem_mem hi)
    · simp only [List.getD, List.getElem?_eq_none hi, Option.getD_none]; exact InI_zero
  · exact InI_zero
theorem IntsAt.all {w : World} {v : Value} {l : List Int} (h : IntsAt w v l) : ∀ x ∈ l, InI x := by
  intro x hx
  obtain ⟨g, off, cap, _, hc⟩ := h.cells (List.ne_nil_of_mem hx)
  obtain ⟨i, hi, rfl⟩ := List.getElem_of_mem hx
  exact (hc i hi).1
set_option maxHeartbeats 8000000 in
set_option maxRecDepth 100000 in
theorem of_any : ∀ (l d : Nat) (x : Ex) (kv nv vv : Value) (ns : List ByteArray) (vs : List Int) (w : World), mayE l x = true → OkE x → ExK d w kv x.ks → StrsAt w nv ns → IntsAt w vv vs →
    Calls Try.prog 53 #[exV x kv, nv, vv] w (Worth (evalE l x ns vs) w) := by
  intro l
  induction l with
  | zero => intro d x kv nv vv ns vs w h; cases h
  | succ l ih =>
    intro d x kv nv vv ns vs w hmay hok hk hns hvs
    obtain ⟨d, rfl⟩ : ∃ e, d = e + 1 := by
      cases d with
      | zero => exact hk.elim
      | succ e => exact ⟨e, rfl⟩
    have IH := Lib.hid ih
    obtain ⟨a, cap, rfl, hc1, hc2⟩ := hk.form
    obtain ⟨na, nc, rfl, _, _⟩ := hns.form
    obtain ⟨va, vc, rfl, _, _⟩ := hvs.form
    have hbox := boxed w (.cells #[.int .i64 x.op, .int .i64 x.n, .string x.nm, .slice a x.ks.length cap] 24)
    have HB1 := Lib.hid hbox
    have HK1 := Lib.hid (hk.next hbox)
    have HNS := Lib.hid (hns.next hbox)
    have HVS := Lib.hid (hvs.next hbox)
    have HVI := Lib.hid hvs.all
    have HON := Lib.hid hok.n
    rw [mayE_succ, Bool.and_eq_true, Bool.and_eq_true] at hmay
    obtain ⟨⟨hlen, hhead⟩, hall⟩ := hmay
    have hlen' : (x.ks.length : Int) = kidsOf x.op := by simpa using hlen
    have HALL := Lib.hid hall
    have HLEN := Lib.hid hlen'
    clear ih hbox hk hok hns hvs hlen hall hhead hlen'
    unfold exV
    by_cases h1 : x.op = 1
    · have HR := Lib.hid (ev_num (l := l) (ns := ns) (vs := vs) h1)
      have b1 : (x.op == 1) = true := by simpa using h1
      have b2 : (x.op == 2) = false := by simp; omega
      have k0 : (kidsOf x.op == 0) = true := by rw [h1]; rfl
      clear h1
      go_enter Try.func53, Try.ntmps53
      go_wp2_with (go_at_call 23; refine (truth_any _ _).mono ?_; rintro e w' ⟨rfl, rfl⟩)
      go_ret2
      exact mk_worth rfl HR.out HON.out HB1.out
    by_cases h2 : x.op = 2
    · have HR := Lib.hid (ev_name (l := l) (ns := ns) (vs := vs) h2)
      have HIL := Lib.hid (look_in (s := x.nm) (ns := ns) HVI.out)
      have b1 : (x.op == 1) = false := by simpa using h1
      have b2 : (x.op == 2) = true := by simpa using h2
      have k0 : (kidsOf x.op == 0) = true := by rw [h2]; rfl
      clear h1 h2
      cases hat : at_ x.nm ns with
      | none =>
        have hi : atI x.nm ns = -1 := by unfold atI; rw [hat]
        have hlk : look x.nm ns vs = 0 := by unfold look; rw [hat]
        rw [hlk] at HR HIL
        clear hlk hat
        go_enter Try.func53, Try.ntmps53
        go_wp2_with (go_at_call 23; refine (truth_any _ _).mono ?_; rintro e w' ⟨rfl, rfl⟩)
        refine (index_any ns _ _ _ HNS.out).mono ?_
        rintro e w' ⟨rfl, rfl⟩
        rw [hi]
        clear hi
        go_wp2_with fail
        go_ret2
        exact mk_worth rfl HR.out HIL.out HB1.out
      | some i =>
        have hi : atI x.nm ns = (i : Int) := by unfold atI; rw [hat]
        have hi0 : (0 : Int) ≤ (i : Int) := by omega
        by_cases hvl : i < vs.length
        · have hvl' : (i : Int) < (vs.length : Int) := by omega
          have hvne : vs ≠ [] := by intro h; rw [h] at hvl; simp at hvl
          obtain ⟨g2, off2, cap2, hv, hcells⟩ := HVS.out.cells hvne
          simp only [Value.slice.injEq] at hv
          obtain ⟨rfl, -, rfl⟩ := hv
          obtain ⟨-, q0⟩ := hcells i hvl
          have hlk : look x.nm ns vs = vs[i] := by unfold look; rw [hat]; simp [List.getD, List.getElem?_eq_getElem hvl]
          rw [hlk] at HR HIL
          generalize vs[i] = y at *
          have HI := Lib.hid hi
          clear hlk hat hcells hvne hi
          go_enter Try.func53, Try.ntmps53
          go_wp2_with (go_at_call 23; refine (truth_any _ _).mono ?_; rintro e w' ⟨rfl, rfl⟩)
          refine (index_any ns _ _ _ HNS.out).mono ?_
          rintro e w' ⟨rfl, rfl⟩
          rw [HI.out]
          go_wp2_with fail
          go_ret2
          exact mk_worth rfl HR.out HIL.out HB1.out
        · have hvl' : ¬ (i : Int) < (vs.length : Int) := by omega
          have hlk : look x.nm ns vs = 0 := by unfold look; rw [hat]; simp [List.getD, List.getElem?_eq_none (show vs.length ≤ i by omega)]
          rw [hlk] at HR HIL
          have HI := Lib.hid hi
          clear hlk hat hi
          go_enter Try.func53, Try.ntmps53
          go_wp2_with (go_at_call 23; refine (truth_any _ _).mono ?_; rintro e w' ⟨rfl, rfl⟩)
          refine (index_any ns _ _ _ HNS.out).mono ?_
          rintro e w' ⟨rfl, rfl⟩
          rw [HI.out]
          go_wp2_with fail
          go_ret2
          exact mk_worth rfl HR.out HIL.out HB1.out
    have b1 : (x.op == 1) = false := by simpa using h1
    have b2 : (x.op == 2) = false := by simpa using h2
    by_cases h34 : x.op = 3 ∨ x.op = 4
    · have hk1 : kidsOf x.op = 1 := by unfold kidsOf; rw [if_neg (by omega), if_pos h34]
      have hl1 : x.ks.length = 1 := by have := HLEN.out; rw [hk1] at this; omega
      have hlb : ((x.ks.length : Int) == 1) = true := by simp; omega
      have hl0 : 0 < x.ks.length := by omega
      have hl0' : (0 : Int) < (x.ks.length : Int) := by omega
      have k0 : (kidsOf x.op == 0) = false := by rw [hk1]; rfl
      have k1 : (kidsOf x.op == 1) = true := by rw [hk1]; rfl
      have hne : x.ks ≠ [] := by intro h; rw [h] at hl0; simp at hl0
      have hks : x.ks = [x.ks[0]] := list_one hl1
      have HE := Lib.hid (ev_one (l := l) (ns := ns) (vs := vs) h1 h2 hks)
      obtain ⟨g, off, cap', hv, _, _, hcells⟩ := HK1.out.kids hne
      simp only [Value.slice.injEq] at hv
      obtain ⟨rfl, -, rfl⟩ := hv
      obtain ⟨hok0, u0, p0, p1, p2, p3, hku0⟩ := hcells 0 hl0
      obtain ⟨au0, cu0, rfl, -, -⟩ := hku0.form
      simp only [Nat.zero_mul, Nat.add_zero] at p0 p1 p2 p3
      have HKK0 := Lib.hid hku0
      have HOK0 := Lib.hid hok0
      have HM0 := Lib.hid (List.all_eq_true.1 HALL.out x.ks[0] (List.getElem_mem hl0))
      have hgl := cell_lt p0
      obtain ⟨r1, r2, hr⟩ : ∃ r1 r2, Hid (evalE l x.ks[0] ns vs = (r1, r2)) := ⟨_, _, Lib.hid rfl⟩
      rw [hr.out] at HE
      clear h1 h2 h34 hk1 hl1 hne hks hcells hok0 hku0
      cases r2 with
      | false =>
        have HR : Hid (evalE (l + 1) x ns vs = (0, false)) := Lib.hid (by rw [HE.out]; rfl)
        go_enter Try.func53, Try.ntmps53
        go_wp2_with (go_at_call 23; refine (truth_any _ _).mono ?_; rintro e w' ⟨rfl, rfl⟩)
        refine (IH.out d x.ks[0] _ _ _ ns vs _ HM0.out HOK0.out HKK0.out HNS.out HVS.out).mono ?_
        rintro e w2 ⟨rfl, hin, hb2⟩
        rw [hr.out] at hin ⊢
        dsimp only at hin ⊢
        have d0 := cell_next (g := w.heap.size) (j := 0) (u := .int .i64 x.op) hb2 (by simp [go_sem])
        have d3 := cell_next (g := w.heap.size) (j := 3) (u := .slice (some ⟨g, off, none⟩) x.ks.length cap) hb2 (by simp [go_sem])
        have HB2 := Lib.hid (HB1.out.trans (hb2.mono HB1.out.size))
        have HIN := Lib.hid hin
        clear hin hb2
        go_wp2_with (go_at_call 23; refine (truth_any _ _).mono ?_; rintro e w' ⟨rfl, rfl⟩)
        go_ret2
        exact mk_worth rfl HR.out InI_zero HB2.out
      | true =>
        have HR : Hid (evalE (l + 1) x ns vs = (oneV x.op r1, oneB x.op)) := Lib.hid (by rw [HE.out]; rfl)
        go_enter Try.func53, Try.ntmps53
        go_wp2_with (go_at_call 23; refine (truth_any _ _).mono ?_; rintro e w' ⟨rfl, rfl⟩)
        refine (IH.out d x.ks[0] _ _ _ ns vs _ HM0.out HOK0.out HKK0.out HNS.out HVS.out).mono ?_
        rintro e w2 ⟨rfl, hin, hb2⟩
        rw [hr.out] at hin ⊢
        dsimp only at hin ⊢
        have d0 := cell_next (g := w.heap.size) (j := 0) (u := .int .i64 x.op) hb2 (by simp [go_sem])
        have d3 := cell_next (g := w.heap.size) (j := 3) (u := .slice (some ⟨g, off, none⟩) x.ks.length cap) hb2 (by simp [go_sem])
        have HB2 := Lib.hid (HB1.out.trans (hb2.mono HB1.out.size))
        have HIN := Lib.hid hin
        clear hb2
        go_wp2_with fail
        refine (one_any _ _ _).mono ?_
        rintro e w' ⟨rfl, rfl⟩
        go_wp2_with fail
        go_ret2
        exact mk_worth rfl HR.out (InI_one _ _) HB2.out
    · have hk2 : kidsOf x.op = 2 := by
        have := HLEN.out
        unfold kidsOf at this ⊢
        rw [if_neg (by omega), if_neg h34] at this ⊢
        split at this
        · rename_i h; rw [if_pos h]
        · omega
      have hl2 : x.ks.length = 2 := by have := HLEN.out; rw [hk2] at this; omega
      have hlb : ((x.ks.length : Int) == 1) = false := by simp; omega
      have hl0 : 0 < x.ks.length := by omega
      have hl1 : 1 < x.ks.length := by omega
      have hl0' : (0 : Int) < (x.ks.length : Int) := by omega
      have hl1' : (1 : Int) < (x.ks.length : Int) := by omega
      have k0 : (kidsOf x.op == 0) = false := by rw [hk2]; rfl
      have k1 : (kidsOf x.op == 1) = false := by rw [hk2]; rfl
      have hne : x.ks ≠ [] := by intro h; rw [h] at hl0; simp at hl0
      have hks : x.ks = [x.ks[0], x.ks[1]] := list_two hl2
      have HE := Lib.hid (ev_two (l := l) (ns := ns) (vs := vs) h1 h2 hks)
      obtain ⟨g, off, cap', hv, _, _, hcells⟩ := HK1.out.kids hne
      simp only [Value.slice.injEq] at hv
      obtain ⟨rfl, -, rfl⟩ := hv
      obtain ⟨hok0, u0, p0, p1, p2, p3, hku0⟩ := hcells 0 hl0
      obtain ⟨au0, cu0, rfl, -, -⟩ := hku0.form
      simp only [Nat.zero_mul, Nat.add_zero] at p0 p1 p2 p3
      have HKK0 := Lib.hid hku0
      have HOK0 := Lib.hid hok0
      have HM0 := Lib.hid (List.all_eq_true.1 HALL.out x.ks[0] (List.getElem_mem hl0))
      have hgl := cell_lt p0
      obtain ⟨r1, r2, hr⟩ : ∃ r1 r2, Hid (evalE l x.ks[0] ns vs = (r1, r2)) := ⟨_, _, Lib.hid rfl⟩
      obtain ⟨hok1, u1, s0, s1, s2, s3, hku1⟩ := hcells 1 hl1
      obtain ⟨au1, cu1, rfl, -, -⟩ := hku1.form
      have HKK1 := Lib.hid hku1
      have HOK1 := Lib.hid hok1
      have HM1 := Lib.hid (List.all_eq_true.1 HALL.out x.ks[1] (List.getElem_mem hl1))
      obtain ⟨q1, q2, hq⟩ : ∃ q1 q2, Hid (evalE l x.ks[1] ns vs = (q1, q2)) := ⟨_, _, Lib.hid rfl⟩
      rw [hr.out, hq.out] at HE
      clear h1 h2 h34 hk2 hl2 hne hks hcells hok0 hku0 hok1 hku1
      cases r2 with
      | false =>
        have HR : Hid (evalE (l + 1) x ns vs = (0, false)) := Lib.hid (by rw [HE.out]; rfl)
        go_enter Try.func53, Try.ntmps53
        go_wp2_with (go_at_call 23; refine (truth_any _ _).mono ?_; rintro e w' ⟨rfl, rfl⟩)
        refine (IH.out d x.ks[0] _ _ _ ns vs _ HM0.out HOK0.out HKK0.out HNS.out HVS.out).mono ?_
        rintro e w2 ⟨rfl, hin, hb2⟩
        rw [hr.out] at hin ⊢
        dsimp only at hin ⊢
        have d0 := cell_next (g := w.heap.size) (j := 0) (u := .int .i64 x.op) hb2 (by simp [go_sem])
        have d3 := cell_next (g := w.heap.size) (j := 3) (u := .slice (some ⟨g, off, none⟩) x.ks.length cap) hb2 (by simp [go_sem])
        have HB2 := Lib.hid (HB1.out.trans (hb2.mono HB1.out.size))
        have HIN := Lib.hid hin
        clear hin hb2
        go_wp2_with (go_at_call 23; refine (truth_any _ _).mono ?_; rintro e w' ⟨rfl, rfl⟩)
        go_ret2
        exact mk_worth rfl HR.out InI_zero HB2.out
      | true =>
        have HE2 : Hid (evalE (l + 1) x ns vs = if x.op = 16 ∧ r1 = 0 then (0, true) else if x.op = 17 ∧ r1 ≠ 0 then (1, true) else if q2 = false then (0, false) else (twoV x.op r1 q1, twoB x.op q1)) := Lib.hid (by rw [HE.out]; rfl)
        clear HE
        by_cases hA : x.op = 16 ∧ r1 = 0
        · have HR : Hid (evalE (l + 1) x ns vs = (0, true)) := Lib.hid (by rw [HE2.out, if_pos hA])
          have b16 : (x.op == 16) = true := by simpa using hA.1
          have z1 : (r1 != 0) = false := by simpa using hA.2
          have z2 : (r1 == 0) = true := by simpa using hA.2
          clear hA
          go_enter Try.func53, Try.ntmps53
          go_wp2_with (go_at_call 23; refine (truth_any _ _).mono ?_; rintro e w' ⟨rfl, rfl⟩)
          refine (IH.out d x.ks[0] _ _ _ ns vs _ HM0.out HOK0.out HKK0.out HNS.out HVS.out).mono ?_
          rintro e w2 ⟨rfl, hin, hb2⟩
          rw [hr.out] at hin ⊢
          dsimp only at hin ⊢
          have d0 := cell_next (g := w.heap.size) (j := 0) (u := .int .i64 x.op) hb2 (by simp [go_sem])
          have d3 := cell_next (g := w.heap.size) (j := 3) (u := .slice (some ⟨g, off, none⟩) x.ks.length cap) hb2 (by simp [go_sem])
          have HB2 := Lib.hid (HB1.out.trans (hb2.mono HB1.out.size))
          have HIN := Lib.hid hin
          clear hin hb2
          go_wp2_with (go_at_call 23; refine (truth_any _ _).mono ?_; rintro e w' ⟨rfl, rfl⟩)
          go_ret2
          exact mk_worth rfl HR.out InI_zero HB2.out
        by_cases hC : x.op = 17 ∧ r1 ≠ 0
        · have HR : Hid (evalE (l + 1) x ns vs = (1, true)) := Lib.hid (by rw [HE2.out, if_neg hA, if_pos hC])
          have b16 : (x.op == 16) = false := by simp; omega
          have b17 : (x.op == 17) = true := by simpa using hC.1
          have z1 : (r1 != 0) = true := by simpa using hC.2
          have z2 : (r1 == 0) = false := by simpa using hC.2
          clear hA hC
          go_enter Try.func53, Try.ntmps53
          go_wp2_with (go_at_call 23; refine (truth_any _ _).mono ?_; rintro e w' ⟨rfl, rfl⟩)
          refine (IH.out d x.ks[0] _ _ _ ns vs _ HM0.out HOK0.out HKK0.out HNS.out HVS.out).mono ?_
          rintro e w2 ⟨rfl, hin, hb2⟩
          rw [hr.out] at hin ⊢
          dsimp only at hin ⊢
          have d0 := cell_next (g := w.heap.size) (j := 0) (u := .int .i64 x.op) hb2 (by simp [go_sem])
          have d3 := cell_next (g := w.heap.size) (j := 3) (u := .slice (some ⟨g, off, none⟩) x.ks.length cap) hb2 (by simp [go_sem])
          have HB2 := Lib.hid (HB1.out.trans (hb2.mono HB1.out.size))
          have HIN := Lib.hid hin
          clear hin hb2
          go_wp2_with (go_at_call 23; refine (truth_any _ _).mono ?_; rintro e w' ⟨rfl, rfl⟩)
          go_ret2
          exact mk_worth rfl HR.out (by unfold InI; omega) HB2.out
        have HE3 : Hid (evalE (l + 1) x ns vs = if q2 = false then (0, false) else (twoV x.op r1 q1, twoB x.op q1)) := Lib.hid (by rw [HE2.out, if_neg hA, if_neg hC])
        have hD : ((x.op == 16) = true ∧ (x.op == 17) = false ∧ (r1 != 0) = true ∧ (r1 == 0) = false) ∨ ((x.op == 16) = false ∧ (x.op == 17) = true ∧ (r1 != 0) = false ∧ (r1 == 0) = true) ∨ ((x.op == 16) = false ∧ (x.op == 17) = false ∧ True ∧ True) := by
          by_cases h16 : x.op = 16
          · left
            have : r1 ≠ 0 := fun h => hA ⟨h16, h⟩
            refine ⟨by simpa using h16, by simp; omega, by simpa using this, by simpa using this⟩
          · right
            by_cases h17 : x.op = 17
            · left
              have : r1 = 0 := by apply Decidable.byContradiction; intro h; exact hC ⟨h17, h⟩
              refine ⟨by simpa using h16, by simpa using h17, by simpa using this, by simpa using this⟩
            · right
              exact ⟨by simpa using h16, by simpa using h17, trivial, trivial⟩
        clear HE2 hA hC
        rcases hD with ⟨b16, b17, z1, z2⟩ | ⟨b16, b17, z1, z2⟩ | ⟨b16, b17, z1, z2⟩
        all_goals
          go_enter Try.func53, Try.ntmps53
          go_wp2_with (go_at_call 23; refine (truth_any _ _).mono ?_; rintro e w' ⟨rfl, rfl⟩)
          refine (IH.out d x.ks[0] _ _ _ ns vs _ HM0.out HOK0.out HKK0.out HNS.out HVS.out).mono ?_
          rintro e w2 ⟨rfl, hin, hb2⟩
          rw [hr.out] at hin ⊢
          dsimp only at hin ⊢
          have d0 := cell_next (g := w.heap.size) (j := 0) (u := .int .i64 x.op) hb2 (by simp [go_sem])
          have d3 := cell_next (g := w.heap.size) (j := 3) (u := .slice (some ⟨g, off, none⟩) x.ks.length cap) hb2 (by simp [go_sem])
          have HB2 := Lib.hid (HB1.out.trans (hb2.mono HB1.out.size))
          have HIN := Lib.hid hin
          have e0 := cell_next hb2 s0
          have e1 := cell_next hb2 s1
          have e2 := cell_next hb2 s2
          have e3 := cell_next hb2 s3
          simp only [Nat.one_mul] at e0 e1 e2 e3
          have HK2 := Lib.hid (HKK1.out.next hb2)
          have HNS2 := Lib.hid (HNS.out.next hb2)
          have HVS2 := Lib.hid (HVS.out.next hb2)
          clear hb2 s0 s1 s2 s3
          go_wp2_with (go_at_call 23; refine (truth_any _ _).mono ?_; rintro e w' ⟨rfl, rfl⟩)
          refine (IH.out d x.ks[1] _ _ _ ns vs _ HM1.out HOK1.out HK2.out HNS2.out HVS2.out).mono ?_
          rintro e w3 ⟨rfl, hin2, hb3⟩
          rw [hq.out] at hin2 ⊢
          dsimp only at hin2 ⊢
          have f0 := cell_next hb3 d0
          have HB3 := Lib.hid (HB2.out.trans (hb3.mono HB2.out.size))
          clear hb3
          cases q2 with
          | false =>
            have HR : Hid (evalE (l + 1) x ns vs = (0, false)) := Lib.hid (by rw [HE3.out]; rfl)
            go_wp2_with (go_at_call 23; refine (truth_any _ _).mono ?_; rintro e w' ⟨rfl, rfl⟩)
            go_ret2
            exact mk_worth rfl HR.out InI_zero HB3.out
          | true =>
            have HR : Hid (evalE (l + 1) x ns vs = (twoV x.op r1 q1, twoB x.op q1)) := Lib.hid (by rw [HE3.out]; rfl)
            go_wp2_with fail
            refine (two_any _ _ _ _ hin hin2).mono ?_
            rintro e w' ⟨rfl, rfl⟩
            go_wp2_with fail
            go_ret2
            exact mk_worth rfl HR.out (InI_two _ _ _ HIN.out) HB3.out
set_option maxHeartbeats 8000000 in
set_option maxRecDepth 100000 in
theorem worth_any : ∀ (l d : Nat) (x : Ex) (kv nv vv : Value) (ns : List ByteArray) (vs : List Int) (w : World), mayE l x = true → OkE x → ExK d w kv x.ks → StrsAt w nv ns → IntsAt w vv vs →
    Calls Try.prog 54 #[exV x kv, nv, vv] w (Worth (evalE l x ns vs) w) := by
  intro l
  induction l with
  | zero => intro d x kv nv vv ns vs w h; cases h
  | succ l ih =>
    intro d x kv nv vv ns vs w hmay hok hk hns hvs
    obtain ⟨d, rfl⟩ : ∃ e, d = e + 1 := by
      cases d with
      | zero => exact hk.elim
      | succ e => exact ⟨e, rfl⟩
    have IH := Lib.hid ih
    obtain ⟨a, cap, rfl, hc1, hc2⟩ := hk.form
    obtain ⟨na, nc, rfl, _, _⟩ := hns.form
    obtain ⟨va, vc, rfl, _, _⟩ := hvs.form
    have hbox := boxed w (.cells #[.int .i64 x.op, .int .i64 x.n, .string x.nm, .slice a x.ks.length cap] 24)
    have HB1 := Lib.hid hbox
    have HK1 := Lib.hid (hk.next hbox)
    have HNS := Lib.hid (hns.next hbox)
    have HVS := Lib.hid (hvs.next hbox)
    have HVI := Lib.hid hvs.all
    have HON := Lib.hid hok.n
    rw [mayE_succ, Bool.and_eq_true, Bool.and_eq_true] at hmay
    obtain ⟨⟨hlen, hhead⟩, hall⟩ := hmay
    have hlen' : (x.ks.length : Int) = kidsOf x.op := by simpa using hlen
    have HALL := Lib.hid hall
    have HLEN := Lib.hid hlen'
    clear ih hbox hk hok hns hvs hlen hall hhead hlen'
    unfold exV
    by_cases h1 : x.op = 1
    · have HR := Lib.hid (ev_num (l := l) (ns := ns) (vs := vs) h1)
      have b1 : (x.op == 1) = true := by simpa using h1
      have b2 : (x.op == 2) = false := by simp; omega
      have k0 : (kidsOf x.op == 0) = true := by rw [h1]; rfl
      clear h1
      go_enter Try.func54, Try.ntmps54
      go_wp2_with (go_at_call 95; refine (arity_any _ _).mono ?_; rintro e w' ⟨rfl, rfl⟩)
      go_ret2
      exact mk_worth rfl HR.out HON.out HB1.out
    by_cases h2 : x.op = 2
    · have HR := Lib.hid (ev_name (l := l) (ns := ns) (vs := vs) h2)
      have HIL := Lib.hid (look_in (s := x.nm) (ns := ns) HVI.out)
      have b1 : (x.op == 1) = false := by simpa using h1
      have b2 : (x.op == 2) = true := by simpa using h2
      have k0 : (kidsOf x.op == 0) = true := by rw [h2]; rfl
      clear h1 h2
      go_enter Try.func54, Try.ntmps54
      go_wp2_with (go_at_call 95; refine (arity_any _ _).mono ?_; rintro e w' ⟨rfl, rfl⟩)
      refine (look_any ns _ vs _ _ _ HNS.out HVS.out).mono ?_
      rintro e w' ⟨rfl, rfl⟩
      go_wp2_with fail
      go_ret2
      exact mk_worth rfl HR.out HIL.out HB1.out
    have b1 : (x.op == 1) = false := by simpa using h1
    have b2 : (x.op == 2) = false := by simpa using h2
    by_cases h34 : x.op = 3 ∨ x.op = 4
    · have hk1 : kidsOf x.op = 1 := by unfold kidsOf; rw [if_neg (by omega), if_pos h34]
      have hl1 : x.ks.length = 1 := by have := HLEN.out; rw [hk1] at this; omega
      have hlb : ((x.ks.length : Int) == 1) = true := by simp; omega
      have hl0 : 0 < x.ks.length := by omega
      have hl0' : (0 : Int) < (x.ks.length : Int) := by omega
      have k0 : (kidsOf x.op == 0) = false := by rw [hk1]; rfl
      have k1 : (kidsOf x.op == 1) = true := by rw [hk1]; rfl
      have hne : x.ks ≠ [] := by intro h; rw [h] at hl0; simp at hl0
      have hks : x.ks = [x.ks[0]] := list_one hl1
      have HE := Lib.hid (ev_one (l := l) (ns := ns) (vs := vs) h1 h2 hks)
      obtain ⟨g, off, cap', hv, _, _, hcells⟩ := HK1.out.kids hne
      simp only [Value.slice.injEq] at hv
      obtain ⟨rfl, -, rfl⟩ := hv
      obtain ⟨hok0, u0, p0, p1, p2, p3, hku0⟩ := hcells 0 hl0
      obtain ⟨au0, cu0, rfl, -, -⟩ := hku0.form
      simp only [Nat.zero_mul, Nat.add_zero] at p0 p1 p2 p3
      have HKK0 := Lib.hid hku0
      have HOK0 := Lib.hid hok0
      have HM0 := Lib.hid (List.all_eq_true.1 HALL.out x.ks[0] (List.getElem_mem hl0))
      have hgl := cell_lt p0
      obtain ⟨r1, r2, hr⟩ : ∃ r1 r2, Hid (evalE l x.ks[0] ns vs = (r1, r2)) := ⟨_, _, Lib.hid rfl⟩
      rw [hr.out] at HE
      clear h1 h2 h34 hk1 hl1 hne hks hcells hok0 hku0
      cases r2 with
      | false =>
        have HR : Hid (evalE (l + 1) x ns vs = (0, false)) := Lib.hid (by rw [HE.out]; rfl)
        go_enter Try.func54, Try.ntmps54
        go_wp2_with (go_at_call 95; refine (arity_any _ _).mono ?_; rintro e w' ⟨rfl, rfl⟩)
        refine (IH.out d x.ks[0] _ _ _ ns vs _ HM0.out HOK0.out HKK0.out HNS.out HVS.out).mono ?_
        rintro e w2 ⟨rfl, hin, hb2⟩
        rw [hr.out] at hin ⊢
        dsimp only at hin ⊢
        have d0 := cell_next (g := w.heap.size) (j := 0) (u := .int .i64 x.op) hb2 (by simp [go_sem])
        have d3 := cell_next (g := w.heap.size) (j := 3) (u := .slice (some ⟨g, off, none⟩) x.ks.length cap) hb2 (by simp [go_sem])
        have HB2 := Lib.hid (HB1.out.trans (hb2.mono HB1.out.size))
        have HIN := Lib.hid hin
        clear hin hb2
        go_wp2_with (go_at_call 95; refine (arity_any _ _).mono ?_; rintro e w' ⟨rfl, rfl⟩)
        go_ret2
        exact mk_worth rfl HR.out InI_zero HB2.out
      | true =>
        have HR : Hid (evalE (l + 1) x ns vs = (oneV x.op r1, oneB x.op)) := Lib.hid (by rw [HE.out]; rfl)
        go_enter Try.func54, Try.ntmps54
        go_wp2_with (go_at_call 95; refine (arity_any _ _).mono ?_; rintro e w' ⟨rfl, rfl⟩)
        refine (IH.out d x.ks[0] _ _ _ ns vs _ HM0.out HOK0.out HKK0.out HNS.out HVS.out).mono ?_
        rintro e w2 ⟨rfl, hin, hb2⟩
        rw [hr.out] at hin ⊢
        dsimp only at hin ⊢
        have d0 := cell_next (g := w.heap.size) (j := 0) (u := .int .i64 x.op) hb2 (by simp [go_sem])
        have d3 := cell_next (g := w.heap.size) (j := 3) (u := .slice (some ⟨g, off, none⟩) x.ks.length cap) hb2 (by simp [go_sem])
        have HB2 := Lib.hid (HB1.out.trans (hb2.mono HB1.out.size))
        have HIN := Lib.hid hin
        clear hb2
        go_wp2_with fail
        refine (rone_any _ _ _).mono ?_
        rintro e w' ⟨rfl, rfl⟩
        go_wp2_with fail
        go_ret2
        exact mk_worth rfl HR.out (InI_one _ _) HB2.out
    · have hk2 : kidsOf x.op = 2 := by
        have := HLEN.out
        unfold kidsOf at this ⊢
        rw [if_neg (by omega), if_neg h34] at this ⊢
        split at this
        · rename_i h; rw [if_pos h]
        · omega
      have hl2 : x.ks.length = 2 := by have := HLEN.out; rw [hk2] at this; omega
      have hlb : ((x.ks.length : Int) == 1) = false := by simp; omega
      have hl0 : 0 < x.ks.length := by omega
      have hl1 : 1 < x.ks.length := by omega
      have hl0' : (0 : Int) < (x.ks.length : Int) := by omega
      have hl1' : (1 : Int) < (x.ks.length : Int) := by omega
      have k0 : (kidsOf x.op == 0) = false := by rw [hk2]; rfl
      have k1 : (kidsOf x.op == 1) = false := by rw [hk2]; rfl
      have hne : x.ks ≠ [] := by intro h; rw [h] at hl0; simp at hl0
      have hks : x.ks = [x.ks[0], x.ks[1]] := list_two hl2
      have HE := Lib.hid (ev_two (l := l) (ns := ns) (vs := vs) h1 h2 hks)
      obtain ⟨g, off, cap', hv, _, _, hcells⟩ := HK1.out.kids hne
      simp only [Value.slice.injEq] at hv
      obtain ⟨rfl, -, rfl⟩ := hv
      obtain ⟨hok0, u0, p0, p1, p2, p3, hku0⟩ := hcells 0 hl0
      obtain ⟨au0, cu0, rfl, -, -⟩ := hku0.form
      simp only [Nat.zero_mul, Nat.add_zero] at p0 p1 p2 p3
      have HKK0 := Lib.hid hku0
      have HOK0 := Lib.hid hok0
      have HM0 := Lib.hid (List.all_eq_true.1 HALL.out x.ks[0] (List.getElem_mem hl0))
      have hgl := cell_lt p0
      obtain ⟨r1, r2, hr⟩ : ∃ r1 r2, Hid (evalE l x.ks[0] ns vs = (r1, r2)) := ⟨_, _, Lib.hid rfl⟩
      obtain ⟨hok1, u1, s0, s1, s2, s3, hku1⟩ := hcells 1 hl1
      obtain ⟨au1, cu1, rfl, -, -⟩ := hku1.form
      have HKK1 := Lib.hid hku1
      have HOK1 := Lib.hid hok1
      have HM1 := Lib.hid (List.all_eq_true.1 HALL.out x.ks[1] (List.getElem_mem hl1))
      obtain ⟨q1, q2, hq⟩ : ∃ q1 q2, Hid (evalE l x.ks[1] ns vs = (q1, q2)) := ⟨_, _, Lib.hid rfl⟩
      rw [hr.out, hq.out] at HE
      clear h1 h2 h34 hk2 hl2 hne hks hcells hok0 hku0 hok1 hku1
      cases r2 with
      | false =>
        have HR : Hid (evalE (l + 1) x ns vs = (0, false)) := Lib.hid (by rw [HE.out]; rfl)
        go_enter Try.func54, Try.ntmps54
        go_wp2_with (go_at_call 95; refine (arity_any _ _).mono ?_; rintro e w' ⟨rfl, rfl⟩)
        refine (IH.out d x.ks[0] _ _ _ ns vs _ HM0.out HOK0.out HKK0.out HNS.out HVS.out).mono ?_
        rintro e w2 ⟨rfl, hin, hb2⟩
        rw [hr.out] at hin ⊢
        dsimp only at hin ⊢
        have d0 := cell_next (g := w.heap.size) (j := 0) (u := .int .i64 x.op) hb2 (by simp [go_sem])
        have d3 := cell_next (g := w.heap.size) (j := 3) (u := .slice (some ⟨g, off, none⟩) x.ks.length cap) hb2 (by simp [go_sem])
        have HB2 := Lib.hid (HB1.out.trans (hb2.mono HB1.out.size))
        have HIN := Lib.hid hin
        clear hin hb2
        go_wp2_with (go_at_call 95; refine (arity_any _ _).mono ?_; rintro e w' ⟨rfl, rfl⟩)
        go_ret2
        exact mk_worth rfl HR.out InI_zero HB2.out
      | true =>
        have HE2 : Hid (evalE (l + 1) x ns vs = if x.op = 16 ∧ r1 = 0 then (0, true) else if x.op = 17 ∧ r1 ≠ 0 then (1, true) else if q2 = false then (0, false) else (twoV x.op r1 q1, twoB x.op q1)) := Lib.hid (by rw [HE.out]; rfl)
        clear HE
        by_cases hA : x.op = 16 ∧ r1 = 0
        · have HR : Hid (evalE (l + 1) x ns vs = (0, true)) := Lib.hid (by rw [HE2.out, if_pos hA])
          have b16 : (x.op == 16) = true := by simpa using hA.1
          have z1 : (r1 != 0) = false := by simpa using hA.2
          have z2 : (r1 == 0) = true := by simpa using hA.2
          clear hA
          go_enter Try.func54, Try.ntmps54
          go_wp2_with (go_at_call 95; refine (arity_any _ _).mono ?_; rintro e w' ⟨rfl, rfl⟩)
          refine (IH.out d x.ks[0] _ _ _ ns vs _ HM0.out HOK0.out HKK0.out HNS.out HVS.out).mono ?_
          rintro e w2 ⟨rfl, hin, hb2⟩
          rw [hr.out] at hin ⊢
          dsimp only at hin ⊢
          have d0 := cell_next (g := w.heap.size) (j := 0) (u := .int .i64 x.op) hb2 (by simp [go_sem])
          have d3 := cell_next (g := w.heap.size) (j := 3) (u := .slice (some ⟨g, off, none⟩) x.ks.length cap) hb2 (by simp [go_sem])
          have HB2 := Lib.hid (HB1.out.trans (hb2.mono HB1.out.size))
          have HIN := Lib.hid hin
          clear hin hb2
          go_wp2_with (go_at_call 95; refine (arity_any _ _).mono ?_; rintro e w' ⟨rfl, rfl⟩)
          go_ret2
          exact mk_worth rfl HR.out InI_zero HB2.out
        by_cases hC : x.op = 17 ∧ r1 ≠ 0
        · have HR : Hid (evalE (l + 1) x ns vs = (1, true)) := Lib.hid (by rw [HE2.out, if_neg hA, if_pos hC])
          have b16 : (x.op == 16) = false := by simp; omega
          have b17 : (x.op == 17) = true := by simpa using hC.1
          have z1 : (r1 != 0) = true := by simpa using hC.2
          have z2 : (r1 == 0) = false := by simpa using hC.2
          clear hA hC
          go_enter Try.func54, Try.ntmps54
          go_wp2_with (go_at_call 95; refine (arity_any _ _).mono ?_; rintro e w' ⟨rfl, rfl⟩)
          refine (IH.out d x.ks[0] _ _ _ ns vs _ HM0.out HOK0.out HKK0.out HNS.out HVS.out).mono ?_
          rintro e w2 ⟨rfl, hin, hb2⟩
          rw [hr.out] at hin ⊢
          dsimp only at hin ⊢
          have d0 := cell_next (g := w.heap.size) (j := 0) (u := .int .i64 x.op) hb2 (by simp [go_sem])
          have d3 := cell_next (g := w.heap.size) (j := 3) (u := .slice (some ⟨g, off, none⟩) x.ks.length cap) hb2 (by simp [go_sem])
          have HB2 := Lib.hid (HB1.out.trans (hb2.mono HB1.out.size))
          have HIN := Lib.hid hin
          clear hin hb2
          go_wp2_with (go_at_call 95; refine (arity_any _ _).mono ?_; rintro e w' ⟨rfl, rfl⟩)
          go_ret2
          exact mk_worth rfl HR.out (by unfold InI; omega) HB2.out
        have HE3 : Hid (evalE (l + 1) x ns vs = if q2 = false then (0, false) else (twoV x.op r1 q1, twoB x.op q1)) := Lib.hid (by rw [HE2.out, if_neg hA, if_neg hC])
        have hD : ((x.op == 16) = true ∧ (x.op == 17) = false ∧ (r1 != 0) = true ∧ (r1 == 0) = false) ∨ ((x.op == 16) = false ∧ (x.op == 17) = true ∧ (r1 != 0) = false ∧ (r1 == 0) = true) ∨ ((x.op == 16) = false ∧ (x.op == 17) = false ∧ True ∧ True) := by
          by_cases h16 : x.op = 16
          · left
            have : r1 ≠ 0 := fun h => hA ⟨h16, h⟩
            refine ⟨by simpa using h16, by simp; omega, by simpa using this, by simpa using this⟩
          · right
            by_cases h17 : x.op = 17
            · left
              have : r1 = 0 := by apply Decidable.byContradiction; intro h; exact hC ⟨h17, h⟩
              refine ⟨by simpa using h16, by simpa using h17, by simpa using this, by simpa using this⟩
            · right
              exact ⟨by simpa using h16, by simpa using h17, trivial, trivial⟩
        clear HE2 hA hC
        rcases hD with ⟨b16, b17, z1, z2⟩ | ⟨b16, b17, z1, z2⟩ | ⟨b16, b17, z1, z2⟩
        all_goals
          go_enter Try.func54, Try.ntmps54
          go_wp2_with (go_at_call 95; refine (arity_any _ _).mono ?_; rintro e w' ⟨rfl, rfl⟩)
          refine (IH.out d x.ks[0] _ _ _ ns vs _ HM0.out HOK0.out HKK0.out HNS.out HVS.out).mono ?_
          rintro e w2 ⟨rfl, hin, hb2⟩
          rw [hr.out] at hin ⊢
          dsimp only at hin ⊢
          have d0 := cell_next (g := w.heap.size) (j := 0) (u := .int .i64 x.op) hb2 (by simp [go_sem])
          have d3 := cell_next (g := w.heap.size) (j := 3) (u := .slice (some ⟨g, off, none⟩) x.ks.length cap) hb2 (by simp [go_sem])
          have HB2 := Lib.hid (HB1.out.trans (hb2.mono HB1.out.size))
          have HIN := Lib.hid hin
          have e0 := cell_next hb2 s0
          have e1 := cell_next hb2 s1
          have e2 := cell_next hb2 s2
          have e3 := cell_next hb2 s3
          simp only [Nat.one_mul] at e0 e1 e2 e3
          have HK2 := Lib.hid (HKK1.out.next hb2)
          have HNS2 := Lib.hid (HNS.out.next hb2)
          have HVS2 := Lib.hid (HVS.out.next hb2)
          clear hb2 s0 s1 s2 s3
          go_wp2_with (go_at_call 95; refine (arity_any _ _).mono ?_; rintro e w' ⟨rfl, rfl⟩)
          refine (IH.out d x.ks[1] _ _ _ ns vs _ HM1.out HOK1.out HK2.out HNS2.out HVS2.out).mono ?_
          rintro e w3 ⟨rfl, hin2, hb3⟩
          rw [hq.out] at hin2 ⊢
          dsimp only at hin2 ⊢
          have f0 := cell_next hb3 d0
          have HB3 := Lib.hid (HB2.out.trans (hb3.mono HB2.out.size))
          clear hb3
          cases q2 with
          | false =>
            have HR : Hid (evalE (l + 1) x ns vs = (0, false)) := Lib.hid (by rw [HE3.out]; rfl)
            go_wp2_with (go_at_call 95; refine (arity_any _ _).mono ?_; rintro e w' ⟨rfl, rfl⟩)
            go_ret2
            exact mk_worth rfl HR.out InI_zero HB3.out
          | true =>
            have HR : Hid (evalE (l + 1) x ns vs = (twoV x.op r1 q1, twoB x.op q1)) := Lib.hid (by rw [HE3.out]; rfl)
            go_wp2_with fail
            refine (rtwo_any _ _ _ _ hin hin2).mono ?_
            rintro e w' ⟨rfl, rfl⟩
            go_wp2_with fail
            go_ret2
            exact mk_worth rfl HR.out (InI_two _ _ _ HIN.out) HB3.out
set_option maxHeartbeats 1000000 in
theorem evalOf_any (d : Nat) (x : Ex) (kv nv vv : Value) (ns : List ByteArray) (vs : List Int) (w : World) (hok : OkE x) (hk : ExK d w kv x.ks) (hns : StrsAt w nv ns) (hvs : IntsAt w vv vs) :
    Calls Try.prog 20 #[exV x kv, nv, vv] w (Worth (if mayE 20 x then evalE 20 x ns vs else (0, false)) w) := by
  obtain ⟨a, cap, rfl, hc1, hc2⟩ := hk.form
  obtain ⟨na, nc, rfl, _, _⟩ := hns.form
  obtain ⟨va, vc, rfl, _, _⟩ := hvs.form
  have hbox := boxed w (.cells #[.int .i64 x.op, .int .i64 x.n, .string x.nm, .slice a x.ks.length cap] 24)
  have HB1 := Lib.hid hbox
  have HK1 := Lib.hid (hk.next hbox)
  have HNS := Lib.hid (hns.next hbox)
  have HVS := Lib.hid (hvs.next hbox)
  have HOK := Lib.hid hok
  clear hbox hk hok hns hvs
  unfold exV
  cases hm : mayE 20 x with
  | false =>
    have HR : Hid ((if false = true then evalE 20 x ns vs else (0, false)) = ((0 : Int), false)) := Lib.hid rfl
    have HM := Lib.hid hm
    clear hm
    go_enter Try.func20, Try.ntmps20
    go_wp2_with fail
    refine (mayExpr_any d x _ _ HOK.out HK1.out).mono ?_
    rintro e w2 ⟨rfl, hb2⟩
    rw [HM.out]
    have HB2 := Lib.hid (HB1.out.trans (hb2.mono HB1.out.size))
    clear hb2
    go_wp2_with fail
    go_ret2
    exact mk_worth rfl HR.out InI_zero HB2.out
  | true =>
    have HR : Hid ((if true = true then evalE 20 x ns vs else (0, false)) = evalE 20 x ns vs) := Lib.hid rfl
    have HM := Lib.hid hm
    clear hm
    go_enter Try.func20, Try.ntmps20
    go_wp2_with fail
    refine (mayExpr_any d x _ _ HOK.out HK1.out).mono ?_
    rintro e w2 ⟨rfl, hb2⟩
    rw [HM.out]
    have HB2 := Lib.hid (HB1.out.trans (hb2.mono HB1.out.size))
    have HK2 := Lib.hid (HK1.out.next hb2)
    have HNS2 := Lib.hid (HNS.out.next hb2)
    have HVS2 := Lib.hid (HVS.out.next hb2)
    have c0 := cell_next (g := w.heap.size) (j := 0) (u := .int .i64 x.op) hb2 (by simp [go_sem])
    have c1 := cell_next (g := w.heap.size) (j := 1) (u := .int .i64 x.n) hb2 (by simp [go_sem])
    have c2 := cell_next (g := w.heap.size) (j := 2) (u := .string x.nm) hb2 (by simp [go_sem])
    have c3 := cell_next (g := w.heap.size) (j := 3) (u := .slice a x.ks.length cap) hb2 (by simp [go_sem])
    clear hb2
    go_wp2_with fail
    refine (of_any 20 d x _ _ _ ns vs _ HM.out HOK.out HK2.out HNS2.out HVS2.out).mono ?_
    rintro e w3 ⟨rfl, hin, hb3⟩
    have HIN := Lib.hid hin
    have HB3 := Lib.hid (HB2.out.trans (hb3.mono HB2.out.size))
    clear hb3 hin
    go_wp2_with fail
    go_ret2
    exact mk_worth rfl HR.out HIN.out HB3.out
set_option maxHeartbeats 1000000 in
theorem rEval_any (d : Nat) (x : Ex) (kv nv vv : Value) (ns : List ByteArray) (vs : List Int) (w : World) (hok : OkE x) (hk : ExK d w kv x.ks) (hns : StrsAt w nv ns) (hvs : IntsAt w vv vs) :
    Calls Try.prog 21 #[exV x kv, nv, vv] w (Worth (if mayE 20 x then evalE 20 x ns vs else (0, false)) w) := by
  obtain ⟨a, cap, rfl, hc1, hc2⟩ := hk.form
  obtain ⟨na, nc, rfl, _, _⟩ := hns.form
  obtain ⟨va, vc, rfl, _, _⟩ := hvs.form
  have hbox := boxed w (.cells #[.int .i64 x.op, .int .i64 x.n, .string x.nm, .slice a x.ks.length cap] 24)
  have HB1 := Lib.hid hbox
  have HK1 := Lib.hid (hk.next hbox)
  have HNS := Lib.hid (hns.next hbox)
  have HVS := Lib.hid (hvs.next hbox)
  have HOK := Lib.hid hok
  clear hbox hk hok hns hvs
  unfold exV
  cases hm : mayE 20 x with
  | false =>
    have HR : Hid ((if false = true then evalE 20 x ns vs else (0, false)) = ((0 : Int), false)) := Lib.hid rfl
    have HM := Lib.hid hm
    clear hm
    go_enter Try.func21, Try.ntmps21
    go_wp2_with fail
    refine (rmayExpr_any d x _ _ HOK.out HK1.out).mono ?_
    rintro e w2 ⟨rfl, hb2⟩
    rw [HM.out]
    have HB2 := Lib.hid (HB1.out.trans (hb2.mono HB1.out.size))
    clear hb2
    go_wp2_with fail
    go_ret2
    exact mk_worth rfl HR.out InI_zero HB2.out
  | true =>
    have HR : Hid ((if true = true then evalE 20 x ns vs else (0, false)) = evalE 20 x ns vs) := Lib.hid rfl
    have HM := Lib.hid hm
    clear hm
    go_enter Try.func21, Try.ntmps21
    go_wp2_with fail
    refine (rmayExpr_any d x _ _ HOK.out HK1.out).mono ?_
    rintro e w2 ⟨rfl, hb2⟩
    rw [HM.out]
    have HB2 := Lib.hid (HB1.out.trans (hb2.mono HB1.out.size))
    have HK2 := Lib.hid (HK1.out.next hb2)
    have HNS2 := Lib.hid (HNS.out.next hb2)
    have HVS2 := Lib.hid (HVS.out.next hb2)
    have c0 := cell_next (g := w.heap.size) (j := 0) (u := .int .i64 x.op) hb2 (by simp [go_sem])
    have c1 := cell_next (g := w.heap.size) (j := 1) (u := .int .i64 x.n) hb2 (by simp [go_sem])
    have c2 := cell_next (g := w.heap.size) (j := 2) (u := .string x.nm) hb2 (by simp [go_sem])
    have c3 := cell_next (g := w.heap.size) (j := 3) (u := .slice a x.ks.length cap) hb2 (by simp [go_sem])
    clear hb2
    go_wp2_with fail
    refine (worth_any 20 d x _ _ _ ns vs _ HM.out HOK.out HK2.out HNS2.out HVS2.out).mono ?_
    rintro e w3 ⟨rfl, hin, hb3⟩
    have HIN := Lib.hid hin
    have HB3 := Lib.hid (HB2.out.trans (hb3.mono HB2.out.size))
    clear hb3 hin
    go_wp2_with fail
    go_ret2
    exact mk_worth rfl HR.out HIN.out HB3.out
end Go.Proofs.Ytnbclbphggmenaa.Tr
