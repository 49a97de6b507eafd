/- What eval.of, eval.Of and the reference's worth, Eval compute: what an expression is worth. Conditions: the expression, the names, the values lie in memory; of, worth: the expression may be.
   Plain laws of what expressions are worth: it hangs not on how deep one may look. No program. Conditions: none.
   What reckoned answers: expressions are worth something. Conditions: none.
   The law EvalAll, walked: it returns true. Conditions: the arguments lie in memory. -/
import Derived.Test.YtnbclbphggmenaaBMay
import Derived.Test.YtnbclbphggmenaaBWord
import Derived.Test.YtnbclbphggmenaaSomeW
import Derived.Test.YtnbclbphggmenaaBTr
import Derived.RegionTactic
import Derived.Deep.QuietTactic
import Derived.BigQuiet
section
namespace Go.Proofs.Ytnbclbphggmenaa.Tr
open Go.RowKit Go.Proofs.Ytnbclbphggmenaa.Lx Go.Proofs.Ytnbclbphggmenaa.Wd
theorem ev_num {l : Nat} {x : Ex} {ns : List ByteArray} {vs : List Int} (h : x.op = 1) : evalE (l + 1) x ns vs = (x.n, true) := by rw [evalE, if_pos h]
theorem ev_name {l : Nat} {x : Ex} {ns : List ByteArray} {vs : List Int} (h : x.op = 2) : evalE (l + 1) x ns vs = (look x.nm ns vs, true) := by rw [evalE, if_neg (by omega), if_pos h]
theorem ev_one {l : Nat} {x a : Ex} {ns : List ByteArray} {vs : List Int} (h1 : x.op ≠ 1) (h2 : x.op ≠ 2) (hk : x.ks = [a]) : evalE (l + 1) x ns vs = if (evalE l a ns vs).2 = false then (0, false) else (oneV x.op (evalE l a ns vs).1, oneB x.op) := by
  rw [evalE, if_neg h1, if_neg h2, hk]
theorem ev_two {l : Nat} {x a b : Ex} {ns : List ByteArray} {vs : List Int} (h1 : x.op ≠ 1) (h2 : x.op ≠ 2) (hk : x.ks = [a, b]) : evalE (l + 1) x ns vs =
    if (evalE l a ns vs).2 = false then (0, false) else if x.op = 16 ∧ (evalE l a ns vs).1 = 0 then (0, true) else if x.op = 17 ∧ (evalE l a ns vs).1 ≠ 0 then (1, true)
    else if (evalE l b ns vs).2 = false then (0, false) else (twoV x.op (evalE l a ns vs).1 (evalE l b ns vs).1, twoB x.op (evalE l b ns vs).1) := by
  rw [evalE, if_neg h1, if_neg h2, hk]
theorem list_one {α : Type} : ∀ {l : List α} (h : l.length = 1), l = [l[0]]
  | [_], _ => rfl
theorem list_two {α : Type} : ∀ {l : List α} (h : l.length = 2), l = [l[0], l[1]]
  | [_, _], _ => rfl
/-- What an evaluation leaves. -/
def Worth (r : Int × Bool) (w : World) (e : Ending) (w' : World) : Prop := e = .returned (.tuple #[.int .i64 r.1, .bool r.2]) ∧ InI r.1 ∧ Below w.heap.size w w'
theorem mk_worth {r : Int × Bool} {w w' : World} {e : Ending} {p : Int} {q : Bool} (he : e = .returned (.tuple #[.int .i64 p, .bool q])) (hr : r = (p, q)) (hi : InI p) (hb : Below w.heap.size w w') : Worth r w e w' := by
  subst hr; exact ⟨he, hi, hb⟩
theorem look_in {s : ByteArray} {ns : List ByteArray} {vs : List Int} (h : ∀ v ∈ vs, InI v) : InI (look s ns vs) := by
  unfold look
  split
  · rename_i i _
    rcases Nat.lt_or_ge i vs.length with hi | hi
    · simp only [List.getD, List.getElem?_eq_getElem hi, Option.getD_some]; exact h _ (List.getElem_mem hi)
    · simp only [List.getD, List.getElem?_eq_none hi, Option.getD_none]; exact InI_zero
  · exact InI_zero
theorem IntsAt.all {w : World} {v : Value} {l : List Int} (h : IntsAt w v l) : ∀ x ∈ l, InI x := by
  intro x hx
  obtain ⟨g, off, cap, _, hc⟩ := h.cells (List.ne_nil_of_mem hx)
  obtain ⟨i, hi, rfl⟩ := List.getElem_of_mem hx
  exact (hc i hi).1
set_option maxHeartbeats 8000000 in
set_option maxRecDepth 100000 in
theorem of_any : ∀ (l d : Nat) (x : Ex) (kv nv vv : Value) (ns : List ByteArray) (vs : List Int) (w : World), mayE l x = true → OkE x → ExK d w kv x.ks → StrsAt w nv ns → IntsAt w vv vs →
    Calls Try.prog 53 #[exV x kv, nv, vv] w (Worth (evalE l x ns vs) w) := by
  intro l
  induction l with
  | zero => intro d x kv nv vv ns vs w h; cases h
  | succ l ih =>
    intro d x kv nv vv ns vs w hmay hok hk hns hvs
    obtain ⟨d, rfl⟩ : ∃ e, d = e + 1 := by
      cases d with
      | zero => exact hk.elim
      | succ e => exact ⟨e, rfl⟩
    have IH := Lib.hid ih
    obtain ⟨a, cap, rfl, hc1, hc2⟩ := hk.form
    obtain ⟨na, nc, rfl, _, _⟩ := hns.form
    obtain ⟨va, vc, rfl, _, _⟩ := hvs.form
    have hbox := boxed w (.cells #[.int .i64 x.op, .int .i64 x.n, .string x.nm, .slice a x.ks.length cap] 24)
    have HB1 := Lib.hid hbox
    have HK1 := Lib.hid (hk.next hbox)
    have HNS := Lib.hid (hns.next hbox)
    have HVS := Lib.hid (hvs.next hbox)
    have HVI := Lib.hid hvs.all
    have HON := Lib.hid hok.n
    rw [mayE_succ, Bool.and_eq_true, Bool.and_eq_true] at hmay
    obtain ⟨⟨hlen, hhead⟩, hall⟩ := hmay
    have hlen' : (x.ks.length : Int) = kidsOf x.op := by simpa using hlen
    have HALL := Lib.hid hall
    have HLEN := Lib.hid hlen'
    clear ih hbox hk hok hns hvs hlen hall hhead hlen'
    unfold exV
    by_cases h1 : x.op = 1
    · have HR := Lib.hid (ev_num (l := l) (ns := ns) (vs := vs) h1)
      have b1 : (x.op == 1) = true := by simpa using h1
      have b2 : (x.op == 2) = false := by simp; omega
      have k0 : (kidsOf x.op == 0) = true := by rw [h1]; rfl
      clear h1
      go_enter Try.func53, Try.ntmps53
      go_wp2_with (go_at_call 23; refine (truth_any _ _).mono ?_; rintro e w' ⟨rfl, rfl⟩)
      go_ret2
      exact mk_worth rfl HR.out HON.out HB1.out
    by_cases h2 : x.op = 2
    · have HR := Lib.hid (ev_name (l := l) (ns := ns) (vs := vs) h2)
      have HIL := Lib.hid (look_in (s := x.nm) (ns := ns) HVI.out)
      have b1 : (x.op == 1) = false := by simpa using h1
      have b2 : (x.op == 2) = true := by simpa using h2
      have k0 : (kidsOf x.op == 0) = true := by rw [h2]; rfl
      clear h1 h2
      cases hat : at_ x.nm ns with
      | none =>
        have hi : atI x.nm ns = -1 := by unfold atI; rw [hat]
        have hlk : look x.nm ns vs = 0 := by unfold look; rw [hat]
        rw [hlk] at HR HIL
        clear hlk hat
        go_enter Try.func53, Try.ntmps53
        go_wp2_with (go_at_call 23; refine (truth_any _ _).mono ?_; rintro e w' ⟨rfl, rfl⟩)
        refine (index_any ns _ _ _ HNS.out).mono ?_
        rintro e w' ⟨rfl, rfl⟩
        rw [hi]
        clear hi
        go_wp2_with fail
        go_ret2
        exact mk_worth rfl HR.out HIL.out HB1.out
      | some i =>
        have hi : atI x.nm ns = (i : Int) := by unfold atI; rw [hat]
        have hi0 : (0 : Int) ≤ (i : Int) := by omega
        by_cases hvl : i < vs.length
        · have hvl' : (i : Int) < (vs.length : Int) := by omega
          have hvne : vs ≠ [] := by intro h; rw [h] at hvl; simp at hvl
          obtain ⟨g2, off2, cap2, hv, hcells⟩ := HVS.out.cells hvne
          simp only [Value.slice.injEq] at hv
          obtain ⟨rfl, -, rfl⟩ := hv
          obtain ⟨-, q0⟩ := hcells i hvl
          have hlk : look x.nm ns vs = vs[i] := by unfold look; rw [hat]; simp [List.getD, List.getElem?_eq_getElem hvl]
          rw [hlk] at HR HIL
          generalize vs[i] = y at *
          have HI := Lib.hid hi
          clear hlk hat hcells hvne hi
          go_enter Try.func53, Try.ntmps53
          go_wp2_with (go_at_call 23; refine (truth_any _ _).mono ?_; rintro e w' ⟨rfl, rfl⟩)
          refine (index_any ns _ _ _ HNS.out).mono ?_
          rintro e w' ⟨rfl, rfl⟩
          rw [HI.out]
          go_wp2_with fail
          go_ret2
          exact mk_worth rfl HR.out HIL.out HB1.out
        · have hvl' : ¬ (i : Int) < (vs.length : Int) := by omega
          have hlk : look x.nm ns vs = 0 := by unfold look; rw [hat]; simp [List.getD, List.getElem?_eq_none (show vs.length ≤ i by omega)]
          rw [hlk] at HR HIL
          have HI := Lib.hid hi
          clear hlk hat hi
          go_enter Try.func53, Try.ntmps53
          go_wp2_with (go_at_call 23; refine (truth_any _ _).mono ?_; rintro e w' ⟨rfl, rfl⟩)
          refine (index_any ns _ _ _ HNS.out).mono ?_
          rintro e w' ⟨rfl, rfl⟩
          rw [HI.out]
          go_wp2_with fail
          go_ret2
          exact mk_worth rfl HR.out HIL.out HB1.out
    have b1 : (x.op == 1) = false := by simpa using h1
    have b2 : (x.op == 2) = false := by simpa using h2
    by_cases h34 : x.op = 3 ∨ x.op = 4
    · have hk1 : kidsOf x.op = 1 := by unfold kidsOf; rw [if_neg (by omega), if_pos h34]
      have hl1 : x.ks.length = 1 := by have := HLEN.out; rw [hk1] at this; omega
      have hlb : ((x.ks.length : Int) == 1) = true := by simp; omega
      have hl0 : 0 < x.ks.length := by omega
      have hl0' : (0 : Int) < (x.ks.length : Int) := by omega
      have k0 : (kidsOf x.op == 0) = false := by rw [hk1]; rfl
      have k1 : (kidsOf x.op == 1) = true := by rw [hk1]; rfl
      have hne : x.ks ≠ [] := by intro h; rw [h] at hl0; simp at hl0
      have hks : x.ks = [x.ks[0]] := list_one hl1
      have HE := Lib.hid (ev_one (l := l) (ns := ns) (vs := vs) h1 h2 hks)
      obtain ⟨g, off, cap', hv, _, _, hcells⟩ := HK1.out.kids hne
      simp only [Value.slice.injEq] at hv
      obtain ⟨rfl, -, rfl⟩ := hv
      obtain ⟨hok0, u0, p0, p1, p2, p3, hku0⟩ := hcells 0 hl0
      obtain ⟨au0, cu0, rfl, -, -⟩ := hku0.form
      simp only [Nat.zero_mul, Nat.add_zero] at p0 p1 p2 p3
      have HKK0 := Lib.hid hku0
      have HOK0 := Lib.hid hok0
      have HM0 := Lib.hid (List.all_eq_true.1 HALL.out x.ks[0] (List.getElem_mem hl0))
      have hgl := cell_lt p0
      obtain ⟨r1, r2, hr⟩ : ∃ r1 r2, Hid (evalE l x.ks[0] ns vs = (r1, r2)) := ⟨_, _, Lib.hid rfl⟩
      rw [hr.out] at HE
      clear h1 h2 h34 hk1 hl1 hne hks hcells hok0 hku0
      cases r2 with
      | false =>
        have HR : Hid (evalE (l + 1) x ns vs = (0, false)) := Lib.hid (by rw [HE.out]; rfl)
        go_enter Try.func53, Try.ntmps53
        go_wp2_with (go_at_call 23; refine (truth_any _ _).mono ?_; rintro e w' ⟨rfl, rfl⟩)
        refine (IH.out d x.ks[0] _ _ _ ns vs _ HM0.out HOK0.out HKK0.out HNS.out HVS.out).mono ?_
        rintro e w2 ⟨rfl, hin, hb2⟩
        rw [hr.out] at hin ⊢
        dsimp only at hin ⊢
        have d0 := cell_next (g := w.heap.size) (j := 0) (u := .int .i64 x.op) hb2 (by simp [go_sem])
        have d3 := cell_next (g := w.heap.size) (j := 3) (u := .slice (some ⟨g, off, none⟩) x.ks.length cap) hb2 (by simp [go_sem])
        have HB2 := Lib.hid (HB1.out.trans (hb2.mono HB1.out.size))
        have HIN := Lib.hid hin
        clear hin hb2
        go_wp2_with (go_at_call 23; refine (truth_any _ _).mono ?_; rintro e w' ⟨rfl, rfl⟩)
        go_ret2
        exact mk_worth rfl HR.out InI_zero HB2.out
      | true =>
        have HR : Hid (evalE (l + 1) x ns vs = (oneV x.op r1, oneB x.op)) := Lib.hid (by rw [HE.out]; rfl)
        go_enter Try.func53, Try.ntmps53
        go_wp2_with (go_at_call 23; refine (truth_any _ _).mono ?_; rintro e w' ⟨rfl, rfl⟩)
        refine (IH.out d x.ks[0] _ _ _ ns vs _ HM0.out HOK0.out HKK0.out HNS.out HVS.out).mono ?_
        rintro e w2 ⟨rfl, hin, hb2⟩
        rw [hr.out] at hin ⊢
        dsimp only at hin ⊢
        have d0 := cell_next (g := w.heap.size) (j := 0) (u := .int .i64 x.op) hb2 (by simp [go_sem])
        have d3 := cell_next (g := w.heap.size) (j := 3) (u := .slice (some ⟨g, off, none⟩) x.ks.length cap) hb2 (by simp [go_sem])
        have HB2 := Lib.hid (HB1.out.trans (hb2.mono HB1.out.size))
        have HIN := Lib.hid hin
        clear hb2
        go_wp2_with fail
        refine (one_any _ _ _).mono ?_
        rintro e w' ⟨rfl, rfl⟩
        go_wp2_with fail
        go_ret2
        exact mk_worth rfl HR.out (InI_one _ _) HB2.out
    · have hk2 : kidsOf x.op = 2 := by
        have := HLEN.out
        unfold kidsOf at this ⊢
        rw [if_neg (by omega), if_neg h34] at this ⊢
        split at this
        · rename_i h; rw [if_pos h]
        · omega
      have hl2 : x.ks.length = 2 := by have := HLEN.out; rw [hk2] at this; omega
      have hlb : ((x.ks.length : Int) == 1) = false := by simp; omega
      have hl0 : 0 < x.ks.length := by omega
      have hl1 : 1 < x.ks.length := by omega
      have hl0' : (0 : Int) < (x.ks.length : Int) := by omega
      have hl1' : (1 : Int) < (x.ks.length : Int) := by omega
      have k0 : (kidsOf x.op == 0) = false := by rw [hk2]; rfl
      have k1 : (kidsOf x.op == 1) = false := by rw [hk2]; rfl
      have hne : x.ks ≠ [] := by intro h; rw [h] at hl0; simp at hl0
      have hks : x.ks = [x.ks[0], x.ks[1]] := list_two hl2
      have HE := Lib.hid (ev_two (l := l) (ns := ns) (vs := vs) h1 h2 hks)
      obtain ⟨g, off, cap', hv, _, _, hcells⟩ := HK1.out.kids hne
      simp only [Value.slice.injEq] at hv
      obtain ⟨rfl, -, rfl⟩ := hv
      obtain ⟨hok0, u0, p0, p1, p2, p3, hku0⟩ := hcells 0 hl0
      obtain ⟨au0, cu0, rfl, -, -⟩ := hku0.form
      simp only [Nat.zero_mul, Nat.add_zero] at p0 p1 p2 p3
      have HKK0 := Lib.hid hku0
      have HOK0 := Lib.hid hok0
      have HM0 := Lib.hid (List.all_eq_true.1 HALL.out x.ks[0] (List.getElem_mem hl0))
      have hgl := cell_lt p0
      obtain ⟨r1, r2, hr⟩ : ∃ r1 r2, Hid (evalE l x.ks[0] ns vs = (r1, r2)) := ⟨_, _, Lib.hid rfl⟩
      obtain ⟨hok1, u1, s0, s1, s2, s3, hku1⟩ := hcells 1 hl1
      obtain ⟨au1, cu1, rfl, -, -⟩ := hku1.form
      have HKK1 := Lib.hid hku1
      have HOK1 := Lib.hid hok1
      have HM1 := Lib.hid (List.all_eq_true.1 HALL.out x.ks[1] (List.getElem_mem hl1))
      obtain ⟨q1, q2, hq⟩ : ∃ q1 q2, Hid (evalE l x.ks[1] ns vs = (q1, q2)) := ⟨_, _, Lib.hid rfl⟩
      rw [hr.out, hq.out] at HE
      clear h1 h2 h34 hk2 hl2 hne hks hcells hok0 hku0 hok1 hku1
      cases r2 with
      | false =>
        have HR : Hid (evalE (l + 1) x ns vs = (0, false)) := Lib.hid (by rw [HE.out]; rfl)
        go_enter Try.func53, Try.ntmps53
        go_wp2_with (go_at_call 23; refine (truth_any _ _).mono ?_; rintro e w' ⟨rfl, rfl⟩)
        refine (IH.out d x.ks[0] _ _ _ ns vs _ HM0.out HOK0.out HKK0.out HNS.out HVS.out).mono ?_
        rintro e w2 ⟨rfl, hin, hb2⟩
        rw [hr.out] at hin ⊢
        dsimp only at hin ⊢
        have d0 := cell_next (g := w.heap.size) (j := 0) (u := .int .i64 x.op) hb2 (by simp [go_sem])
        have d3 := cell_next (g := w.heap.size) (j := 3) (u := .slice (some ⟨g, off, none⟩) x.ks.length cap) hb2 (by simp [go_sem])
        have HB2 := Lib.hid (HB1.out.trans (hb2.mono HB1.out.size))
        have HIN := Lib.hid hin
        clear hin hb2
        go_wp2_with (go_at_call 23; refine (truth_any _ _).mono ?_; rintro e w' ⟨rfl, rfl⟩)
        go_ret2
        exact mk_worth rfl HR.out InI_zero HB2.out
      | true =>
        have HE2 : Hid (evalE (l + 1) x ns vs = if x.op = 16 ∧ r1 = 0 then (0, true) else if x.op = 17 ∧ r1 ≠ 0 then (1, true) else if q2 = false then (0, false) else (twoV x.op r1 q1, twoB x.op q1)) := Lib.hid (by rw [HE.out]; rfl)
        clear HE
        by_cases hA : x.op = 16 ∧ r1 = 0
        · have HR : Hid (evalE (l + 1) x ns vs = (0, true)) := Lib.hid (by rw [HE2.out, if_pos hA])
          have b16 : (x.op == 16) = true := by simpa using hA.1
          have z1 : (r1 != 0) = false := by simpa using hA.2
          have z2 : (r1 == 0) = true := by simpa using hA.2
          clear hA
          go_enter Try.func53, Try.ntmps53
          go_wp2_with (go_at_call 23; refine (truth_any _ _).mono ?_; rintro e w' ⟨rfl, rfl⟩)
          refine (IH.out d x.ks[0] _ _ _ ns vs _ HM0.out HOK0.out HKK0.out HNS.out HVS.out).mono ?_
          rintro e w2 ⟨rfl, hin, hb2⟩
          rw [hr.out] at hin ⊢
          dsimp only at hin ⊢
          have d0 := cell_next (g := w.heap.size) (j := 0) (u := .int .i64 x.op) hb2 (by simp [go_sem])
          have d3 := cell_next (g := w.heap.size) (j := 3) (u := .slice (some ⟨g, off, none⟩) x.ks.length cap) hb2 (by simp [go_sem])
          have HB2 := Lib.hid (HB1.out.trans (hb2.mono HB1.out.size))
          have HIN := Lib.hid hin
          clear hin hb2
          go_wp2_with (go_at_call 23; refine (truth_any _ _).mono ?_; rintro e w' ⟨rfl, rfl⟩)
          go_ret2
          exact mk_worth rfl HR.out InI_zero HB2.out
        by_cases hC : x.op = 17 ∧ r1 ≠ 0
        · have HR : Hid (evalE (l + 1) x ns vs = (1, true)) := Lib.hid (by rw [HE2.out, if_neg hA, if_pos hC])
          have b16 : (x.op == 16) = false := by simp; omega
          have b17 : (x.op == 17) = true := by simpa using hC.1
          have z1 : (r1 != 0) = true := by simpa using hC.2
          have z2 : (r1 == 0) = false := by simpa using hC.2
          clear hA hC
          go_enter Try.func53, Try.ntmps53
          go_wp2_with (go_at_call 23; refine (truth_any _ _).mono ?_; rintro e w' ⟨rfl, rfl⟩)
          refine (IH.out d x.ks[0] _ _ _ ns vs _ HM0.out HOK0.out HKK0.out HNS.out HVS.out).mono ?_
          rintro e w2 ⟨rfl, hin, hb2⟩
          rw [hr.out] at hin ⊢
          dsimp only at hin ⊢
          have d0 := cell_next (g := w.heap.size) (j := 0) (u := .int .i64 x.op) hb2 (by simp [go_sem])
          have d3 := cell_next (g := w.heap.size) (j := 3) (u := .slice (some ⟨g, off, none⟩) x.ks.length cap) hb2 (by simp [go_sem])
          have HB2 := Lib.hid (HB1.out.trans (hb2.mono HB1.out.size))
          have HIN := Lib.hid hin
          clear hin hb2
          go_wp2_with (go_at_call 23; refine (truth_any _ _).mono ?_; rintro e w' ⟨rfl, rfl⟩)
          go_ret2
          exact mk_worth rfl HR.out (by unfold InI; omega) HB2.out
        have HE3 : Hid (evalE (l + 1) x ns vs = if q2 = false then (0, false) else (twoV x.op r1 q1, twoB x.op q1)) := Lib.hid (by rw [HE2.out, if_neg hA, if_neg hC])
        have hD : ((x.op == 16) = true ∧ (x.op == 17) = false ∧ (r1 != 0) = true ∧ (r1 == 0) = false) ∨ ((x.op == 16) = false ∧ (x.op == 17) = true ∧ (r1 != 0) = false ∧ (r1 == 0) = true) ∨ ((x.op == 16) = false ∧ (x.op == 17) = false ∧ True ∧ True) := by
          by_cases h16 : x.op = 16
          · left
            have : r1 ≠ 0 := fun h => hA ⟨h16, h⟩
            refine ⟨by simpa using h16, by simp; omega, by simpa using this, by simpa using this⟩
          · right
            by_cases h17 : x.op = 17
            · left
              have : r1 = 0 := by apply Decidable.byContradiction; intro h; exact hC ⟨h17, h⟩
              refine ⟨by simpa using h16, by simpa using h17, by simpa using this, by simpa using this⟩
            · right
              exact ⟨by simpa using h16, by simpa using h17, trivial, trivial⟩
        clear HE2 hA hC
        rcases hD with ⟨b16, b17, z1, z2⟩ | ⟨b16, b17, z1, z2⟩ | ⟨b16, b17, z1, z2⟩
        all_goals
          go_enter Try.func53, Try.ntmps53
          go_wp2_with (go_at_call 23; refine (truth_any _ _).mono ?_; rintro e w' ⟨rfl, rfl⟩)
          refine (IH.out d x.ks[0] _ _ _ ns vs _ HM0.out HOK0.out HKK0.out HNS.out HVS.out).mono ?_
          rintro e w2 ⟨rfl, hin, hb2⟩
          rw [hr.out] at hin ⊢
          dsimp only at hin ⊢
          have d0 := cell_next (g := w.heap.size) (j := 0) (u := .int .i64 x.op) hb2 (by simp [go_sem])
          have d3 := cell_next (g := w.heap.size) (j := 3) (u := .slice (some ⟨g, off, none⟩) x.ks.length cap) hb2 (by simp [go_sem])
          have HB2 := Lib.hid (HB1.out.trans (hb2.mono HB1.out.size))
          have HIN := Lib.hid hin
          have e0 := cell_next hb2 s0
          have e1 := cell_next hb2 s1
          have e2 := cell_next hb2 s2
          have e3 := cell_next hb2 s3
          simp only [Nat.one_mul] at e0 e1 e2 e3
          have HK2 := Lib.hid (HKK1.out.next hb2)
          have HNS2 := Lib.hid (HNS.out.next hb2)
          have HVS2 := Lib.hid (HVS.out.next hb2)
          clear hb2 s0 s1 s2 s3
          go_wp2_with (go_at_call 23; refine (truth_any _ _).mono ?_; rintro e w' ⟨rfl, rfl⟩)
          refine (IH.out d x.ks[1] _ _ _ ns vs _ HM1.out HOK1.out HK2.out HNS2.out HVS2.out).mono ?_
          rintro e w3 ⟨rfl, hin2, hb3⟩
          rw [hq.out] at hin2 ⊢
          dsimp only at hin2 ⊢
          have f0 := cell_next hb3 d0
          have HB3 := Lib.hid (HB2.out.trans (hb3.mono HB2.out.size))
          clear hb3
          cases q2 with
          | false =>
            have HR : Hid (evalE (l + 1) x ns vs = (0, false)) := Lib.hid (by rw [HE3.out]; rfl)
            go_wp2_with (go_at_call 23; refine (truth_any _ _).mono ?_; rintro e w' ⟨rfl, rfl⟩)
            go_ret2
            exact mk_worth rfl HR.out InI_zero HB3.out
          | true =>
            have HR : Hid (evalE (l + 1) x ns vs = (twoV x.op r1 q1, twoB x.op q1)) := Lib.hid (by rw [HE3.out]; rfl)
            go_wp2_with fail
            refine (two_any _ _ _ _ hin hin2).mono ?_
            rintro e w' ⟨rfl, rfl⟩
            go_wp2_with fail
            go_ret2
            exact mk_worth rfl HR.out (InI_two _ _ _ HIN.out) HB3.out
set_option maxHeartbeats 8000000 in
set_option maxRecDepth 100000 in
theorem worth_any : ∀ (l d : Nat) (x : Ex) (kv nv vv : Value) (ns : List ByteArray) (vs : List Int) (w : World), mayE l x = true → OkE x → ExK d w kv x.ks → StrsAt w nv ns → IntsAt w vv vs →
    Calls Try.prog 54 #[exV x kv, nv, vv] w (Worth (evalE l x ns vs) w) := by
  intro l
  induction l with
  | zero => intro d x kv nv vv ns vs w h; cases h
  | succ l ih =>
    intro d x kv nv vv ns vs w hmay hok hk hns hvs
    obtain ⟨d, rfl⟩ : ∃ e, d = e + 1 := by
      cases d with
      | zero => exact hk.elim
      | succ e => exact ⟨e, rfl⟩
    have IH := Lib.hid ih
    obtain ⟨a, cap, rfl, hc1, hc2⟩ := hk.form
    obtain ⟨na, nc, rfl, _, _⟩ := hns.form
    obtain ⟨va, vc, rfl, _, _⟩ := hvs.form
    have hbox := boxed w (.cells #[.int .i64 x.op, .int .i64 x.n, .string x.nm, .slice a x.ks.length cap] 24)
    have HB1 := Lib.hid hbox
    have HK1 := Lib.hid (hk.next hbox)
    have HNS := Lib.hid (hns.next hbox)
    have HVS := Lib.hid (hvs.next hbox)
    have HVI := Lib.hid hvs.all
    have HON := Lib.hid hok.n
    rw [mayE_succ, Bool.and_eq_true, Bool.and_eq_true] at hmay
    obtain ⟨⟨hlen, hhead⟩, hall⟩ := hmay
    have hlen' : (x.ks.length : Int) = kidsOf x.op := by simpa using hlen
    have HALL := Lib.hid hall
    have HLEN := Lib.hid hlen'
    clear ih hbox hk hok hns hvs hlen hall hhead hlen'
    unfold exV
    by_cases h1 : x.op = 1
    · have HR := Lib.hid (ev_num (l := l) (ns := ns) (vs := vs) h1)
      have b1 : (x.op == 1) = true := by simpa using h1
      have b2 : (x.op == 2) = false := by simp; omega
      have k0 : (kidsOf x.op == 0) = true := by rw [h1]; rfl
      clear h1
      go_enter Try.func54, Try.ntmps54
      go_wp2_with (go_at_call 95; refine (arity_any _ _).mono ?_; rintro e w' ⟨rfl, rfl⟩)
      go_ret2
      exact mk_worth rfl HR.out HON.out HB1.out
    by_cases h2 : x.op = 2
    · have HR := Lib.hid (ev_name (l := l) (ns := ns) (vs := vs) h2)
      have HIL := Lib.hid (look_in (s := x.nm) (ns := ns) HVI.out)
      have b1 : (x.op == 1) = false := by simpa using h1
      have b2 : (x.op == 2) = true := by simpa using h2
      have k0 : (kidsOf x.op == 0) = true := by rw [h2]; rfl
      clear h1 h2
      go_enter Try.func54, Try.ntmps54
      go_wp2_with (go_at_call 95; refine (arity_any _ _).mono ?_; rintro e w' ⟨rfl, rfl⟩)
      refine (look_any ns _ vs _ _ _ HNS.out HVS.out).mono ?_
      rintro e w' ⟨rfl, rfl⟩
      go_wp2_with fail
      go_ret2
      exact mk_worth rfl HR.out HIL.out HB1.out
    have b1 : (x.op == 1) = false := by simpa using h1
    have b2 : (x.op == 2) = false := by simpa using h2
    by_cases h34 : x.op = 3 ∨ x.op = 4
    · have hk1 : kidsOf x.op = 1 := by unfold kidsOf; rw [if_neg (by omega), if_pos h34]
      have hl1 : x.ks.length = 1 := by have := HLEN.out; rw [hk1] at this; omega
      have hlb : ((x.ks.length : Int) == 1) = true := by simp; omega
      have hl0 : 0 < x.ks.length := by omega
      have hl0' : (0 : Int) < (x.ks.length : Int) := by omega
      have k0 : (kidsOf x.op == 0) = false := by rw [hk1]; rfl
      have k1 : (kidsOf x.op == 1) = true := by rw [hk1]; rfl
      have hne : x.ks ≠ [] := by intro h; rw [h] at hl0; simp at hl0
      have hks : x.ks = [x.ks[0]] := list_one hl1
      have HE := Lib.hid (ev_one (l := l) (ns := ns) (vs := vs) h1 h2 hks)
      obtain ⟨g, off, cap', hv, _, _, hcells⟩ := HK1.out.kids hne
      simp only [Value.slice.injEq] at hv
      obtain ⟨rfl, -, rfl⟩ := hv
      obtain ⟨hok0, u0, p0, p1, p2, p3, hku0⟩ := hcells 0 hl0
      obtain ⟨au0, cu0, rfl, -, -⟩ := hku0.form
      simp only [Nat.zero_mul, Nat.add_zero] at p0 p1 p2 p3
      have HKK0 := Lib.hid hku0
      have HOK0 := Lib.hid hok0
      have HM0 := Lib.hid (List.all_eq_true.1 HALL.out x.ks[0] (List.getElem_mem hl0))
      have hgl := cell_lt p0
      obtain ⟨r1, r2, hr⟩ : ∃ r1 r2, Hid (evalE l x.ks[0] ns vs = (r1, r2)) := ⟨_, _, Lib.hid rfl⟩
      rw [hr.out] at HE
      clear h1 h2 h34 hk1 hl1 hne hks hcells hok0 hku0
      cases r2 with
      | false =>
        have HR : Hid (evalE (l + 1) x ns vs = (0, false)) := Lib.hid (by rw [HE.out]; rfl)
        go_enter Try.func54, Try.ntmps54
        go_wp2_with (go_at_call 95; refine (arity_any _ _).mono ?_; rintro e w' ⟨rfl, rfl⟩)
        refine (IH.out d x.ks[0] _ _ _ ns vs _ HM0.out HOK0.out HKK0.out HNS.out HVS.out).mono ?_
        rintro e w2 ⟨rfl, hin, hb2⟩
        rw [hr.out] at hin ⊢
        dsimp only at hin ⊢
        have d0 := cell_next (g := w.heap.size) (j := 0) (u := .int .i64 x.op) hb2 (by simp [go_sem])
        have d3 := cell_next (g := w.heap.size) (j := 3) (u := .slice (some ⟨g, off, none⟩) x.ks.length cap) hb2 (by simp [go_sem])
        have HB2 := Lib.hid (HB1.out.trans (hb2.mono HB1.out.size))
        have HIN := Lib.hid hin
        clear hin hb2
        go_wp2_with (go_at_call 95; refine (arity_any _ _).mono ?_; rintro e w' ⟨rfl, rfl⟩)
        go_ret2
        exact mk_worth rfl HR.out InI_zero HB2.out
      | true =>
        have HR : Hid (evalE (l + 1) x ns vs = (oneV x.op r1, oneB x.op)) := Lib.hid (by rw [HE.out]; rfl)
        go_enter Try.func54, Try.ntmps54
        go_wp2_with (go_at_call 95; refine (arity_any _ _).mono ?_; rintro e w' ⟨rfl, rfl⟩)
        refine (IH.out d x.ks[0] _ _ _ ns vs _ HM0.out HOK0.out HKK0.out HNS.out HVS.out).mono ?_
        rintro e w2 ⟨rfl, hin, hb2⟩
        rw [hr.out] at hin ⊢
        dsimp only at hin ⊢
        have d0 := cell_next (g := w.heap.size) (j := 0) (u := .int .i64 x.op) hb2 (by simp [go_sem])
        have d3 := cell_next (g := w.heap.size) (j := 3) (u := .slice (some ⟨g, off, none⟩) x.ks.length cap) hb2 (by simp [go_sem])
        have HB2 := Lib.hid (HB1.out.trans (hb2.mono HB1.out.size))
        have HIN := Lib.hid hin
        clear hb2
        go_wp2_with fail
        refine (rone_any _ _ _).mono ?_
        rintro e w' ⟨rfl, rfl⟩
        go_wp2_with fail
        go_ret2
        exact mk_worth rfl HR.out (InI_one _ _) HB2.out
    · have hk2 : kidsOf x.op = 2 := by
        have := HLEN.out
        unfold kidsOf at this ⊢
        rw [if_neg (by omega), if_neg h34] at this ⊢
        split at this
        · rename_i h; rw [if_pos h]
        · omega
      have hl2 : x.ks.length = 2 := by have := HLEN.out; rw [hk2] at this; omega
      have hlb : ((x.ks.length : Int) == 1) = false := by simp; omega
      have hl0 : 0 < x.ks.length := by omega
      have hl1 : 1 < x.ks.length := by omega
      have hl0' : (0 : Int) < (x.ks.length : Int) := by omega
      have hl1' : (1 : Int) < (x.ks.length : Int) := by omega
      have k0 : (kidsOf x.op == 0) = false := by rw [hk2]; rfl
      have k1 : (kidsOf x.op == 1) = false := by rw [hk2]; rfl
      have hne : x.ks ≠ [] := by intro h; rw [h] at hl0; simp at hl0
      have hks : x.ks = [x.ks[0], x.ks[1]] := list_two hl2
      have HE := Lib.hid (ev_two (l := l) (ns := ns) (vs := vs) h1 h2 hks)
      obtain ⟨g, off, cap', hv, _, _, hcells⟩ := HK1.out.kids hne
      simp only [Value.slice.injEq] at hv
      obtain ⟨rfl, -, rfl⟩ := hv
      obtain ⟨hok0, u0, p0, p1, p2, p3, hku0⟩ := hcells 0 hl0
      obtain ⟨au0, cu0, rfl, -, -⟩ := hku0.form
      simp only [Nat.zero_mul, Nat.add_zero] at p0 p1 p2 p3
      have HKK0 := Lib.hid hku0
      have HOK0 := Lib.hid hok0
      have HM0 := Lib.hid (List.all_eq_true.1 HALL.out x.ks[0] (List.getElem_mem hl0))
      have hgl := cell_lt p0
      obtain ⟨r1, r2, hr⟩ : ∃ r1 r2, Hid (evalE l x.ks[0] ns vs = (r1, r2)) := ⟨_, _, Lib.hid rfl⟩
      obtain ⟨hok1, u1, s0, s1, s2, s3, hku1⟩ := hcells 1 hl1
      obtain ⟨au1, cu1, rfl, -, -⟩ := hku1.form
      have HKK1 := Lib.hid hku1
      have HOK1 := Lib.hid hok1
      have HM1 := Lib.hid (List.all_eq_true.1 HALL.out x.ks[1] (List.getElem_mem hl1))
      obtain ⟨q1, q2, hq⟩ : ∃ q1 q2, Hid (evalE l x.ks[1] ns vs = (q1, q2)) := ⟨_, _, Lib.hid rfl⟩
      rw [hr.out, hq.out] at HE
      clear h1 h2 h34 hk2 hl2 hne hks hcells hok0 hku0 hok1 hku1
      cases r2 with
      | false =>
        have HR : Hid (evalE (l + 1) x ns vs = (0, false)) := Lib.hid (by rw [HE.out]; rfl)
        go_enter Try.func54, Try.ntmps54
        go_wp2_with (go_at_call 95; refine (arity_any _ _).mono ?_; rintro e w' ⟨rfl, rfl⟩)
        refine (IH.out d x.ks[0] _ _ _ ns vs _ HM0.out HOK0.out HKK0.out HNS.out HVS.out).mono ?_
        rintro e w2 ⟨rfl, hin, hb2⟩
        rw [hr.out] at hin ⊢
        dsimp only at hin ⊢
        have d0 := cell_next (g := w.heap.size) (j := 0) (u := .int .i64 x.op) hb2 (by simp [go_sem])
        have d3 := cell_next (g := w.heap.size) (j := 3) (u := .slice (some ⟨g, off, none⟩) x.ks.length cap) hb2 (by simp [go_sem])
        have HB2 := Lib.hid (HB1.out.trans (hb2.mono HB1.out.size))
        have HIN := Lib.hid hin
        clear hin hb2
        go_wp2_with (go_at_call 95; refine (arity_any _ _).mono ?_; rintro e w' ⟨rfl, rfl⟩)
        go_ret2
        exact mk_worth rfl HR.out InI_zero HB2.out
      | true =>
        have HE2 : Hid (evalE (l + 1) x ns vs = if x.op = 16 ∧ r1 = 0 then (0, true) else if x.op = 17 ∧ r1 ≠ 0 then (1, true) else if q2 = false then (0, false) else (twoV x.op r1 q1, twoB x.op q1)) := Lib.hid (by rw [HE.out]; rfl)
        clear HE
        by_cases hA : x.op = 16 ∧ r1 = 0
        · have HR : Hid (evalE (l + 1) x ns vs = (0, true)) := Lib.hid (by rw [HE2.out, if_pos hA])
          have b16 : (x.op == 16) = true := by simpa using hA.1
          have z1 : (r1 != 0) = false := by simpa using hA.2
          have z2 : (r1 == 0) = true := by simpa using hA.2
          clear hA
          go_enter Try.func54, Try.ntmps54
          go_wp2_with (go_at_call 95; refine (arity_any _ _).mono ?_; rintro e w' ⟨rfl, rfl⟩)
          refine (IH.out d x.ks[0] _ _ _ ns vs _ HM0.out HOK0.out HKK0.out HNS.out HVS.out).mono ?_
          rintro e w2 ⟨rfl, hin, hb2⟩
          rw [hr.out] at hin ⊢
          dsimp only at hin ⊢
          have d0 := cell_next (g := w.heap.size) (j := 0) (u := .int .i64 x.op) hb2 (by simp [go_sem])
          have d3 := cell_next (g := w.heap.size) (j := 3) (u := .slice (some ⟨g, off, none⟩) x.ks.length cap) hb2 (by simp [go_sem])
          have HB2 := Lib.hid (HB1.out.trans (hb2.mono HB1.out.size))
          have HIN := Lib.hid hin
          clear hin hb2
          go_wp2_with (go_at_call 95; refine (arity_any _ _).mono ?_; rintro e w' ⟨rfl, rfl⟩)
          go_ret2
          exact mk_worth rfl HR.out InI_zero HB2.out
        by_cases hC : x.op = 17 ∧ r1 ≠ 0
        · have HR : Hid (evalE (l + 1) x ns vs = (1, true)) := Lib.hid (by rw [HE2.out, if_neg hA, if_pos hC])
          have b16 : (x.op == 16) = false := by simp; omega
          have b17 : (x.op == 17) = true := by simpa using hC.1
          have z1 : (r1 != 0) = true := by simpa using hC.2
          have z2 : (r1 == 0) = false := by simpa using hC.2
          clear hA hC
          go_enter Try.func54, Try.ntmps54
          go_wp2_with (go_at_call 95; refine (arity_any _ _).mono ?_; rintro e w' ⟨rfl, rfl⟩)
          refine (IH.out d x.ks[0] _ _ _ ns vs _ HM0.out HOK0.out HKK0.out HNS.out HVS.out).mono ?_
          rintro e w2 ⟨rfl, hin, hb2⟩
          rw [hr.out] at hin ⊢
          dsimp only at hin ⊢
          have d0 := cell_next (g := w.heap.size) (j := 0) (u := .int .i64 x.op) hb2 (by simp [go_sem])
          have d3 := cell_next (g := w.heap.size) (j := 3) (u := .slice (some ⟨g, off, none⟩) x.ks.length cap) hb2 (by simp [go_sem])
          have HB2 := Lib.hid (HB1.out.trans (hb2.mono HB1.out.size))
          have HIN := Lib.hid hin
          clear hin hb2
          go_wp2_with (go_at_call 95; refine (arity_any _ _).mono ?_; rintro e w' ⟨rfl, rfl⟩)
          go_ret2
          exact mk_worth rfl HR.out (by unfold InI; omega) HB2.out
        have HE3 : Hid (evalE (l + 1) x ns vs = if q2 = false then (0, false) else (twoV x.op r1 q1, twoB x.op q1)) := Lib.hid (by rw [HE2.out, if_neg hA, if_neg hC])
        have hD : ((x.op == 16) = true ∧ (x.op == 17) = false ∧ (r1 != 0) = true ∧ (r1 == 0) = false) ∨ ((x.op == 16) = false ∧ (x.op == 17) = true ∧ (r1 != 0) = false ∧ (r1 == 0) = true) ∨ ((x.op == 16) = false ∧ (x.op == 17) = false ∧ True ∧ True) := by
          by_cases h16 : x.op = 16
          · left
            have : r1 ≠ 0 := fun h => hA ⟨h16, h⟩
            refine ⟨by simpa using h16, by simp; omega, by simpa using this, by simpa using this⟩
          · right
            by_cases h17 : x.op = 17
            · left
              have : r1 = 0 := by apply Decidable.byContradiction; intro h; exact hC ⟨h17, h⟩
              refine ⟨by simpa using h16, by simpa using h17, by simpa using this, by simpa using this⟩
            · right
              exact ⟨by simpa using h16, by simpa using h17, trivial, trivial⟩
        clear HE2 hA hC
        rcases hD with ⟨b16, b17, z1, z2⟩ | ⟨b16, b17, z1, z2⟩ | ⟨b16, b17, z1, z2⟩
        all_goals
          go_enter Try.func54, Try.ntmps54
          go_wp2_with (go_at_call 95; refine (arity_any _ _).mono ?_; rintro e w' ⟨rfl, rfl⟩)
          refine (IH.out d x.ks[0] _ _ _ ns vs _ HM0.out HOK0.out HKK0.out HNS.out HVS.out).mono ?_
          rintro e w2 ⟨rfl, hin, hb2⟩
          rw [hr.out] at hin ⊢
          dsimp only at hin ⊢
          have d0 := cell_next (g := w.heap.size) (j := 0) (u := .int .i64 x.op) hb2 (by simp [go_sem])
          have d3 := cell_next (g := w.heap.size) (j := 3) (u := .slice (some ⟨g, off, none⟩) x.ks.length cap) hb2 (by simp [go_sem])
          have HB2 := Lib.hid (HB1.out.trans (hb2.mono HB1.out.size))
          have HIN := Lib.hid hin
          have e0 := cell_next hb2 s0
          have e1 := cell_next hb2 s1
          have e2 := cell_next hb2 s2
          have e3 := cell_next hb2 s3
          simp only [Nat.one_mul] at e0 e1 e2 e3
          have HK2 := Lib.hid (HKK1.out.next hb2)
          have HNS2 := Lib.hid (HNS.out.next hb2)
          have HVS2 := Lib.hid (HVS.out.next hb2)
          clear hb2 s0 s1 s2 s3
          go_wp2_with (go_at_call 95; refine (arity_any _ _).mono ?_; rintro e w' ⟨rfl, rfl⟩)
          refine (IH.out d x.ks[1] _ _ _ ns vs _ HM1.out HOK1.out HK2.out HNS2.out HVS2.out).mono ?_
          rintro e w3 ⟨rfl, hin2, hb3⟩
          rw [hq.out] at hin2 ⊢
          dsimp only at hin2 ⊢
          have f0 := cell_next hb3 d0
          have HB3 := Lib.hid (HB2.out.trans (hb3.mono HB2.out.size))
          clear hb3
          cases q2 with
          | false =>
            have HR : Hid (evalE (l + 1) x ns vs = (0, false)) := Lib.hid (by rw [HE3.out]; rfl)
            go_wp2_with (go_at_call 95; refine (arity_any _ _).mono ?_; rintro e w' ⟨rfl, rfl⟩)
            go_ret2
            exact mk_worth rfl HR.out InI_zero HB3.out
          | true =>
            have HR : Hid (evalE (l + 1) x ns vs = (twoV x.op r1 q1, twoB x.op q1)) := Lib.hid (by rw [HE3.out]; rfl)
            go_wp2_with fail
            refine (rtwo_any _ _ _ _ hin hin2).mono ?_
            rintro e w' ⟨rfl, rfl⟩
            go_wp2_with fail
            go_ret2
            exact mk_worth rfl HR.out (InI_two _ _ _ HIN.out) HB3.out
set_option maxHeartbeats 1000000 in
theorem evalOf_any (d : Nat) (x : Ex) (kv nv vv : Value) (ns : List ByteArray) (vs : List Int) (w : World) (hok : OkE x) (hk : ExK d w kv x.ks) (hns : StrsAt w nv ns) (hvs : IntsAt w vv vs) :
    Calls Try.prog 20 #[exV x kv, nv, vv] w (Worth (if mayE 20 x then evalE 20 x ns vs else (0, false)) w) := by
  obtain ⟨a, cap, rfl, hc1, hc2⟩ := hk.form
  obtain ⟨na, nc, rfl, _, _⟩ := hns.form
  obtain ⟨va, vc, rfl, _, _⟩ := hvs.form
  have hbox := boxed w (.cells #[.int .i64 x.op, .int .i64 x.n, .string x.nm, .slice a x.ks.length cap] 24)
  have HB1 := Lib.hid hbox
  have HK1 := Lib.hid (hk.next hbox)
  have HNS := Lib.hid (hns.next hbox)
  have HVS := Lib.hid (hvs.next hbox)
  have HOK := Lib.hid hok
  clear hbox hk hok hns hvs
  unfold exV
  cases hm : mayE 20 x with
  | false =>
    have HR : Hid ((if false = true then evalE 20 x ns vs else (0, false)) = ((0 : Int), false)) := Lib.hid rfl
    have HM := Lib.hid hm
    clear hm
    go_enter Try.func20, Try.ntmps20
    go_wp2_with fail
    refine (mayExpr_any d x _ _ HOK.out HK1.out).mono ?_
    rintro e w2 ⟨rfl, hb2⟩
    rw [HM.out]
    have HB2 := Lib.hid (HB1.out.trans (hb2.mono HB1.out.size))
    clear hb2
    go_wp2_with fail
    go_ret2
    exact mk_worth rfl HR.out InI_zero HB2.out
  | true =>
    have HR : Hid ((if true = true then evalE 20 x ns vs else (0, false)) = evalE 20 x ns vs) := Lib.hid rfl
    have HM := Lib.hid hm
    clear hm
    go_enter Try.func20, Try.ntmps20
    go_wp2_with fail
    refine (mayExpr_any d x _ _ HOK.out HK1.out).mono ?_
    rintro e w2 ⟨rfl, hb2⟩
    rw [HM.out]
    have HB2 := Lib.hid (HB1.out.trans (hb2.mono HB1.out.size))
    have HK2 := Lib.hid (HK1.out.next hb2)
    have HNS2 := Lib.hid (HNS.out.next hb2)
    have HVS2 := Lib.hid (HVS.out.next hb2)
    have c0 := cell_next (g := w.heap.size) (j := 0) (u := .int .i64 x.op) hb2 (by simp [go_sem])
    have c1 := cell_next (g := w.heap.size) (j := 1) (u := .int .i64 x.n) hb2 (by simp [go_sem])
    have c2 := cell_next (g := w.heap.size) (j := 2) (u := .string x.nm) hb2 (by simp [go_sem])
    have c3 := cell_next (g := w.heap.size) (j := 3) (u := .slice a x.ks.length cap) hb2 (by simp [go_sem])
    clear hb2
    go_wp2_with fail
    refine (of_any 20 d x _ _ _ ns vs _ HM.out HOK.out HK2.out HNS2.out HVS2.out).mono ?_
    rintro e w3 ⟨rfl, hin, hb3⟩
    have HIN := Lib.hid hin
    have HB3 := Lib.hid (HB2.out.trans (hb3.mono HB2.out.size))
    clear hb3 hin
    go_wp2_with fail
    go_ret2
    exact mk_worth rfl HR.out HIN.out HB3.out
set_option maxHeartbeats 1000000 in
theorem rEval_any (d : Nat) (x : Ex) (kv nv vv : Value) (ns : List ByteArray) (vs : List Int) (w : World) (hok : OkE x) (hk : ExK d w kv x.ks) (hns : StrsAt w nv ns) (hvs : IntsAt w vv vs) :
    Calls Try.prog 21 #[exV x kv, nv, vv] w (Worth (if mayE 20 x then evalE 20 x ns vs else (0, false)) w) := by
  obtain ⟨a, cap, rfl, hc1, hc2⟩ := hk.form
  obtain ⟨na, nc, rfl, _, _⟩ := hns.form
  obtain ⟨va, vc, rfl, _, _⟩ := hvs.form
  have hbox := boxed w (.cells #[.int .i64 x.op, .int .i64 x.n, .string x.nm, .slice a x.ks.length cap] 24)
  have HB1 := Lib.hid hbox
  have HK1 := Lib.hid (hk.next hbox)
  have HNS := Lib.hid (hns.next hbox)
  have HVS := Lib.hid (hvs.next hbox)
  have HOK := Lib.hid hok
  clear hbox hk hok hns hvs
  unfold exV
  cases hm : mayE 20 x with
  | false =>
    have HR : Hid ((if false = true then evalE 20 x ns vs else (0, false)) = ((0 : Int), false)) := Lib.hid rfl
    have HM := Lib.hid hm
    clear hm
    go_enter Try.func21, Try.ntmps21
    go_wp2_with fail
    refine (rmayExpr_any d x _ _ HOK.out HK1.out).mono ?_
    rintro e w2 ⟨rfl, hb2⟩
    rw [HM.out]
    have HB2 := Lib.hid (HB1.out.trans (hb2.mono HB1.out.size))
    clear hb2
    go_wp2_with fail
    go_ret2
    exact mk_worth rfl HR.out InI_zero HB2.out
  | true =>
    have HR : Hid ((if true = true then evalE 20 x ns vs else (0, false)) = evalE 20 x ns vs) := Lib.hid rfl
    have HM := Lib.hid hm
    clear hm
    go_enter Try.func21, Try.ntmps21
    go_wp2_with fail
    refine (rmayExpr_any d x _ _ HOK.out HK1.out).mono ?_
    rintro e w2 ⟨rfl, hb2⟩
    rw [HM.out]
    have HB2 := Lib.hid (HB1.out.trans (hb2.mono HB1.out.size))
    have HK2 := Lib.hid (HK1.out.next hb2)
    have HNS2 := Lib.hid (HNS.out.next hb2)
    have HVS2 := Lib.hid (HVS.out.next hb2)
    have c0 := cell_next (g := w.heap.size) (j := 0) (u := .int .i64 x.op) hb2 (by simp [go_sem])
    have c1 := cell_next (g := w.heap.size) (j := 1) (u := .int .i64 x.n) hb2 (by simp [go_sem])
    have c2 := cell_next (g := w.heap.size) (j := 2) (u := .string x.nm) hb2 (by simp [go_sem])
    have c3 := cell_next (g := w.heap.size) (j := 3) (u := .slice a x.ks.length cap) hb2 (by simp [go_sem])
    clear hb2
    go_wp2_with fail
    refine (worth_any 20 d x _ _ _ ns vs _ HM.out HOK.out HK2.out HNS2.out HVS2.out).mono ?_
    rintro e w3 ⟨rfl, hin, hb3⟩
    have HIN := Lib.hid hin
    have HB3 := Lib.hid (HB2.out.trans (hb3.mono HB2.out.size))
    clear hb3 hin
    go_wp2_with fail
    go_ret2
    exact mk_worth rfl HR.out HIN.out HB3.out
end Go.Proofs.Ytnbclbphggmenaa.Tr
end
section
namespace Go.Proofs.Ytnbclbphggmenaa.Tr
open Go.RowKit Go.Proofs.Ytnbclbphggmenaa.Lx Go.Proofs.Ytnbclbphggmenaa.Wd
theorem may_up : ∀ (l : Nat) (x : Ex), mayE l x = true → mayE (l + 1) x = true := by
  intro l
  induction l with
  | zero => intro x h; cases h
  | succ l ih =>
    intro x h
    rw [mayE_succ, Bool.and_eq_true] at h ⊢
    refine ⟨h.1, ?_⟩
    rw [List.all_eq_true] at *
    exact fun k hk => ih k (h.2 k hk)
theorem may_le {l m : Nat} {x : Ex} (h : mayE l x = true) (hlm : l ≤ m) : mayE m x = true := by
  induction hlm with
  | refl => exact h
  | step _ ih => exact may_up _ _ ih
theorem may_parts {l : Nat} {x : Ex} (h : mayE (l + 1) x = true) : (x.ks.length : Int) = kidsOf x.op ∧ headE x = true ∧ ∀ k ∈ x.ks, mayE l k = true := by
  rw [mayE_succ, Bool.and_eq_true, Bool.and_eq_true, List.all_eq_true] at h
  exact ⟨by simpa using h.1.1, h.1.2, h.2⟩
theorem eval_up (ns : List ByteArray) (vs : List Int) : ∀ (l : Nat) (x : Ex), mayE l x = true → evalE (l + 1) x ns vs = evalE l x ns vs := by
  intro l
  induction l with
  | zero => intro x h; cases h
  | succ l ih =>
    intro x h
    obtain ⟨h1, h2, h3⟩ := may_parts h
    by_cases o1 : x.op = 1
    · rw [ev_num o1, ev_num o1]
    by_cases o2 : x.op = 2
    · rw [ev_name o2, ev_name o2]
    match hk : x.ks with
    | [a] => rw [ev_one o1 o2 hk, ev_one o1 o2 hk, ih a (h3 a (by rw [hk]; simp))]
    | [a, b] => rw [ev_two o1 o2 hk, ev_two o1 o2 hk, ih a (h3 a (by rw [hk]; simp)), ih b (h3 b (by rw [hk]; simp))]
    | [] => rw [evalE, evalE, if_neg o1, if_neg o2, if_neg o1, if_neg o2, hk]
    | a :: b :: c :: r => rw [evalE, evalE, if_neg o1, if_neg o2, if_neg o1, if_neg o2, hk]
theorem eval_le (ns : List ByteArray) (vs : List Int) {l m : Nat} {x : Ex} (h : mayE l x = true) (hlm : l ≤ m) : evalE m x ns vs = evalE l x ns vs := by
  induction hlm with
  | refl => rfl
  | step hm ih => rw [eval_up ns vs _ x (may_le h hm), ih]
/-- Of two. -/
theorem eval_two {op : Int} {x y : Ex} {s : ByteArray} {m : Int} (ns : List ByteArray) (vs : List Int) (h : mayE 20 (.mk op m s [x, y]) = true) :
    mayE 20 x = true ∧ mayE 20 y = true ∧ evalE 20 (.mk op m s [x, y]) ns vs =
    if (evalE 20 x ns vs).2 = false then (0, false) else if op = 16 ∧ (evalE 20 x ns vs).1 = 0 then (0, true) else if op = 17 ∧ (evalE 20 x ns vs).1 ≠ 0 then (1, true)
    else if (evalE 20 y ns vs).2 = false then (0, false) else (twoV op (evalE 20 x ns vs).1 (evalE 20 y ns vs).1, twoB op (evalE 20 y ns vs).1) := by
  obtain ⟨h1, h2, h3⟩ := may_parts h
  have hx := h3 x (by simp [Ex.ks])
  have hy := h3 y (by simp [Ex.ks])
  have hk : kidsOf op = 2 := by simpa [Ex.ks, Ex.op] using h1.symm
  have o1 : op ≠ 1 := by intro e; rw [e] at hk; cases hk
  have o2 : op ≠ 2 := by intro e; rw [e] at hk; cases hk
  refine ⟨may_le hx (by omega), may_le hy (by omega), ?_⟩
  rw [eval_le ns vs hx (show 19 ≤ 20 by omega), eval_le ns vs hy (show 19 ≤ 20 by omega)]
  exact ev_two (l := 19) (x := .mk op m s [x, y]) o1 o2 rfl
end Go.Proofs.Ytnbclbphggmenaa.Tr
end
section
namespace Go.Proofs.Ytnbclbphggmenaa.Tr
open Go.RowKit Go.Proofs.Ytnbclbphggmenaa.Lx Go.Proofs.Ytnbclbphggmenaa.Wd
theorem some5_may : mayE 20 some5X = true := by kernel_rfl
theorem some5_eval : evalE 20 some5X [sX, sY] [3, 4] = (7, true) := by kernel_rfl
set_option maxHeartbeats 2000000 in
set_option maxRecDepth 100000 in
theorem reckoned_any (w : World) : Calls Try.prog 18 #[] w fun e w' => e = .returned (.bool true) ∧ Below w.heap.size w w' := by
  go_enter Try.func18, Try.ntmps18
  go_wp2_with fail
  refine (some_any _).mono ?_
  rintro e w1 ⟨gv, pv, rfl, hp, hb1⟩
  obtain ⟨g, off, cap, rfl, hcap, hc⟩ := hp.2.cells (by intro h; cases h)
  obtain ⟨ga, gc, rfl, -, -⟩ := SlAt.form hp.1
  obtain ⟨pv1, vv1, bv1, fv1, -, -, -, c3, -, -, -, -, hbody, -⟩ := hc 1 (by decide)
  obtain ⟨g2, off2, cap2, rfl, hcap2, hc2⟩ := SlAt.cells hbody (by intro h; cases h)
  obtain ⟨lv, av, tv, ev, -, -, -, -, -, ⟨kv, x0, x1, x2, x3, hok, hk⟩, -⟩ := hc2 0 (by decide)
  have d3 : w1.cell? ⟨g, off + 5 + 3, none⟩ = some (.slice (some ⟨g2, off2, none⟩) 3 cap2) := c3
  have d3' : w1.cell? ⟨g, off + 8, none⟩ = some (.slice (some ⟨g2, off2, none⟩) 3 cap2) := c3
  have e0 : w1.cell? ⟨g2, off2 + 5, none⟩ = some (.int .i64 8) := x0
  have e1 : w1.cell? ⟨g2, off2 + 6, none⟩ = some (.int .i64 0) := x1
  have e2 : w1.cell? ⟨g2, off2 + 7, none⟩ = some (.string ⟨#[]⟩) := x2
  have e3 : w1.cell? ⟨g2, off2 + 8, none⟩ = some kv := x3
  obtain ⟨ka, kc, rfl, -, -⟩ := SlAt.form hk
  have HK := Lib.hid (ExC.to (d := 2) (l := some5X.ks) hk)
  have HB1 := Lib.hid hb1
  have hl : someP.procs.length = 2 := rfl
  have hl2 : someP.globals.length = 1 := rfl
  rw [hl, hl2]
  have hfd : ∀ w : World, (Instr.field 46 (.agg #[.slice ga 1 gc, .slice (some ⟨g, off, none⟩) 2 cap]) 1).run Try.prog w = .ok (.slice (some ⟨g, off, none⟩) 2 cap) w := fun _ => by kernel_rfl
  clear hp hc c3 hbody hc2 x0 x1 x2 x3 hok hk hb1 hcap hcap2 hl hl2
  go_wp2_with fail
  refine (evalOf_any 2 some5X (.slice ka some5X.ks.length kc) (.slice (some ⟨w1.heap.size + 1, 0, none⟩) 2 2) (.slice (some ⟨w1.heap.size + 1 + 1, 0, none⟩) 2 2) [sX, sY] [3, 4] _ (okTwo _ _ _ (in1 (by omega))) (HK.out.next (((boxed _ _).alloc (by simp) _).alloc (by simp; omega) _)) ?hn ?hv).mono ?_
  case hn =>
    refine ⟨_, 2, rfl, by decide, by omega, fun _ => ⟨_, 0, rfl, fun i hi => ?_⟩⟩
    match i, hi with
    | 0, _ => exact ⟨(show (1 : Nat) ≤ _ by omega), by simp [go_sem]; rfl⟩
    | 1, _ => exact ⟨(show (1 : Nat) ≤ _ by omega), by simp [go_sem]; rfl⟩
  case hv =>
    refine ⟨_, 2, rfl, by decide, by omega, fun _ => ⟨_, 0, rfl, fun i hi => ?_⟩⟩
    match i, hi with
    | 0, _ => exact ⟨in1 (show (-1000 : Int) ≤ 3 ∧ (3 : Int) ≤ 1000 by omega), by simp [go_sem]⟩
    | 1, _ => exact ⟨in1 (show (-1000 : Int) ≤ 4 ∧ (4 : Int) ≤ 1000 by omega), by simp [go_sem]⟩
  rintro e w2 ⟨rfl, -, hb2⟩
  have HB2 := Lib.hid (HB1.out.trans (((((boxed _ _).alloc (by simp) _).alloc (by simp; omega) _).trans (hb2.mono (by simp; omega))).mono HB1.out.size))
  rw [some5_may, if_pos rfl, some5_eval]
  clear hb2
  go_wp2_with fail
  go_ret
  exact ⟨rfl, HB2.out⟩
end Go.Proofs.Ytnbclbphggmenaa.Tr
end
section
namespace Go.Proofs.Ytnbclbphggmenaa.Tr
open Go.RowKit Go.Proofs.Ytnbclbphggmenaa.Lx Go.Proofs.Ytnbclbphggmenaa.Wd
theorem StrsAt.take {w : World} {a : Option Addr} {n cap : Nat} {l : List ByteArray} (h : StrsAt w (.slice a n cap) l) (k : Nat) (hk : k ≤ l.length) : StrsAt w (.slice a k cap) (l.take k) := by
  obtain ⟨a', c, hv, h2, h3, h4⟩ := h
  simp only [Value.slice.injEq] at hv
  obtain ⟨rfl, rfl, rfl⟩ := hv
  refine ⟨_, cap, by rw [List.length_take, Nat.min_eq_left hk], by rw [List.length_take]; omega, h3, fun hne => ?_⟩
  have hne2 : l ≠ [] := by intro h; rw [h] at hne; simp at hne
  obtain ⟨g', off', h5, h6⟩ := h4 hne2
  refine ⟨g', off', h5, fun i hi => ?_⟩
  rw [List.length_take] at hi
  rw [List.getElem_take]
  exact h6 i (by omega)
theorem IntsAt.take {w : World} {a : Option Addr} {n cap : Nat} {l : List Int} (h : IntsAt w (.slice a n cap) l) (k : Nat) (hk : k ≤ l.length) : IntsAt w (.slice a k cap) (l.take k) := by
  obtain ⟨a', c, hv, h2, h3, h4⟩ := h
  simp only [Value.slice.injEq] at hv
  obtain ⟨rfl, rfl, rfl⟩ := hv
  refine ⟨_, cap, by rw [List.length_take, Nat.min_eq_left hk], by rw [List.length_take]; omega, h3, fun hne => ?_⟩
  have hne2 : l ≠ [] := by intro h; rw [h] at hne; simp at hne
  obtain ⟨g', off', h5, h6⟩ := h4 hne2
  refine ⟨g', off', h5, fun i hi => ?_⟩
  rw [List.length_take] at hi
  rw [List.getElem_take]
  exact h6 i (by omega)
/-- A slice cut to its first elements. -/
theorem run_cut (T e : TypeId) (hT : Try.prog.underlying T = some (.slice e)) (sz : Nat) (hs : ∀ w, (sizeOf e).run Try.prog w = .ok sz w) (a : Option Addr) (n cap k : Nat) (z : Int) (hz : z = k) (hk : k ≤ cap) (_hc : cap ≤ 9223372036854775807) (w : World) :
    (Instr.slice T (.slice a n cap) none (some (.int .i64 z)) none).run Try.prog w = .ok (.slice a k cap) w := by
  subst hz
  cases a with
  | none => simp [go_sem, hT, hs, hk]
  | some a => simp [go_sem, hT, hs, hk]
set_option maxHeartbeats 4000000 in
set_option maxRecDepth 100000 in
theorem law_evalAll {w : World} (d : Nat) (x : Ex) (kv : Value) (hok : OkE x) (hk : ExK d w kv x.ks) (nv : Value) (ns : List ByteArray) (hns : StrsAt w nv ns) (vv : Value) (vs : List Int) (hvs : IntsAt w vv vs) :
    Calls Try.prog 3 #[exV x kv, nv, vv] w fun e w' => e = .returned (.bool true) ∧ Below w.heap.size w w' := by
  obtain ⟨a, cap, rfl, hc1, hc2⟩ := hk.form
  obtain ⟨na, nc, rfl, nh1, nh2⟩ := hns.form
  obtain ⟨va, vc, rfl, vh1, vh2⟩ := hvs.form
  have hbox := boxed w (.cells #[.int .i64 x.op, .int .i64 x.n, .string x.nm, .slice a x.ks.length cap] 24)
  have HB1 := Lib.hid hbox
  have HK1 := Lib.hid (hk.next hbox)
  have HNS := Lib.hid (hns.next hbox)
  have HVS := Lib.hid (hvs.next hbox)
  have HOK := Lib.hid hok
  clear hbox hk hok hns hvs
  unfold exV
  go_enter Try.func3, Try.ntmps3
  go_wp2_with fail
  refine (reckoned_any _).mono ?_
  rintro e w1 ⟨rfl, hb1⟩
  have c0 := cell_next (g := w.heap.size) (j := 0) (u := .int .i64 x.op) hb1 (by simp [go_sem])
  have c1 := cell_next (g := w.heap.size) (j := 1) (u := .int .i64 x.n) hb1 (by simp [go_sem])
  have c2 := cell_next (g := w.heap.size) (j := 2) (u := .string x.nm) hb1 (by simp [go_sem])
  have c3 := cell_next (g := w.heap.size) (j := 3) (u := .slice a x.ks.length cap) hb1 (by simp [go_sem])
  replace HK1 := Lib.hid (HK1.out.next hb1)
  replace HNS := Lib.hid (HNS.out.next hb1)
  replace HVS := Lib.hid (HVS.out.next hb1)
  replace HB1 := Lib.hid (HB1.out.trans (hb1.mono HB1.out.size))
  clear hb1
  go_wp2_with fail
  refine (fitsExpr_any d x _ _ HOK.out HK1.out).mono ?_
  rintro e w2 ⟨bf, hbf, rfl, hb2⟩
  replace c0 := cell_next hb2 c0
  replace c1 := cell_next hb2 c1
  replace c2 := cell_next hb2 c2
  replace c3 := cell_next hb2 c3
  replace HK1 := Lib.hid (HK1.out.next hb2)
  replace HNS := Lib.hid (HNS.out.next hb2)
  replace HVS := Lib.hid (HVS.out.next hb2)
  replace HB1 := Lib.hid (HB1.out.trans (hb2.mono HB1.out.size))
  clear hb2 hbf
  cases bf with
  | false =>
    go_wp2_with fail
    go_ret
    exact ⟨rfl, HB1.out⟩
  | true =>
    by_cases hn30 : ns.length ≤ 30
    · have hni : (ns.length : Int) ≤ 30 := by omega
      by_cases hv30 : vs.length ≤ 30
      · have hvi : (vs.length : Int) ≤ 30 := by omega
        have r1 := run_cut 25 9 Try.underlying25 1 (fun _ => by kernel_rfl) na ns.length nc ns.length _ rfl (by omega) nh2
        have r2 := run_cut 26 2 Try.underlying26 1 (fun _ => by kernel_rfl) va vs.length vc vs.length _ rfl (by omega) vh2
        go_wp2_with fail
        go_quiet (fail)
        clear r1 r2
        have HN := Lib.hid ((HNS.out.next (below_drewN (Below.refl _ _) nq)).take ns.length (by omega))
        have HV := Lib.hid ((HVS.out.next (below_drewN (Below.refl _ _) nq)).take vs.length (by omega))
        replace HK1 := Lib.hid (HK1.out.next (below_drewN (Below.refl _ _) nq))
        replace HB1 := Lib.hid (below_drewN HB1.out nq)
        replace c0 := cell_next (below_drewN (Below.refl _ _) nq) c0
        replace c1 := cell_next (below_drewN (Below.refl _ _) nq) c1
        replace c2 := cell_next (below_drewN (Below.refl _ _) nq) c2
        replace c3 := cell_next (below_drewN (Below.refl _ _) nq) c3
        obtain ⟨p, q, hpq⟩ : ∃ p q, Hid ((if mayE 20 x then evalE 20 x (ns.take ns.length) (vs.take vs.length) else (0, false)) = (p, q)) := ⟨_, _, Lib.hid rfl⟩
        generalize w2.drewN nq = w9 at *
        go_wp2_with fail
        refine (evalOf_any d x _ _ _ _ _ _ HOK.out HK1.out HN.out HV.out).mono ?_
        rintro e w3 ⟨rfl, -, hb3⟩
        rw [hpq.out]
        replace c0 := cell_next hb3 c0
        replace c1 := cell_next hb3 c1
        replace c2 := cell_next hb3 c2
        replace c3 := cell_next hb3 c3
        replace HK1 := Lib.hid (HK1.out.next hb3)
        replace HN := Lib.hid (HN.out.next hb3)
        replace HV := Lib.hid (HV.out.next hb3)
        replace HB1 := Lib.hid (HB1.out.trans (hb3.mono HB1.out.size))
        clear hb3
        go_wp2_with fail
        refine (rEval_any d x _ _ _ _ _ _ HOK.out HK1.out HN.out HV.out).mono ?_
        rintro e w4 ⟨rfl, -, hb4⟩
        rw [hpq.out]
        replace HB1 := Lib.hid (HB1.out.trans (hb4.mono HB1.out.size))
        clear hb4
        go_wp2_with fail
        go_ret
        exact ⟨rfl, HB1.out⟩
      · have hvi : ¬ (vs.length : Int) ≤ 30 := by omega
        have r1 := run_cut 25 9 Try.underlying25 1 (fun _ => by kernel_rfl) na ns.length nc ns.length _ rfl (by omega) nh2
        have r2 := run_cut 26 2 Try.underlying26 1 (fun _ => by kernel_rfl) va vs.length vc 30 _ rfl (by omega) vh2
        go_wp2_with fail
        go_quiet (fail)
        clear r1 r2
        have HN := Lib.hid ((HNS.out.next (below_drewN (Below.refl _ _) nq)).take ns.length (by omega))
        have HV := Lib.hid ((HVS.out.next (below_drewN (Below.refl _ _) nq)).take 30 (by omega))
        replace HK1 := Lib.hid (HK1.out.next (below_drewN (Below.refl _ _) nq))
        replace HB1 := Lib.hid (below_drewN HB1.out nq)
        replace c0 := cell_next (below_drewN (Below.refl _ _) nq) c0
        replace c1 := cell_next (below_drewN (Below.refl _ _) nq) c1
        replace c2 := cell_next (below_drewN (Below.refl _ _) nq) c2
        replace c3 := cell_next (below_drewN (Below.refl _ _) nq) c3
        obtain ⟨p, q, hpq⟩ : ∃ p q, Hid ((if mayE 20 x then evalE 20 x (ns.take ns.length) (vs.take 30) else (0, false)) = (p, q)) := ⟨_, _, Lib.hid rfl⟩
        generalize w2.drewN nq = w9 at *
        go_wp2_with fail
        refine (evalOf_any d x _ _ _ _ _ _ HOK.out HK1.out HN.out HV.out).mono ?_
        rintro e w3 ⟨rfl, -, hb3⟩
        rw [hpq.out]
        replace c0 := cell_next hb3 c0
        replace c1 := cell_next hb3 c1
        replace c2 := cell_next hb3 c2
        replace c3 := cell_next hb3 c3
        replace HK1 := Lib.hid (HK1.out.next hb3)
        replace HN := Lib.hid (HN.out.next hb3)
        replace HV := Lib.hid (HV.out.next hb3)
        replace HB1 := Lib.hid (HB1.out.trans (hb3.mono HB1.out.size))
        clear hb3
        go_wp2_with fail
        refine (rEval_any d x _ _ _ _ _ _ HOK.out HK1.out HN.out HV.out).mono ?_
        rintro e w4 ⟨rfl, -, hb4⟩
        rw [hpq.out]
        replace HB1 := Lib.hid (HB1.out.trans (hb4.mono HB1.out.size))
        clear hb4
        go_wp2_with fail
        go_ret
        exact ⟨rfl, HB1.out⟩
    · have hni : ¬ (ns.length : Int) ≤ 30 := by omega
      by_cases hv30 : vs.length ≤ 30
      · have hvi : (vs.length : Int) ≤ 30 := by omega
        have r1 := run_cut 25 9 Try.underlying25 1 (fun _ => by kernel_rfl) na ns.length nc 30 _ rfl (by omega) nh2
        have r2 := run_cut 26 2 Try.underlying26 1 (fun _ => by kernel_rfl) va vs.length vc vs.length _ rfl (by omega) vh2
        go_wp2_with fail
        go_quiet (fail)
        clear r1 r2
        have HN := Lib.hid ((HNS.out.next (below_drewN (Below.refl _ _) nq)).take 30 (by omega))
        have HV := Lib.hid ((HVS.out.next (below_drewN (Below.refl _ _) nq)).take vs.length (by omega))
        replace HK1 := Lib.hid (HK1.out.next (below_drewN (Below.refl _ _) nq))
        replace HB1 := Lib.hid (below_drewN HB1.out nq)
        replace c0 := cell_next (below_drewN (Below.refl _ _) nq) c0
        replace c1 := cell_next (below_drewN (Below.refl _ _) nq) c1
        replace c2 := cell_next (below_drewN (Below.refl _ _) nq) c2
        replace c3 := cell_next (below_drewN (Below.refl _ _) nq) c3
        obtain ⟨p, q, hpq⟩ : ∃ p q, Hid ((if mayE 20 x then evalE 20 x (ns.take 30) (vs.take vs.length) else (0, false)) = (p, q)) := ⟨_, _, Lib.hid rfl⟩
        generalize w2.drewN nq = w9 at *
        go_wp2_with fail
        refine (evalOf_any d x _ _ _ _ _ _ HOK.out HK1.out HN.out HV.out).mono ?_
        rintro e w3 ⟨rfl, -, hb3⟩
        rw [hpq.out]
        replace c0 := cell_next hb3 c0
        replace c1 := cell_next hb3 c1
        replace c2 := cell_next hb3 c2
        replace c3 := cell_next hb3 c3
        replace HK1 := Lib.hid (HK1.out.next hb3)
        replace HN := Lib.hid (HN.out.next hb3)
        replace HV := Lib.hid (HV.out.next hb3)
        replace HB1 := Lib.hid (HB1.out.trans (hb3.mono HB1.out.size))
        clear hb3
        go_wp2_with fail
        refine (rEval_any d x _ _ _ _ _ _ HOK.out HK1.out HN.out HV.out).mono ?_
        rintro e w4 ⟨rfl, -, hb4⟩
        rw [hpq.out]
        replace HB1 := Lib.hid (HB1.out.trans (hb4.mono HB1.out.size))
        clear hb4
        go_wp2_with fail
        go_ret
        exact ⟨rfl, HB1.out⟩
      · have hvi : ¬ (vs.length : Int) ≤ 30 := by omega
        have r1 := run_cut 25 9 Try.underlying25 1 (fun _ => by kernel_rfl) na ns.length nc 30 _ rfl (by omega) nh2
        have r2 := run_cut 26 2 Try.underlying26 1 (fun _ => by kernel_rfl) va vs.length vc 30 _ rfl (by omega) vh2
        go_wp2_with fail
        go_quiet (fail)
        clear r1 r2
        have HN := Lib.hid ((HNS.out.next (below_drewN (Below.refl _ _) nq)).take 30 (by omega))
        have HV := Lib.hid ((HVS.out.next (below_drewN (Below.refl _ _) nq)).take 30 (by omega))
        replace HK1 := Lib.hid (HK1.out.next (below_drewN (Below.refl _ _) nq))
        replace HB1 := Lib.hid (below_drewN HB1.out nq)
        replace c0 := cell_next (below_drewN (Below.refl _ _) nq) c0
        replace c1 := cell_next (below_drewN (Below.refl _ _) nq) c1
        replace c2 := cell_next (below_drewN (Below.refl _ _) nq) c2
        replace c3 := cell_next (below_drewN (Below.refl _ _) nq) c3
        obtain ⟨p, q, hpq⟩ : ∃ p q, Hid ((if mayE 20 x then evalE 20 x (ns.take 30) (vs.take 30) else (0, false)) = (p, q)) := ⟨_, _, Lib.hid rfl⟩
        generalize w2.drewN nq = w9 at *
        go_wp2_with fail
        refine (evalOf_any d x _ _ _ _ _ _ HOK.out HK1.out HN.out HV.out).mono ?_
        rintro e w3 ⟨rfl, -, hb3⟩
        rw [hpq.out]
        replace c0 := cell_next hb3 c0
        replace c1 := cell_next hb3 c1
        replace c2 := cell_next hb3 c2
        replace c3 := cell_next hb3 c3
        replace HK1 := Lib.hid (HK1.out.next hb3)
        replace HN := Lib.hid (HN.out.next hb3)
        replace HV := Lib.hid (HV.out.next hb3)
        replace HB1 := Lib.hid (HB1.out.trans (hb3.mono HB1.out.size))
        clear hb3
        go_wp2_with fail
        refine (rEval_any d x _ _ _ _ _ _ HOK.out HK1.out HN.out HV.out).mono ?_
        rintro e w4 ⟨rfl, -, hb4⟩
        rw [hpq.out]
        replace HB1 := Lib.hid (HB1.out.trans (hb4.mono HB1.out.size))
        clear hb4
        go_wp2_with fail
        go_ret
        exact ⟨rfl, HB1.out⟩
end Go.Proofs.Ytnbclbphggmenaa.Tr
end
