/- What slices.Equal of texts, tree.alike compute. Conditions: the arguments lie in memory.
   What slices.EqualFunc of arguments and of statements, tree.same compute. Conditions: the arguments lie in memory. -/
import Derived.Test.YtnbclbphggmenaaBGath
import Derived.Test.YtnbclbphggmenaaBTMay
import Derived.Deep.RegionHeld3
import Derived.Deep.QuietTactic
import Derived.BigQuiet
import Derived.Test.YtnbclbphggmenaaBSt
section
namespace Go.Proofs.Ytnbclbphggmenaa.Tr
open Go.RowKit Go.Proofs.Ytnbclbphggmenaa.Lx Go.Proofs.Ytnbclbphggmenaa.Wd
set_option maxHeartbeats 1000000 in
theorem sEqual_any (l m : List ByteArray) (lv mv : Value) (w : World) (hl : StrsAt w lv l) (hm : StrsAt w mv m) :
    Calls Try.prog 80 #[lv, mv] w fun e w' => e = .returned (.bool (eqT l m)) ∧ Below w.heap.size w w' := by
  obtain ⟨a, ca, rfl, hc1, hc2⟩ := hl.form
  obtain ⟨b, cb, rfl, hc3, hc4⟩ := hm.form
  have HL := Lib.hid hl
  have HM := Lib.hid hm
  obtain ⟨q, hq⟩ : ∃ q, Hid (eqT l m = q) := ⟨_, Lib.hid rfl⟩
  rw [hq.out]
  clear hl hm
  go_enter Try.func80, Try.ntmps80
  by_cases hlen : l.length = m.length
  · have b1 : ((l.length : Int) != (m.length : Int)) = false := by simp [hlen]
    go_wp2_with fail
    go_loopw [13] (fun i wr => ∃ k : Nat, k ≤ l.length ∧ i = .int .i64 k ∧ Below w.heap.size w wr ∧ ∀ j (h1 : j < l.length) (h2 : j < m.length), j < k → (l[j].toList == m[j].toList) = true) (fun i _ => (l.length - intOf i).toNat)
    case atStart => exact ⟨0, by omega, rfl, Below.refl _ _, fun j _ _ h => absurd h (by omega)⟩
    case round =>
      obtain ⟨k, hk, rfl, hbel, hno⟩ := hrel
      have HB := Lib.hid hbel
      have HNO := Lib.hid hno
      clear hno
      by_cases hlt : k < l.length
      · have hlt' : (k : Int) < (l.length : Int) := by omega
        have hlt2 : k < m.length := by omega
        have hlt3 : (k : Int) < (m.length : Int) := by omega
        have h0k : (0 : Int) ≤ (k : Int) := by omega
        have hne : l ≠ [] := by intro h; rw [h] at hlt; simp at hlt
        have hne2 : m ≠ [] := by intro h; rw [h] at hlt2; simp at hlt2
        obtain ⟨g, off, cap', hv, hcells⟩ := (HL.out.next hbel).cells hne
        simp only [Value.slice.injEq] at hv
        obtain ⟨rfl, -, rfl⟩ := hv
        obtain ⟨-, c0⟩ := hcells k hlt
        obtain ⟨g2, off2, cap2, hv, hcells2⟩ := (HM.out.next hbel).cells hne2
        simp only [Value.slice.injEq] at hv
        obtain ⟨rfl, -, rfl⟩ := hv
        obtain ⟨-, d0⟩ := hcells2 k hlt2
        clear hcells hne hcells2 hne2 hbel
        obtain ⟨s, hs⟩ : ∃ s, Hid (l[k] = s) := ⟨_, Lib.hid rfl⟩
        obtain ⟨t, ht⟩ : ∃ t, Hid (m[k] = t) := ⟨_, Lib.hid rfl⟩
        rw [hs.out] at c0
        rw [ht.out] at d0
        cases hst : (s.toList == t.toList) with
        | true =>
          have HST := Lib.hid hst
          have hst2 : (s.toList != t.toList) = false := by simpa using hst
          go_wp2_with fail
          go_quiet (fail)
          go_wp2_with fail
          go_roundw
          case rel =>
            refine ⟨k + 1, by omega, by go_num, below_drewN HB.out nq, fun j h1 h2 hjk => ?_⟩
            rcases Nat.lt_or_ge j k with h | h
            · exact HNO.out j h1 h2 h
            · obtain rfl : j = k := by omega
              rw [hs.out, ht.out]
              exact HST.out
          case measure => simp [intOf]; omega
        | false =>
          have HST := Lib.hid hst
          have hst2 : (s.toList != t.toList) = true := by simpa using hst
          go_wp2_with fail
          go_quiet (fail)
          go_wp2_with fail
          go_ret
          have := eqT_at hlt hlt2 (by rw [hs.out, ht.out]; exact HST.out)
          rw [hq.out] at this
          rw [this]
          exact ⟨rfl, below_drewN HB.out nq⟩
      · have hlt' : ¬ (k : Int) < (l.length : Int) := by omega
        go_wp2_with fail
        go_ret
        have := eqT_all hlen fun j h1 h2 => HNO.out j h1 h2 (by omega)
        rw [hq.out] at this
        rw [this]
        exact ⟨rfl, HB.out⟩
  · have b1 : ((l.length : Int) != (m.length : Int)) = true := by simp; omega
    go_wp2_with fail
    go_ret
    have := eqT_len hlen
    rw [hq.out] at this
    rw [this]
    exact ⟨rfl, Below.refl _ _⟩
mutual
/-- Are two expressions the same? -/
def eqE : Ex → Ex → Bool
  | .mk o n s ks, y => o == y.op && n == y.n && (s.toList == y.nm.toList) && eqEs ks y.ks
def eqEs : List Ex → List Ex → Bool
  | [], [] => true
  | x :: xs, y :: ys => eqE x y && eqEs xs ys
  | [], _ :: _ => false
  | _ :: _, [] => false
end
theorem eqE_eq (x y : Ex) : eqE x y = (x.op == y.op && x.n == y.n && (x.nm.toList == y.nm.toList) && eqEs x.ks y.ks) := by cases x; simp only [eqE, Ex.op, Ex.n, Ex.nm, Ex.ks]
theorem eqEs_len : ∀ {l m : List Ex}, l.length ≠ m.length → eqEs l m = false := by
  intro l
  induction l with
  | nil => intro m h; cases m with
    | nil => exact absurd rfl h
    | cons _ _ => simp only [eqEs]
  | cons x l ih => intro m h; cases m with
    | nil => simp only [eqEs]
    | cons y m =>
      simp only [eqEs]
      rw [ih (by simpa using h), Bool.and_false]
theorem eqEs_at : ∀ {l m : List Ex} {k : Nat} (h1 : k < l.length) (h2 : k < m.length), eqE l[k] m[k] = false → eqEs l m = false := by
  intro l
  induction l with
  | nil => intro m k h1; cases h1
  | cons x l ih => intro m k h1 h2 h; cases m with
    | nil => cases h2
    | cons y m =>
      simp only [eqEs]
      cases k with
      | zero =>
        have h' : eqE x y = false := h
        rw [h', Bool.false_and]
      | succ k => rw [ih (k := k) (by simpa using h1) (by simpa using h2) h, Bool.and_false]
theorem eqEs_all : ∀ {l m : List Ex}, l.length = m.length → (∀ k (h1 : k < l.length) (h2 : k < m.length), eqE l[k] m[k] = true) → eqEs l m = true := by
  intro l
  induction l with
  | nil => intro m h _; cases m with
    | nil => simp only [eqEs]
    | cons _ _ => cases h
  | cons x l ih => intro m hl h; cases m with
    | nil => cases hl
    | cons y m =>
      simp only [eqEs]
      have h0 : eqE x y = true := h 0 (by simp) (by simp)
      rw [h0, Bool.true_and]
      exact ih (by simpa using hl) fun k h1 h2 => h (k + 1) (by simpa using h1) (by simpa using h2)
/-- What EqualFunc tells, so deep. -/
def EqKids (d : Nat) : Prop := ∀ (l m : List Ex) (lv mv : Value) (w : World), ExK d w lv l → ExK d w mv m →
    Calls Try.prog 129 #[lv, mv, .func (.func 114) #[] #[]] w fun e w' => e = .returned (.bool (eqEs l m)) ∧ Below w.heap.size w w'
set_option maxHeartbeats 2000000 in
theorem alike_of (d : Nat) (hE : EqKids d) (x y : Ex) (kx ky : Value) (w : World) (hx : ExK d w kx x.ks) (hy : ExK d w ky y.ks) :
    Calls Try.prog 114 #[exV x kx, exV y ky] w fun e w' => e = .returned (.bool (eqE x y)) ∧ Below w.heap.size w w' := by
  obtain ⟨ax, cx, rfl, -, -⟩ := hx.form
  obtain ⟨ay, cy, rfl, -, -⟩ := hy.form
  have hbox : Below w.heap.size w ((w.alloc (.cells #[.int .i64 x.op, .int .i64 x.n, .string x.nm, .slice ax x.ks.length cx] 24)).alloc (.cells #[.int .i64 y.op, .int .i64 y.n, .string y.nm, .slice ay y.ks.length cy] 24)) := (boxed w _).alloc (by simp) _
  have HB := Lib.hid hbox
  have HX := Lib.hid (hx.next hbox)
  have HY := Lib.hid (hy.next hbox)
  have HE := Lib.hid hE
  clear hbox hx hy hE
  rw [eqE_eq]
  unfold exV
  cases h1 : (x.op == y.op) with
  | false =>
    go_enter Try.func114, Try.ntmps114
    go_wp2_with fail
    go_ret
    exact ⟨rfl, HB.out⟩
  | true =>
    cases h2 : (x.n == y.n) with
    | false =>
      go_enter Try.func114, Try.ntmps114
      go_wp2_with fail
      go_ret
      exact ⟨rfl, HB.out⟩
    | true =>
      cases h3 : (x.nm.toList == y.nm.toList) with
      | false =>
        go_enter Try.func114, Try.ntmps114
        go_wp2_with fail
        go_ret
        exact ⟨rfl, HB.out⟩
      | true =>
        obtain ⟨b, hb⟩ : ∃ b, Hid (eqEs x.ks y.ks = b) := ⟨_, Lib.hid rfl⟩
        rw [hb.out]
        go_enter Try.func114, Try.ntmps114
        go_wp2_with fail
        refine (HE.out x.ks y.ks _ _ _ HX.out HY.out).mono ?_
        rintro e w' ⟨rfl, hbe⟩
        rw [hb.out]
        have HB2 := Lib.hid (HB.out.trans (hbe.mono HB.out.size))
        clear hbe
        go_wp2_with fail
        go_ret
        exact ⟨rfl, HB2.out⟩
set_option maxHeartbeats 2000000 in
theorem equalKids_any : ∀ d, EqKids d := by
  intro d
  induction d with
  | zero => intro l m lv mv w h; exact h.elim
  | succ d ih =>
    intro l m lv mv w hl hm
    have HA := Lib.hid (alike_of d ih)
    obtain ⟨a, ca, rfl, hc1, hc2⟩ := hl.form
    obtain ⟨b, cb, rfl, hc3, hc4⟩ := hm.form
    have HL := Lib.hid hl
    have HM := Lib.hid hm
    obtain ⟨q, hq⟩ : ∃ q, Hid (eqEs l m = q) := ⟨_, Lib.hid rfl⟩
    rw [hq.out]
    clear hl hm ih
    go_enter Try.func129, Try.ntmps129
    by_cases hlen : l.length = m.length
    · have b1 : ((l.length : Int) != (m.length : Int)) = false := by simp [hlen]
      have HLEN := Lib.hid hlen
      clear hlen
      go_wp2_with fail
      go_loopw [17] (fun i wr => ∃ k : Nat, k ≤ l.length ∧ i = .int .i64 k ∧ Below w.heap.size w wr ∧ ∀ j (h1 : j < l.length) (h2 : j < m.length), j < k → eqE l[j] m[j] = true) (fun i _ => (l.length - intOf i).toNat)
      case atStart => exact ⟨0, by omega, rfl, Below.refl _ _, fun j _ _ h => absurd h (by omega)⟩
      case round =>
        obtain ⟨k, hk, rfl, hbel, hno⟩ := hrel
        have HB := Lib.hid hbel
        have HNO := Lib.hid hno
        clear hno
        by_cases hlt : k < l.length
        · have hlt' : (k : Int) < (l.length : Int) := by omega
          have hlt2 : k < m.length := by have := HLEN.out; omega
          have hlt3 : (k : Int) < (m.length : Int) := by omega
          have h0k : (0 : Int) ≤ (k : Int) := by omega
          have hne : l ≠ [] := by intro h; rw [h] at hlt; simp at hlt
          have hne2 : m ≠ [] := by intro h; rw [h] at hlt2; simp at hlt2
          obtain ⟨g, off, cap', hv, _, _, hcells⟩ := (HL.out.next hbel).kids hne
          simp only [Value.slice.injEq] at hv
          obtain ⟨rfl, -, rfl⟩ := hv
          obtain ⟨-, u, c0, c1, c2, c3, hku⟩ := hcells k hlt
          obtain ⟨g2, off2, cap2, hv, _, _, hcells2⟩ := (HM.out.next hbel).kids hne2
          simp only [Value.slice.injEq] at hv
          obtain ⟨rfl, -, rfl⟩ := hv
          obtain ⟨-, u2, e0, e1, e2, e3, hku2⟩ := hcells2 k hlt2
          obtain ⟨x, hx⟩ : ∃ x, Hid (l[k] = x) := ⟨_, Lib.hid rfl⟩
          obtain ⟨y, hy⟩ : ∃ y, Hid (m[k] = y) := ⟨_, Lib.hid rfl⟩
          rw [hx.out] at c0 c1 c2 hku
          rw [hy.out] at e0 e1 e2 hku2
          obtain ⟨au, cu, rfl, -, -⟩ := hku.form
          obtain ⟨au2, cu2, rfl, -, -⟩ := hku2.form
          have hbx : Below wr.heap.size wr ((wr.alloc (.cells #[.int .i64 x.op, .int .i64 x.n, .string x.nm, .slice au x.ks.length cu] 24)).alloc (.cells #[.int .i64 y.op, .int .i64 y.n, .string y.nm, .slice au2 y.ks.length cu2] 24)) := (boxed wr _).alloc (by simp) _
          have HBX := Lib.hid hbx
          have HKX := Lib.hid (hku.next hbx)
          have HKY := Lib.hid (hku2.next hbx)
          have hz1 := World.new_ne _ _ e0
          have hz2 := World.new_ne _ _ e1
          have hzl := cell_lt e0
          clear hcells hne hcells2 hne2 hbel hku hku2 hbx
          obtain ⟨bk, hbk⟩ : ∃ bk, Hid (eqE x y = bk) := ⟨_, Lib.hid rfl⟩
          go_wp2_with fail
          refine (HA.out x y _ _ _ HKX.out HKY.out).mono ?_
          rintro e w' ⟨rfl, hbe⟩
          rw [hbk.out]
          have HB2 := Lib.hid (HB.out.trans ((HBX.out.trans (hbe.mono HBX.out.size)).mono HB.out.size))
          clear hbe
          cases bk with
          | true =>
            go_wp2_with fail
            go_roundw
            case rel =>
              refine ⟨k + 1, by omega, by go_num, HB2.out, fun j h1 h2 hjk => ?_⟩
              rcases Nat.lt_or_ge j k with h | h
              · exact HNO.out j h1 h2 h
              · obtain rfl : j = k := by omega
                rw [hx.out, hy.out]
                exact hbk.out
            case measure => simp [intOf]; omega
          | false =>
            go_wp2_with fail
            go_ret
            have := eqEs_at hlt hlt2 (by rw [hx.out, hy.out]; exact hbk.out)
            rw [hq.out] at this
            rw [this]
            exact ⟨rfl, HB2.out⟩
        · have hlt' : ¬ (k : Int) < (l.length : Int) := by omega
          clear hbel
          go_wp2_with fail
          go_ret
          have := eqEs_all HLEN.out fun j h1 h2 => HNO.out j h1 h2 (by omega)
          rw [hq.out] at this
          rw [this]
          exact ⟨rfl, HB.out⟩
    · have b1 : ((l.length : Int) != (m.length : Int)) = true := by simp; omega
      go_wp2_with fail
      go_ret
      have := eqEs_len hlen
      rw [hq.out] at this
      rw [this]
      exact ⟨rfl, Below.refl _ _⟩
theorem alike_any (d : Nat) (x y : Ex) (kx ky : Value) (w : World) (hx : ExK d w kx x.ks) (hy : ExK d w ky y.ks) :
    Calls Try.prog 114 #[exV x kx, exV y ky] w fun e w' => e = .returned (.bool (eqE x y)) ∧ Below w.heap.size w w' := alike_of d (equalKids_any d) x y kx ky w hx hy
end Go.Proofs.Ytnbclbphggmenaa.Tr
end
section
namespace Go.Proofs.Ytnbclbphggmenaa.Tr
open Go.RowKit Go.Proofs.Ytnbclbphggmenaa.Lx Go.Proofs.Ytnbclbphggmenaa.Wd
/-- Two lists, alike one by one. -/
def eqL {α : Type} (f : α → α → Bool) : List α → List α → Bool
  | [], [] => true
  | x :: xs, y :: ys => f x y && eqL f xs ys
  | [], _ :: _ => false
  | _ :: _, [] => false
theorem eqL_len {α : Type} {f : α → α → Bool} : ∀ {l m : List α}, l.length ≠ m.length → eqL f l m = false := by
  intro l
  induction l with
  | nil => intro m h; cases m with
    | nil => exact absurd rfl h
    | cons _ _ => rfl
  | cons x l ih => intro m h; cases m with
    | nil => rfl
    | cons y m => rw [eqL, ih (by simpa using h), Bool.and_false]
theorem eqL_at {α : Type} {f : α → α → Bool} : ∀ {l m : List α} {k : Nat} (h1 : k < l.length) (h2 : k < m.length), f l[k] m[k] = false → eqL f l m = false := by
  intro l
  induction l with
  | nil => intro m k h1; cases h1
  | cons x l ih => intro m k h1 h2 h; cases m with
    | nil => cases h2
    | cons y m =>
      cases k with
      | zero =>
        have h' : f x y = false := h
        rw [eqL, h', Bool.false_and]
      | succ k => rw [eqL, ih (k := k) (by simpa using h1) (by simpa using h2) h, Bool.and_false]
theorem eqL_all {α : Type} {f : α → α → Bool} : ∀ {l m : List α}, l.length = m.length → (∀ k (h1 : k < l.length) (h2 : k < m.length), f l[k] m[k] = true) → eqL f l m = true := by
  intro l
  induction l with
  | nil => intro m h _; cases m with
    | nil => rfl
    | cons _ _ => cases h
  | cons x l ih => intro m hl h; cases m with
    | nil => cases hl
    | cons y m =>
      have h0 : f x y = true := h 0 (by simp) (by simp)
      rw [eqL, h0, Bool.true_and]
      exact ih (by simpa using hl) fun k h1 h2 => h (k + 1) (by simpa using h1) (by simpa using h2)
/-- Are two arguments the same? -/
def eqA (a b : Ar) : Bool := (a.ref == b.ref) && (a.nm.toList == b.nm.toList) && eqE a.x b.x
def arV (a : Ar) (kv : Value) : Value := .agg #[.bool a.ref, .string a.nm, .int .i64 a.x.op, .int .i64 a.x.n, .string a.x.nm, kv]
set_option maxHeartbeats 2000000 in
theorem same1_any (d : Nat) (x y : Ar) (kx ky : Value) (w : World) (hx : ExK d w kx x.x.ks) (hy : ExK d w ky y.x.ks) :
    Calls Try.prog 116 #[arV x kx, arV y ky] w fun e w' => e = .returned (.bool (eqA x y)) ∧ Below w.heap.size w w' := by
  obtain ⟨ax, cx, rfl, -, -⟩ := hx.form
  obtain ⟨ay, cy, rfl, -, -⟩ := hy.form
  have hbox : Below w.heap.size w ((w.alloc (.cells #[.bool x.ref, .string x.nm, .int .i64 x.x.op, .int .i64 x.x.n, .string x.x.nm, .slice ax x.x.ks.length cx] 80)).alloc (.cells #[.bool y.ref, .string y.nm, .int .i64 y.x.op, .int .i64 y.x.n, .string y.x.nm, .slice ay y.x.ks.length cy] 80)) := (boxed w _).alloc (by simp) _
  have HB := Lib.hid hbox
  have HX := Lib.hid (hx.next hbox)
  have HY := Lib.hid (hy.next hbox)
  clear hbox hx hy
  unfold arV eqA
  cases h1 : (x.ref == y.ref) with
  | false =>
    go_enter Try.func116, Try.ntmps116
    go_wp2_with fail
    go_ret
    exact ⟨rfl, HB.out⟩
  | true =>
    cases h3 : (x.nm.toList == y.nm.toList) with
    | false =>
      go_enter Try.func116, Try.ntmps116
      go_wp2_with fail
      go_ret
      exact ⟨rfl, HB.out⟩
    | true =>
      obtain ⟨b, hb⟩ : ∃ b, Hid (eqE x.x y.x = b) := ⟨_, Lib.hid rfl⟩
      rw [hb.out]
      go_enter Try.func116, Try.ntmps116
      go_wp2_with fail
      refine (alike_any d x.x y.x _ _ _ HX.out HY.out).mono ?_
      rintro e w' ⟨rfl, hbe⟩
      rw [hb.out]
      have HB2 := Lib.hid (HB.out.trans (hbe.mono HB.out.size))
      clear hbe
      go_wp2_with fail
      go_ret
      exact ⟨rfl, HB2.out⟩
set_option maxHeartbeats 2000000 in
theorem equalArgs_any (d : Nat) (l m : List Ar) (lv mv : Value) (w : World) (hl : SlAt 6 (ArAt (cw w) d) lv l) (hm : SlAt 6 (ArAt (cw w) d) mv m) :
    Calls Try.prog 115 #[lv, mv, .func (.func 116) #[] #[]] w fun e w' => e = .returned (.bool (eqL eqA l m)) ∧ Below w.heap.size w w' := by
    obtain ⟨a, ca, rfl, hc1, hc2⟩ := hl.form
    obtain ⟨b, cb, rfl, hc3, hc4⟩ := hm.form
    have HL := Lib.hid hl
    have HM := Lib.hid hm
    obtain ⟨q, hq⟩ : ∃ q, Hid (eqL eqA l m = q) := ⟨_, Lib.hid rfl⟩
    rw [hq.out]
    clear hl hm
    go_enter Try.func115, Try.ntmps115
    by_cases hlen : l.length = m.length
    · have b1 : ((l.length : Int) != (m.length : Int)) = false := by simp [hlen]
      have HLEN := Lib.hid hlen
      clear hlen
      go_wp2_with fail
      go_loopw [17] (fun i wr => ∃ k : Nat, k ≤ l.length ∧ i = .int .i64 k ∧ Below w.heap.size w wr ∧ ∀ j (h1 : j < l.length) (h2 : j < m.length), j < k → eqA l[j] m[j] = true) (fun i _ => (l.length - intOf i).toNat)
      case atStart => exact ⟨0, by omega, rfl, Below.refl _ _, fun j _ _ h => absurd h (by omega)⟩
      case round =>
        obtain ⟨k, hk, rfl, hbel, hno⟩ := hrel
        have HB := Lib.hid hbel
        have HNO := Lib.hid hno
        clear hno
        by_cases hlt : k < l.length
        · have hlt' : (k : Int) < (l.length : Int) := by omega
          have hlt2 : k < m.length := by have := HLEN.out; omega
          have hlt3 : (k : Int) < (m.length : Int) := by omega
          have h0k : (0 : Int) ≤ (k : Int) := by omega
          have hne : l ≠ [] := by intro h; rw [h] at hlt; simp at hlt
          have hne2 : m ≠ [] := by intro h; rw [h] at hlt2; simp at hlt2
          obtain ⟨g, off, cap', hv, _, hcells⟩ := SlAt.cells (SlAt.imp HL.out fun _ _ _ _ => ArAt.mono (cw_next hbel)) hne
          simp only [Value.slice.injEq] at hv
          obtain ⟨rfl, -, rfl⟩ := hv
          have hst1 := hcells k hlt
          obtain ⟨g2, off2, cap2, hv, _, hcells2⟩ := SlAt.cells (SlAt.imp HM.out fun _ _ _ _ => ArAt.mono (cw_next hbel)) hne2
          simp only [Value.slice.injEq] at hv
          obtain ⟨rfl, -, rfl⟩ := hv
          have hst2 := hcells2 k hlt2
          obtain ⟨x, hx⟩ : ∃ x, Hid (l[k] = x) := ⟨_, Lib.hid rfl⟩
          obtain ⟨y, hy⟩ : ∃ y, Hid (m[k] = y) := ⟨_, Lib.hid rfl⟩
          rw [hx.out] at hst1
          rw [hy.out] at hst2
          clear hcells hne hcells2 hne2
          obtain ⟨p0, p1, -, kvp, p3, p4, p5, p6, -, hkp⟩ := hst1
          obtain ⟨au, cu, rfl, -, -⟩ := hkp.form
          have ep0 : wr.cell? ⟨g, off + k * 6, none⟩ = _ := p0
          have ep1 : wr.cell? ⟨g, off + k * 6 + 1, none⟩ = _ := p1
          have ep2 : wr.cell? ⟨g, off + k * 6 + 2, none⟩ = _ := p3
          have ep3 : wr.cell? ⟨g, off + k * 6 + 3, none⟩ = _ := p4
          have ep4 : wr.cell? ⟨g, off + k * 6 + 4, none⟩ = _ := p5
          have ep5 : wr.cell? ⟨g, off + k * 6 + 5, none⟩ = _ := p6
          obtain ⟨r0, r1, -, kvr, r3, r4, r5, r6, -, hkr⟩ := hst2
          obtain ⟨au2, cu2, rfl, -, -⟩ := hkr.form
          have er0 : wr.cell? ⟨g2, off2 + k * 6, none⟩ = _ := r0
          have er1 : wr.cell? ⟨g2, off2 + k * 6 + 1, none⟩ = _ := r1
          have er2 : wr.cell? ⟨g2, off2 + k * 6 + 2, none⟩ = _ := r3
          have er3 : wr.cell? ⟨g2, off2 + k * 6 + 3, none⟩ = _ := r4
          have er4 : wr.cell? ⟨g2, off2 + k * 6 + 4, none⟩ = _ := r5
          have er5 : wr.cell? ⟨g2, off2 + k * 6 + 5, none⟩ = _ := r6
          have hbx : Below wr.heap.size wr ((wr.alloc (.cells #[.bool x.ref, .string x.nm, .int .i64 x.x.op, .int .i64 x.x.n, .string x.x.nm, .slice au x.x.ks.length cu] 80)).alloc (.cells #[.bool y.ref, .string y.nm, .int .i64 y.x.op, .int .i64 y.x.n, .string y.x.nm, .slice au2 y.x.ks.length cu2] 80)) := (boxed wr _).alloc (by simp) _
          have HBX := Lib.hid hbx
          have HKX := Lib.hid (ExC.to (ExC.mono (cw_next hbx) hkp))
          have HKY := Lib.hid (ExC.to (ExC.mono (cw_next hbx) hkr))
          have hzl := cell_lt er0
          clear p0 p1 p3 p4 p5 p6 r0 r1 r3 r4 r5 r6 hkp hkr
          clear hbel hbx
          obtain ⟨bk, hbk⟩ : ∃ bk, Hid (eqA x y = bk) := ⟨_, Lib.hid rfl⟩
          go_wp2_with fail
          refine (same1_any d x y _ _ _ HKX.out HKY.out).mono ?_
          rintro e w' ⟨rfl, hbe⟩
          rw [hbk.out]
          have HB2 := Lib.hid (HB.out.trans ((HBX.out.trans (hbe.mono HBX.out.size)).mono HB.out.size))
          clear hbe
          cases bk with
          | true =>
            go_wp2_with fail
            go_roundw
            case rel =>
              refine ⟨k + 1, by omega, by go_num, HB2.out, fun j h1 h2 hjk => ?_⟩
              rcases Nat.lt_or_ge j k with h | h
              · exact HNO.out j h1 h2 h
              · obtain rfl : j = k := by omega
                rw [hx.out, hy.out]
                exact hbk.out
            case measure => simp [intOf]; omega
          | false =>
            go_wp2_with fail
            go_ret
            have := eqL_at (f := eqA) hlt hlt2 (by rw [hx.out, hy.out]; exact hbk.out)
            rw [hq.out] at this
            rw [this]
            exact ⟨rfl, HB2.out⟩
        · have hlt' : ¬ (k : Int) < (l.length : Int) := by omega
          clear hbel
          go_wp2_with fail
          go_ret
          have := eqL_all (f := eqA) HLEN.out fun j h1 h2 => HNO.out j h1 h2 (by omega)
          rw [hq.out] at this
          rw [this]
          exact ⟨rfl, HB.out⟩
    · have b1 : ((l.length : Int) != (m.length : Int)) = true := by simp; omega
      go_wp2_with fail
      go_ret
      have := eqL_len (f := eqA) hlen
      rw [hq.out] at this
      rw [this]
      exact ⟨rfl, Below.refl _ _⟩
end Go.Proofs.Ytnbclbphggmenaa.Tr
end
