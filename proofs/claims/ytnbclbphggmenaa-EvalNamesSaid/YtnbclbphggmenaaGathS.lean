/- What Names, EqTexts of the reference compute. Conditions: the arguments lie in memory. -/
import Derived.Test.YtnbclbphggmenaaGathR
import Derived.Deep.QuietTactic
import Derived.BigQuiet
namespace Go.Proofs.Ytnbclbphggmenaa.Tr
open Go.RowKit Go.Proofs.Ytnbclbphggmenaa.Lx Go.Proofs.Ytnbclbphggmenaa.Wd
set_option maxHeartbeats 1000000 in
theorem rnames_any (d : Nat) (x : Ex) (kv : Value) (w : World) (hok : OkE x) (hk : ExK d w kv x.ks) : Calls Try.prog 33 #[exV x kv] w (NamesMade (namesOf x) w) := by
  have hbox := boxed w (.cells #[.int .i64 x.op, .int .i64 x.n, .string x.nm, kv] 24)
  have HBOX := Lib.hid hbox
  have HK1 := Lib.hid (hk.next hbox)
  have HOK := Lib.hid hok
  obtain ⟨a, cap, rfl, -, -⟩ := hk.form
  obtain ⟨mb, hm⟩ : ∃ mb, Hid (mayE 20 x = mb) := ⟨_, Lib.hid rfl⟩
  obtain ⟨L, hL⟩ : ∃ L, Hid (namesOf x = L) := ⟨_, Lib.hid rfl⟩
  rw [hL.out]
  clear hbox hk hok
  unfold exV
  go_enter Try.func33, Try.ntmps33
  go_wp2_with fail
  refine (rmayExpr_any d x _ _ HOK.out HK1.out).mono ?_
  rintro e w1 ⟨rfl, hb⟩
  rw [hm.out]
  have p0 := cell_next (g := w.heap.size) (j := 0) (u := .int .i64 x.op) hb (by simp [go_sem])
  have p1 := cell_next (g := w.heap.size) (j := 1) (u := .int .i64 x.n) hb (by simp [go_sem])
  have p2 := cell_next (g := w.heap.size) (j := 2) (u := .string x.nm) hb (by simp [go_sem])
  have p3 := cell_next (g := w.heap.size) (j := 3) (u := .slice a x.ks.length cap) hb (by simp [go_sem])
  have HB := Lib.hid (HBOX.out.trans (hb.mono HBOX.out.size))
  have HK2 := Lib.hid (HK1.out.next hb)
  clear hb
  cases mb with
  | false =>
    go_wp2_with fail
    go_ret
    have he : L = [] := by rw [← hL.out]; unfold namesOf; rw [hm.out]; rfl
    rw [he]
    exact ⟨_, rfl, RowS.nil _ _, HB.out⟩
  | true =>
    have hle : w.heap.size ≤ w1.heap.size := HB.out.size
    go_wp2_with fail
    refine (walk_any w1.heap.size 20 d x _ _ [] _ (Nat.le_refl _) hm.out HOK.out (ExC.mono low_all (ExC.of HK2.out)) (RowS.nil _ _) (Nat.le_refl _) room20).mono ?_
    rintro e w2 ⟨v, rfl, hr, hg, -⟩
    obtain ⟨va, n, vc, rfl, -⟩ := hr.form
    have HR := Lib.hid hr
    have HG := Lib.hid hg
    clear hr hg
    go_wp2_with fail
    go_ret
    have he : L = namesE 20 x [] := by rw [← hL.out]; unfold namesOf; rw [hm.out]; rfl
    rw [he]
    exact ⟨_, rfl, HR.out.mono hle, HB.out.trans ((below_of HG.out).mono hle)⟩
/-- Two lists of texts are the same. -/
def eqT : List ByteArray → List ByteArray → Bool
  | [], [] => true
  | a :: l, b :: m => (a.toList == b.toList) && eqT l m
  | _, _ => false
theorem eqT_same (l : List ByteArray) : eqT l l = true := by
  induction l with
  | nil => rfl
  | cons a l ih => simp [eqT, ih]
theorem eqT_iff : ∀ l m : List ByteArray, eqT l m = true ↔ l = m := by
  intro l
  induction l with
  | nil => intro m; cases m <;> simp [eqT]
  | cons a l ih =>
    intro m
    cases m with
    | nil => simp [eqT]
    | cons b m => rw [eqT, Bool.and_eq_true, eq_text, ih, List.cons.injEq]
theorem eqT_len {l m : List ByteArray} (h : l.length ≠ m.length) : eqT l m = false := by
  cases hh : eqT l m with
  | false => rfl
  | true => rw [eqT_iff] at hh; rw [hh] at h; exact absurd rfl h
theorem eqT_at {l m : List ByteArray} {k : Nat} (h1 : k < l.length) (h2 : k < m.length) (h : (l[k].toList == m[k].toList) = false) : eqT l m = false := by
  cases hh : eqT l m with
  | false => rfl
  | true =>
    rw [eqT_iff] at hh
    subst hh
    rw [(eq_text _ _).2 rfl] at h
    cases h
theorem eqT_all {l m : List ByteArray} (hl : l.length = m.length) (h : ∀ j (h1 : j < l.length) (h2 : j < m.length), (l[j].toList == m[j].toList) = true) : eqT l m = true := by
  rw [eqT_iff]
  exact List.ext_getElem hl fun j h1 h2 => (eq_text _ _).1 (h j h1 h2)
set_option maxHeartbeats 1000000 in
theorem eqTexts_any (l m : List ByteArray) (lv mv : Value) (w : World) (hl : StrsAt w lv l) (hm : StrsAt w mv m) :
    Calls Try.prog 32 #[lv, mv] w fun e w' => e = .returned (.bool (eqT l m)) ∧ Below w.heap.size w w' := by
  obtain ⟨a, ca, rfl, hc1, hc2⟩ := hl.form
  obtain ⟨b, cb, rfl, hc3, hc4⟩ := hm.form
  have HL := Lib.hid hl
  have HM := Lib.hid hm
  obtain ⟨q, hq⟩ : ∃ q, Hid (eqT l m = q) := ⟨_, Lib.hid rfl⟩
  rw [hq.out]
  clear hl hm
  go_enter Try.func32, Try.ntmps32
  by_cases hlen : l.length = m.length
  · have b1 : ((l.length : Int) != (m.length : Int)) = false := by simp [hlen]
    go_wp2_with fail
    go_loopw [13] (fun i wr => ∃ k : Nat, k ≤ l.length ∧ i = .int .i64 k ∧ Below w.heap.size w wr ∧ ∀ j (h1 : j < l.length) (h2 : j < m.length), j < k → (l[j].toList == m[j].toList) = true) (fun i _ => (l.length - intOf i).toNat)
    case atStart => exact ⟨0, by omega, rfl, Below.refl _ _, fun j _ _ h => absurd h (by omega)⟩
    case round =>
      obtain ⟨k, hk, rfl, hbel, hno⟩ := hrel
      have HB := Lib.hid hbel
      have HNO := Lib.hid hno
      clear hno
      by_cases hlt : k < l.length
      · have hlt' : (k : Int) < (l.length : Int) := by omega
        have hlt2 : k < m.length := by omega
        have hlt3 : (k : Int) < (m.length : Int) := by omega
        have h0k : (0 : Int) ≤ (k : Int) := by omega
        have hne : l ≠ [] := by intro h; rw [h] at hlt; simp at hlt
        have hne2 : m ≠ [] := by intro h; rw [h] at hlt2; simp at hlt2
        obtain ⟨g, off, cap', hv, hcells⟩ := (HL.out.next hbel).cells hne
        simp only [Value.slice.injEq] at hv
        obtain ⟨rfl, -, rfl⟩ := hv
        obtain ⟨-, c0⟩ := hcells k hlt
        obtain ⟨g2, off2, cap2, hv, hcells2⟩ := (HM.out.next hbel).cells hne2
        simp only [Value.slice.injEq] at hv
        obtain ⟨rfl, -, rfl⟩ := hv
        obtain ⟨-, d0⟩ := hcells2 k hlt2
        clear hcells hne hcells2 hne2 hbel
        obtain ⟨s, hs⟩ : ∃ s, Hid (l[k] = s) := ⟨_, Lib.hid rfl⟩
        obtain ⟨t, ht⟩ : ∃ t, Hid (m[k] = t) := ⟨_, Lib.hid rfl⟩
        rw [hs.out] at c0
        rw [ht.out] at d0
        cases hst : (s.toList == t.toList) with
        | true =>
          have HST := Lib.hid hst
          have hst2 : (s.toList != t.toList) = false := by simpa using hst
          go_wp2_with fail
          go_quiet (fail)
          go_wp2_with fail
          go_roundw
          case rel =>
            refine ⟨k + 1, by omega, by go_num, below_drewN HB.out nq, fun j h1 h2 hjk => ?_⟩
            rcases Nat.lt_or_ge j k with h | h
            · exact HNO.out j h1 h2 h
            · obtain rfl : j = k := by omega
              rw [hs.out, ht.out]
              exact HST.out
          case measure => simp [intOf]; omega
        | false =>
          have HST := Lib.hid hst
          have hst2 : (s.toList != t.toList) = true := by simpa using hst
          go_wp2_with fail
          go_quiet (fail)
          go_wp2_with fail
          go_ret
          have := eqT_at hlt hlt2 (by rw [hs.out, ht.out]; exact HST.out)
          rw [hq.out] at this
          rw [this]
          exact ⟨rfl, below_drewN HB.out nq⟩
      · have hlt' : ¬ (k : Int) < (l.length : Int) := by omega
        go_wp2_with fail
        go_ret
        have := eqT_all hlen fun j h1 h2 => HNO.out j h1 h2 (by omega)
        rw [hq.out] at this
        rw [this]
        exact ⟨rfl, HB.out⟩
  · have b1 : ((l.length : Int) != (m.length : Int)) = true := by simp; omega
    go_wp2_with fail
    go_ret
    have := eqT_len hlen
    rw [hq.out] at this
    rw [this]
    exact ⟨rfl, Below.refl _ _⟩
end Go.Proofs.Ytnbclbphggmenaa.Tr
