/- The reference's MayExpr is the program's: which expressions may be. Conditions: the expression lies in memory. -/
import Derived.Test.YtnbclbphggmenaaFormW
namespace Go.Proofs.Ytnbclbphggmenaa.Tr
open Go.RowKit Go.Proofs.Ytnbclbphggmenaa.Lx Go.Proofs.Ytnbclbphggmenaa.Wd
/-- At most so many in one another. -/
def tall : Nat → List Ex → Prop
  | 0, _ => False
  | d + 1, ks => ∀ k ∈ ks, tall d k.ks
theorem ExK.tall {w : World} : ∀ {d : Nat} {kv : Value} {ks : List Ex}, ExK d w kv ks → Tr.tall d ks := by
  intro d
  induction d with
  | zero => intro kv ks h; exact h
  | succ d ih =>
    intro kv ks h k hk
    obtain ⟨a, cap, h1, h2, h3, h4⟩ := h
    obtain ⟨g, off, h5, h6⟩ := h4 (List.ne_nil_of_mem hk)
    obtain ⟨i, hi, rfl⟩ := List.getElem_of_mem hk
    obtain ⟨h7, u, _, _, _, _, hku⟩ := h6 i hi
    exact ih hku
theorem dF_le (m : Nat) : ∀ (l : List Ex) (d : Nat), l.foldl (fun d k => if d < m + 1 then max d (dE m k) else d) d ≤ m ↔ d ≤ m ∧ ∀ k ∈ l, dE m k ≤ m := by
  intro l
  induction l with
  | nil => intro d; simp
  | cons a r ih =>
    intro d
    rw [List.foldl_cons, ih]
    by_cases h : d < m + 1
    · rw [if_pos h]
      simp only [List.mem_cons, forall_eq_or_imp]
      exact ⟨fun ⟨h1, h2⟩ => ⟨by omega, by omega, h2⟩, fun ⟨h1, h2, h3⟩ => ⟨by omega, h3⟩⟩
    · rw [if_neg h]
      simp only [List.mem_cons, forall_eq_or_imp]
      exact ⟨fun ⟨h1, h2⟩ => by omega, fun ⟨h1, h2, h3⟩ => by omega⟩
theorem may_law : ∀ (l d : Nat) (x : Ex), tall d x.ks → mayE l x = (decide (dE l x ≤ l) && formE d x) := by
  intro l
  induction l with
  | zero => intro d x _; rfl
  | succ l ih =>
    intro d x ht
    cases d with
    | zero => exact ht.elim
    | succ d =>
      have e1 : (dE (l + 1) x ≤ l + 1) ↔ ∀ k ∈ x.ks, dE l k ≤ l := by
        show (x.ks.foldl _ 0) + 1 ≤ l + 1 ↔ _
        have := dF_le l x.ks 0
        constructor
        · intro h; exact (this.1 (by omega)).2
        · intro h; have := this.2 ⟨by omega, h⟩; omega
      have e2 : x.ks.all (mayE l) = (decide (∀ k ∈ x.ks, dE l k ≤ l) && x.ks.all (formE d)) := by
        rw [Bool.eq_iff_iff]
        simp only [List.all_eq_true, Bool.and_eq_true, decide_eq_true_eq]
        constructor
        · intro h
          refine ⟨fun k hk => ?_, fun k hk => ?_⟩
          · have := h k hk; rw [ih d k (ht k hk)] at this; simp at this; exact this.1
          · have := h k hk; rw [ih d k (ht k hk)] at this; simp at this; exact this.2
        · intro h k hk
          rw [ih d k (ht k hk)]
          simp [h.1 k hk, h.2 k hk]
      rw [mayE_succ, e2]
      have e3 : formE (d + 1) x = ((x.ks.length : Int) == kidsOf x.op && headE x && x.ks.all (formE d)) := rfl
      rw [e3, show decide (dE (l + 1) x ≤ l + 1) = decide (∀ k ∈ x.ks, dE l k ≤ l) from by simp only [e1]]
      generalize ((x.ks.length : Int) == kidsOf x.op && headE x) = p
      generalize decide (∀ k ∈ x.ks, dE l k ≤ l) = q
      generalize x.ks.all (formE d) = r
      cases p <;> cases q <;> cases r <;> rfl
theorem rmayExpr_any (d : Nat) (x : Ex) (kv : Value) (w : World) (hok : OkE x) (hk : ExK d w kv x.ks) :
    Calls Try.prog 31 #[exV x kv] w fun e w' => e = .returned (.bool (mayE 20 x)) ∧ Below w.heap.size w w' := by
  have hbox := boxed w (.cells #[.int .i64 x.op, .int .i64 x.n, .string x.nm, kv] 24)
  have HBOX := Lib.hid hbox
  have HK1 := Lib.hid (hk.next hbox)
  have HOK := Lib.hid hok
  have hlaw := may_law 20 d x hk.tall
  obtain ⟨a, cap, rfl, -, -⟩ := hk.form
  have hle := dE_le 20 x
  obtain ⟨q, hq⟩ : ∃ q, Hid (dE 20 x = q) := ⟨_, Lib.hid rfl⟩
  rw [hq.out] at hlaw hle
  have HL := Lib.hid hlaw
  clear hbox hk hok hlaw
  unfold exV
  by_cases hq20 : q ≤ 20
  · have hq' : (q : Int) ≤ 20 := by omega
    go_enter Try.func31, Try.ntmps31
    go_wp2_with fail
    refine (rdeep_any 20 d x _ _ (by omega) HOK.out HK1.out).mono ?_
    rintro e w1 ⟨rfl, hb⟩
    rw [hq.out]
    have HB := Lib.hid (HBOX.out.trans (hb.mono HBOX.out.size))
    have HK2 := Lib.hid (HK1.out.next hb)
    have c0 := cell_next (g := w.heap.size) (j := 0) (u := .int .i64 x.op) hb (by simp [go_sem])
    have c1 := cell_next (g := w.heap.size) (j := 1) (u := .int .i64 x.n) hb (by simp [go_sem])
    have c2 := cell_next (g := w.heap.size) (j := 2) (u := .string x.nm) hb (by simp [go_sem])
    have c3 := cell_next (g := w.heap.size) (j := 3) (u := .slice a x.ks.length cap) hb (by simp [go_sem])
    have hs1 : w.heap.size < w1.heap.size := by have := hb.size; simp at this; omega
    clear hb
    go_wp2_with fail
    refine (form_any d x _ _ HOK.out HK2.out).mono ?_
    rintro e w2 ⟨rfl, hb2⟩
    have HB2 := Lib.hid (HB.out.trans (hb2.mono HB.out.size))
    clear hb2
    go_wp2_with fail
    go_ret
    exact ⟨by rw [HL.out, show decide (q ≤ 20) = true from by simpa using hq20, Bool.true_and]; rfl, HB2.out⟩
  · have hq' : ¬ (q : Int) ≤ 20 := by omega
    go_enter Try.func31, Try.ntmps31
    go_wp2_with fail
    refine (rdeep_any 20 d x _ _ (by omega) HOK.out HK1.out).mono ?_
    rintro e w1 ⟨rfl, hb⟩
    rw [hq.out]
    have HB := Lib.hid (HBOX.out.trans (hb.mono HBOX.out.size))
    clear hb
    go_wp2_with fail
    go_ret
    exact ⟨by rw [HL.out, show decide (q ≤ 20) = false from by simpa using hq20, Bool.false_and]; rfl, HB.out⟩
end Go.Proofs.Ytnbclbphggmenaa.Tr
