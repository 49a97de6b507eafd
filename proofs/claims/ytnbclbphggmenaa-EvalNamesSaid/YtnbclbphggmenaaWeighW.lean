/- What weighText, weighExpr, FitsExpr of the reference compute: how much an expression is. Conditions: it lies in memory. -/
import Derived.Test.YtnbclbphggmenaaExM
import Derived.IntWalk
namespace Go.Proofs.Ytnbclbphggmenaa.Tr
open Go.RowKit Go.Proofs.Ytnbclbphggmenaa.Lx Go.Proofs.Ytnbclbphggmenaa.Wd
mutual
def wt : Ex → Nat
  | .mk _ _ nm ks => 1 + nm.size + wts ks
def wts : List Ex → Nat
  | [] => 0
  | x :: xs => wt x + wts xs
end
theorem wts_snoc (l : List Ex) (x : Ex) : wts (l ++ [x]) = wts l + wt x := by
  induction l with
  | nil => simp [wts]
  | cons a r ih => simp only [List.cons_append, wts, ih]; omega
theorem wt_eq (x : Ex) : wt x = 1 + x.nm.size + wts x.ks := by cases x; simp only [wt, Ex.nm, Ex.ks]
def wtT (s : ByteArray) (n : Int) : Int := if 20000 < n then 20001 else if 20000 - n ≤ s.size then 20001 else n + 1 + s.size
theorem wtT_bd (s : ByteArray) (n : Int) (h0 : 0 ≤ n) : 0 ≤ wtT s n ∧ wtT s n ≤ 20001 ∧ (wtT s n ≤ 20000 → wtT s n = n + 1 + s.size) := by
  unfold wtT
  split
  · omega
  · split
    · omega
    · omega
theorem weighText_any (s : ByteArray) (n : Int) (w : World) (h0 : 0 ≤ n) (h1 : n ≤ 20001) (hs : s.size ≤ 9223372036854775807) :
    Calls Try.prog 66 #[.string s, .int .i64 n] w fun e w' => e = .returned (.int .i64 (wtT s n)) ∧ w = w' := by
  unfold wtT
  by_cases h2 : 20000 < n
  · rw [if_pos h2]
    go_enter Try.func66, Try.ntmps66
    go_wp2
    go_ret
    exact ⟨rfl, rfl⟩
  · rw [if_neg h2]
    by_cases h3 : 20000 - n ≤ s.size
    · rw [if_pos h3]
      go_enter Try.func66, Try.ntmps66
      go_wp2
      go_ret
      exact ⟨rfl, rfl⟩
    · rw [if_neg h3]
      have hs2 : (s.size : Int) ≤ 20000 := by omega
      go_enter Try.func66, Try.ntmps66
      go_wp2
      go_ret
      exact ⟨rfl, rfl⟩
def Weighs (n : Int) (W : Nat) (w : World) (e : Ending) (w' : World) : Prop :=
  ∃ m : Int, 0 ≤ m ∧ m ≤ 20001 ∧ (m ≤ 20000 → m = n + W) ∧ e = .returned (.int .i64 m) ∧ Below w.heap.size w w'
set_option maxHeartbeats 1000000 in
theorem weighExpr_any : ∀ (d : Nat) (x : Ex) (kv : Value) (n : Int) (w : World), 0 ≤ n → n ≤ 20001 → OkE x → ExK d w kv x.ks →
    Calls Try.prog 52 #[exV x kv, .int .i64 n] w (Weighs n (wt x) w) := by
  intro d
  induction d with
  | zero => intro x kv n w _ _ _ h; exact h.elim
  | succ d ih =>
    intro x kv n w h0 h1 hok hk
    have IH := Lib.hid ih
    obtain ⟨a, cap, rfl, hc1, hc2⟩ := hk.form
    have hb := wtT_bd x.nm n h0
    obtain ⟨t, ht⟩ : ∃ t, Hid (wtT x.nm n = t) := ⟨_, Lib.hid rfl⟩
    rw [ht.out] at hb
    obtain ⟨hb0, hb1, hb2⟩ := hb
    have hnm := hok.nm
    have HK := Lib.hid hk
    have HB2 := Lib.hid hb2
    have hbox := boxed w (.cells #[.int .i64 x.op, .int .i64 x.n, .string x.nm, .slice a x.ks.length cap] 24)
    have HBOX := Lib.hid hbox
    have HK1 := Lib.hid (hk.next hbox)
    clear ih hk hb2 hok hbox
    unfold exV
    go_enter Try.func52, Try.ntmps52
    go_wp2_with (go_at_call 66; refine (weighText_any _ _ _ h0 h1 hnm).mono ?_; rintro e w' ⟨rfl, rfl⟩)
    rw [ht.out]
    generalize hW : w.alloc (.cells #[.int .i64 x.op, .int .i64 x.n, .string x.nm, .slice a x.ks.length cap] 24) = W1 at *
    have hc3 : W1.cell? ⟨w.heap.size, 3, none⟩ = some (.slice a x.ks.length cap) := by rw [← hW]; simp [go_sem]
    clear hW
    go_loopw [1, 5] (fun mv i wr => ∃ (k : Nat) (m : Int), k ≤ x.ks.length ∧ i = .int .i64 k ∧ mv = .int .i64 m ∧ 0 ≤ m ∧ m ≤ 20001 ∧ (m ≤ 20000 → m = n + 1 + x.nm.size + wts (x.ks.take k)) ∧ Below W1.heap.size W1 wr) (fun _ i _ => (x.ks.length - intOf i).toNat)
    case atStart => exact ⟨0, t, by omega, rfl, rfl, hb0, hb1, fun h => by have := HB2.out h; simp [wts]; omega, Below.refl _ _⟩
    case round =>
      obtain ⟨k, m, hk, rfl, rfl, hm0, hm1, hm2, hbel⟩ := hrel
      have hcr := cell_next hbel hc3
      have HM := Lib.hid hm2
      have HBel := Lib.hid hbel
      clear hm2
      by_cases hlt : k < x.ks.length
      · have hlt' : (k : Int) < (x.ks.length : Int) := by omega
        have hne : x.ks ≠ [] := by intro h; rw [h] at hlt; simp at hlt
        by_cases hmost : m ≤ 20000
        · obtain ⟨g, off, cap', hv, _, _, hcells⟩ := (HK1.out.next hbel).kids hne
          simp only [Value.slice.injEq] at hv
          obtain ⟨rfl, -, rfl⟩ := hv
          obtain ⟨hok2, u, c0, c1, c2, c3, hku⟩ := hcells k hlt
          have HKU := Lib.hid hku
          have HOK := Lib.hid hok2
          clear hcells hku hok2 hbel
          go_wp2_with fail
          refine (IH.out x.ks[k] u m _ hm0 hm1 HOK.out HKU.out).mono ?_
          rintro e w2 ⟨m2, h20, h21, h22, rfl, hb2⟩
          have H22 := Lib.hid h22
          have HB2 := Lib.hid (HBel.out.trans (hb2.mono HBel.out.size))
          clear h22 hb2
          go_wp2_with fail
          go_roundw
          case rel =>
            refine ⟨k + 1, m2, by omega, by go_num, rfl, h20, h21, fun h => ?_, HB2.out⟩
            have h1 := H22.out h
            have h2 := HM.out hmost
            rw [List.take_succ_eq_append_getElem hlt, wts_snoc]
            push_cast
            omega
          case measure => simp [intOf]; omega
        · have hmost' : ¬ m ≤ 20000 := hmost
          go_wp2_with fail
          go_ret
          exact ⟨m, hm0, hm1, fun h => by omega, rfl, HBOX.out.trans (HBel.out.mono HBOX.out.size)⟩
      · have hlt' : ¬ (k : Int) < (x.ks.length : Int) := by omega
        go_wp2_with fail
        go_ret
        refine ⟨m, hm0, hm1, fun h => ?_, rfl, HBOX.out.trans (HBel.out.mono HBOX.out.size)⟩
        have h2 := HM.out h
        rw [List.take_of_length_le (by omega)] at h2
        rw [wt_eq]
        push_cast
        omega
/-- Does it fit? If so it is no more than the most. -/
def Fitting (W : Nat) (w : World) (e : Ending) (w' : World) : Prop :=
  ∃ b : Bool, (b = true → W ≤ 20000) ∧ e = .returned (.bool b) ∧ Below w.heap.size w w'
theorem fitsExpr_any (d : Nat) (x : Ex) (kv : Value) (w : World) (hok : OkE x) (hk : ExK d w kv x.ks) :
    Calls Try.prog 19 #[exV x kv] w (Fitting (wt x) w) := by
  have hbox := boxed w (.cells #[.int .i64 x.op, .int .i64 x.n, .string x.nm, kv] 24)
  have HBOX := Lib.hid hbox
  have HK1 := Lib.hid (hk.next hbox)
  have HOK := Lib.hid hok
  obtain ⟨a, cap, rfl, -, -⟩ := hk.form
  clear hbox hk hok
  unfold exV
  go_enter Try.func19, Try.ntmps19
  go_wp2_with fail
  refine (weighExpr_any d x _ 0 _ (by omega) (by omega) HOK.out HK1.out).mono ?_
  rintro e w1 ⟨m, hm0, hm1, hm2, rfl, hb⟩
  have HB := Lib.hid hb
  have HM := Lib.hid hm2
  clear hm2 hb
  go_wp2_with fail
  go_ret
  refine ⟨decide (m ≤ 20000), fun h => ?_, rfl, HBOX.out.trans (HB.out.mono HBOX.out.size)⟩
  have := HM.out (by simpa using h)
  have : m ≤ 20000 := by simpa using h
  omega
end Go.Proofs.Ytnbclbphggmenaa.Tr
