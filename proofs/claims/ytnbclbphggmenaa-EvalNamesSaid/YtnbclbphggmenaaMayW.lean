/- What tree.kids, tree.deep, tree.MayExpr and the reference's Arity compute. Conditions: the expression lies in memory. -/
import Derived.Test.YtnbclbphggmenaaExM
import Derived.IntWalk
import Derived.Deep.QuietTactic
import Derived.BigQuiet
namespace Go.Proofs.Ytnbclbphggmenaa.Tr
open Go.RowKit Go.Proofs.Ytnbclbphggmenaa.Lx Go.Proofs.Ytnbclbphggmenaa.Wd
theorem kids_any (op : Int) (w : World) : Calls Try.prog 99 #[.int .i64 op] w fun e w' => e = .returned (.int .i64 (kidsOf op)) ∧ w = w' := by
  unfold kidsOf
  by_cases h1 : op = 1
  · subst h1
    go_enter Try.func99, Try.ntmps99
    go_wp2
    go_ret
    exact ⟨rfl, rfl⟩
  by_cases h2 : op = 2
  · subst h2
    go_enter Try.func99, Try.ntmps99
    go_wp2
    go_ret
    exact ⟨rfl, rfl⟩
  by_cases h3 : op = 3
  · subst h3
    go_enter Try.func99, Try.ntmps99
    go_wp2
    go_ret
    exact ⟨rfl, rfl⟩
  by_cases h4 : op = 4
  · subst h4
    go_enter Try.func99, Try.ntmps99
    go_wp2
    go_ret
    exact ⟨rfl, rfl⟩
  rw [if_neg (by omega), if_neg (by omega)]
  have b1 : (op == 1) = false := by simpa using h1
  have b2 : (op == 2) = false := by simpa using h2
  have b3 : (op == 3) = false := by simpa using h3
  have b4 : (op == 4) = false := by simpa using h4
  by_cases h5 : 5 ≤ op
  · by_cases h17 : op ≤ 17
    · rw [if_pos ⟨h5, h17⟩]
      clear h1 h2 h3 h4
      go_enter Try.func99, Try.ntmps99
      go_wp2
      go_ret
      exact ⟨rfl, rfl⟩
    · rw [if_neg (by omega)]
      clear h1 h2 h3 h4
      go_enter Try.func99, Try.ntmps99
      go_wp2
      go_ret
      exact ⟨rfl, rfl⟩
  · rw [if_neg (by omega)]
    clear h1 h2 h3 h4
    go_enter Try.func99, Try.ntmps99
    go_wp2
    go_ret
    exact ⟨rfl, rfl⟩
theorem arity_any (op : Int) (w : World) : Calls Try.prog 95 #[.int .i64 op] w fun e w' => e = .returned (.int .i64 (kidsOf op)) ∧ w = w' := by
  unfold kidsOf
  by_cases h1 : op = 1
  · subst h1
    go_enter Try.func95, Try.ntmps95
    go_wp2
    go_ret
    exact ⟨rfl, rfl⟩
  by_cases h2 : op = 2
  · subst h2
    go_enter Try.func95, Try.ntmps95
    go_wp2
    go_ret
    exact ⟨rfl, rfl⟩
  by_cases h3 : op = 3
  · subst h3
    go_enter Try.func95, Try.ntmps95
    go_wp2
    go_ret
    exact ⟨rfl, rfl⟩
  by_cases h4 : op = 4
  · subst h4
    go_enter Try.func95, Try.ntmps95
    go_wp2
    go_ret
    exact ⟨rfl, rfl⟩
  rw [if_neg (by omega), if_neg (by omega)]
  have b1 : (op == 1) = false := by simpa using h1
  have b2 : (op == 2) = false := by simpa using h2
  have b3 : (op == 3) = false := by simpa using h3
  have b4 : (op == 4) = false := by simpa using h4
  by_cases h5 : 5 ≤ op
  · by_cases h17 : op ≤ 17
    · rw [if_pos ⟨h5, h17⟩]
      clear h1 h2 h3 h4
      go_enter Try.func95, Try.ntmps95
      go_wp2
      go_ret
      exact ⟨rfl, rfl⟩
    · rw [if_neg (by omega)]
      clear h1 h2 h3 h4
      go_enter Try.func95, Try.ntmps95
      go_wp2
      go_ret
      exact ⟨rfl, rfl⟩
  · rw [if_neg (by omega)]
    clear h1 h2 h3 h4
    go_enter Try.func95, Try.ntmps95
    go_wp2
    go_ret
    exact ⟨rfl, rfl⟩
theorem mayE_succ (l : Nat) (x : Ex) : mayE (l + 1) x = ((x.ks.length : Int) == kidsOf x.op && headE x && x.ks.all (mayE l)) := rfl
theorem kids_zero {op : Int} (h : kidsOf op = 0) : op = 1 ∨ op = 2 := by
  unfold kidsOf at h
  split at h
  · assumption
  split at h
  · cases h
  split at h
  · cases h
  · cases h
theorem bool_toList {s : ByteArray} : (noName s = true → s.toList = [] ∧ s.toList.isEmpty = true ∧ (s.toList == []) = true) ∧ (noName s = false → s.toList.isEmpty = false ∧ (s.toList == []) = false) := by
  unfold noName
  refine ⟨fun h => ?_, fun h => ?_⟩
  · have h1 : s.toList = [] := by simpa using h
    exact ⟨h1, h, by rw [h1]; rfl⟩
  · exact ⟨h, by cases hs : s.toList with
      | nil => rw [hs] at h; cases h
      | cons a b => rfl⟩
set_option maxHeartbeats 2000000 in
theorem deep_any : ∀ (l : Nat) (d : Nat) (x : Ex) (kv : Value) (w : World), l ≤ 100 → OkE x → ExK d w kv x.ks →
    Calls Try.prog 55 #[exV x kv, .int .i64 l] w fun e w' => e = .returned (.bool (mayE l x)) ∧ Below w.heap.size w w' := by
  intro l
  induction l with
  | zero =>
    intro d x kv w _ hok hk
    have hbox := boxed w (.cells #[.int .i64 x.op, .int .i64 x.n, .string x.nm, kv] 24)
    have HBOX := Lib.hid hbox
    obtain ⟨a, cap, rfl, -, -⟩ := hk.form
    clear hbox hok hk
    unfold exV
    go_enter Try.func55, Try.ntmps55
    go_wp2_with fail
    go_quiet (fail)
    go_wp2_with fail
    go_ret
    exact ⟨rfl, below_drewN HBOX.out nq⟩
  | succ l ih =>
    intro d x kv w hl hok hk
    obtain ⟨d, rfl⟩ : ∃ e, d = e + 1 := by
      cases d with
      | zero => exact hk.elim
      | succ e => exact ⟨e, rfl⟩
    have IH := Lib.hid ih
    obtain ⟨a, cap, rfl, hc1, hc2⟩ := hk.form
    have hbox := boxed w (.cells #[.int .i64 x.op, .int .i64 x.n, .string x.nm, .slice a x.ks.length cap] 24)
    have HBOX := Lib.hid hbox
    have HK1 := Lib.hid (hk.next hbox)
    have hnm := hok.nm
    have hl1 : (1 : Int) ≤ (l : Int) + 1 := by omega
    have hl2 : (l : Int) + 1 ≤ 101 := by omega
    have hlc : ((l + 1 : Nat) : Int) = (l : Int) + 1 := rfl
    rw [mayE_succ, hlc]
    clear ih hbox hk hok hlc
    unfold exV
    by_cases hkb : ((x.ks.length : Int) == kidsOf x.op) = true
    · have hkb2 : ((x.ks.length : Int) != kidsOf x.op) = false := by
        have : (x.ks.length : Int) = kidsOf x.op := by simpa using hkb
        simp [this]
      rw [hkb, Bool.true_and]
      by_cases h1 : x.op = 1
      · have hz : x.ks = [] := by
          have e : (x.ks.length : Int) = kidsOf x.op := by simpa using hkb
          rw [h1] at e
          exact List.eq_nil_of_length_eq_zero (by have : kidsOf 1 = 0 := rfl; omega)
        have hall : x.ks.all (mayE l) = true := by rw [hz]; rfl
        have b1 : (x.op == 1) = true := by simpa using h1
        have hh : headE x = (decide (0 ≤ x.n) && noName x.nm) := by unfold headE; rw [if_pos h1]
        rw [hall, Bool.and_true, hh]
        clear hz hall hkb hh h1
        by_cases hn : 0 ≤ x.n
        · have hn2 : decide (0 ≤ x.n) = true := by simpa using hn
          rw [hn2, Bool.true_and]
          cases hm : noName x.nm with
          | true =>
            obtain ⟨-, n1, n2⟩ := bool_toList.1 hm
            clear hm
            go_enter Try.func55, Try.ntmps55
            go_wp2_with fail
            go_quiet ((go_at_call 99; exact Calls.quiet_of_same ((kids_any _ _).mono fun e w' h => ⟨h.1, h.2.symm⟩)))
            go_wp2_with fail
            go_ret
            exact ⟨rfl, below_drewN HBOX.out nq⟩
          | false =>
            obtain ⟨n1, n2⟩ := bool_toList.2 hm
            clear hm
            go_enter Try.func55, Try.ntmps55
            go_wp2_with fail
            go_quiet ((go_at_call 99; exact Calls.quiet_of_same ((kids_any _ _).mono fun e w' h => ⟨h.1, h.2.symm⟩)))
            go_wp2_with fail
            go_ret
            exact ⟨rfl, below_drewN HBOX.out nq⟩
        · have hn2 : decide (0 ≤ x.n) = false := by simpa using hn
          rw [hn2, Bool.false_and]
          go_enter Try.func55, Try.ntmps55
          go_wp2_with fail
          go_quiet ((go_at_call 99; exact Calls.quiet_of_same ((kids_any _ _).mono fun e w' h => ⟨h.1, h.2.symm⟩)))
          go_wp2_with fail
          go_ret
          exact ⟨rfl, below_drewN HBOX.out nq⟩
      by_cases h2 : x.op = 2
      · have hz : x.ks = [] := by
          have e : (x.ks.length : Int) = kidsOf x.op := by simpa using hkb
          rw [h2] at e
          exact List.eq_nil_of_length_eq_zero (by have : kidsOf 2 = 0 := rfl; omega)
        have hall : x.ks.all (mayE l) = true := by rw [hz]; rfl
        have b1 : (x.op == 1) = false := by simpa using h1
        have b2 : (x.op == 2) = true := by simpa using h2
        have hh : headE x = (x.n == 0 && isName (bl x.nm)) := by unfold headE; rw [if_neg h1, if_pos h2]
        rw [hall, Bool.and_true, hh]
        clear hz hall hkb hh h1 h2
        cases hn : (x.n == 0) with
        | true =>
          rw [Bool.true_and]
          go_enter Try.func55, Try.ntmps55
          go_wp2_with fail
          go_quiet ((go_at_call 99; exact Calls.quiet_of_same ((kids_any _ _).mono fun e w' h => ⟨h.1, h.2.symm⟩)))
          go_wp2_with (go_at_call 69; refine (name_any _ _ hnm).mono ?_; rintro e w' ⟨rfl, rfl⟩)
          go_ret
          exact ⟨rfl, below_drewN HBOX.out nq⟩
        | false =>
          rw [Bool.false_and]
          go_enter Try.func55, Try.ntmps55
          go_wp2_with fail
          go_quiet ((go_at_call 99; exact Calls.quiet_of_same ((kids_any _ _).mono fun e w' h => ⟨h.1, h.2.symm⟩)))
          go_wp2_with fail
          go_ret
          exact ⟨rfl, below_drewN HBOX.out nq⟩
      have b1 : (x.op == 1) = false := by simpa using h1
      have b2 : (x.op == 2) = false := by simpa using h2
      have hh : headE x = (x.n == 0 && noName x.nm) := by unfold headE; rw [if_neg h1, if_neg h2]
      rw [hh]
      clear hkb hh h1 h2
      cases hn : (x.n == 0) with
      | false =>
        rw [Bool.false_and, Bool.false_and]
        have hn' : (x.n != 0) = true := by simpa using hn
        go_enter Try.func55, Try.ntmps55
        go_wp2_with fail
        go_quiet ((go_at_call 99; exact Calls.quiet_of_same ((kids_any _ _).mono fun e w' h => ⟨h.1, h.2.symm⟩)))
        go_wp2_with fail
        go_ret
        exact ⟨rfl, below_drewN HBOX.out nq⟩
      | true =>
        rw [Bool.true_and]
        have hn' : (x.n != 0) = false := by simpa using hn
        cases hm : noName x.nm with
        | false =>
          rw [Bool.false_and]
          obtain ⟨n1, n2⟩ := bool_toList.2 hm
          have n3 : (x.nm.toList != []) = true := by simpa using n2
          clear hm
          go_enter Try.func55, Try.ntmps55
          go_wp2_with fail
          go_quiet ((go_at_call 99; exact Calls.quiet_of_same ((kids_any _ _).mono fun e w' h => ⟨h.1, h.2.symm⟩)))
          go_wp2_with fail
          go_ret
          exact ⟨rfl, below_drewN HBOX.out nq⟩
        | true =>
          rw [Bool.true_and]
          obtain ⟨n0, n1, n2⟩ := bool_toList.1 hm
          have n3 : (x.nm.toList != []) = false := by simpa using n2
          clear hm
          go_enter Try.func55, Try.ntmps55
          go_wp2_with fail
          go_quiet ((go_at_call 99; exact Calls.quiet_of_same ((kids_any _ _).mono fun e w' h => ⟨h.1, h.2.symm⟩)))
          have HB2 := Lib.hid (below_drewN HBOX.out nq)
          have HK2 := Lib.hid (HK1.out.next (below_drewN (Below.refl _ _) nq))
          go_wp2_with fail
          generalize (w.alloc (.cells #[.int .i64 x.op, .int .i64 x.n, .string x.nm, .slice a x.ks.length cap] 24)).drewN nq = W2 at *
          go_loopw [51] (fun i wr => ∃ k : Nat, k ≤ x.ks.length ∧ i = .int .i64 k ∧ Below W2.heap.size W2 wr ∧ (x.ks.take k).all (mayE l) = true) (fun i _ => (x.ks.length - intOf i).toNat)
          case atStart => exact ⟨0, by omega, rfl, Below.refl _ _, rfl⟩
          case round =>
            obtain ⟨k, hk, rfl, hbel, hall⟩ := hrel
            have HBel := Lib.hid hbel
            have HALL := Lib.hid hall
            clear hall
            by_cases hlt : k < x.ks.length
            · have hlt' : (k : Int) < (x.ks.length : Int) := by omega
              have hne : x.ks ≠ [] := by intro h; rw [h] at hlt; simp at hlt
              obtain ⟨g, off, cap', hv, _, _, hcells⟩ := (HK2.out.next hbel).kids hne
              simp only [Value.slice.injEq] at hv
              obtain ⟨rfl, -, rfl⟩ := hv
              obtain ⟨hok2, u, c0, c1, c2, c3, hku⟩ := hcells k hlt
              obtain ⟨au, cu, rfl, -, -⟩ := hku.form
              have HKU := Lib.hid (hku.next (boxed wr (.cells #[.int .i64 x.ks[k].op, .int .i64 x.ks[k].n, .string x.ks[k].nm, .slice au x.ks[k].ks.length cu] 24)))
              have HOK := Lib.hid hok2
              have hgl := cell_lt c0
              clear hcells hku hok2 hbel hne
              obtain ⟨bk, hbk⟩ : ∃ bk, Hid (mayE l x.ks[k] = bk) := ⟨_, Lib.hid rfl⟩
              go_wp2_with fail
              refine (IH.out d x.ks[k] _ _ (by omega) HOK.out HKU.out).mono ?_
              rintro e w3 ⟨rfl, hb3⟩
              rw [hbk.out]
              have HB3 := Lib.hid (HBel.out.trans (((boxed wr _).trans (hb3.mono (boxed wr _).size)).mono HBel.out.size))
              clear hb3
              cases bk with
              | true =>
                go_wp2_with fail
                go_roundw
                case rel =>
                  refine ⟨k + 1, by omega, by go_num, HB3.out, ?_⟩
                  rw [List.take_succ_eq_append_getElem hlt, List.all_append, HALL.out]
                  simp [hbk.out]
                case measure => simp [intOf]; omega
              | false =>
                go_wp2_with fail
                go_ret
                refine ⟨?_, HB2.out.trans (HB3.out.mono HB2.out.size)⟩
                have hno : x.ks.all (mayE l) = false := by
                  cases h : x.ks.all (mayE l) with
                  | false => rfl
                  | true =>
                    have := List.all_eq_true.1 h x.ks[k] (List.getElem_mem hlt)
                    rw [hbk.out] at this; cases this
                rw [hno]; rfl
            · have hlt' : ¬ (k : Int) < (x.ks.length : Int) := by omega
              have hyes : x.ks.all (mayE l) = true := by
                have := HALL.out
                rwa [List.take_of_length_le (by omega)] at this
              have HY := Lib.hid hyes
              clear hyes
              go_wp2_with fail
              go_ret
              exact ⟨by rw [HY.out]; rfl, HB2.out.trans (HBel.out.mono HB2.out.size)⟩
    · have hkb1 : ((x.ks.length : Int) == kidsOf x.op) = false := by simpa using hkb
      have hkb2 : ((x.ks.length : Int) != kidsOf x.op) = true := by simpa using hkb
      rw [hkb1, Bool.false_and, Bool.false_and]
      clear hkb
      go_enter Try.func55, Try.ntmps55
      go_wp2_with fail
      go_quiet ((go_at_call 99; exact Calls.quiet_of_same ((kids_any _ _).mono fun e w' h => ⟨h.1, h.2.symm⟩)))
      go_wp2_with fail
      go_ret
      exact ⟨rfl, below_drewN HBOX.out nq⟩
theorem mayExpr_any (d : Nat) (x : Ex) (kv : Value) (w : World) (hok : OkE x) (hk : ExK d w kv x.ks) :
    Calls Try.prog 22 #[exV x kv] w fun e w' => e = .returned (.bool (mayE 20 x)) ∧ Below w.heap.size w w' := by
  have hbox := boxed w (.cells #[.int .i64 x.op, .int .i64 x.n, .string x.nm, kv] 24)
  have HBOX := Lib.hid hbox
  have HK1 := Lib.hid (hk.next hbox)
  have HOK := Lib.hid hok
  obtain ⟨a, cap, rfl, -, -⟩ := hk.form
  clear hbox hk hok
  unfold exV
  go_enter Try.func22, Try.ntmps22
  go_wp2_with fail
  refine (deep_any 20 d x _ _ (by omega) HOK.out HK1.out).mono ?_
  rintro e w1 ⟨rfl, hb⟩
  have HB := Lib.hid hb
  clear hb
  go_wp2_with fail
  go_ret
  exact ⟨rfl, HBOX.out.trans (HB.out.mono HBOX.out.size)⟩
end Go.Proofs.Ytnbclbphggmenaa.Tr
