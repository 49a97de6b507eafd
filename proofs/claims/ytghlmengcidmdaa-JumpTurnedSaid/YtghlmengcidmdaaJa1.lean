/- Parts of BMay: walks and plain laws that later texts use. Conditions: as each statement says. -/
import Derived.Test.YtghlmengcidmdaaJa0
import Derived.IntWalk
import Derived.Deep.QuietTactic
import Derived.BigQuiet
import Derived.StillTailTactics
import Derived.WalkKit
import Derived.Test.YtghlmengcidmdaaRows
import Derived.WalkSpells
import Derived.Lib.Hide
import Derived.Below
import Derived.Laws.BitsAllLaws
import Derived.WalkSmall
/- What tree.kids, tree.deep, tree.MayExpr and the reference's Arity compute. Conditions: the expression lies in memory.
   What the reference's deep, form, MayExpr compute. Conditions: the expression lies in memory.
   The reference's MayExpr is the program's: which expressions may be. Conditions: the expression lies in memory.
   What slices.Index at texts and the reference's look compute. Conditions: the slices lie in memory. -/
section
namespace Go.Proofs.Ytghlmengcidmdaa.Tr
open Go.RowKit Go.Proofs.Ytghlmengcidmdaa.Lx Go.Proofs.Ytghlmengcidmdaa.Wd
theorem kids_any (op : Int) (w : World) : Calls Try.prog 131 #[.int .i64 op] w fun e w' => e = .returned (.int .i64 (kidsOf op)) ∧ w = w' := by
  unfold kidsOf
  by_cases h1 : op = 1
  · subst h1
    go_enter Try.func131, Try.ntmps131
    go_wp2
    go_ret
    exact ⟨rfl, rfl⟩
  by_cases h2 : op = 2
  · subst h2
    go_enter Try.func131, Try.ntmps131
    go_wp2
    go_ret
    exact ⟨rfl, rfl⟩
  by_cases h3 : op = 3
  · subst h3
    go_enter Try.func131, Try.ntmps131
    go_wp2
    go_ret
    exact ⟨rfl, rfl⟩
  by_cases h4 : op = 4
  · subst h4
    go_enter Try.func131, Try.ntmps131
    go_wp2
    go_ret
    exact ⟨rfl, rfl⟩
  rw [if_neg (by omega), if_neg (by omega)]
  have b1 : (op == 1) = false := by simpa using h1
  have b2 : (op == 2) = false := by simpa using h2
  have b3 : (op == 3) = false := by simpa using h3
  have b4 : (op == 4) = false := by simpa using h4
  by_cases h5 : 5 ≤ op
  · by_cases h17 : op ≤ 17
    · rw [if_pos ⟨h5, h17⟩]
      clear h1 h2 h3 h4
      go_enter Try.func131, Try.ntmps131
      go_wp2
      go_ret
      exact ⟨rfl, rfl⟩
    · rw [if_neg (by omega)]
      clear h1 h2 h3 h4
      go_enter Try.func131, Try.ntmps131
      go_wp2
      go_ret
      exact ⟨rfl, rfl⟩
  · rw [if_neg (by omega)]
    clear h1 h2 h3 h4
    go_enter Try.func131, Try.ntmps131
    go_wp2
    go_ret
    exact ⟨rfl, rfl⟩
theorem arity_any (op : Int) (w : World) : Calls Try.prog 153 #[.int .i64 op] w fun e w' => e = .returned (.int .i64 (kidsOf op)) ∧ w = w' := by
  unfold kidsOf
  by_cases h1 : op = 1
  · subst h1
    go_enter Try.func153, Try.ntmps153
    go_wp2
    go_ret
    exact ⟨rfl, rfl⟩
  by_cases h2 : op = 2
  · subst h2
    go_enter Try.func153, Try.ntmps153
    go_wp2
    go_ret
    exact ⟨rfl, rfl⟩
  by_cases h3 : op = 3
  · subst h3
    go_enter Try.func153, Try.ntmps153
    go_wp2
    go_ret
    exact ⟨rfl, rfl⟩
  by_cases h4 : op = 4
  · subst h4
    go_enter Try.func153, Try.ntmps153
    go_wp2
    go_ret
    exact ⟨rfl, rfl⟩
  rw [if_neg (by omega), if_neg (by omega)]
  have b1 : (op == 1) = false := by simpa using h1
  have b2 : (op == 2) = false := by simpa using h2
  have b3 : (op == 3) = false := by simpa using h3
  have b4 : (op == 4) = false := by simpa using h4
  by_cases h5 : 5 ≤ op
  · by_cases h17 : op ≤ 17
    · rw [if_pos ⟨h5, h17⟩]
      clear h1 h2 h3 h4
      go_enter Try.func153, Try.ntmps153
      go_wp2
      go_ret
      exact ⟨rfl, rfl⟩
    · rw [if_neg (by omega)]
      clear h1 h2 h3 h4
      go_enter Try.func153, Try.ntmps153
      go_wp2
      go_ret
      exact ⟨rfl, rfl⟩
  · rw [if_neg (by omega)]
    clear h1 h2 h3 h4
    go_enter Try.func153, Try.ntmps153
    go_wp2
    go_ret
    exact ⟨rfl, rfl⟩
theorem mayE_succ (l : Nat) (x : Ex) : mayE (l + 1) x = ((x.ks.length : Int) == kidsOf x.op && headE x && x.ks.all (mayE l)) := rfl
theorem bool_toList {s : ByteArray} : (noName s = true → s.toList = [] ∧ s.toList.isEmpty = true ∧ (s.toList == []) = true) ∧ (noName s = false → s.toList.isEmpty = false ∧ (s.toList == []) = false) := by
  unfold noName
  refine ⟨fun h => ?_, fun h => ?_⟩
  · have h1 : s.toList = [] := by simpa using h
    exact ⟨h1, h, by rw [h1]; rfl⟩
  · exact ⟨h, by cases hs : s.toList with
      | nil => rw [hs] at h; cases h
      | cons a b => rfl⟩
set_option maxHeartbeats 2000000 in
theorem deep_any : ∀ (l : Nat) (d : Nat) (x : Ex) (kv : Value) (w : World), l ≤ 100 → OkE x → ExK d w kv x.ks →
    Calls Try.prog 107 #[exV x kv, .int .i64 l] w fun e w' => e = .returned (.bool (mayE l x)) ∧ Below w.heap.size w w' := by
  intro l
  induction l with
  | zero =>
    intro d x kv w _ hok hk
    have hbox := boxed w (.cells #[.int .i64 x.op, .int .i64 x.n, .string x.nm, kv] 37)
    have HBOX := Lib.hid hbox
    obtain ⟨a, cap, rfl, -, -⟩ := hk.form
    clear hbox hok hk
    unfold exV
    go_enter Try.func107, Try.ntmps107
    go_wp2_with fail
    go_quiet (fail)
    go_wp2_with fail
    go_ret
    exact ⟨rfl, below_drewN HBOX.out nq⟩
  | succ l ih =>
    intro d x kv w hl hok hk
    obtain ⟨d, rfl⟩ : ∃ e, d = e + 1 := by
      cases d with
      | zero => exact hk.elim
      | succ e => exact ⟨e, rfl⟩
    have IH := Lib.hid ih
    obtain ⟨a, cap, rfl, hc1, hc2⟩ := hk.form
    have hbox := boxed w (.cells #[.int .i64 x.op, .int .i64 x.n, .string x.nm, .slice a x.ks.length cap] 37)
    have HBOX := Lib.hid hbox
    have HK1 := Lib.hid (hk.next hbox)
    have hnm := hok.nm
    have hl1 : (1 : Int) ≤ (l : Int) + 1 := by omega
    have hl2 : (l : Int) + 1 ≤ 101 := by omega
    have hlc : ((l + 1 : Nat) : Int) = (l : Int) + 1 := rfl
    rw [mayE_succ, hlc]
    clear ih hbox hk hok hlc
    unfold exV
    by_cases hkb : ((x.ks.length : Int) == kidsOf x.op) = true
    · have hkb2 : ((x.ks.length : Int) != kidsOf x.op) = false := by
        have : (x.ks.length : Int) = kidsOf x.op := by simpa using hkb
        simp [this]
      rw [hkb, Bool.true_and]
      by_cases h1 : x.op = 1
      · have hz : x.ks = [] := by
          have e : (x.ks.length : Int) = kidsOf x.op := by simpa using hkb
          rw [h1] at e
          exact List.eq_nil_of_length_eq_zero (by have : kidsOf 1 = 0 := rfl; omega)
        have hall : x.ks.all (mayE l) = true := by rw [hz]; rfl
        have b1 : (x.op == 1) = true := by simpa using h1
        have hh : headE x = (decide (0 ≤ x.n) && noName x.nm) := by unfold headE; rw [if_pos h1]
        rw [hall, Bool.and_true, hh]
        clear hz hall hkb hh h1
        by_cases hn : 0 ≤ x.n
        · have hn2 : decide (0 ≤ x.n) = true := by simpa using hn
          rw [hn2, Bool.true_and]
          cases hm : noName x.nm with
          | true =>
            obtain ⟨-, n1, n2⟩ := bool_toList.1 hm
            clear hm
            go_enter Try.func107, Try.ntmps107
            go_wp2_with fail
            go_quiet ((go_at_call 131; exact Calls.quiet_of_same ((kids_any _ _).mono fun e w' h => ⟨h.1, h.2.symm⟩)))
            go_wp2_with fail
            go_ret
            exact ⟨rfl, below_drewN HBOX.out nq⟩
          | false =>
            obtain ⟨n1, n2⟩ := bool_toList.2 hm
            clear hm
            go_enter Try.func107, Try.ntmps107
            go_wp2_with fail
            go_quiet ((go_at_call 131; exact Calls.quiet_of_same ((kids_any _ _).mono fun e w' h => ⟨h.1, h.2.symm⟩)))
            go_wp2_with fail
            go_ret
            exact ⟨rfl, below_drewN HBOX.out nq⟩
        · have hn2 : decide (0 ≤ x.n) = false := by simpa using hn
          rw [hn2, Bool.false_and]
          go_enter Try.func107, Try.ntmps107
          go_wp2_with fail
          go_quiet ((go_at_call 131; exact Calls.quiet_of_same ((kids_any _ _).mono fun e w' h => ⟨h.1, h.2.symm⟩)))
          go_wp2_with fail
          go_ret
          exact ⟨rfl, below_drewN HBOX.out nq⟩
      by_cases h2 : x.op = 2
      · have hz : x.ks = [] := by
          have e : (x.ks.length : Int) = kidsOf x.op := by simpa using hkb
          rw [h2] at e
          exact List.eq_nil_of_length_eq_zero (by have : kidsOf 2 = 0 := rfl; omega)
        have hall : x.ks.all (mayE l) = true := by rw [hz]; rfl
        have b1 : (x.op == 1) = false := by simpa using h1
        have b2 : (x.op == 2) = true := by simpa using h2
        have hh : headE x = (x.n == 0 && isName (bl x.nm)) := by unfold headE; rw [if_neg h1, if_pos h2]
        rw [hall, Bool.and_true, hh]
        clear hz hall hkb hh h1 h2
        cases hn : (x.n == 0) with
        | true =>
          rw [Bool.true_and]
          go_enter Try.func107, Try.ntmps107
          go_wp2_with fail
          go_quiet ((go_at_call 131; exact Calls.quiet_of_same ((kids_any _ _).mono fun e w' h => ⟨h.1, h.2.symm⟩)))
          go_wp2_with (go_at_call 41; refine (name_any _ _ hnm).mono ?_; rintro e w' ⟨rfl, rfl⟩)
          go_ret
          exact ⟨rfl, below_drewN HBOX.out nq⟩
        | false =>
          rw [Bool.false_and]
          go_enter Try.func107, Try.ntmps107
          go_wp2_with fail
          go_quiet ((go_at_call 131; exact Calls.quiet_of_same ((kids_any _ _).mono fun e w' h => ⟨h.1, h.2.symm⟩)))
          go_wp2_with fail
          go_ret
          exact ⟨rfl, below_drewN HBOX.out nq⟩
      have b1 : (x.op == 1) = false := by simpa using h1
      have b2 : (x.op == 2) = false := by simpa using h2
      have hh : headE x = (x.n == 0 && noName x.nm) := by unfold headE; rw [if_neg h1, if_neg h2]
      rw [hh]
      clear hkb hh h1 h2
      cases hn : (x.n == 0) with
      | false =>
        rw [Bool.false_and, Bool.false_and]
        have hn' : (x.n != 0) = true := by simpa using hn
        go_enter Try.func107, Try.ntmps107
        go_wp2_with fail
        go_quiet ((go_at_call 131; exact Calls.quiet_of_same ((kids_any _ _).mono fun e w' h => ⟨h.1, h.2.symm⟩)))
        go_wp2_with fail
        go_ret
        exact ⟨rfl, below_drewN HBOX.out nq⟩
      | true =>
        rw [Bool.true_and]
        have hn' : (x.n != 0) = false := by simpa using hn
        cases hm : noName x.nm with
        | false =>
          rw [Bool.false_and]
          obtain ⟨n1, n2⟩ := bool_toList.2 hm
          have n3 : (x.nm.toList != []) = true := by simpa using n2
          clear hm
          go_enter Try.func107, Try.ntmps107
          go_wp2_with fail
          go_quiet ((go_at_call 131; exact Calls.quiet_of_same ((kids_any _ _).mono fun e w' h => ⟨h.1, h.2.symm⟩)))
          go_wp2_with fail
          go_ret
          exact ⟨rfl, below_drewN HBOX.out nq⟩
        | true =>
          rw [Bool.true_and]
          obtain ⟨n0, n1, n2⟩ := bool_toList.1 hm
          have n3 : (x.nm.toList != []) = false := by simpa using n2
          clear hm
          go_enter Try.func107, Try.ntmps107
          go_wp2_with fail
          go_quiet ((go_at_call 131; exact Calls.quiet_of_same ((kids_any _ _).mono fun e w' h => ⟨h.1, h.2.symm⟩)))
          have HB2 := Lib.hid (below_drewN HBOX.out nq)
          have HK2 := Lib.hid (HK1.out.next (below_drewN (Below.refl _ _) nq))
          go_wp2_with fail
          generalize (w.alloc (.cells #[.int .i64 x.op, .int .i64 x.n, .string x.nm, .slice a x.ks.length cap] 37)).drewN nq = W2 at *
          go_loopw [51] (fun i wr => ∃ k : Nat, k ≤ x.ks.length ∧ i = .int .i64 k ∧ Below W2.heap.size W2 wr ∧ (x.ks.take k).all (mayE l) = true) (fun i _ => (x.ks.length - intOf i).toNat)
          case atStart => exact ⟨0, by omega, rfl, Below.refl _ _, rfl⟩
          case round =>
            obtain ⟨k, hk, rfl, hbel, hall⟩ := hrel
            have HBel := Lib.hid hbel
            have HALL := Lib.hid hall
            clear hall
            by_cases hlt : k < x.ks.length
            · have hlt' : (k : Int) < (x.ks.length : Int) := by omega
              have hne : x.ks ≠ [] := by intro h; rw [h] at hlt; simp at hlt
              obtain ⟨g, off, cap', hv, _, _, hcells⟩ := (HK2.out.next hbel).kids hne
              simp only [Value.slice.injEq] at hv
              obtain ⟨rfl, -, rfl⟩ := hv
              obtain ⟨hok2, u, c0, c1, c2, c3, hku⟩ := hcells k hlt
              obtain ⟨au, cu, rfl, -, -⟩ := hku.form
              have HKU := Lib.hid (hku.next (boxed wr (.cells #[.int .i64 x.ks[k].op, .int .i64 x.ks[k].n, .string x.ks[k].nm, .slice au x.ks[k].ks.length cu] 37)))
              have HOK := Lib.hid hok2
              have hgl := cell_lt c0
              clear hcells hku hok2 hbel hne
              obtain ⟨bk, hbk⟩ : ∃ bk, Hid (mayE l x.ks[k] = bk) := ⟨_, Lib.hid rfl⟩
              go_wp2_with fail
              refine (IH.out d x.ks[k] _ _ (by omega) HOK.out HKU.out).mono ?_
              rintro e w3 ⟨rfl, hb3⟩
              rw [hbk.out]
              have HB3 := Lib.hid (HBel.out.trans (((boxed wr _).trans (hb3.mono (boxed wr _).size)).mono HBel.out.size))
              clear hb3
              cases bk with
              | true =>
                go_wp2_with fail
                go_roundw
                case rel =>
                  refine ⟨k + 1, by omega, by go_num, HB3.out, ?_⟩
                  rw [List.take_succ_eq_append_getElem hlt, List.all_append, HALL.out]
                  simp [hbk.out]
                case measure => simp [intOf]; omega
              | false =>
                go_wp2_with fail
                go_ret
                refine ⟨?_, HB2.out.trans (HB3.out.mono HB2.out.size)⟩
                have hno : x.ks.all (mayE l) = false := by
                  cases h : x.ks.all (mayE l) with
                  | false => rfl
                  | true =>
                    have := List.all_eq_true.1 h x.ks[k] (List.getElem_mem hlt)
                    rw [hbk.out] at this; cases this
                rw [hno]; rfl
            · have hlt' : ¬ (k : Int) < (x.ks.length : Int) := by omega
              have hyes : x.ks.all (mayE l) = true := by
                have := HALL.out
                rwa [List.take_of_length_le (by omega)] at this
              have HY := Lib.hid hyes
              clear hyes
              go_wp2_with fail
              go_ret
              exact ⟨by rw [HY.out]; rfl, HB2.out.trans (HBel.out.mono HB2.out.size)⟩
    · have hkb1 : ((x.ks.length : Int) == kidsOf x.op) = false := by simpa using hkb
      have hkb2 : ((x.ks.length : Int) != kidsOf x.op) = true := by simpa using hkb
      rw [hkb1, Bool.false_and, Bool.false_and]
      clear hkb
      go_enter Try.func107, Try.ntmps107
      go_wp2_with fail
      go_quiet ((go_at_call 131; exact Calls.quiet_of_same ((kids_any _ _).mono fun e w' h => ⟨h.1, h.2.symm⟩)))
      go_wp2_with fail
      go_ret
      exact ⟨rfl, below_drewN HBOX.out nq⟩
theorem mayExpr_any (d : Nat) (x : Ex) (kv : Value) (w : World) (hok : OkE x) (hk : ExK d w kv x.ks) :
    Calls Try.prog 57 #[exV x kv] w fun e w' => e = .returned (.bool (mayE 20 x)) ∧ Below w.heap.size w w' := by
  have hbox := boxed w (.cells #[.int .i64 x.op, .int .i64 x.n, .string x.nm, kv] 37)
  have HBOX := Lib.hid hbox
  have HK1 := Lib.hid (hk.next hbox)
  have HOK := Lib.hid hok
  obtain ⟨a, cap, rfl, -, -⟩ := hk.form
  clear hbox hk hok
  unfold exV
  go_enter Try.func57, Try.ntmps57
  go_wp2_with fail
  refine (deep_any 20 d x _ _ (by omega) HOK.out HK1.out).mono ?_
  rintro e w1 ⟨rfl, hb⟩
  have HB := Lib.hid hb
  clear hb
  go_wp2_with fail
  go_ret
  exact ⟨rfl, HBOX.out.trans (HB.out.mono HBOX.out.size)⟩
end Go.Proofs.Ytghlmengcidmdaa.Tr
end
section
namespace Go.Proofs.Ytghlmengcidmdaa.Tr
open Go.RowKit Go.Proofs.Ytghlmengcidmdaa.Lx Go.Proofs.Ytghlmengcidmdaa.Wd
/-- How many in one another, up to one more than so many. -/
def dE : Nat → Ex → Nat
  | 0, _ => 1
  | m + 1, x => (x.ks.foldl (fun d k => if d < m + 1 then max d (dE m k) else d) 0) + 1
/-- Each by itself, looking so deep. -/
def formE : Nat → Ex → Bool
  | 0, _ => false
  | m + 1, x => (x.ks.length : Int) == kidsOf x.op && headE x && x.ks.all (formE m)
theorem dE_stop (m : Nat) : ∀ (l : List Ex) (d : Nat), m + 1 ≤ d → l.foldl (fun d k => if d < m + 1 then max d (dE m k) else d) d = d := by
  intro l
  induction l with
  | nil => intro d _; rfl
  | cons a r ih => intro d h; rw [List.foldl_cons, if_neg (by omega)]; exact ih d h
theorem dE_le : ∀ (m : Nat) (x : Ex), dE m x ≤ m + 1 := by
  intro m
  induction m with
  | zero => intro x; simp [dE]
  | succ m ih =>
    intro x
    have key : ∀ (l : List Ex) (d : Nat), d ≤ m + 1 → l.foldl (fun d k => if d < m + 1 then max d (dE m k) else d) d ≤ m + 1 := by
      intro l
      induction l with
      | nil => intro d h; exact h
      | cons a r ih2 =>
        intro d h
        rw [List.foldl_cons]
        apply ih2
        split
        · have := ih a; omega
        · exact h
    have := key x.ks 0 (by omega)
    simp only [dE]; omega
theorem dE_step (m : Nat) (l : List Ex) (k : Nat) (h : k < l.length) (hd : (l.take k).foldl (fun d k => if d < m + 1 then max d (dE m k) else d) 0 < m + 1) :
    (l.take (k + 1)).foldl (fun d k => if d < m + 1 then max d (dE m k) else d) 0 = max ((l.take k).foldl (fun d k => if d < m + 1 then max d (dE m k) else d) 0) (dE m l[k]) := by
  rw [List.take_succ_eq_append_getElem h, List.foldl_append, List.foldl_cons, List.foldl_nil, if_pos hd]
theorem dE_full (m : Nat) (l : List Ex) (k : Nat) (h : m + 1 ≤ (l.take k).foldl (fun d k => if d < m + 1 then max d (dE m k) else d) 0) :
    l.foldl (fun d k => if d < m + 1 then max d (dE m k) else d) 0 = (l.take k).foldl (fun d k => if d < m + 1 then max d (dE m k) else d) 0 := by
  conv => lhs; rw [← List.take_append_drop k l, List.foldl_append]
  exact dE_stop m _ _ h
theorem cut_world {P : Program} {c : Code} {Q : Exit → Act → World → Prop} {a : Act} {w : World} (F : World → Prop) (hF : F w) (h : ∀ w', F w' → c.wp P Q a w') : c.wp P Q a w := h w hF
def dF (m : Nat) (l : List Ex) : Nat := l.foldl (fun d k => if d < m + 1 then max d (dE m k) else d) 0
set_option maxHeartbeats 2000000 in
theorem rdeep_any : ∀ (m : Nat) (d : Nat) (x : Ex) (kv : Value) (w : World), m ≤ 100 → OkE x → ExK d w kv x.ks →
    Calls Try.prog 147 #[exV x kv, .int .i64 m] w fun e w' => e = .returned (.int .i64 (dE m x)) ∧ Below w.heap.size w w' := by
  intro m
  induction m with
  | zero =>
    intro d x kv w _ hok hk
    have HBOX := Lib.hid (boxed w (.cells #[.int .i64 x.op, .int .i64 x.n, .string x.nm, kv] 37))
    obtain ⟨a, cap, rfl, -, -⟩ := hk.form
    clear hok hk
    unfold exV
    go_enter Try.func147, Try.ntmps147
    go_wp2_with fail
    go_ret
    exact ⟨rfl, HBOX.out⟩
  | succ m ih =>
    intro d x kv w hm hok hk
    obtain ⟨d, rfl⟩ : ∃ e, d = e + 1 := by
      cases d with
      | zero => exact hk.elim
      | succ e => exact ⟨e, rfl⟩
    have IH := Lib.hid ih
    obtain ⟨a, cap, rfl, hc1, hc2⟩ := hk.form
    have hbox := boxed w (.cells #[.int .i64 x.op, .int .i64 x.n, .string x.nm, .slice a x.ks.length cap] 37)
    have HBOX := Lib.hid hbox
    have HK1 := Lib.hid (hk.next hbox)
    have hm1 : (m : Int) + 1 ≤ 101 := by omega
    have hm0 : (1 : Int) ≤ (m : Int) + 1 := by omega
    have hmz : ((m : Int) + 1 == 0) = false := by simp; omega
    have hmc : ((m + 1 : Nat) : Int) = (m : Int) + 1 := rfl
    rw [hmc]
    have hres : dE (m + 1) x = dF m x.ks + 1 := rfl
    rw [hres]
    clear ih hbox hk hok hmc hres
    unfold exV
    go_enter Try.func147, Try.ntmps147
    go_wp2_with fail
    have hc3 : (w.alloc (.cells #[.int .i64 x.op, .int .i64 x.n, .string x.nm, .slice a x.ks.length cap] 37)).cell? ⟨w.heap.size, 3, none⟩ = some (.slice a x.ks.length cap) := by simp [go_sem]
    generalize w.alloc (.cells #[.int .i64 x.op, .int .i64 x.n, .string x.nm, .slice a x.ks.length cap] 37) = W1 at *
    go_loopw [5, 6] (fun dv i wr => ∃ (k q : Nat), k ≤ x.ks.length ∧ i = .int .i64 k ∧ dv = .int .i64 q ∧ q = dF m (x.ks.take k) ∧ q ≤ m + 1 ∧ Below W1.heap.size W1 wr) (fun _ i _ => (x.ks.length - intOf i).toNat)
    case atStart => exact ⟨0, 0, by omega, rfl, rfl, rfl, by omega, Below.refl _ _⟩
    case round =>
      obtain ⟨k, q, hk, rfl, rfl, hq, hqm, hbel⟩ := hrel
      have hcr := cell_next hbel hc3
      have HBel := Lib.hid hbel
      have HQ := Lib.hid hq
      clear hq
      by_cases hlt : k < x.ks.length
      · have hlt' : (k : Int) < (x.ks.length : Int) := by omega
        by_cases hqm2 : q < m + 1
        · have hqm3 : (q : Int) < (m : Int) + 1 := by omega
          have hne : x.ks ≠ [] := by intro h; rw [h] at hlt; simp at hlt
          obtain ⟨g, off, cap', hv, _, _, hcells⟩ := (HK1.out.next hbel).kids hne
          simp only [Value.slice.injEq] at hv
          obtain ⟨rfl, -, rfl⟩ := hv
          obtain ⟨hok2, u, c0, c1, c2, c3, hku⟩ := hcells k hlt
          obtain ⟨au, cu, rfl, -, -⟩ := hku.form
          have HKU := Lib.hid hku
          have HOK := Lib.hid hok2
          have hgl := cell_lt c0
          clear hcells hku hok2 hbel hne
          have hle := dE_le m x.ks[k]
          have hst := dE_step m x.ks k hlt (by have := HQ.out; unfold dF at this; omega)
          obtain ⟨e1, he1⟩ : ∃ e1, Hid (dE m x.ks[k] = e1) := ⟨_, Lib.hid rfl⟩
          rw [he1.out] at hle hst
          have HST : Hid (dF m (x.ks.take (k + 1)) = max q e1) := Lib.hid (by have := HQ.out; unfold dF at this ⊢; rw [this]; exact hst)
          clear hst
          go_wp2_with fail
          refine (IH.out d x.ks[k] _ _ (by omega) HOK.out HKU.out).mono ?_
          rintro e w3 ⟨rfl, hb3⟩
          rw [he1.out]
          have HB3 := Lib.hid (HBel.out.trans (hb3.mono HBel.out.size))
          clear hb3
          by_cases hgt : q < e1
          · have hgt' : (q : Int) < (e1 : Int) := by omega
            go_wp2_with fail
            go_roundw
            case rel => exact ⟨k + 1, e1, by omega, by go_num, rfl, by rw [HST.out]; omega, by omega, HB3.out⟩
            case measure => simp [intOf]; omega
          · have hgt' : ¬ (q : Int) < (e1 : Int) := by omega
            go_wp2_with fail
            go_roundw
            case rel => exact ⟨k + 1, q, by omega, by go_num, rfl, by rw [HST.out]; omega, by omega, HB3.out⟩
            case measure => simp [intOf]; omega
        · have hqm3 : ¬ (q : Int) < (m : Int) + 1 := by omega
          have hfull : dF m x.ks = q := by have h1 := HQ.out; have h2 := dE_full m x.ks k (by unfold dF at h1; omega); unfold dF at h1 ⊢; omega
          have HF := Lib.hid hfull
          clear hfull
          go_wp2_with fail
          go_ret
          exact ⟨by rw [HF.out]; rfl, HBOX.out.trans (HBel.out.mono HBOX.out.size)⟩
      · have hlt' : ¬ (k : Int) < (x.ks.length : Int) := by omega
        have hfull : dF m x.ks = q := by have h1 := HQ.out; rw [List.take_of_length_le (by omega)] at h1; exact h1.symm
        have HF := Lib.hid hfull
        clear hfull
        go_wp2_with fail
        go_ret
        exact ⟨by rw [HF.out]; rfl, HBOX.out.trans (HBel.out.mono HBOX.out.size)⟩
set_option maxHeartbeats 4000000 in
set_option maxRecDepth 100000 in
theorem form_any : ∀ (d : Nat) (x : Ex) (kv : Value) (w : World), OkE x → ExK d w kv x.ks →
    Calls Try.prog 148 #[exV x kv] w fun e w' => e = .returned (.bool (formE d x)) ∧ Below w.heap.size w w' := by
  intro d
  induction d with
  | zero => intro x kv w _ h; exact h.elim
  | succ d ih =>
    intro x kv w hok hk
    have IH := Lib.hid ih
    obtain ⟨a, cap, rfl, hc1, hc2⟩ := hk.form
    have hbox := boxed w (.cells #[.int .i64 x.op, .int .i64 x.n, .string x.nm, .slice a x.ks.length cap] 37)
    have HBOX := Lib.hid hbox
    have HK1 := Lib.hid (hk.next hbox)
    have hnm := hok.nm
    have hres : formE (d + 1) x = ((x.ks.length : Int) == kidsOf x.op && headE x && x.ks.all (formE d)) := rfl
    clear ih hbox hk hok
    unfold exV
    cases hkb : ((x.ks.length : Int) == kidsOf x.op) with
    | false =>
      have hkb2 : (kidsOf x.op != (x.ks.length : Int)) = true := by have : ¬ (x.ks.length : Int) = kidsOf x.op := by simpa using hkb
                                                                    simp; omega
      have HR : Hid (formE (d + 1) x = false) := Lib.hid (by rw [hres, hkb]; rfl)
      clear hres hkb
      go_enter Try.func148, Try.ntmps148
      go_wp2_with fail
      go_quiet ((go_at_call 153; exact Calls.quiet_of_same ((arity_any _ _).mono fun e w' h => ⟨h.1, h.2.symm⟩)))
      go_wp2_with fail
      go_ret
      exact ⟨by rw [HR.out]; rfl, below_drewN HBOX.out nq⟩
    | true =>
      have hke : (x.ks.length : Int) = kidsOf x.op := by simpa using hkb
      have hkb2 : (kidsOf x.op != (x.ks.length : Int)) = false := by simp; omega
      rw [hkb, Bool.true_and] at hres
      clear hkb
      by_cases hA : x.op ≠ 1 ∧ x.n ≠ 0
      · have b1 : (x.op != 1) = true := by simpa using hA.1
        have b2 : (x.n != 0) = true := by simpa using hA.2
        have HR : Hid (formE (d + 1) x = false) := Lib.hid (by
          rw [hres]; unfold headE; rw [if_neg hA.1]
          have b3 : (x.n == 0) = false := by simpa using hA.2
          rw [b3]; simp)
        clear hres hA hke
        go_enter Try.func148, Try.ntmps148
        go_wp2_with fail
        go_quiet ((go_at_call 153; exact Calls.quiet_of_same ((arity_any _ _).mono fun e w' h => ⟨h.1, h.2.symm⟩)))
        go_wp2_with fail
        go_ret
        exact ⟨by rw [HR.out]; rfl, below_drewN HBOX.out nq⟩
      · by_cases hN : x.n < 0
        · have hop : x.op = 1 := by apply Decidable.byContradiction; intro h; exact hA ⟨h, by omega⟩
          have b1 : (x.op != 1) = false := by simpa using hop
          have b3 : decide (x.n < 0) = true := by simpa using hN
          have HR : Hid (formE (d + 1) x = false) := Lib.hid (by
            rw [hres]; unfold headE; rw [if_pos hop]
            have b4 : decide (0 ≤ x.n) = false := by simpa using hN
            rw [b4]; rfl)
          clear hres hA hke hop
          go_enter Try.func148, Try.ntmps148
          go_wp2_with fail
          go_quiet ((go_at_call 153; exact Calls.quiet_of_same ((arity_any _ _).mono fun e w' h => ⟨h.1, h.2.symm⟩)))
          go_wp2_with fail
          go_ret
          exact ⟨by rw [HR.out]; rfl, below_drewN HBOX.out nq⟩
        · have b3 : decide (x.n < 0) = false := by simp; omega
          have bb : (x.op != 1) = false ∨ ((x.op != 1) = true ∧ (x.n != 0) = false) := by
            by_cases h : x.op = 1
            · left; simpa using h
            · right
              have : x.n = 0 := by apply Decidable.byContradiction; intro h2; exact hA ⟨h, h2⟩
              exact ⟨by simpa using h, by simpa using this⟩
          cases hm : noName x.nm with
          | true =>
            obtain ⟨n0, n1, n2⟩ := bool_toList.1 hm
            have n3 : (x.nm.toList != []) = false := by simpa using n2
            by_cases hop : x.op = 2
            · have b5 : (x.op == 2) = true := by simpa using hop
              have HR : Hid (formE (d + 1) x = false) := Lib.hid (by
                rw [hres]; unfold headE; rw [if_neg (by omega), if_pos hop]
                have : isName (bl x.nm) = false := by rw [← toList_bl, n0]; rfl
                rw [this]; simp)
              clear hres hA hke hop hm
              rcases bb with b1 | ⟨b1, b2⟩
              · go_enter Try.func148, Try.ntmps148
                go_wp2_with fail
                go_quiet ((go_at_call 153; exact Calls.quiet_of_same ((arity_any _ _).mono fun e w' h => ⟨h.1, h.2.symm⟩)))
                go_wp2_with fail
                go_ret
                exact ⟨by rw [HR.out]; rfl, below_drewN HBOX.out nq⟩
              · go_enter Try.func148, Try.ntmps148
                go_wp2_with fail
                go_quiet ((go_at_call 153; exact Calls.quiet_of_same ((arity_any _ _).mono fun e w' h => ⟨h.1, h.2.symm⟩)))
                go_wp2_with fail
                go_ret
                exact ⟨by rw [HR.out]; rfl, below_drewN HBOX.out nq⟩
            · have b5 : (x.op == 2) = false := by simpa using hop
              have hh : headE x = true := by
                unfold headE
                by_cases h : x.op = 1
                · rw [if_pos h, hm]; simp; omega
                · rw [if_neg h, if_neg hop, hm]
                  have : x.n = 0 := by apply Decidable.byContradiction; intro h2; exact hA ⟨h, h2⟩
                  simp [this]
              have HR : Hid (formE (d + 1) x = x.ks.all (formE d)) := Lib.hid (by rw [hres, hh]; rfl)
              clear hres hA hke hop hm hh
              rcases bb with b1 | ⟨b1, b2⟩
              all_goals
                go_enter Try.func148, Try.ntmps148
                go_wp2_with fail
                go_quiet ((go_at_call 153; exact Calls.quiet_of_same ((arity_any _ _).mono fun e w' h => ⟨h.1, h.2.symm⟩)))
                have HB2 := Lib.hid (below_drewN HBOX.out nq)
                have HK2 := Lib.hid (HK1.out.next (below_drewN (Below.refl _ _) nq))
                go_wp2_with fail
                have hc3 : ((w.alloc (.cells #[.int .i64 x.op, .int .i64 x.n, .string x.nm, .slice a x.ks.length cap] 37)).drewN nq).cell? ⟨w.heap.size, 3, none⟩ = some (.slice a x.ks.length cap) := by simp [go_sem]
                generalize (w.alloc (.cells #[.int .i64 x.op, .int .i64 x.n, .string x.nm, .slice a x.ks.length cap] 37)).drewN nq = W2 at *
                go_loopw [49] (fun i wr => ∃ k : Nat, k ≤ x.ks.length ∧ i = .int .i64 k ∧ Below W2.heap.size W2 wr ∧ (x.ks.take k).all (formE d) = true) (fun i _ => (x.ks.length - intOf i).toNat)
                case atStart => exact ⟨0, by omega, rfl, Below.refl _ _, rfl⟩
                case round =>
                  obtain ⟨k, hk, rfl, hbel, hall⟩ := hrel
                  have hcr := cell_next hbel hc3
                  have HBel := Lib.hid hbel
                  have HALL := Lib.hid hall
                  clear hall
                  by_cases hlt : k < x.ks.length
                  · have hlt' : (k : Int) < (x.ks.length : Int) := by omega
                    have hne : x.ks ≠ [] := by intro h; rw [h] at hlt; simp at hlt
                    obtain ⟨g, off, cap', hv, _, _, hcells⟩ := (HK2.out.next hbel).kids hne
                    simp only [Value.slice.injEq] at hv
                    obtain ⟨rfl, -, rfl⟩ := hv
                    obtain ⟨hok2, u, c0, c1, c2, c3, hku⟩ := hcells k hlt
                    obtain ⟨au, cu, rfl, -, -⟩ := hku.form
                    have HKU := Lib.hid hku
                    have HOK := Lib.hid hok2
                    have hgl := cell_lt c0
                    clear hcells hku hok2 hbel hne
                    obtain ⟨bk, hbk⟩ : ∃ bk, Hid (formE d x.ks[k] = bk) := ⟨_, Lib.hid rfl⟩
                    go_wp2_with fail
                    refine (IH.out x.ks[k] _ _ HOK.out HKU.out).mono ?_
                    rintro e w3 ⟨rfl, hb3⟩
                    rw [hbk.out]
                    have HB3 := Lib.hid (HBel.out.trans (hb3.mono HBel.out.size))
                    clear hb3
                    cases bk with
                    | true =>
                      go_wp2_with fail
                      go_roundw
                      case rel =>
                        refine ⟨k + 1, by omega, by go_num, HB3.out, ?_⟩
                        rw [List.take_succ_eq_append_getElem hlt, List.all_append, HALL.out]
                        simp [hbk.out]
                      case measure => simp [intOf]; omega
                    | false =>
                      go_wp2_with fail
                      go_ret
                      refine ⟨?_, HB2.out.trans (HB3.out.mono HB2.out.size)⟩
                      have hno : x.ks.all (formE d) = false := by
                        cases h : x.ks.all (formE d) with
                        | false => rfl
                        | true =>
                          have := List.all_eq_true.1 h x.ks[k] (List.getElem_mem hlt)
                          rw [hbk.out] at this; cases this
                      rw [HR.out, hno]; rfl
                  · have hlt' : ¬ (k : Int) < (x.ks.length : Int) := by omega
                    have hyes : x.ks.all (formE d) = true := by
                      have := HALL.out
                      rwa [List.take_of_length_le (by omega)] at this
                    have HY := Lib.hid hyes
                    clear hyes
                    go_wp2_with fail
                    go_ret
                    exact ⟨by rw [HR.out, HY.out]; rfl, HB2.out.trans (HBel.out.mono HB2.out.size)⟩
          | false =>
            obtain ⟨n1, n2⟩ := bool_toList.2 hm
            have n3 : (x.nm.toList != []) = true := by simpa using n2
            by_cases hop : x.op = 2
            · have b5 : (x.op == 2) = true := by simpa using hop
              have hx0 : x.n = 0 := by apply Decidable.byContradiction; intro h2; exact hA ⟨by omega, h2⟩
              have hz : x.ks = [] := by
                rw [hop] at hke
                exact List.eq_nil_of_length_eq_zero (by have : kidsOf 2 = 0 := rfl; omega)
              have hl0 : x.ks.length = 0 := by rw [hz]; rfl
              have HR : Hid (formE (d + 1) x = isName (bl x.nm)) := Lib.hid (by
                rw [hres]; unfold headE; rw [if_neg (by omega), if_pos hop, hx0, hz]; simp)
              have b1 : (x.op != 1) = true := by simp; omega
              have b2 : (x.n != 0) = false := by simp; omega
              have hkb3 : (kidsOf x.op != 0) = false := by rw [hl0] at hkb2; exact hkb2
              rw [hl0] at HBOX ⊢
              clear hres hA hke hop hm hx0 hz bb HK1 IH hl0 hkb2 hc1
              obtain ⟨bn, hbn⟩ : ∃ bn, Hid (isName (bl x.nm) = bn) := ⟨_, Lib.hid rfl⟩
              go_enter Try.func148, Try.ntmps148
              go_wp2_with fail
              refine cut_world (fun W => Below w.heap.size w W ∧ W.cell? ⟨w.heap.size, 0, none⟩ = some (.int .i64 x.op) ∧ W.cell? ⟨w.heap.size, 1, none⟩ = some (.int .i64 x.n) ∧ W.cell? ⟨w.heap.size, 2, none⟩ = some (.string x.nm) ∧ W.cell? ⟨w.heap.size, 3, none⟩ = some (.slice a 0 cap)) ⟨HBOX.out, by simp [go_sem], by simp [go_sem], by simp [go_sem], by simp [go_sem]⟩ ?_
              rintro W1 ⟨hbw, hc0', hc1', hc2', hc3'⟩
              have hc0 : W1.drew.cell? ⟨w.heap.size, 0, none⟩ = some (.int .i64 x.op) := hc0'
              have hc1 : W1.drew.cell? ⟨w.heap.size, 1, none⟩ = some (.int .i64 x.n) := hc1'
              have hc2 : W1.drew.cell? ⟨w.heap.size, 2, none⟩ = some (.string x.nm) := hc2'
              have hc3 : W1.drew.cell? ⟨w.heap.size, 3, none⟩ = some (.slice a 0 cap) := hc3'
              have HB2 := Lib.hid hbw.drew
              clear hc0' hc1' hc2' hc3' hbw HBOX
              refine wp_region_still_tail 38 (by kernel_rfl) (by kernel_rfl) ?_
              generalize hW2 : ({ W1 with drawn := W1.drawn + 1 } : World) = W2
              have hdw : W1.drew = W2 := hW2
              rw [hdw] at hc0 hc1 hc2 hc3 HB2
              clear hdw hW2
              simp only [List.take_succ_cons, List.take_zero, List.drop_succ_cons, List.drop_zero]
              repeat still_step
              still_call ((arity_any x.op _).mono fun e w' h => ⟨h.1, h.2.symm⟩)
              repeat still_step
              refine wpStill_nil ?_
              go_wp2_with fail
              refine (rname_any _ _ hnm).mono ?_
              rintro e w3 ⟨rfl, hb3⟩
              rw [hbn.out]
              have hc33 := cell_next hb3 hc3
              have HB3 := Lib.hid (HB2.out.trans (hb3.mono HB2.out.size))
              clear hb3
              cases bn with
              | false =>
                go_wp2_with fail
                go_ret
                exact ⟨by rw [HR.out, hbn.out]; rfl, HB3.out⟩
              | true =>
                go_wp2_with fail
                go_loopw [49] (fun i wr => i = .int .i64 0 ∧ wr = w3) (fun _ _ => 0)
                case atStart => exact ⟨rfl, rfl⟩
                case round =>
                  obtain ⟨rfl, rfl⟩ := hrel
                  go_wp2_with fail
                  go_ret
                  exact ⟨by rw [HR.out, hbn.out]; rfl, HB3.out⟩
            · have b5 : (x.op == 2) = false := by simpa using hop
              have HR : Hid (formE (d + 1) x = false) := Lib.hid (by
                rw [hres]; unfold headE
                by_cases h : x.op = 1
                · rw [if_pos h, hm]; simp
                · rw [if_neg h, if_neg hop, hm]; simp)
              clear hres hA hke hop hm
              rcases bb with b1 | ⟨b1, b2⟩
              · go_enter Try.func148, Try.ntmps148
                go_wp2_with fail
                go_quiet ((go_at_call 153; exact Calls.quiet_of_same ((arity_any _ _).mono fun e w' h => ⟨h.1, h.2.symm⟩)))
                go_wp2_with fail
                go_ret
                exact ⟨by rw [HR.out]; rfl, below_drewN HBOX.out nq⟩
              · go_enter Try.func148, Try.ntmps148
                go_wp2_with fail
                go_quiet ((go_at_call 153; exact Calls.quiet_of_same ((arity_any _ _).mono fun e w' h => ⟨h.1, h.2.symm⟩)))
                go_wp2_with fail
                go_ret
                exact ⟨by rw [HR.out]; rfl, below_drewN HBOX.out nq⟩
end Go.Proofs.Ytghlmengcidmdaa.Tr
end
section
namespace Go.Proofs.Ytghlmengcidmdaa.Tr
open Go.RowKit Go.Proofs.Ytghlmengcidmdaa.Lx Go.Proofs.Ytghlmengcidmdaa.Wd
/-- At most so many in one another. -/
def tall : Nat → List Ex → Prop
  | 0, _ => False
  | d + 1, ks => ∀ k ∈ ks, tall d k.ks
theorem ExK.tall {w : World} : ∀ {d : Nat} {kv : Value} {ks : List Ex}, ExK d w kv ks → Tr.tall d ks := by
  intro d
  induction d with
  | zero => intro kv ks h; exact h
  | succ d ih =>
    intro kv ks h k hk
    obtain ⟨a, cap, h1, h2, h3, h4⟩ := h
    obtain ⟨g, off, h5, h6⟩ := h4 (List.ne_nil_of_mem hk)
    obtain ⟨i, hi, rfl⟩ := List.getElem_of_mem hk
    obtain ⟨h7, u, _, _, _, _, hku⟩ := h6 i hi
    exact ih hku
theorem dF_le (m : Nat) : ∀ (l : List Ex) (d : Nat), l.foldl (fun d k => if d < m + 1 then max d (dE m k) else d) d ≤ m ↔ d ≤ m ∧ ∀ k ∈ l, dE m k ≤ m := by
  intro l
  induction l with
  | nil => intro d; simp
  | cons a r ih =>
    intro d
    rw [List.foldl_cons, ih]
    by_cases h : d < m + 1
    · rw [if_pos h]
      simp only [List.mem_cons, forall_eq_or_imp]
      exact ⟨fun ⟨h1, h2⟩ => ⟨by omega, by omega, h2⟩, fun ⟨h1, h2, h3⟩ => ⟨by omega, h3⟩⟩
    · rw [if_neg h]
      simp only [List.mem_cons, forall_eq_or_imp]
      exact ⟨fun ⟨h1, h2⟩ => by omega, fun ⟨h1, h2, h3⟩ => by omega⟩
theorem may_law : ∀ (l d : Nat) (x : Ex), tall d x.ks → mayE l x = (decide (dE l x ≤ l) && formE d x) := by
  intro l
  induction l with
  | zero => intro d x _; rfl
  | succ l ih =>
    intro d x ht
    cases d with
    | zero => exact ht.elim
    | succ d =>
      have e1 : (dE (l + 1) x ≤ l + 1) ↔ ∀ k ∈ x.ks, dE l k ≤ l := by
        show (x.ks.foldl _ 0) + 1 ≤ l + 1 ↔ _
        have := dF_le l x.ks 0
        constructor
        · intro h; exact (this.1 (by omega)).2
        · intro h; have := this.2 ⟨by omega, h⟩; omega
      have e2 : x.ks.all (mayE l) = (decide (∀ k ∈ x.ks, dE l k ≤ l) && x.ks.all (formE d)) := by
        rw [Bool.eq_iff_iff]
        simp only [List.all_eq_true, Bool.and_eq_true, decide_eq_true_eq]
        constructor
        · intro h
          refine ⟨fun k hk => ?_, fun k hk => ?_⟩
          · have := h k hk; rw [ih d k (ht k hk)] at this; simp at this; exact this.1
          · have := h k hk; rw [ih d k (ht k hk)] at this; simp at this; exact this.2
        · intro h k hk
          rw [ih d k (ht k hk)]
          simp [h.1 k hk, h.2 k hk]
      rw [mayE_succ, e2]
      have e3 : formE (d + 1) x = ((x.ks.length : Int) == kidsOf x.op && headE x && x.ks.all (formE d)) := rfl
      rw [e3, show decide (dE (l + 1) x ≤ l + 1) = decide (∀ k ∈ x.ks, dE l k ≤ l) from by simp only [e1]]
      generalize ((x.ks.length : Int) == kidsOf x.op && headE x) = p
      generalize decide (∀ k ∈ x.ks, dE l k ≤ l) = q
      generalize x.ks.all (formE d) = r
      cases p <;> cases q <;> cases r <;> rfl
theorem rmayExpr_any (d : Nat) (x : Ex) (kv : Value) (w : World) (hok : OkE x) (hk : ExK d w kv x.ks) :
    Calls Try.prog 133 #[exV x kv] w fun e w' => e = .returned (.bool (mayE 20 x)) ∧ Below w.heap.size w w' := by
  have hbox := boxed w (.cells #[.int .i64 x.op, .int .i64 x.n, .string x.nm, kv] 37)
  have HBOX := Lib.hid hbox
  have HK1 := Lib.hid (hk.next hbox)
  have HOK := Lib.hid hok
  have hlaw := may_law 20 d x hk.tall
  obtain ⟨a, cap, rfl, -, -⟩ := hk.form
  have hle := dE_le 20 x
  obtain ⟨q, hq⟩ : ∃ q, Hid (dE 20 x = q) := ⟨_, Lib.hid rfl⟩
  rw [hq.out] at hlaw hle
  have HL := Lib.hid hlaw
  clear hbox hk hok hlaw
  unfold exV
  by_cases hq20 : q ≤ 20
  · have hq' : (q : Int) ≤ 20 := by omega
    go_enter Try.func133, Try.ntmps133
    go_wp2_with fail
    refine (rdeep_any 20 d x _ _ (by omega) HOK.out HK1.out).mono ?_
    rintro e w1 ⟨rfl, hb⟩
    rw [hq.out]
    have HB := Lib.hid (HBOX.out.trans (hb.mono HBOX.out.size))
    have HK2 := Lib.hid (HK1.out.next hb)
    have c0 := cell_next (g := w.heap.size) (j := 0) (u := .int .i64 x.op) hb (by simp [go_sem])
    have c1 := cell_next (g := w.heap.size) (j := 1) (u := .int .i64 x.n) hb (by simp [go_sem])
    have c2 := cell_next (g := w.heap.size) (j := 2) (u := .string x.nm) hb (by simp [go_sem])
    have c3 := cell_next (g := w.heap.size) (j := 3) (u := .slice a x.ks.length cap) hb (by simp [go_sem])
    have hs1 : w.heap.size < w1.heap.size := by have := hb.size; simp at this; omega
    clear hb
    go_wp2_with fail
    refine (form_any d x _ _ HOK.out HK2.out).mono ?_
    rintro e w2 ⟨rfl, hb2⟩
    have HB2 := Lib.hid (HB.out.trans (hb2.mono HB.out.size))
    clear hb2
    go_wp2_with fail
    go_ret
    exact ⟨by rw [HL.out, show decide (q ≤ 20) = true from by simpa using hq20, Bool.true_and]; rfl, HB2.out⟩
  · have hq' : ¬ (q : Int) ≤ 20 := by omega
    go_enter Try.func133, Try.ntmps133
    go_wp2_with fail
    refine (rdeep_any 20 d x _ _ (by omega) HOK.out HK1.out).mono ?_
    rintro e w1 ⟨rfl, hb⟩
    rw [hq.out]
    have HB := Lib.hid (HBOX.out.trans (hb.mono HBOX.out.size))
    clear hb
    go_wp2_with fail
    go_ret
    exact ⟨by rw [HL.out, show decide (q ≤ 20) = false from by simpa using hq20, Bool.false_and]; rfl, HB.out⟩
end Go.Proofs.Ytghlmengcidmdaa.Tr
end
section
namespace Go.Proofs.Ytghlmengcidmdaa.Tr
open Go.RowKit Go.Proofs.Ytghlmengcidmdaa.Lx Go.Proofs.Ytghlmengcidmdaa.Wd
theorem at_some {s : ByteArray} {ns : List ByteArray} {k : Nat} (h : k < ns.length) (hk : (s.toList == ns[k].toList) = true) (hb : ∀ j (hj : j < k), (s.toList == ns[j].toList) = false) : at_ s ns = some k := by
  unfold at_
  rw [List.findIdx?_eq_some_iff_getElem]
  exact ⟨h, hk, fun j hj => by rw [hb j hj]; simp⟩
theorem at_none {s : ByteArray} {ns : List ByteArray} (h : ∀ j (hj : j < ns.length), (s.toList == ns[j].toList) = false) : at_ s ns = none := by
  unfold at_
  rw [List.findIdx?_eq_none_iff]
  intro m hm
  obtain ⟨j, hj, rfl⟩ := List.getElem_of_mem hm
  exact h j hj
/-- Where it stands, as Index tells it. -/
def atI (s : ByteArray) (ns : List ByteArray) : Int := match at_ s ns with
  | some i => i
  | none => -1
theorem StrsAt.form {w : World} {v : Value} {l : List ByteArray} (h : StrsAt w v l) : ∃ a cap, v = .slice a l.length cap ∧ l.length ≤ cap ∧ cap ≤ 9223372036854775807 := by
  obtain ⟨a, cap, h1, h2, h3, _⟩ := h
  exact ⟨a, cap, h1, h2, h3⟩
theorem StrsAt.cells {w : World} {v : Value} {l : List ByteArray} (h : StrsAt w v l) (hne : l ≠ []) : ∃ g off cap, v = .slice (some ⟨g, off, none⟩) l.length cap ∧ ∀ i (h : i < l.length), l[i].size ≤ 9223372036854775807 ∧ w.cell? ⟨g, off + i, none⟩ = some (.string l[i]) := by
  obtain ⟨a, cap, h1, h2, h3, h4⟩ := h
  obtain ⟨g, off, rfl, h6⟩ := h4 hne
  exact ⟨g, off, cap, h1, h6⟩
theorem ret_i {k : IntKind} {a b : Int} (h : a = b) : Ending.returned (.int k a) = .returned (.int k b) := by rw [h]
set_option maxHeartbeats 1000000 in
theorem index_any (ns : List ByteArray) (nv : Value) (s : ByteArray) (w : World) (hn : StrsAt w nv ns) :
    Calls Try.prog 83 #[nv, .string s] w fun e w' => e = .returned (.int .i64 (atI s ns)) ∧ w = w' := by
  obtain ⟨a, cap, rfl, hc1, hc2⟩ := hn.form
  have HN := Lib.hid hn
  clear hn
  go_enter Try.func83, Try.ntmps83
  go_wp2_with fail
  go_loop [8] (fun i => ∃ k : Nat, k ≤ ns.length ∧ i = .int .i64 k ∧ ∀ j (hj : j < ns.length), j < k → (s.toList == ns[j].toList) = false) (fun i => (ns.length - intOf i).toNat)
  case atStart => exact ⟨0, by omega, rfl, fun j _ h => absurd h (by omega)⟩
  case round =>
    obtain ⟨k, hk, rfl, hno⟩ := hrel
    have HNO := Lib.hid hno
    clear hno
    by_cases hlt : k < ns.length
    · have hlt' : (k : Int) < (ns.length : Int) := by omega
      have hne : ns ≠ [] := by intro h; rw [h] at hlt; simp at hlt
      obtain ⟨g, off, cap', hv, hcells⟩ := HN.out.cells hne
      simp only [Value.slice.injEq] at hv
      obtain ⟨rfl, -, rfl⟩ := hv
      obtain ⟨-, c0⟩ := hcells k hlt
      clear hcells hne
      cases hq : (s.toList == ns[k].toList) with
      | true =>
        have HQ := Lib.hid hq
        obtain ⟨m, hm⟩ : ∃ m, Hid (ns[k] = m) := ⟨_, Lib.hid rfl⟩
        rw [hm.out] at hq c0
        go_wp2_with fail
        go_ret
        refine ⟨ret_i ?_, rfl⟩
        unfold atI
        rw [at_some hlt HQ.out (fun j hj => HNO.out j (by omega) hj)]
      | false =>
        have HQ := Lib.hid hq
        obtain ⟨m, hm⟩ : ∃ m, Hid (ns[k] = m) := ⟨_, Lib.hid rfl⟩
        rw [hm.out] at hq c0
        go_wp2_with fail
        go_round
        case rel =>
          refine ⟨k + 1, by omega, by go_num, fun j hj hjk => ?_⟩
          rcases Nat.lt_or_ge j k with h | h
          · exact HNO.out j hj h
          · obtain rfl : j = k := by omega
            exact HQ.out
        case measure => simp [intOf]; omega
    · have hlt' : ¬ (k : Int) < (ns.length : Int) := by omega
      go_wp2_with fail
      go_ret
      refine ⟨ret_i ?_, rfl⟩
      unfold atI
      rw [at_none (fun j hj => HNO.out j hj (by omega))]
end Go.Proofs.Ytghlmengcidmdaa.Tr
end
