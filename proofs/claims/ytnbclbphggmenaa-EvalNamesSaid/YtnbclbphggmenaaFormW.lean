/- What the reference's deep, form, MayExpr compute. Conditions: the expression lies in memory. -/
import Derived.Test.YtnbclbphggmenaaMayW
import Derived.StillTailTactics
namespace Go.Proofs.Ytnbclbphggmenaa.Tr
open Go.RowKit Go.Proofs.Ytnbclbphggmenaa.Lx Go.Proofs.Ytnbclbphggmenaa.Wd
/-- How many in one another, up to one more than so many. -/
def dE : Nat → Ex → Nat
  | 0, _ => 1
  | m + 1, x => (x.ks.foldl (fun d k => if d < m + 1 then max d (dE m k) else d) 0) + 1
/-- Each by itself, looking so deep. -/
def formE : Nat → Ex → Bool
  | 0, _ => false
  | m + 1, x => (x.ks.length : Int) == kidsOf x.op && headE x && x.ks.all (formE m)
theorem dE_stop (m : Nat) : ∀ (l : List Ex) (d : Nat), m + 1 ≤ d → l.foldl (fun d k => if d < m + 1 then max d (dE m k) else d) d = d := by
  intro l
  induction l with
  | nil => intro d _; rfl
  | cons a r ih => intro d h; rw [List.foldl_cons, if_neg (by omega)]; exact ih d h
theorem dE_pos (m : Nat) (x : Ex) : 1 ≤ dE m x := by cases m <;> simp [dE]
theorem dE_le : ∀ (m : Nat) (x : Ex), dE m x ≤ m + 1 := by
  intro m
  induction m with
  | zero => intro x; simp [dE]
  | succ m ih =>
    intro x
    have key : ∀ (l : List Ex) (d : Nat), d ≤ m + 1 → l.foldl (fun d k => if d < m + 1 then max d (dE m k) else d) d ≤ m + 1 := by
      intro l
      induction l with
      | nil => intro d h; exact h
      | cons a r ih2 =>
        intro d h
        rw [List.foldl_cons]
        apply ih2
        split
        · have := ih a; omega
        · exact h
    have := key x.ks 0 (by omega)
    simp only [dE]; omega
theorem dE_step (m : Nat) (l : List Ex) (k : Nat) (h : k < l.length) (hd : (l.take k).foldl (fun d k => if d < m + 1 then max d (dE m k) else d) 0 < m + 1) :
    (l.take (k + 1)).foldl (fun d k => if d < m + 1 then max d (dE m k) else d) 0 = max ((l.take k).foldl (fun d k => if d < m + 1 then max d (dE m k) else d) 0) (dE m l[k]) := by
  rw [List.take_succ_eq_append_getElem h, List.foldl_append, List.foldl_cons, List.foldl_nil, if_pos hd]
theorem dE_full (m : Nat) (l : List Ex) (k : Nat) (h : m + 1 ≤ (l.take k).foldl (fun d k => if d < m + 1 then max d (dE m k) else d) 0) :
    l.foldl (fun d k => if d < m + 1 then max d (dE m k) else d) 0 = (l.take k).foldl (fun d k => if d < m + 1 then max d (dE m k) else d) 0 := by
  conv => lhs; rw [← List.take_append_drop k l, List.foldl_append]
  exact dE_stop m _ _ h
theorem cut_world {P : Program} {c : Code} {Q : Exit → Act → World → Prop} {a : Act} {w : World} (F : World → Prop) (hF : F w) (h : ∀ w', F w' → c.wp P Q a w') : c.wp P Q a w := h w hF
def dF (m : Nat) (l : List Ex) : Nat := l.foldl (fun d k => if d < m + 1 then max d (dE m k) else d) 0
set_option maxHeartbeats 2000000 in
theorem rdeep_any : ∀ (m : Nat) (d : Nat) (x : Ex) (kv : Value) (w : World), m ≤ 100 → OkE x → ExK d w kv x.ks →
    Calls Try.prog 62 #[exV x kv, .int .i64 m] w fun e w' => e = .returned (.int .i64 (dE m x)) ∧ Below w.heap.size w w' := by
  intro m
  induction m with
  | zero =>
    intro d x kv w _ hok hk
    have HBOX := Lib.hid (boxed w (.cells #[.int .i64 x.op, .int .i64 x.n, .string x.nm, kv] 24))
    obtain ⟨a, cap, rfl, -, -⟩ := hk.form
    clear hok hk
    unfold exV
    go_enter Try.func62, Try.ntmps62
    go_wp2_with fail
    go_ret
    exact ⟨rfl, HBOX.out⟩
  | succ m ih =>
    intro d x kv w hm hok hk
    obtain ⟨d, rfl⟩ : ∃ e, d = e + 1 := by
      cases d with
      | zero => exact hk.elim
      | succ e => exact ⟨e, rfl⟩
    have IH := Lib.hid ih
    obtain ⟨a, cap, rfl, hc1, hc2⟩ := hk.form
    have hbox := boxed w (.cells #[.int .i64 x.op, .int .i64 x.n, .string x.nm, .slice a x.ks.length cap] 24)
    have HBOX := Lib.hid hbox
    have HK1 := Lib.hid (hk.next hbox)
    have hm1 : (m : Int) + 1 ≤ 101 := by omega
    have hm0 : (1 : Int) ≤ (m : Int) + 1 := by omega
    have hmz : ((m : Int) + 1 == 0) = false := by simp; omega
    have hmc : ((m + 1 : Nat) : Int) = (m : Int) + 1 := rfl
    rw [hmc]
    have hres : dE (m + 1) x = dF m x.ks + 1 := rfl
    rw [hres]
    clear ih hbox hk hok hmc hres
    unfold exV
    go_enter Try.func62, Try.ntmps62
    go_wp2_with fail
    have hc3 : (w.alloc (.cells #[.int .i64 x.op, .int .i64 x.n, .string x.nm, .slice a x.ks.length cap] 24)).cell? ⟨w.heap.size, 3, none⟩ = some (.slice a x.ks.length cap) := by simp [go_sem]
    generalize w.alloc (.cells #[.int .i64 x.op, .int .i64 x.n, .string x.nm, .slice a x.ks.length cap] 24) = W1 at *
    go_loopw [5, 6] (fun dv i wr => ∃ (k q : Nat), k ≤ x.ks.length ∧ i = .int .i64 k ∧ dv = .int .i64 q ∧ q = dF m (x.ks.take k) ∧ q ≤ m + 1 ∧ Below W1.heap.size W1 wr) (fun _ i _ => (x.ks.length - intOf i).toNat)
    case atStart => exact ⟨0, 0, by omega, rfl, rfl, rfl, by omega, Below.refl _ _⟩
    case round =>
      obtain ⟨k, q, hk, rfl, rfl, hq, hqm, hbel⟩ := hrel
      have hcr := cell_next hbel hc3
      have HBel := Lib.hid hbel
      have HQ := Lib.hid hq
      clear hq
      by_cases hlt : k < x.ks.length
      · have hlt' : (k : Int) < (x.ks.length : Int) := by omega
        by_cases hqm2 : q < m + 1
        · have hqm3 : (q : Int) < (m : Int) + 1 := by omega
          have hne : x.ks ≠ [] := by intro h; rw [h] at hlt; simp at hlt
          obtain ⟨g, off, cap', hv, _, _, hcells⟩ := (HK1.out.next hbel).kids hne
          simp only [Value.slice.injEq] at hv
          obtain ⟨rfl, -, rfl⟩ := hv
          obtain ⟨hok2, u, c0, c1, c2, c3, hku⟩ := hcells k hlt
          obtain ⟨au, cu, rfl, -, -⟩ := hku.form
          have HKU := Lib.hid hku
          have HOK := Lib.hid hok2
          have hgl := cell_lt c0
          clear hcells hku hok2 hbel hne
          have hle := dE_le m x.ks[k]
          have hst := dE_step m x.ks k hlt (by have := HQ.out; unfold dF at this; omega)
          obtain ⟨e1, he1⟩ : ∃ e1, Hid (dE m x.ks[k] = e1) := ⟨_, Lib.hid rfl⟩
          rw [he1.out] at hle hst
          have HST : Hid (dF m (x.ks.take (k + 1)) = max q e1) := Lib.hid (by have := HQ.out; unfold dF at this ⊢; rw [this]; exact hst)
          clear hst
          go_wp2_with fail
          refine (IH.out d x.ks[k] _ _ (by omega) HOK.out HKU.out).mono ?_
          rintro e w3 ⟨rfl, hb3⟩
          rw [he1.out]
          have HB3 := Lib.hid (HBel.out.trans (hb3.mono HBel.out.size))
          clear hb3
          by_cases hgt : q < e1
          · have hgt' : (q : Int) < (e1 : Int) := by omega
            go_wp2_with fail
            go_roundw
            case rel => exact ⟨k + 1, e1, by omega, by go_num, rfl, by rw [HST.out]; omega, by omega, HB3.out⟩
            case measure => simp [intOf]; omega
          · have hgt' : ¬ (q : Int) < (e1 : Int) := by omega
            go_wp2_with fail
            go_roundw
            case rel => exact ⟨k + 1, q, by omega, by go_num, rfl, by rw [HST.out]; omega, by omega, HB3.out⟩
            case measure => simp [intOf]; omega
        · have hqm3 : ¬ (q : Int) < (m : Int) + 1 := by omega
          have hfull : dF m x.ks = q := by have h1 := HQ.out; have h2 := dE_full m x.ks k (by unfold dF at h1; omega); unfold dF at h1 ⊢; omega
          have HF := Lib.hid hfull
          clear hfull
          go_wp2_with fail
          go_ret
          exact ⟨by rw [HF.out]; rfl, HBOX.out.trans (HBel.out.mono HBOX.out.size)⟩
      · have hlt' : ¬ (k : Int) < (x.ks.length : Int) := by omega
        have hfull : dF m x.ks = q := by have h1 := HQ.out; rw [List.take_of_length_le (by omega)] at h1; exact h1.symm
        have HF := Lib.hid hfull
        clear hfull
        go_wp2_with fail
        go_ret
        exact ⟨by rw [HF.out]; rfl, HBOX.out.trans (HBel.out.mono HBOX.out.size)⟩
set_option maxHeartbeats 4000000 in
set_option maxRecDepth 100000 in
theorem form_any : ∀ (d : Nat) (x : Ex) (kv : Value) (w : World), OkE x → ExK d w kv x.ks →
    Calls Try.prog 63 #[exV x kv] w fun e w' => e = .returned (.bool (formE d x)) ∧ Below w.heap.size w w' := by
  intro d
  induction d with
  | zero => intro x kv w _ h; exact h.elim
  | succ d ih =>
    intro x kv w hok hk
    have IH := Lib.hid ih
    obtain ⟨a, cap, rfl, hc1, hc2⟩ := hk.form
    have hbox := boxed w (.cells #[.int .i64 x.op, .int .i64 x.n, .string x.nm, .slice a x.ks.length cap] 24)
    have HBOX := Lib.hid hbox
    have HK1 := Lib.hid (hk.next hbox)
    have hnm := hok.nm
    have hres : formE (d + 1) x = ((x.ks.length : Int) == kidsOf x.op && headE x && x.ks.all (formE d)) := rfl
    clear ih hbox hk hok
    unfold exV
    cases hkb : ((x.ks.length : Int) == kidsOf x.op) with
    | false =>
      have hkb2 : (kidsOf x.op != (x.ks.length : Int)) = true := by have : ¬ (x.ks.length : Int) = kidsOf x.op := by simpa using hkb
                                                                    simp; omega
      have HR : Hid (formE (d + 1) x = false) := Lib.hid (by rw [hres, hkb]; rfl)
      clear hres hkb
      go_enter Try.func63, Try.ntmps63
      go_wp2_with fail
      go_quiet ((go_at_call 95; exact Calls.quiet_of_same ((arity_any _ _).mono fun e w' h => ⟨h.1, h.2.symm⟩)))
      go_wp2_with fail
      go_ret
      exact ⟨by rw [HR.out]; rfl, below_drewN HBOX.out nq⟩
    | true =>
      have hke : (x.ks.length : Int) = kidsOf x.op := by simpa using hkb
      have hkb2 : (kidsOf x.op != (x.ks.length : Int)) = false := by simp; omega
      rw [hkb, Bool.true_and] at hres
      clear hkb
      by_cases hA : x.op ≠ 1 ∧ x.n ≠ 0
      · have b1 : (x.op != 1) = true := by simpa using hA.1
        have b2 : (x.n != 0) = true := by simpa using hA.2
        have HR : Hid (formE (d + 1) x = false) := Lib.hid (by
          rw [hres]; unfold headE; rw [if_neg hA.1]
          have b3 : (x.n == 0) = false := by simpa using hA.2
          rw [b3]; simp)
        clear hres hA hke
        go_enter Try.func63, Try.ntmps63
        go_wp2_with fail
        go_quiet ((go_at_call 95; exact Calls.quiet_of_same ((arity_any _ _).mono fun e w' h => ⟨h.1, h.2.symm⟩)))
        go_wp2_with fail
        go_ret
        exact ⟨by rw [HR.out]; rfl, below_drewN HBOX.out nq⟩
      · by_cases hN : x.n < 0
        · have hop : x.op = 1 := by apply Decidable.byContradiction; intro h; exact hA ⟨h, by omega⟩
          have b1 : (x.op != 1) = false := by simpa using hop
          have b3 : decide (x.n < 0) = true := by simpa using hN
          have HR : Hid (formE (d + 1) x = false) := Lib.hid (by
            rw [hres]; unfold headE; rw [if_pos hop]
            have b4 : decide (0 ≤ x.n) = false := by simpa using hN
            rw [b4]; rfl)
          clear hres hA hke hop
          go_enter Try.func63, Try.ntmps63
          go_wp2_with fail
          go_quiet ((go_at_call 95; exact Calls.quiet_of_same ((arity_any _ _).mono fun e w' h => ⟨h.1, h.2.symm⟩)))
          go_wp2_with fail
          go_ret
          exact ⟨by rw [HR.out]; rfl, below_drewN HBOX.out nq⟩
        · have b3 : decide (x.n < 0) = false := by simp; omega
          have bb : (x.op != 1) = false ∨ ((x.op != 1) = true ∧ (x.n != 0) = false) := by
            by_cases h : x.op = 1
            · left; simpa using h
            · right
              have : x.n = 0 := by apply Decidable.byContradiction; intro h2; exact hA ⟨h, h2⟩
              exact ⟨by simpa using h, by simpa using this⟩
          cases hm : noName x.nm with
          | true =>
            obtain ⟨n0, n1, n2⟩ := bool_toList.1 hm
            have n3 : (x.nm.toList != []) = false := by simpa using n2
            by_cases hop : x.op = 2
            · have b5 : (x.op == 2) = true := by simpa using hop
              have HR : Hid (formE (d + 1) x = false) := Lib.hid (by
                rw [hres]; unfold headE; rw [if_neg (by omega), if_pos hop]
                have : isName (bl x.nm) = false := by rw [← toList_bl, n0]; rfl
                rw [this]; simp)
              clear hres hA hke hop hm
              rcases bb with b1 | ⟨b1, b2⟩
              · go_enter Try.func63, Try.ntmps63
                go_wp2_with fail
                go_quiet ((go_at_call 95; exact Calls.quiet_of_same ((arity_any _ _).mono fun e w' h => ⟨h.1, h.2.symm⟩)))
                go_wp2_with fail
                go_ret
                exact ⟨by rw [HR.out]; rfl, below_drewN HBOX.out nq⟩
              · go_enter Try.func63, Try.ntmps63
                go_wp2_with fail
                go_quiet ((go_at_call 95; exact Calls.quiet_of_same ((arity_any _ _).mono fun e w' h => ⟨h.1, h.2.symm⟩)))
                go_wp2_with fail
                go_ret
                exact ⟨by rw [HR.out]; rfl, below_drewN HBOX.out nq⟩
            · have b5 : (x.op == 2) = false := by simpa using hop
              have hh : headE x = true := by
                unfold headE
                by_cases h : x.op = 1
                · rw [if_pos h, hm]; simp; omega
                · rw [if_neg h, if_neg hop, hm]
                  have : x.n = 0 := by apply Decidable.byContradiction; intro h2; exact hA ⟨h, h2⟩
                  simp [this]
              have HR : Hid (formE (d + 1) x = x.ks.all (formE d)) := Lib.hid (by rw [hres, hh]; rfl)
              clear hres hA hke hop hm hh
              rcases bb with b1 | ⟨b1, b2⟩
              all_goals
                go_enter Try.func63, Try.ntmps63
                go_wp2_with fail
                go_quiet ((go_at_call 95; exact Calls.quiet_of_same ((arity_any _ _).mono fun e w' h => ⟨h.1, h.2.symm⟩)))
                have HB2 := Lib.hid (below_drewN HBOX.out nq)
                have HK2 := Lib.hid (HK1.out.next (below_drewN (Below.refl _ _) nq))
                go_wp2_with fail
                have hc3 : ((w.alloc (.cells #[.int .i64 x.op, .int .i64 x.n, .string x.nm, .slice a x.ks.length cap] 24)).drewN nq).cell? ⟨w.heap.size, 3, none⟩ = some (.slice a x.ks.length cap) := by simp [go_sem]
                generalize (w.alloc (.cells #[.int .i64 x.op, .int .i64 x.n, .string x.nm, .slice a x.ks.length cap] 24)).drewN nq = W2 at *
                go_loopw [49] (fun i wr => ∃ k : Nat, k ≤ x.ks.length ∧ i = .int .i64 k ∧ Below W2.heap.size W2 wr ∧ (x.ks.take k).all (formE d) = true) (fun i _ => (x.ks.length - intOf i).toNat)
                case atStart => exact ⟨0, by omega, rfl, Below.refl _ _, rfl⟩
                case round =>
                  obtain ⟨k, hk, rfl, hbel, hall⟩ := hrel
                  have hcr := cell_next hbel hc3
                  have HBel := Lib.hid hbel
                  have HALL := Lib.hid hall
                  clear hall
                  by_cases hlt : k < x.ks.length
                  · have hlt' : (k : Int) < (x.ks.length : Int) := by omega
                    have hne : x.ks ≠ [] := by intro h; rw [h] at hlt; simp at hlt
                    obtain ⟨g, off, cap', hv, _, _, hcells⟩ := (HK2.out.next hbel).kids hne
                    simp only [Value.slice.injEq] at hv
                    obtain ⟨rfl, -, rfl⟩ := hv
                    obtain ⟨hok2, u, c0, c1, c2, c3, hku⟩ := hcells k hlt
                    obtain ⟨au, cu, rfl, -, -⟩ := hku.form
                    have HKU := Lib.hid hku
                    have HOK := Lib.hid hok2
                    have hgl := cell_lt c0
                    clear hcells hku hok2 hbel hne
                    obtain ⟨bk, hbk⟩ : ∃ bk, Hid (formE d x.ks[k] = bk) := ⟨_, Lib.hid rfl⟩
                    go_wp2_with fail
                    refine (IH.out x.ks[k] _ _ HOK.out HKU.out).mono ?_
                    rintro e w3 ⟨rfl, hb3⟩
                    rw [hbk.out]
                    have HB3 := Lib.hid (HBel.out.trans (hb3.mono HBel.out.size))
                    clear hb3
                    cases bk with
                    | true =>
                      go_wp2_with fail
                      go_roundw
                      case rel =>
                        refine ⟨k + 1, by omega, by go_num, HB3.out, ?_⟩
                        rw [List.take_succ_eq_append_getElem hlt, List.all_append, HALL.out]
                        simp [hbk.out]
                      case measure => simp [intOf]; omega
                    | false =>
                      go_wp2_with fail
                      go_ret
                      refine ⟨?_, HB2.out.trans (HB3.out.mono HB2.out.size)⟩
                      have hno : x.ks.all (formE d) = false := by
                        cases h : x.ks.all (formE d) with
                        | false => rfl
                        | true =>
                          have := List.all_eq_true.1 h x.ks[k] (List.getElem_mem hlt)
                          rw [hbk.out] at this; cases this
                      rw [HR.out, hno]; rfl
                  · have hlt' : ¬ (k : Int) < (x.ks.length : Int) := by omega
                    have hyes : x.ks.all (formE d) = true := by
                      have := HALL.out
                      rwa [List.take_of_length_le (by omega)] at this
                    have HY := Lib.hid hyes
                    clear hyes
                    go_wp2_with fail
                    go_ret
                    exact ⟨by rw [HR.out, HY.out]; rfl, HB2.out.trans (HBel.out.mono HB2.out.size)⟩
          | false =>
            obtain ⟨n1, n2⟩ := bool_toList.2 hm
            have n3 : (x.nm.toList != []) = true := by simpa using n2
            by_cases hop : x.op = 2
            · have b5 : (x.op == 2) = true := by simpa using hop
              have hx0 : x.n = 0 := by apply Decidable.byContradiction; intro h2; exact hA ⟨by omega, h2⟩
              have hz : x.ks = [] := by
                rw [hop] at hke
                exact List.eq_nil_of_length_eq_zero (by have : kidsOf 2 = 0 := rfl; omega)
              have hl0 : x.ks.length = 0 := by rw [hz]; rfl
              have HR : Hid (formE (d + 1) x = isName (bl x.nm)) := Lib.hid (by
                rw [hres]; unfold headE; rw [if_neg (by omega), if_pos hop, hx0, hz]; simp)
              have b1 : (x.op != 1) = true := by simp; omega
              have b2 : (x.n != 0) = false := by simp; omega
              have hkb3 : (kidsOf x.op != 0) = false := by rw [hl0] at hkb2; exact hkb2
              rw [hl0] at HBOX ⊢
              clear hres hA hke hop hm hx0 hz bb HK1 IH hl0 hkb2 hc1
              obtain ⟨bn, hbn⟩ : ∃ bn, Hid (isName (bl x.nm) = bn) := ⟨_, Lib.hid rfl⟩
              go_enter Try.func63, Try.ntmps63
              go_wp2_with fail
              refine cut_world (fun W => Below w.heap.size w W ∧ W.cell? ⟨w.heap.size, 0, none⟩ = some (.int .i64 x.op) ∧ W.cell? ⟨w.heap.size, 1, none⟩ = some (.int .i64 x.n) ∧ W.cell? ⟨w.heap.size, 2, none⟩ = some (.string x.nm) ∧ W.cell? ⟨w.heap.size, 3, none⟩ = some (.slice a 0 cap)) ⟨HBOX.out, by simp [go_sem], by simp [go_sem], by simp [go_sem], by simp [go_sem]⟩ ?_
              rintro W1 ⟨hbw, hc0', hc1', hc2', hc3'⟩
              have hc0 : W1.drew.cell? ⟨w.heap.size, 0, none⟩ = some (.int .i64 x.op) := hc0'
              have hc1 : W1.drew.cell? ⟨w.heap.size, 1, none⟩ = some (.int .i64 x.n) := hc1'
              have hc2 : W1.drew.cell? ⟨w.heap.size, 2, none⟩ = some (.string x.nm) := hc2'
              have hc3 : W1.drew.cell? ⟨w.heap.size, 3, none⟩ = some (.slice a 0 cap) := hc3'
              have HB2 := Lib.hid hbw.drew
              clear hc0' hc1' hc2' hc3' hbw HBOX
              refine wp_region_still_tail 38 (by kernel_rfl) (by kernel_rfl) ?_
              generalize hW2 : ({ W1 with drawn := W1.drawn + 1 } : World) = W2
              have hdw : W1.drew = W2 := hW2
              rw [hdw] at hc0 hc1 hc2 hc3 HB2
              clear hdw hW2
              simp only [List.take_succ_cons, List.take_zero, List.drop_succ_cons, List.drop_zero]
              repeat still_step
              still_call ((arity_any x.op _).mono fun e w' h => ⟨h.1, h.2.symm⟩)
              repeat still_step
              refine wpStill_nil ?_
              go_wp2_with fail
              refine (rname_any _ _ hnm).mono ?_
              rintro e w3 ⟨rfl, hb3⟩
              rw [hbn.out]
              have hc33 := cell_next hb3 hc3
              have HB3 := Lib.hid (HB2.out.trans (hb3.mono HB2.out.size))
              clear hb3
              cases bn with
              | false =>
                go_wp2_with fail
                go_ret
                exact ⟨by rw [HR.out, hbn.out]; rfl, HB3.out⟩
              | true =>
                go_wp2_with fail
                go_loopw [49] (fun i wr => i = .int .i64 0 ∧ wr = w3) (fun _ _ => 0)
                case atStart => exact ⟨rfl, rfl⟩
                case round =>
                  obtain ⟨rfl, rfl⟩ := hrel
                  go_wp2_with fail
                  go_ret
                  exact ⟨by rw [HR.out, hbn.out]; rfl, HB3.out⟩
            · have b5 : (x.op == 2) = false := by simpa using hop
              have HR : Hid (formE (d + 1) x = false) := Lib.hid (by
                rw [hres]; unfold headE
                by_cases h : x.op = 1
                · rw [if_pos h, hm]; simp
                · rw [if_neg h, if_neg hop, hm]; simp)
              clear hres hA hke hop hm
              rcases bb with b1 | ⟨b1, b2⟩
              · go_enter Try.func63, Try.ntmps63
                go_wp2_with fail
                go_quiet ((go_at_call 95; exact Calls.quiet_of_same ((arity_any _ _).mono fun e w' h => ⟨h.1, h.2.symm⟩)))
                go_wp2_with fail
                go_ret
                exact ⟨by rw [HR.out]; rfl, below_drewN HBOX.out nq⟩
              · go_enter Try.func63, Try.ntmps63
                go_wp2_with fail
                go_quiet ((go_at_call 95; exact Calls.quiet_of_same ((arity_any _ _).mono fun e w' h => ⟨h.1, h.2.symm⟩)))
                go_wp2_with fail
                go_ret
                exact ⟨by rw [HR.out]; rfl, below_drewN HBOX.out nq⟩
end Go.Proofs.Ytnbclbphggmenaa.Tr
