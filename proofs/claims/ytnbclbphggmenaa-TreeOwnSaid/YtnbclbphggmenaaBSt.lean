/- Plain: statements counted, found. How rows of statements lie. Conditions: none.
   What tree.count, tree.Count compute. Conditions: the rows lie in memory.
   What tree.find computes: where the first statement of an id stands. Conditions: the rows lie in memory.
   Plain: statements weighed, copied, numbered; a statement, an argument as cells. Conditions: none.
   What slices.Clone makes: a new slice. Conditions: the slice lies in memory, it is not long. -/
import Derived.Test.YtnbclbphggmenaaBSwap
import Derived.IntWalk
import Derived.Deep.QuietTactic
import Derived.BigQuiet
import Derived.Deep.RegionWith
import Derived.Deep.DeepCutAuto
import Derived.Test.YtnbclbphggmenaaBTr
import Derived.Test.YtnbclbphggmenaaBGath
import Derived.Laws.Cover3
section
namespace Go.Proofs.Ytnbclbphggmenaa.Tr
open Go.RowKit Go.Proofs.Ytnbclbphggmenaa.Lx Go.Proofs.Ytnbclbphggmenaa.Wd
mutual
/-- How many statements a row has, with those in them. -/
def cntS : St → Nat
  | .mk _ _ _ _ _ _ _ _ t e => 1 + cntL t + cntL e
def cntL : List St → Nat
  | [] => 0
  | s :: r => cntS s + cntL r
end
theorem cntS_eq (s : St) : cntS s = 1 + cntL s.thn + cntL s.els := by cases s; simp only [cntS, St.thn, St.els]
theorem cntL_cons (s : St) (r : List St) : cntL (s :: r) = cntS s + cntL r := by simp only [cntL]
theorem cntL_append (l m : List St) : cntL (l ++ m) = cntL l + cntL m := by
  induction l with
  | nil => simp [cntL]
  | cons s r ih => rw [List.cons_append, cntL_cons, cntL_cons, ih]; omega
mutual
/-- The first statement of an id. -/
def findS (id : Int) : St → Option St
  | .mk i k ls nm pr x h ar t e => if i = id then some (.mk i k ls nm pr x h ar t e) else match findL id t with
    | some s => some s
    | none => findL id e
def findL (id : Int) : List St → Option St
  | [] => none
  | s :: r => match findS id s with
    | some t => some t
    | none => findL id r
end
theorem findS_eq (id : Int) (s : St) : findS id s = if s.id = id then some s else match findL id s.thn with
    | some t => some t
    | none => findL id s.els := by cases s; simp only [findS, St.id, St.thn, St.els]; rfl
theorem findL_cons (id : Int) (s : St) (r : List St) : findL id (s :: r) = match findS id s with
    | some t => some t
    | none => findL id r := by simp only [findL]
theorem findL_none {id : Int} {l : List St} (h : ∀ k (hk : k < l.length), findS id l[k] = none) : findL id l = none := by
  induction l with
  | nil => simp only [findL]
  | cons s r ih =>
    have h0 : findS id s = none := h 0 (by simp)
    rw [findL_cons, h0]
    exact ih fun k hk => h (k + 1) (by simpa using hk)
theorem findL_at {id : Int} {l : List St} {k : Nat} (hk : k < l.length) {t : St} (ht : findS id l[k] = some t) (h : ∀ j (hj : j < l.length), j < k → findS id l[j] = none) : findL id l = some t := by
  induction l generalizing k with
  | nil => cases hk
  | cons s r ih =>
    cases k with
    | zero =>
      have h0 : findS id s = some t := ht
      rw [findL_cons, h0]
    | succ k =>
      have h0 : findS id s = none := h 0 (by simp) (by omega)
      rw [findL_cons, h0]
      exact ih (k := k) (by simpa using hk) ht fun j hj hjk => h (j + 1) (by simpa using hj) (by omega)
theorem StC.form {C : Cs} {d : Nat} {v : Value} {l : List St} (h : StC C d v l) : ∃ a cap, v = .slice a l.length cap ∧ l.length ≤ cap ∧ cap ≤ 9223372036854775807 := by
  cases d with
  | zero => exact h.elim
  | succ d => exact SlAt.form h
theorem StC.next {w w' : World} {d : Nat} {v : Value} {l : List St} (h : StC (cw w) d v l) (hb : Below w.heap.size w w') : StC (cw w') d v l := StC.mono (cw_next hb) h
theorem wrap_add (a b : Int) : wrap64 (wrap64 a + wrap64 b) = wrap64 (a + b) := by unfold wrap64; omega
theorem wrap_three (a b c : Int) : wrap64 (wrap64 a + wrap64 (wrap64 b + wrap64 c)) = wrap64 (a + b + c) := by unfold wrap64; omega
end Go.Proofs.Ytnbclbphggmenaa.Tr
end
section
namespace Go.Proofs.Ytnbclbphggmenaa.Tr
open Go.RowKit Go.Proofs.Ytnbclbphggmenaa.Lx Go.Proofs.Ytnbclbphggmenaa.Wd
set_option maxHeartbeats 2000000 in
theorem count_any : ∀ (d : Nat) (l : List St) (v : Value) (w : World), StC (cw w) d v l →
    Calls Try.prog 78 #[v] w fun e w' => e = .returned (.int .i64 (wrap64 (cntL l))) ∧ ∃ n, w' = w.drewN n := by
  intro d
  induction d with
  | zero => intro l v w h; exact h.elim
  | succ d ih =>
    intro l v w hl
    have IH := Lib.hid ih
    obtain ⟨a, cap, rfl, hc1, hc2⟩ := hl.form
    have HL := Lib.hid hl
    clear ih hl
    go_enter Try.func78, Try.ntmps78
    go_wp2_with fail
    go_loopw [9, 3] (fun i s wr => ∃ k : Nat, k ≤ l.length ∧ i = .int .i64 k ∧ s = .int .i64 (wrap64 ((l.length : Int) - k + cntL (l.take k))) ∧ ∃ m, wr = w.drewN m) (fun i _ _ => (l.length - intOf i).toNat)
    case atStart =>
      refine ⟨0, by omega, rfl, ?_, 0, rfl⟩
      congr 1
      have : cntL (l.take 0) = 0 := by simp [cntL]
      rw [this]
      unfold wrap64
      omega
    case round =>
      obtain ⟨k, hk, rfl, rfl, m, hm⟩ := hrel
      have HM := Lib.hid hm
      obtain ⟨S, hS⟩ : ∃ S, Hid (((l.length : Int) - k + cntL (l.take k)) = S) := ⟨_, Lib.hid rfl⟩
      rw [hS.out]
      by_cases hlt : k < l.length
      · have hlt' : (k : Int) < (l.length : Int) := by omega
        have h0k : (0 : Int) ≤ (k : Int) := by omega
        have hne : l ≠ [] := by intro h; rw [h] at hlt; simp at hlt
        have hb := below_drewN (Below.refl w.heap.size w) m
        rw [← hm] at hb
        clear hm
        obtain ⟨g, off, cap', hv, _, hcells⟩ := SlAt.cells (HL.out.next hb) hne
        simp only [Value.slice.injEq] at hv
        obtain ⟨rfl, -, rfl⟩ := hv
        obtain ⟨lv, av, tv, ev, q0, q1, q2, q3, q4, q5, q9, q10, q11, q12, i1, i2, i3, i4, i5, i6, ht, he⟩ := hcells k hlt
        obtain ⟨s, hs⟩ : ∃ s, Hid (l[k] = s) := ⟨_, Lib.hid rfl⟩
        rw [hs.out] at ht he
        have c11 : wr.cell? ⟨g, off + k * 13 + 11, none⟩ = some tv := q11
        have c12 : wr.cell? ⟨g, off + k * 13 + 12, none⟩ = some ev := q12
        obtain ⟨ta, tc, rfl, -, -⟩ := ht.form
        obtain ⟨ea, ec, rfl, -, -⟩ := he.form
        have HT := Lib.hid ht
        have HE := Lib.hid he
        clear hcells q0 q1 q2 q3 q4 q5 q9 q10 q11 q12 i1 i2 i3 i4 i5 i6 ht he hne hb
        go_wp2_with fail
        go_quiet (first
          | (go_at_call_of 78 (Value.slice ta s.thn.length tc); refine Calls.quiet_of (IH.out s.thn _ _ ?_); exact HT.out.next (below_drewN (Below.refl _ _) _))
          | (go_at_call_of 78 (Value.slice ea s.els.length ec); refine Calls.quiet_of (IH.out s.els _ _ ?_); exact HE.out.next (below_drewN (Below.refl _ _) _)))
        have hw : ∃ q, wr.drewN nq = w.drewN q := ⟨m + nq, by rw [HM.out, World.drewN_drewN]⟩
        have HW := Lib.hid hw
        clear hw
        rw [wrap_three]
        go_wp2_with fail
        go_roundw
        case rel =>
          refine ⟨k + 1, by omega, by go_num, ?_, HW.out⟩
          congr 2
          rw [List.take_succ_eq_append_getElem hlt, cntL_append, hs.out, ← hS.out, cntL_cons, cntS_eq]
          have : cntL ([] : List St) = 0 := by simp [cntL]
          rw [this]
          omega
        case measure => simp [intOf]; omega
      · have hlt' : ¬ (k : Int) < (l.length : Int) := by omega
        have e : S = cntL l := by rw [← hS.out, List.take_of_length_le (by omega)]; omega
        have HE := Lib.hid e
        clear hm e
        go_wp2_with fail
        go_ret
        rw [HE.out]
        exact ⟨rfl, m, HM.out⟩
set_option maxHeartbeats 2000000 in
/-- How many statements a program has. -/
theorem countP_any (d : Nat) (p : Pr) (gv pv : Value) (w : World) (hp : PrC (cw w) d gv pv p) :
    Calls Try.prog 41 #[.agg #[gv, pv]] w fun e w' => e = .returned (.int .i64 (wrap64 (p.procs.map fun f => cntL f.body).sum)) ∧ Below w.heap.size w w' := by
  obtain ⟨ga, gc, rfl, -, -⟩ := hp.1.form
  obtain ⟨pa, pc, rfl, hc1, hc2⟩ := hp.2.form
  have hbox := boxed w (.cells #[.slice ga p.globals.length gc, .slice pa p.procs.length pc] 46)
  have HB := Lib.hid hbox
  have HP := Lib.hid (PrC.mono (cw_next hbox) hp)
  clear hbox hp
  go_enter Try.func41, Try.ntmps41
  go_wp2_with fail
  go_loopw [9, 3] (fun i n wr => ∃ k : Nat, k ≤ p.procs.length ∧ i = .int .i64 k ∧ n = .int .i64 (wrap64 (((p.procs.take k).map fun f => cntL f.body).sum : Nat)) ∧ Below w.heap.size w wr ∧ w.heap.size + 1 ≤ wr.heap.size ∧ PrC (cw wr) d (.slice ga p.globals.length gc) (.slice pa p.procs.length pc) p) (fun i _ _ => (p.procs.length - intOf i).toNat)
  case atStart => exact ⟨0, by omega, rfl, by simp [wrap64], HB.out, by simp, HP.out⟩
  case round =>
    obtain ⟨k, hk, rfl, rfl, hbel, hsz, hpr⟩ := hrel
    have HBEL := Lib.hid hbel
    have HPR := Lib.hid hpr
    obtain ⟨S, hS⟩ : ∃ S : Nat, Hid ((((p.procs.take k).map fun f => cntL f.body).sum) = S) := ⟨_, Lib.hid rfl⟩
    rw [hS.out]
    by_cases hlt : k < p.procs.length
    · have hlt' : (k : Int) < (p.procs.length : Int) := by omega
      have h0k : (0 : Int) ≤ (k : Int) := by omega
      have hne : p.procs ≠ [] := by intro h; rw [h] at hlt; simp at hlt
      obtain ⟨g, off, cap', hv, _, hcells⟩ := SlAt.cells hpr.2 hne
      simp only [Value.slice.injEq] at hv
      obtain ⟨rfl, -, rfl⟩ := hv
      obtain ⟨qv, vv, bv, fv, q0, q1, q2, q3, q4, q5, q6, q7, q8, q9⟩ := hcells k hlt
      obtain ⟨f, hf⟩ : ∃ f, Hid (p.procs[k] = f) := ⟨_, Lib.hid rfl⟩
      rw [hf.out] at q0 q6 q7 q8 q9
      obtain ⟨a1, c1, rfl, -, -⟩ := q6.form
      obtain ⟨a2, c2, rfl, -, -⟩ := q7.form
      obtain ⟨a3, c3, rfl, -, -⟩ := q8.form
      obtain ⟨a4, c4, rfl, -, -⟩ := q9.form
      have e0 : wr.cell? ⟨g, off + k * 5, none⟩ = _ := q0
      have e1 : wr.cell? ⟨g, off + k * 5 + 1, none⟩ = _ := q1
      have e2 : wr.cell? ⟨g, off + k * 5 + 2, none⟩ = _ := q2
      have e3 : wr.cell? ⟨g, off + k * 5 + 3, none⟩ = _ := q3
      have e4 : wr.cell? ⟨g, off + k * 5 + 4, none⟩ = _ := q4
      have HBODY := Lib.hid q8
      clear hcells q0 q1 q2 q3 q4 q5 q6 q7 q8 q9 hne hpr hbel
      have hkb := boxed wr (.cells #[.string f.nm, .slice a1 f.params.length c1, .slice a2 f.vars.length c2, .slice a3 f.body.length c3, .slice a4 f.fin.length c4] 58)
      have HKB := Lib.hid hkb
      clear hkb
      go_wp2_with fail
      refine (count_any d f.body _ _ (HBODY.out.next HKB.out)).mono ?_
      rintro e w3 ⟨rfl, n3, hw3⟩
      have hb3 : Below wr.heap.size wr w3 := by rw [hw3]; exact below_drewN HKB.out n3
      have hz3 := hb3.size
      have HB3 := Lib.hid hb3
      clear hb3 hw3
      go_wp2_with fail
      go_roundw
      case rel =>
        refine ⟨k + 1, by omega, by go_num, ?_, HBEL.out.trans (HB3.out.mono HBEL.out.size), by omega, PrC.mono (cw_next HB3.out) HPR.out⟩
        rw [wrap_add, List.take_succ_eq_append_getElem hlt, List.map_append, List.sum_append, hS.out, hf.out]
        simp
      case measure => simp [intOf]; omega
    · have hlt' : ¬ (k : Int) < (p.procs.length : Int) := by omega
      have e : S = (p.procs.map fun f => cntL f.body).sum := by rw [← hS.out, List.take_of_length_le (by omega)]
      have HE := Lib.hid e
      clear e hpr hbel
      go_wp2_with fail
      go_ret
      rw [← HE.out]
      exact ⟨rfl, HBEL.out⟩
end Go.Proofs.Ytnbclbphggmenaa.Tr
end
section
namespace Go.Proofs.Ytnbclbphggmenaa.Tr
open Go.RowKit Go.Proofs.Ytnbclbphggmenaa.Lx Go.Proofs.Ytnbclbphggmenaa.Wd
theorem ExAt.up {C : Cs} {d g o : Nat} {x : Ex} (h : ExAt C (ExC C d) g o x) : ExAt C (ExC C (d + 1)) g o x := ExAt.mono (fun _ _ _ q => q) (fun _ _ q => q.up) h
theorem StAt.up {C : Cs} {d : Nat} {P Q : Value → List St → Prop} (hpq : ∀ v l, P v l → Q v l) {g o : Nat} {s : St} (hs : StAt C d P g o s) : StAt C (d + 1) Q g o s := by
  obtain ⟨lv, av, tv, ev, h0, h1, h2, h3, h4, h5, h9, h10, h11, h12, i1, i2, i3, i4, i5, i6, i7, i8⟩ := hs
  exact ⟨lv, av, tv, ev, h0, h1, h2, h3, h4, h5.up, h9, h10, h11, h12, i1, i2, i3, i4, i5, SlAt.imp i6 (fun _ _ _ _ q => ⟨q.1, q.2.1, q.2.2.1, q.2.2.2.up⟩), hpq _ _ i7, hpq _ _ i8⟩
theorem StC.up {C : Cs} : ∀ {d : Nat} {v : Value} {l : List St}, StC C d v l → StC C (d + 1) v l := by
  intro d
  induction d with
  | zero => intro v l h; exact h.elim
  | succ d ih => intro v l h; exact SlAt.imp h fun _ _ _ _ q => q.up fun _ _ => ih
/-- What find tells. -/
def FoundAt (w : World) (d : Nat) (r : Option St) (v : Value) : Prop := match r with
  | none => v = .pointer none
  | some s => ∃ g o, v = .pointer (some ⟨g, o, none⟩) ∧ StAt (cw w) d (StC (cw w) d) g o s
theorem FoundAt.up {w : World} {d : Nat} {r : Option St} {v : Value} (h : FoundAt w d r v) : FoundAt w (d + 1) r v := by
  cases r with
  | none => exact h
  | some s =>
    obtain ⟨g, o, h1, h2⟩ := h
    exact ⟨g, o, h1, h2.up fun _ _ => StC.up⟩
set_option maxHeartbeats 2000000 in
theorem find_any (id : Int) (w : World) : ∀ (d : Nat) (l : List St) (v : Value), StC (cw w) d v l →
    Calls Try.prog 74 #[v, .int .i64 id] w fun e w' => (∃ p, e = .returned p ∧ FoundAt w d (findL id l) p) ∧ w = w' := by
  intro d
  induction d with
  | zero => intro l v h; exact h.elim
  | succ d ih =>
    intro l v hl
    have IH := Lib.hid ih
    obtain ⟨a, cap, rfl, hc1, hc2⟩ := hl.form
    have HL := Lib.hid hl
    clear ih hl
    go_enter Try.func74, Try.ntmps74
    go_wp2_with fail
    go_loop [10] (fun i => ∃ k : Nat, k ≤ l.length ∧ i = .int .i64 k ∧ ∀ j (hj : j < l.length), j < k → findS id l[j] = none) (fun i => (l.length - intOf i).toNat)
    case atStart => exact ⟨0, by omega, rfl, fun j _ h => absurd h (by omega)⟩
    case round =>
      obtain ⟨k, hk, rfl, hno⟩ := hrel
      have HNO := Lib.hid hno
      clear hno
      by_cases hlt : k < l.length
      · have hlt' : (k : Int) < (l.length : Int) := by omega
        have h0k : (0 : Int) ≤ (k : Int) := by omega
        have hne : l ≠ [] := by intro h; rw [h] at hlt; simp at hlt
        obtain ⟨g, off, cap', hv, _, hcells⟩ := SlAt.cells HL.out hne
        simp only [Value.slice.injEq] at hv
        obtain ⟨rfl, -, rfl⟩ := hv
        have hst := hcells k hlt
        have HST := Lib.hid hst
        obtain ⟨lv, av, tv, ev, q0, q1, q2, q3, q4, q5, q9, q10, q11, q12, i1, i2, i3, i4, i5, i6, ht, he⟩ := hst
        obtain ⟨s, hs⟩ : ∃ s, Hid (l[k] = s) := ⟨_, Lib.hid rfl⟩
        rw [hs.out] at ht he q0
        have c0 : w.cell? ⟨g, off + k * 13, none⟩ = some (.int .i64 s.id) := q0
        have c11 : w.cell? ⟨g, off + k * 13 + 11, none⟩ = some tv := q11
        have c12 : w.cell? ⟨g, off + k * 13 + 12, none⟩ = some ev := q12
        obtain ⟨ta, tc, rfl, -, -⟩ := ht.form
        obtain ⟨ea, ec, rfl, -, -⟩ := he.form
        have HT := Lib.hid ht
        have HE := Lib.hid he
        clear hcells q0 q1 q2 q3 q4 q5 q9 q10 q11 q12 i1 i2 i3 i4 i5 i6 ht he hne
        have hlast := fun j (hj : j < l.length) (h : j < k) => HNO.out j hj h
        have HLAST := Lib.hid hlast
        clear hlast
        by_cases hid : s.id = id
        · have b1 : (s.id == id) = true := by simpa using hid
          have hf : findL id l = some s := findL_at hlt (by rw [hs.out, findS_eq, if_pos hid]) HLAST.out
          have HF := Lib.hid hf
          clear hf hid
          go_wp2_with fail
          go_ret
          refine ⟨⟨_, rfl, ?_⟩, rfl⟩
          rw [HF.out]
          refine ⟨g, _, rfl, ?_⟩
          have := HST.out
          rw [hs.out] at this
          exact this.up fun _ _ => StC.up
        · have b1 : (s.id == id) = false := by simpa using hid
          cases hft : findL id s.thn with
          | some t =>
            have hf : findL id l = some t := findL_at hlt (by rw [hs.out, findS_eq, if_neg hid, hft]) HLAST.out
            have HF := Lib.hid hf
            have HFT := Lib.hid hft
            clear hf hid hft
            go_wp2_with fail
            refine (IH.out s.thn _ HT.out).mono ?_
            rintro e w' ⟨⟨p, rfl, hfa⟩, rfl⟩
            rw [HFT.out] at hfa
            have HFA := Lib.hid hfa.up
            obtain ⟨g2, o2, rfl, -⟩ := hfa
            go_wp2_with fail
            go_ret
            refine ⟨⟨_, rfl, ?_⟩, rfl⟩
            rw [HF.out]
            exact HFA.out
          | none =>
            cases hfe : findL id s.els with
            | some t =>
              have hf : findL id l = some t := findL_at hlt (by rw [hs.out, findS_eq, if_neg hid, hft]; exact hfe) HLAST.out
              have HF := Lib.hid hf
              have HFT := Lib.hid hft
              have HFE := Lib.hid hfe
              clear hf hid hft hfe
              go_wp2_with fail
              refine (IH.out s.thn _ HT.out).mono ?_
              rintro e w' ⟨⟨p, rfl, hfa⟩, rfl⟩
              rw [HFT.out] at hfa
              have hfa' : p = .pointer none := hfa
              subst hfa'
              clear hfa
              go_wp2_with fail
              refine (IH.out s.els _ HE.out).mono ?_
              rintro e w' ⟨⟨p, rfl, hfa⟩, rfl⟩
              rw [HFE.out] at hfa
              have HFA := Lib.hid hfa.up
              obtain ⟨g2, o2, rfl, -⟩ := hfa
              go_wp2_with fail
              go_ret
              refine ⟨⟨_, rfl, ?_⟩, rfl⟩
              rw [HF.out]
              exact HFA.out
            | none =>
              have hf : findS id s = none := by rw [findS_eq, if_neg hid, hft]; exact hfe
              have HF := Lib.hid hf
              have HFT := Lib.hid hft
              have HFE := Lib.hid hfe
              clear hf hid hft hfe
              go_wp2_with fail
              refine (IH.out s.thn _ HT.out).mono ?_
              rintro e w' ⟨⟨p, rfl, hfa⟩, rfl⟩
              rw [HFT.out] at hfa
              have hfa' : p = .pointer none := hfa
              subst hfa'
              clear hfa
              go_wp2_with fail
              refine (IH.out s.els _ HE.out).mono ?_
              rintro e w' ⟨⟨p, rfl, hfa⟩, rfl⟩
              rw [HFE.out] at hfa
              have hfa' : p = .pointer none := hfa
              subst hfa'
              clear hfa
              go_wp2_with fail
              go_round
              case rel =>
                refine ⟨k + 1, by omega, by go_num, fun j hj hjk => ?_⟩
                rcases Nat.lt_or_ge j k with h | h
                · exact HLAST.out j hj h
                · obtain rfl : j = k := by omega
                  rw [hs.out]
                  exact HF.out
              case measure => simp [intOf]; omega
      · have hlt' : ¬ (k : Int) < (l.length : Int) := by omega
        go_wp2_with fail
        go_ret
        refine ⟨⟨_, rfl, ?_⟩, rfl⟩
        rw [findL_none fun j hj => HNO.out j hj (by omega)]
        rfl
end Go.Proofs.Ytnbclbphggmenaa.Tr
end
section
namespace Go.Proofs.Ytnbclbphggmenaa.Tr
open Go.RowKit Go.Proofs.Ytnbclbphggmenaa.Lx Go.Proofs.Ytnbclbphggmenaa.Wd
/-- What texts, arguments weigh. -/
def wtTs (l : List ByteArray) : Nat := (l.map fun s => 1 + s.size).sum
def wtAr (a : Ar) : Nat := wt a.x + 1 + a.nm.size
mutual
/-- What statements weigh. -/
def wtS : St → Nat
  | .mk _ _ ls nm pr x _ ar t e => wt x + wtTs ls + (1 + nm.size) + (1 + pr.size) + (ar.map wtAr).sum + wtL t + wtL e
def wtL : List St → Nat
  | [] => 0
  | s :: r => wtS s + wtL r
end
theorem wtS_eq (s : St) : wtS s = wt s.x + wtTs s.labels + (1 + s.nm.size) + (1 + s.proc.size) + (s.args.map wtAr).sum + wtL s.thn + wtL s.els := by cases s; simp only [wtS, St.x, St.labels, St.nm, St.proc, St.args, St.thn, St.els]
theorem wtL_cons (s : St) (r : List St) : wtL (s :: r) = wtS s + wtL r := by simp only [wtL]
theorem wtL_mem {l : List St} {s : St} (h : s ∈ l) : wtS s ≤ wtL l := by
  induction l with
  | nil => cases h
  | cons t r ih =>
    rw [wtL_cons]
    rcases List.mem_cons.1 h with rfl | h
    · omega
    · have := ih h; omega
theorem wtL_len (l : List St) : l.length ≤ wtL l := by
  induction l with
  | nil => simp
  | cons s r ih => rw [wtL_cons, wtS_eq, List.length_cons]; omega
theorem wtTs_len (l : List ByteArray) : l.length ≤ wtTs l := by
  induction l with
  | nil => simp
  | cons s r ih => unfold wtTs at *; rw [List.map_cons, List.sum_cons, List.length_cons]; omega
theorem wtAr_len (l : List Ar) : l.length ≤ (l.map wtAr).sum := by
  induction l with
  | nil => simp
  | cons s r ih => rw [List.map_cons, List.sum_cons, List.length_cons]; unfold wtAr at *; omega
theorem wtAr_mem {l : List Ar} {a : Ar} (h : a ∈ l) : wt a.x ≤ (l.map wtAr).sum := by
  induction l with
  | nil => cases h
  | cons t r ih =>
    rw [List.map_cons, List.sum_cons]
    rcases List.mem_cons.1 h with rfl | h
    · unfold wtAr; omega
    · have := ih h; omega
theorem wts_len (l : List Ex) : l.length ≤ wts l := by
  induction l with
  | nil => simp
  | cons x r ih => simp only [wts, List.length_cons]; rw [wt_eq]; omega
theorem wts_mem {l : List Ex} {x : Ex} (h : x ∈ l) : wt x ≤ wts l := by
  induction l with
  | nil => cases h
  | cons t r ih =>
    simp only [wts]
    rcases List.mem_cons.1 h with rfl | h
    · omega
    · have := ih h; omega
/-- What is light has no long row of kids. -/
theorem lim_of : ∀ (d : Nat) (ks : List Ex), wts ks ≤ 20000 → lim d ks := by
  intro d
  induction d with
  | zero => intro ks _; trivial
  | succ d ih =>
    intro ks h
    refine ⟨Nat.le_trans (wts_len ks) h, fun k hk => ih k.ks ?_⟩
    have := wts_mem hk
    rw [wt_eq] at this
    omega
theorem lim_ex {x : Ex} (h : wt x ≤ 20000) (d : Nat) : lim d x.ks := lim_of d x.ks (by rw [wt_eq] at h; omega)
mutual
/-- A statement anew, numbered from behind some if so. -/
def cpS (b : Bool) (n : Int) : St → St
  | .mk i k ls nm pr x h ar t e => .mk (if b then wrap64 (n + 1) else i) k ls nm pr x h ar (cpL b (n + 1) t) (cpL b (n + 1 + cntL t) e)
def cpL (b : Bool) (n : Int) : List St → List St
  | [] => []
  | s :: r => cpS b n s :: cpL b (n + cntS s) r
end
theorem cpS_eq (b : Bool) (n : Int) (s : St) : cpS b n s = .mk (if b then wrap64 (n + 1) else s.id) s.kind s.labels s.nm s.proc s.x s.has s.args (cpL b (n + 1) s.thn) (cpL b (n + 1 + cntL s.thn) s.els) := by cases s; simp only [cpS, St.id, St.kind, St.labels, St.nm, St.proc, St.x, St.has, St.args, St.thn, St.els]
theorem cpL_cons (b : Bool) (n : Int) (s : St) (r : List St) : cpL b n (s :: r) = cpS b n s :: cpL b (n + cntS s) r := by simp only [cpL]
theorem cpL_append (b : Bool) : ∀ (l m : List St) (n : Int), cpL b n (l ++ m) = cpL b n l ++ cpL b (n + cntL l) m := by
  intro l
  induction l with
  | nil => intro m n; simp [cpL, cntL]
  | cons s r ih =>
    intro m n
    rw [List.cons_append, cpL_cons, cpL_cons, ih, cntL_cons, List.cons_append]
    congr 3
    push_cast
    omega
theorem cpL_len (b : Bool) : ∀ (l : List St) (n : Int), (cpL b n l).length = l.length := by
  intro l
  induction l with
  | nil => intro n; simp [cpL]
  | cons s r ih => intro n; rw [cpL_cons, List.length_cons, List.length_cons, ih]
mutual
theorem cpS_same (n : Int) : ∀ s : St, cpS false n s = s
  | .mk i k ls nm pr x h ar t e => by simp only [cpS, cpL_same (n + 1) t, cpL_same (n + 1 + cntL t) e]; rfl
theorem cpL_same (n : Int) : ∀ l : List St, cpL false n l = l
  | [] => by simp only [cpL]
  | s :: r => by simp only [cpL, cpS_same n s, cpL_same (n + cntS s) r]
end
/-- An argument, a statement as cells. -/
def ArQ (d : Nat) (C : Cs) (c : List Value) (a : Ar) : Prop := ∃ kv, c = [.bool a.ref, .string a.nm, .int .i64 a.x.op, .int .i64 a.x.n, .string a.x.nm, kv] ∧ a.nm.size ≤ 9223372036854775807 ∧ OkE a.x ∧ ExC C d kv a.x.ks
theorem ArQ.mono (d : Nat) : ∀ C D c x, Cs.le C D → ArQ d C c x → ArQ d D c x := fun _ _ _ _ h ⟨kv, h1, h2, h3, h4⟩ => ⟨kv, h1, h2, h3, ExC.mono h h4⟩
theorem ArQ.at_ (d : Nat) : ∀ (C : Cs) (c : List Value) (g o : Nat) (x : Ar), ArQ d C c x → (∀ j u, c[j]? = some u → C g (o + j) u) → ArAt C d g o x := by
  intro C c g o x ⟨kv, h1, h2, h3, h4⟩ h
  subst h1
  exact ⟨h 0 _ rfl, h 1 _ rfl, h2, kv, h 2 _ rfl, h 3 _ rfl, h 4 _ rfl, h 5 _ rfl, h3, h4⟩
def stCells (s : St) (kv lv av tv ev : Value) : List Value := [.int .i64 s.id, .int .i64 s.kind, lv, .string s.nm, .string s.proc, .int .i64 s.x.op, .int .i64 s.x.n, .string s.x.nm, kv, .bool s.has, av, tv, ev]
def StQ (d : Nat) (C : Cs) (c : List Value) (s : St) : Prop := ∃ kv lv av tv ev, c = stCells s kv lv av tv ev ∧ OkE s.x ∧ ExC C d kv s.x.ks ∧ InI s.id ∧ InI s.kind ∧ s.nm.size ≤ 9223372036854775807 ∧ s.proc.size ≤ 9223372036854775807 ∧ StrC C lv s.labels ∧ SlAt 6 (ArAt C d) av s.args ∧ StC C d tv s.thn ∧ StC C d ev s.els
theorem StQ.mono (d : Nat) : ∀ C D c x, Cs.le C D → StQ d C c x → StQ d D c x := fun _ _ _ _ h ⟨kv, lv, av, tv, ev, h1, h2, h3, h4, h5, h6, h7, h8, h9, h10, h11⟩ =>
  ⟨kv, lv, av, tv, ev, h1, h2, ExC.mono h h3, h4, h5, h6, h7, StrC.mono h h8, SlAt.imp h9 (fun _ _ _ _ => ArAt.mono h), StC.mono h h10, StC.mono h h11⟩
theorem StQ.at_ (d : Nat) : ∀ (C : Cs) (c : List Value) (g o : Nat) (x : St), StQ d C c x → (∀ j u, c[j]? = some u → C g (o + j) u) → StAt C d (StC C d) g o x := by
  intro C c g o x ⟨kv, lv, av, tv, ev, h1, h2, h3, h4, h5, h6, h7, h8, h9, h10, h11⟩ h
  subst h1
  exact ⟨lv, av, tv, ev, h 0 _ rfl, h 1 _ rfl, h 2 _ rfl, h 3 _ rfl, h 4 _ rfl, ⟨kv, h 5 _ rfl, h 6 _ rfl, h 7 _ rfl, h 8 _ rfl, h2, h3⟩, h 9 _ rfl, h 10 _ rfl, h 11 _ rfl, h 12 _ rfl, h4, h5, h6, h7, h8, h9, h10, h11⟩
theorem Acc.stC {d B : Nat} {t : TypeId} {w : World} {v : Value} {l : List St} {rows : List (List Value)} (h : Acc (StQ d) B t 13 w v l rows) (hm : l.length ≤ 9223372036854775807) : StC (nwC B w) (d + 1) v l :=
  h.sl (P := fun C g o x => StAt C d (StC C d) g o x) hm (StQ.mono d) fun C c g o x _ _ hq hc => StQ.at_ d C c g o x hq hc
theorem Acc.arC {d B : Nat} {t : TypeId} {w : World} {v : Value} {l : List Ar} {rows : List (List Value)} (h : Acc (ArQ d) B t 6 w v l rows) (hm : l.length ≤ 9223372036854775807) : SlAt 6 (ArAt (nwC B w) d) v l :=
  h.sl (P := fun C g o x => ArAt C d g o x) hm (ArQ.mono d) fun C c g o x _ _ hq hc => ArQ.at_ d C c g o x hq hc
/-- While a row hangs on block Y is grown, all else below B stays. -/
theorem grow_keep {w0 w3 w4 : World} {v v4 : Value} {B Y slot : Nat} (hb : Below w0.heap.size w0 w3) (hg : w3.grownBy w4 v.ownBlock) (ho : ∀ b, b < B → some b ≠ v.ownBlock) :
    Cs.le (only (fun g => g < B ∧ g ≠ Y) (cw w0)) (only (fun g => g < B ∧ g ≠ Y) (cw (w4.setCell ⟨Y, slot, none⟩ v4))) := by
  intro g j u ⟨⟨h1, h2⟩, h3⟩
  have hlt := cell_lt h3
  refine ⟨⟨h1, h2⟩, ?_⟩
  show (w4.setCell ⟨Y, slot, none⟩ v4).cell? ⟨g, j, none⟩ = some u
  rw [World.cell?_setCell_other _ _ _ _ (fun e => h2 (congrArg Addr.block e).symm), hg.cell_far ⟨g, j, none⟩ (Nat.lt_of_lt_of_le hlt hb.size) (ho g h1)]
  exact cell_next hb h3
end Go.Proofs.Ytnbclbphggmenaa.Tr
end
section
namespace Go.Proofs.Ytnbclbphggmenaa.Tr
open Go.RowKit Go.Proofs.Ytnbclbphggmenaa.Lx Go.Proofs.Ytnbclbphggmenaa.Wd
theorem nil_yes (cap : Nat) (w : World) : (binOp .eql 25 (.slice none 0 cap) (.slice none 0 0)).run Try.prog w = .ok (.bool true) w := by
  simp [binOp, run_equal_slice_nil w _ _ _ _ _ Try.underlying25]
theorem nil_no (ad : Addr) (n cap : Nat) (w : World) : (binOp .eql 25 (.slice (some ad) n cap) (.slice none 0 0)).run Try.prog w = .ok (.bool false) w := by
  simp [binOp, run_equal_slice_nil w _ _ _ _ _ Try.underlying25]
/-- What a copier of texts leaves. -/
def TextsCopied (l : List ByteArray) (w : World) (e : Ending) (w' : World) : Prop := ∃ v, e = .returned v ∧ StrC (nwC w.heap.size w') v l ∧ Below w.heap.size w w'
set_option maxHeartbeats 1000000 in
set_option maxRecDepth 100000 in
theorem cloneTexts_any (l : List ByteArray) (v : Value) (w : World) (hl : StrsAt w v l) (hm : l.length ≤ 1000000) : Calls Try.prog 91 #[v] w (TextsCopied l w) := by
  obtain ⟨i0, hi, hz0, hz1, hz2⟩ := info_parts infoStr
  obtain ⟨a, cap, rfl, hc1, hc2⟩ := hl.form
  cases a with
  | none =>
    obtain ⟨-, hz, -⟩ := hl.news
    have h0 : l = [] := List.eq_nil_of_length_eq_zero (hz rfl)
    subst h0
    clear hl hz
    have ny := nil_yes cap
    go_enter Try.func91, Try.ntmps91
    go_wp2_with fail
    go_ret
    exact ⟨_, rfl, SlAt.nil, Below.refl _ _⟩
  | some ad =>
    have HL := Lib.hid hl
    have HALL := Lib.hid hl.all
    clear hl
    have ny := nil_no ad l.length cap
    go_enter Try.func91, Try.ntmps91
    go_wp2_with (at_builtin; refine wpList_append_sl _ rfl (.tmp 5) (.tmp 6) 25 rfl w.heap.size 9 i0 (.string ⟨#[]⟩) 1 16 Try.underlying25 hi hz0 hz1 hz2 rfl (by decide) _ 0 [] rfl ?oa1 (some ad) l.length cap (l.map Value.string) rfl ?oz1 ?ob1 ?oc1 (str_all _) ?od1 ?oe1 ?of1 ?_)
    case oa1 => exact World.ownsRow_lit w #[] 0 (Nat.le_refl _) (by decide) rfl
    case oz1 => intro h; cases h
    case ob1 => rw [List.length_map, Nat.mul_one]
    case oc1 => exact (HL.out.next (boxed w _)).news.2.2
    case od1 => unfold maxLen; omega
    case oe1 => omega
    case of1 => simp
    intro v4 w4 hown4 hg4 hat4
    obtain ⟨la4, lc4, rfl⟩ := ownsForm hown4
    have hb4 : Below w.heap.size w w4 := (boxed w _).grown hg4 (by simp) fun q hq => by have hqq : w.heap.size = q := by { simpa [Value.ownBlock] using hq }; omega
    have HB4 := Lib.hid hb4
    have HOWN4 := Lib.hid hown4
    clear hown4 hg4 hat4 hb4
    go_wp2_with fail
    go_ret
    exact ⟨_, rfl, strs_owned (by simpa using HOWN4.out) (by omega) (by omega) HALL.out, HB4.out⟩
end Go.Proofs.Ytnbclbphggmenaa.Tr
end
