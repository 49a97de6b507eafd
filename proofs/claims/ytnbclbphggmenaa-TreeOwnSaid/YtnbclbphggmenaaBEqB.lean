/- What tree.same, slices.EqualFunc of statements compute. Conditions: the arguments lie in memory.
   What slices.Equal of parameters computes. Conditions: the parameters lie in memory.
   What tree.Eq computes: are two programs the same? Conditions: the programs lie in memory. -/
import Derived.Test.YtnbclbphggmenaaBEqA
import Derived.Test.YtnbclbphggmenaaCopW
import Derived.Laws.StructEq
section
namespace Go.Proofs.Ytnbclbphggmenaa.Tr
open Go.RowKit Go.Proofs.Ytnbclbphggmenaa.Lx Go.Proofs.Ytnbclbphggmenaa.Wd
mutual
/-- Are two statements the same? -/
def eqS : St → St → Bool
  | .mk i k ls nm pr x h ar th el, t => i == t.id && k == t.kind && (nm.toList == t.nm.toList) && (pr.toList == t.proc.toList) && (h == t.has) && eqT ls t.labels && eqE x t.x && eqL eqA ar t.args && eqSs th t.thn && eqSs el t.els
def eqSs : List St → List St → Bool
  | [], [] => true
  | x :: xs, y :: ys => eqS x y && eqSs xs ys
  | [], _ :: _ => false
  | _ :: _, [] => false
end
theorem eqSs_eq : ∀ l m : List St, eqSs l m = eqL eqS l m := by
  intro l
  induction l with
  | nil => intro m; cases m <;> simp only [eqSs, eqL]
  | cons x l ih => intro m; cases m with
    | nil => simp only [eqSs, eqL]
    | cons y m => simp only [eqSs, eqL, ih]
theorem eqS_eq (s t : St) : eqS s t = (s.id == t.id && s.kind == t.kind && (s.nm.toList == t.nm.toList) && (s.proc.toList == t.proc.toList) && (s.has == t.has) && eqT s.labels t.labels && eqE s.x t.x && eqL eqA s.args t.args && eqL eqS s.thn t.thn && eqL eqS s.els t.els) := by
  cases s
  simp only [eqS, St.id, St.kind, St.nm, St.proc, St.has, St.labels, St.x, St.args, St.thn, St.els, eqSs_eq]
/-- What EqualFunc of statements tells, so deep. -/
def EqSts (d : Nat) : Prop := ∀ (l m : List St) (lv mv : Value) (w : World), StC (cw w) d lv l → StC (cw w) d mv m →
    Calls Try.prog 84 #[lv, mv, .func (.func 85) #[] #[]] w fun e w' => e = .returned (.bool (eqL eqS l m)) ∧ Below w.heap.size w w'
/-- What hangs on a statement. -/
structure Hang (d : Nat) (w : World) (s : St) (lv kv av tv ev : Value) : Prop where
  lab : StrC (cw w) lv s.labels
  kid : ExC (cw w) d kv s.x.ks
  arg : SlAt 6 (ArAt (cw w) d) av s.args
  thn : StC (cw w) d tv s.thn
  els : StC (cw w) d ev s.els
theorem Hang.next {d : Nat} {w w' : World} {s : St} {lv kv av tv ev : Value} (h : Hang d w s lv kv av tv ev) (hb : Below w.heap.size w w') : Hang d w' s lv kv av tv ev :=
  ⟨StrC.mono (cw_next hb) h.lab, ExC.mono (cw_next hb) h.kid, SlAt.imp h.arg (fun _ _ _ _ => ArAt.mono (cw_next hb)), h.thn.next hb, h.els.next hb⟩
set_option maxHeartbeats 4000000 in
set_option maxRecDepth 100000 in
theorem same_of (d : Nat) (hE : EqSts d) (s t : St) (la1 aa1 ka1 ta1 ea1 la2 aa2 ka2 ta2 ea2 : Option Addr) (lc1 ac1 kc1 tc1 ec1 lc2 ac2 kc2 tc2 ec2 : Nat) (w : World)
    (hs : Hang d w s (.slice la1 s.labels.length lc1) (.slice ka1 s.x.ks.length kc1) (.slice aa1 s.args.length ac1) (.slice ta1 s.thn.length tc1) (.slice ea1 s.els.length ec1))
    (ht : Hang d w t (.slice la2 t.labels.length lc2) (.slice ka2 t.x.ks.length kc2) (.slice aa2 t.args.length ac2) (.slice ta2 t.thn.length tc2) (.slice ea2 t.els.length ec2)) :
    Calls Try.prog 85 #[.agg #[.int .i64 s.id, .int .i64 s.kind, .slice la1 s.labels.length lc1, .string s.nm, .string s.proc, .int .i64 s.x.op, .int .i64 s.x.n, .string s.x.nm, .slice ka1 s.x.ks.length kc1, .bool s.has, .slice aa1 s.args.length ac1, .slice ta1 s.thn.length tc1, .slice ea1 s.els.length ec1], .agg #[.int .i64 t.id, .int .i64 t.kind, .slice la2 t.labels.length lc2, .string t.nm, .string t.proc, .int .i64 t.x.op, .int .i64 t.x.n, .string t.x.nm, .slice ka2 t.x.ks.length kc2, .bool t.has, .slice aa2 t.args.length ac2, .slice ta2 t.thn.length tc2, .slice ea2 t.els.length ec2]] w fun e w' => e = .returned (.bool (eqS s t)) ∧ Below w.heap.size w w' := by
  have hbox : Below w.heap.size w ((w.alloc (.cells #[.int .i64 s.id, .int .i64 s.kind, .slice la1 s.labels.length lc1, .string s.nm, .string s.proc, .int .i64 s.x.op, .int .i64 s.x.n, .string s.x.nm, .slice ka1 s.x.ks.length kc1, .bool s.has, .slice aa1 s.args.length ac1, .slice ta1 s.thn.length tc1, .slice ea1 s.els.length ec1] 53)).alloc (.cells #[.int .i64 t.id, .int .i64 t.kind, .slice la2 t.labels.length lc2, .string t.nm, .string t.proc, .int .i64 t.x.op, .int .i64 t.x.n, .string t.x.nm, .slice ka2 t.x.ks.length kc2, .bool t.has, .slice aa2 t.args.length ac2, .slice ta2 t.thn.length tc2, .slice ea2 t.els.length ec2] 53)) := (boxed w _).alloc (by simp) _
  have hS : BoxAt ((w.alloc (.cells #[.int .i64 s.id, .int .i64 s.kind, .slice la1 s.labels.length lc1, .string s.nm, .string s.proc, .int .i64 s.x.op, .int .i64 s.x.n, .string s.x.nm, .slice ka1 s.x.ks.length kc1, .bool s.has, .slice aa1 s.args.length ac1, .slice ta1 s.thn.length tc1, .slice ea1 s.els.length ec1] 53)).alloc (.cells #[.int .i64 t.id, .int .i64 t.kind, .slice la2 t.labels.length lc2, .string t.nm, .string t.proc, .int .i64 t.x.op, .int .i64 t.x.n, .string t.x.nm, .slice ka2 t.x.ks.length kc2, .bool t.has, .slice aa2 t.args.length ac2, .slice ta2 t.thn.length tc2, .slice ea2 t.els.length ec2] 53)) w.heap.size (#[.int .i64 s.id, .int .i64 s.kind, .slice la1 s.labels.length lc1, .string s.nm, .string s.proc, .int .i64 s.x.op, .int .i64 s.x.n, .string s.x.nm, .slice ka1 s.x.ks.length kc1, .bool s.has, .slice aa1 s.args.length ac1, .slice ta1 s.thn.length tc1, .slice ea1 s.els.length ec1] : Array Value).toList := (box_new w _ _).next (boxed _ _)
  have hT : BoxAt ((w.alloc (.cells #[.int .i64 s.id, .int .i64 s.kind, .slice la1 s.labels.length lc1, .string s.nm, .string s.proc, .int .i64 s.x.op, .int .i64 s.x.n, .string s.x.nm, .slice ka1 s.x.ks.length kc1, .bool s.has, .slice aa1 s.args.length ac1, .slice ta1 s.thn.length tc1, .slice ea1 s.els.length ec1] 53)).alloc (.cells #[.int .i64 t.id, .int .i64 t.kind, .slice la2 t.labels.length lc2, .string t.nm, .string t.proc, .int .i64 t.x.op, .int .i64 t.x.n, .string t.x.nm, .slice ka2 t.x.ks.length kc2, .bool t.has, .slice aa2 t.args.length ac2, .slice ta2 t.thn.length tc2, .slice ea2 t.els.length ec2] 53)) (w.heap.size + 1) (#[.int .i64 t.id, .int .i64 t.kind, .slice la2 t.labels.length lc2, .string t.nm, .string t.proc, .int .i64 t.x.op, .int .i64 t.x.n, .string t.x.nm, .slice ka2 t.x.ks.length kc2, .bool t.has, .slice aa2 t.args.length ac2, .slice ta2 t.thn.length tc2, .slice ea2 t.els.length ec2] : Array Value).toList := box_two w _ _ _
  have HB := Lib.hid hbox
  have HS := Lib.hid hS
  have HT := Lib.hid hT
  have HHS := Lib.hid (hs.next hbox)
  have HHT := Lib.hid (ht.next hbox)
  have HE := Lib.hid hE
  clear hbox hS hT hs ht hE
  rw [eqS_eq]
  cases h0 : (s.id == t.id) with
  | false =>
    have n0 : (s.id != t.id) = true := by unfold bne; rw [h0]; rfl
    go_enter Try.func85, Try.ntmps85
    go_wp2_with fail
    go_ret
    exact ⟨rfl, HB.out⟩
  | true =>
    have n0 : (s.id != t.id) = false := by unfold bne; rw [h0]; rfl
    cases h1 : (s.kind == t.kind) with
    | false =>
      have n1 : (s.kind != t.kind) = true := by unfold bne; rw [h1]; rfl
      go_enter Try.func85, Try.ntmps85
      go_wp2_with fail
      go_ret
      exact ⟨rfl, HB.out⟩
    | true =>
      have n1 : (s.kind != t.kind) = false := by unfold bne; rw [h1]; rfl
      cases h2 : (s.nm.toList == t.nm.toList) with
      | false =>
        have n2 : (s.nm.toList != t.nm.toList) = true := by unfold bne; rw [h2]; rfl
        go_enter Try.func85, Try.ntmps85
        go_wp2_with fail
        go_ret
        exact ⟨rfl, HB.out⟩
      | true =>
        have n2 : (s.nm.toList != t.nm.toList) = false := by unfold bne; rw [h2]; rfl
        cases h3 : (s.proc.toList == t.proc.toList) with
        | false =>
          have n3 : (s.proc.toList != t.proc.toList) = true := by unfold bne; rw [h3]; rfl
          go_enter Try.func85, Try.ntmps85
          go_wp2_with fail
          go_ret
          exact ⟨rfl, HB.out⟩
        | true =>
          have n3 : (s.proc.toList != t.proc.toList) = false := by unfold bne; rw [h3]; rfl
          cases h4 : (s.has == t.has) with
          | false =>
            have n4 : (s.has != t.has) = true := by unfold bne; rw [h4]; rfl
            go_enter Try.func85, Try.ntmps85
            go_wp2_with fail
            go_ret
            exact ⟨rfl, HB.out⟩
          | true =>
            have n4 : (s.has != t.has) = false := by unfold bne; rw [h4]; rfl
            obtain ⟨c0, hc0⟩ : ∃ c, Hid (eqT s.labels t.labels = c) := ⟨_, Lib.hid rfl⟩
            rw [hc0.out]
            obtain ⟨c1, hc1⟩ : ∃ c, Hid (eqE s.x t.x = c) := ⟨_, Lib.hid rfl⟩
            rw [hc1.out]
            obtain ⟨c2, hc2⟩ : ∃ c, Hid (eqL eqA s.args t.args = c) := ⟨_, Lib.hid rfl⟩
            rw [hc2.out]
            obtain ⟨c3, hc3⟩ : ∃ c, Hid (eqL eqS s.thn t.thn = c) := ⟨_, Lib.hid rfl⟩
            rw [hc3.out]
            obtain ⟨c4, hc4⟩ : ∃ c, Hid (eqL eqS s.els t.els = c) := ⟨_, Lib.hid rfl⟩
            rw [hc4.out]
            go_enter Try.func85, Try.ntmps85
            go_wp2_with fail
            refine (sEqual_any s.labels t.labels _ _ _ (StrC.to HHS.out.lab) (StrC.to HHT.out.lab)).mono ?_
            rintro e w0 ⟨rfl, hb0⟩
            rw [hc0.out]
            have HB := Lib.hid (HB.out.trans (hb0.mono HB.out.size))
            have HS := Lib.hid (HS.out.next hb0)
            have HT := Lib.hid (HT.out.next hb0)
            have HHS := Lib.hid (HHS.out.next hb0)
            have HHT := Lib.hid (HHT.out.next hb0)
            clear hb0
            have s5 := HS.out 5 _ rfl
            have t5 := HT.out 5 _ rfl
            have s6 := HS.out 6 _ rfl
            have t6 := HT.out 6 _ rfl
            have s7 := HS.out 7 _ rfl
            have t7 := HT.out 7 _ rfl
            have s8 := HS.out 8 _ rfl
            have t8 := HT.out 8 _ rfl
            cases c0 with
            | false =>
              go_wp2_with fail
              go_ret
              exact ⟨rfl, HB.out⟩
            | true =>
              go_wp2_with fail
              refine (alike_any d s.x t.x _ _ _ HHS.out.kid.to HHT.out.kid.to).mono ?_
              rintro e w1 ⟨rfl, hb1⟩
              rw [hc1.out]
              have HB := Lib.hid (HB.out.trans (hb1.mono HB.out.size))
              have HS := Lib.hid (HS.out.next hb1)
              have HT := Lib.hid (HT.out.next hb1)
              have HHS := Lib.hid (HHS.out.next hb1)
              have HHT := Lib.hid (HHT.out.next hb1)
              clear hb1
              have s10 := HS.out 10 _ rfl
              have t10 := HT.out 10 _ rfl
              cases c1 with
              | false =>
                go_wp2_with fail
                go_ret
                exact ⟨rfl, HB.out⟩
              | true =>
                go_wp2_with fail
                refine (equalArgs_any d s.args t.args _ _ _ HHS.out.arg HHT.out.arg).mono ?_
                rintro e w2 ⟨rfl, hb2⟩
                rw [hc2.out]
                have HB := Lib.hid (HB.out.trans (hb2.mono HB.out.size))
                have HS := Lib.hid (HS.out.next hb2)
                have HT := Lib.hid (HT.out.next hb2)
                have HHS := Lib.hid (HHS.out.next hb2)
                have HHT := Lib.hid (HHT.out.next hb2)
                clear hb2
                have s11 := HS.out 11 _ rfl
                have t11 := HT.out 11 _ rfl
                cases c2 with
                | false =>
                  go_wp2_with fail
                  go_ret
                  exact ⟨rfl, HB.out⟩
                | true =>
                  go_wp2_with fail
                  refine (HE.out s.thn t.thn _ _ _ HHS.out.thn HHT.out.thn).mono ?_
                  rintro e w3 ⟨rfl, hb3⟩
                  rw [hc3.out]
                  have HB := Lib.hid (HB.out.trans (hb3.mono HB.out.size))
                  have HS := Lib.hid (HS.out.next hb3)
                  have HT := Lib.hid (HT.out.next hb3)
                  have HHS := Lib.hid (HHS.out.next hb3)
                  have HHT := Lib.hid (HHT.out.next hb3)
                  clear hb3
                  have s12 := HS.out 12 _ rfl
                  have t12 := HT.out 12 _ rfl
                  cases c3 with
                  | false =>
                    go_wp2_with fail
                    go_ret
                    exact ⟨rfl, HB.out⟩
                  | true =>
                    go_wp2_with fail
                    refine (HE.out s.els t.els _ _ _ HHS.out.els HHT.out.els).mono ?_
                    rintro e w4 ⟨rfl, hb4⟩
                    rw [hc4.out]
                    have HB := Lib.hid (HB.out.trans (hb4.mono HB.out.size))
                    have HS := Lib.hid (HS.out.next hb4)
                    have HT := Lib.hid (HT.out.next hb4)
                    have HHS := Lib.hid (HHS.out.next hb4)
                    have HHT := Lib.hid (HHT.out.next hb4)
                    clear hb4
                    go_wp2_with fail
                    go_ret
                    exact ⟨rfl, HB.out⟩
set_option maxHeartbeats 4000000 in
set_option maxRecDepth 100000 in
theorem equalStmts_any : ∀ d, EqSts d := by
  intro d
  induction d with
  | zero => intro l m lv mv w h; exact h.elim
  | succ d ih =>
    intro l m lv mv w hl hm
    have HA := Lib.hid (same_of d ih)
    clear ih
    obtain ⟨a, ca, rfl, hc1, hc2⟩ := hl.form
    obtain ⟨b, cb, rfl, hc3, hc4⟩ := hm.form
    have HL := Lib.hid hl
    have HM := Lib.hid hm
    obtain ⟨q, hq⟩ : ∃ q, Hid (eqL eqS l m = q) := ⟨_, Lib.hid rfl⟩
    rw [hq.out]
    clear hl hm
    go_enter Try.func84, Try.ntmps84
    by_cases hlen : l.length = m.length
    · have b1 : ((l.length : Int) != (m.length : Int)) = false := by simp [hlen]
      have HLEN := Lib.hid hlen
      clear hlen
      go_wp2_with fail
      go_loopw [17] (fun i wr => ∃ k : Nat, k ≤ l.length ∧ i = .int .i64 k ∧ Below w.heap.size w wr ∧ ∀ j (h1 : j < l.length) (h2 : j < m.length), j < k → eqS l[j] m[j] = true) (fun i _ => (l.length - intOf i).toNat)
      case atStart => exact ⟨0, by omega, rfl, Below.refl _ _, fun j _ _ h => absurd h (by omega)⟩
      case round =>
        obtain ⟨k, hk, rfl, hbel, hno⟩ := hrel
        have HB := Lib.hid hbel
        have HNO := Lib.hid hno
        clear hno
        by_cases hlt : k < l.length
        · have hlt' : (k : Int) < (l.length : Int) := by omega
          have hlt2 : k < m.length := by have := HLEN.out; omega
          have hlt3 : (k : Int) < (m.length : Int) := by omega
          have h0k : (0 : Int) ≤ (k : Int) := by omega
          have hne : l ≠ [] := by intro h; rw [h] at hlt; simp at hlt
          have hne2 : m ≠ [] := by intro h; rw [h] at hlt2; simp at hlt2
          obtain ⟨g, off, cap', hv, _, hcells⟩ := SlAt.cells (HL.out.next hbel) hne
          simp only [Value.slice.injEq] at hv
          obtain ⟨rfl, -, rfl⟩ := hv
          have hst1 := hcells k hlt
          obtain ⟨g2, off2, cap2, hv, _, hcells2⟩ := SlAt.cells (HM.out.next hbel) hne2
          simp only [Value.slice.injEq] at hv
          obtain ⟨rfl, -, rfl⟩ := hv
          have hst2 := hcells2 k hlt2
          obtain ⟨x, hx⟩ : ∃ x, Hid (l[k] = x) := ⟨_, Lib.hid rfl⟩
          obtain ⟨y, hy⟩ : ∃ y, Hid (m[k] = y) := ⟨_, Lib.hid rfl⟩
          rw [hx.out] at hst1
          rw [hy.out] at hst2
          clear hcells hne hcells2 hne2
          obtain ⟨lv1, av1, tv1, ev1, p0, p1, p2, p3, p4, ⟨kv1, p5, p6, p7, p8, -, hk1⟩, p9, p10, p11, p12, -, -, -, -, hl1, ha1, ht1, he1⟩ := hst1
          obtain ⟨la1, lc1, rfl, -, -⟩ := hl1.form
          obtain ⟨aa1, ac1, rfl, -, -⟩ := ha1.form
          obtain ⟨ta1, tc1, rfl, -, -⟩ := ht1.form
          obtain ⟨ea1, ec1, rfl, -, -⟩ := he1.form
          obtain ⟨ka1, kc1, rfl, -, -⟩ := hk1.form
          have ep0 : wr.cell? ⟨g, off + k * 13, none⟩ = _ := p0
          have ep1 : wr.cell? ⟨g, off + k * 13 + 1, none⟩ = _ := p1
          have ep2 : wr.cell? ⟨g, off + k * 13 + 2, none⟩ = _ := p2
          have ep3 : wr.cell? ⟨g, off + k * 13 + 3, none⟩ = _ := p3
          have ep4 : wr.cell? ⟨g, off + k * 13 + 4, none⟩ = _ := p4
          have ep5 : wr.cell? ⟨g, off + k * 13 + 5, none⟩ = _ := p5
          have ep6 : wr.cell? ⟨g, off + k * 13 + 6, none⟩ = _ := p6
          have ep7 : wr.cell? ⟨g, off + k * 13 + 7, none⟩ = _ := p7
          have ep8 : wr.cell? ⟨g, off + k * 13 + 8, none⟩ = _ := p8
          have ep9 : wr.cell? ⟨g, off + k * 13 + 9, none⟩ = _ := p9
          have ep10 : wr.cell? ⟨g, off + k * 13 + 10, none⟩ = _ := p10
          have ep11 : wr.cell? ⟨g, off + k * 13 + 11, none⟩ = _ := p11
          have ep12 : wr.cell? ⟨g, off + k * 13 + 12, none⟩ = _ := p12
          obtain ⟨lv2, av2, tv2, ev2, r0, r1, r2, r3, r4, ⟨kv2, r5, r6, r7, r8, -, hk2⟩, r9, r10, r11, r12, -, -, -, -, hl2, ha2, ht2, he2⟩ := hst2
          obtain ⟨la2, lc2, rfl, -, -⟩ := hl2.form
          obtain ⟨aa2, ac2, rfl, -, -⟩ := ha2.form
          obtain ⟨ta2, tc2, rfl, -, -⟩ := ht2.form
          obtain ⟨ea2, ec2, rfl, -, -⟩ := he2.form
          obtain ⟨ka2, kc2, rfl, -, -⟩ := hk2.form
          have er0 : wr.cell? ⟨g2, off2 + k * 13, none⟩ = _ := r0
          have er1 : wr.cell? ⟨g2, off2 + k * 13 + 1, none⟩ = _ := r1
          have er2 : wr.cell? ⟨g2, off2 + k * 13 + 2, none⟩ = _ := r2
          have er3 : wr.cell? ⟨g2, off2 + k * 13 + 3, none⟩ = _ := r3
          have er4 : wr.cell? ⟨g2, off2 + k * 13 + 4, none⟩ = _ := r4
          have er5 : wr.cell? ⟨g2, off2 + k * 13 + 5, none⟩ = _ := r5
          have er6 : wr.cell? ⟨g2, off2 + k * 13 + 6, none⟩ = _ := r6
          have er7 : wr.cell? ⟨g2, off2 + k * 13 + 7, none⟩ = _ := r7
          have er8 : wr.cell? ⟨g2, off2 + k * 13 + 8, none⟩ = _ := r8
          have er9 : wr.cell? ⟨g2, off2 + k * 13 + 9, none⟩ = _ := r9
          have er10 : wr.cell? ⟨g2, off2 + k * 13 + 10, none⟩ = _ := r10
          have er11 : wr.cell? ⟨g2, off2 + k * 13 + 11, none⟩ = _ := r11
          have er12 : wr.cell? ⟨g2, off2 + k * 13 + 12, none⟩ = _ := r12
          have hbx : Below wr.heap.size wr ((wr.alloc (.cells #[.int .i64 x.id, .int .i64 x.kind, .slice la1 x.labels.length lc1, .string x.nm, .string x.proc, .int .i64 x.x.op, .int .i64 x.x.n, .string x.x.nm, .slice ka1 x.x.ks.length kc1, .bool x.has, .slice aa1 x.args.length ac1, .slice ta1 x.thn.length tc1, .slice ea1 x.els.length ec1] 53)).alloc (.cells #[.int .i64 y.id, .int .i64 y.kind, .slice la2 y.labels.length lc2, .string y.nm, .string y.proc, .int .i64 y.x.op, .int .i64 y.x.n, .string y.x.nm, .slice ka2 y.x.ks.length kc2, .bool y.has, .slice aa2 y.args.length ac2, .slice ta2 y.thn.length tc2, .slice ea2 y.els.length ec2] 53)) := (boxed wr _).alloc (by simp) _
          have HBX := Lib.hid hbx
          have HHX := Lib.hid (Hang.next (s := x) ⟨hl1, hk1, ha1, ht1, he1⟩ hbx)
          have HHY := Lib.hid (Hang.next (s := y) ⟨hl2, hk2, ha2, ht2, he2⟩ hbx)
          have hzl := cell_lt er0
          clear p0 p1 p2 p3 p4 p5 p6 p7 p8 p9 p10 p11 p12 r0 r1 r2 r3 r4 r5 r6 r7 r8 r9 r10 r11 r12 hl1 hk1 ha1 ht1 he1 hl2 hk2 ha2 ht2 he2
          clear hbel hbx
          obtain ⟨bk, hbk⟩ : ∃ bk, Hid (eqS x y = bk) := ⟨_, Lib.hid rfl⟩
          go_wp2_with fail
          refine (HA.out x y _ _ _ _ _ _ _ _ _ _ _ _ _ _ _ _ _ _ _ _ _ HHX.out HHY.out).mono ?_
          rintro e w' ⟨rfl, hbe⟩
          rw [hbk.out]
          have HB2 := Lib.hid (HB.out.trans ((HBX.out.trans (hbe.mono HBX.out.size)).mono HB.out.size))
          clear hbe
          cases bk with
          | true =>
            go_wp2_with fail
            go_roundw
            case rel =>
              refine ⟨k + 1, by omega, by go_num, HB2.out, fun j h1 h2 hjk => ?_⟩
              rcases Nat.lt_or_ge j k with h | h
              · exact HNO.out j h1 h2 h
              · obtain rfl : j = k := by omega
                rw [hx.out, hy.out]
                exact hbk.out
            case measure => simp [intOf]; omega
          | false =>
            go_wp2_with fail
            go_ret
            have := eqL_at (f := eqS) hlt hlt2 (by rw [hx.out, hy.out]; exact hbk.out)
            rw [hq.out] at this
            rw [this]
            exact ⟨rfl, HB2.out⟩
        · have hlt' : ¬ (k : Int) < (l.length : Int) := by omega
          clear hbel
          go_wp2_with fail
          go_ret
          have := eqL_all (f := eqS) HLEN.out fun j h1 h2 => HNO.out j h1 h2 (by omega)
          rw [hq.out] at this
          rw [this]
          exact ⟨rfl, HB.out⟩
    · have b1 : ((l.length : Int) != (m.length : Int)) = true := by simp; omega
      go_wp2_with fail
      go_ret
      have := eqL_len (f := eqS) hlen
      rw [hq.out] at this
      rw [this]
      exact ⟨rfl, Below.refl _ _⟩
end Go.Proofs.Ytnbclbphggmenaa.Tr
end
section
namespace Go.Proofs.Ytnbclbphggmenaa.Tr
open Go.RowKit Go.Proofs.Ytnbclbphggmenaa.Lx Go.Proofs.Ytnbclbphggmenaa.Wd
def eqPa (a b : Pa) : Bool := (a.nm.toList == b.nm.toList) && (a.ref == b.ref)
set_option maxHeartbeats 1000000 in
theorem pEqual_any (l m : List Pa) (lv mv : Value) (w : World) (hl : SlAt 2 (PaAt (cw w)) lv l) (hm : SlAt 2 (PaAt (cw w)) mv m) :
    Calls Try.prog 83 #[lv, mv] w fun e w' => e = .returned (.bool (eqL eqPa l m)) ∧ Below w.heap.size w w' := by
  obtain ⟨a, ca, rfl, hc1, hc2⟩ := hl.form
  obtain ⟨b, cb, rfl, hc3, hc4⟩ := hm.form
  have HL := Lib.hid hl
  have HM := Lib.hid hm
  obtain ⟨q, hq⟩ : ∃ q, Hid (eqL eqPa l m = q) := ⟨_, Lib.hid rfl⟩
  rw [hq.out]
  clear hl hm
  go_enter Try.func83, Try.ntmps83
  by_cases hlen : l.length = m.length
  · have b1 : ((l.length : Int) != (m.length : Int)) = false := by simp [hlen]
    have HLEN := Lib.hid hlen
    clear hlen
    go_wp2_with fail
    go_loopw [13] (fun i wr => ∃ k : Nat, k ≤ l.length ∧ i = .int .i64 k ∧ Below w.heap.size w wr ∧ ∀ j (h1 : j < l.length) (h2 : j < m.length), j < k → eqPa l[j] m[j] = true) (fun i _ => (l.length - intOf i).toNat)
    case atStart => exact ⟨0, by omega, rfl, Below.refl _ _, fun j _ _ h => absurd h (by omega)⟩
    case round =>
      obtain ⟨k, hk, rfl, hbel, hno⟩ := hrel
      have HB := Lib.hid hbel
      have HNO := Lib.hid hno
      clear hno
      by_cases hlt : k < l.length
      · have hlt' : (k : Int) < (l.length : Int) := by omega
        have hlt2 : k < m.length := by have := HLEN.out; omega
        have hlt3 : (k : Int) < (m.length : Int) := by omega
        have h0k : (0 : Int) ≤ (k : Int) := by omega
        have hne : l ≠ [] := by intro h; rw [h] at hlt; simp at hlt
        have hne2 : m ≠ [] := by intro h; rw [h] at hlt2; simp at hlt2
        obtain ⟨g, off, cap', hv, _, hcells⟩ := SlAt.cells (SlAt.imp HL.out fun _ _ _ _ => PaAt.mono (cw_next hbel)) hne
        simp only [Value.slice.injEq] at hv
        obtain ⟨rfl, -, rfl⟩ := hv
        obtain ⟨p0, p1, -⟩ := hcells k hlt
        obtain ⟨g2, off2, cap2, hv, _, hcells2⟩ := SlAt.cells (SlAt.imp HM.out fun _ _ _ _ => PaAt.mono (cw_next hbel)) hne2
        simp only [Value.slice.injEq] at hv
        obtain ⟨rfl, -, rfl⟩ := hv
        obtain ⟨r0, r1, -⟩ := hcells2 k hlt2
        obtain ⟨x, hx⟩ : ∃ x, Hid (l[k] = x) := ⟨_, Lib.hid rfl⟩
        obtain ⟨y, hy⟩ : ∃ y, Hid (m[k] = y) := ⟨_, Lib.hid rfl⟩
        rw [hx.out] at p0 p1
        rw [hy.out] at r0 r1
        have e0 : wr.cell? ⟨g, off + k * 2, none⟩ = _ := p0
        have e1 : wr.cell? ⟨g, off + k * 2 + 1, none⟩ = _ := p1
        have e2 : wr.cell? ⟨g2, off2 + k * 2, none⟩ = _ := r0
        have e3 : wr.cell? ⟨g2, off2 + k * 2 + 1, none⟩ = _ := r1
        clear hcells hne hcells2 hne2 hbel p0 p1 r0 r1
        cases h1 : (x.nm.toList == y.nm.toList) with
        | false =>
          have HK : Hid (eqPa x y = false) := Lib.hid (by unfold eqPa; rw [h1]; rfl)
          go_wp2_with fail
          go_quiet (fail)
          go_wp2_with fail
          go_ret
          have := eqL_at (f := eqPa) hlt hlt2 (by rw [hx.out, hy.out]; exact HK.out)
          rw [hq.out] at this
          rw [this]
          exact ⟨rfl, below_drewN HB.out nq⟩
        | true =>
          cases h2 : (x.ref == y.ref) with
          | false =>
            have HK : Hid (eqPa x y = false) := Lib.hid (by unfold eqPa; rw [h1, h2]; rfl)
            go_wp2_with fail
            go_quiet (fail)
            go_wp2_with fail
            go_ret
            have := eqL_at (f := eqPa) hlt hlt2 (by rw [hx.out, hy.out]; exact HK.out)
            rw [hq.out] at this
            rw [this]
            exact ⟨rfl, below_drewN HB.out nq⟩
          | true =>
            have HK : Hid (eqPa x y = true) := Lib.hid (by unfold eqPa; rw [h1, h2]; rfl)
            go_wp2_with fail
            go_quiet (fail)
            go_wp2_with fail
            go_roundw
            case rel =>
              refine ⟨k + 1, by omega, by go_num, below_drewN HB.out nq, fun j h1 h2 hjk => ?_⟩
              rcases Nat.lt_or_ge j k with h | h
              · exact HNO.out j h1 h2 h
              · obtain rfl : j = k := by omega
                rw [hx.out, hy.out]
                exact HK.out
            case measure => simp [intOf]; omega
      · have hlt' : ¬ (k : Int) < (l.length : Int) := by omega
        clear hbel
        go_wp2_with fail
        go_ret
        have := eqL_all (f := eqPa) HLEN.out fun j h1 h2 => HNO.out j h1 h2 (by omega)
        rw [hq.out] at this
        rw [this]
        exact ⟨rfl, HB.out⟩
  · have b1 : ((l.length : Int) != (m.length : Int)) = true := by simp; omega
    go_wp2_with fail
    go_ret
    have := eqL_len (f := eqPa) hlen
    rw [hq.out] at this
    rw [this]
    exact ⟨rfl, Below.refl _ _⟩
end Go.Proofs.Ytnbclbphggmenaa.Tr
end
section
namespace Go.Proofs.Ytnbclbphggmenaa.Tr
open Go.RowKit Go.Proofs.Ytnbclbphggmenaa.Lx Go.Proofs.Ytnbclbphggmenaa.Wd
/-- Are two procedures the same? -/
def eqPc (f g : Pc) : Bool := (f.nm.toList == g.nm.toList) && eqL eqPa f.params g.params && eqT f.vars g.vars && eqT f.fin g.fin && eqL eqS f.body g.body
/-- What hangs on a procedure. -/
structure HangP (d : Nat) (w : World) (f : Pc) (qv vv bv fv : Value) : Prop where
  par : SlAt 2 (PaAt (cw w)) qv f.params
  vars : StrC (cw w) vv f.vars
  body : StC (cw w) d bv f.body
  fin : StrC (cw w) fv f.fin
theorem HangP.next {d : Nat} {w w' : World} {f : Pc} {qv vv bv fv : Value} (h : HangP d w f qv vv bv fv) (hb : Below w.heap.size w w') : HangP d w' f qv vv bv fv :=
  ⟨SlAt.imp h.par (fun _ _ _ _ => PaAt.mono (cw_next hb)), StrC.mono (cw_next hb) h.vars, h.body.next hb, StrC.mono (cw_next hb) h.fin⟩
set_option maxHeartbeats 4000000 in
set_option maxRecDepth 100000 in
theorem eq1_any (d : Nat) (s t : Pc) (qa1 va1 ba1 fa1 qa2 va2 ba2 fa2 : Option Addr) (qc1 vc1 bc1 fc1 qc2 vc2 bc2 fc2 : Nat) (w : World)
    (hs : HangP d w s (.slice qa1 s.params.length qc1) (.slice va1 s.vars.length vc1) (.slice ba1 s.body.length bc1) (.slice fa1 s.fin.length fc1))
    (ht : HangP d w t (.slice qa2 t.params.length qc2) (.slice va2 t.vars.length vc2) (.slice ba2 t.body.length bc2) (.slice fa2 t.fin.length fc2)) :
    Calls Try.prog 82 #[.agg #[.string s.nm, .slice qa1 s.params.length qc1, .slice va1 s.vars.length vc1, .slice ba1 s.body.length bc1, .slice fa1 s.fin.length fc1], .agg #[.string t.nm, .slice qa2 t.params.length qc2, .slice va2 t.vars.length vc2, .slice ba2 t.body.length bc2, .slice fa2 t.fin.length fc2]] w fun e w' => e = .returned (.bool (eqPc s t)) ∧ Below w.heap.size w w' := by
  have hbox : Below w.heap.size w ((w.alloc (.cells #[.string s.nm, .slice qa1 s.params.length qc1, .slice va1 s.vars.length vc1, .slice ba1 s.body.length bc1, .slice fa1 s.fin.length fc1] 58)).alloc (.cells #[.string t.nm, .slice qa2 t.params.length qc2, .slice va2 t.vars.length vc2, .slice ba2 t.body.length bc2, .slice fa2 t.fin.length fc2] 58)) := (boxed w _).alloc (by simp) _
  have hS : BoxAt ((w.alloc (.cells #[.string s.nm, .slice qa1 s.params.length qc1, .slice va1 s.vars.length vc1, .slice ba1 s.body.length bc1, .slice fa1 s.fin.length fc1] 58)).alloc (.cells #[.string t.nm, .slice qa2 t.params.length qc2, .slice va2 t.vars.length vc2, .slice ba2 t.body.length bc2, .slice fa2 t.fin.length fc2] 58)) w.heap.size (#[.string s.nm, .slice qa1 s.params.length qc1, .slice va1 s.vars.length vc1, .slice ba1 s.body.length bc1, .slice fa1 s.fin.length fc1] : Array Value).toList := (box_new w _ _).next (boxed _ _)
  have hT : BoxAt ((w.alloc (.cells #[.string s.nm, .slice qa1 s.params.length qc1, .slice va1 s.vars.length vc1, .slice ba1 s.body.length bc1, .slice fa1 s.fin.length fc1] 58)).alloc (.cells #[.string t.nm, .slice qa2 t.params.length qc2, .slice va2 t.vars.length vc2, .slice ba2 t.body.length bc2, .slice fa2 t.fin.length fc2] 58)) (w.heap.size + 1) (#[.string t.nm, .slice qa2 t.params.length qc2, .slice va2 t.vars.length vc2, .slice ba2 t.body.length bc2, .slice fa2 t.fin.length fc2] : Array Value).toList := box_two w _ _ _
  have HB := Lib.hid hbox
  have HS := Lib.hid hS
  have HT := Lib.hid hT
  have HHS := Lib.hid (hs.next hbox)
  have HHT := Lib.hid (ht.next hbox)
  clear hbox hS hT hs ht
  unfold eqPc
  cases h0 : (s.nm.toList == t.nm.toList) with
  | false =>
    go_enter Try.func82, Try.ntmps82
    go_wp2_with fail
    go_ret
    exact ⟨rfl, HB.out⟩
  | true =>
    obtain ⟨c0, hc0⟩ : ∃ c, Hid (eqL eqPa s.params t.params = c) := ⟨_, Lib.hid rfl⟩
    rw [hc0.out]
    obtain ⟨c1, hc1⟩ : ∃ c, Hid (eqT s.vars t.vars = c) := ⟨_, Lib.hid rfl⟩
    rw [hc1.out]
    obtain ⟨c2, hc2⟩ : ∃ c, Hid (eqT s.fin t.fin = c) := ⟨_, Lib.hid rfl⟩
    rw [hc2.out]
    obtain ⟨c3, hc3⟩ : ∃ c, Hid (eqL eqS s.body t.body = c) := ⟨_, Lib.hid rfl⟩
    rw [hc3.out]
    go_enter Try.func82, Try.ntmps82
    go_wp2_with fail
    refine (pEqual_any s.params t.params _ _ _ HHS.out.par HHT.out.par).mono ?_
    rintro e w0 ⟨rfl, hb0⟩
    rw [hc0.out]
    have HB := Lib.hid (HB.out.trans (hb0.mono HB.out.size))
    have HS := Lib.hid (HS.out.next hb0)
    have HT := Lib.hid (HT.out.next hb0)
    have HHS := Lib.hid (HHS.out.next hb0)
    have HHT := Lib.hid (HHT.out.next hb0)
    clear hb0
    have s2 := HS.out 2 _ rfl
    have t2 := HT.out 2 _ rfl
    cases c0 with
    | false =>
      go_wp2_with fail
      go_ret
      exact ⟨rfl, HB.out⟩
    | true =>
      go_wp2_with fail
      refine (sEqual_any s.vars t.vars _ _ _ (StrC.to HHS.out.vars) (StrC.to HHT.out.vars)).mono ?_
      rintro e w1 ⟨rfl, hb1⟩
      rw [hc1.out]
      have HB := Lib.hid (HB.out.trans (hb1.mono HB.out.size))
      have HS := Lib.hid (HS.out.next hb1)
      have HT := Lib.hid (HT.out.next hb1)
      have HHS := Lib.hid (HHS.out.next hb1)
      have HHT := Lib.hid (HHT.out.next hb1)
      clear hb1
      have s4 := HS.out 4 _ rfl
      have t4 := HT.out 4 _ rfl
      cases c1 with
      | false =>
        go_wp2_with fail
        go_ret
        exact ⟨rfl, HB.out⟩
      | true =>
        go_wp2_with fail
        refine (sEqual_any s.fin t.fin _ _ _ (StrC.to HHS.out.fin) (StrC.to HHT.out.fin)).mono ?_
        rintro e w2 ⟨rfl, hb2⟩
        rw [hc2.out]
        have HB := Lib.hid (HB.out.trans (hb2.mono HB.out.size))
        have HS := Lib.hid (HS.out.next hb2)
        have HT := Lib.hid (HT.out.next hb2)
        have HHS := Lib.hid (HHS.out.next hb2)
        have HHT := Lib.hid (HHT.out.next hb2)
        clear hb2
        have s3 := HS.out 3 _ rfl
        have t3 := HT.out 3 _ rfl
        cases c2 with
        | false =>
          go_wp2_with fail
          go_ret
          exact ⟨rfl, HB.out⟩
        | true =>
          go_wp2_with fail
          refine (equalStmts_any d s.body t.body _ _ _ HHS.out.body HHT.out.body).mono ?_
          rintro e w3 ⟨rfl, hb3⟩
          rw [hc3.out]
          have HB := Lib.hid (HB.out.trans (hb3.mono HB.out.size))
          have HS := Lib.hid (HS.out.next hb3)
          have HT := Lib.hid (HT.out.next hb3)
          have HHS := Lib.hid (HHS.out.next hb3)
          have HHT := Lib.hid (HHT.out.next hb3)
          clear hb3
          go_wp2_with fail
          go_ret
          exact ⟨rfl, HB.out⟩
set_option maxHeartbeats 4000000 in
set_option maxRecDepth 100000 in
theorem equalProcs_any (d : Nat) (l m : List Pc) (lv mv : Value) (w : World) (hl : SlAt 5 (PcAt (cw w) d) lv l) (hm : SlAt 5 (PcAt (cw w) d) mv m) :
    Calls Try.prog 81 #[lv, mv, .func (.func 82) #[] #[]] w fun e w' => e = .returned (.bool (eqL eqPc l m)) ∧ Below w.heap.size w w' := by
    obtain ⟨a, ca, rfl, hc1, hc2⟩ := hl.form
    obtain ⟨b, cb, rfl, hc3, hc4⟩ := hm.form
    have HL := Lib.hid hl
    have HM := Lib.hid hm
    obtain ⟨q, hq⟩ : ∃ q, Hid (eqL eqPc l m = q) := ⟨_, Lib.hid rfl⟩
    rw [hq.out]
    clear hl hm
    go_enter Try.func81, Try.ntmps81
    by_cases hlen : l.length = m.length
    · have b1 : ((l.length : Int) != (m.length : Int)) = false := by simp [hlen]
      have HLEN := Lib.hid hlen
      clear hlen
      go_wp2_with fail
      go_loopw [17] (fun i wr => ∃ k : Nat, k ≤ l.length ∧ i = .int .i64 k ∧ Below w.heap.size w wr ∧ ∀ j (h1 : j < l.length) (h2 : j < m.length), j < k → eqPc l[j] m[j] = true) (fun i _ => (l.length - intOf i).toNat)
      case atStart => exact ⟨0, by omega, rfl, Below.refl _ _, fun j _ _ h => absurd h (by omega)⟩
      case round =>
        obtain ⟨k, hk, rfl, hbel, hno⟩ := hrel
        have HB := Lib.hid hbel
        have HNO := Lib.hid hno
        clear hno
        by_cases hlt : k < l.length
        · have hlt' : (k : Int) < (l.length : Int) := by omega
          have hlt2 : k < m.length := by have := HLEN.out; omega
          have hlt3 : (k : Int) < (m.length : Int) := by omega
          have h0k : (0 : Int) ≤ (k : Int) := by omega
          have hne : l ≠ [] := by intro h; rw [h] at hlt; simp at hlt
          have hne2 : m ≠ [] := by intro h; rw [h] at hlt2; simp at hlt2
          obtain ⟨g, off, cap', hv, _, hcells⟩ := SlAt.cells (SlAt.imp HL.out fun _ _ _ _ => PcAt.mono (cw_next hbel)) hne
          simp only [Value.slice.injEq] at hv
          obtain ⟨rfl, -, rfl⟩ := hv
          have hst1 := hcells k hlt
          obtain ⟨g2, off2, cap2, hv, _, hcells2⟩ := SlAt.cells (SlAt.imp HM.out fun _ _ _ _ => PcAt.mono (cw_next hbel)) hne2
          simp only [Value.slice.injEq] at hv
          obtain ⟨rfl, -, rfl⟩ := hv
          have hst2 := hcells2 k hlt2
          obtain ⟨x, hx⟩ : ∃ x, Hid (l[k] = x) := ⟨_, Lib.hid rfl⟩
          obtain ⟨y, hy⟩ : ∃ y, Hid (m[k] = y) := ⟨_, Lib.hid rfl⟩
          rw [hx.out] at hst1
          rw [hy.out] at hst2
          clear hcells hne hcells2 hne2
          obtain ⟨qv1, vv1, bv1, fv1, p0, p1, p2, p3, p4, -, hq1, hv1, hb1, hf1⟩ := hst1
          obtain ⟨qa1, qc1, rfl, -, -⟩ := hq1.form
          obtain ⟨va1, vc1, rfl, -, -⟩ := hv1.form
          obtain ⟨ba1, bc1, rfl, -, -⟩ := hb1.form
          obtain ⟨fa1, fc1, rfl, -, -⟩ := hf1.form
          have ep0 : wr.cell? ⟨g, off + k * 5, none⟩ = _ := p0
          have ep1 : wr.cell? ⟨g, off + k * 5 + 1, none⟩ = _ := p1
          have ep2 : wr.cell? ⟨g, off + k * 5 + 2, none⟩ = _ := p2
          have ep3 : wr.cell? ⟨g, off + k * 5 + 3, none⟩ = _ := p3
          have ep4 : wr.cell? ⟨g, off + k * 5 + 4, none⟩ = _ := p4
          obtain ⟨qv2, vv2, bv2, fv2, r0, r1, r2, r3, r4, -, hq2, hv2, hb2, hf2⟩ := hst2
          obtain ⟨qa2, qc2, rfl, -, -⟩ := hq2.form
          obtain ⟨va2, vc2, rfl, -, -⟩ := hv2.form
          obtain ⟨ba2, bc2, rfl, -, -⟩ := hb2.form
          obtain ⟨fa2, fc2, rfl, -, -⟩ := hf2.form
          have er0 : wr.cell? ⟨g2, off2 + k * 5, none⟩ = _ := r0
          have er1 : wr.cell? ⟨g2, off2 + k * 5 + 1, none⟩ = _ := r1
          have er2 : wr.cell? ⟨g2, off2 + k * 5 + 2, none⟩ = _ := r2
          have er3 : wr.cell? ⟨g2, off2 + k * 5 + 3, none⟩ = _ := r3
          have er4 : wr.cell? ⟨g2, off2 + k * 5 + 4, none⟩ = _ := r4
          have hbx : Below wr.heap.size wr ((wr.alloc (.cells #[.string x.nm, .slice qa1 x.params.length qc1, .slice va1 x.vars.length vc1, .slice ba1 x.body.length bc1, .slice fa1 x.fin.length fc1] 58)).alloc (.cells #[.string y.nm, .slice qa2 y.params.length qc2, .slice va2 y.vars.length vc2, .slice ba2 y.body.length bc2, .slice fa2 y.fin.length fc2] 58)) := (boxed wr _).alloc (by simp) _
          have HBX := Lib.hid hbx
          have HHX := Lib.hid (HangP.next (f := x) ⟨hq1, hv1, hb1, hf1⟩ hbx)
          have HHY := Lib.hid (HangP.next (f := y) ⟨hq2, hv2, hb2, hf2⟩ hbx)
          have hzl := cell_lt er0
          clear p0 p1 p2 p3 p4 r0 r1 r2 r3 r4 hq1 hv1 hb1 hf1 hq2 hv2 hb2 hf2
          clear hbel hbx
          obtain ⟨bk, hbk⟩ : ∃ bk, Hid (eqPc x y = bk) := ⟨_, Lib.hid rfl⟩
          go_wp2_with fail
          refine (eq1_any d x y _ _ _ _ _ _ _ _ _ _ _ _ _ _ _ _ _ HHX.out HHY.out).mono ?_
          rintro e w' ⟨rfl, hbe⟩
          rw [hbk.out]
          have HB2 := Lib.hid (HB.out.trans ((HBX.out.trans (hbe.mono HBX.out.size)).mono HB.out.size))
          clear hbe
          cases bk with
          | true =>
            go_wp2_with fail
            go_roundw
            case rel =>
              refine ⟨k + 1, by omega, by go_num, HB2.out, fun j h1 h2 hjk => ?_⟩
              rcases Nat.lt_or_ge j k with h | h
              · exact HNO.out j h1 h2 h
              · obtain rfl : j = k := by omega
                rw [hx.out, hy.out]
                exact hbk.out
            case measure => simp [intOf]; omega
          | false =>
            go_wp2_with fail
            go_ret
            have := eqL_at (f := eqPc) hlt hlt2 (by rw [hx.out, hy.out]; exact hbk.out)
            rw [hq.out] at this
            rw [this]
            exact ⟨rfl, HB2.out⟩
        · have hlt' : ¬ (k : Int) < (l.length : Int) := by omega
          clear hbel
          go_wp2_with fail
          go_ret
          have := eqL_all (f := eqPc) HLEN.out fun j h1 h2 => HNO.out j h1 h2 (by omega)
          rw [hq.out] at this
          rw [this]
          exact ⟨rfl, HB.out⟩
    · have b1 : ((l.length : Int) != (m.length : Int)) = true := by simp; omega
      go_wp2_with fail
      go_ret
      have := eqL_len (f := eqPc) hlen
      rw [hq.out] at this
      rw [this]
      exact ⟨rfl, Below.refl _ _⟩
/-- Are two programs the same? -/
def eqPr (p q : Pr) : Bool := eqT p.globals q.globals && eqL eqPc p.procs q.procs
set_option maxHeartbeats 1000000 in
theorem eqPr_any (d : Nat) (p q : Pr) (gp pp gq pq : Value) (w : World) (hp : PrC (cw w) d gp pp p) (hq : PrC (cw w) d gq pq q) :
    Calls Try.prog 45 #[.agg #[gp, pp], .agg #[gq, pq]] w fun e w' => e = .returned (.bool (eqPr p q)) ∧ Below w.heap.size w w' := by
  obtain ⟨ga, gc, rfl, -, -⟩ := hp.1.form
  obtain ⟨pa, pc, rfl, -, -⟩ := hp.2.form
  obtain ⟨ga2, gc2, rfl, -, -⟩ := hq.1.form
  obtain ⟨pa2, pc2, rfl, -, -⟩ := hq.2.form
  have hbox : Below w.heap.size w ((w.alloc (.cells #[.slice ga p.globals.length gc, .slice pa p.procs.length pc] 46)).alloc (.cells #[.slice ga2 q.globals.length gc2, .slice pa2 q.procs.length pc2] 46)) := (boxed w _).alloc (by simp) _
  have hS : BoxAt ((w.alloc (.cells #[.slice ga p.globals.length gc, .slice pa p.procs.length pc] 46)).alloc (.cells #[.slice ga2 q.globals.length gc2, .slice pa2 q.procs.length pc2] 46)) w.heap.size (#[.slice ga p.globals.length gc, .slice pa p.procs.length pc] : Array Value).toList := (box_new w _ _).next (boxed _ _)
  have hT : BoxAt ((w.alloc (.cells #[.slice ga p.globals.length gc, .slice pa p.procs.length pc] 46)).alloc (.cells #[.slice ga2 q.globals.length gc2, .slice pa2 q.procs.length pc2] 46)) (w.heap.size + 1) (#[.slice ga2 q.globals.length gc2, .slice pa2 q.procs.length pc2] : Array Value).toList := box_two w _ _ _
  have HB := Lib.hid hbox
  have HS := Lib.hid hS
  have HT := Lib.hid hT
  have HP := Lib.hid (PrC.mono (cw_next hbox) hp)
  have HQ := Lib.hid (PrC.mono (cw_next hbox) hq)
  clear hbox hS hT hp hq
  unfold eqPr
  obtain ⟨c0, hc0⟩ : ∃ c, Hid (eqT p.globals q.globals = c) := ⟨_, Lib.hid rfl⟩
  obtain ⟨c1, hc1⟩ : ∃ c, Hid (eqL eqPc p.procs q.procs = c) := ⟨_, Lib.hid rfl⟩
  rw [hc0.out, hc1.out]
  go_enter Try.func45, Try.ntmps45
  go_wp2_with fail
  refine (sEqual_any p.globals q.globals _ _ _ (StrC.to HP.out.1) (StrC.to HQ.out.1)).mono ?_
  rintro e w1 ⟨rfl, hb⟩
  rw [hc0.out]
  have HB := Lib.hid (HB.out.trans (hb.mono HB.out.size))
  have s1 := HS.out.next hb 1 _ rfl
  have t1 := HT.out.next hb 1 _ rfl
  have HP := Lib.hid (PrC.mono (cw_next hb) HP.out)
  have HQ := Lib.hid (PrC.mono (cw_next hb) HQ.out)
  clear hb
  cases c0 with
  | false =>
    go_wp2_with fail
    go_ret
    exact ⟨rfl, HB.out⟩
  | true =>
    go_wp2_with fail
    refine (equalProcs_any d p.procs q.procs _ _ _ HP.out.2 HQ.out.2).mono ?_
    rintro e w2 ⟨rfl, hb⟩
    rw [hc1.out]
    have HB := Lib.hid (HB.out.trans (hb.mono HB.out.size))
    clear hb
    go_wp2_with fail
    go_ret
    exact ⟨rfl, HB.out⟩
end Go.Proofs.Ytnbclbphggmenaa.Tr
end
