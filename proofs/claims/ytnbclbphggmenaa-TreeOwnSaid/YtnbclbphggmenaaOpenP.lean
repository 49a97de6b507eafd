/- What is read of an argument that is a program: it lies in memory. Conditions: none. -/
import Derived.Test.YtnbclbphggmenaaBTr
import Derived.Test.YtnbclbphggmenaaBSt
namespace Go.Proofs.Ytnbclbphggmenaa.Tr
open Go.RowKit Go.Proofs.Ytnbclbphggmenaa.Lx Go.Proofs.Ytnbclbphggmenaa.Wd Go.ChangeShapes Go.WideShapes Go.Deep
set_option linter.unusedSimpArgs false
theorem StC.le {C : Cs} {d e : Nat} {v : Value} {l : List St} (h : StC C d v l) (hde : d ≤ e) : StC C e v l := by
  induction hde with
  | refl => exact h
  | step _ ih => exact ih.up
theorem ArAt.le {C : Cs} {d e : Nat} {g o : Nat} {a : Ar} (h : ArAt C d g o a) (hde : d ≤ e) : ArAt C e g o a := by
  obtain ⟨h1, h2, h3, kv, h4, h5, h6, h7, h8, h9⟩ := h
  exact ⟨h1, h2, h3, kv, h4, h5, h6, h7, h8, h9.le hde⟩
theorem StAt.le {C : Cs} {d e d2 e2 : Nat} {g o : Nat} {s : St} (h : StAt C d (StC C d2) g o s) (hde : d ≤ e) (h2 : d2 ≤ e2) : StAt C e (StC C e2) g o s := by
  obtain ⟨lv, av, tv, ev, h0, h1, h2', h3, h4, ⟨kv, x0, x1, x2, x3, x4, x5⟩, h9, h10, h11, h12, i1, i2, i3, i4, i5, i6, i7, i8⟩ := h
  exact ⟨lv, av, tv, ev, h0, h1, h2', h3, h4, ⟨kv, x0, x1, x2, x3, x4, x5.le hde⟩, h9, h10, h11, h12, i1, i2, i3, i4, i5, SlAt.imp i6 (fun _ _ _ _ q => q.le hde), i7.le h2, i8.le h2⟩
theorem PcAt.le {C : Cs} {d e : Nat} {g o : Nat} {p : Pc} (h : PcAt C d g o p) (hde : d ≤ e) : PcAt C e g o p := by
  obtain ⟨pv, vv, bv, fv, h0, h1, h2, h3, h4, h5, h6, h7, h8, h9⟩ := h
  exact ⟨pv, vv, bv, fv, h0, h1, h2, h3, h4, h5, h6, h7, h8.le hde, h9⟩
section
variable {H : Type} {enc : TypeId × Value → H} {w : World} {base : Nat} {spare : Nat → Bool} {held : Bool}
def Lies (w : World) (n : Nat) (cs : List Value) (g o : Nat) : Prop := ∀ j, j < n → w.cell? ⟨g, o + j, none⟩ = cs[j]?
set_option maxRecDepth 100000 in
theorem open_arC (fuel : Nat) (cs : List Value) (x : DataW H × List MemPlace) (h : DataW.trod enc Try.prog w base spare held fuel 80 cs = some x) : ∃ a : Ar, ∀ g o, Lies w 6 cs g o → ArAt (cw w) fuel g o a := by
  obtain ⟨xs, n, hn, _, hl, hlen, hf⟩ := DataW.trod_struct Try.underlying80 h
  subst hn
  rw [show Try.prog.cellsOf 80 = 6 by kernel_rfl] at hl
  have hxs : xs.length = 3 := hlen
  match cs, hl with
  | [v0, v1, v2, v3, v4, v5], _ =>
    have g0 : DataW.trod enc Try.prog w base spare held n 4 (([v0, v1, v2, v3, v4, v5].drop 0).take (Try.prog.cellsOf 4)) = xs[0]? := hf 0 _ rfl
    rw [List.getElem?_eq_getElem (by omega), show Try.prog.cellsOf 4 = 1 by kernel_rfl] at g0
    simp only [List.drop_zero, List.drop_succ_cons, List.take_succ_cons, List.take_zero] at g0
    have g1 : DataW.trod enc Try.prog w base spare held n 9 (([v0, v1, v2, v3, v4, v5].drop 1).take (Try.prog.cellsOf 9)) = xs[1]? := hf 1 _ rfl
    rw [List.getElem?_eq_getElem (by omega), show Try.prog.cellsOf 9 = 1 by kernel_rfl] at g1
    simp only [List.drop_zero, List.drop_succ_cons, List.take_succ_cons, List.take_zero] at g1
    have g2 : DataW.trod enc Try.prog w base spare held n 24 (([v0, v1, v2, v3, v4, v5].drop 2).take (Try.prog.cellsOf 24)) = xs[2]? := hf 2 _ rfl
    rw [List.getElem?_eq_getElem (by omega), show Try.prog.cellsOf 24 = 4 by kernel_rfl] at g2
    simp only [List.drop_zero, List.drop_succ_cons, List.take_succ_cons, List.take_zero] at g2
    obtain ⟨b, h0, _⟩ := DataW.trod_bool Try.underlying4 g0
    obtain ⟨s, h1, _, w1⟩ := DataW.trod_string Try.underlying9 g1
    obtain ⟨e, kv, h2, hok, hk⟩ := open_exC n _ _ g2
    cases h0; cases h1; cases h2
    exact ⟨.mk b s e, fun g o hat => ⟨hat 0 (by omega), hat 1 (by omega), w1, _, hat 2 (by omega), hat 3 (by omega), hat 4 (by omega), hat 5 (by omega), hok, hk.le (by omega)⟩⟩
set_option maxRecDepth 100000 in
theorem open_paC (fuel : Nat) (cs : List Value) (x : DataW H × List MemPlace) (h : DataW.trod enc Try.prog w base spare held fuel 78 cs = some x) : ∃ a : Pa, ∀ g o, Lies w 2 cs g o → PaAt (cw w) g o a := by
  obtain ⟨xs, n, hn, _, hl, hlen, hf⟩ := DataW.trod_struct Try.underlying78 h
  subst hn
  rw [show Try.prog.cellsOf 78 = 2 by kernel_rfl] at hl
  have hxs : xs.length = 2 := hlen
  match cs, hl with
  | [v0, v1], _ =>
    have g0 : DataW.trod enc Try.prog w base spare held n 9 (([v0, v1].drop 0).take (Try.prog.cellsOf 9)) = xs[0]? := hf 0 _ rfl
    rw [List.getElem?_eq_getElem (by omega), show Try.prog.cellsOf 9 = 1 by kernel_rfl] at g0
    simp only [List.drop_zero, List.drop_succ_cons, List.take_succ_cons, List.take_zero] at g0
    have g1 : DataW.trod enc Try.prog w base spare held n 4 (([v0, v1].drop 1).take (Try.prog.cellsOf 4)) = xs[1]? := hf 1 _ rfl
    rw [List.getElem?_eq_getElem (by omega), show Try.prog.cellsOf 4 = 1 by kernel_rfl] at g1
    simp only [List.drop_zero, List.drop_succ_cons, List.take_succ_cons, List.take_zero] at g1
    obtain ⟨s, h0, _, w0⟩ := DataW.trod_string Try.underlying9 g0
    obtain ⟨b, h1, _⟩ := DataW.trod_bool Try.underlying4 g1
    cases h0; cases h1
    exact ⟨⟨s, b⟩, fun g o hat => ⟨hat 0 (by omega), hat 1 (by omega), w0⟩⟩
set_option maxRecDepth 100000 in
set_option maxHeartbeats 4000000 in
theorem open_stC : ∀ (fuel : Nat) (cs : List Value) (x : DataW H × List MemPlace), DataW.trod enc Try.prog w base spare held fuel 53 cs = some x → ∃ s : St, ∀ g o, Lies w 13 cs g o → StAt (cw w) fuel (StC (cw w) fuel) g o s := by
  intro fuel
  induction fuel using Nat.strongRecOn with
  | ind fuel ih =>
    intro cs x h
    obtain ⟨xs, n, hn, _, hl, hlen, hf⟩ := DataW.trod_struct Try.underlying53 h
    subst hn
    rw [show Try.prog.cellsOf 53 = 13 by kernel_rfl] at hl
    have hxs : xs.length = 10 := hlen
    match cs, hl with
    | [v0, v1, v2, v3, v4, v5, v6, v7, v8, v9, v10, v11, v12], _ =>
      have g0 : DataW.trod enc Try.prog w base spare held n 3 (([v0, v1, v2, v3, v4, v5, v6, v7, v8, v9, v10, v11, v12].drop 0).take (Try.prog.cellsOf 3)) = xs[0]? := hf 0 _ rfl
      rw [List.getElem?_eq_getElem (by omega), show Try.prog.cellsOf 3 = 1 by kernel_rfl] at g0
      simp only [List.drop_zero, List.drop_succ_cons, List.take_succ_cons, List.take_zero] at g0
      have g1 : DataW.trod enc Try.prog w base spare held n 3 (([v0, v1, v2, v3, v4, v5, v6, v7, v8, v9, v10, v11, v12].drop 1).take (Try.prog.cellsOf 3)) = xs[1]? := hf 1 _ rfl
      rw [List.getElem?_eq_getElem (by omega), show Try.prog.cellsOf 3 = 1 by kernel_rfl] at g1
      simp only [List.drop_zero, List.drop_succ_cons, List.take_succ_cons, List.take_zero] at g1
      have g2 : DataW.trod enc Try.prog w base spare held n 25 (([v0, v1, v2, v3, v4, v5, v6, v7, v8, v9, v10, v11, v12].drop 2).take (Try.prog.cellsOf 25)) = xs[2]? := hf 2 _ rfl
      rw [List.getElem?_eq_getElem (by omega), show Try.prog.cellsOf 25 = 1 by kernel_rfl] at g2
      simp only [List.drop_zero, List.drop_succ_cons, List.take_succ_cons, List.take_zero] at g2
      have g3 : DataW.trod enc Try.prog w base spare held n 9 (([v0, v1, v2, v3, v4, v5, v6, v7, v8, v9, v10, v11, v12].drop 3).take (Try.prog.cellsOf 9)) = xs[3]? := hf 3 _ rfl
      rw [List.getElem?_eq_getElem (by omega), show Try.prog.cellsOf 9 = 1 by kernel_rfl] at g3
      simp only [List.drop_zero, List.drop_succ_cons, List.take_succ_cons, List.take_zero] at g3
      have g4 : DataW.trod enc Try.prog w base spare held n 9 (([v0, v1, v2, v3, v4, v5, v6, v7, v8, v9, v10, v11, v12].drop 4).take (Try.prog.cellsOf 9)) = xs[4]? := hf 4 _ rfl
      rw [List.getElem?_eq_getElem (by omega), show Try.prog.cellsOf 9 = 1 by kernel_rfl] at g4
      simp only [List.drop_zero, List.drop_succ_cons, List.take_succ_cons, List.take_zero] at g4
      have g5 : DataW.trod enc Try.prog w base spare held n 24 (([v0, v1, v2, v3, v4, v5, v6, v7, v8, v9, v10, v11, v12].drop 5).take (Try.prog.cellsOf 24)) = xs[5]? := hf 5 _ rfl
      rw [List.getElem?_eq_getElem (by omega), show Try.prog.cellsOf 24 = 4 by kernel_rfl] at g5
      simp only [List.drop_zero, List.drop_succ_cons, List.take_succ_cons, List.take_zero] at g5
      have g6 : DataW.trod enc Try.prog w base spare held n 4 (([v0, v1, v2, v3, v4, v5, v6, v7, v8, v9, v10, v11, v12].drop 9).take (Try.prog.cellsOf 4)) = xs[6]? := hf 6 _ rfl
      rw [List.getElem?_eq_getElem (by omega), show Try.prog.cellsOf 4 = 1 by kernel_rfl] at g6
      simp only [List.drop_zero, List.drop_succ_cons, List.take_succ_cons, List.take_zero] at g6
      have g7 : DataW.trod enc Try.prog w base spare held n 50 (([v0, v1, v2, v3, v4, v5, v6, v7, v8, v9, v10, v11, v12].drop 10).take (Try.prog.cellsOf 50)) = xs[7]? := hf 7 _ rfl
      rw [List.getElem?_eq_getElem (by omega), show Try.prog.cellsOf 50 = 1 by kernel_rfl] at g7
      simp only [List.drop_zero, List.drop_succ_cons, List.take_succ_cons, List.take_zero] at g7
      have g8 : DataW.trod enc Try.prog w base spare held n 51 (([v0, v1, v2, v3, v4, v5, v6, v7, v8, v9, v10, v11, v12].drop 11).take (Try.prog.cellsOf 51)) = xs[8]? := hf 8 _ rfl
      rw [List.getElem?_eq_getElem (by omega), show Try.prog.cellsOf 51 = 1 by kernel_rfl] at g8
      simp only [List.drop_zero, List.drop_succ_cons, List.take_succ_cons, List.take_zero] at g8
      have g9 : DataW.trod enc Try.prog w base spare held n 51 (([v0, v1, v2, v3, v4, v5, v6, v7, v8, v9, v10, v11, v12].drop 12).take (Try.prog.cellsOf 51)) = xs[9]? := hf 9 _ rfl
      rw [List.getElem?_eq_getElem (by omega), show Try.prog.cellsOf 51 = 1 by kernel_rfl] at g9
      simp only [List.drop_zero, List.drop_succ_cons, List.take_succ_cons, List.take_zero] at g9
      obtain ⟨i0, h0, _, w0⟩ := DataW.trod_int Try.underlying3 g0
      obtain ⟨i1, h1, _, w1⟩ := DataW.trod_int Try.underlying3 g1
      obtain ⟨u2, l2, h2, w2⟩ := open_strC g2
      obtain ⟨s3, h3, _, w3⟩ := DataW.trod_string Try.underlying9 g3
      obtain ⟨s4, h4, _, w4⟩ := DataW.trod_string Try.underlying9 g4
      obtain ⟨e5, kv, h5, hok, hk⟩ := open_exC n _ _ g5
      obtain ⟨b6, h6, _⟩ := DataW.trod_bool Try.underlying4 g6
      obtain ⟨u7, l7, h7, w7⟩ := open_sl (size := 6) (P := ArAt (cw w) n) Try.underlying50 (by kernel_rfl) (by omega) g7 fun n' cs' y hn' hy hcl g o hat => by
        obtain ⟨a, ha⟩ := open_arC n' cs' y hy
        exact ⟨a, (ha g o hat).le (by omega)⟩
      obtain ⟨u8, l8, h8, w8⟩ := open_sl (size := 13) (P := StAt (cw w) n (StC (cw w) n)) Try.underlying51 (by kernel_rfl) (by omega) g8 fun n' cs' y hn' hy hcl g o hat => by
        obtain ⟨a, ha⟩ := ih n' (by omega) cs' y hy
        exact ⟨a, (ha g o hat).le (by omega) (by omega)⟩
      obtain ⟨u9, l9, h9, w9⟩ := open_sl (size := 13) (P := StAt (cw w) n (StC (cw w) n)) Try.underlying51 (by kernel_rfl) (by omega) g9 fun n' cs' y hn' hy hcl g o hat => by
        obtain ⟨a, ha⟩ := ih n' (by omega) cs' y hy
        exact ⟨a, (ha g o hat).le (by omega) (by omega)⟩
      cases h0; cases h1; cases h2; cases h3; cases h4; cases h5; cases h6; cases h7; cases h8; cases h9
      exact ⟨.mk i0 i1 l2 s3 s4 e5 b6 l7 l8 l9, fun g o hat => ⟨_, _, _, _, hat 0 (by omega), hat 1 (by omega), hat 2 (by omega), hat 3 (by omega), hat 4 (by omega), ⟨_, hat 5 (by omega), hat 6 (by omega), hat 7 (by omega), hat 8 (by omega), hok, hk.le (by omega)⟩,
        hat 9 (by omega), hat 10 (by omega), hat 11 (by omega), hat 12 (by omega), wf_in w0, wf_in w1, w3, w4, w2, SlAt.imp w7 (fun _ _ _ _ q => q.le (by omega)), w8, w9⟩⟩
set_option maxRecDepth 100000 in
set_option maxHeartbeats 4000000 in
theorem open_pcC (fuel : Nat) (cs : List Value) (x : DataW H × List MemPlace) (h : DataW.trod enc Try.prog w base spare held fuel 58 cs = some x) : ∃ p : Pc, ∀ g o, Lies w 5 cs g o → PcAt (cw w) fuel g o p := by
  obtain ⟨xs, n, hn, _, hl, hlen, hf⟩ := DataW.trod_struct Try.underlying58 h
  subst hn
  rw [show Try.prog.cellsOf 58 = 5 by kernel_rfl] at hl
  have hxs : xs.length = 5 := hlen
  match cs, hl with
  | [v0, v1, v2, v3, v4], _ =>
    have g0 : DataW.trod enc Try.prog w base spare held n 9 (([v0, v1, v2, v3, v4].drop 0).take (Try.prog.cellsOf 9)) = xs[0]? := hf 0 _ rfl
    rw [List.getElem?_eq_getElem (by omega), show Try.prog.cellsOf 9 = 1 by kernel_rfl] at g0
    simp only [List.drop_zero, List.drop_succ_cons, List.take_succ_cons, List.take_zero] at g0
    have g1 : DataW.trod enc Try.prog w base spare held n 56 (([v0, v1, v2, v3, v4].drop 1).take (Try.prog.cellsOf 56)) = xs[1]? := hf 1 _ rfl
    rw [List.getElem?_eq_getElem (by omega), show Try.prog.cellsOf 56 = 1 by kernel_rfl] at g1
    simp only [List.drop_zero, List.drop_succ_cons, List.take_succ_cons, List.take_zero] at g1
    have g2 : DataW.trod enc Try.prog w base spare held n 25 (([v0, v1, v2, v3, v4].drop 2).take (Try.prog.cellsOf 25)) = xs[2]? := hf 2 _ rfl
    rw [List.getElem?_eq_getElem (by omega), show Try.prog.cellsOf 25 = 1 by kernel_rfl] at g2
    simp only [List.drop_zero, List.drop_succ_cons, List.take_succ_cons, List.take_zero] at g2
    have g3 : DataW.trod enc Try.prog w base spare held n 51 (([v0, v1, v2, v3, v4].drop 3).take (Try.prog.cellsOf 51)) = xs[3]? := hf 3 _ rfl
    rw [List.getElem?_eq_getElem (by omega), show Try.prog.cellsOf 51 = 1 by kernel_rfl] at g3
    simp only [List.drop_zero, List.drop_succ_cons, List.take_succ_cons, List.take_zero] at g3
    have g4 : DataW.trod enc Try.prog w base spare held n 25 (([v0, v1, v2, v3, v4].drop 4).take (Try.prog.cellsOf 25)) = xs[4]? := hf 4 _ rfl
    rw [List.getElem?_eq_getElem (by omega), show Try.prog.cellsOf 25 = 1 by kernel_rfl] at g4
    simp only [List.drop_zero, List.drop_succ_cons, List.take_succ_cons, List.take_zero] at g4
    obtain ⟨s0, h0, _, w0⟩ := DataW.trod_string Try.underlying9 g0
    obtain ⟨u1, l1, h1, w1⟩ := open_sl (size := 2) (P := PaAt (cw w)) Try.underlying56 (by kernel_rfl) (by omega) g1 fun n' cs' y hn' hy hcl g o hat => by
      obtain ⟨a, ha⟩ := open_paC n' cs' y hy
      exact ⟨a, ha g o hat⟩
    obtain ⟨u2, l2, h2, w2⟩ := open_strC g2
    obtain ⟨u3, l3, h3, w3⟩ := open_sl (size := 13) (P := StAt (cw w) n (StC (cw w) n)) Try.underlying51 (by kernel_rfl) (by omega) g3 fun n' cs' y hn' hy hcl g o hat => by
      obtain ⟨a, ha⟩ := open_stC n' cs' y hy
      exact ⟨a, (ha g o hat).le (by omega) (by omega)⟩
    obtain ⟨u4, l4, h4, w4⟩ := open_strC g4
    cases h0; cases h1; cases h2; cases h3; cases h4
    exact ⟨⟨s0, l1, l2, l3, l4⟩, fun g o hat => ⟨_, _, _, _, hat 0 (by omega), hat 1 (by omega), hat 2 (by omega), hat 3 (by omega), hat 4 (by omega), w0, w1, w2, w3, w4⟩⟩
set_option maxRecDepth 100000 in
/-- A program that was handed in. -/
theorem open_prog {r : Reach} {b0 : Nat} {v : Value} {dd : DataW H} {p : List MemPlace} (hv : Value.okWide Try.prog w r b0 46 v) (h : DataW.Trod enc Try.prog w base spare held 46 v dd p) :
    ∃ d q gv pv, v = .agg #[gv, pv] ∧ PrC (cw w) d gv pv q := by
  obtain ⟨cs, rfl, hsz⟩ := okWide_struct Try.underlying46 hv
  obtain ⟨fuel, h⟩ := h
  obtain ⟨cs⟩ := cs
  change DataW.trod enc Try.prog w base spare held fuel 46 cs = _ at h
  obtain ⟨xs, n, hn, _, hl, hlen, hf⟩ := DataW.trod_struct Try.underlying46 h
  subst hn
  rw [show Try.prog.cellsOf 46 = 2 by kernel_rfl] at hl
  have hxs : xs.length = 2 := hlen
  match cs, hl with
  | [v0, v1], _ =>
    have g0 : DataW.trod enc Try.prog w base spare held n 25 (([v0, v1].drop 0).take (Try.prog.cellsOf 25)) = xs[0]? := hf 0 _ rfl
    rw [List.getElem?_eq_getElem (by omega), show Try.prog.cellsOf 25 = 1 by kernel_rfl] at g0
    simp only [List.drop_zero, List.drop_succ_cons, List.take_succ_cons, List.take_zero] at g0
    have g1 : DataW.trod enc Try.prog w base spare held n 44 (([v0, v1].drop 1).take (Try.prog.cellsOf 44)) = xs[1]? := hf 1 _ rfl
    rw [List.getElem?_eq_getElem (by omega), show Try.prog.cellsOf 44 = 1 by kernel_rfl] at g1
    simp only [List.drop_zero, List.drop_succ_cons, List.take_succ_cons, List.take_zero] at g1
    obtain ⟨u0, l0, h0, w0⟩ := open_strC g0
    obtain ⟨u1, l1, h1, w1⟩ := open_sl (size := 5) (P := PcAt (cw w) n) Try.underlying44 (by kernel_rfl) (by omega) g1 fun n' cs' y hn' hy hcl g o hat => by
      obtain ⟨a, ha⟩ := open_pcC n' cs' y hy
      exact ⟨a, (ha g o hat).le (by omega)⟩
    cases h0; cases h1
    exact ⟨n, ⟨l0, l1⟩, _, _, rfl, w0, w1⟩
end
end Go.Proofs.Ytnbclbphggmenaa.Tr
