/- Parts of OpenP, ExprE: walks and plain laws that later texts use. Conditions: as each statement says. -/
import Derived.Test.YtghlmengcidmdaaSa0
import Derived.Test.YtghlmengcidmdaaSa1
import Derived.Test.YtghlmengcidmdaaSa2
import Derived.Test.YtghlmengcidmdaaSa3
import Derived.Test.YtghlmengcidmdaaSa4
import Derived.Test.YtghlmengcidmdaaSa5
import Derived.Test.YtghlmengcidmdaaSa6
import Derived.Test.YtghlmengcidmdaaSa7
import Derived.Test.YtghlmengcidmdaaSa8
import Derived.Test.YtghlmengcidmdaaSa9
import Derived.RegionTactic
import Derived.Deep.QuietTactic
import Derived.BigQuiet
import Derived.Deep.DeepCutAuto
import Derived.Maps.Range
import Derived.Outline
import Derived.Lib.SmallJoins
import Derived.Deep.Upon
import Derived.Maps.AppendAt
import Derived.Laws.OwnMore
import Derived.IntWalk
import Derived.StillTailTactics
import Derived.OwnWalk
import Derived.OneCell
import Derived.Deep.AppendLies
import Derived.Deep.RegionLaw
import Derived.Deep.RegionHeld3
import Derived.Deep.Slices
import Derived.Deep.Fields
import Derived.SliceStrings
import Derived.ChangeSlices
import Derived.Deep.RegionWith
import Derived.Laws.Cover3
import Derived.WalkKit
import Derived.Test.YtghlmengcidmdaaRows
import Derived.WalkSpells
import Derived.Lib.Hide
import Derived.Below
import Derived.WalkSmall
import Derived.Laws.BitsAllLaws
section
/- What is read of an argument that is a program: it lies in memory. Conditions: none. -/
namespace Go.Proofs.Ytghlmengcidmdaa.Tr
open Go.RowKit Go.Proofs.Ytghlmengcidmdaa.Lx Go.Proofs.Ytghlmengcidmdaa.Wd Go.ChangeShapes Go.WideShapes Go.Deep
set_option linter.unusedSimpArgs false
theorem StC.le {C : Cs} {d e : Nat} {v : Value} {l : List St} (h : StC C d v l) (hde : d ≤ e) : StC C e v l := by
  induction hde with
  | refl => exact h
  | step _ ih => exact ih.up
theorem ArAt.le {C : Cs} {d e : Nat} {g o : Nat} {a : Ar} (h : ArAt C d g o a) (hde : d ≤ e) : ArAt C e g o a := by
  obtain ⟨h1, h2, h3, kv, h4, h5, h6, h7, h8, h9⟩ := h
  exact ⟨h1, h2, h3, kv, h4, h5, h6, h7, h8, h9.le hde⟩
theorem StAt.le {C : Cs} {d e d2 e2 : Nat} {g o : Nat} {s : St} (h : StAt C d (StC C d2) g o s) (hde : d ≤ e) (h2 : d2 ≤ e2) : StAt C e (StC C e2) g o s := by
  obtain ⟨lv, av, tv, ev, h0, h1, h2', h3, h4, ⟨kv, x0, x1, x2, x3, x4, x5⟩, h9, h10, h11, h12, i1, i2, i3, i4, i5, i6, i7, i8⟩ := h
  exact ⟨lv, av, tv, ev, h0, h1, h2', h3, h4, ⟨kv, x0, x1, x2, x3, x4, x5.le hde⟩, h9, h10, h11, h12, i1, i2, i3, i4, i5, SlAt.imp i6 (fun _ _ _ _ q => q.le hde), i7.le h2, i8.le h2⟩
theorem PcAt.le {C : Cs} {d e : Nat} {g o : Nat} {p : Pc} (h : PcAt C d g o p) (hde : d ≤ e) : PcAt C e g o p := by
  obtain ⟨pv, vv, bv, fv, h0, h1, h2, h3, h4, h5, h6, h7, h8, h9⟩ := h
  exact ⟨pv, vv, bv, fv, h0, h1, h2, h3, h4, h5, h6, h7, h8.le hde, h9⟩
section
variable {H : Type} {enc : TypeId × Value → H} {w : World} {base : Nat} {spare : Nat → Bool} {held : Bool}
def Lies (w : World) (n : Nat) (cs : List Value) (g o : Nat) : Prop := ∀ j, j < n → w.cell? ⟨g, o + j, none⟩ = cs[j]?
set_option maxRecDepth 100000 in
theorem open_arC (fuel : Nat) (cs : List Value) (x : DataW H × List MemPlace) (h : DataW.trod enc Try.prog w base spare held fuel 49 cs = some x) : ∃ a : Ar, ∀ g o, Lies w 6 cs g o → ArAt (cw w) fuel g o a := by
  obtain ⟨xs, n, hn, _, hl, hlen, hf⟩ := DataW.trod_struct Try.underlying49 h
  subst hn
  rw [show Try.prog.cellsOf 49 = 6 by kernel_rfl] at hl
  have hxs : xs.length = 3 := hlen
  match cs, hl with
  | [v0, v1, v2, v3, v4, v5], _ =>
    have g0 : DataW.trod enc Try.prog w base spare held n 4 (([v0, v1, v2, v3, v4, v5].drop 0).take (Try.prog.cellsOf 4)) = xs[0]? := hf 0 _ rfl
    rw [List.getElem?_eq_getElem (by omega), show Try.prog.cellsOf 4 = 1 by kernel_rfl] at g0
    simp only [List.drop_zero, List.drop_succ_cons, List.take_succ_cons, List.take_zero] at g0
    have g1 : DataW.trod enc Try.prog w base spare held n 9 (([v0, v1, v2, v3, v4, v5].drop 1).take (Try.prog.cellsOf 9)) = xs[1]? := hf 1 _ rfl
    rw [List.getElem?_eq_getElem (by omega), show Try.prog.cellsOf 9 = 1 by kernel_rfl] at g1
    simp only [List.drop_zero, List.drop_succ_cons, List.take_succ_cons, List.take_zero] at g1
    have g2 : DataW.trod enc Try.prog w base spare held n 37 (([v0, v1, v2, v3, v4, v5].drop 2).take (Try.prog.cellsOf 37)) = xs[2]? := hf 2 _ rfl
    rw [List.getElem?_eq_getElem (by omega), show Try.prog.cellsOf 37 = 4 by kernel_rfl] at g2
    simp only [List.drop_zero, List.drop_succ_cons, List.take_succ_cons, List.take_zero] at g2
    obtain ⟨b, h0, _⟩ := DataW.trod_bool Try.underlying4 g0
    obtain ⟨s, h1, _, w1⟩ := DataW.trod_string Try.underlying9 g1
    obtain ⟨e, kv, h2, hok, hk⟩ := open_exC n _ _ g2
    cases h0; cases h1; cases h2
    exact ⟨.mk b s e, fun g o hat => ⟨hat 0 (by omega), hat 1 (by omega), w1, _, hat 2 (by omega), hat 3 (by omega), hat 4 (by omega), hat 5 (by omega), hok, hk.le (by omega)⟩⟩
set_option maxRecDepth 100000 in
theorem open_paC (fuel : Nat) (cs : List Value) (x : DataW H × List MemPlace) (h : DataW.trod enc Try.prog w base spare held fuel 62 cs = some x) : ∃ a : Pa, ∀ g o, Lies w 2 cs g o → PaAt (cw w) g o a := by
  obtain ⟨xs, n, hn, _, hl, hlen, hf⟩ := DataW.trod_struct Try.underlying62 h
  subst hn
  rw [show Try.prog.cellsOf 62 = 2 by kernel_rfl] at hl
  have hxs : xs.length = 2 := hlen
  match cs, hl with
  | [v0, v1], _ =>
    have g0 : DataW.trod enc Try.prog w base spare held n 9 (([v0, v1].drop 0).take (Try.prog.cellsOf 9)) = xs[0]? := hf 0 _ rfl
    rw [List.getElem?_eq_getElem (by omega), show Try.prog.cellsOf 9 = 1 by kernel_rfl] at g0
    simp only [List.drop_zero, List.drop_succ_cons, List.take_succ_cons, List.take_zero] at g0
    have g1 : DataW.trod enc Try.prog w base spare held n 4 (([v0, v1].drop 1).take (Try.prog.cellsOf 4)) = xs[1]? := hf 1 _ rfl
    rw [List.getElem?_eq_getElem (by omega), show Try.prog.cellsOf 4 = 1 by kernel_rfl] at g1
    simp only [List.drop_zero, List.drop_succ_cons, List.take_succ_cons, List.take_zero] at g1
    obtain ⟨s, h0, _, w0⟩ := DataW.trod_string Try.underlying9 g0
    obtain ⟨b, h1, _⟩ := DataW.trod_bool Try.underlying4 g1
    cases h0; cases h1
    exact ⟨⟨s, b⟩, fun g o hat => ⟨hat 0 (by omega), hat 1 (by omega), w0⟩⟩
set_option maxRecDepth 100000 in
set_option maxHeartbeats 4000000 in
theorem open_stC : ∀ (fuel : Nat) (cs : List Value) (x : DataW H × List MemPlace), DataW.trod enc Try.prog w base spare held fuel 41 cs = some x → ∃ s : St, ∀ g o, Lies w 13 cs g o → StAt (cw w) fuel (StC (cw w) fuel) g o s := by
  intro fuel
  induction fuel using Nat.strongRecOn with
  | ind fuel ih =>
    intro cs x h
    obtain ⟨xs, n, hn, _, hl, hlen, hf⟩ := DataW.trod_struct Try.underlying41 h
    subst hn
    rw [show Try.prog.cellsOf 41 = 13 by kernel_rfl] at hl
    have hxs : xs.length = 10 := hlen
    match cs, hl with
    | [v0, v1, v2, v3, v4, v5, v6, v7, v8, v9, v10, v11, v12], _ =>
      have g0 : DataW.trod enc Try.prog w base spare held n 3 (([v0, v1, v2, v3, v4, v5, v6, v7, v8, v9, v10, v11, v12].drop 0).take (Try.prog.cellsOf 3)) = xs[0]? := hf 0 _ rfl
      rw [List.getElem?_eq_getElem (by omega), show Try.prog.cellsOf 3 = 1 by kernel_rfl] at g0
      simp only [List.drop_zero, List.drop_succ_cons, List.take_succ_cons, List.take_zero] at g0
      have g1 : DataW.trod enc Try.prog w base spare held n 3 (([v0, v1, v2, v3, v4, v5, v6, v7, v8, v9, v10, v11, v12].drop 1).take (Try.prog.cellsOf 3)) = xs[1]? := hf 1 _ rfl
      rw [List.getElem?_eq_getElem (by omega), show Try.prog.cellsOf 3 = 1 by kernel_rfl] at g1
      simp only [List.drop_zero, List.drop_succ_cons, List.take_succ_cons, List.take_zero] at g1
      have g2 : DataW.trod enc Try.prog w base spare held n 22 (([v0, v1, v2, v3, v4, v5, v6, v7, v8, v9, v10, v11, v12].drop 2).take (Try.prog.cellsOf 22)) = xs[2]? := hf 2 _ rfl
      rw [List.getElem?_eq_getElem (by omega), show Try.prog.cellsOf 22 = 1 by kernel_rfl] at g2
      simp only [List.drop_zero, List.drop_succ_cons, List.take_succ_cons, List.take_zero] at g2
      have g3 : DataW.trod enc Try.prog w base spare held n 9 (([v0, v1, v2, v3, v4, v5, v6, v7, v8, v9, v10, v11, v12].drop 3).take (Try.prog.cellsOf 9)) = xs[3]? := hf 3 _ rfl
      rw [List.getElem?_eq_getElem (by omega), show Try.prog.cellsOf 9 = 1 by kernel_rfl] at g3
      simp only [List.drop_zero, List.drop_succ_cons, List.take_succ_cons, List.take_zero] at g3
      have g4 : DataW.trod enc Try.prog w base spare held n 9 (([v0, v1, v2, v3, v4, v5, v6, v7, v8, v9, v10, v11, v12].drop 4).take (Try.prog.cellsOf 9)) = xs[4]? := hf 4 _ rfl
      rw [List.getElem?_eq_getElem (by omega), show Try.prog.cellsOf 9 = 1 by kernel_rfl] at g4
      simp only [List.drop_zero, List.drop_succ_cons, List.take_succ_cons, List.take_zero] at g4
      have g5 : DataW.trod enc Try.prog w base spare held n 37 (([v0, v1, v2, v3, v4, v5, v6, v7, v8, v9, v10, v11, v12].drop 5).take (Try.prog.cellsOf 37)) = xs[5]? := hf 5 _ rfl
      rw [List.getElem?_eq_getElem (by omega), show Try.prog.cellsOf 37 = 4 by kernel_rfl] at g5
      simp only [List.drop_zero, List.drop_succ_cons, List.take_succ_cons, List.take_zero] at g5
      have g6 : DataW.trod enc Try.prog w base spare held n 4 (([v0, v1, v2, v3, v4, v5, v6, v7, v8, v9, v10, v11, v12].drop 9).take (Try.prog.cellsOf 4)) = xs[6]? := hf 6 _ rfl
      rw [List.getElem?_eq_getElem (by omega), show Try.prog.cellsOf 4 = 1 by kernel_rfl] at g6
      simp only [List.drop_zero, List.drop_succ_cons, List.take_succ_cons, List.take_zero] at g6
      have g7 : DataW.trod enc Try.prog w base spare held n 38 (([v0, v1, v2, v3, v4, v5, v6, v7, v8, v9, v10, v11, v12].drop 10).take (Try.prog.cellsOf 38)) = xs[7]? := hf 7 _ rfl
      rw [List.getElem?_eq_getElem (by omega), show Try.prog.cellsOf 38 = 1 by kernel_rfl] at g7
      simp only [List.drop_zero, List.drop_succ_cons, List.take_succ_cons, List.take_zero] at g7
      have g8 : DataW.trod enc Try.prog w base spare held n 39 (([v0, v1, v2, v3, v4, v5, v6, v7, v8, v9, v10, v11, v12].drop 11).take (Try.prog.cellsOf 39)) = xs[8]? := hf 8 _ rfl
      rw [List.getElem?_eq_getElem (by omega), show Try.prog.cellsOf 39 = 1 by kernel_rfl] at g8
      simp only [List.drop_zero, List.drop_succ_cons, List.take_succ_cons, List.take_zero] at g8
      have g9 : DataW.trod enc Try.prog w base spare held n 39 (([v0, v1, v2, v3, v4, v5, v6, v7, v8, v9, v10, v11, v12].drop 12).take (Try.prog.cellsOf 39)) = xs[9]? := hf 9 _ rfl
      rw [List.getElem?_eq_getElem (by omega), show Try.prog.cellsOf 39 = 1 by kernel_rfl] at g9
      simp only [List.drop_zero, List.drop_succ_cons, List.take_succ_cons, List.take_zero] at g9
      obtain ⟨i0, h0, _, w0⟩ := DataW.trod_int Try.underlying3 g0
      obtain ⟨i1, h1, _, w1⟩ := DataW.trod_int Try.underlying3 g1
      obtain ⟨u2, l2, h2, w2⟩ := open_strC g2
      obtain ⟨s3, h3, _, w3⟩ := DataW.trod_string Try.underlying9 g3
      obtain ⟨s4, h4, _, w4⟩ := DataW.trod_string Try.underlying9 g4
      obtain ⟨e5, kv, h5, hok, hk⟩ := open_exC n _ _ g5
      obtain ⟨b6, h6, _⟩ := DataW.trod_bool Try.underlying4 g6
      obtain ⟨u7, l7, h7, w7⟩ := open_sl (size := 6) (P := ArAt (cw w) n) Try.underlying38 (by kernel_rfl) (by omega) g7 fun n' cs' y hn' hy hcl g o hat => by
        obtain ⟨a, ha⟩ := open_arC n' cs' y hy
        exact ⟨a, (ha g o hat).le (by omega)⟩
      obtain ⟨u8, l8, h8, w8⟩ := open_sl (size := 13) (P := StAt (cw w) n (StC (cw w) n)) Try.underlying39 (by kernel_rfl) (by omega) g8 fun n' cs' y hn' hy hcl g o hat => by
        obtain ⟨a, ha⟩ := ih n' (by omega) cs' y hy
        exact ⟨a, (ha g o hat).le (by omega) (by omega)⟩
      obtain ⟨u9, l9, h9, w9⟩ := open_sl (size := 13) (P := StAt (cw w) n (StC (cw w) n)) Try.underlying39 (by kernel_rfl) (by omega) g9 fun n' cs' y hn' hy hcl g o hat => by
        obtain ⟨a, ha⟩ := ih n' (by omega) cs' y hy
        exact ⟨a, (ha g o hat).le (by omega) (by omega)⟩
      cases h0; cases h1; cases h2; cases h3; cases h4; cases h5; cases h6; cases h7; cases h8; cases h9
      exact ⟨.mk i0 i1 l2 s3 s4 e5 b6 l7 l8 l9, fun g o hat => ⟨_, _, _, _, hat 0 (by omega), hat 1 (by omega), hat 2 (by omega), hat 3 (by omega), hat 4 (by omega), ⟨_, hat 5 (by omega), hat 6 (by omega), hat 7 (by omega), hat 8 (by omega), hok, hk.le (by omega)⟩,
        hat 9 (by omega), hat 10 (by omega), hat 11 (by omega), hat 12 (by omega), wf_in w0, wf_in w1, w3, w4, w2, SlAt.imp w7 (fun _ _ _ _ q => q.le (by omega)), w8, w9⟩⟩
set_option maxRecDepth 100000 in
set_option maxHeartbeats 4000000 in
theorem open_pcC (fuel : Nat) (cs : List Value) (x : DataW H × List MemPlace) (h : DataW.trod enc Try.prog w base spare held fuel 55 cs = some x) : ∃ p : Pc, ∀ g o, Lies w 5 cs g o → PcAt (cw w) fuel g o p := by
  obtain ⟨xs, n, hn, _, hl, hlen, hf⟩ := DataW.trod_struct Try.underlying55 h
  subst hn
  rw [show Try.prog.cellsOf 55 = 5 by kernel_rfl] at hl
  have hxs : xs.length = 5 := hlen
  match cs, hl with
  | [v0, v1, v2, v3, v4], _ =>
    have g0 : DataW.trod enc Try.prog w base spare held n 9 (([v0, v1, v2, v3, v4].drop 0).take (Try.prog.cellsOf 9)) = xs[0]? := hf 0 _ rfl
    rw [List.getElem?_eq_getElem (by omega), show Try.prog.cellsOf 9 = 1 by kernel_rfl] at g0
    simp only [List.drop_zero, List.drop_succ_cons, List.take_succ_cons, List.take_zero] at g0
    have g1 : DataW.trod enc Try.prog w base spare held n 53 (([v0, v1, v2, v3, v4].drop 1).take (Try.prog.cellsOf 53)) = xs[1]? := hf 1 _ rfl
    rw [List.getElem?_eq_getElem (by omega), show Try.prog.cellsOf 53 = 1 by kernel_rfl] at g1
    simp only [List.drop_zero, List.drop_succ_cons, List.take_succ_cons, List.take_zero] at g1
    have g2 : DataW.trod enc Try.prog w base spare held n 22 (([v0, v1, v2, v3, v4].drop 2).take (Try.prog.cellsOf 22)) = xs[2]? := hf 2 _ rfl
    rw [List.getElem?_eq_getElem (by omega), show Try.prog.cellsOf 22 = 1 by kernel_rfl] at g2
    simp only [List.drop_zero, List.drop_succ_cons, List.take_succ_cons, List.take_zero] at g2
    have g3 : DataW.trod enc Try.prog w base spare held n 39 (([v0, v1, v2, v3, v4].drop 3).take (Try.prog.cellsOf 39)) = xs[3]? := hf 3 _ rfl
    rw [List.getElem?_eq_getElem (by omega), show Try.prog.cellsOf 39 = 1 by kernel_rfl] at g3
    simp only [List.drop_zero, List.drop_succ_cons, List.take_succ_cons, List.take_zero] at g3
    have g4 : DataW.trod enc Try.prog w base spare held n 22 (([v0, v1, v2, v3, v4].drop 4).take (Try.prog.cellsOf 22)) = xs[4]? := hf 4 _ rfl
    rw [List.getElem?_eq_getElem (by omega), show Try.prog.cellsOf 22 = 1 by kernel_rfl] at g4
    simp only [List.drop_zero, List.drop_succ_cons, List.take_succ_cons, List.take_zero] at g4
    obtain ⟨s0, h0, _, w0⟩ := DataW.trod_string Try.underlying9 g0
    obtain ⟨u1, l1, h1, w1⟩ := open_sl (size := 2) (P := PaAt (cw w)) Try.underlying53 (by kernel_rfl) (by omega) g1 fun n' cs' y hn' hy hcl g o hat => by
      obtain ⟨a, ha⟩ := open_paC n' cs' y hy
      exact ⟨a, ha g o hat⟩
    obtain ⟨u2, l2, h2, w2⟩ := open_strC g2
    obtain ⟨u3, l3, h3, w3⟩ := open_sl (size := 13) (P := StAt (cw w) n (StC (cw w) n)) Try.underlying39 (by kernel_rfl) (by omega) g3 fun n' cs' y hn' hy hcl g o hat => by
      obtain ⟨a, ha⟩ := open_stC n' cs' y hy
      exact ⟨a, (ha g o hat).le (by omega) (by omega)⟩
    obtain ⟨u4, l4, h4, w4⟩ := open_strC g4
    cases h0; cases h1; cases h2; cases h3; cases h4
    exact ⟨⟨s0, l1, l2, l3, l4⟩, fun g o hat => ⟨_, _, _, _, hat 0 (by omega), hat 1 (by omega), hat 2 (by omega), hat 3 (by omega), hat 4 (by omega), w0, w1, w2, w3, w4⟩⟩
set_option maxRecDepth 100000 in
/-- A program that was handed in. -/
theorem open_prog {r : Reach} {b0 : Nat} {v : Value} {dd : DataW H} {p : List MemPlace} (hv : Value.okWide Try.prog w r b0 25 v) (h : DataW.Trod enc Try.prog w base spare held 25 v dd p) :
    ∃ d q gv pv, v = .agg #[gv, pv] ∧ PrC (cw w) d gv pv q := by
  obtain ⟨cs, rfl, hsz⟩ := okWide_struct Try.underlying25 hv
  obtain ⟨fuel, h⟩ := h
  obtain ⟨cs⟩ := cs
  change DataW.trod enc Try.prog w base spare held fuel 25 cs = _ at h
  obtain ⟨xs, n, hn, _, hl, hlen, hf⟩ := DataW.trod_struct Try.underlying25 h
  subst hn
  rw [show Try.prog.cellsOf 25 = 2 by kernel_rfl] at hl
  have hxs : xs.length = 2 := hlen
  match cs, hl with
  | [v0, v1], _ =>
    have g0 : DataW.trod enc Try.prog w base spare held n 22 (([v0, v1].drop 0).take (Try.prog.cellsOf 22)) = xs[0]? := hf 0 _ rfl
    rw [List.getElem?_eq_getElem (by omega), show Try.prog.cellsOf 22 = 1 by kernel_rfl] at g0
    simp only [List.drop_zero, List.drop_succ_cons, List.take_succ_cons, List.take_zero] at g0
    have g1 : DataW.trod enc Try.prog w base spare held n 23 (([v0, v1].drop 1).take (Try.prog.cellsOf 23)) = xs[1]? := hf 1 _ rfl
    rw [List.getElem?_eq_getElem (by omega), show Try.prog.cellsOf 23 = 1 by kernel_rfl] at g1
    simp only [List.drop_zero, List.drop_succ_cons, List.take_succ_cons, List.take_zero] at g1
    obtain ⟨u0, l0, h0, w0⟩ := open_strC g0
    obtain ⟨u1, l1, h1, w1⟩ := open_sl (size := 5) (P := PcAt (cw w) n) Try.underlying23 (by kernel_rfl) (by omega) g1 fun n' cs' y hn' hy hcl g o hat => by
      obtain ⟨a, ha⟩ := open_pcC n' cs' y hy
      exact ⟨a, (ha g o hat).le (by omega)⟩
    cases h0; cases h1
    exact ⟨n, ⟨l0, l1⟩, _, _, rfl, w0, w1⟩
end
end Go.Proofs.Ytghlmengcidmdaa.Tr
end
section
/- What tree.expr makes: a new expression. Conditions: the expression lies in memory, no row of kids is long. -/
namespace Go.Proofs.Ytghlmengcidmdaa.Tr
open Go.RowKit Go.Proofs.Ytghlmengcidmdaa.Lx Go.Proofs.Ytghlmengcidmdaa.Wd
set_option maxHeartbeats 4000000 in
set_option maxRecDepth 100000 in
theorem expr_any : ∀ (d : Nat) (x : Ex) (kv : Value) (w : World), OkE x → ExK d w kv x.ks → lim d x.ks →
    Calls Try.prog 132 #[exV x kv] w (ExMade d x w) := by
  intro d
  induction d with
  | zero => intro x kv w _ h; exact h.elim
  | succ d ih =>
    intro x kv w hok hk hlim
    have IH := Lib.hid ih
    obtain ⟨i0, hi, hz0, hz1, hz2⟩ := info_parts infoEx
    obtain ⟨ax, cx, rfl, hc1, hc2⟩ := hk.form
    have hbox := boxed w (.cells #[.int .i64 x.op, .int .i64 x.n, .string x.nm, .slice ax x.ks.length cx] 37)
    have HB := Lib.hid hbox
    have HK := Lib.hid (hk.next hbox)
    have HOK := Lib.hid hok
    have HK0 := Lib.hid hk
    have hlen := hlim.1
    have HLIM := Lib.hid hlim.2
    clear ih hbox hok hlim
    unfold exV
    go_enter Try.func132, Try.ntmps132
    go_upto_region 3 with fail
    refine cut_world (fun wx => Below w.heap.size w wx ∧ w.heap.size + 1 < wx.heap.size ∧ Grow (ExQ d) 37 4 (w.heap.size + 1 + 1) w.heap.size (w.heap.size + 1) 4 [.int .i64 x.op, .int .i64 x.n, .string x.nm, .slice none 0 0] 3 [] wx (.slice none 0 0) []) ⟨?_, ?_, ?_⟩ ?_
    · exact (boxed w _).alloc (by simp) _
    · simp
    · refine ⟨by omega, by omega, by omega, by simp <;> omega, fun j u hu => ?_, fun j => by simp [go_sem], fun j hj => ?_, fun j => by simp [go_sem], Acc.nil _ _ _ _ _, by simp⟩
      · match j, hu with
        | 0, hu => cases hu; simp [go_sem]
        | 1, hu => cases hu; simp [go_sem]
        | 2, hu => cases hu; simp [go_sem]
        | 3, hu => cases hu; simp [go_sem]
      · match j, hj with
        | 0, _ => exact ⟨.int .i64 0, by simp [go_sem]⟩
        | 1, _ => exact ⟨.int .i64 0, by simp [go_sem]⟩
        | 2, _ => exact ⟨.string ⟨#[]⟩, by simp [go_sem]⟩
        | 3, _ => exact ⟨.slice none 0 0, by simp [go_sem]⟩
    · intro wc hcut
      obtain ⟨hbel, hsz, hG⟩ := hcut
      have HBC := Lib.hid hbel
      have HGC := Lib.hid hG
      have hkc := hk.next hbel
      have HKC := Lib.hid hkc
      clear hbel hG hkc hk
      go_wp2_with fail
      go_loopw [11] (fun i wr => ∃ (k : Nat) (v : Value) (rows : List (List Value)), k ≤ x.ks.length ∧ i = .int .i64 k ∧ Below w.heap.size w wr ∧ wc.heap.size ≤ wr.heap.size ∧ ExK (d + 1) wr (.slice ax x.ks.length cx) x.ks ∧
          Grow (ExQ d) 37 4 (w.heap.size + 1 + 1) w.heap.size (w.heap.size + 1) 4 [.int .i64 x.op, .int .i64 x.n, .string x.nm, .slice none 0 0] 3 (x.ks.take k) wr v rows) (fun i _ => (x.ks.length - intOf i).toNat)
      case atStart => exact ⟨0, _, [], by omega, rfl, HBC.out, Nat.le_refl _, HKC.out, HGC.out⟩
      case round =>
        obtain ⟨k, v, rows, hk, rfl, hbel, hle, hkr, hG⟩ := hrel
        have HBel := Lib.hid hbel
        have HKR := Lib.hid hkr
        have HG := Lib.hid hG
        have hL : (x.ks.take k).length = k := by simp; omega
        have y3 := hG.y 3 _ rfl
        have hown := hG.acc.own
        rw [hL] at hown
        have HOWN := Lib.hid hown
        have fy := hG.fy 3
        skip
        by_cases hlt : k < x.ks.length
        · have hlt' : (k : Int) < (x.ks.length : Int) := by omega
          have h0k : (0 : Int) ≤ (k : Int) := by omega
          have hne : x.ks ≠ [] := by intro h; rw [h] at hlt; simp at hlt
          obtain ⟨g, off, cap', hv, _, _, hcells⟩ := hkr.kids hne
          simp only [Value.slice.injEq] at hv
          obtain ⟨rfl, -, rfl⟩ := hv
          obtain ⟨hok2, u, c0, c1, c2, c3, hku⟩ := hcells k hlt
          have hlimk := HLIM.out x.ks[k] (List.getElem_mem hlt)
          obtain ⟨E, hE⟩ : ∃ E, Hid (x.ks[k] = E) := ⟨_, Lib.hid rfl⟩
          rw [hE.out] at hok2 c0 c1 c2 hku hlimk
          obtain ⟨au, cu, rfl, -, -⟩ := hku.form
          have HKU := Lib.hid hku
          have HOK2 := Lib.hid hok2
          have HLK := Lib.hid hlimk
          have hyl := cell_lt y3
          have hgw : g < w.heap.size := by
            obtain ⟨g0, off0, cap0, hv0, _, _, hcells0⟩ := HK0.out.kids hne
            simp only [Value.slice.injEq, Option.some.injEq, Addr.mk.injEq] at hv0
            obtain ⟨⟨rfl, -⟩, -⟩ := hv0
            obtain ⟨_, _, q0, _⟩ := hcells0 k hlt
            exact cell_lt q0
          obtain ⟨va, vc, rfl⟩ := ownsForm hown
          have hnb := hG.own
          have HNB := Lib.hid hnb
          have hwl : w.heap.size < wr.heap.size := by omega
          have hgl : g < wr.heap.size := by omega
          clear hcells hku hok2 hbel hne hkr hG hown hlimk hnb
          have IHK : Hid (∀ W kv, ExK d W kv E.ks → Calls Try.prog 132 #[exV E kv] W (ExMade d E W)) := Lib.hid (fun W kv h => IH.out E kv W HOK2.out h HLK.out)
          have Y3 := Lib.hid y3
          have hkb := boxed wr (.cells #[.int .i64 E.op, .int .i64 E.n, .string E.nm, .slice au E.ks.length cu] 37)
          have HKB := Lib.hid hkb
          have znk := World.new_ne _ _ y3
          clear hkb
          have FY := Lib.hid fy
          go_upto_region 6 with fail
          go_region_law
            (first
              | (go_simp; go_at_call 132; refine (IHK.out _ _ (HKU.out.next HKB.out.drew)).mono ?_; rintro e w2 ⟨kv2, rfl, hok3, hkc3, hb2⟩; obtain ⟨ka2, kc2, rfl, hka1, hka2⟩ := hkc3.form; unfold exV; have z3 := cell_next hb2 (cell_next HKB.out.drew Y3.out); have zf := frozen_next hb2 (cell_next HKB.out.drew Y3.out) (frozen_next HKB.out.drew Y3.out FY.out); have Z3 := Lib.hid z3; have ZF := Lib.hid zf; have znew := World.new_ne _ _ z3; have zlt := cell_lt z3; dsimp only)
              | (have hbt := hb2; refine step_append_lies _ (by rfl) (.tmp 16) (.tmp 19) _ (by rfl) (w.heap.size + 1 + 1) 37 i0 (.agg #[.int .i64 0, .int .i64 0, .string ⟨#[]⟩, .slice none 0 0]) 4 56 Try.underlying35 hi hz0 hz1 hz2 rfl (by omega) (.slice va k vc) k rows.flatten (by rfl) ((ownsBelow (ownsBelow HOWN.out HKB.out.drew) hb2).alloc _)
                  ⟨w2.heap.size, 0, none⟩ 1 1 [.int .i64 E.op, .int .i64 E.n, .string E.nm, .slice ka2 E.ks.length kc2] (by rfl) (by rfl) (World.news_of_block (cs := #[.int .i64 E.op, .int .i64 E.n, .string E.nm, .slice ka2 E.ks.length kc2]) (t := 37) (fr := (0, 0)) (heap_alloc_new w2 _)) (by simp [Value.oneCell'])
                  (by omega) (by unfold maxLen; omega) (by omega) (by have := hb2.size; simp at this ⊢ <;> omega) (w2.heap.size + 1) (by simp) ?_; intro gg cap4 w4 hown4 hgrow4 hat4 hlt4
                 have ylt := cell_lt Z3.out
                 have q3 := (hgrow4.cell_far ⟨w.heap.size, 3, none⟩ (by simp <;> omega) (HNB.out _ (by simp <;> omega))).trans (cell_next (boxed w2 _) Z3.out)
                 have qf := (hgrow4.frozen_far ⟨w.heap.size, 3, none⟩ (by simp <;> omega) (HNB.out _ (by simp <;> omega))).trans (frozen_next (boxed w2 _) Z3.out ZF.out)))
          all_goals
            go_wp2_with fail
            go_roundw
            case rel =>
              have hch : Below wr.heap.size wr (w2.alloc (.cells #[.int .i64 E.op, .int .i64 E.n, .string E.nm, .slice ka2 E.ks.length kc2] 37)) := (HKB.out.drew.trans (hb2.mono HKB.out.size)).trans ((boxed w2 _).mono (Nat.le_trans HKB.out.size hb2.size))
              have hB2 := Grow.below (B := w.heap.size + 1 + 1) (Y := w.heap.size) (slot := 3) (v4 := .slice (some ⟨gg, 0, none⟩) (k + 1) cap4) HBel.out hch hgrow4 (by omega) (by omega) HNB.out
              have hstep := HG.out.step (v4 := .slice (some ⟨gg, 0, none⟩) (k + 1) cap4) (by simp) (ExQ.mono d) HKB.out.drew hb2 (boxed w2 _) hgrow4 (fun q hq => by have hqq : gg = q := by { simpa [Value.ownBlock] using hq }; subst hqq; exact hat4.imp id fun h => by omega) rfl ⟨_, rfl, hok3, hkc3⟩ (by rw [hL]; exact hown4)
              refine ⟨k + 1, .slice (some ⟨gg, 0, none⟩) (k + 1) cap4, rows ++ [[.int .i64 E.op, .int .i64 E.n, .string E.nm, .slice ka2 E.ks.length kc2]], by omega, by go_num, hB2, ?_, HK0.out.next hB2, ?_⟩
              · have := hgrow4.size
                have := hch.size
                simp only [World.size_setCell]
                omega
              · rw [List.take_succ_eq_append_getElem hlt, hE.out]
                exact hstep
            case measure => simp [intOf]; omega
        · have hlt' : ¬ (k : Int) < (x.ks.length : Int) := by omega
          have hke : k = x.ks.length := by omega
          subst hke
          obtain ⟨va, vc, rfl⟩ := ownsForm hown
          rw [List.take_length] at HG
          have y0 := HG.out.y 0 _ rfl
          have y1 := HG.out.y 1 _ rfl
          have y2 := HG.out.y 2 _ rfl
          obtain ⟨r0, hr0⟩ := HG.out.r 0 (by omega)
          obtain ⟨r1, hr1⟩ := HG.out.r 1 (by omega)
          obtain ⟨r2, hr2⟩ := HG.out.r 2 (by omega)
          obtain ⟨r3, hr3⟩ := HG.out.r 3 (by omega)
          have f0 := HG.out.fy 0
          have f1 := HG.out.fr 0
          have f2 := HG.out.fr 1
          have f3 := HG.out.fr 2
          have f4 := HG.out.fr 3
          have hfit : x.ks.length ≤ 9223372036854775807 := by omega
          have hm := HG.out.acc.exC hfit
          have HM := Lib.hid hm
          clear hG hbel hm hown
          go_wp2_with fail
          obtain ⟨q0, q1, q2, q3⟩ := fill4 (a := .int .i64 x.op) (b := .int .i64 x.n) (c := .string x.nm) (d := .slice va x.ks.length vc) hr0 hr1 hr2 hr3
          refine bodyPost_ret (v := .agg #[.int .i64 x.op, .int .i64 x.n, .string x.nm, .slice va x.ks.length vc]) (by simp [results, Try.results132, go_sem, q0, q1, q2, q3]) rfl ⟨.slice va x.ks.length vc, ?_, ⟨?_, ?_, ?_⟩, ?_, ?_⟩
          · rfl
          · exact HOK.out.op
          · exact HOK.out.n
          · exact HOK.out.nm
          · refine ExC.mono (Cs.le_trans (le_set (R := w.heap.size + 1) (by omega)) (Cs.le_trans (le_set (R := w.heap.size + 1) (by omega)) (Cs.le_trans (le_set (R := w.heap.size + 1) (by omega)) (Cs.le_trans (le_set (R := w.heap.size + 1) (by omega)) (nw_le (by omega) (Below.refl _ _)))))) HM.out
          · refine (((HBel.out.setCell (p := ⟨_, _, none⟩) ?_ _).setCell (p := ⟨_, _, none⟩) ?_ _).setCell (p := ⟨_, _, none⟩) ?_ _).setCell (p := ⟨_, _, none⟩) ?_ _ <;> simp
end Go.Proofs.Ytghlmengcidmdaa.Tr
end
