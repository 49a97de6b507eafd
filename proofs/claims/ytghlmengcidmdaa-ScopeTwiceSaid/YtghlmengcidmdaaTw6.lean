/- Parts of OpenP, FitsW: walks and plain laws that later texts use. Conditions: as each statement says. -/
import Derived.Test.YtghlmengcidmdaaTw0
import Derived.Test.YtghlmengcidmdaaTw1
import Derived.Test.YtghlmengcidmdaaTw2
import Derived.Test.YtghlmengcidmdaaTw3
import Derived.Test.YtghlmengcidmdaaTw4
import Derived.Test.YtghlmengcidmdaaTw5
import Derived.Deep.DeepCutAuto
import Derived.Maps.Range
import Derived.Outline
import Derived.Lib.SmallJoins
import Derived.Deep.Upon
import Derived.Maps.AppendAt
import Derived.Laws.OwnMore
import Derived.Deep.QuietTactic
import Derived.BigQuiet
import Derived.IntWalk
import Derived.StillTailTactics
import Derived.WalkKit
import Derived.Test.YtghlmengcidmdaaRows
import Derived.WalkSpells
import Derived.Lib.Hide
import Derived.Below
import Derived.WalkSmall
import Derived.Laws.BitsAllLaws
import Derived.OwnWalk
import Derived.OneCell
import Derived.Deep.AppendLies
import Derived.Deep.RegionLaw
import Derived.Deep.RegionHeld3
import Derived.RegionTactic
import Derived.Deep.RegionWith
import Derived.Laws.Cover3
import Derived.Deep.Slices
import Derived.Deep.Fields
import Derived.SliceStrings
import Derived.ChangeSlices
section
/- What is read of an argument that is a program: it lies in memory. Conditions: none. -/
namespace Go.Proofs.Ytghlmengcidmdaa.Tr
open Go.RowKit Go.Proofs.Ytghlmengcidmdaa.Lx Go.Proofs.Ytghlmengcidmdaa.Wd Go.ChangeShapes Go.WideShapes Go.Deep
set_option linter.unusedSimpArgs false
theorem StC.le {C : Cs} {d e : Nat} {v : Value} {l : List St} (h : StC C d v l) (hde : d ≤ e) : StC C e v l := by
  induction hde with
  | refl => exact h
  | step _ ih => exact ih.up
theorem ArAt.le {C : Cs} {d e : Nat} {g o : Nat} {a : Ar} (h : ArAt C d g o a) (hde : d ≤ e) : ArAt C e g o a := by
  obtain ⟨h1, h2, h3, kv, h4, h5, h6, h7, h8, h9⟩ := h
  exact ⟨h1, h2, h3, kv, h4, h5, h6, h7, h8, h9.le hde⟩
theorem StAt.le {C : Cs} {d e d2 e2 : Nat} {g o : Nat} {s : St} (h : StAt C d (StC C d2) g o s) (hde : d ≤ e) (h2 : d2 ≤ e2) : StAt C e (StC C e2) g o s := by
  obtain ⟨lv, av, tv, ev, h0, h1, h2', h3, h4, ⟨kv, x0, x1, x2, x3, x4, x5⟩, h9, h10, h11, h12, i1, i2, i3, i4, i5, i6, i7, i8⟩ := h
  exact ⟨lv, av, tv, ev, h0, h1, h2', h3, h4, ⟨kv, x0, x1, x2, x3, x4, x5.le hde⟩, h9, h10, h11, h12, i1, i2, i3, i4, i5, SlAt.imp i6 (fun _ _ _ _ q => q.le hde), i7.le h2, i8.le h2⟩
theorem PcAt.le {C : Cs} {d e : Nat} {g o : Nat} {p : Pc} (h : PcAt C d g o p) (hde : d ≤ e) : PcAt C e g o p := by
  obtain ⟨pv, vv, bv, fv, h0, h1, h2, h3, h4, h5, h6, h7, h8, h9⟩ := h
  exact ⟨pv, vv, bv, fv, h0, h1, h2, h3, h4, h5, h6, h7, h8.le hde, h9⟩
section
variable {H : Type} {enc : TypeId × Value → H} {w : World} {base : Nat} {spare : Nat → Bool} {held : Bool}
def Lies (w : World) (n : Nat) (cs : List Value) (g o : Nat) : Prop := ∀ j, j < n → w.cell? ⟨g, o + j, none⟩ = cs[j]?
set_option maxRecDepth 100000 in
theorem open_arC (fuel : Nat) (cs : List Value) (x : DataW H × List MemPlace) (h : DataW.trod enc Try.prog w base spare held fuel 49 cs = some x) : ∃ a : Ar, ∀ g o, Lies w 6 cs g o → ArAt (cw w) fuel g o a := by
  obtain ⟨xs, n, hn, _, hl, hlen, hf⟩ := DataW.trod_struct Try.underlying49 h
  subst hn
  rw [show Try.prog.cellsOf 49 = 6 by kernel_rfl] at hl
  have hxs : xs.length = 3 := hlen
  match cs, hl with
  | [v0, v1, v2, v3, v4, v5], _ =>
    have g0 : DataW.trod enc Try.prog w base spare held n 4 (([v0, v1, v2, v3, v4, v5].drop 0).take (Try.prog.cellsOf 4)) = xs[0]? := hf 0 _ rfl
    rw [List.getElem?_eq_getElem (by omega), show Try.prog.cellsOf 4 = 1 by kernel_rfl] at g0
    simp only [List.drop_zero, List.drop_succ_cons, List.take_succ_cons, List.take_zero] at g0
    have g1 : DataW.trod enc Try.prog w base spare held n 9 (([v0, v1, v2, v3, v4, v5].drop 1).take (Try.prog.cellsOf 9)) = xs[1]? := hf 1 _ rfl
    rw [List.getElem?_eq_getElem (by omega), show Try.prog.cellsOf 9 = 1 by kernel_rfl] at g1
    simp only [List.drop_zero, List.drop_succ_cons, List.take_succ_cons, List.take_zero] at g1
    have g2 : DataW.trod enc Try.prog w base spare held n 37 (([v0, v1, v2, v3, v4, v5].drop 2).take (Try.prog.cellsOf 37)) = xs[2]? := hf 2 _ rfl
    rw [List.getElem?_eq_getElem (by omega), show Try.prog.cellsOf 37 = 4 by kernel_rfl] at g2
    simp only [List.drop_zero, List.drop_succ_cons, List.take_succ_cons, List.take_zero] at g2
    obtain ⟨b, h0, _⟩ := DataW.trod_bool Try.underlying4 g0
    obtain ⟨s, h1, _, w1⟩ := DataW.trod_string Try.underlying9 g1
    obtain ⟨e, kv, h2, hok, hk⟩ := open_exC n _ _ g2
    cases h0; cases h1; cases h2
    exact ⟨.mk b s e, fun g o hat => ⟨hat 0 (by omega), hat 1 (by omega), w1, _, hat 2 (by omega), hat 3 (by omega), hat 4 (by omega), hat 5 (by omega), hok, hk.le (by omega)⟩⟩
set_option maxRecDepth 100000 in
theorem open_paC (fuel : Nat) (cs : List Value) (x : DataW H × List MemPlace) (h : DataW.trod enc Try.prog w base spare held fuel 62 cs = some x) : ∃ a : Pa, ∀ g o, Lies w 2 cs g o → PaAt (cw w) g o a := by
  obtain ⟨xs, n, hn, _, hl, hlen, hf⟩ := DataW.trod_struct Try.underlying62 h
  subst hn
  rw [show Try.prog.cellsOf 62 = 2 by kernel_rfl] at hl
  have hxs : xs.length = 2 := hlen
  match cs, hl with
  | [v0, v1], _ =>
    have g0 : DataW.trod enc Try.prog w base spare held n 9 (([v0, v1].drop 0).take (Try.prog.cellsOf 9)) = xs[0]? := hf 0 _ rfl
    rw [List.getElem?_eq_getElem (by omega), show Try.prog.cellsOf 9 = 1 by kernel_rfl] at g0
    simp only [List.drop_zero, List.drop_succ_cons, List.take_succ_cons, List.take_zero] at g0
    have g1 : DataW.trod enc Try.prog w base spare held n 4 (([v0, v1].drop 1).take (Try.prog.cellsOf 4)) = xs[1]? := hf 1 _ rfl
    rw [List.getElem?_eq_getElem (by omega), show Try.prog.cellsOf 4 = 1 by kernel_rfl] at g1
    simp only [List.drop_zero, List.drop_succ_cons, List.take_succ_cons, List.take_zero] at g1
    obtain ⟨s, h0, _, w0⟩ := DataW.trod_string Try.underlying9 g0
    obtain ⟨b, h1, _⟩ := DataW.trod_bool Try.underlying4 g1
    cases h0; cases h1
    exact ⟨⟨s, b⟩, fun g o hat => ⟨hat 0 (by omega), hat 1 (by omega), w0⟩⟩
set_option maxRecDepth 100000 in
set_option maxHeartbeats 4000000 in
theorem open_stC : ∀ (fuel : Nat) (cs : List Value) (x : DataW H × List MemPlace), DataW.trod enc Try.prog w base spare held fuel 41 cs = some x → ∃ s : St, ∀ g o, Lies w 13 cs g o → StAt (cw w) fuel (StC (cw w) fuel) g o s := by
  intro fuel
  induction fuel using Nat.strongRecOn with
  | ind fuel ih =>
    intro cs x h
    obtain ⟨xs, n, hn, _, hl, hlen, hf⟩ := DataW.trod_struct Try.underlying41 h
    subst hn
    rw [show Try.prog.cellsOf 41 = 13 by kernel_rfl] at hl
    have hxs : xs.length = 10 := hlen
    match cs, hl with
    | [v0, v1, v2, v3, v4, v5, v6, v7, v8, v9, v10, v11, v12], _ =>
      have g0 : DataW.trod enc Try.prog w base spare held n 3 (([v0, v1, v2, v3, v4, v5, v6, v7, v8, v9, v10, v11, v12].drop 0).take (Try.prog.cellsOf 3)) = xs[0]? := hf 0 _ rfl
      rw [List.getElem?_eq_getElem (by omega), show Try.prog.cellsOf 3 = 1 by kernel_rfl] at g0
      simp only [List.drop_zero, List.drop_succ_cons, List.take_succ_cons, List.take_zero] at g0
      have g1 : DataW.trod enc Try.prog w base spare held n 3 (([v0, v1, v2, v3, v4, v5, v6, v7, v8, v9, v10, v11, v12].drop 1).take (Try.prog.cellsOf 3)) = xs[1]? := hf 1 _ rfl
      rw [List.getElem?_eq_getElem (by omega), show Try.prog.cellsOf 3 = 1 by kernel_rfl] at g1
      simp only [List.drop_zero, List.drop_succ_cons, List.take_succ_cons, List.take_zero] at g1
      have g2 : DataW.trod enc Try.prog w base spare held n 22 (([v0, v1, v2, v3, v4, v5, v6, v7, v8, v9, v10, v11, v12].drop 2).take (Try.prog.cellsOf 22)) = xs[2]? := hf 2 _ rfl
      rw [List.getElem?_eq_getElem (by omega), show Try.prog.cellsOf 22 = 1 by kernel_rfl] at g2
      simp only [List.drop_zero, List.drop_succ_cons, List.take_succ_cons, List.take_zero] at g2
      have g3 : DataW.trod enc Try.prog w base spare held n 9 (([v0, v1, v2, v3, v4, v5, v6, v7, v8, v9, v10, v11, v12].drop 3).take (Try.prog.cellsOf 9)) = xs[3]? := hf 3 _ rfl
      rw [List.getElem?_eq_getElem (by omega), show Try.prog.cellsOf 9 = 1 by kernel_rfl] at g3
      simp only [List.drop_zero, List.drop_succ_cons, List.take_succ_cons, List.take_zero] at g3
      have g4 : DataW.trod enc Try.prog w base spare held n 9 (([v0, v1, v2, v3, v4, v5, v6, v7, v8, v9, v10, v11, v12].drop 4).take (Try.prog.cellsOf 9)) = xs[4]? := hf 4 _ rfl
      rw [List.getElem?_eq_getElem (by omega), show Try.prog.cellsOf 9 = 1 by kernel_rfl] at g4
      simp only [List.drop_zero, List.drop_succ_cons, List.take_succ_cons, List.take_zero] at g4
      have g5 : DataW.trod enc Try.prog w base spare held n 37 (([v0, v1, v2, v3, v4, v5, v6, v7, v8, v9, v10, v11, v12].drop 5).take (Try.prog.cellsOf 37)) = xs[5]? := hf 5 _ rfl
      rw [List.getElem?_eq_getElem (by omega), show Try.prog.cellsOf 37 = 4 by kernel_rfl] at g5
      simp only [List.drop_zero, List.drop_succ_cons, List.take_succ_cons, List.take_zero] at g5
      have g6 : DataW.trod enc Try.prog w base spare held n 4 (([v0, v1, v2, v3, v4, v5, v6, v7, v8, v9, v10, v11, v12].drop 9).take (Try.prog.cellsOf 4)) = xs[6]? := hf 6 _ rfl
      rw [List.getElem?_eq_getElem (by omega), show Try.prog.cellsOf 4 = 1 by kernel_rfl] at g6
      simp only [List.drop_zero, List.drop_succ_cons, List.take_succ_cons, List.take_zero] at g6
      have g7 : DataW.trod enc Try.prog w base spare held n 38 (([v0, v1, v2, v3, v4, v5, v6, v7, v8, v9, v10, v11, v12].drop 10).take (Try.prog.cellsOf 38)) = xs[7]? := hf 7 _ rfl
      rw [List.getElem?_eq_getElem (by omega), show Try.prog.cellsOf 38 = 1 by kernel_rfl] at g7
      simp only [List.drop_zero, List.drop_succ_cons, List.take_succ_cons, List.take_zero] at g7
      have g8 : DataW.trod enc Try.prog w base spare held n 39 (([v0, v1, v2, v3, v4, v5, v6, v7, v8, v9, v10, v11, v12].drop 11).take (Try.prog.cellsOf 39)) = xs[8]? := hf 8 _ rfl
      rw [List.getElem?_eq_getElem (by omega), show Try.prog.cellsOf 39 = 1 by kernel_rfl] at g8
      simp only [List.drop_zero, List.drop_succ_cons, List.take_succ_cons, List.take_zero] at g8
      have g9 : DataW.trod enc Try.prog w base spare held n 39 (([v0, v1, v2, v3, v4, v5, v6, v7, v8, v9, v10, v11, v12].drop 12).take (Try.prog.cellsOf 39)) = xs[9]? := hf 9 _ rfl
      rw [List.getElem?_eq_getElem (by omega), show Try.prog.cellsOf 39 = 1 by kernel_rfl] at g9
      simp only [List.drop_zero, List.drop_succ_cons, List.take_succ_cons, List.take_zero] at g9
      obtain ⟨i0, h0, _, w0⟩ := DataW.trod_int Try.underlying3 g0
      obtain ⟨i1, h1, _, w1⟩ := DataW.trod_int Try.underlying3 g1
      obtain ⟨u2, l2, h2, w2⟩ := open_strC g2
      obtain ⟨s3, h3, _, w3⟩ := DataW.trod_string Try.underlying9 g3
      obtain ⟨s4, h4, _, w4⟩ := DataW.trod_string Try.underlying9 g4
      obtain ⟨e5, kv, h5, hok, hk⟩ := open_exC n _ _ g5
      obtain ⟨b6, h6, _⟩ := DataW.trod_bool Try.underlying4 g6
      obtain ⟨u7, l7, h7, w7⟩ := open_sl (size := 6) (P := ArAt (cw w) n) Try.underlying38 (by kernel_rfl) (by omega) g7 fun n' cs' y hn' hy hcl g o hat => by
        obtain ⟨a, ha⟩ := open_arC n' cs' y hy
        exact ⟨a, (ha g o hat).le (by omega)⟩
      obtain ⟨u8, l8, h8, w8⟩ := open_sl (size := 13) (P := StAt (cw w) n (StC (cw w) n)) Try.underlying39 (by kernel_rfl) (by omega) g8 fun n' cs' y hn' hy hcl g o hat => by
        obtain ⟨a, ha⟩ := ih n' (by omega) cs' y hy
        exact ⟨a, (ha g o hat).le (by omega) (by omega)⟩
      obtain ⟨u9, l9, h9, w9⟩ := open_sl (size := 13) (P := StAt (cw w) n (StC (cw w) n)) Try.underlying39 (by kernel_rfl) (by omega) g9 fun n' cs' y hn' hy hcl g o hat => by
        obtain ⟨a, ha⟩ := ih n' (by omega) cs' y hy
        exact ⟨a, (ha g o hat).le (by omega) (by omega)⟩
      cases h0; cases h1; cases h2; cases h3; cases h4; cases h5; cases h6; cases h7; cases h8; cases h9
      exact ⟨.mk i0 i1 l2 s3 s4 e5 b6 l7 l8 l9, fun g o hat => ⟨_, _, _, _, hat 0 (by omega), hat 1 (by omega), hat 2 (by omega), hat 3 (by omega), hat 4 (by omega), ⟨_, hat 5 (by omega), hat 6 (by omega), hat 7 (by omega), hat 8 (by omega), hok, hk.le (by omega)⟩,
        hat 9 (by omega), hat 10 (by omega), hat 11 (by omega), hat 12 (by omega), wf_in w0, wf_in w1, w3, w4, w2, SlAt.imp w7 (fun _ _ _ _ q => q.le (by omega)), w8, w9⟩⟩
set_option maxRecDepth 100000 in
set_option maxHeartbeats 4000000 in
theorem open_pcC (fuel : Nat) (cs : List Value) (x : DataW H × List MemPlace) (h : DataW.trod enc Try.prog w base spare held fuel 55 cs = some x) : ∃ p : Pc, ∀ g o, Lies w 5 cs g o → PcAt (cw w) fuel g o p := by
  obtain ⟨xs, n, hn, _, hl, hlen, hf⟩ := DataW.trod_struct Try.underlying55 h
  subst hn
  rw [show Try.prog.cellsOf 55 = 5 by kernel_rfl] at hl
  have hxs : xs.length = 5 := hlen
  match cs, hl with
  | [v0, v1, v2, v3, v4], _ =>
    have g0 : DataW.trod enc Try.prog w base spare held n 9 (([v0, v1, v2, v3, v4].drop 0).take (Try.prog.cellsOf 9)) = xs[0]? := hf 0 _ rfl
    rw [List.getElem?_eq_getElem (by omega), show Try.prog.cellsOf 9 = 1 by kernel_rfl] at g0
    simp only [List.drop_zero, List.drop_succ_cons, List.take_succ_cons, List.take_zero] at g0
    have g1 : DataW.trod enc Try.prog w base spare held n 53 (([v0, v1, v2, v3, v4].drop 1).take (Try.prog.cellsOf 53)) = xs[1]? := hf 1 _ rfl
    rw [List.getElem?_eq_getElem (by omega), show Try.prog.cellsOf 53 = 1 by kernel_rfl] at g1
    simp only [List.drop_zero, List.drop_succ_cons, List.take_succ_cons, List.take_zero] at g1
    have g2 : DataW.trod enc Try.prog w base spare held n 22 (([v0, v1, v2, v3, v4].drop 2).take (Try.prog.cellsOf 22)) = xs[2]? := hf 2 _ rfl
    rw [List.getElem?_eq_getElem (by omega), show Try.prog.cellsOf 22 = 1 by kernel_rfl] at g2
    simp only [List.drop_zero, List.drop_succ_cons, List.take_succ_cons, List.take_zero] at g2
    have g3 : DataW.trod enc Try.prog w base spare held n 39 (([v0, v1, v2, v3, v4].drop 3).take (Try.prog.cellsOf 39)) = xs[3]? := hf 3 _ rfl
    rw [List.getElem?_eq_getElem (by omega), show Try.prog.cellsOf 39 = 1 by kernel_rfl] at g3
    simp only [List.drop_zero, List.drop_succ_cons, List.take_succ_cons, List.take_zero] at g3
    have g4 : DataW.trod enc Try.prog w base spare held n 22 (([v0, v1, v2, v3, v4].drop 4).take (Try.prog.cellsOf 22)) = xs[4]? := hf 4 _ rfl
    rw [List.getElem?_eq_getElem (by omega), show Try.prog.cellsOf 22 = 1 by kernel_rfl] at g4
    simp only [List.drop_zero, List.drop_succ_cons, List.take_succ_cons, List.take_zero] at g4
    obtain ⟨s0, h0, _, w0⟩ := DataW.trod_string Try.underlying9 g0
    obtain ⟨u1, l1, h1, w1⟩ := open_sl (size := 2) (P := PaAt (cw w)) Try.underlying53 (by kernel_rfl) (by omega) g1 fun n' cs' y hn' hy hcl g o hat => by
      obtain ⟨a, ha⟩ := open_paC n' cs' y hy
      exact ⟨a, ha g o hat⟩
    obtain ⟨u2, l2, h2, w2⟩ := open_strC g2
    obtain ⟨u3, l3, h3, w3⟩ := open_sl (size := 13) (P := StAt (cw w) n (StC (cw w) n)) Try.underlying39 (by kernel_rfl) (by omega) g3 fun n' cs' y hn' hy hcl g o hat => by
      obtain ⟨a, ha⟩ := open_stC n' cs' y hy
      exact ⟨a, (ha g o hat).le (by omega) (by omega)⟩
    obtain ⟨u4, l4, h4, w4⟩ := open_strC g4
    cases h0; cases h1; cases h2; cases h3; cases h4
    exact ⟨⟨s0, l1, l2, l3, l4⟩, fun g o hat => ⟨_, _, _, _, hat 0 (by omega), hat 1 (by omega), hat 2 (by omega), hat 3 (by omega), hat 4 (by omega), w0, w1, w2, w3, w4⟩⟩
set_option maxRecDepth 100000 in
/-- A program that was handed in. -/
theorem open_prog {r : Reach} {b0 : Nat} {v : Value} {dd : DataW H} {p : List MemPlace} (hv : Value.okWide Try.prog w r b0 25 v) (h : DataW.Trod enc Try.prog w base spare held 25 v dd p) :
    ∃ d q gv pv, v = .agg #[gv, pv] ∧ PrC (cw w) d gv pv q := by
  obtain ⟨cs, rfl, hsz⟩ := okWide_struct Try.underlying25 hv
  obtain ⟨fuel, h⟩ := h
  obtain ⟨cs⟩ := cs
  change DataW.trod enc Try.prog w base spare held fuel 25 cs = _ at h
  obtain ⟨xs, n, hn, _, hl, hlen, hf⟩ := DataW.trod_struct Try.underlying25 h
  subst hn
  rw [show Try.prog.cellsOf 25 = 2 by kernel_rfl] at hl
  have hxs : xs.length = 2 := hlen
  match cs, hl with
  | [v0, v1], _ =>
    have g0 : DataW.trod enc Try.prog w base spare held n 22 (([v0, v1].drop 0).take (Try.prog.cellsOf 22)) = xs[0]? := hf 0 _ rfl
    rw [List.getElem?_eq_getElem (by omega), show Try.prog.cellsOf 22 = 1 by kernel_rfl] at g0
    simp only [List.drop_zero, List.drop_succ_cons, List.take_succ_cons, List.take_zero] at g0
    have g1 : DataW.trod enc Try.prog w base spare held n 23 (([v0, v1].drop 1).take (Try.prog.cellsOf 23)) = xs[1]? := hf 1 _ rfl
    rw [List.getElem?_eq_getElem (by omega), show Try.prog.cellsOf 23 = 1 by kernel_rfl] at g1
    simp only [List.drop_zero, List.drop_succ_cons, List.take_succ_cons, List.take_zero] at g1
    obtain ⟨u0, l0, h0, w0⟩ := open_strC g0
    obtain ⟨u1, l1, h1, w1⟩ := open_sl (size := 5) (P := PcAt (cw w) n) Try.underlying23 (by kernel_rfl) (by omega) g1 fun n' cs' y hn' hy hcl g o hat => by
      obtain ⟨a, ha⟩ := open_pcC n' cs' y hy
      exact ⟨a, (ha g o hat).le (by omega)⟩
    cases h0; cases h1
    exact ⟨n, ⟨l0, l1⟩, _, _, rfl, w0, w1⟩
end
end Go.Proofs.Ytghlmengcidmdaa.Tr
end
section
/- What weighTexts, weighStmts, Fits of the reference compute: how much a program is. Conditions: it lies in memory. -/
namespace Go.Proofs.Ytghlmengcidmdaa.Tr
open Go.RowKit Go.Proofs.Ytghlmengcidmdaa.Lx Go.Proofs.Ytghlmengcidmdaa.Wd
theorem below_then {a b c : World} (h2 : Below b.heap.size b c) (h1 : Below a.heap.size a b) : Below a.heap.size a c := h1.trans (h2.mono h1.size)
theorem wtTs_take {l : List ByteArray} {k : Nat} (hk : k < l.length) : wtTs (l.take (k + 1)) = wtTs (l.take k) + (1 + l[k].size) := by
  unfold wtTs
  rw [List.take_succ_eq_append_getElem hk, List.map_append, List.sum_append]
  simp
theorem wtL_snoc (l : List St) (s : St) : wtL (l ++ [s]) = wtL l + wtS s := by
  induction l with
  | nil => simp [wtL]
  | cons a r ih => rw [List.cons_append, wtL_cons, wtL_cons, ih]; omega
set_option maxHeartbeats 2000000 in
theorem weighTexts_any (l : List ByteArray) (v : Value) (n : Int) (w : World) (h0 : 0 ≤ n) (h1 : n ≤ 20001) (hl : StrsAt w v l) :
    Calls Try.prog 62 #[v, .int .i64 n] w (Weighs n (wtTs l) w) := by
  obtain ⟨a, cap, rfl, hc1, hc2⟩ := hl.form
  have HL := Lib.hid hl
  clear hl
  go_enter Try.func62, Try.ntmps62
  go_wp2_with fail
  go_loopw [1, 5] (fun mv i wr => ∃ (k : Nat) (m : Int), k ≤ l.length ∧ i = .int .i64 k ∧ mv = .int .i64 m ∧ 0 ≤ m ∧ m ≤ 20001 ∧ (m ≤ 20000 → m = n + wtTs (l.take k)) ∧ Below w.heap.size w wr) (fun _ i _ => (l.length - intOf i).toNat)
  case atStart => exact ⟨0, n, by omega, rfl, rfl, h0, h1, fun h => by simp [wtTs], Below.refl _ _⟩
  case round =>
    obtain ⟨k, m, hk, rfl, rfl, hm0, hm1, hm2, hbel⟩ := hrel
    have HM := Lib.hid hm2
    have HBel := Lib.hid hbel
    clear hm2
    by_cases hlt : k < l.length
    · have hlt' : (k : Int) < (l.length : Int) := by omega
      have hne : l ≠ [] := by intro h; rw [h] at hlt; simp at hlt
      by_cases hmost : m ≤ 20000
      · obtain ⟨g, off, cap', hv, hcells⟩ := (HL.out.next hbel).cells hne
        simp only [Value.slice.injEq] at hv
        obtain ⟨rfl, -, rfl⟩ := hv
        obtain ⟨hs, c0⟩ := hcells k hlt
        obtain ⟨s, hs2⟩ : ∃ s, Hid (l[k] = s) := ⟨_, Lib.hid rfl⟩
        rw [hs2.out] at c0 hs
        have hb := wtT_bd s m hm0
        obtain ⟨t, ht⟩ : ∃ t, Hid (wtT s m = t) := ⟨_, Lib.hid rfl⟩
        rw [ht.out] at hb
        obtain ⟨hb0, hb1, hb2⟩ := hb
        have HB2 := Lib.hid hb2
        clear hcells hne hbel hb2
        go_wp2_with fail
        refine (weighText_any _ _ _ hm0 hm1 hs).mono ?_
        rintro e w' ⟨rfl, rfl⟩
        rw [ht.out]
        go_wp2_with fail
        go_roundw
        case rel =>
          refine ⟨k + 1, t, by omega, by go_num, rfl, hb0, hb1, fun h => ?_, HBel.out⟩
          have h1 := HB2.out h
          have h2 := HM.out hmost
          rw [wtTs_take hlt, hs2.out]
          push_cast
          omega
        case measure => simp [intOf]; omega
      · have hmost' : ¬ m ≤ 20000 := hmost
        clear hbel
        go_wp2_with fail
        go_ret
        exact ⟨m, hm0, hm1, fun h => by omega, rfl, HBel.out⟩
    · have hlt' : ¬ (k : Int) < (l.length : Int) := by omega
      clear hbel
      go_wp2_with fail
      go_ret
      refine ⟨m, hm0, hm1, fun h => ?_, rfl, HBel.out⟩
      have h2 := HM.out h
      rw [List.take_of_length_le (by omega)] at h2
      exact h2
set_option maxHeartbeats 4000000 in
set_option maxRecDepth 100000 in
theorem weighStmts_any : ∀ (d : Nat) (l : List St) (v : Value) (n : Int) (w : World), 0 ≤ n → n ≤ 20001 → StC (cw w) d v l →
    Calls Try.prog 64 #[v, .int .i64 n] w (Weighs n (wtL l) w) := by
  intro d
  induction d with
  | zero => intro l v n w _ _ h; exact h.elim
  | succ d ih =>
    intro l v n w h0 h1 hl
    have IH := Lib.hid ih
    obtain ⟨a, cap, rfl, hc1, hc2⟩ := hl.form
    have HL := Lib.hid hl
    clear ih hl
    go_enter Try.func64, Try.ntmps64
    go_wp2_with fail
    go_loopw [1, 5] (fun mv i wr => ∃ (k : Nat) (m : Int), k ≤ l.length ∧ i = .int .i64 k ∧ mv = .int .i64 m ∧ 0 ≤ m ∧ m ≤ 20001 ∧ (m ≤ 20000 → m = n + wtL (l.take k)) ∧ Below w.heap.size w wr) (fun _ i _ => (l.length - intOf i).toNat)
    case atStart => exact ⟨0, n, by omega, rfl, rfl, h0, h1, fun h => by simp [wtL], Below.refl _ _⟩
    case round =>
      obtain ⟨k, m, hk, rfl, rfl, hm0, hm1, hm2, hbel⟩ := hrel
      have HM := Lib.hid hm2
      have HBel := Lib.hid hbel
      obtain ⟨w0, hw0⟩ : ∃ w0 : World, w0 = wr := ⟨_, rfl⟩
      subst hw0
      clear hm2
      by_cases hlt : k < l.length
      · have hlt' : (k : Int) < (l.length : Int) := by omega
        by_cases hmost : m ≤ 20000
        · have h0k : (0 : Int) ≤ (k : Int) := by omega
          have hnel : l ≠ [] := by intro h; rw [h] at hlt; simp at hlt
          obtain ⟨g, off, capg, hvg, _, hcellsg⟩ := SlAt.cells (StC.next HL.out hbel) hnel
          simp only [Value.slice.injEq] at hvg
          obtain ⟨rfl, -, rfl⟩ := hvg
          have hsts := hcellsg k hlt
          obtain ⟨s, hs⟩ : ∃ s, Hid (l[k] = s) := ⟨_, Lib.hid rfl⟩
          rw [hs.out] at hsts
          obtain ⟨lv, av, tv, ev, p0, p1, p2, p3, p4, ⟨kv, p5, p6, p7, p8, hok, hk1⟩, p9, p10, p11, p12, j1, j2, j3, j4, hl1, ha1, ht1, he1⟩ := hsts
          obtain ⟨la, lc, rfl, bl1, bl2⟩ := hl1.form
          obtain ⟨aa, ac, rfl, ba1, ba2⟩ := ha1.form
          obtain ⟨ta, tc, rfl, bt1, bt2⟩ := ht1.form
          obtain ⟨ea, ec, rfl, be1, be2⟩ := he1.form
          have HML := Lib.hid (Nat.le_trans bl1 bl2)
          have HMA := Lib.hid (Nat.le_trans ba1 ba2)
          have HMT := Lib.hid (Nat.le_trans bt1 bt2)
          have HME := Lib.hid (Nat.le_trans be1 be2)
          clear bl1 bl2 ba1 ba2 bt1 bt2 be1 be2
          obtain ⟨ka, kc, rfl, -, -⟩ := hk1.form
          have e0 : w0.cell? ⟨g, off + k * 13, none⟩ = _ := p0
          have e1 : w0.cell? ⟨g, off + k * 13 + 1, none⟩ = _ := p1
          have e2 : w0.cell? ⟨g, off + k * 13 + 2, none⟩ = _ := p2
          have e3 : w0.cell? ⟨g, off + k * 13 + 3, none⟩ = _ := p3
          have e4 : w0.cell? ⟨g, off + k * 13 + 4, none⟩ = _ := p4
          have e5 : w0.cell? ⟨g, off + k * 13 + 5, none⟩ = _ := p5
          have e6 : w0.cell? ⟨g, off + k * 13 + 6, none⟩ = _ := p6
          have e7 : w0.cell? ⟨g, off + k * 13 + 7, none⟩ = _ := p7
          have e8 : w0.cell? ⟨g, off + k * 13 + 8, none⟩ = _ := p8
          have e9 : w0.cell? ⟨g, off + k * 13 + 9, none⟩ = _ := p9
          have e10 : w0.cell? ⟨g, off + k * 13 + 10, none⟩ = _ := p10
          have e11 : w0.cell? ⟨g, off + k * 13 + 11, none⟩ = _ := p11
          have e12 : w0.cell? ⟨g, off + k * 13 + 12, none⟩ = _ := p12
          have HLB := Lib.hid hl1
          have HKB := Lib.hid hk1
          have HAB := Lib.hid ha1
          have HTB := Lib.hid ht1
          have HEB := Lib.hid he1
          have HOK := Lib.hid hok
          have HJ1 := Lib.hid j1
          have HJ2 := Lib.hid j2
          have HJ3 := Lib.hid j3
          have HJ4 := Lib.hid j4
          clear hcellsg hnel p0 p1 p2 p3 p4 p5 p6 p7 p8 p9 p10 p11 p12 hok hk1 hl1 ha1 ht1 he1 j1 j2 j3 j4
          clear hbel
          go_upto_region 5 with fail
          refine cut_world (fun wx => Below w0.heap.size w0 wx ∧ w0.heap.size < wx.heap.size ∧ BoxAt wx w0.heap.size (stCells s (.slice ka s.x.ks.length kc) (.slice la s.labels.length lc) (.slice aa s.args.length ac) (.slice ta s.thn.length tc) (.slice ea s.els.length ec))) ⟨?_, ?_, ?_⟩ ?_
          · first | exact boxed _ _ | exact (boxed _ _).drew
          · simp
          · first | exact box_new w0 #[.int .i64 s.id, .int .i64 s.kind, .slice la s.labels.length lc, .string s.nm, .string s.proc, .int .i64 s.x.op, .int .i64 s.x.n, .string s.x.nm, .slice ka s.x.ks.length kc, .bool s.has, .slice aa s.args.length ac, .slice ta s.thn.length tc, .slice ea s.els.length ec] 41 | exact (box_new w0 #[.int .i64 s.id, .int .i64 s.kind, .slice la s.labels.length lc, .string s.nm, .string s.proc, .int .i64 s.x.op, .int .i64 s.x.n, .string s.x.nm, .slice ka s.x.ks.length kc, .bool s.has, .slice aa s.args.length ac, .slice ta s.thn.length tc, .slice ea s.els.length ec] 41).next ((Below.refl _ _).drew)
          clear e0 e1 e2 e3 e4 e5 e6 e7 e8 e9 e10 e11 e12
          rintro w1 ⟨hb, hz, hbx⟩
          have HB := Lib.hid (HBel.out.trans (hb.mono HBel.out.size))
          have HBX := Lib.hid hbx
          have HLB1 := Lib.hid (StrC.to (StrC.mono (cw_next hb) HLB.out))
          have HKB1 := Lib.hid (ExC.to (ExC.mono (cw_next hb) HKB.out))
          have HAB1 := Lib.hid (SlAt.imp HAB.out (fun _ _ _ _ => ArAt.mono (cw_next hb)))
          have HTB1 := Lib.hid (StC.next HTB.out hb)
          have HEB1 := Lib.hid (StC.next HEB.out hb)
          have hb0 := hb
          clear hb hbx HLB HKB HAB HTB HEB
          have hq : Below w1.heap.size w1 w1.drew := (Below.refl _ _).drew
          go_region_held3 (fun w' => w'.cell? ⟨w0.heap.size, 2, none⟩ = some (.slice la s.labels.length lc) ∧ w'.cell? ⟨w0.heap.size, 3, none⟩ = some (.string s.nm) ∧ w'.cell? ⟨w0.heap.size, 4, none⟩ = some (.string s.proc) ∧ w'.cell? ⟨w0.heap.size, 5, none⟩ = some (.int .i64 s.x.op) ∧ w'.cell? ⟨w0.heap.size, 6, none⟩ = some (.int .i64 s.x.n) ∧ w'.cell? ⟨w0.heap.size, 7, none⟩ = some (.string s.x.nm) ∧ w'.cell? ⟨w0.heap.size, 8, none⟩ = some (.slice ka s.x.ks.length kc) ∧ Below w1.heap.size w1 w')
            (exact ⟨cell_next hq (HBX.out 2 _ rfl), cell_next hq (HBX.out 3 _ rfl), cell_next hq (HBX.out 4 _ rfl), cell_next hq (HBX.out 5 _ rfl), cell_next hq (HBX.out 6 _ rfl), cell_next hq (HBX.out 7 _ rfl), cell_next hq (HBX.out 8 _ rfl), hq⟩)
            (first
              | (go_split_ands; go_at_call 115; refine (weighExpr_any d s.x _ m _ hm0 hm1 HOK.out (HKB1.out.next (by assumption))).mono ?_; rintro e w8 ⟨m1, a1, b1, c1, rfl, hb8⟩; have C1 := Lib.hid c1; clear c1; have hq := below_then hb8 (by assumption))
              | (go_split_ands; go_at_call 62; refine (weighTexts_any s.labels _ m1 _ a1 b1 (HLB1.out.next (by assumption))).mono ?_; rintro e w8 ⟨m2, a2, b2, c2, rfl, hb8⟩; have C2 := Lib.hid c2; clear c2; have hq := below_then hb8 (by assumption))
              | (go_split_ands; go_at_call 63; refine (weighText_any _ _ _ ?_ ?_ ?_).mono ?_
                 · first | exact t3a | exact a2
                 · first | exact t3b | exact b2
                 · first | exact HJ3.out | exact HJ4.out
                 rintro e w8 ⟨rfl, rfl⟩
                 first
                   | (obtain ⟨t3, ht3⟩ : ∃ t, wtT s.nm m2 = t := ⟨_, rfl⟩; have bd := wtT_bd s.nm m2 a2; rw [ht3] at bd ⊢; obtain ⟨t3a, t3b, bd⟩ := bd; have t3c := Lib.hid bd; clear bd ht3)
                   | (obtain ⟨t4, ht4⟩ : ∃ t, wtT s.proc t3 = t := ⟨_, rfl⟩; have bd := wtT_bd s.proc t3 t3a; rw [ht4] at bd ⊢; obtain ⟨t4a, t4b, bd⟩ := bd; have t4c := Lib.hid bd; clear bd ht4)))
          all_goals
            obtain ⟨w2, hw2⟩ : ∃ w2 : World, w2 = w8 := ⟨_, rfl⟩
            subst hw2
            have HQ := Lib.hid hq
            have n10 := cell_next hq (HBX.out 10 _ rfl)
            have HT4 : Hid (t4 ≤ 20000 → t4 = m + (wt s.x + wtTs s.labels + (1 + s.nm.size) + (1 + s.proc.size))) := Lib.hid fun h => by
              have h4 := t4c.out h
              have h3 := t3c.out (by omega)
              have h2 := C2.out (by omega)
              have h1 := C1.out (by omega)
              omega
            clear t3c t4c C1 C2 t3a t3b a1 a2 b1 b2 hq
            go_wp2_with fail
            go_loopw [1, 7] (fun mv i wr => ∃ (q : Nat) (r : Int), q ≤ s.args.length ∧ i = .int .i64 q ∧ mv = .int .i64 r ∧ 0 ≤ r ∧ r ≤ 20001 ∧ (r ≤ 20000 → r = t4 + ((s.args.take q).map wtAr).sum) ∧ Below w1.heap.size w1 wr) (fun _ i _ => (s.args.length - intOf i).toNat)
            case atStart => exact ⟨0, t4, by omega, rfl, rfl, t4a, t4b, fun h => by simp, HQ.out⟩
            case round =>
              obtain ⟨q, r, hq, rfl, rfl, hr0, hr1, hr2, hb2⟩ := hrel
              have HR := Lib.hid hr2
              have HB2 := Lib.hid hb2
              have m10 := cell_next hb2 (HBX.out 10 _ rfl)
              obtain ⟨w3, hw3⟩ : ∃ w3 : World, w3 = wr := ⟨_, rfl⟩
              subst hw3
              clear hr2 n10
              by_cases hqt : q < s.args.length
              · have hqt' : (q : Int) < (s.args.length : Int) := by omega
                have h0q : (0 : Int) ≤ (q : Int) := by omega
                by_cases hrm : r ≤ 20000
                · obtain ⟨g2, off2, cap2, hv2, _, hcs⟩ := SlAt.cells (SlAt.imp HAB1.out (fun _ _ _ _ => ArAt.mono (cw_next hb2))) (show s.args ≠ [] from by intro h; rw [h] at hqt; simp at hqt)
                  simp only [Value.slice.injEq] at hv2
                  obtain ⟨rfl, -, rfl⟩ := hv2
                  have hat := hcs q hqt
                  obtain ⟨b, hb⟩ : ∃ b, Hid (s.args[q] = b) := ⟨_, Lib.hid rfl⟩
                  rw [hb.out] at hat
                  obtain ⟨-, x1, hx1, kv2, x2, x3, x4, x5, hok2, hk2⟩ := hat
                  obtain ⟨ka2, kc2, rfl, -, -⟩ := hk2.form
                  have z1 : w3.cell? ⟨g2, off2 + q * 6 + 1, none⟩ = _ := x1
                  have z2 : w3.cell? ⟨g2, off2 + q * 6 + 2, none⟩ = _ := x2
                  have z3 : w3.cell? ⟨g2, off2 + q * 6 + 2 + 1, none⟩ = _ := x3
                  have z4 : w3.cell? ⟨g2, off2 + q * 6 + 2 + 2, none⟩ = _ := x4
                  have z5 : w3.cell? ⟨g2, off2 + q * 6 + 2 + 3, none⟩ = _ := x5
                  have HZ1 := Lib.hid z1
                  have HZ2 := Lib.hid z2
                  have HZ3 := Lib.hid z3
                  have HZ4 := Lib.hid z4
                  have HZ5 := Lib.hid z5
                  have HM10 := Lib.hid m10
                  have HOK2 := Lib.hid hok2
                  have HK2 := Lib.hid hk2.to
                  clear hcs x1 x2 x3 x4 x5 hok2 hk2
                  have hq3 : Below w3.heap.size w3 w3.drew := (Below.refl _ _).drew
                  go_upto_region 9 with fail
                  go_region_held3 (fun w' => w'.cell? ⟨w0.heap.size, 10, none⟩ = some (.slice (some ⟨g2, off2, none⟩) s.args.length ac) ∧ w'.cell? ⟨g2, off2 + q * 6 + 1, none⟩ = some (.string b.nm) ∧ w'.cell? ⟨g2, off2 + q * 6 + 2, none⟩ = some (.int .i64 b.x.op) ∧ w'.cell? ⟨g2, off2 + q * 6 + 3, none⟩ = some (.int .i64 b.x.n) ∧ w'.cell? ⟨g2, off2 + q * 6 + 4, none⟩ = some (.string b.x.nm) ∧ w'.cell? ⟨g2, off2 + q * 6 + 5, none⟩ = some (.slice ka2 b.x.ks.length kc2) ∧ Below w3.heap.size w3 w')
                    (exact ⟨cell_next hq3 HM10.out, cell_next hq3 HZ1.out, cell_next hq3 HZ2.out, cell_next hq3 HZ3.out, cell_next hq3 HZ4.out, cell_next hq3 HZ5.out, hq3⟩)
                    (first
                      | (go_split_ands; go_at_call 115; refine (weighExpr_any d b.x _ r _ hr0 hr1 HOK2.out (HK2.out.next (by assumption))).mono ?_; rintro e w8 ⟨m1, a1, b1, c1, rfl, hb8⟩; have C1 := Lib.hid c1; clear c1; have hq3 := below_then hb8 (by assumption))
                      | (go_split_ands; go_at_call 63; refine (weighText_any b.nm m1 _ a1 b1 hx1).mono ?_; rintro e w8 ⟨rfl, rfl⟩; obtain ⟨t5, ht5⟩ : ∃ t, wtT b.nm m1 = t := ⟨_, rfl⟩; have bd := wtT_bd b.nm m1 a1; rw [ht5] at bd ⊢; obtain ⟨t5a, t5b, bd⟩ := bd; have t5c := Lib.hid bd; clear bd ht5))
                  all_goals
                    have HQ3 := Lib.hid hq3
                    have HT5 : Hid (t5 ≤ 20000 → t5 = r + wtAr b) := Lib.hid fun h => by
                      have h2 := t5c.out h
                      have h1 := C1.out (by omega)
                      unfold wtAr
                      cases b
                      simp only [Ar.x, Ar.nm] at *
                      omega
                    clear t5c C1 a1 b1 hq3
                    have hma := HMA.out
                    go_wp2_with fail
                    go_roundw
                    case rel =>
                      refine ⟨q + 1, t5, by omega, by go_num, rfl, t5a, t5b, fun h => ?_, HB2.out.trans (HQ3.out.mono HB2.out.size)⟩
                      have h1 := HT5.out h
                      have h2 := HR.out hrm
                      rw [List.take_succ_eq_append_getElem hqt, List.map_append, List.sum_append, hb.out]
                      simp only [List.map_cons, List.map_nil, List.sum_cons, List.sum_nil]
                      push_cast
                      omega
                    case measure => simp [intOf]; omega
                · have hrm' : ¬ r ≤ 20000 := hrm
                  go_upto_region 10 with fail
                  have m11 := cell_next hb2 (HBX.out 11 _ rfl)
                  have m12 := cell_next hb2 (HBX.out 12 _ rfl)
                  have HM11 := Lib.hid m11
                  have HM12 := Lib.hid m12
                  have hq3 : Below w3.heap.size w3 w3.drew := (Below.refl _ _).drew
                  go_region_held3 (fun w' => w'.cell? ⟨w0.heap.size, 11, none⟩ = some (.slice ta s.thn.length tc) ∧ w'.cell? ⟨w0.heap.size, 12, none⟩ = some (.slice ea s.els.length ec) ∧ Below w3.heap.size w3 w')
                    (exact ⟨cell_next hq3 HM11.out, cell_next hq3 HM12.out, hq3⟩)
                    ((go_split_ands; go_at_call 64
                      first
                       | (refine (IH.out s.els _ f1 _ f1a f1b (HEB1.out.next (HB2.out.trans ((‹Below w3.heap.size w3 _›).mono HB2.out.size)))).mono ?_; rintro e w8 ⟨f2, f2a, f2b, c2, rfl, hb8⟩; have F2 := Lib.hid c2; clear c2; have hq3 := below_then hb8 (by assumption))
                       | (refine (IH.out s.thn _ r _ hr0 hr1 (HTB1.out.next (HB2.out.trans ((‹Below w3.heap.size w3 _›).mono HB2.out.size)))).mono ?_; rintro e w8 ⟨f1, f1a, f1b, c1, rfl, hb8⟩; have F1 := Lib.hid c1; clear c1; have hq3 := below_then hb8 (by assumption))))
                  all_goals
                    have HQ3 := Lib.hid hq3
                    clear hq3
                    go_wp2_with fail
                    go_roundw
                    case rel =>
                      refine ⟨k + 1, f2, by omega, by go_num, rfl, f2a, f2b, fun h => ?_, HB.out.trans ((HB2.out.trans (HQ3.out.mono HB2.out.size)).mono HB.out.size)⟩
                      have h2 := F2.out h
                      have h1 := F1.out (by omega)
                      have h3 := HR.out (by omega)
                      have h4 := HT4.out (by omega)
                      have h5 := HM.out (by omega)
                      rw [List.take_succ_eq_append_getElem hlt, wtL_snoc, hs.out, wtS_eq]
                      push_cast
                      clear hrm
                      omega
                    case measure => simp [intOf]; omega
              · have hqt' : ¬ (q : Int) < (s.args.length : Int) := by omega
                go_upto_region 10 with fail
                have m11 := cell_next hb2 (HBX.out 11 _ rfl)
                have m12 := cell_next hb2 (HBX.out 12 _ rfl)
                have HM11 := Lib.hid m11
                have HM12 := Lib.hid m12
                have hq3 : Below w3.heap.size w3 w3.drew := (Below.refl _ _).drew
                go_region_held3 (fun w' => w'.cell? ⟨w0.heap.size, 11, none⟩ = some (.slice ta s.thn.length tc) ∧ w'.cell? ⟨w0.heap.size, 12, none⟩ = some (.slice ea s.els.length ec) ∧ Below w3.heap.size w3 w')
                  (exact ⟨cell_next hq3 HM11.out, cell_next hq3 HM12.out, hq3⟩)
                  ((go_split_ands; go_at_call 64
                    first
                     | (refine (IH.out s.els _ f1 _ f1a f1b (HEB1.out.next (HB2.out.trans ((‹Below w3.heap.size w3 _›).mono HB2.out.size)))).mono ?_; rintro e w8 ⟨f2, f2a, f2b, c2, rfl, hb8⟩; have F2 := Lib.hid c2; clear c2; have hq3 := below_then hb8 (by assumption))
                     | (refine (IH.out s.thn _ r _ hr0 hr1 (HTB1.out.next (HB2.out.trans ((‹Below w3.heap.size w3 _›).mono HB2.out.size)))).mono ?_; rintro e w8 ⟨f1, f1a, f1b, c1, rfl, hb8⟩; have F1 := Lib.hid c1; clear c1; have hq3 := below_then hb8 (by assumption))))
                all_goals
                  have HQ3 := Lib.hid hq3
                  clear hq3
                  go_wp2_with fail
                  go_roundw
                  case rel =>
                    refine ⟨k + 1, f2, by omega, by go_num, rfl, f2a, f2b, fun h => ?_, HB.out.trans ((HB2.out.trans (HQ3.out.mono HB2.out.size)).mono HB.out.size)⟩
                    have h2 := F2.out h
                    have h1 := F1.out (by omega)
                    have h3 := HR.out (by omega)
                    have h4 := HT4.out (by omega)
                    have h5 := HM.out (by omega)
                    rw [List.take_succ_eq_append_getElem hlt, wtL_snoc, hs.out, wtS_eq]
                    push_cast
                    rw [List.take_of_length_le (by omega)] at h3
                    omega
                  case measure => simp [intOf]; omega
        · have hmost' : ¬ m ≤ 20000 := hmost
          clear hbel
          go_wp2_with fail
          go_ret
          exact ⟨m, hm0, hm1, fun h => by omega, rfl, HBel.out⟩
      · have hlt' : ¬ (k : Int) < (l.length : Int) := by omega
        clear hbel
        go_wp2_with fail
        go_ret
        refine ⟨m, hm0, hm1, fun h => ?_, rfl, HBel.out⟩
        have h2 := HM.out h
        rw [List.take_of_length_le (by omega)] at h2
        exact h2
def wtPc (f : Pc) : Nat := (1 + f.nm.size) + wtTs f.vars + wtTs f.fin + (f.params.map fun x => 1 + x.nm.size).sum + wtL f.body
def wtPr (p : Pr) : Nat := wtTs p.globals + (p.procs.map wtPc).sum
theorem sum_mem {α : Type} (f : α → Nat) : ∀ (l : List α) (x : α), x ∈ l → f x ≤ (l.map f).sum := by
  intro l
  induction l with
  | nil => intro x h; cases h
  | cons a r ih =>
    intro x h
    rw [List.map_cons, List.sum_cons]
    rcases List.mem_cons.1 h with rfl | h
    · omega
    · have := ih x h; omega
set_option maxHeartbeats 4000000 in
set_option maxRecDepth 100000 in
theorem fits_any (d : Nat) (p : Pr) (gv pv : Value) (w : World) (hp : PrC (cw w) d gv pv p) :
    Calls Try.prog 17 #[.agg #[gv, pv]] w (Fitting (wtPr p) w) := by
  obtain ⟨ga, gc, rfl, -, -⟩ := hp.1.form
  obtain ⟨pa, pc, rfl, hc1, hc2⟩ := hp.2.form
  have hbox := boxed w (.cells #[.slice ga p.globals.length gc, .slice pa p.procs.length pc] 25)
  have HB := Lib.hid hbox
  have HP := Lib.hid (PrC.mono (cw_next hbox) hp)
  have HLEN := Lib.hid (Nat.le_trans hc1 hc2)
  clear hbox hp
  go_enter Try.func17, Try.ntmps17
  go_wp2_with fail
  refine (weighTexts_any p.globals _ 0 _ (by omega) (by omega) (StrC.to HP.out.1)).mono ?_
  rintro e w1 ⟨m0, a0, b0, c0, rfl, hb⟩
  have C0 := Lib.hid c0
  have g1 := cell_next (g := w.heap.size) (j := 1) (u := .slice pa p.procs.length pc) hb (by simp [go_sem])
  have HG1 := Lib.hid g1
  replace HP := Lib.hid (PrC.mono (cw_next hb) HP.out)
  replace HB := Lib.hid (HB.out.trans (hb.mono HB.out.size))
  clear hb c0
  go_wp2_with fail
  go_loopw [3, 4] (fun mv i wr => ∃ (k : Nat) (m : Int), k ≤ p.procs.length ∧ i = .int .i64 k ∧ mv = .int .i64 m ∧ 0 ≤ m ∧ m ≤ 20001 ∧ (m ≤ 20000 → m = wtTs p.globals + ((p.procs.take k).map wtPc).sum) ∧ Below w1.heap.size w1 wr) (fun _ i _ => (p.procs.length - intOf i).toNat)
  case atStart => exact ⟨0, m0, by omega, rfl, rfl, a0, b0, fun h => by have := C0.out h; simp; omega, Below.refl _ _⟩
  case round =>
    obtain ⟨k, m, hk, rfl, rfl, hm0, hm1, hm2, hbel⟩ := hrel
    have HM := Lib.hid hm2
    have HBel := Lib.hid hbel
    have g1 := cell_next hbel HG1.out
    have hlen := HLEN.out
    obtain ⟨w0, hw0⟩ : ∃ w0 : World, w0 = wr := ⟨_, rfl⟩
    subst hw0
    clear hm2
    by_cases hlt : k < p.procs.length
    · have hlt' : (k : Int) < (p.procs.length : Int) := by omega
      by_cases hmost : m ≤ 20000
      · have h0k : (0 : Int) ≤ (k : Int) := by omega
        have hne : p.procs ≠ [] := by intro h; rw [h] at hlt; simp at hlt
        obtain ⟨g, off, cap', hv, _, hcells⟩ := SlAt.cells (PrC.mono (cw_next hbel) HP.out).2 hne
        simp only [Value.slice.injEq] at hv
        obtain ⟨rfl, -, rfl⟩ := hv
        have hat := hcells k hlt
        obtain ⟨f, hf⟩ : ∃ f, Hid (p.procs[k] = f) := ⟨_, Lib.hid rfl⟩
        rw [hf.out] at hat
        obtain ⟨pv, vv, bv, fv, p0, p1, p2, p3, p4, hnm, hps, hvs, hbody, hfin⟩ := hat
        obtain ⟨a1, c1, rfl, bp1, bp2⟩ := hps.form
        obtain ⟨a2, c2, rfl, -, -⟩ := hvs.form
        obtain ⟨a3, c3, rfl, -, -⟩ := hbody.form
        obtain ⟨a4, c4, rfl, -, -⟩ := hfin.form
        have e0 : w0.cell? ⟨g, off + k * 5, none⟩ = _ := p0
        have e1 : w0.cell? ⟨g, off + k * 5 + 1, none⟩ = _ := p1
        have e2 : w0.cell? ⟨g, off + k * 5 + 2, none⟩ = _ := p2
        have e3 : w0.cell? ⟨g, off + k * 5 + 3, none⟩ = _ := p3
        have e4 : w0.cell? ⟨g, off + k * 5 + 4, none⟩ = _ := p4
        have HPS := Lib.hid hps
        have HVS := Lib.hid hvs
        have HBODY := Lib.hid hbody
        have HFIN := Lib.hid hfin
        have HPL := Lib.hid (Nat.le_trans bp1 bp2)
        clear hcells hne p0 p1 p2 p3 p4 hps hvs hbody hfin hbel bp1 bp2
        go_upto_region 6 with fail
        refine cut_world (fun wx => Below w0.heap.size w0 wx ∧ w0.heap.size < wx.heap.size ∧ BoxAt wx w0.heap.size [.string f.nm, .slice a1 f.params.length c1, .slice a2 f.vars.length c2, .slice a3 f.body.length c3, .slice a4 f.fin.length c4]) ⟨?_, ?_, ?_⟩ ?_
        · exact boxed _ _
        · simp
        · exact box_new w0 #[.string f.nm, .slice a1 f.params.length c1, .slice a2 f.vars.length c2, .slice a3 f.body.length c3, .slice a4 f.fin.length c4] 55
        clear e0 e1 e2 e3 e4 g1
        rintro w2 ⟨hb, hz, hbx⟩
        have HB2 := Lib.hid (HBel.out.trans (hb.mono HBel.out.size))
        have HBX := Lib.hid hbx
        have HPS2 := Lib.hid (SlAt.imp HPS.out (fun _ _ _ _ => PaAt.mono (cw_next hb)))
        have HVS2 := Lib.hid (StrC.to (StrC.mono (cw_next hb) HVS.out))
        have HBODY2 := Lib.hid (StC.next HBODY.out hb)
        have HFIN2 := Lib.hid (StrC.to (StrC.mono (cw_next hb) HFIN.out))
        clear hb hbx HPS HVS HBODY HFIN
        have hq : Below w2.heap.size w2 w2.drew := (Below.refl _ _).drew
        go_region_held3 (fun w' => w'.cell? ⟨w0.heap.size, 0, none⟩ = some (.string f.nm) ∧ w'.cell? ⟨w0.heap.size, 2, none⟩ = some (.slice a2 f.vars.length c2) ∧ w'.cell? ⟨w0.heap.size, 4, none⟩ = some (.slice a4 f.fin.length c4) ∧ Below w2.heap.size w2 w')
          (exact ⟨cell_next hq (HBX.out 0 _ rfl), cell_next hq (HBX.out 2 _ rfl), cell_next hq (HBX.out 4 _ rfl), hq⟩)
          (first
            | (go_split_ands; go_at_call 63; refine (weighText_any _ _ _ hm0 hm1 hnm).mono ?_; rintro e w8 ⟨rfl, rfl⟩; obtain ⟨t6, ht6⟩ : ∃ t, wtT f.nm m = t := ⟨_, rfl⟩; have bd := wtT_bd f.nm m hm0; rw [ht6] at bd ⊢; obtain ⟨t6a, t6b, bd⟩ := bd; have t6c := Lib.hid bd; clear bd ht6)
            | ((go_split_ands; go_at_call 62
                first
                  | (refine (weighTexts_any f.fin _ _ _ y1a y1b (HFIN2.out.next (by assumption))).mono ?_; rintro e w8 ⟨y2, y2a, y2b, y2c, rfl, hb8⟩; have Y2 := Lib.hid y2c; clear y2c; have hq := below_then hb8 (by assumption))
                  | (refine (weighTexts_any f.vars _ _ _ t6a t6b (HVS2.out.next (by assumption))).mono ?_; rintro e w8 ⟨y1, y1a, y1b, y1c, rfl, hb8⟩; have Y1 := Lib.hid y1c; clear y1c; have hq := below_then hb8 (by assumption)))))
        all_goals
          obtain ⟨w3, hw3⟩ : ∃ w3 : World, w3 = w8 := ⟨_, rfl⟩
          subst hw3
          have HQ := Lib.hid hq
          have nn1 := cell_next hq (HBX.out 1 _ rfl)
          have HT4 : Hid (y2 ≤ 20000 → y2 = m + ((1 + f.nm.size + wtTs f.vars + wtTs f.fin : Nat) : Int)) := Lib.hid fun h => by
            have h4 := Y2.out h
            have h3 := Y1.out (by omega)
            have h2 := t6c.out (by omega)
            omega
          clear t6c Y1 Y2 t6a y1a t6b y1b hq
          go_wp2_with fail
          go_loopw [3, 6] (fun mv i wr => ∃ (q : Nat) (r : Int), q ≤ f.params.length ∧ i = .int .i64 q ∧ mv = .int .i64 r ∧ 0 ≤ r ∧ r ≤ 20001 ∧ (r ≤ 20000 → r = y2 + ((((f.params.take q).map fun x => 1 + x.nm.size).sum : Nat) : Int)) ∧ Below w2.heap.size w2 wr) (fun _ i _ => (f.params.length - intOf i).toNat)
          case atStart => exact ⟨0, y2, by omega, rfl, rfl, y2a, y2b, fun h => by simp, HQ.out⟩
          case round =>
            obtain ⟨q, r, hq, rfl, rfl, hr0, hr1, hr2, hb2⟩ := hrel
            have HR := Lib.hid hr2
            have HB3 := Lib.hid hb2
            have m1 := cell_next hb2 (HBX.out 1 _ rfl)
            have m3 := cell_next hb2 (HBX.out 3 _ rfl)
            have hpl := HPL.out
            clear hr2 nn1
            by_cases hqt : q < f.params.length
            · have hqt' : (q : Int) < (f.params.length : Int) := by omega
              have h0q : (0 : Int) ≤ (q : Int) := by omega
              by_cases hrm : r ≤ 20000
              · obtain ⟨g2, off2, cap2, hv2, _, hcs⟩ := SlAt.cells (SlAt.imp HPS2.out (fun _ _ _ _ => PaAt.mono (cw_next hb2))) (show f.params ≠ [] from by intro h; rw [h] at hqt; simp at hqt)
                simp only [Value.slice.injEq] at hv2
                obtain ⟨rfl, -, rfl⟩ := hv2
                have hat := hcs q hqt
                obtain ⟨b, hb⟩ : ∃ b, Hid (f.params[q] = b) := ⟨_, Lib.hid rfl⟩
                rw [hb.out] at hat
                obtain ⟨x0, -, hx0⟩ := hat
                have z0 : wr.cell? ⟨g2, off2 + q * 2, none⟩ = _ := x0
                clear hcs x0 hb2
                go_wp2_with fail
                refine (weighText_any _ _ _ hr0 hr1 hx0).mono ?_
                rintro e w8 ⟨rfl, rfl⟩
                obtain ⟨t5, ht5⟩ : ∃ t, wtT b.nm r = t := ⟨_, rfl⟩
                have bd := wtT_bd b.nm r hr0
                rw [ht5] at bd ⊢
                obtain ⟨t5a, t5b, bd⟩ := bd
                have t5c := Lib.hid bd
                clear bd ht5
                go_wp2_with fail
                go_roundw
                case rel =>
                  refine ⟨q + 1, t5, by omega, by go_num, rfl, t5a, t5b, fun h => ?_, HB3.out⟩
                  have h1 := t5c.out h
                  have h2 := HR.out hrm
                  rw [List.take_succ_eq_append_getElem hqt, List.map_append, List.sum_append, hb.out]
                  simp only [List.map_cons, List.map_nil, List.sum_cons, List.sum_nil]
                  push_cast
                  omega
                case measure => simp [intOf]; omega
              · have hrm' : ¬ r ≤ 20000 := hrm
                clear hb2
                go_wp2_with fail
                refine (weighStmts_any d f.body _ r _ hr0 hr1 (HBODY2.out.next HB3.out)).mono ?_
                rintro e w8 ⟨f2, f2a, f2b, c2, rfl, hb8⟩
                have F2 := Lib.hid c2
                have HB8 := Lib.hid hb8
                clear c2 hb8
                go_wp2_with fail
                go_roundw
                case rel =>
                  refine ⟨k + 1, f2, by omega, by go_num, rfl, f2a, f2b, fun h => ?_, HB2.out.trans ((HB3.out.trans (HB8.out.mono HB3.out.size)).mono HB2.out.size)⟩
                  have h2 := F2.out h
                  have h3 := HR.out (by omega)
                  have h4 := HT4.out (by omega)
                  have h5 := HM.out (by omega)
                  rw [List.take_succ_eq_append_getElem hlt, List.map_append, List.sum_append, hf.out]
                  simp only [List.map_cons, List.map_nil, List.sum_cons, List.sum_nil]
                  rw [show wtPc f = (1 + f.nm.size) + wtTs f.vars + wtTs f.fin + (f.params.map fun x => 1 + x.nm.size).sum + wtL f.body from rfl]
                  push_cast
                  clear hrm
                  omega
                case measure => simp [intOf]; omega
            · have hqt' : ¬ (q : Int) < (f.params.length : Int) := by omega
              clear hb2
              go_wp2_with fail
              refine (weighStmts_any d f.body _ r _ hr0 hr1 (HBODY2.out.next HB3.out)).mono ?_
              rintro e w8 ⟨f2, f2a, f2b, c2, rfl, hb8⟩
              have F2 := Lib.hid c2
              have HB8 := Lib.hid hb8
              clear c2 hb8
              go_wp2_with fail
              go_roundw
              case rel =>
                refine ⟨k + 1, f2, by omega, by go_num, rfl, f2a, f2b, fun h => ?_, HB2.out.trans ((HB3.out.trans (HB8.out.mono HB3.out.size)).mono HB2.out.size)⟩
                have h2 := F2.out h
                have h3 := HR.out (by omega)
                have h4 := HT4.out (by omega)
                have h5 := HM.out (by omega)
                rw [List.take_succ_eq_append_getElem hlt, List.map_append, List.sum_append, hf.out]
                simp only [List.map_cons, List.map_nil, List.sum_cons, List.sum_nil]
                rw [show wtPc f = (1 + f.nm.size) + wtTs f.vars + wtTs f.fin + (f.params.map fun x => 1 + x.nm.size).sum + wtL f.body from rfl]
                push_cast
                rw [List.take_of_length_le (by omega)] at h3
                omega
              case measure => simp [intOf]; omega
      · have hmost' : ¬ m ≤ 20000 := hmost
        clear hbel
        go_wp2_with fail
        go_ret
        exact ⟨false, (fun h => by cases h), rfl, HB.out.trans (HBel.out.mono HB.out.size)⟩
    · have hlt' : ¬ (k : Int) < (p.procs.length : Int) := by omega
      clear hbel
      go_wp2_with fail
      go_ret
      refine ⟨decide (m ≤ 20000), fun h => ?_, rfl, HB.out.trans (HBel.out.mono HB.out.size)⟩
      have h1 : m ≤ 20000 := by simpa using h
      have h2 := HM.out h1
      rw [List.take_of_length_le (by omega)] at h2
      unfold wtPr
      omega
end Go.Proofs.Ytghlmengcidmdaa.Tr
end
