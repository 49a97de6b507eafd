/- Parts of SomeW: walks and plain laws that later texts use. Conditions: as each statement says. -/
import Derived.Test.YtghlmengcidmdaaSa0
import Derived.Test.YtghlmengcidmdaaSa1
import Derived.Test.YtghlmengcidmdaaSa2
import Derived.Test.YtghlmengcidmdaaSa3
import Derived.IntWalk
import Derived.Deep.QuietTactic
import Derived.BigQuiet
import Derived.StillTailTactics
import Derived.Deep.Slices
import Derived.Deep.Fields
import Derived.Lib.SmallJoins
import Derived.SliceStrings
import Derived.ChangeSlices
import Derived.WalkKit
import Derived.Test.YtghlmengcidmdaaRows
import Derived.WalkSpells
import Derived.Lib.Hide
import Derived.Below
import Derived.WalkSmall
import Derived.Laws.BitsAllLaws
/- What num, name, two, Some of the reference make: small expressions, a program. Conditions: none. -/
namespace Go.Proofs.Ytghlmengcidmdaa.Tr
open Go.RowKit Go.Proofs.Ytghlmengcidmdaa.Lx Go.Proofs.Ytghlmengcidmdaa.Wd
theorem num_any (n : Int) (w : World) : Calls Try.prog 112 #[.int .i64 n] w fun e w' => e = .returned (.agg #[.int .i64 1, .int .i64 n, .string ⟨#[]⟩, .slice none 0 0]) ∧ Below w.heap.size w w' := by
  go_enter Try.func112, Try.ntmps112
  go_wp2
  exact bodyPost_ret (v := .agg #[.int .i64 1, .int .i64 n, .string ⟨#[]⟩, .slice none 0 0]) (by simp [results, Try.results112, go_sem]) rfl ⟨rfl, (Below.refl _ _).alloc (Nat.le_refl _) _⟩
theorem name1_any (s : ByteArray) (w : World) : Calls Try.prog 113 #[.string s] w fun e w' => e = .returned (.agg #[.int .i64 2, .int .i64 0, .string s, .slice none 0 0]) ∧ Below w.heap.size w w' := by
  go_enter Try.func113, Try.ntmps113
  go_wp2
  exact bodyPost_ret (v := .agg #[.int .i64 2, .int .i64 0, .string s, .slice none 0 0]) (by simp [results, Try.results113, go_sem]) rfl ⟨rfl, (Below.refl _ _).alloc (Nat.le_refl _) _⟩
/-- What two leaves. -/
def TwoMade (op : Int) (a b : Ex) (w : World) (e : Ending) (w' : World) : Prop :=
  ∃ g, e = .returned (.agg #[.int .i64 op, .int .i64 0, .string ⟨#[]⟩, .slice (some ⟨g, 0, none⟩) 2 2]) ∧ ExC (only (fun g => w.heap.size ≤ g) (cw w')) 2 (.slice (some ⟨g, 0, none⟩) 2 2) [a, b] ∧ Below w.heap.size w w'
theorem two1_any (op : Int) (a b : Ex) (w : World) (oa : OkE a) (ob : OkE b) (ha : a.ks = []) (hb : b.ks = []) :
    Calls Try.prog 114 #[.int .i64 op, exV a (.slice none 0 0), exV b (.slice none 0 0)] w (TwoMade op a b w) := by
  unfold exV
  have HA := Lib.hid ha
  have HB := Lib.hid hb
  clear ha hb
  go_enter Try.func114, Try.ntmps114
  go_wp2
  refine bodyPost_ret (v := .agg #[.int .i64 op, .int .i64 0, .string ⟨#[]⟩, .slice (some ⟨w.heap.size + 1 + 1 + 1, 0, none⟩) 2 2]) (by simp [results, Try.results114, go_sem]) rfl ⟨_, rfl, ?_, ?_⟩
  · refine ⟨_, 2, rfl, by simp, by omega, fun _ => ⟨_, 0, rfl, fun i hi => ?_⟩⟩
    match i, hi with
    | 0, _ => exact ⟨.slice none 0 0, ⟨by omega, by show World.cell? _ _ = _; simp [go_sem]⟩, ⟨by omega, by show World.cell? _ _ = _; simp [go_sem]⟩, ⟨by omega, by show World.cell? _ _ = _; simp [go_sem]⟩, ⟨by omega, by show World.cell? _ _ = _; simp [go_sem]⟩, oa, by show ExC _ 1 _ a.ks; rw [HA.out]; exact ExC.none _ 0⟩
    | 1, _ => exact ⟨.slice none 0 0, ⟨by omega, by show World.cell? _ _ = _; simp [go_sem]⟩, ⟨by omega, by show World.cell? _ _ = _; simp [go_sem]⟩, ⟨by omega, by show World.cell? _ _ = _; simp [go_sem]⟩, ⟨by omega, by show World.cell? _ _ = _; simp [go_sem]⟩, ob, by show ExC _ 1 _ b.ks; rw [HB.out]; exact ExC.none _ 0⟩
  · exact (((boxed w _).alloc (by simp) _).alloc (by simp; omega) _).alloc (by simp; omega) _
/-- The program, plainly. -/
def eNum (n : Int) : Ex := .mk 1 n ⟨#[]⟩ []
def eName (s : ByteArray) : Ex := .mk 2 0 s []
def eTwo (op : Int) (a b : Ex) : Ex := .mk op 0 ⟨#[]⟩ [a, b]
def eNone : Ex := .mk 0 0 ⟨#[]⟩ []
def noT : ByteArray := ⟨#[]⟩
def sV : ByteArray := ⟨#[118]⟩
def sG : ByteArray := ⟨#[103]⟩
def sP : ByteArray := ⟨#[112]⟩
def sX : ByteArray := ⟨#[120]⟩
def sY : ByteArray := ⟨#[121]⟩
def sE : ByteArray := ⟨#[101]⟩
def sMain : ByteArray := ⟨#[109, 97, 105, 110]⟩
def some5X : Ex := eTwo 8 (eName sY) (eName sX)
def someMain : List St := [.mk 1 1 [] sV noT (eNum 2) false [] [] [], .mk 2 4 [] sG sP eNone false [.mk false noT (eNum 3), .mk true sV eNone] [] [], .mk 3 3 [] noT noT (eName sV) false [] [] [], .mk 4 3 [] noT noT (eName sG) false [] [] []]
def someThen : List St := [.mk 7 10 [] sE noT eNone false [] [] []]
def someBody : List St := [.mk 5 1 [] sY noT some5X false [] [] [], .mk 6 5 [] noT noT (eTwo 12 (eName sY) (eNum 9)) false [] someThen [], .mk 8 9 [] noT noT (eName sY) true [] [] []]
def someP : Pr := ⟨[sG], [⟨sMain, [], [sV], someMain, []⟩, ⟨sP, [⟨sX, false⟩, ⟨sY, true⟩], [], someBody, [sE]⟩]⟩
/-- What Some leaves. -/
def SomeMade (w : World) (e : Ending) (w' : World) : Prop := ∃ gv pv, e = .returned (.agg #[gv, pv]) ∧ PrC (cw w') 3 gv pv someP ∧ Below w.heap.size w w'
theorem okName (s : ByteArray) (h : s.size ≤ 9223372036854775807) : OkE (eName s) := ⟨by show InI 2; unfold InI; omega, InI_zero, h⟩
theorem okNum (n : Int) (h : InI n) : OkE (eNum n) := ⟨by show InI 1; unfold InI; omega, h, by show (0 : Nat) ≤ _; omega⟩
/-- All cells but a block's. -/
def but (R : Nat) (w : World) : Cs := only (fun g => g ≠ R) (cw w)
theorem but_next {R : Nat} {w w' : World} (hb : Below w.heap.size w w') : Cs.le (but R w) (but R w') := only_le (fun _ h => h) (cw_next hb)
theorem one_strs {C : Cs} {g : Nat} {s : ByteArray} (hs : s.size ≤ 9223372036854775807) (h : C g 0 (.string s)) : StrC C (.slice (some ⟨g, 0, none⟩) 1 1) [s] :=
  ⟨_, 1, rfl, Nat.le_refl _, by omega, fun _ => ⟨g, 0, rfl, fun i hi => by
    obtain rfl : i = 0 := by simpa using hi
    exact ⟨h, hs⟩⟩⟩
theorem frozen_next {w w' : World} {g j : Nat} {u : Value} (hb : Below w.heap.size w w') (hc : w.cell? ⟨g, j, none⟩ = some u) (h : w.frozen? ⟨g, j, none⟩ = false) : w'.frozen? ⟨g, j, none⟩ = false :=
  (hb.frozen (p := ⟨g, j, none⟩) (cell_lt hc)).trans h
theorem cell_set {w : World} {b j : Nat} {x y : Value} (h : w.cell? ⟨b, j, none⟩ = some y) : (w.setCell ⟨b, j, none⟩ x).cell? ⟨b, j, none⟩ = some x := by
  exact World.cell?_setCell_same' _ _ _ (by rw [h]; rfl)
theorem cell_set_ne {w : World} {b j i : Nat} {x y : Value} (h : w.cell? ⟨b, j, none⟩ = some y) (hn : i ≠ j) : (w.setCell ⟨b, i, none⟩ x).cell? ⟨b, j, none⟩ = some y := by
  rw [World.cell?_setCell_other _ _ _ _ (fun e => hn (congrArg Addr.off e))]
  exact h
theorem some_le {w11 : World} {R : Nat} {G P : Value} {a b c d : Obj} : Cs.le (but R w11) (cw ((((((w11.setCell ⟨R, 0, none⟩ G).setCell ⟨R, 1, none⟩ P).alloc a).alloc b).alloc c).alloc d)) := fun g j u h =>
  cw_next (((boxed _ a).alloc (by simp) b).alloc (by simp; omega) c |>.alloc (by simp; omega) d) _ _ _ (only_out _ _ _ (only_set (fun h => h rfl) _ _ _ (only_set (fun h => h rfl) _ _ _ h)))
theorem okNone : OkE eNone := ⟨InI_zero, InI_zero, by show (0 : Nat) ≤ _; omega⟩
theorem okTwo (op : Int) (a b : Ex) (h : InI op) : OkE (eTwo op a b) := ⟨h, InI_zero, by show (0 : Nat) ≤ _; omega⟩
theorem in1 {n : Int} (h : -1000 ≤ n ∧ n ≤ 1000) : InI n := by unfold InI; omega
theorem exNone (C : Cs) (g o : Nat) (x : Ex) (hk : x.ks = []) (h0 : C g o (.int .i64 x.op)) (h1 : C g (o + 1) (.int .i64 x.n)) (h2 : C g (o + 2) (.string x.nm)) (h3 : C g (o + 3) (.slice none 0 0)) (h4 : OkE x) (d : Nat) : ExAt C (ExC C (d + 1)) g o x :=
  ⟨_, h0, h1, h2, h3, h4, by rw [hk]; exact ExC.none C d⟩
set_option maxHeartbeats 8000000 in
set_option maxRecDepth 100000 in
theorem some_any (w : World) : Calls Try.prog 61 #[] w (SomeMade w) := by
  go_enter Try.func61, Try.ntmps61
  go_wp2_with fail
  refine (num_any _ _).mono ?_
  rintro e w1 ⟨rfl, hb1⟩
  have hx1 : Below w.heap.size w w1 := ((boxed w _).alloc (by simp) _).trans (hb1.mono (by simp; omega))
  have hRs : w.heap.size < w1.heap.size := by have := hb1.size; simp at this; omega
  have r0 := cell_next (g := w.heap.size) (j := 0) (u := .slice none 0 0) hb1 (by simp [go_sem])
  have r1 := cell_next (g := w.heap.size) (j := 1) (u := .slice none 0 0) hb1 (by simp [go_sem])
  have f0 := frozen_next (g := w.heap.size) (j := 0) (u := .slice none 0 0) hb1 (by simp [go_sem]) (by simp [go_sem])
  have f1 := frozen_next (g := w.heap.size) (j := 1) (u := .slice none 0 0) hb1 (by simp [go_sem]) (by simp [go_sem])
  have HV : Hid (StrC (but w.heap.size w1) (.slice (some ⟨w.heap.size + 1, 0, none⟩) 1 1) [sV]) := Lib.hid (one_strs (by decide) ⟨by omega, cell_next hb1 (by simp [go_sem]; rfl)⟩)
  have HB1 := Lib.hid hx1
  clear hb1 hx1
  go_wp2_with fail
  refine (num_any _ _).mono ?_
  rintro e w2 ⟨rfl, hb2⟩
  replace f0 := frozen_next hb2 r0 f0
  replace f1 := frozen_next hb2 r1 f1
  replace r0 := cell_next hb2 r0
  replace r1 := cell_next hb2 r1
  replace HV := Lib.hid (StrC.mono (but_next hb2) HV.out)
  have hs2 : w.heap.size < w2.heap.size := cell_lt r0
  have HB2 := Lib.hid (HB1.out.trans (hb2.mono HB1.out.size))
  clear hb2 HB1
  go_wp2_with fail
  refine (name1_any _ _).mono ?_
  rintro e w3 ⟨rfl, hb3⟩
  have hx3 : Below w2.heap.size w2 w3 := (boxed w2 _).trans (hb3.mono (by simp))
  replace f0 := frozen_next hx3 r0 f0
  replace f1 := frozen_next hx3 r1 f1
  replace r0 := cell_next hx3 r0
  replace r1 := cell_next hx3 r1
  replace HV := Lib.hid (StrC.mono (but_next hx3) HV.out)
  have a0 := fun j u h => (⟨by omega, cell_next (g := w2.heap.size) (j := j) (u := u) hb3 h⟩ : but w.heap.size w3 w2.heap.size j u)
  have HA : Hid (SlAt 6 (ArAt (but w.heap.size w3) 2) (.slice (some ⟨w2.heap.size, 0, none⟩) 2 2) [.mk false noT (eNum 3), .mk true sV eNone]) := Lib.hid ⟨_, 2, rfl, by simp, by omega, fun _ => ⟨_, 0, rfl, fun i hi => by
    match i, hi with
    | 0, _ => exact ⟨a0 _ _ (by simp [go_sem]; try rfl), a0 _ _ (by simp [go_sem]; try rfl), (show (0 : Nat) ≤ _ by omega), exNone _ _ _ (eNum 3) rfl (a0 _ _ (by simp [go_sem]; try rfl)) (a0 _ _ (by simp [go_sem]; try rfl)) (a0 _ _ (by simp [go_sem]; try rfl)) (a0 _ _ (by simp [go_sem]; try rfl)) (okNum 3 (in1 (by omega))) 1⟩
    | 1, _ => exact ⟨a0 _ _ (by simp [go_sem]; try rfl), a0 _ _ (by simp [go_sem]; try rfl), (show (1 : Nat) ≤ _ by omega), exNone _ _ _ eNone rfl (a0 _ _ (by simp [go_sem]; try rfl)) (a0 _ _ (by simp [go_sem]; try rfl)) (a0 _ _ (by simp [go_sem]; try rfl)) (a0 _ _ (by simp [go_sem]; try rfl)) okNone 1⟩⟩⟩
  have HB3 := Lib.hid (HB2.out.trans (hx3.mono HB2.out.size))
  clear hb3 hx3 HB2 a0
  go_wp2_with fail
  refine (name1_any _ _).mono ?_
  rintro e w4 ⟨rfl, hb4⟩
  replace f0 := frozen_next hb4 r0 f0
  replace f1 := frozen_next hb4 r1 f1
  replace r0 := cell_next hb4 r0
  replace r1 := cell_next hb4 r1
  replace HV := Lib.hid (StrC.mono (but_next hb4) HV.out)
  replace HA := Lib.hid (SlAt.imp HA.out fun _ _ _ _ => ArAt.mono (but_next hb4))
  have hs4 : w.heap.size < w4.heap.size := cell_lt r0
  have HB4 := Lib.hid (HB3.out.trans (hb4.mono HB3.out.size))
  clear hb4 HB3
  go_wp2_with fail
  refine (name1_any _ _).mono ?_
  rintro e w5 ⟨rfl, hb5⟩
  have hx5 : Below w4.heap.size w4 w5 := ((((boxed w4 _).alloc (by simp) _).alloc (by simp; omega) _).alloc (by simp; omega) _).trans (hb5.mono (by simp; omega))
  replace f0 := frozen_next hx5 r0 f0
  replace f1 := frozen_next hx5 r1 f1
  replace r0 := cell_next hx5 r0
  replace r1 := cell_next hx5 r1
  replace HV := Lib.hid (StrC.mono (but_next hx5) HV.out)
  replace HA := Lib.hid (SlAt.imp HA.out fun _ _ _ _ => ArAt.mono (but_next hx5))
  have a0 := fun j u h => (⟨by omega, cell_next (g := w4.heap.size) (j := j) (u := u) hb5 h⟩ : but w.heap.size w5 w4.heap.size j u)
  have HM : Hid (StC (but w.heap.size w5) 3 (.slice (some ⟨w4.heap.size, 0, none⟩) 4 4) someMain) := Lib.hid ⟨_, 4, rfl, by decide, by omega, fun _ => ⟨_, 0, rfl, fun i hi => by
    match i, hi with
    | 0, _ => exact ⟨.slice none 0 0, .slice none 0 0, .slice none 0 0, .slice none 0 0, a0 _ _ (by simp [go_sem]; try rfl), a0 _ _ (by simp [go_sem]; try rfl), a0 _ _ (by simp [go_sem]; try rfl), a0 _ _ (by simp [go_sem]; try rfl), a0 _ _ (by simp [go_sem]; try rfl), (exNone _ _ _ (eNum 2) rfl (a0 _ _ (by simp [go_sem]; try rfl)) (a0 _ _ (by simp [go_sem]; try rfl)) (a0 _ _ (by simp [go_sem]; try rfl)) (a0 _ _ (by simp [go_sem]; try rfl)) (okNum 2 (in1 (by omega))) 1), a0 _ _ (by simp [go_sem]; try rfl), a0 _ _ (by simp [go_sem]; try rfl), a0 _ _ (by simp [go_sem]; try rfl), a0 _ _ (by simp [go_sem]; try rfl), in1 (show (-1000 : Int) ≤ 1 ∧ (1 : Int) ≤ 1000 by omega), in1 (show (-1000 : Int) ≤ 1 ∧ (1 : Int) ≤ 1000 by omega), (show (1 : Nat) ≤ _ by omega), (show (0 : Nat) ≤ _ by omega), StrC.none _, SlAt.nil, SlAt.nil, SlAt.nil⟩
    | 1, _ => exact ⟨.slice none 0 0, .slice (some ⟨w2.heap.size, 0, none⟩) 2 2, .slice none 0 0, .slice none 0 0, a0 _ _ (by simp [go_sem]; try rfl), a0 _ _ (by simp [go_sem]; try rfl), a0 _ _ (by simp [go_sem]; try rfl), a0 _ _ (by simp [go_sem]; try rfl), a0 _ _ (by simp [go_sem]; try rfl), (exNone _ _ _ (eNone) rfl (a0 _ _ (by simp [go_sem]; try rfl)) (a0 _ _ (by simp [go_sem]; try rfl)) (a0 _ _ (by simp [go_sem]; try rfl)) (a0 _ _ (by simp [go_sem]; try rfl)) (okNone) 1), a0 _ _ (by simp [go_sem]; try rfl), a0 _ _ (by simp [go_sem]; try rfl), a0 _ _ (by simp [go_sem]; try rfl), a0 _ _ (by simp [go_sem]; try rfl), in1 (show (-1000 : Int) ≤ 2 ∧ (2 : Int) ≤ 1000 by omega), in1 (show (-1000 : Int) ≤ 4 ∧ (4 : Int) ≤ 1000 by omega), (show (1 : Nat) ≤ _ by omega), (show (1 : Nat) ≤ _ by omega), StrC.none _, HA.out, SlAt.nil, SlAt.nil⟩
    | 2, _ => exact ⟨.slice none 0 0, .slice none 0 0, .slice none 0 0, .slice none 0 0, a0 _ _ (by simp [go_sem]; try rfl), a0 _ _ (by simp [go_sem]; try rfl), a0 _ _ (by simp [go_sem]; try rfl), a0 _ _ (by simp [go_sem]; try rfl), a0 _ _ (by simp [go_sem]; try rfl), (exNone _ _ _ (eName sV) rfl (a0 _ _ (by simp [go_sem]; try rfl)) (a0 _ _ (by simp [go_sem]; try rfl)) (a0 _ _ (by simp [go_sem]; try rfl)) (a0 _ _ (by simp [go_sem]; try rfl)) (okName sV (show (1 : Nat) ≤ _ by omega)) 1), a0 _ _ (by simp [go_sem]; try rfl), a0 _ _ (by simp [go_sem]; try rfl), a0 _ _ (by simp [go_sem]; try rfl), a0 _ _ (by simp [go_sem]; try rfl), in1 (show (-1000 : Int) ≤ 3 ∧ (3 : Int) ≤ 1000 by omega), in1 (show (-1000 : Int) ≤ 3 ∧ (3 : Int) ≤ 1000 by omega), (show (0 : Nat) ≤ _ by omega), (show (0 : Nat) ≤ _ by omega), StrC.none _, SlAt.nil, SlAt.nil, SlAt.nil⟩
    | 3, _ => exact ⟨.slice none 0 0, .slice none 0 0, .slice none 0 0, .slice none 0 0, a0 _ _ (by simp [go_sem]; try rfl), a0 _ _ (by simp [go_sem]; try rfl), a0 _ _ (by simp [go_sem]; try rfl), a0 _ _ (by simp [go_sem]; try rfl), a0 _ _ (by simp [go_sem]; try rfl), (exNone _ _ _ (eName sG) rfl (a0 _ _ (by simp [go_sem]; try rfl)) (a0 _ _ (by simp [go_sem]; try rfl)) (a0 _ _ (by simp [go_sem]; try rfl)) (a0 _ _ (by simp [go_sem]; try rfl)) (okName sG (show (1 : Nat) ≤ _ by omega)) 1), a0 _ _ (by simp [go_sem]; try rfl), a0 _ _ (by simp [go_sem]; try rfl), a0 _ _ (by simp [go_sem]; try rfl), a0 _ _ (by simp [go_sem]; try rfl), in1 (show (-1000 : Int) ≤ 4 ∧ (4 : Int) ≤ 1000 by omega), in1 (show (-1000 : Int) ≤ 3 ∧ (3 : Int) ≤ 1000 by omega), (show (0 : Nat) ≤ _ by omega), (show (0 : Nat) ≤ _ by omega), StrC.none _, SlAt.nil, SlAt.nil, SlAt.nil⟩⟩⟩
  have b0 := fun j u h => cell_next (g := w4.heap.size + 1) (j := j) (u := u) hb5 h
  have m0 := b0 0 (.string sMain) (by simp [go_sem]; try rfl)
  have m1 := b0 1 (.slice none 0 0) (by simp [go_sem]; try rfl)
  have m2 := b0 2 (.slice (some ⟨w.heap.size + 1, 0, none⟩) 1 1) (by simp [go_sem]; try rfl)
  have m3 := b0 3 (.slice (some ⟨w4.heap.size, 0, none⟩) 4 4) (by simp [go_sem]; try rfl)
  have m4 := b0 4 (.slice none 0 0) (by simp [go_sem]; try rfl)
  have d0 := fun j u h => (⟨by omega, cell_next (g := w4.heap.size + 1 + 1) (j := j) (u := u) hb5 h⟩ : but w.heap.size w5 (w4.heap.size + 1 + 1) j u)
  have HPAR : Hid (SlAt 2 (PaAt (but w.heap.size w5)) (.slice (some ⟨w4.heap.size + 1 + 1, 0, none⟩) 2 2) [⟨sX, false⟩, ⟨sY, true⟩]) := Lib.hid ⟨_, 2, rfl, by decide, by omega, fun _ => ⟨_, 0, rfl, fun i hi => by
    match i, hi with
    | 0, _ => exact ⟨d0 _ _ (by simp [go_sem]; try rfl), d0 _ _ (by simp [go_sem]; try rfl), (show (1 : Nat) ≤ _ by omega)⟩
    | 1, _ => exact ⟨d0 _ _ (by simp [go_sem]; try rfl), d0 _ _ (by simp [go_sem]; try rfl), (show (1 : Nat) ≤ _ by omega)⟩⟩⟩
  have HEND : Hid (StrC (but w.heap.size w5) (.slice (some ⟨w4.heap.size + 1 + 1 + 1, 0, none⟩) 1 1) [sE]) := Lib.hid (one_strs (by decide) ⟨by omega, cell_next hb5 (by simp [go_sem]; rfl)⟩)
  have HB5 := Lib.hid (HB4.out.trans (hx5.mono HB4.out.size))
  clear hb5 hx5 HB4 a0 b0 d0 HA
  go_wp2_with fail
  refine (name1_any _ _).mono ?_
  rintro e w6 ⟨rfl, hb6⟩
  replace f0 := frozen_next hb6 r0 f0
  replace f1 := frozen_next hb6 r1 f1
  replace r0 := cell_next hb6 r0
  replace r1 := cell_next hb6 r1
  replace m0 := cell_next hb6 m0
  replace m1 := cell_next hb6 m1
  replace m2 := cell_next hb6 m2
  replace m3 := cell_next hb6 m3
  replace m4 := cell_next hb6 m4
  replace HV := Lib.hid (StrC.mono (but_next hb6) HV.out)
  replace HM := Lib.hid (StC.mono (but_next hb6) HM.out)
  replace HPAR := Lib.hid (SlAt.imp HPAR.out fun _ _ _ _ => PaAt.mono (but_next hb6))
  replace HEND := Lib.hid (StrC.mono (but_next hb6) HEND.out)
  have hs6 : w.heap.size < w6.heap.size := cell_lt r0
  have HB6 := Lib.hid (HB5.out.trans (hb6.mono HB5.out.size))
  clear hb6 HB5
  go_wp2_with fail
  refine (two1_any 8 (eName sY) (eName sX) _ (okName sY (show (1 : Nat) ≤ _ by omega)) (okName sX (show (1 : Nat) ≤ _ by omega)) rfl rfl).mono ?_
  rintro e w7 ⟨g5, rfl, hx5, hb7⟩
  replace f0 := frozen_next hb7 r0 f0
  replace f1 := frozen_next hb7 r1 f1
  replace r0 := cell_next hb7 r0
  replace r1 := cell_next hb7 r1
  replace m0 := cell_next hb7 m0
  replace m1 := cell_next hb7 m1
  replace m2 := cell_next hb7 m2
  replace m3 := cell_next hb7 m3
  replace m4 := cell_next hb7 m4
  replace HV := Lib.hid (StrC.mono (but_next hb7) HV.out)
  replace HM := Lib.hid (StC.mono (but_next hb7) HM.out)
  replace HPAR := Lib.hid (SlAt.imp HPAR.out fun _ _ _ _ => PaAt.mono (but_next hb7))
  replace HEND := Lib.hid (StrC.mono (but_next hb7) HEND.out)
  have HX5 : Hid (ExC (but w.heap.size w7) 2 (.slice (some ⟨g5, 0, none⟩) 2 2) [eName sY, eName sX]) := Lib.hid (ExC.mono (only_le (fun _ h => by omega) (fun _ _ _ h => h)) hx5)
  have HB7 := Lib.hid (HB6.out.trans (hb7.mono HB6.out.size))
  clear hb7 HB6 hx5 hs6
  go_wp2_with fail
  refine (name1_any _ _).mono ?_
  rintro e w8 ⟨rfl, hb8⟩
  replace f0 := frozen_next hb8 r0 f0
  replace f1 := frozen_next hb8 r1 f1
  replace r0 := cell_next hb8 r0
  replace r1 := cell_next hb8 r1
  replace m0 := cell_next hb8 m0
  replace m1 := cell_next hb8 m1
  replace m2 := cell_next hb8 m2
  replace m3 := cell_next hb8 m3
  replace m4 := cell_next hb8 m4
  replace HV := Lib.hid (StrC.mono (but_next hb8) HV.out)
  replace HM := Lib.hid (StC.mono (but_next hb8) HM.out)
  replace HPAR := Lib.hid (SlAt.imp HPAR.out fun _ _ _ _ => PaAt.mono (but_next hb8))
  replace HEND := Lib.hid (StrC.mono (but_next hb8) HEND.out)
  replace HX5 := Lib.hid (ExC.mono (but_next hb8) HX5.out)
  have HB8 := Lib.hid (HB7.out.trans (hb8.mono HB7.out.size))
  clear hb8 HB7
  go_wp2_with fail
  refine (num_any _ _).mono ?_
  rintro e w9 ⟨rfl, hb9⟩
  replace f0 := frozen_next hb9 r0 f0
  replace f1 := frozen_next hb9 r1 f1
  replace r0 := cell_next hb9 r0
  replace r1 := cell_next hb9 r1
  replace m0 := cell_next hb9 m0
  replace m1 := cell_next hb9 m1
  replace m2 := cell_next hb9 m2
  replace m3 := cell_next hb9 m3
  replace m4 := cell_next hb9 m4
  replace HV := Lib.hid (StrC.mono (but_next hb9) HV.out)
  replace HM := Lib.hid (StC.mono (but_next hb9) HM.out)
  replace HPAR := Lib.hid (SlAt.imp HPAR.out fun _ _ _ _ => PaAt.mono (but_next hb9))
  replace HEND := Lib.hid (StrC.mono (but_next hb9) HEND.out)
  replace HX5 := Lib.hid (ExC.mono (but_next hb9) HX5.out)
  have hs9 : w.heap.size < w9.heap.size := cell_lt r0
  have HB9 := Lib.hid (HB8.out.trans (hb9.mono HB8.out.size))
  clear hb9 HB8
  go_wp2_with fail
  refine (two1_any 12 (eName sY) (eNum 9) _ (okName sY (show (1 : Nat) ≤ _ by omega)) (okNum 9 (in1 (by omega))) rfl rfl).mono ?_
  rintro e w10 ⟨g6, rfl, hx6, hb10⟩
  replace f0 := frozen_next hb10 r0 f0
  replace f1 := frozen_next hb10 r1 f1
  replace r0 := cell_next hb10 r0
  replace r1 := cell_next hb10 r1
  replace m0 := cell_next hb10 m0
  replace m1 := cell_next hb10 m1
  replace m2 := cell_next hb10 m2
  replace m3 := cell_next hb10 m3
  replace m4 := cell_next hb10 m4
  replace HV := Lib.hid (StrC.mono (but_next hb10) HV.out)
  replace HM := Lib.hid (StC.mono (but_next hb10) HM.out)
  replace HPAR := Lib.hid (SlAt.imp HPAR.out fun _ _ _ _ => PaAt.mono (but_next hb10))
  replace HEND := Lib.hid (StrC.mono (but_next hb10) HEND.out)
  replace HX5 := Lib.hid (ExC.mono (but_next hb10) HX5.out)
  have HX6 : Hid (ExC (but w.heap.size w10) 2 (.slice (some ⟨g6, 0, none⟩) 2 2) [eName sY, eNum 9]) := Lib.hid (ExC.mono (only_le (fun _ h => by omega) (fun _ _ _ h => h)) hx6)
  have hs10 : w.heap.size < w10.heap.size := cell_lt r0
  have HB10 := Lib.hid (HB9.out.trans (hb10.mono HB9.out.size))
  clear hb10 HB9 hx6 hs9
  go_wp2_with fail
  refine (name1_any _ _).mono ?_
  rintro e w11 ⟨rfl, hb11⟩
  have hx11 : Below w10.heap.size w10 w11 := (boxed w10 _).trans (hb11.mono (by simp))
  replace f0 := frozen_next hx11 r0 f0
  replace f1 := frozen_next hx11 r1 f1
  replace r0 := cell_next hx11 r0
  replace r1 := cell_next hx11 r1
  replace m0 := cell_next hx11 m0
  replace m1 := cell_next hx11 m1
  replace m2 := cell_next hx11 m2
  replace m3 := cell_next hx11 m3
  replace m4 := cell_next hx11 m4
  replace HV := Lib.hid (StrC.mono (but_next hx11) HV.out)
  replace HM := Lib.hid (StC.mono (but_next hx11) HM.out)
  replace HPAR := Lib.hid (SlAt.imp HPAR.out fun _ _ _ _ => PaAt.mono (but_next hx11))
  replace HEND := Lib.hid (StrC.mono (but_next hx11) HEND.out)
  replace HX5 := Lib.hid (ExC.mono (but_next hx11) HX5.out)
  replace HX6 := Lib.hid (ExC.mono (but_next hx11) HX6.out)
  have a0 := fun j u h => (⟨by omega, cell_next (g := w10.heap.size) (j := j) (u := u) hb11 h⟩ : but w.heap.size w11 w10.heap.size j u)
  have HT : Hid (StC (but w.heap.size w11) 2 (.slice (some ⟨w10.heap.size, 0, none⟩) 1 1) someThen) := Lib.hid ⟨_, 1, rfl, by decide, by omega, fun _ => ⟨_, 0, rfl, fun i hi => by
    match i, hi with
    | 0, _ => exact ⟨.slice none 0 0, .slice none 0 0, .slice none 0 0, .slice none 0 0, a0 _ _ (by simp [go_sem]; try rfl), a0 _ _ (by simp [go_sem]; try rfl), a0 _ _ (by simp [go_sem]; try rfl), a0 _ _ (by simp [go_sem]; try rfl), a0 _ _ (by simp [go_sem]; try rfl), (exNone _ _ _ (eNone) rfl (a0 _ _ (by simp [go_sem]; try rfl)) (a0 _ _ (by simp [go_sem]; try rfl)) (a0 _ _ (by simp [go_sem]; try rfl)) (a0 _ _ (by simp [go_sem]; try rfl)) (okNone) 0), a0 _ _ (by simp [go_sem]; try rfl), a0 _ _ (by simp [go_sem]; try rfl), a0 _ _ (by simp [go_sem]; try rfl), a0 _ _ (by simp [go_sem]; try rfl), in1 (show (-1000 : Int) ≤ 7 ∧ (7 : Int) ≤ 1000 by omega), in1 (show (-1000 : Int) ≤ 10 ∧ (10 : Int) ≤ 1000 by omega), (show (1 : Nat) ≤ _ by omega), (show (0 : Nat) ≤ _ by omega), StrC.none _, SlAt.nil, SlAt.nil, SlAt.nil⟩⟩⟩
  have HB11 := Lib.hid (HB10.out.trans (hx11.mono HB10.out.size))
  clear hb11 hx11 HB10 a0
  have z1 := cell_lt m0
  have z2 := cell_lt r0
  have z3 : w4.heap.size < w11.heap.size := by omega
  have z4 : w4.heap.size < w11.heap.size + 1 := by omega
  have z5 : w4.heap.size + 1 < w11.heap.size + 1 := by omega
  have z6 : w4.heap.size + 1 < w11.heap.size + 1 + 1 := by omega
  have z7 : w.heap.size < w11.heap.size + 1 := by omega
  have z8 : w.heap.size < w11.heap.size + 1 + 1 := by omega
  have z9 : w.heap.size < w11.heap.size + 1 + 1 + 1 := by omega
  go_wp2_with fail
  refine bodyPost_ret (v := .agg #[.slice (some ⟨w11.heap.size + 1 + 1, 0, none⟩) 1 1, .slice (some ⟨w11.heap.size + 1 + 1 + 1, 0, none⟩) 2 2]) ?_ rfl ⟨_, _, rfl, ?_, ?_⟩
  · have q0 := cell_set_ne (i := 1) (x := .slice (some ⟨w11.heap.size + 1 + 1 + 1, 0, none⟩) 2 2) (cell_set (x := .slice (some ⟨w11.heap.size + 1 + 1, 0, none⟩) 1 1) r0) (by decide)
    have q1 := cell_set (x := .slice (some ⟨w11.heap.size + 1 + 1 + 1, 0, none⟩) 2 2) (cell_set_ne (i := 0) (x := .slice (some ⟨w11.heap.size + 1 + 1, 0, none⟩) 1 1) r1 (by decide))
    simp [results, Try.results61, go_sem, q0, q1, z2, z7, z8, z9]
  · refine ⟨one_strs (by decide) (by show World.cell? _ _ = _; simp [go_sem]; try rfl), ⟨_, 2, rfl, by decide, by omega, fun _ => ⟨_, 0, rfl, fun i hi => ?_⟩⟩⟩
    match i, hi with
    | 0, _ => exact ⟨.slice none 0 0, .slice (some ⟨w.heap.size + 1, 0, none⟩) 1 1, .slice (some ⟨w4.heap.size, 0, none⟩) 4 4, .slice none 0 0, (by show World.cell? _ _ = _; simp [go_sem]; try rfl), (by show World.cell? _ _ = _; simp [go_sem]; try rfl), (by show World.cell? _ _ = _; simp [go_sem]; try rfl), (by show World.cell? _ _ = _; simp [go_sem]; try rfl), (by show World.cell? _ _ = _; simp [go_sem]; try rfl), (show (4 : Nat) ≤ _ by omega), SlAt.nil, StrC.mono some_le HV.out, StC.mono some_le HM.out, StrC.none _⟩
    | 1, _ =>
      refine ⟨.slice (some ⟨w4.heap.size + 1 + 1, 0, none⟩) 2 2, .slice none 0 0, .slice (some ⟨w11.heap.size, 0, none⟩) 3 3, .slice (some ⟨w4.heap.size + 1 + 1 + 1, 0, none⟩) 1 1, (by show World.cell? _ _ = _; simp [go_sem]; try rfl), (by show World.cell? _ _ = _; simp [go_sem]; try rfl), (by show World.cell? _ _ = _; simp [go_sem]; try rfl), (by show World.cell? _ _ = _; simp [go_sem]; try rfl), (by show World.cell? _ _ = _; simp [go_sem]; try rfl), (show (1 : Nat) ≤ _ by omega), SlAt.imp HPAR.out (fun _ _ _ _ => PaAt.mono some_le), StrC.none _, ?_, StrC.mono some_le HEND.out⟩
      refine ⟨_, 3, rfl, Nat.le_refl 3, by omega, fun _ => ⟨_, 0, rfl, fun i hi => ?_⟩⟩
      match i, hi with
      | 0, _ => exact ⟨.slice none 0 0, .slice none 0 0, .slice none 0 0, .slice none 0 0, (by show World.cell? _ _ = _; simp [go_sem]; try rfl), (by show World.cell? _ _ = _; simp [go_sem]; try rfl), (by show World.cell? _ _ = _; simp [go_sem]; try rfl), (by show World.cell? _ _ = _; simp [go_sem]; try rfl), (by show World.cell? _ _ = _; simp [go_sem]; try rfl), ⟨.slice (some ⟨g5, 0, none⟩) 2 2, (by show World.cell? _ _ = _; simp [go_sem]; try rfl), (by show World.cell? _ _ = _; simp [go_sem]; try rfl), (by show World.cell? _ _ = _; simp [go_sem]; try rfl), (by show World.cell? _ _ = _; simp [go_sem]; try rfl), okTwo _ _ _ (in1 (by omega)), ExC.mono some_le HX5.out⟩, (by show World.cell? _ _ = _; simp [go_sem]; try rfl), (by show World.cell? _ _ = _; simp [go_sem]; try rfl), (by show World.cell? _ _ = _; simp [go_sem]; try rfl), (by show World.cell? _ _ = _; simp [go_sem]; try rfl), in1 (show (-1000 : Int) ≤ 5 ∧ (5 : Int) ≤ 1000 by omega), in1 (show (-1000 : Int) ≤ 1 ∧ (1 : Int) ≤ 1000 by omega), (show (1 : Nat) ≤ _ by omega), (show (0 : Nat) ≤ _ by omega), StrC.none _, SlAt.nil, SlAt.nil, SlAt.nil⟩
      | 1, _ => exact ⟨.slice none 0 0, .slice none 0 0, .slice (some ⟨w10.heap.size, 0, none⟩) 1 1, .slice none 0 0, (by show World.cell? _ _ = _; simp [go_sem]; try rfl), (by show World.cell? _ _ = _; simp [go_sem]; try rfl), (by show World.cell? _ _ = _; simp [go_sem]; try rfl), (by show World.cell? _ _ = _; simp [go_sem]; try rfl), (by show World.cell? _ _ = _; simp [go_sem]; try rfl), ⟨.slice (some ⟨g6, 0, none⟩) 2 2, (by show World.cell? _ _ = _; simp [go_sem]; try rfl), (by show World.cell? _ _ = _; simp [go_sem]; try rfl), (by show World.cell? _ _ = _; simp [go_sem]; try rfl), (by show World.cell? _ _ = _; simp [go_sem]; try rfl), okTwo _ _ _ (in1 (by omega)), ExC.mono some_le HX6.out⟩, (by show World.cell? _ _ = _; simp [go_sem]; try rfl), (by show World.cell? _ _ = _; simp [go_sem]; try rfl), (by show World.cell? _ _ = _; simp [go_sem]; try rfl), (by show World.cell? _ _ = _; simp [go_sem]; try rfl), in1 (show (-1000 : Int) ≤ 6 ∧ (6 : Int) ≤ 1000 by omega), in1 (show (-1000 : Int) ≤ 5 ∧ (5 : Int) ≤ 1000 by omega), (show (0 : Nat) ≤ _ by omega), (show (0 : Nat) ≤ _ by omega), StrC.none _, SlAt.nil, StC.mono some_le HT.out, SlAt.nil⟩
      | 2, _ => exact ⟨.slice none 0 0, .slice none 0 0, .slice none 0 0, .slice none 0 0, (by show World.cell? _ _ = _; simp [go_sem]; try rfl), (by show World.cell? _ _ = _; simp [go_sem]; try rfl), (by show World.cell? _ _ = _; simp [go_sem]; try rfl), (by show World.cell? _ _ = _; simp [go_sem]; try rfl), (by show World.cell? _ _ = _; simp [go_sem]; try rfl), exNone _ _ _ (eName sY) rfl (by show World.cell? _ _ = _; simp [go_sem]; try rfl) (by show World.cell? _ _ = _; simp [go_sem]; try rfl) (by show World.cell? _ _ = _; simp [go_sem]; try rfl) (by show World.cell? _ _ = _; simp [go_sem]; try rfl) (okName sY (show (1 : Nat) ≤ _ by omega)) 1, (by show World.cell? _ _ = _; simp [go_sem]; try rfl), (by show World.cell? _ _ = _; simp [go_sem]; try rfl), (by show World.cell? _ _ = _; simp [go_sem]; try rfl), (by show World.cell? _ _ = _; simp [go_sem]; try rfl), in1 (show (-1000 : Int) ≤ 8 ∧ (8 : Int) ≤ 1000 by omega), in1 (show (-1000 : Int) ≤ 9 ∧ (9 : Int) ≤ 1000 by omega), (show (0 : Nat) ≤ _ by omega), (show (0 : Nat) ≤ _ by omega), StrC.none _, SlAt.nil, SlAt.nil, SlAt.nil⟩
  · exact (((((HB11.out.setCell (Nat.le_refl _) _).setCell (Nat.le_refl _) _).alloc (by simp; omega) _).alloc (by simp; omega) _).alloc (by simp; omega) _).alloc (by simp; omega) _
end Go.Proofs.Ytghlmengcidmdaa.Tr
