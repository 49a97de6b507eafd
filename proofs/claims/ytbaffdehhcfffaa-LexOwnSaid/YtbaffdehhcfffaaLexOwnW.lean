/- The law LexOwn, walked: it returns true. Conditions: the text has at most 2^63 - 1 bytes. -/
import Derived.Test.YtbaffdehhcfffaaLexAllW
namespace Go.Proofs.Ytbaffdehhcfffaa.Lx
open Go.RowKit
/-- While a given row is overwritten: what stays. -/
structure Over (W wr : World) (g n F c p : Nat) : Prop where
  below : Below W.heap.size W wr
  cells : ∀ j, j < n * 4 → ∃ u, wr.cell? ⟨g, j, none⟩ = some u
  free : ∀ j, wr.frozen? ⟨g, j, none⟩ = false
  f0 : wr.cell? ⟨F, 0, none⟩ = some (.int .i64 c)
  f1 : wr.cell? ⟨F, 1, none⟩ = some (.int .i64 p)
theorem Over.set {W wr : World} {g n F c p : Nat} (h : Over W wr g n F c p) (hg : W.heap.size ≤ g) (hF : F ≠ g) (j : Nat) (x : Value) : Over W (wr.setCell ⟨g, j, none⟩ x) g n F c p where
  below := h.below.setCell hg _
  cells := fun i hi => by
    obtain ⟨y, hy⟩ := h.cells i hi
    obtain ⟨z, hz⟩ := cell?_setCell_some (w := wr) (p := ⟨g, j, none⟩) (x := x) (q := ⟨g, i, none⟩) (v := y) hy
    exact ⟨z, hz⟩
  free := fun i => by rw [World.frozen?_setCell]; exact h.free i
  f0 := by rw [World.cell?_setCell_other _ _ _ _ (fun e => hF (congrArg Addr.block e).symm)]; exact h.f0
  f1 := by rw [World.cell?_setCell_other _ _ _ _ (fun e => hF (congrArg Addr.block e).symm)]; exact h.f1
theorem ownsFree {w : World} {B : Nat} {e : TypeId} {z g n cp : Nat} {xs : List Value} (h : w.ownsRow B e z (.slice (some ⟨g, 0, none⟩) n cp) n xs) (j : Nat) : w.frozen? ⟨g, j, none⟩ = false := h.frozenAt j
set_option maxHeartbeats 2000000 in
set_option maxRecDepth 100000 in
theorem law_own (s : ByteArray) (hs : s.size ≤ maxLen) (w : World) :
    Calls Try.prog 14 #[.string s] w fun e w' => e = .returned (.bool true) ∧ Below w.heap.size w w' := by
  unfold maxLen at hs
  have hx := cut_size s
  obtain ⟨x, hxe⟩ : ∃ x, Hid (s.extract 0 (min s.size 100100) = x) := ⟨_, Lib.hid rfl⟩
  rw [hxe.out] at hx
  have HC := Lib.hid (hxe.out ▸ fun w => cut_any s w hs)
  obtain ⟨c, p, ts, hr⟩ : ∃ c p ts, Hid (lexAll (bl x) = ⟨c, p, ts⟩) := ⟨_, _, _, Lib.hid rfl⟩
  have hps : ∀ t ∈ ts, t.pos ≤ 1000000 := fun t h => by have := all_pos (bl x) t (by rw [hr.out]; exact h); omega
  have hrm : ts.length ≤ 100000 := by have := all_room (bl x); rw [hr.out] at this; dsimp only at this; omega
  have HP := Lib.hid hps
  clear hps
  go_enter Try.func14, Try.ntmps14
  go_wp2_with fail
  refine (lexed_any _).mono ?_
  rintro e w1 ⟨rfl, hb1⟩
  have HB1 := Lib.hid hb1
  clear hb1
  go_wp2_with fail
  refine (HC.out _).mono ?_
  rintro e w' ⟨rfl, rfl⟩
  go_wp2_with fail
  refine (all_gives _ (by omega) hr.out).mono ?_
  rintro e w2 ⟨v1, rfl, hb2, ho2⟩
  have HO2 := Lib.hid ho2
  have HB2 := Lib.hid (HB1.out.trans (hb2.mono HB1.out.size))
  clear hb2 ho2
  obtain ⟨va, vc, rfl⟩ := ownsForm HO2.out
  have hov : ∃ g, (ts ≠ [] → va = some ⟨g, 0, none⟩) ∧ w.heap.size ≤ g ∧ w2.heap.size ≠ g ∧ Over w (w2.alloc (.cells #[.int .i64 c, .int .i64 p] 27)) g ts.length w2.heap.size c p := by
    by_cases hne : ts = []
    · refine ⟨w2.heap.size + 1, fun h => absurd hne h, by have := HB2.out.size; omega, by omega, HB2.out.alloc HB2.out.size _, ?_, ?_, World.cell?_alloc_new _ _ _ _, World.cell?_alloc_new _ _ _ _⟩
      · intro j hj; rw [hne] at hj; simp at hj
      · intro j
        rw [frozen?_alloc_cells]
        simp [World.frozen?]
    · rcases ownsSize HO2.out with hnil | ⟨g, cp, hv, hg1, hg2⟩
      · exact absurd hnil hne
      · simp only [Value.slice.injEq] at hv
        obtain ⟨rfl, _, rfl⟩ := hv
        have hrow := Row.of HO2.out
        have hsz := HB1.out.size
        refine ⟨g, fun _ => rfl, by omega, by omega, HB2.out.alloc HB2.out.size _, ?_, ?_, World.cell?_alloc_new _ _ _ _, World.cell?_alloc_new _ _ _ _⟩
        · intro j hj
          have hl := rowOf_len ts
          have hj2 : j < (rowOf ts).length := by omega
          obtain ⟨a', c', hv', _, h3⟩ := hrow
          obtain ⟨g', hg', h4⟩ := h3 hne
          simp only [Value.slice.injEq] at hv'
          have e1 : g = g' := by have := hv'.1.trans hg'; simpa using this
          subst e1
          exact ⟨_, (World.cell?_alloc_past _ _ _ hg2).trans (h4 j _ (List.getElem?_eq_getElem hj2))⟩
        · intro j
          rw [frozen?_alloc_cells]
          exact ownsFree HO2.out j
  obtain ⟨g, hva, hgW, hFg, hov⟩ := hov
  have HVA := Lib.hid hva
  have HOV := Lib.hid hov
  clear hva hov HO2
  obtain ⟨F, hF⟩ : ∃ F, Hid (w2.heap.size = F) := ⟨_, Lib.hid rfl⟩
  go_wp2_with fail
  rw [hF.out] at hFg HOV ⊢
  go_loopw [21] (fun i wr => ∃ k : Nat, k ≤ ts.length ∧ i = .int .i64 k ∧ Over w wr g ts.length F c p) (fun i _ => (ts.length - intOf i).toNat)
  case atStart => exact ⟨0, by omega, rfl, HOV.out⟩
  case round =>
    obtain ⟨k, hk, rfl, hov2⟩ := hrel
    have HV := Lib.hid hov2
    clear hov2
    by_cases hlt : k < ts.length
    · have hlt' : (k : Int) < (ts.length : Int) := by omega
      obtain rfl : va = some ⟨g, 0, none⟩ := HVA.out (by intro h; rw [h] at hlt; simp at hlt)
      obtain ⟨y0, c0⟩ := HV.out.cells (k * 4) (by omega)
      obtain ⟨y1, c1⟩ := HV.out.cells (k * 4 + 1) (by omega)
      obtain ⟨y2, c2⟩ := HV.out.cells (k * 4 + 2) (by omega)
      obtain ⟨y3, c3⟩ := HV.out.cells (k * 4 + 3) (by omega)
      have z0 := HV.out.free (k * 4)
      have z1 := HV.out.free (k * 4 + 1)
      have z2 := HV.out.free (k * 4 + 2)
      have z3 := HV.out.free (k * 4 + 3)
      go_wp2_with fail
      go_roundw
      case rel => exact ⟨k + 1, by omega, by go_num, (((HV.out.set hgW hFg _ _).set hgW hFg _ _).set hgW hFg _ _).set hgW hFg _ _⟩
      case measure => simp [intOf]; omega
    · have hlt' : ¬ (k : Int) < (ts.length : Int) := by omega
      have hFs := cell_lt HV.out.f0
      go_wp2_with fail
      refine (all_gives _ (by omega) hr.out).mono ?_
      rintro e w3 ⟨v2, rfl, hb3, ho3⟩
      have hR1 := Row.of ho3
      have a0 : w3.cell? ⟨F, 0, none⟩ = some (.int .i64 c) := (hb3.cell hFs).trans HV.out.f0
      have a1 : w3.cell? ⟨F, 1, none⟩ = some (.int .i64 p) := (hb3.cell hFs).trans HV.out.f1
      have hFs3 : F < w3.heap.size := by have := hb3.size; omega
      have HB3 := Lib.hid (HV.out.below.trans (hb3.mono HV.out.below.size))
      clear hb3 ho3
      go_wp2_with fail
      refine (rlex_gives _ (by omega) hr.out).mono ?_
      rintro e w4 ⟨v3, rfl, hb4, ho4⟩
      have hR2 := Row.of ho4
      have hR3 := (hR1.next ((Below.refl _ _).alloc (Nat.le_refl _) (.cells #[.int .i64 c, .int .i64 p] 27))).next hb4
      have b0 : w4.cell? ⟨w3.heap.size, 0, none⟩ = some (.int .i64 c) := (hb4.cell (by simp)).trans (by simp [go_sem])
      have b1 : w4.cell? ⟨w3.heap.size, 1, none⟩ = some (.int .i64 p) := (hb4.cell (by simp)).trans (by simp [go_sem])
      have a04 : w4.cell? ⟨F, 0, none⟩ = some (.int .i64 c) := (hb4.cell (by simp; omega)).trans ((World.cell?_alloc_past _ _ _ hFs3).trans a0)
      have a14 : w4.cell? ⟨F, 1, none⟩ = some (.int .i64 p) := (hb4.cell (by simp; omega)).trans ((World.cell?_alloc_past _ _ _ hFs3).trans a1)
      have hsz4 : w3.heap.size < w4.heap.size := by have := hb4.size; simp at this; omega
      have hFs4 : F < w4.heap.size := by omega
      have HB4 := Lib.hid ((HB3.out.alloc HB3.out.size (.cells #[.int .i64 c, .int .i64 p] 27)).trans (hb4.mono (by have := HB3.out.size; simp; omega)))
      have HR2 := Lib.hid hR2
      have HR3 := Lib.hid hR3
      clear hb4 ho4 hR1 hR2 hR3 a0 a1
      go_wp2_with fail
      refine (same_zero _ (HR3.out.next ((Below.refl _ _).alloc (Nat.le_refl _) _)) (HR2.out.next ((Below.refl _ _).alloc (Nat.le_refl _) _)) hrm HP.out).mono ?_
      rintro e w5 ⟨rfl, n, rfl⟩
      go_wp2_with fail
      go_ret
      exact ⟨rfl, below_drewN (HB4.out.alloc HB4.out.size _) n⟩
end Go.Proofs.Ytbaffdehhcfffaa.Lx
