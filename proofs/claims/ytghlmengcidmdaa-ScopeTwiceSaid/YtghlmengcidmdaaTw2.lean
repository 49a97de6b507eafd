/- Parts of BSwap, SwapQ: walks and plain laws that later texts use. Conditions: as each statement says. -/
import Derived.Test.YtghlmengcidmdaaTw0
import Derived.Test.YtghlmengcidmdaaTw1
import Derived.WalkKit
import Derived.Test.YtghlmengcidmdaaRows
import Derived.WalkSpells
import Derived.Lib.Hide
import Derived.Below
import Derived.Deep.QuietTactic
import Derived.BigQuiet
import Derived.WalkSmall
import Derived.Laws.BitsAllLaws
import Derived.IntWalk
import Derived.StillTailTactics
import Derived.OwnWalk
import Derived.OneCell
import Derived.Deep.AppendLies
import Derived.Deep.RegionLaw
import Derived.Deep.DeepCutAuto
import Derived.Deep.RegionHeld3
import Derived.RegionTactic
import Derived.Deep.Slices
import Derived.Deep.Fields
import Derived.Lib.SmallJoins
import Derived.SliceStrings
import Derived.ChangeSlices
section
/- Plain laws: names changed in an expression. No program. Conditions: none.
   What other, SwapTexts of the reference compute. Conditions: the slices lie in memory.
   A new row of things that is grown by append, each with what hangs on it; how it lies in memory at last. Conditions: none.
   What SwapExpr of the reference makes: a new expression. Conditions: the expression lies in memory, no row of kids is long. -/
section
namespace Go.Proofs.Ytghlmengcidmdaa.Tr
open Go.RowKit Go.Proofs.Ytghlmengcidmdaa.Lx Go.Proofs.Ytghlmengcidmdaa.Wd
/-- No row of kids is long. -/
def lim : Nat → List Ex → Prop
  | 0, _ => True
  | d + 1, ks => ks.length ≤ 20000 ∧ ∀ k ∈ ks, lim d k.ks
end Go.Proofs.Ytghlmengcidmdaa.Tr
end
section
namespace Go.Proofs.Ytghlmengcidmdaa.Tr
open Go.RowKit Go.Proofs.Ytghlmengcidmdaa.Lx Go.Proofs.Ytghlmengcidmdaa.Wd
theorem infoStr : (Try.prog.info? 9).map (fun i => (i.zero, i.size, i.bytes)) = some (some (.string ⟨#[]⟩), 1, 16) := by kernel_rfl
/-- A new slice of texts. -/
theorem strs_owned {w : World} {B n : Nat} {v : Value} {l : List ByteArray} (h : w.ownsRow B 9 1 v n (l.map Value.string)) (hn : n = l.length) (hm : n ≤ 9223372036854775807) (hs : ∀ s ∈ l, s.size ≤ 9223372036854775807) :
    StrC (only (fun g => B ≤ g) (cw w)) v l := by
  subst hn
  rcases h.2 with ⟨hv, hn⟩ | ⟨g, cap, cur, hv, h1, h2, h3, h4, h5, h6⟩
  · have : l = [] := List.eq_nil_of_length_eq_zero hn
    subst this
    rw [hv]
    exact SlAt.nil
  · refine ⟨_, cap, hv, h3, ?_, fun hne => ⟨g, 0, rfl, fun i hi => ?_⟩⟩
    · exact h4
    · refine ⟨⟨h1, ?_⟩, hs _ (List.getElem_mem hi)⟩
      have := h.cells (g := g) (by rw [hv]; rfl) i (.string l[i]) (by simp [List.getElem?_eq_getElem hi])
      rw [Addr.add_lit, Nat.zero_add] at this
      show w.cell? ⟨g, 0 + i * 1, none⟩ = _
      rw [Nat.zero_add, Nat.mul_one]
      exact this
/-- What a maker of texts leaves: a new slice. -/
def TextsMade (l : List ByteArray) (w : World) (e : Ending) (w' : World) : Prop := ∃ v, e = .returned v ∧ StrC (only (fun g => w.heap.size ≤ g) (cw w')) v l ∧ Below w.heap.size w w'
theorem str_cells {s : ByteArray} : ∀ u ∈ [Value.string s], u.oneCell' = true := by
  intro u hu
  simp at hu
  subst hu; rfl
theorem ownsForm {w : World} {B : Nat} {e : TypeId} {z : Nat} {v : Value} {n : Nat} {xs : List Value} (h : w.ownsRow B e z v n xs) : ∃ a c, v = .slice a n c := by
  rcases h.2 with ⟨rfl, rfl⟩ | ⟨g, cap, _, rfl, _⟩
  · exact ⟨_, _, rfl⟩
  · exact ⟨_, _, rfl⟩
end Go.Proofs.Ytghlmengcidmdaa.Tr
end
section
namespace Go.Proofs.Ytghlmengcidmdaa.Tr
open Go.RowKit Go.Proofs.Ytghlmengcidmdaa.Lx Go.Proofs.Ytghlmengcidmdaa.Wd
theorem ownsBelow {w w' : World} {B : Nat} {e : TypeId} {z : Nat} {v : Value} {n : Nat} {xs : List Value} (h : w.ownsRow B e z v n xs) (hb : Below w.heap.size w w') : w'.ownsRow B e z v n xs := by
  refine ⟨h.1, ?_⟩
  rcases h.2 with h | ⟨g, cap, cur, h1, h2, h3, h4⟩
  · exact .inl h
  · refine .inr ⟨g, cap, cur, h1, h2, ?_, h4⟩
    have hlt : g < w.heap.size := by
      rcases Nat.lt_or_ge g w.heap.size with hlt | hge
      · exact hlt
      · rw [Array.getElem?_eq_none hge] at h3; cases h3
    rw [hb.block g hlt]; exact h3
theorem Cs.le_trans {C D E : Cs} (h : Cs.le C D) (k : Cs.le D E) : Cs.le C E := fun g j u q => k g j u (h g j u q)
/-- The cells of new blocks, but for the row's own. -/
abbrev newC (B : Nat) (v : Value) (w : World) : Cs := only (fun g => B ≤ g ∧ v.ownBlock ≠ some g) (cw w)
/-- The cells of new blocks. -/
abbrev nwC (B : Nat) (w : World) : Cs := only (fun g => B ≤ g) (cw w)
theorem nw_le {B B' : Nat} {w w' : World} (hB : B' ≤ B) (hb : Below w.heap.size w w') : Cs.le (nwC B w) (nwC B' w') := only_le (fun _ h => Nat.le_trans hB h) (cw_next hb)
/-- What was there ahead of an append. -/
theorem le_old {w1 w2 w4 : World} {B : Nat} {v v4 : Value} (hb : Below w1.heap.size w1 w2) (hg : w2.grownBy w4 v.ownBlock) (hat : ∀ g, v4.ownBlock = some g → v.ownBlock = some g ∨ w1.heap.size ≤ g) : Cs.le (newC B v w1) (newC B v4 w4) := by
  intro g j u ⟨⟨h1, h2⟩, h3⟩
  have hlt := cell_lt h3
  refine ⟨⟨h1, fun he => ?_⟩, ?_⟩
  · rcases hat g he with h | h
    · exact h2 h
    · omega
  · show w4.cell? ⟨g, j, none⟩ = some u
    rw [hg.cell_far ⟨g, j, none⟩ (Nat.lt_of_lt_of_le hlt hb.size) (fun e => h2 e.symm)]
    exact cell_next hb h3
/-- What was made for the append. -/
theorem le_made {w1 w2 w3 w4 : World} {B : Nat} {v v4 : Value} (h12 : B ≤ w1.heap.size) (hb : Below w2.heap.size w2 w3) (hg : w3.grownBy w4 v.ownBlock) (ho : ∀ g, v.ownBlock = some g → g < w1.heap.size) (hat : ∀ g, v4.ownBlock = some g → v.ownBlock = some g ∨ w2.heap.size ≤ g) : Cs.le (nwC w1.heap.size w2) (newC B v4 w4) := by
  intro g j u ⟨h1, h3⟩
  have hlt := cell_lt h3
  have h2 : v.ownBlock ≠ some g := fun e => by have := ho g e; omega
  refine ⟨⟨by omega, fun he => ?_⟩, ?_⟩
  · rcases hat g he with h | h
    · exact h2 h
    · omega
  · show w4.cell? ⟨g, j, none⟩ = some u
    rw [hg.cell_far ⟨g, j, none⟩ (Nat.lt_of_lt_of_le hlt hb.size) (fun e => h2 e.symm)]
    exact cell_next hb h3
/-- The row so far. -/
structure Acc {α : Type} (Q : Cs → List Value → α → Prop) (B : Nat) (t : TypeId) (z : Nat) (w : World) (v : Value) (l : List α) (rows : List (List Value)) : Prop where
  len : rows.length = l.length
  own : w.ownsRow B t z v l.length rows.flatten
  wide : ∀ r ∈ rows, r.length = z
  each : ∀ i (h : i < l.length) (h' : i < rows.length), Q (newC B v w) rows[i] l[i]
theorem Acc.nil {α : Type} (Q : Cs → List Value → α → Prop) (B : Nat) (t : TypeId) (z : Nat) (w : World) : Acc Q B t z w (.slice none 0 0) [] [] :=
  ⟨rfl, World.ownsRow_nil _ _ _ _, fun r h => (by cases h), fun i h => (by cases h)⟩
/-- One more. w1: ahead of the thing's making; w2: behind it; w3: at the append; w4: behind it. -/
theorem Acc.more {α : Type} {Q : Cs → List Value → α → Prop} {B : Nat} {t : TypeId} {z : Nat} {w0 w1 w2 w3 w4 : World} {v v4 : Value} {l : List α} {rows : List (List Value)} {c : List Value} {x : α} (hQ : ∀ C D c x, Cs.le C D → Q C c x → Q D c x)
    (h : Acc Q B t z w0 v l rows) (h01 : Below w0.heap.size w0 w1) (hB : B ≤ w1.heap.size) (h12 : Below w1.heap.size w1 w2) (h23 : Below w2.heap.size w2 w3) (hg : w3.grownBy w4 v.ownBlock) (hat : ∀ g, v4.ownBlock = some g → v.ownBlock = some g ∨ w2.heap.size ≤ g)
    (hc : c.length = z) (hx : Q (nwC w1.heap.size w2) c x) (hown : w4.ownsRow B t z v4 (l.length + 1) (rows.flatten ++ c)) : Acc Q B t z w4 v4 (l ++ [x]) (rows ++ [c]) := by
  have hlen := h.len
  refine ⟨by simp [hlen], by simpa using hown, fun r hr => ?_, fun i h1 h2 => ?_⟩
  · rcases List.mem_append.1 hr with hr | hr
    · exact h.wide r hr
    · simp at hr; rw [hr]; exact hc
  · simp only [List.getElem_append]
    simp at h1 h2
    by_cases hi : i < l.length
    · rw [dif_pos hi, dif_pos (by omega)]
      refine hQ _ _ _ _ (le_old ((h01.trans (h12.mono h01.size)).trans (h23.mono (Nat.le_trans h01.size h12.size))) hg fun g hgg => ?_) (h.each i hi (by omega))
      rcases hat g hgg with h | h
      · exact .inl h
      · exact .inr (Nat.le_trans (Nat.le_trans h01.size h12.size) h)
    · rw [dif_neg hi, dif_neg (by omega)]
      have e1 : i - l.length = 0 := by omega
      have e2 : i - rows.length = 0 := by omega
      simp only [e1, e2, List.getElem_cons_zero]
      exact hQ _ _ _ _ (le_made hB h23 hg (fun g hgg => Nat.lt_of_lt_of_le (h.own.lt g hgg).2 h01.size) hat) hx
/-- A cell of another block is written. -/
theorem Acc.set {α : Type} {Q : Cs → List Value → α → Prop} {B : Nat} {t : TypeId} {z : Nat} {w : World} {v : Value} {l : List α} {rows : List (List Value)} (hQ : ∀ C D c x, Cs.le C D → Q C c x → Q D c x) (h : Acc Q B t z w v l rows) {b j : Nat} (hb : b < B) (u : Value) : Acc Q B t z (w.setCell ⟨b, j, none⟩ u) v l rows :=
  ⟨h.len, ownsRow_setCell_other h.own (fun e => by have := (h.own.lt _ e).1; simp only at this; omega) u, h.wide, fun i h1 h2 => hQ _ _ _ _ (only_set (fun e => by omega)) (h.each i h1 h2)⟩
theorem flat_get {z : Nat} : ∀ (rows : List (List Value)) (i j : Nat) (u : Value), (∀ r ∈ rows, r.length = z) → (h : i < rows.length) → rows[i][j]? = some u → rows.flatten[i * z + j]? = some u := by
  intro rows
  induction rows with
  | nil => intro i j u _ h; cases h
  | cons r rs ih =>
    intro i j u hw h hu
    have hr := hw r (by simp)
    rw [List.flatten_cons]
    cases i with
    | zero =>
      simp only [List.getElem_cons_zero] at hu
      have hj : j < r.length := (List.getElem?_eq_some_iff.1 hu).1
      rw [Nat.zero_mul, Nat.zero_add, List.getElem?_append_left hj]
      exact hu
    | succ i =>
      simp only [List.getElem_cons_succ] at hu
      rw [List.getElem?_append_right (by rw [hr, Nat.succ_mul]; omega)]
      have : (i + 1) * z + j - r.length = i * z + j := by rw [hr, Nat.succ_mul]; omega
      rw [this]
      exact ih i j u (fun r h => hw r (by simp [h])) (by simpa using h) hu
/-- The row at last. -/
theorem Acc.sl {α : Type} {Q : Cs → List Value → α → Prop} {P : Cs → Nat → Nat → α → Prop} {B : Nat} {t : TypeId} {z : Nat} {w : World} {v : Value} {l : List α} {rows : List (List Value)} (h : Acc Q B t z w v l rows) (hm : l.length ≤ 9223372036854775807)
    (hQ : ∀ C D c x, Cs.le C D → Q C c x → Q D c x) (hP : ∀ C c g o x, x ∈ l → c.length = z → Q C c x → (∀ j u, c[j]? = some u → C g (o + j) u) → P C g o x) : SlAt z (P (nwC B w)) v l := by
  have hlen := h.len
  have hown := h.own
  rcases h.own.2 with ⟨hv, hn⟩ | ⟨g, cap, cur, hv, h1, h2, h3, h4, h5, h6⟩
  · have : l = [] := List.eq_nil_of_length_eq_zero hn
    subst this
    rw [hv]
    exact SlAt.nil
  · refine ⟨_, cap, hv, h3, h4, fun hne => ⟨g, 0, rfl, fun i hi => ?_⟩⟩
    refine hP _ rows[i] g _ _ (List.getElem_mem hi) (h.wide _ (List.getElem_mem (by omega))) (hQ _ _ _ _ (only_le (fun _ h => h.1) fun _ _ _ h => h) (h.each i hi (by omega))) fun j u hu => ⟨h1, ?_⟩
    have := hown.cells (g := g) (by rw [hv]; rfl) (i * z + j) u (flat_get rows i j u h.wide (by omega) hu)
    rw [Addr.add_lit, Nat.zero_add] at this
    show w.cell? ⟨g, 0 + i * z + j, none⟩ = _
    rw [Nat.zero_add]
    exact this
/-- While the things of a list are made: the maker's box Y, of the cells cs but for that of the list so far; the box R of what is answered; the list. -/
structure Grow {α : Type} (Q : Cs → List Value → α → Prop) (t : TypeId) (z : Nat) (B Y R nR : Nat) (cs : List Value) (slot : Nat) (xs : List α) (w : World) (v : Value) (rows : List (List Value)) : Prop where
  lt : R < B
  yb : Y < B
  ne : R ≠ Y
  ylt : Y < w.heap.size
  y : ∀ j u, (cs.set slot v)[j]? = some u → w.cell? ⟨Y, j, none⟩ = some u
  fy : ∀ j, w.frozen? ⟨Y, j, none⟩ = false
  r : ∀ j, j < nR → ∃ u, w.cell? ⟨R, j, none⟩ = some u
  fr : ∀ j, w.frozen? ⟨R, j, none⟩ = false
  acc : Acc Q B t z w v xs rows
  bw : B ≤ w.heap.size
theorem Grow.own {α : Type} {Q : Cs → List Value → α → Prop} {t : TypeId} {z B Y R nR slot : Nat} {cs : List Value} {xs : List α} {w : World} {v : Value} {rows : List (List Value)} (h : Grow Q t z B Y R nR cs slot xs w v rows) : ∀ b, b < B → some b ≠ v.ownBlock := fun b hb he => by
  have := (h.acc.own.lt _ he.symm).1
  omega
theorem Grow.step {α : Type} {Q : Cs → List Value → α → Prop} {t : TypeId} {z B Y R nR slot : Nat} {cs : List Value} {xs : List α} {w0 w1 w2 w3 w4 : World} {v v4 : Value} {rows : List (List Value)} {c : List Value} {x : α}
    (h : Grow Q t z B Y R nR cs slot xs w0 v rows) (hs : slot < cs.length) (hQ : ∀ C D c x, Cs.le C D → Q C c x → Q D c x) (h01 : Below w0.heap.size w0 w1) (h12 : Below w1.heap.size w1 w2) (h23 : Below w2.heap.size w2 w3) (hg : w3.grownBy w4 v.ownBlock) (hat : ∀ g, v4.ownBlock = some g → v.ownBlock = some g ∨ w2.heap.size ≤ g)
    (hc : c.length = z) (hx : Q (nwC w1.heap.size w2) c x) (hown : w4.ownsRow B t z v4 (xs.length + 1) (rows.flatten ++ c)) : Grow Q t z B Y R nR cs slot (xs ++ [x]) (w4.setCell ⟨Y, slot, none⟩ v4) v4 (rows ++ [c]) := by
  have hb := (h01.trans (h12.mono h01.size)).trans (h23.mono (Nat.le_trans h01.size h12.size))
  have hown0 := h.own
  have ylt := h.ylt
  have lt := h.lt
  have yb := h.yb
  have ne := h.ne
  have bw := h.bw
  have hs3 := hb.size
  have hc4 : ∀ b j u, b < B → w0.cell? ⟨b, j, none⟩ = some u → w4.cell? ⟨b, j, none⟩ = some u := fun b j u hb' hu => by
    rw [hg.cell_far ⟨b, j, none⟩ (by simp only; omega) (hown0 b hb')]
    exact cell_next hb hu
  have hf4 : ∀ b j, b < B → w0.frozen? ⟨b, j, none⟩ = false → w4.frozen? ⟨b, j, none⟩ = false := fun b j hb' hu => by
    rw [hg.frozen_far ⟨b, j, none⟩ (by simp only; omega) (hown0 b hb')]
    exact (hb.frozen (p := ⟨b, j, none⟩) (by simp only; omega)).trans hu
  refine ⟨lt, yb, ne, ?_, fun j u hu => ?_, fun j => ?_, fun j hj => ?_, fun j => ?_, ?_, ?_⟩
  · have hsz : (w4.setCell ⟨Y, slot, none⟩ v4).heap.size = w4.heap.size := World.size_setCell _ _ _
    rw [hsz]
    have := hg.size
    omega
  · by_cases hj : j = slot
    · subst hj
      rw [List.getElem?_set_self (by omega)] at hu
      have : v4 = u := by simpa using hu
      subst this
      exact cell_set (hc4 Y j v (by omega) (h.y j v (by rw [List.getElem?_set_self (by omega)])))
    · rw [List.getElem?_set_ne (by omega)] at hu
      exact cell_set_ne (hc4 Y j u (by omega) (h.y j u (by rw [List.getElem?_set_ne (by omega)]; exact hu))) (by omega)
  · rw [World.frozen?_setCell]; exact hf4 Y j (by omega) (h.fy j)
  · obtain ⟨u, hu⟩ := h.r j hj
    exact ⟨u, by rw [World.cell?_setCell_other _ _ _ _ (fun e => by have := congrArg Addr.block e; simp only at this; omega)]; exact hc4 R j u (by omega) hu⟩
  · rw [World.frozen?_setCell]; exact hf4 R j (by omega) (h.fr j)
  · exact (h.acc.more hQ h01 (by have := h01.size; omega) h12 h23 hg hat hc hx hown).set hQ (by omega) _
  · have hsz : (w4.setCell ⟨Y, slot, none⟩ v4).heap.size = w4.heap.size := World.size_setCell _ _ _
    rw [hsz]
    have := hg.size
    omega
/-- What was there ahead of all stays. -/
theorem Grow.below {w w0 w3 w4 : World} {v v4 : Value} {B Y slot : Nat} (hw : Below w.heap.size w w0) (hb : Below w0.heap.size w0 w3) (hg : w3.grownBy w4 v.ownBlock) (hY : w.heap.size ≤ Y) (hwB : w.heap.size ≤ B) (ho : ∀ b, b < B → some b ≠ v.ownBlock) : Below w.heap.size w (w4.setCell ⟨Y, slot, none⟩ v4) := by
  refine (((hw.trans (hb.mono hw.size)).grown hg ?_ fun k hk => ?_)).setCell (p := ⟨Y, slot, none⟩) hY _
  · exact Nat.le_trans hw.size hb.size
  · apply Decidable.byContradiction
    intro hlt
    exact ho k (by omega) hk.symm
theorem le_set {w : World} {B R j : Nat} {x : Value} (h : R < B) : Cs.le (nwC B w) (nwC B (w.setCell ⟨R, j, none⟩ x)) := only_set (S := fun g => B ≤ g) (b := R) (by show ¬ B ≤ R; omega)
/-- The box of what is answered, written cell by cell. -/
theorem fill4 {w : World} {R : Nat} {a b c d r0 r1 r2 r3 : Value} (h0 : w.cell? ⟨R, 0, none⟩ = some r0) (h1 : w.cell? ⟨R, 1, none⟩ = some r1) (h2 : w.cell? ⟨R, 2, none⟩ = some r2) (h3 : w.cell? ⟨R, 3, none⟩ = some r3) :
    ((((w.setCell ⟨R, 0, none⟩ a).setCell ⟨R, 1, none⟩ b).setCell ⟨R, 2, none⟩ c).setCell ⟨R, 3, none⟩ d).cell? ⟨R, 0, none⟩ = some a ∧ ((((w.setCell ⟨R, 0, none⟩ a).setCell ⟨R, 1, none⟩ b).setCell ⟨R, 2, none⟩ c).setCell ⟨R, 3, none⟩ d).cell? ⟨R, 1, none⟩ = some b ∧
    ((((w.setCell ⟨R, 0, none⟩ a).setCell ⟨R, 1, none⟩ b).setCell ⟨R, 2, none⟩ c).setCell ⟨R, 3, none⟩ d).cell? ⟨R, 2, none⟩ = some c ∧ ((((w.setCell ⟨R, 0, none⟩ a).setCell ⟨R, 1, none⟩ b).setCell ⟨R, 2, none⟩ c).setCell ⟨R, 3, none⟩ d).cell? ⟨R, 3, none⟩ = some d :=
  ⟨cell_set_ne (cell_set_ne (cell_set_ne (cell_set h0) (by decide)) (by decide)) (by decide), cell_set_ne (cell_set_ne (cell_set (cell_set_ne h1 (by decide))) (by decide)) (by decide), cell_set_ne (cell_set (cell_set_ne (cell_set_ne h2 (by decide)) (by decide))) (by decide), cell_set (cell_set_ne (cell_set_ne (cell_set_ne h3 (by decide)) (by decide)) (by decide))⟩
/-- Expressions, as cells. -/
def ExQ (d : Nat) (C : Cs) (c : List Value) (x : Ex) : Prop := ∃ kv, c = [.int .i64 x.op, .int .i64 x.n, .string x.nm, kv] ∧ OkE x ∧ ExC C d kv x.ks
theorem ExQ.mono (d : Nat) : ∀ C D c x, Cs.le C D → ExQ d C c x → ExQ d D c x := fun _ _ _ _ h ⟨kv, h1, h2, h3⟩ => ⟨kv, h1, h2, ExC.mono h h3⟩
theorem ExQ.at_ (d : Nat) : ∀ (C : Cs) (c : List Value) (g o : Nat) (x : Ex), ExQ d C c x → (∀ j u, c[j]? = some u → C g (o + j) u) → ExAt C (ExC C d) g o x := by
  intro C c g o x ⟨kv, h1, h2, h3⟩ h
  subst h1
  exact ⟨kv, h 0 _ rfl, h 1 _ rfl, h 2 _ rfl, h 3 _ rfl, h2, h3⟩
theorem Acc.exC {d B : Nat} {t : TypeId} {w : World} {v : Value} {l : List Ex} {rows : List (List Value)} (h : Acc (ExQ d) B t 4 w v l rows) (hm : l.length ≤ 9223372036854775807) : ExC (nwC B w) (d + 1) v l :=
  h.sl (P := fun C g o x => ExAt C (ExC C d) g o x) hm (ExQ.mono d) fun C c g o x _ _ hq hc => ExQ.at_ d C c g o x hq hc
theorem ExC.form {C : Cs} {d : Nat} {v : Value} {l : List Ex} (h : ExC C d v l) : ∃ a cap, v = .slice a l.length cap ∧ l.length ≤ cap ∧ cap ≤ 9223372036854775807 := by
  cases d with
  | zero => exact h.elim
  | succ d => exact SlAt.form h
end Go.Proofs.Ytghlmengcidmdaa.Tr
end
section
namespace Go.Proofs.Ytghlmengcidmdaa.Tr
open Go.RowKit Go.Proofs.Ytghlmengcidmdaa.Lx Go.Proofs.Ytghlmengcidmdaa.Wd
theorem infoEx : (Try.prog.info? 37).map (fun i => (i.zero, i.size, i.bytes)) = some (some (.agg #[.int .i64 0, .int .i64 0, .string ⟨#[]⟩, .slice none 0 0]), 4, 56) := by kernel_rfl
/-- What a maker of an expression leaves: a new one. -/
def ExMade (d : Nat) (x : Ex) (w : World) (e : Ending) (w' : World) : Prop := ∃ kv, e = .returned (exV x kv) ∧ OkE x ∧ ExC (only (fun g => w.heap.size ≤ g) (cw w')) d kv x.ks ∧ Below w.heap.size w w'
end Go.Proofs.Ytghlmengcidmdaa.Tr
end
end
section
/- Plain laws: an expression with two names changed for each other is worth the same. No program. Conditions: none. -/
namespace Go.Proofs.Ytghlmengcidmdaa.Tr
open Go.RowKit Go.Proofs.Ytghlmengcidmdaa.Lx Go.Proofs.Ytghlmengcidmdaa.Wd
theorem toList_inj {s t : ByteArray} (h : s.toList = t.toList) : s = t := by
  cases s with
  | mk a =>
    cases t with
    | mk b =>
      rw [ByteArray.toList_mk, ByteArray.toList_mk] at h
      rw [Array.toList_inj.1 h]
theorem eq_text (s t : ByteArray) : (s.toList == t.toList) = true ↔ s = t := by
  rw [beq_iff_eq]
  exact ⟨toList_inj, fun h => by rw [h]⟩
end Go.Proofs.Ytghlmengcidmdaa.Tr
end
