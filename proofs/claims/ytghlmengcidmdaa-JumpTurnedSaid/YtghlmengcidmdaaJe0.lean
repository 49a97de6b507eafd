/- Parts of BTr, BSwap, BSt, CopyE, CopW, FindP, FindL: walks and plain laws that later texts use. Conditions: as each statement says. -/
import Derived.Test.YtghlmengcidmdaaJa0
import Derived.Test.YtghlmengcidmdaaJa1
import Derived.Test.YtghlmengcidmdaaJa2
import Derived.Test.YtghlmengcidmdaaJa3
import Derived.Test.YtghlmengcidmdaaJa4
import Derived.Test.YtghlmengcidmdaaJa5
import Derived.Test.YtghlmengcidmdaaJa6
import Derived.Test.YtghlmengcidmdaaJa7
import Derived.WalkKit
import Derived.Test.YtghlmengcidmdaaRows
import Derived.WalkSpells
import Derived.Lib.Hide
import Derived.Below
import Derived.Laws.BitsAllLaws
import Derived.Deep.QuietTactic
import Derived.BigQuiet
import Derived.WalkSmall
import Derived.Deep.Slices
import Derived.Deep.Fields
import Derived.Lib.SmallJoins
import Derived.SliceStrings
import Derived.ChangeSlices
import Derived.IntWalk
import Derived.StillTailTactics
import Derived.RegionTactic
import Derived.OwnWalk
import Derived.OneCell
import Derived.Deep.AppendLies
import Derived.Deep.RegionLaw
import Derived.Deep.DeepCutAuto
import Derived.Deep.RegionHeld3
import Derived.Deep.RegionWith
import Derived.Laws.Cover3
import Derived.Maps.Range
import Derived.Outline
import Derived.Deep.Upon
import Derived.Maps.AppendAt
import Derived.Laws.OwnMore
import Derived.Deep.CutBlock
import Derived.Laws.StructEq
section
/- Programs, and how they lie in memory. Conditions: none.
   What is read of arguments: expressions, lists of texts, lists of numbers lie in memory. Conditions: none.
   What weighText, weighExpr, FitsExpr of the reference compute: how much an expression is. Conditions: it lies in memory. -/
section
namespace Go.Proofs.Ytghlmengcidmdaa.Tr
open Go.RowKit Go.Proofs.Ytghlmengcidmdaa.Lx Go.Proofs.Ytghlmengcidmdaa.Wd
section
variable {C D : Cs} (h : Cs.le C D)
include h
end
theorem ExK.none (d : Nat) (w : World) : ExK (d + 1) w (.slice none 0 0) [] := (ExC.none (cw w) d).to
end Go.Proofs.Ytghlmengcidmdaa.Tr
end
section
namespace Go.Proofs.Ytghlmengcidmdaa.Tr
open Go.RowKit Go.Proofs.Ytghlmengcidmdaa.Lx Go.Proofs.Ytghlmengcidmdaa.Wd Go.ChangeShapes Go.WideShapes Go.Deep
section
variable {H : Type} {enc : TypeId × Value → H} {w : World} {base : Nat} {spare : Nat → Bool} {held : Bool}
end
end Go.Proofs.Ytghlmengcidmdaa.Tr
end
section
namespace Go.Proofs.Ytghlmengcidmdaa.Tr
open Go.RowKit Go.Proofs.Ytghlmengcidmdaa.Lx Go.Proofs.Ytghlmengcidmdaa.Wd
end Go.Proofs.Ytghlmengcidmdaa.Tr
end
end
section
/- Plain laws: names changed in an expression. No program. Conditions: none.
   What other, SwapTexts of the reference compute. Conditions: the slices lie in memory.
   A new row of things that is grown by append, each with what hangs on it; how it lies in memory at last. Conditions: none.
   What SwapExpr of the reference makes: a new expression. Conditions: the expression lies in memory, no row of kids is long. -/
section
namespace Go.Proofs.Ytghlmengcidmdaa.Tr
open Go.RowKit Go.Proofs.Ytghlmengcidmdaa.Lx Go.Proofs.Ytghlmengcidmdaa.Wd
/-- No row of kids is long. -/
def lim : Nat → List Ex → Prop
  | 0, _ => True
  | d + 1, ks => ks.length ≤ 20000 ∧ ∀ k ∈ ks, lim d k.ks
end Go.Proofs.Ytghlmengcidmdaa.Tr
end
section
namespace Go.Proofs.Ytghlmengcidmdaa.Tr
open Go.RowKit Go.Proofs.Ytghlmengcidmdaa.Lx Go.Proofs.Ytghlmengcidmdaa.Wd
/-- What a maker of texts leaves: a new slice. -/
def TextsMade (l : List ByteArray) (w : World) (e : Ending) (w' : World) : Prop := ∃ v, e = .returned v ∧ StrC (only (fun g => w.heap.size ≤ g) (cw w')) v l ∧ Below w.heap.size w w'
end Go.Proofs.Ytghlmengcidmdaa.Tr
end
section
namespace Go.Proofs.Ytghlmengcidmdaa.Tr
open Go.RowKit Go.Proofs.Ytghlmengcidmdaa.Lx Go.Proofs.Ytghlmengcidmdaa.Wd
/-- The cells of new blocks, but for the row's own. -/
abbrev newC (B : Nat) (v : Value) (w : World) : Cs := only (fun g => B ≤ g ∧ v.ownBlock ≠ some g) (cw w)
/-- The cells of new blocks. -/
abbrev nwC (B : Nat) (w : World) : Cs := only (fun g => B ≤ g) (cw w)
theorem nw_le {B B' : Nat} {w w' : World} (hB : B' ≤ B) (hb : Below w.heap.size w w') : Cs.le (nwC B w) (nwC B' w') := only_le (fun _ h => Nat.le_trans hB h) (cw_next hb)
/-- What was there ahead of an append. -/
theorem le_old {w1 w2 w4 : World} {B : Nat} {v v4 : Value} (hb : Below w1.heap.size w1 w2) (hg : w2.grownBy w4 v.ownBlock) (hat : ∀ g, v4.ownBlock = some g → v.ownBlock = some g ∨ w1.heap.size ≤ g) : Cs.le (newC B v w1) (newC B v4 w4) := by
  intro g j u ⟨⟨h1, h2⟩, h3⟩
  have hlt := cell_lt h3
  refine ⟨⟨h1, fun he => ?_⟩, ?_⟩
  · rcases hat g he with h | h
    · exact h2 h
    · omega
  · show w4.cell? ⟨g, j, none⟩ = some u
    rw [hg.cell_far ⟨g, j, none⟩ (Nat.lt_of_lt_of_le hlt hb.size) (fun e => h2 e.symm)]
    exact cell_next hb h3
/-- What was made for the append. -/
theorem le_made {w1 w2 w3 w4 : World} {B : Nat} {v v4 : Value} (h12 : B ≤ w1.heap.size) (hb : Below w2.heap.size w2 w3) (hg : w3.grownBy w4 v.ownBlock) (ho : ∀ g, v.ownBlock = some g → g < w1.heap.size) (hat : ∀ g, v4.ownBlock = some g → v.ownBlock = some g ∨ w2.heap.size ≤ g) : Cs.le (nwC w1.heap.size w2) (newC B v4 w4) := by
  intro g j u ⟨h1, h3⟩
  have hlt := cell_lt h3
  have h2 : v.ownBlock ≠ some g := fun e => by have := ho g e; omega
  refine ⟨⟨by omega, fun he => ?_⟩, ?_⟩
  · rcases hat g he with h | h
    · exact h2 h
    · omega
  · show w4.cell? ⟨g, j, none⟩ = some u
    rw [hg.cell_far ⟨g, j, none⟩ (Nat.lt_of_lt_of_le hlt hb.size) (fun e => h2 e.symm)]
    exact cell_next hb h3
/-- The row so far. -/
structure Acc {α : Type} (Q : Cs → List Value → α → Prop) (B : Nat) (t : TypeId) (z : Nat) (w : World) (v : Value) (l : List α) (rows : List (List Value)) : Prop where
  len : rows.length = l.length
  own : w.ownsRow B t z v l.length rows.flatten
  wide : ∀ r ∈ rows, r.length = z
  each : ∀ i (h : i < l.length) (h' : i < rows.length), Q (newC B v w) rows[i] l[i]
theorem Acc.nil {α : Type} (Q : Cs → List Value → α → Prop) (B : Nat) (t : TypeId) (z : Nat) (w : World) : Acc Q B t z w (.slice none 0 0) [] [] :=
  ⟨rfl, World.ownsRow_nil _ _ _ _, fun r h => (by cases h), fun i h => (by cases h)⟩
/-- One more. w1: ahead of the thing's making; w2: behind it; w3: at the append; w4: behind it. -/
theorem Acc.more {α : Type} {Q : Cs → List Value → α → Prop} {B : Nat} {t : TypeId} {z : Nat} {w0 w1 w2 w3 w4 : World} {v v4 : Value} {l : List α} {rows : List (List Value)} {c : List Value} {x : α} (hQ : ∀ C D c x, Cs.le C D → Q C c x → Q D c x)
    (h : Acc Q B t z w0 v l rows) (h01 : Below w0.heap.size w0 w1) (hB : B ≤ w1.heap.size) (h12 : Below w1.heap.size w1 w2) (h23 : Below w2.heap.size w2 w3) (hg : w3.grownBy w4 v.ownBlock) (hat : ∀ g, v4.ownBlock = some g → v.ownBlock = some g ∨ w2.heap.size ≤ g)
    (hc : c.length = z) (hx : Q (nwC w1.heap.size w2) c x) (hown : w4.ownsRow B t z v4 (l.length + 1) (rows.flatten ++ c)) : Acc Q B t z w4 v4 (l ++ [x]) (rows ++ [c]) := by
  have hlen := h.len
  refine ⟨by simp [hlen], by simpa using hown, fun r hr => ?_, fun i h1 h2 => ?_⟩
  · rcases List.mem_append.1 hr with hr | hr
    · exact h.wide r hr
    · simp at hr; rw [hr]; exact hc
  · simp only [List.getElem_append]
    simp at h1 h2
    by_cases hi : i < l.length
    · rw [dif_pos hi, dif_pos (by omega)]
      refine hQ _ _ _ _ (le_old ((h01.trans (h12.mono h01.size)).trans (h23.mono (Nat.le_trans h01.size h12.size))) hg fun g hgg => ?_) (h.each i hi (by omega))
      rcases hat g hgg with h | h
      · exact .inl h
      · exact .inr (Nat.le_trans (Nat.le_trans h01.size h12.size) h)
    · rw [dif_neg hi, dif_neg (by omega)]
      have e1 : i - l.length = 0 := by omega
      have e2 : i - rows.length = 0 := by omega
      simp only [e1, e2, List.getElem_cons_zero]
      exact hQ _ _ _ _ (le_made hB h23 hg (fun g hgg => Nat.lt_of_lt_of_le (h.own.lt g hgg).2 h01.size) hat) hx
/-- A cell of another block is written. -/
theorem Acc.set {α : Type} {Q : Cs → List Value → α → Prop} {B : Nat} {t : TypeId} {z : Nat} {w : World} {v : Value} {l : List α} {rows : List (List Value)} (hQ : ∀ C D c x, Cs.le C D → Q C c x → Q D c x) (h : Acc Q B t z w v l rows) {b j : Nat} (hb : b < B) (u : Value) : Acc Q B t z (w.setCell ⟨b, j, none⟩ u) v l rows :=
  ⟨h.len, ownsRow_setCell_other h.own (fun e => by have := (h.own.lt _ e).1; simp only at this; omega) u, h.wide, fun i h1 h2 => hQ _ _ _ _ (only_set (fun e => by omega)) (h.each i h1 h2)⟩
/-- The row at last. -/
theorem Acc.sl {α : Type} {Q : Cs → List Value → α → Prop} {P : Cs → Nat → Nat → α → Prop} {B : Nat} {t : TypeId} {z : Nat} {w : World} {v : Value} {l : List α} {rows : List (List Value)} (h : Acc Q B t z w v l rows) (hm : l.length ≤ 9223372036854775807)
    (hQ : ∀ C D c x, Cs.le C D → Q C c x → Q D c x) (hP : ∀ C c g o x, x ∈ l → c.length = z → Q C c x → (∀ j u, c[j]? = some u → C g (o + j) u) → P C g o x) : SlAt z (P (nwC B w)) v l := by
  have hlen := h.len
  have hown := h.own
  rcases h.own.2 with ⟨hv, hn⟩ | ⟨g, cap, cur, hv, h1, h2, h3, h4, h5, h6⟩
  · have : l = [] := List.eq_nil_of_length_eq_zero hn
    subst this
    rw [hv]
    exact SlAt.nil
  · refine ⟨_, cap, hv, h3, h4, fun hne => ⟨g, 0, rfl, fun i hi => ?_⟩⟩
    refine hP _ rows[i] g _ _ (List.getElem_mem hi) (h.wide _ (List.getElem_mem (by omega))) (hQ _ _ _ _ (only_le (fun _ h => h.1) fun _ _ _ h => h) (h.each i hi (by omega))) fun j u hu => ⟨h1, ?_⟩
    have := hown.cells (g := g) (by rw [hv]; rfl) (i * z + j) u (flat_get rows i j u h.wide (by omega) hu)
    rw [Addr.add_lit, Nat.zero_add] at this
    show w.cell? ⟨g, 0 + i * z + j, none⟩ = _
    rw [Nat.zero_add]
    exact this
/-- While the things of a list are made: the maker's box Y, of the cells cs but for that of the list so far; the box R of what is answered; the list. -/
structure Grow {α : Type} (Q : Cs → List Value → α → Prop) (t : TypeId) (z : Nat) (B Y R nR : Nat) (cs : List Value) (slot : Nat) (xs : List α) (w : World) (v : Value) (rows : List (List Value)) : Prop where
  lt : R < B
  yb : Y < B
  ne : R ≠ Y
  ylt : Y < w.heap.size
  y : ∀ j u, (cs.set slot v)[j]? = some u → w.cell? ⟨Y, j, none⟩ = some u
  fy : ∀ j, w.frozen? ⟨Y, j, none⟩ = false
  r : ∀ j, j < nR → ∃ u, w.cell? ⟨R, j, none⟩ = some u
  fr : ∀ j, w.frozen? ⟨R, j, none⟩ = false
  acc : Acc Q B t z w v xs rows
  bw : B ≤ w.heap.size
theorem Grow.own {α : Type} {Q : Cs → List Value → α → Prop} {t : TypeId} {z B Y R nR slot : Nat} {cs : List Value} {xs : List α} {w : World} {v : Value} {rows : List (List Value)} (h : Grow Q t z B Y R nR cs slot xs w v rows) : ∀ b, b < B → some b ≠ v.ownBlock := fun b hb he => by
  have := (h.acc.own.lt _ he.symm).1
  omega
theorem Grow.step {α : Type} {Q : Cs → List Value → α → Prop} {t : TypeId} {z B Y R nR slot : Nat} {cs : List Value} {xs : List α} {w0 w1 w2 w3 w4 : World} {v v4 : Value} {rows : List (List Value)} {c : List Value} {x : α}
    (h : Grow Q t z B Y R nR cs slot xs w0 v rows) (hs : slot < cs.length) (hQ : ∀ C D c x, Cs.le C D → Q C c x → Q D c x) (h01 : Below w0.heap.size w0 w1) (h12 : Below w1.heap.size w1 w2) (h23 : Below w2.heap.size w2 w3) (hg : w3.grownBy w4 v.ownBlock) (hat : ∀ g, v4.ownBlock = some g → v.ownBlock = some g ∨ w2.heap.size ≤ g)
    (hc : c.length = z) (hx : Q (nwC w1.heap.size w2) c x) (hown : w4.ownsRow B t z v4 (xs.length + 1) (rows.flatten ++ c)) : Grow Q t z B Y R nR cs slot (xs ++ [x]) (w4.setCell ⟨Y, slot, none⟩ v4) v4 (rows ++ [c]) := by
  have hb := (h01.trans (h12.mono h01.size)).trans (h23.mono (Nat.le_trans h01.size h12.size))
  have hown0 := h.own
  have ylt := h.ylt
  have lt := h.lt
  have yb := h.yb
  have ne := h.ne
  have bw := h.bw
  have hs3 := hb.size
  have hc4 : ∀ b j u, b < B → w0.cell? ⟨b, j, none⟩ = some u → w4.cell? ⟨b, j, none⟩ = some u := fun b j u hb' hu => by
    rw [hg.cell_far ⟨b, j, none⟩ (by simp only; omega) (hown0 b hb')]
    exact cell_next hb hu
  have hf4 : ∀ b j, b < B → w0.frozen? ⟨b, j, none⟩ = false → w4.frozen? ⟨b, j, none⟩ = false := fun b j hb' hu => by
    rw [hg.frozen_far ⟨b, j, none⟩ (by simp only; omega) (hown0 b hb')]
    exact (hb.frozen (p := ⟨b, j, none⟩) (by simp only; omega)).trans hu
  refine ⟨lt, yb, ne, ?_, fun j u hu => ?_, fun j => ?_, fun j hj => ?_, fun j => ?_, ?_, ?_⟩
  · have hsz : (w4.setCell ⟨Y, slot, none⟩ v4).heap.size = w4.heap.size := World.size_setCell _ _ _
    rw [hsz]
    have := hg.size
    omega
  · by_cases hj : j = slot
    · subst hj
      rw [List.getElem?_set_self (by omega)] at hu
      have : v4 = u := by simpa using hu
      subst this
      exact cell_set (hc4 Y j v (by omega) (h.y j v (by rw [List.getElem?_set_self (by omega)])))
    · rw [List.getElem?_set_ne (by omega)] at hu
      exact cell_set_ne (hc4 Y j u (by omega) (h.y j u (by rw [List.getElem?_set_ne (by omega)]; exact hu))) (by omega)
  · rw [World.frozen?_setCell]; exact hf4 Y j (by omega) (h.fy j)
  · obtain ⟨u, hu⟩ := h.r j hj
    exact ⟨u, by rw [World.cell?_setCell_other _ _ _ _ (fun e => by have := congrArg Addr.block e; simp only at this; omega)]; exact hc4 R j u (by omega) hu⟩
  · rw [World.frozen?_setCell]; exact hf4 R j (by omega) (h.fr j)
  · exact (h.acc.more hQ h01 (by have := h01.size; omega) h12 h23 hg hat hc hx hown).set hQ (by omega) _
  · have hsz : (w4.setCell ⟨Y, slot, none⟩ v4).heap.size = w4.heap.size := World.size_setCell _ _ _
    rw [hsz]
    have := hg.size
    omega
/-- What was there ahead of all stays. -/
theorem Grow.below {w w0 w3 w4 : World} {v v4 : Value} {B Y slot : Nat} (hw : Below w.heap.size w w0) (hb : Below w0.heap.size w0 w3) (hg : w3.grownBy w4 v.ownBlock) (hY : w.heap.size ≤ Y) (hwB : w.heap.size ≤ B) (ho : ∀ b, b < B → some b ≠ v.ownBlock) : Below w.heap.size w (w4.setCell ⟨Y, slot, none⟩ v4) := by
  refine (((hw.trans (hb.mono hw.size)).grown hg ?_ fun k hk => ?_)).setCell (p := ⟨Y, slot, none⟩) hY _
  · exact Nat.le_trans hw.size hb.size
  · apply Decidable.byContradiction
    intro hlt
    exact ho k (by omega) hk.symm
theorem le_set {w : World} {B R j : Nat} {x : Value} (h : R < B) : Cs.le (nwC B w) (nwC B (w.setCell ⟨R, j, none⟩ x)) := only_set (S := fun g => B ≤ g) (b := R) (by show ¬ B ≤ R; omega)
/-- The box of what is answered, written cell by cell. -/
theorem fill4 {w : World} {R : Nat} {a b c d r0 r1 r2 r3 : Value} (h0 : w.cell? ⟨R, 0, none⟩ = some r0) (h1 : w.cell? ⟨R, 1, none⟩ = some r1) (h2 : w.cell? ⟨R, 2, none⟩ = some r2) (h3 : w.cell? ⟨R, 3, none⟩ = some r3) :
    ((((w.setCell ⟨R, 0, none⟩ a).setCell ⟨R, 1, none⟩ b).setCell ⟨R, 2, none⟩ c).setCell ⟨R, 3, none⟩ d).cell? ⟨R, 0, none⟩ = some a ∧ ((((w.setCell ⟨R, 0, none⟩ a).setCell ⟨R, 1, none⟩ b).setCell ⟨R, 2, none⟩ c).setCell ⟨R, 3, none⟩ d).cell? ⟨R, 1, none⟩ = some b ∧
    ((((w.setCell ⟨R, 0, none⟩ a).setCell ⟨R, 1, none⟩ b).setCell ⟨R, 2, none⟩ c).setCell ⟨R, 3, none⟩ d).cell? ⟨R, 2, none⟩ = some c ∧ ((((w.setCell ⟨R, 0, none⟩ a).setCell ⟨R, 1, none⟩ b).setCell ⟨R, 2, none⟩ c).setCell ⟨R, 3, none⟩ d).cell? ⟨R, 3, none⟩ = some d :=
  ⟨cell_set_ne (cell_set_ne (cell_set_ne (cell_set h0) (by decide)) (by decide)) (by decide), cell_set_ne (cell_set_ne (cell_set (cell_set_ne h1 (by decide))) (by decide)) (by decide), cell_set_ne (cell_set (cell_set_ne (cell_set_ne h2 (by decide)) (by decide))) (by decide), cell_set (cell_set_ne (cell_set_ne (cell_set_ne h3 (by decide)) (by decide)) (by decide))⟩
/-- Expressions, as cells. -/
def ExQ (d : Nat) (C : Cs) (c : List Value) (x : Ex) : Prop := ∃ kv, c = [.int .i64 x.op, .int .i64 x.n, .string x.nm, kv] ∧ OkE x ∧ ExC C d kv x.ks
theorem ExQ.mono (d : Nat) : ∀ C D c x, Cs.le C D → ExQ d C c x → ExQ d D c x := fun _ _ _ _ h ⟨kv, h1, h2, h3⟩ => ⟨kv, h1, h2, ExC.mono h h3⟩
theorem ExQ.at_ (d : Nat) : ∀ (C : Cs) (c : List Value) (g o : Nat) (x : Ex), ExQ d C c x → (∀ j u, c[j]? = some u → C g (o + j) u) → ExAt C (ExC C d) g o x := by
  intro C c g o x ⟨kv, h1, h2, h3⟩ h
  subst h1
  exact ⟨kv, h 0 _ rfl, h 1 _ rfl, h 2 _ rfl, h 3 _ rfl, h2, h3⟩
theorem Acc.exC {d B : Nat} {t : TypeId} {w : World} {v : Value} {l : List Ex} {rows : List (List Value)} (h : Acc (ExQ d) B t 4 w v l rows) (hm : l.length ≤ 9223372036854775807) : ExC (nwC B w) (d + 1) v l :=
  h.sl (P := fun C g o x => ExAt C (ExC C d) g o x) hm (ExQ.mono d) fun C c g o x _ _ hq hc => ExQ.at_ d C c g o x hq hc
end Go.Proofs.Ytghlmengcidmdaa.Tr
end
section
namespace Go.Proofs.Ytghlmengcidmdaa.Tr
open Go.RowKit Go.Proofs.Ytghlmengcidmdaa.Lx Go.Proofs.Ytghlmengcidmdaa.Wd
theorem infoEx : (Try.prog.info? 37).map (fun i => (i.zero, i.size, i.bytes)) = some (some (.agg #[.int .i64 0, .int .i64 0, .string ⟨#[]⟩, .slice none 0 0]), 4, 56) := by kernel_rfl
/-- What a maker of an expression leaves: a new one. -/
def ExMade (d : Nat) (x : Ex) (w : World) (e : Ending) (w' : World) : Prop := ∃ kv, e = .returned (exV x kv) ∧ OkE x ∧ ExC (only (fun g => w.heap.size ≤ g) (cw w')) d kv x.ks ∧ Below w.heap.size w w'
end Go.Proofs.Ytghlmengcidmdaa.Tr
end
end
section
/- Plain: statements counted, found. How rows of statements lie. Conditions: none.
   What tree.count, tree.Count compute. Conditions: the rows lie in memory.
   What tree.find computes: where the first statement of an id stands. Conditions: the rows lie in memory.
   Plain: statements weighed, copied, numbered; a statement, an argument as cells. Conditions: none.
   What slices.Clone makes: a new slice. Conditions: the slice lies in memory, it is not long. -/
section
namespace Go.Proofs.Ytghlmengcidmdaa.Tr
open Go.RowKit Go.Proofs.Ytghlmengcidmdaa.Lx Go.Proofs.Ytghlmengcidmdaa.Wd
mutual
/-- The first statement of an id. -/
def findS (id : Int) : St → Option St
  | .mk i k ls nm pr x h ar t e => if i = id then some (.mk i k ls nm pr x h ar t e) else match findL id t with
    | some s => some s
    | none => findL id e
def findL (id : Int) : List St → Option St
  | [] => none
  | s :: r => match findS id s with
    | some t => some t
    | none => findL id r
end
end Go.Proofs.Ytghlmengcidmdaa.Tr
end
section
namespace Go.Proofs.Ytghlmengcidmdaa.Tr
open Go.RowKit Go.Proofs.Ytghlmengcidmdaa.Lx Go.Proofs.Ytghlmengcidmdaa.Wd
end Go.Proofs.Ytghlmengcidmdaa.Tr
end
section
namespace Go.Proofs.Ytghlmengcidmdaa.Tr
open Go.RowKit Go.Proofs.Ytghlmengcidmdaa.Lx Go.Proofs.Ytghlmengcidmdaa.Wd
end Go.Proofs.Ytghlmengcidmdaa.Tr
end
section
namespace Go.Proofs.Ytghlmengcidmdaa.Tr
open Go.RowKit Go.Proofs.Ytghlmengcidmdaa.Lx Go.Proofs.Ytghlmengcidmdaa.Wd
theorem wtL_mem {l : List St} {s : St} (h : s ∈ l) : wtS s ≤ wtL l := by
  induction l with
  | nil => cases h
  | cons t r ih =>
    rw [wtL_cons]
    rcases List.mem_cons.1 h with rfl | h
    · omega
    · have := ih h; omega
theorem wtL_len (l : List St) : l.length ≤ wtL l := by
  induction l with
  | nil => simp
  | cons s r ih => rw [wtL_cons, wtS_eq, List.length_cons]; omega
theorem wtAr_len (l : List Ar) : l.length ≤ (l.map wtAr).sum := by
  induction l with
  | nil => simp
  | cons s r ih => rw [List.map_cons, List.sum_cons, List.length_cons]; unfold wtAr at *; omega
theorem wtAr_mem {l : List Ar} {a : Ar} (h : a ∈ l) : wt a.x ≤ (l.map wtAr).sum := by
  induction l with
  | nil => cases h
  | cons t r ih =>
    rw [List.map_cons, List.sum_cons]
    rcases List.mem_cons.1 h with rfl | h
    · unfold wtAr; omega
    · have := ih h; omega
theorem wts_len (l : List Ex) : l.length ≤ wts l := by
  induction l with
  | nil => simp
  | cons x r ih => simp only [wts, List.length_cons]; rw [wt_eq]; omega
theorem wts_mem {l : List Ex} {x : Ex} (h : x ∈ l) : wt x ≤ wts l := by
  induction l with
  | nil => cases h
  | cons t r ih =>
    simp only [wts]
    rcases List.mem_cons.1 h with rfl | h
    · omega
    · have := ih h; omega
/-- What is light has no long row of kids. -/
theorem lim_of : ∀ (d : Nat) (ks : List Ex), wts ks ≤ 20000 → lim d ks := by
  intro d
  induction d with
  | zero => intro ks _; trivial
  | succ d ih =>
    intro ks h
    refine ⟨Nat.le_trans (wts_len ks) h, fun k hk => ih k.ks ?_⟩
    have := wts_mem hk
    rw [wt_eq] at this
    omega
theorem lim_ex {x : Ex} (h : wt x ≤ 20000) (d : Nat) : lim d x.ks := lim_of d x.ks (by rw [wt_eq] at h; omega)
/-- An argument, a statement as cells. -/
def ArQ (d : Nat) (C : Cs) (c : List Value) (a : Ar) : Prop := ∃ kv, c = [.bool a.ref, .string a.nm, .int .i64 a.x.op, .int .i64 a.x.n, .string a.x.nm, kv] ∧ a.nm.size ≤ 9223372036854775807 ∧ OkE a.x ∧ ExC C d kv a.x.ks
theorem ArQ.mono (d : Nat) : ∀ C D c x, Cs.le C D → ArQ d C c x → ArQ d D c x := fun _ _ _ _ h ⟨kv, h1, h2, h3, h4⟩ => ⟨kv, h1, h2, h3, ExC.mono h h4⟩
theorem ArQ.at_ (d : Nat) : ∀ (C : Cs) (c : List Value) (g o : Nat) (x : Ar), ArQ d C c x → (∀ j u, c[j]? = some u → C g (o + j) u) → ArAt C d g o x := by
  intro C c g o x ⟨kv, h1, h2, h3, h4⟩ h
  subst h1
  exact ⟨h 0 _ rfl, h 1 _ rfl, h2, kv, h 2 _ rfl, h 3 _ rfl, h 4 _ rfl, h 5 _ rfl, h3, h4⟩
def StQ (d : Nat) (C : Cs) (c : List Value) (s : St) : Prop := ∃ kv lv av tv ev, c = stCells s kv lv av tv ev ∧ OkE s.x ∧ ExC C d kv s.x.ks ∧ InI s.id ∧ InI s.kind ∧ s.nm.size ≤ 9223372036854775807 ∧ s.proc.size ≤ 9223372036854775807 ∧ StrC C lv s.labels ∧ SlAt 6 (ArAt C d) av s.args ∧ StC C d tv s.thn ∧ StC C d ev s.els
theorem StQ.mono (d : Nat) : ∀ C D c x, Cs.le C D → StQ d C c x → StQ d D c x := fun _ _ _ _ h ⟨kv, lv, av, tv, ev, h1, h2, h3, h4, h5, h6, h7, h8, h9, h10, h11⟩ =>
  ⟨kv, lv, av, tv, ev, h1, h2, ExC.mono h h3, h4, h5, h6, h7, StrC.mono h h8, SlAt.imp h9 (fun _ _ _ _ => ArAt.mono h), StC.mono h h10, StC.mono h h11⟩
theorem StQ.at_ (d : Nat) : ∀ (C : Cs) (c : List Value) (g o : Nat) (x : St), StQ d C c x → (∀ j u, c[j]? = some u → C g (o + j) u) → StAt C d (StC C d) g o x := by
  intro C c g o x ⟨kv, lv, av, tv, ev, h1, h2, h3, h4, h5, h6, h7, h8, h9, h10, h11⟩ h
  subst h1
  exact ⟨lv, av, tv, ev, h 0 _ rfl, h 1 _ rfl, h 2 _ rfl, h 3 _ rfl, h 4 _ rfl, ⟨kv, h 5 _ rfl, h 6 _ rfl, h 7 _ rfl, h 8 _ rfl, h2, h3⟩, h 9 _ rfl, h 10 _ rfl, h 11 _ rfl, h 12 _ rfl, h4, h5, h6, h7, h8, h9, h10, h11⟩
theorem Acc.stC {d B : Nat} {t : TypeId} {w : World} {v : Value} {l : List St} {rows : List (List Value)} (h : Acc (StQ d) B t 13 w v l rows) (hm : l.length ≤ 9223372036854775807) : StC (nwC B w) (d + 1) v l :=
  h.sl (P := fun C g o x => StAt C d (StC C d) g o x) hm (StQ.mono d) fun C c g o x _ _ hq hc => StQ.at_ d C c g o x hq hc
theorem Acc.arC {d B : Nat} {t : TypeId} {w : World} {v : Value} {l : List Ar} {rows : List (List Value)} (h : Acc (ArQ d) B t 6 w v l rows) (hm : l.length ≤ 9223372036854775807) : SlAt 6 (ArAt (nwC B w) d) v l :=
  h.sl (P := fun C g o x => ArAt C d g o x) hm (ArQ.mono d) fun C c g o x _ _ hq hc => ArQ.at_ d C c g o x hq hc
/-- While a row hangs on block Y is grown, all else below B stays. -/
theorem grow_keep {w0 w3 w4 : World} {v v4 : Value} {B Y slot : Nat} (hb : Below w0.heap.size w0 w3) (hg : w3.grownBy w4 v.ownBlock) (ho : ∀ b, b < B → some b ≠ v.ownBlock) :
    Cs.le (only (fun g => g < B ∧ g ≠ Y) (cw w0)) (only (fun g => g < B ∧ g ≠ Y) (cw (w4.setCell ⟨Y, slot, none⟩ v4))) := by
  intro g j u ⟨⟨h1, h2⟩, h3⟩
  have hlt := cell_lt h3
  refine ⟨⟨h1, h2⟩, ?_⟩
  show (w4.setCell ⟨Y, slot, none⟩ v4).cell? ⟨g, j, none⟩ = some u
  rw [World.cell?_setCell_other _ _ _ _ (fun e => h2 (congrArg Addr.block e).symm), hg.cell_far ⟨g, j, none⟩ (Nat.lt_of_lt_of_le hlt hb.size) (ho g h1)]
  exact cell_next hb h3
end Go.Proofs.Ytghlmengcidmdaa.Tr
end
section
namespace Go.Proofs.Ytghlmengcidmdaa.Tr
open Go.RowKit Go.Proofs.Ytghlmengcidmdaa.Lx Go.Proofs.Ytghlmengcidmdaa.Wd
end Go.Proofs.Ytghlmengcidmdaa.Tr
end
end
section
/- What CopyExpr of the reference makes: a new expression. Conditions: the expression lies in memory, no row of kids is long. -/
namespace Go.Proofs.Ytghlmengcidmdaa.Tr
open Go.RowKit Go.Proofs.Ytghlmengcidmdaa.Lx Go.Proofs.Ytghlmengcidmdaa.Wd
set_option maxHeartbeats 4000000 in
set_option maxRecDepth 100000 in
theorem copyExpr_any : ∀ (d : Nat) (x : Ex) (kv : Value) (w : World), OkE x → ExK d w kv x.ks → lim d x.ks →
    Calls Try.prog 139 #[exV x kv] w (ExMade d x w) := by
  intro d
  induction d with
  | zero => intro x kv w _ h; exact h.elim
  | succ d ih =>
    intro x kv w hok hk hlim
    have IH := Lib.hid ih
    obtain ⟨i0, hi, hz0, hz1, hz2⟩ := info_parts infoEx
    obtain ⟨ax, cx, rfl, hc1, hc2⟩ := hk.form
    have hbox := boxed w (.cells #[.int .i64 x.op, .int .i64 x.n, .string x.nm, .slice ax x.ks.length cx] 37)
    have HB := Lib.hid hbox
    have HK := Lib.hid (hk.next hbox)
    have HOK := Lib.hid hok
    have HK0 := Lib.hid hk
    have hlen := hlim.1
    have HLIM := Lib.hid hlim.2
    clear ih hbox hok hlim
    unfold exV
    go_enter Try.func139, Try.ntmps139
    go_upto_region 2 with fail
    refine cut_world (fun wx => Below w.heap.size w wx ∧ w.heap.size + 1 + 1 < wx.heap.size ∧ wx.cell? ⟨w.heap.size, 3, none⟩ = some (.slice ax x.ks.length cx) ∧ Grow (ExQ d) 37 4 (w.heap.size + 1 + 1 + 1) (w.heap.size + 1 + 1) (w.heap.size + 1) 4 [.int .i64 x.op, .int .i64 x.n, .string x.nm, .slice none 0 0] 3 [] wx (.slice none 0 0) []) ⟨?_, ?_, ?_, ?_⟩ ?_
    · exact ((boxed w _).alloc (by simp) _).alloc (by simp; omega) _
    · simp
    · simp [go_sem]
    · refine ⟨by omega, by omega, by omega, by simp, fun j u hu => ?_, fun j => by simp [go_sem], fun j hj => ?_, fun j => by simp [go_sem], Acc.nil _ _ _ _ _, by simp⟩
      · match j, hu with
        | 0, hu => cases hu; simp [go_sem]
        | 1, hu => cases hu; simp [go_sem]
        | 2, hu => cases hu; simp [go_sem]
        | 3, hu => cases hu; simp [go_sem]
      · match j, hj with
        | 0, _ => exact ⟨.int .i64 0, by simp [go_sem]⟩
        | 1, _ => exact ⟨.int .i64 0, by simp [go_sem]⟩
        | 2, _ => exact ⟨.string ⟨#[]⟩, by simp [go_sem]⟩
        | 3, _ => exact ⟨.slice none 0 0, by simp [go_sem]⟩
    · intro wc hcut0
      have hcut := And.intro (rfl : (0 : Nat) = 0) hcut0
      clear hcut0
      obtain ⟨-, hbel, hsz, hb3, hG⟩ := hcut
      have HBC := Lib.hid hbel
      have HGC := Lib.hid hG
      have hkc := hk.next hbel
      have HKC := Lib.hid hkc
      have hwc : wc.cell? ⟨w.heap.size, 3, none⟩ = some (.slice ax x.ks.length cx) := hb3
      clear hbel hG hkc hk
      go_wp2_with fail
      go_loopw [15] (fun i wr => ∃ (k : Nat) (v : Value) (rows : List (List Value)), k ≤ x.ks.length ∧ i = .int .i64 k ∧ Below w.heap.size w wr ∧ wc.heap.size ≤ wr.heap.size ∧ wr.cell? ⟨w.heap.size, 3, none⟩ = some (.slice ax x.ks.length cx) ∧ ExK (d + 1) wr (.slice ax x.ks.length cx) x.ks ∧
          Grow (ExQ d) 37 4 (w.heap.size + 1 + 1 + 1) (w.heap.size + 1 + 1) (w.heap.size + 1) 4 [.int .i64 x.op, .int .i64 x.n, .string x.nm, .slice none 0 0] 3 (x.ks.take k) wr v rows) (fun i _ => (x.ks.length - intOf i).toNat)
      case atStart => exact ⟨0, _, [], by omega, rfl, HBC.out, Nat.le_refl _, hwc, HKC.out, HGC.out⟩
      case round =>
        obtain ⟨k, v, rows, hk, rfl, hbel, hle, hc3, hkr, hG⟩ := hrel
        have HBel := Lib.hid hbel
        have HKR := Lib.hid hkr
        have HG := Lib.hid hG
        have hL : (x.ks.take k).length = k := by simp; omega
        have y3 := hG.y 3 _ rfl
        have hown := hG.acc.own
        rw [hL] at hown
        have HOWN := Lib.hid hown
        have fy := hG.fy 3
        clear hwc hb3
        by_cases hlt : k < x.ks.length
        · have hlt' : (k : Int) < (x.ks.length : Int) := by omega
          have h0k : (0 : Int) ≤ (k : Int) := by omega
          have hne : x.ks ≠ [] := by intro h; rw [h] at hlt; simp at hlt
          obtain ⟨g, off, cap', hv, _, _, hcells⟩ := hkr.kids hne
          simp only [Value.slice.injEq] at hv
          obtain ⟨rfl, -, rfl⟩ := hv
          obtain ⟨hok2, u, c0, c1, c2, c3, hku⟩ := hcells k hlt
          obtain ⟨au, cu, rfl, -, -⟩ := hku.form
          have HKU := Lib.hid hku
          have HOK2 := Lib.hid hok2
          have hlimk := HLIM.out x.ks[k] (List.getElem_mem hlt)
          have HLK := Lib.hid hlimk
          have hyl := cell_lt y3
          have hgw : g < w.heap.size := by
            obtain ⟨g0, off0, cap0, hv0, _, _, hcells0⟩ := HK0.out.kids hne
            simp only [Value.slice.injEq, Option.some.injEq, Addr.mk.injEq] at hv0
            obtain ⟨⟨rfl, -⟩, -⟩ := hv0
            obtain ⟨_, _, q0, _⟩ := hcells0 k hlt
            exact cell_lt q0
          obtain ⟨va, vc, rfl⟩ := ownsForm hown
          have hnb := hG.own
          have HNB := Lib.hid hnb
          have hwl : w.heap.size < wr.heap.size := by omega
          have hgl : g < wr.heap.size := by omega
          clear hcells hku hok2 hbel hne hkr hG hown hlimk hnb
          obtain ⟨E, hE⟩ : ∃ E, Hid (x.ks[k] = E) := ⟨_, Lib.hid rfl⟩
          have IHK : Hid (∀ W kv, ExK d W kv x.ks[k].ks → Calls Try.prog 139 #[exV x.ks[k] kv] W (ExMade d E W)) := Lib.hid (fun W kv h => hE.out ▸ IH.out x.ks[k] kv W HOK2.out h HLK.out)
          have Y3 := Lib.hid y3
          have HC3 := Lib.hid hc3
          have FY := Lib.hid fy
          go_upto_region 5 with fail
          go_region_law
            (first
              | (go_simp; go_at_call 139; refine (IHK.out _ _ (HKU.out.next ((Below.refl _ _).drew))).mono ?_; rintro e w2 ⟨kv2, rfl, hok3, hkc3, hb2⟩; obtain ⟨ka2, kc2, rfl, hka1, hka2⟩ := hkc3.form; unfold exV; have z3 := cell_next hb2 (cell_next ((Below.refl _ _).drew) Y3.out); have zf := frozen_next hb2 (cell_next ((Below.refl _ _).drew) Y3.out) (frozen_next ((Below.refl _ _).drew) Y3.out FY.out); have Z3 := Lib.hid z3; have ZF := Lib.hid zf; have znew := World.new_ne _ _ z3; have zlt := cell_lt z3; dsimp only)
              | (have hbt := hb2; refine step_append_lies _ (by rfl) (.tmp 19) (.tmp 26) _ (by rfl) (w.heap.size + 1 + 1 + 1) 37 i0 (.agg #[.int .i64 0, .int .i64 0, .string ⟨#[]⟩, .slice none 0 0]) 4 56 Try.underlying35 hi hz0 hz1 hz2 rfl (by omega) (.slice va k vc) k rows.flatten (by rfl) ((ownsBelow HOWN.out.drew hb2).alloc _)
                  ⟨w2.heap.size, 0, none⟩ 1 1 [.int .i64 E.op, .int .i64 E.n, .string E.nm, .slice ka2 E.ks.length kc2] (by rfl) (by rfl) (World.news_of_block (cs := #[.int .i64 E.op, .int .i64 E.n, .string E.nm, .slice ka2 E.ks.length kc2]) (t := 37) (fr := (0, 0)) (heap_alloc_new w2 _)) (by simp [Value.oneCell'])
                  (by omega) (by unfold maxLen; omega) (by omega) (by have := hb2.size; simp at this ⊢ <;> omega) (w2.heap.size + 1) (by simp) ?_; intro gg cap4 w4 hown4 hgrow4 hat4 hlt4
                 have ylt := cell_lt Z3.out
                 have q3 := (hgrow4.cell_far ⟨w.heap.size + 1 + 1, 3, none⟩ (by simp <;> omega) (HNB.out _ (by simp))).trans (cell_next (boxed w2 _) Z3.out)
                 have qf := (hgrow4.frozen_far ⟨w.heap.size + 1 + 1, 3, none⟩ (by simp <;> omega) (HNB.out _ (by simp))).trans (frozen_next (boxed w2 _) Z3.out ZF.out)))
          all_goals
            go_wp2_with fail
            go_roundw
            case rel =>
              have hch : Below wr.heap.size wr (w2.alloc (.cells #[.int .i64 E.op, .int .i64 E.n, .string E.nm, .slice ka2 E.ks.length kc2] 37)) := (((Below.refl _ _).drew).trans hb2).trans ((boxed w2 _).mono hb2.size)
              have hB2 := Grow.below (B := w.heap.size + 1 + 1 + 1) (Y := w.heap.size + 1 + 1) (slot := 3) (v4 := .slice (some ⟨gg, 0, none⟩) (k + 1) cap4) HBel.out hch hgrow4 (by omega) (by omega) HNB.out
              have hstep := HG.out.step (v4 := .slice (some ⟨gg, 0, none⟩) (k + 1) cap4) (by simp) (ExQ.mono d) ((Below.refl _ _).drew) hb2 (boxed w2 _) hgrow4 (fun q hq => by have hqq : gg = q := by { simpa [Value.ownBlock] using hq }; subst hqq; exact hat4.imp id fun h => by omega) rfl ⟨_, rfl, hok3, hkc3⟩ (by rw [hL]; exact hown4)
              refine ⟨k + 1, .slice (some ⟨gg, 0, none⟩) (k + 1) cap4, rows ++ [[.int .i64 E.op, .int .i64 E.n, .string E.nm, .slice ka2 E.ks.length kc2]], by omega, by go_num, hB2, ?_, ?_, HK0.out.next hB2, ?_⟩
              · have := hgrow4.size
                have := hch.size
                simp only [World.size_setCell]
                omega
              · rw [World.cell?_setCell_other _ _ _ _ (fun e => by have := congrArg Addr.block e; simp only at this; omega), hgrow4.cell_far _ (by have := hch.size; simp only; omega) (HNB.out _ (by simp only; omega))]
                exact cell_next hch HC3.out
              · rw [List.take_succ_eq_append_getElem hlt, hE.out]
                exact hstep
            case measure => simp [intOf]; omega
        · have hlt' : ¬ (k : Int) < (x.ks.length : Int) := by omega
          have hke : k = x.ks.length := by omega
          subst hke
          obtain ⟨va, vc, rfl⟩ := ownsForm hown
          rw [List.take_length] at HG
          have y0 := HG.out.y 0 _ rfl
          have y1 := HG.out.y 1 _ rfl
          have y2 := HG.out.y 2 _ rfl
          obtain ⟨r0, hr0⟩ := HG.out.r 0 (by omega)
          obtain ⟨r1, hr1⟩ := HG.out.r 1 (by omega)
          obtain ⟨r2, hr2⟩ := HG.out.r 2 (by omega)
          obtain ⟨r3, hr3⟩ := HG.out.r 3 (by omega)
          have f0 := HG.out.fy 0
          have f1 := HG.out.fr 0
          have f2 := HG.out.fr 1
          have f3 := HG.out.fr 2
          have f4 := HG.out.fr 3
          have hfit : x.ks.length ≤ 9223372036854775807 := by omega
          have hm := HG.out.acc.exC hfit
          have HM := Lib.hid hm
          clear hG hbel hm hown
          go_wp2_with fail
          obtain ⟨q0, q1, q2, q3⟩ := fill4 (a := .int .i64 x.op) (b := .int .i64 x.n) (c := .string x.nm) (d := .slice va x.ks.length vc) hr0 hr1 hr2 hr3
          refine bodyPost_ret (v := .agg #[.int .i64 x.op, .int .i64 x.n, .string x.nm, .slice va x.ks.length vc]) (by simp [results, Try.results139, go_sem, q0, q1, q2, q3]) rfl ⟨.slice va x.ks.length vc, ?_, ⟨?_, ?_, ?_⟩, ?_, ?_⟩
          · rfl
          · exact HOK.out.op
          · exact HOK.out.n
          · exact HOK.out.nm
          · refine ExC.mono (Cs.le_trans (le_set (R := w.heap.size + 1) (by omega)) (Cs.le_trans (le_set (R := w.heap.size + 1) (by omega)) (Cs.le_trans (le_set (R := w.heap.size + 1) (by omega)) (Cs.le_trans (le_set (R := w.heap.size + 1) (by omega)) (nw_le (by omega) (Below.refl _ _)))))) HM.out
          · refine (((HBel.out.setCell (p := ⟨_, _, none⟩) ?_ _).setCell (p := ⟨_, _, none⟩) ?_ _).setCell (p := ⟨_, _, none⟩) ?_ _).setCell (p := ⟨_, _, none⟩) ?_ _ <;> simp
end Go.Proofs.Ytghlmengcidmdaa.Tr
end
section
/- What tree.copied makes: a row of new statements, numbered on if so. Conditions: the row lies in memory, it is light. -/
namespace Go.Proofs.Ytghlmengcidmdaa.Tr
open Go.RowKit Go.Proofs.Ytghlmengcidmdaa.Lx Go.Proofs.Ytghlmengcidmdaa.Wd
theorem infoSt : (Try.prog.info? 41).map (fun i => (i.zero, i.size, i.bytes)) = some (some (.agg #[.int .i64 0, .int .i64 0, .slice none 0 0, .string ⟨#[]⟩, .string ⟨#[]⟩, .int .i64 0, .int .i64 0, .string ⟨#[]⟩, .slice none 0 0, .bool false, .slice none 0 0, .slice none 0 0, .slice none 0 0]), 13, 208) := by kernel_rfl
theorem infoAr : (Try.prog.info? 49).map (fun i => (i.zero, i.size, i.bytes)) = some (some (.agg #[.bool false, .string ⟨#[]⟩, .int .i64 0, .int .i64 0, .string ⟨#[]⟩, .slice none 0 0]), 6, 80) := by kernel_rfl
end Go.Proofs.Ytghlmengcidmdaa.Tr
end
section
/- What tree.Find tells. Conditions: the program lies in memory, it is light. -/
namespace Go.Proofs.Ytghlmengcidmdaa.Tr
open Go.RowKit Go.Proofs.Ytghlmengcidmdaa.Lx Go.Proofs.Ytghlmengcidmdaa.Wd
/-- The first statement of an id, and its procedure's name. -/
def findP (id : Int) : List Pc → Option (ByteArray × St)
  | [] => none
  | f :: r => match findL id f.body with
    | some s => some (f.nm, s)
    | none => findP id r
end Go.Proofs.Ytghlmengcidmdaa.Tr
end
section
/- What flat's row says of find: the first item of an id is the statement that find tells; ids are one after another. No program. Conditions: the rows may be. -/
namespace Go.Proofs.Ytghlmengcidmdaa.Tr
open Go.RowKit Go.Proofs.Ytghlmengcidmdaa.Lx Go.Proofs.Ytghlmengcidmdaa.Wd
mutual
theorem preS_find (id : Int) : ∀ (s : St) (deep inn : Int) (els : Bool), ((preS deep inn els s).find? fun i => i.s.id == id).map It.s = findS id s
  | .mk i k ls nm pr x h ar th el, deep, inn, els => by
    rw [preS, findS, List.find?_cons]
    by_cases hi : i = id
    · simp [hi, St.id]
    · have : ((It.mk (.mk i k ls nm pr x h ar th el) deep inn els).s.id == id) = false := by simp [St.id, hi]
      rw [this, if_neg hi, List.find?_append]
      have h1 := preL_find id th (deep + 1) i false
      have h2 := preL_find id el (deep + 1) i true
      cases hf : (preL (deep + 1) i false th).find? fun i => i.s.id == id with
      | some a => rw [hf] at h1; simp at h1; simp [← h1]
      | none => rw [hf] at h1; simp at h1; rw [← h1]; simpa using h2
theorem preL_find (id : Int) : ∀ (l : List St) (deep inn : Int) (els : Bool), ((preL deep inn els l).find? fun i => i.s.id == id).map It.s = findL id l
  | [], deep, inn, els => by rw [preL, findL]; rfl
  | s :: r, deep, inn, els => by
    rw [preL, findL, List.find?_append]
    have h1 := preS_find id s deep inn els
    have h2 := preL_find id r deep inn els
    cases hf : (preS deep inn els s).find? fun i => i.s.id == id with
    | some a => rw [hf] at h1; simp at h1; simp [← h1]
    | none => rw [hf] at h1; simp at h1; rw [← h1]; simpa using h2
end
theorem mayP_flat {p : Pr} (h : mayP p = true) {f : Pc} (hf : f ∈ p.procs) (id : Int) : ((flatOf f).find? fun i => i.s.id == id).map It.s = findL id f.body := by
  unfold mayP at h
  simp only [Bool.and_eq_true] at h
  obtain ⟨m, h0, h1, h2⟩ := mayPs_rows p.procs 0 h.2 (by omega) (by omega) f hf
  have := rows_most f.body 1 m h2 h1
  unfold flatOf
  rw [flatL_pre f.body 1 0 m false [] h2 (by simp; omega), List.nil_append]
  exact preL_find id _ _ _ _
end Go.Proofs.Ytghlmengcidmdaa.Tr
end
