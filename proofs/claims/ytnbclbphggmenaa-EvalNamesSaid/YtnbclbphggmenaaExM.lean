/- How expressions, lists of texts, lists of numbers lie in memory. Conditions: none. -/
import Derived.Test.YtnbclbphggmenaaExP
import Derived.Below
import Derived.WalkSmall
namespace Go.Proofs.Ytnbclbphggmenaa.Tr
open Go.RowKit Go.Proofs.Ytnbclbphggmenaa.Lx Go.Proofs.Ytnbclbphggmenaa.Wd
theorem cell_lt {w : World} {g j : Nat} {u : Value} (h : w.cell? ⟨g, j, none⟩ = some u) : g < w.heap.size := by
  apply Decidable.byContradiction
  intro hn
  have e : w.heap[g]? = none := Array.getElem?_eq_none (by omega)
  simp [World.cell?, e] at h
theorem cell_next {w w' : World} {g j : Nat} {u : Value} (hb : Below w.heap.size w w') (h : w.cell? ⟨g, j, none⟩ = some u) : w'.cell? ⟨g, j, none⟩ = some u :=
  (hb.cell (p := ⟨g, j, none⟩) (cell_lt h)).trans h
/-- The expression's own fields fit. -/
structure OkE (x : Ex) : Prop where
  op : InI x.op
  n : InI x.n
  nm : x.nm.size ≤ 9223372036854775807
/-- A slice of expressions that lie in memory, so many at most in one another. -/
def ExK : Nat → World → Value → List Ex → Prop
  | 0, _, _, _ => False
  | d + 1, w, kv, ks => ∃ a cap, kv = .slice a ks.length cap ∧ ks.length ≤ cap ∧ cap ≤ 9223372036854775807 ∧ (ks ≠ [] → ∃ g off, a = some ⟨g, off, none⟩ ∧
      ∀ i (h : i < ks.length), OkE ks[i] ∧ ∃ u, w.cell? ⟨g, off + i * 4, none⟩ = some (.int .i64 ks[i].op) ∧ w.cell? ⟨g, off + i * 4 + 1, none⟩ = some (.int .i64 ks[i].n) ∧
        w.cell? ⟨g, off + i * 4 + 2, none⟩ = some (.string ks[i].nm) ∧ w.cell? ⟨g, off + i * 4 + 3, none⟩ = some u ∧ ExK d w u ks[i].ks)
theorem ExK.next {w w' : World} (hb : Below w.heap.size w w') : ∀ {d : Nat} {kv : Value} {ks : List Ex}, ExK d w kv ks → ExK d w' kv ks := by
  intro d
  induction d with
  | zero => intro kv ks h; exact h
  | succ d ih =>
    intro kv ks h
    obtain ⟨a, cap, h1, h2, h3, h4⟩ := h
    refine ⟨a, cap, h1, h2, h3, fun hne => ?_⟩
    obtain ⟨g, off, h5, h6⟩ := h4 hne
    refine ⟨g, off, h5, fun i hi => ?_⟩
    obtain ⟨h7, u, c0, c1, c2, c3, hk⟩ := h6 i hi
    exact ⟨h7, u, cell_next hb c0, cell_next hb c1, cell_next hb c2, cell_next hb c3, ih hk⟩
/-- The kids of one, opened. -/
theorem ExK.kids {w : World} {d : Nat} {kv : Value} {ks : List Ex} (h : ExK (d + 1) w kv ks) (hne : ks ≠ []) : ∃ g off cap, kv = .slice (some ⟨g, off, none⟩) ks.length cap ∧ ks.length ≤ cap ∧ cap ≤ 9223372036854775807 ∧
    ∀ i (h : i < ks.length), OkE ks[i] ∧ ∃ u, w.cell? ⟨g, off + i * 4, none⟩ = some (.int .i64 ks[i].op) ∧ w.cell? ⟨g, off + i * 4 + 1, none⟩ = some (.int .i64 ks[i].n) ∧
        w.cell? ⟨g, off + i * 4 + 2, none⟩ = some (.string ks[i].nm) ∧ w.cell? ⟨g, off + i * 4 + 3, none⟩ = some u ∧ ExK d w u ks[i].ks := by
  obtain ⟨a, cap, h1, h2, h3, h4⟩ := h
  obtain ⟨g, off, rfl, h6⟩ := h4 hne
  exact ⟨g, off, cap, h1, h2, h3, h6⟩
theorem ExK.form {w : World} {d : Nat} {kv : Value} {ks : List Ex} (h : ExK d w kv ks) : ∃ a cap, kv = .slice a ks.length cap ∧ ks.length ≤ cap ∧ cap ≤ 9223372036854775807 := by
  cases d with
  | zero => exact h.elim
  | succ d =>
    obtain ⟨a, cap, h1, h2, h3, h4⟩ := h
    exact ⟨a, cap, h1, h2, h3⟩
/-- The expression as a value. -/
def exV (x : Ex) (kv : Value) : Value := .agg #[.int .i64 x.op, .int .i64 x.n, .string x.nm, kv]
/-- A slice of texts. -/
def StrsAt (w : World) (v : Value) (l : List ByteArray) : Prop :=
  ∃ a cap, v = .slice a l.length cap ∧ l.length ≤ cap ∧ cap ≤ 9223372036854775807 ∧ (l ≠ [] → ∃ g off, a = some ⟨g, off, none⟩ ∧ ∀ i (h : i < l.length), l[i].size ≤ 9223372036854775807 ∧ w.cell? ⟨g, off + i, none⟩ = some (.string l[i]))
/-- A slice of numbers. -/
def IntsAt (w : World) (v : Value) (l : List Int) : Prop :=
  ∃ a cap, v = .slice a l.length cap ∧ l.length ≤ cap ∧ cap ≤ 9223372036854775807 ∧ (l ≠ [] → ∃ g off, a = some ⟨g, off, none⟩ ∧ ∀ i (h : i < l.length), InI l[i] ∧ w.cell? ⟨g, off + i, none⟩ = some (.int .i64 l[i]))
theorem StrsAt.next {w w' : World} {v : Value} {l : List ByteArray} (h : StrsAt w v l) (hb : Below w.heap.size w w') : StrsAt w' v l := by
  obtain ⟨a, cap, h1, h2, h3, h4⟩ := h
  refine ⟨a, cap, h1, h2, h3, fun hne => ?_⟩
  obtain ⟨g, off, h5, h6⟩ := h4 hne
  exact ⟨g, off, h5, fun i hi => ⟨(h6 i hi).1, cell_next hb (h6 i hi).2⟩⟩
theorem IntsAt.next {w w' : World} {v : Value} {l : List Int} (h : IntsAt w v l) (hb : Below w.heap.size w w') : IntsAt w' v l := by
  obtain ⟨a, cap, h1, h2, h3, h4⟩ := h
  refine ⟨a, cap, h1, h2, h3, fun hne => ?_⟩
  obtain ⟨g, off, h5, h6⟩ := h4 hne
  exact ⟨g, off, h5, fun i hi => ⟨(h6 i hi).1, cell_next hb (h6 i hi).2⟩⟩
/-- What is known below W's size, once a box has been made. -/
theorem boxed (w : World) (o : Obj) : Below w.heap.size w (w.alloc o) := (Below.refl _ _).alloc (Nat.le_refl _) _
end Go.Proofs.Ytnbclbphggmenaa.Tr
