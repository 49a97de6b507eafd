/- Rows that may be written: their cells are not frozen. No program. Conditions: the rows are owned. -/
import Derived.Test.YtnbclbphggmenaaNumP
namespace Go.Proofs.Ytnbclbphggmenaa.Tr
open Go.RowKit Go.Proofs.Ytnbclbphggmenaa.Lx Go.Proofs.Ytnbclbphggmenaa.Wd
/-- The cells of what is not frozen. -/
def cf (w : World) : Cs := fun g j u => cw w g j u ∧ Free w g
theorem cf_next {w w' : World} (hb : Below w.heap.size w w') : Cs.le (cf w) (cf w') := fun _ _ _ h => ⟨cw_next hb _ _ _ h.1, Free.next h.2 (cell_lt h.1) hb⟩
theorem cf_set {S : Nat → Prop} {w : World} {b j : Nat} {x : Value} (h : ¬ S b) : Cs.le (only S (cf w)) (only S (cf (w.setCell ⟨b, j, none⟩ x))) := fun g i u ⟨h1, h2⟩ =>
  ⟨h1, (only_set (S := S) h g i u ⟨h1, h2.1⟩).2, Free.set h2.2⟩
abbrev newF (B : Nat) (v : Value) (w : World) : Cs := only (fun g => B ≤ g ∧ v.ownBlock ≠ some g) (cf w)
abbrev nwF (B : Nat) (w : World) : Cs := only (fun g => B ≤ g) (cf w)
theorem nf_le {B B' : Nat} {w w' : World} (hB : B' ≤ B) (hb : Below w.heap.size w w') : Cs.le (nwF B w) (nwF B' w') := only_le (fun _ h => Nat.le_trans hB h) (cf_next hb)
theorem free_grown {w w' : World} {row : Option Nat} {g : Nat} (hg : w.grownBy w' row) (hlt : g < w.heap.size) (hne : some g ≠ row) (h : Free w g) : Free w' g := fun j => (hg.frozen_far ⟨g, j, none⟩ hlt hne).trans (h j)
theorem lf_old {w1 w2 w4 : World} {B : Nat} {v v4 : Value} (hb : Below w1.heap.size w1 w2) (hg : w2.grownBy w4 v.ownBlock) (hat : ∀ g, v4.ownBlock = some g → v.ownBlock = some g ∨ w1.heap.size ≤ g) : Cs.le (newF B v w1) (newF B v4 w4) := by
  intro g j u ⟨h1, h2, h3⟩
  have hlt := cell_lt h2
  have hk := le_old (B := B) hb hg hat g j u ⟨h1, h2⟩
  exact ⟨hk.1, hk.2, free_grown hg (Nat.lt_of_lt_of_le hlt hb.size) (fun e => h1.2 e.symm) (Free.next h3 hlt hb)⟩
theorem lf_made {w1 w2 w3 w4 : World} {B : Nat} {v v4 : Value} (h12 : B ≤ w1.heap.size) (hb : Below w2.heap.size w2 w3) (hg : w3.grownBy w4 v.ownBlock) (ho : ∀ g, v.ownBlock = some g → g < w1.heap.size) (hat : ∀ g, v4.ownBlock = some g → v.ownBlock = some g ∨ w2.heap.size ≤ g) : Cs.le (nwF w1.heap.size w2) (newF B v4 w4) := by
  intro g j u ⟨h1, h2, h3⟩
  have hlt := cell_lt h2
  have hk := le_made (B := B) h12 hb hg ho hat g j u ⟨h1, h2⟩
  have hn : some g ≠ v.ownBlock := fun e => by have := ho g e.symm; omega
  exact ⟨hk.1, hk.2, free_grown hg (Nat.lt_of_lt_of_le hlt hb.size) hn (Free.next h3 hlt hb)⟩
/-- What is known of each thing of a row that may be written. -/
def EachF {α : Type} (Q : Cs → List Value → α → Prop) (B : Nat) (w : World) (v : Value) (l : List α) (rows : List (List Value)) : Prop := ∀ i (h : i < l.length) (h' : i < rows.length), Q (newF B v w) rows[i] l[i]
theorem EachF.nil {α : Type} (Q : Cs → List Value → α → Prop) (B : Nat) (w : World) (v : Value) : EachF Q B w v [] [] := fun _ h => absurd h (by simp)
theorem EachF.more {α : Type} {Q : Cs → List Value → α → Prop} {B : Nat} {w0 w1 w2 w3 w4 : World} {v v4 : Value} {l : List α} {rows : List (List Value)} {c : List Value} {x : α} (hQ : ∀ C D c x, Cs.le C D → Q C c x → Q D c x)
    (h : EachF Q B w0 v l rows) (hlen : rows.length = l.length) (ho : ∀ g, v.ownBlock = some g → g < w0.heap.size) (h01 : Below w0.heap.size w0 w1) (hB : B ≤ w1.heap.size) (h12 : Below w1.heap.size w1 w2) (h23 : Below w2.heap.size w2 w3) (hg : w3.grownBy w4 v.ownBlock) (hat : ∀ g, v4.ownBlock = some g → v.ownBlock = some g ∨ w2.heap.size ≤ g)
    (hx : Q (nwF w1.heap.size w2) c x) : EachF Q B w4 v4 (l ++ [x]) (rows ++ [c]) := by
  intro i h1 h2
  simp only [List.getElem_append]
  simp at h1 h2
  by_cases hi : i < l.length
  · rw [dif_pos hi, dif_pos (by omega)]
    refine hQ _ _ _ _ (lf_old ((h01.trans (h12.mono h01.size)).trans (h23.mono (Nat.le_trans h01.size h12.size))) hg fun g hgg => ?_) (h i hi (by omega))
    rcases hat g hgg with h | h
    · exact .inl h
    · exact .inr (Nat.le_trans (Nat.le_trans h01.size h12.size) h)
  · rw [dif_neg hi, dif_neg (by omega)]
    have e1 : i - l.length = 0 := by omega
    have e2 : i - rows.length = 0 := by omega
    simp only [e1, e2, List.getElem_cons_zero]
    exact hQ _ _ _ _ (lf_made hB h23 hg (fun g hgg => Nat.lt_of_lt_of_le (ho g hgg) h01.size) hat) hx
theorem EachF.set {α : Type} {Q : Cs → List Value → α → Prop} {B : Nat} {w : World} {v : Value} {l : List α} {rows : List (List Value)} (hQ : ∀ C D c x, Cs.le C D → Q C c x → Q D c x) (h : EachF Q B w v l rows) {b j : Nat} (hb : b < B) (u : Value) : EachF Q B (w.setCell ⟨b, j, none⟩ u) v l rows := fun i h1 h2 =>
  hQ _ _ _ _ (cf_set (fun e => by omega)) (h i h1 h2)
/-- The row at last. -/
theorem Acc.slF {α : Type} {Q0 Q : Cs → List Value → α → Prop} {P : Cs → Nat → Nat → α → Prop} {B : Nat} {t : TypeId} {z : Nat} {w : World} {v : Value} {l : List α} {rows : List (List Value)} (h : Acc Q0 B t z w v l rows) (he : EachF Q B w v l rows) (hm : l.length ≤ 9223372036854775807)
    (hQ : ∀ C D c x, Cs.le C D → Q C c x → Q D c x) (hP : ∀ C D c g o x, Q0 D c x → Q C c x → (∀ j u, c[j]? = some u → C g (o + j) u) → P C g o x) : SlAt z (P (nwF B w)) v l := by
  have hlen := h.len
  have hown := h.own
  rcases h.own.2 with ⟨hv, hn⟩ | ⟨g, cap, cur, hv, h1, h2, h3, h4, h5, h6⟩
  · have : l = [] := List.eq_nil_of_length_eq_zero hn
    subst this
    rw [hv]
    exact SlAt.nil
  · have hfr : Free w g := fun j => by
      have ho := h.own
      rw [hv] at ho
      exact ho.frozenAt j
    refine ⟨_, cap, hv, h3, h4, fun hne => ⟨g, 0, rfl, fun i hi => ?_⟩⟩
    refine hP _ _ rows[i] g _ _ (h.each i hi (by omega)) (hQ _ _ _ _ (only_le (fun _ h => h.1) fun _ _ _ h => h) (he i hi (by omega))) fun j u hu => ⟨h1, ?_, hfr⟩
    have := hown.cells (g := g) (by rw [hv]; rfl) (i * z + j) u (flat_get rows i j u h.wide (by omega) hu)
    rw [Addr.add_lit, Nat.zero_add] at this
    show w.cell? ⟨g, 0 + i * z + j, none⟩ = _
    rw [Nat.zero_add]
    exact this
theorem SlAt.monoC {α : Type} {z : Nat} {P : Cs → Nat → Nat → α → Prop} {C D : Cs} {v : Value} {l : List α} (hP : ∀ g o x, P C g o x → P D g o x) (h : SlAt z (P C) v l) : SlAt z (P D) v l := SlAt.imp h fun g o x _ h => hP g o x h
/-- What of a program is written. -/
def ArF (C : Cs) (g o : Nat) (a : Ar) : Prop := C g (o + 1) (.string a.nm)
def PaF (C : Cs) (g o : Nat) (x : Pa) : Prop := C g o (.string x.nm)
def StF (C : Cs) (g o : Nat) (s : St) : Prop := C g (o + 1) (.int .i64 s.kind) ∧ ∃ av, C g (o + 10) av ∧ SlAt 6 (ArF C) av s.args
def PcF (C : Cs) (g o : Nat) (f : Pc) : Prop := C g o (.string f.nm) ∧ ∃ pv bv, C g (o + 1) pv ∧ C g (o + 3) bv ∧ SlAt 2 (PaF C) pv f.params ∧ SlAt 13 (StF C) bv f.body
theorem ArF.mono {C D : Cs} (h : Cs.le C D) {g o : Nat} {a : Ar} (q : ArF C g o a) : ArF D g o a := h _ _ _ q
theorem PaF.mono {C D : Cs} (h : Cs.le C D) {g o : Nat} {a : Pa} (q : PaF C g o a) : PaF D g o a := h _ _ _ q
theorem StF.mono {C D : Cs} (h : Cs.le C D) {g o : Nat} {s : St} (q : StF C g o s) : StF D g o s := by
  obtain ⟨h1, av, h2, h3⟩ := q
  exact ⟨h _ _ _ h1, av, h _ _ _ h2, SlAt.imp h3 fun _ _ _ _ => ArF.mono h⟩
theorem PcF.mono {C D : Cs} (h : Cs.le C D) {g o : Nat} {f : Pc} (q : PcF C g o f) : PcF D g o f := by
  obtain ⟨h1, pv, bv, h2, h3, h4, h5⟩ := q
  exact ⟨h _ _ _ h1, pv, bv, h _ _ _ h2, h _ _ _ h3, SlAt.imp h4 fun _ _ _ _ => PaF.mono h, SlAt.imp h5 fun _ _ _ _ => StF.mono h⟩
/-- Of a statement's cells, of a procedure's. -/
def QS (C : Cs) (r : List Value) (s : St) : Prop := ∃ av, r[10]? = some av ∧ SlAt 6 (ArF C) av s.args
def QP (C : Cs) (r : List Value) (f : Pc) : Prop := ∃ pv bv, r[1]? = some pv ∧ r[3]? = some bv ∧ SlAt 2 (PaF C) pv f.params ∧ SlAt 13 (StF C) bv f.body
theorem QS.mono : ∀ C D r s, Cs.le C D → QS C r s → QS D r s := fun _ _ _ _ h ⟨av, h1, h2⟩ => ⟨av, h1, SlAt.imp h2 fun _ _ _ _ => ArF.mono h⟩
theorem QP.mono : ∀ C D r f, Cs.le C D → QP C r f → QP D r f := fun _ _ _ _ h ⟨pv, bv, h1, h2, h3, h4⟩ => ⟨pv, bv, h1, h2, SlAt.imp h3 fun _ _ _ _ => PaF.mono h, SlAt.imp h4 fun _ _ _ _ => StF.mono h⟩
/-- A row of arguments, of parameters: any of its own may be written. -/
theorem Acc.arF {d B : Nat} {t : TypeId} {w : World} {v : Value} {l : List Ar} {rows : List (List Value)} (h : Acc (ArQ d) B t 6 w v l rows) (hm : l.length ≤ 9223372036854775807) : SlAt 6 (ArF (nwF B w)) v l :=
  h.slF (Q := fun _ _ _ => True) (P := ArF) (fun _ _ _ => trivial) hm (fun _ _ _ _ _ _ => trivial) fun C D c g o x hq _ hc => by
    obtain ⟨kv, rfl, -⟩ := hq
    exact hc 1 _ rfl
theorem Acc.stF {d B : Nat} {t : TypeId} {w : World} {v : Value} {l : List St} {rows : List (List Value)} (h : Acc (StQ d) B t 13 w v l rows) (he : EachF QS B w v l rows) (hm : l.length ≤ 9223372036854775807) : SlAt 13 (StF (nwF B w)) v l :=
  h.slF he (P := StF) hm QS.mono fun C D c g o x hq hs hc => by
    obtain ⟨kv, lv, av, tv, ev, rfl, -⟩ := hq
    obtain ⟨av', h1, h2⟩ := hs
    exact ⟨hc 1 _ rfl, av', hc 10 _ h1, h2⟩
theorem Acc.pcF {d B : Nat} {t : TypeId} {w : World} {v : Value} {l : List Pc} {rows : List (List Value)} (h : Acc (PcQ d) B t 5 w v l rows) (he : EachF QP B w v l rows) (hm : l.length ≤ 9223372036854775807) : SlAt 5 (PcF (nwF B w)) v l :=
  h.slF he (P := PcF) hm QP.mono fun C D c g o x hq hs hc => by
    obtain ⟨v1, v2, v3, v4, rfl, -⟩ := hq
    obtain ⟨pv, bv, h1, h2, h3, h4⟩ := hs
    exact ⟨hc 0 _ rfl, pv, bv, hc 1 _ h1, hc 3 _ h2, h3, h4⟩
end Go.Proofs.Ytnbclbphggmenaa.Tr
