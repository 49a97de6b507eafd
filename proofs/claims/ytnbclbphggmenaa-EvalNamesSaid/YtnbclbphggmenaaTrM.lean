/- Programs, and how they lie in memory. Conditions: none. -/
import Derived.Test.YtnbclbphggmenaaLookW
namespace Go.Proofs.Ytnbclbphggmenaa.Tr
open Go.RowKit Go.Proofs.Ytnbclbphggmenaa.Lx Go.Proofs.Ytnbclbphggmenaa.Wd
/-- An argument of a call. -/
inductive Ar where
  | mk (ref : Bool) (nm : ByteArray) (x : Ex)
def Ar.ref : Ar → Bool | .mk r _ _ => r
def Ar.nm : Ar → ByteArray | .mk _ s _ => s
def Ar.x : Ar → Ex | .mk _ _ x => x
/-- A statement. -/
inductive St where
  | mk (id kind : Int) (labels : List ByteArray) (nm proc : ByteArray) (x : Ex) (has : Bool) (args : List Ar) (thn els : List St)
def St.id : St → Int | .mk i _ _ _ _ _ _ _ _ _ => i
def St.kind : St → Int | .mk _ k _ _ _ _ _ _ _ _ => k
def St.labels : St → List ByteArray | .mk _ _ l _ _ _ _ _ _ _ => l
def St.nm : St → ByteArray | .mk _ _ _ s _ _ _ _ _ _ => s
def St.proc : St → ByteArray | .mk _ _ _ _ p _ _ _ _ _ => p
def St.x : St → Ex | .mk _ _ _ _ _ x _ _ _ _ => x
def St.has : St → Bool | .mk _ _ _ _ _ _ h _ _ _ => h
def St.args : St → List Ar | .mk _ _ _ _ _ _ _ a _ _ => a
def St.thn : St → List St | .mk _ _ _ _ _ _ _ _ t _ => t
def St.els : St → List St | .mk _ _ _ _ _ _ _ _ _ e => e
/-- A parameter, a procedure, a program. -/
structure Pa where
  nm : ByteArray
  ref : Bool
structure Pc where
  nm : ByteArray
  params : List Pa
  vars : List ByteArray
  body : List St
  fin : List ByteArray
structure Pr where
  globals : List ByteArray
  procs : List Pc
/-- What is known of cells: which value lies where. -/
abbrev Cs := Nat → Nat → Value → Prop
/-- All cells of a world; those of some blocks alone. -/
def cw (w : World) : Cs := fun g j u => w.cell? ⟨g, j, none⟩ = some u
def only (S : Nat → Prop) (C : Cs) : Cs := fun g j u => S g ∧ C g j u
def Cs.le (C D : Cs) : Prop := ∀ g j u, C g j u → D g j u
theorem cw_next {w w' : World} (hb : Below w.heap.size w w') : Cs.le (cw w) (cw w') := fun _ _ _ h => cell_next hb h
theorem only_le {S T : Nat → Prop} {C D : Cs} (hs : ∀ g, S g → T g) (h : Cs.le C D) : Cs.le (only S C) (only T D) := fun g j u ⟨h1, h2⟩ => ⟨hs g h1, h g j u h2⟩
theorem only_out {S : Nat → Prop} {C : Cs} : Cs.le (only S C) C := fun _ _ _ h => h.2
/-- A cell of a block that is none of those is written: they stay. -/
theorem only_set {S : Nat → Prop} {w : World} {b j : Nat} {x : Value} (h : ¬ S b) : Cs.le (only S (cw w)) (only S (cw (w.setCell ⟨b, j, none⟩ x))) := fun g i u ⟨h1, h2⟩ => by
  refine ⟨h1, ?_⟩
  show (w.setCell ⟨b, j, none⟩ x).cell? ⟨g, i, none⟩ = some u
  rw [World.cell?_setCell_other _ _ _ _ (fun e => h (by have := congrArg Addr.block e; simp only at this; rw [this]; exact h1))]
  exact h2
/-- A slice whose elements lie so: each of so many cells, at a block and a place. -/
def SlAt {α : Type} (size : Nat) (P : Nat → Nat → α → Prop) (v : Value) (l : List α) : Prop :=
  ∃ a cap, v = .slice a l.length cap ∧ l.length ≤ cap ∧ cap ≤ 9223372036854775807 ∧ (l ≠ [] → ∃ g off, a = some ⟨g, off, none⟩ ∧ ∀ i (h : i < l.length), P g (off + i * size) l[i])
theorem SlAt.form {α : Type} {size : Nat} {P : Nat → Nat → α → Prop} {v : Value} {l : List α} (h : SlAt size P v l) : ∃ a cap, v = .slice a l.length cap ∧ l.length ≤ cap ∧ cap ≤ 9223372036854775807 := by
  obtain ⟨a, cap, h1, h2, h3, _⟩ := h
  exact ⟨a, cap, h1, h2, h3⟩
theorem SlAt.cells {α : Type} {size : Nat} {P : Nat → Nat → α → Prop} {v : Value} {l : List α} (h : SlAt size P v l) (hne : l ≠ []) : ∃ g off cap, v = .slice (some ⟨g, off, none⟩) l.length cap ∧ l.length ≤ cap ∧ ∀ i (h : i < l.length), P g (off + i * size) l[i] := by
  obtain ⟨a, cap, h1, h2, h3, h4⟩ := h
  obtain ⟨g, off, rfl, h6⟩ := h4 hne
  exact ⟨g, off, cap, h1, h2, h6⟩
theorem SlAt.imp {α : Type} {size : Nat} {P Q : Nat → Nat → α → Prop} {v : Value} {l : List α} (h : SlAt size P v l) (hpq : ∀ g o x, x ∈ l → P g o x → Q g o x) : SlAt size Q v l := by
  obtain ⟨a, cap, h1, h2, h3, h4⟩ := h
  refine ⟨a, cap, h1, h2, h3, fun hne => ?_⟩
  obtain ⟨g, off, h5, h6⟩ := h4 hne
  exact ⟨g, off, h5, fun i hi => hpq _ _ _ (List.getElem_mem hi) (h6 i hi)⟩
theorem SlAt.nil {α : Type} {size : Nat} {P : Nat → Nat → α → Prop} : SlAt size P (.slice none 0 0) ([] : List α) := ⟨none, 0, rfl, Nat.le_refl _, by omega, fun h => absurd rfl h⟩
/-- A slice of texts; a slice of expressions, so many at most in one another. -/
def StrC (C : Cs) (v : Value) (l : List ByteArray) : Prop := SlAt 1 (fun g o s => C g o (.string s) ∧ s.size ≤ 9223372036854775807) v l
def ExAt (C : Cs) (P : Value → List Ex → Prop) (g o : Nat) (x : Ex) : Prop :=
  ∃ kv, C g o (.int .i64 x.op) ∧ C g (o + 1) (.int .i64 x.n) ∧ C g (o + 2) (.string x.nm) ∧ C g (o + 3) kv ∧ OkE x ∧ P kv x.ks
def ExC (C : Cs) : Nat → Value → List Ex → Prop
  | 0, _, _ => False
  | d + 1, v, l => SlAt 4 (ExAt C (ExC C d)) v l
/-- An argument at a place. -/
def ArAt (C : Cs) (d : Nat) (g o : Nat) (a : Ar) : Prop := C g o (.bool a.ref) ∧ C g (o + 1) (.string a.nm) ∧ a.nm.size ≤ 9223372036854775807 ∧ ExAt C (ExC C d) g (o + 2) a.x
/-- A statement at a place; what stands in it lies as the last argument says. -/
def StAt (C : Cs) (d : Nat) (P : Value → List St → Prop) (g o : Nat) (s : St) : Prop :=
  ∃ lv av tv ev, C g o (.int .i64 s.id) ∧ C g (o + 1) (.int .i64 s.kind) ∧ C g (o + 2) lv ∧ C g (o + 3) (.string s.nm) ∧ C g (o + 4) (.string s.proc) ∧
    ExAt C (ExC C d) g (o + 5) s.x ∧ C g (o + 9) (.bool s.has) ∧ C g (o + 10) av ∧ C g (o + 11) tv ∧ C g (o + 12) ev ∧
    InI s.id ∧ InI s.kind ∧ s.nm.size ≤ 9223372036854775807 ∧ s.proc.size ≤ 9223372036854775807 ∧ StrC C lv s.labels ∧ SlAt 6 (ArAt C d) av s.args ∧ P tv s.thn ∧ P ev s.els
/-- A row of statements, so many at most in one another. -/
def StC (C : Cs) : Nat → Value → List St → Prop
  | 0, _, _ => False
  | d + 1, v, l => SlAt 13 (StAt C d (StC C d)) v l
def PaAt (C : Cs) (g o : Nat) (p : Pa) : Prop := C g o (.string p.nm) ∧ C g (o + 1) (.bool p.ref) ∧ p.nm.size ≤ 9223372036854775807
def PcAt (C : Cs) (d : Nat) (g o : Nat) (p : Pc) : Prop :=
  ∃ pv vv bv fv, C g o (.string p.nm) ∧ C g (o + 1) pv ∧ C g (o + 2) vv ∧ C g (o + 3) bv ∧ C g (o + 4) fv ∧ p.nm.size ≤ 9223372036854775807 ∧ SlAt 2 (PaAt C) pv p.params ∧ StrC C vv p.vars ∧ StC C d bv p.body ∧ StrC C fv p.fin
/-- A program as a value: its globals, its procedures. -/
def PrC (C : Cs) (d : Nat) (gv pv : Value) (p : Pr) : Prop := StrC C gv p.globals ∧ SlAt 5 (PcAt C d) pv p.procs
section
variable {C D : Cs} (h : Cs.le C D)
include h
theorem StrC.mono {v : Value} {l : List ByteArray} (hs : StrC C v l) : StrC D v l := SlAt.imp hs fun _ _ _ _ q => ⟨h _ _ _ q.1, q.2⟩
theorem ExAt.mono {P Q : Value → List Ex → Prop} (hpq : ∀ v l, P v l → Q v l) {g o : Nat} {x : Ex} (hx : ExAt C P g o x) : ExAt D Q g o x := by
  obtain ⟨kv, h0, h1, h2, h3, h4, h5⟩ := hx
  exact ⟨kv, h _ _ _ h0, h _ _ _ h1, h _ _ _ h2, h _ _ _ h3, h4, hpq _ _ h5⟩
theorem ExC.mono : ∀ {d : Nat} {v : Value} {l : List Ex}, ExC C d v l → ExC D d v l := by
  intro d
  induction d with
  | zero => intro v l hx; exact hx
  | succ d ih => intro v l hx; exact SlAt.imp hx fun _ _ _ _ => ExAt.mono h fun _ _ => ih
theorem ArAt.mono {d : Nat} {g o : Nat} {a : Ar} (ha : ArAt C d g o a) : ArAt D d g o a := ⟨h _ _ _ ha.1, h _ _ _ ha.2.1, ha.2.2.1, ExAt.mono h (fun _ _ => ExC.mono h) ha.2.2.2⟩
theorem StAt.mono {d : Nat} {P Q : Value → List St → Prop} (hpq : ∀ v l, P v l → Q v l) {g o : Nat} {s : St} (hs : StAt C d P g o s) : StAt D d Q g o s := by
  obtain ⟨lv, av, tv, ev, h0, h1, h2, h3, h4, h5, h9, h10, h11, h12, i1, i2, i3, i4, i5, i6, i7, i8⟩ := hs
  exact ⟨lv, av, tv, ev, h _ _ _ h0, h _ _ _ h1, h _ _ _ h2, h _ _ _ h3, h _ _ _ h4, ExAt.mono h (fun _ _ => ExC.mono h) h5, h _ _ _ h9, h _ _ _ h10, h _ _ _ h11, h _ _ _ h12, i1, i2, i3, i4, StrC.mono h i5, SlAt.imp i6 (fun _ _ _ _ => ArAt.mono h), hpq _ _ i7, hpq _ _ i8⟩
theorem StC.mono : ∀ {d : Nat} {v : Value} {l : List St}, StC C d v l → StC D d v l := by
  intro d
  induction d with
  | zero => intro v l hx; exact hx
  | succ d ih => intro v l hx; exact SlAt.imp hx fun _ _ _ _ => StAt.mono h fun _ _ => ih
theorem PaAt.mono {g o : Nat} {p : Pa} (q : PaAt C g o p) : PaAt D g o p := ⟨h _ _ _ q.1, h _ _ _ q.2.1, q.2.2⟩
theorem PcAt.mono {d : Nat} {g o : Nat} {p : Pc} (q : PcAt C d g o p) : PcAt D d g o p := by
  obtain ⟨pv, vv, bv, fv, h0, h1, h2, h3, h4, h5, h6, h7, h8, h9⟩ := q
  exact ⟨pv, vv, bv, fv, h _ _ _ h0, h _ _ _ h1, h _ _ _ h2, h _ _ _ h3, h _ _ _ h4, h5, SlAt.imp h6 (fun _ _ _ _ => PaAt.mono h), StrC.mono h h7, StC.mono h h8, StrC.mono h h9⟩
theorem PrC.mono {d : Nat} {gv pv : Value} {p : Pr} (q : PrC C d gv pv p) : PrC D d gv pv p := ⟨StrC.mono h q.1, SlAt.imp q.2 fun _ _ _ _ => PcAt.mono h⟩
end
theorem ExC.of {w : World} : ∀ {d : Nat} {v : Value} {l : List Ex}, ExK d w v l → ExC (cw w) d v l := by
  intro d
  induction d with
  | zero => intro v l h; exact h
  | succ d ih =>
    intro v l h
    obtain ⟨a, cap, h1, h2, h3, h4⟩ := h
    refine ⟨a, cap, h1, h2, h3, fun hne => ?_⟩
    obtain ⟨g, off, h5, h6⟩ := h4 hne
    refine ⟨g, off, h5, fun i hi => ?_⟩
    obtain ⟨h7, u, c0, c1, c2, c3, hk⟩ := h6 i hi
    exact ⟨u, c0, c1, c2, c3, h7, ih hk⟩
theorem ExC.to {w : World} : ∀ {d : Nat} {v : Value} {l : List Ex}, ExC (cw w) d v l → ExK d w v l := by
  intro d
  induction d with
  | zero => intro v l h; exact h
  | succ d ih =>
    intro v l h
    obtain ⟨a, cap, h1, h2, h3, h4⟩ := h
    refine ⟨a, cap, h1, h2, h3, fun hne => ?_⟩
    obtain ⟨g, off, h5, h6⟩ := h4 hne
    refine ⟨g, off, h5, fun i hi => ?_⟩
    obtain ⟨u, c0, c1, c2, c3, h7, hk⟩ := h6 i hi
    exact ⟨h7, u, c0, c1, c2, c3, ih hk⟩
/-- More may stand in one another. -/
theorem ExC.up {C : Cs} : ∀ {d : Nat} {v : Value} {l : List Ex}, ExC C d v l → ExC C (d + 1) v l := by
  intro d
  induction d with
  | zero => intro v l h; exact h.elim
  | succ d ih =>
    intro v l h
    exact SlAt.imp h fun _ _ _ _ q => by
      obtain ⟨kv, h0, h1, h2, h3, h4, h5⟩ := q
      exact ⟨kv, h0, h1, h2, h3, h4, ih h5⟩
theorem ExC.le {C : Cs} {d e : Nat} {v : Value} {l : List Ex} (h : ExC C d v l) (hde : d ≤ e) : ExC C e v l := by
  induction hde with
  | refl => exact h
  | step _ ih => exact ih.up
theorem ExC.none (C : Cs) (d : Nat) : ExC C (d + 1) (.slice none 0 0) [] := SlAt.nil
theorem ExK.none (d : Nat) (w : World) : ExK (d + 1) w (.slice none 0 0) [] := (ExC.none (cw w) d).to
theorem StrC.none (C : Cs) : StrC C (.slice none 0 0) [] := SlAt.nil
theorem StrC.to {w : World} {v : Value} {l : List ByteArray} (h : StrC (cw w) v l) : StrsAt w v l := by
  obtain ⟨a, cap, h1, h2, h3, h4⟩ := h
  refine ⟨a, cap, h1, h2, h3, fun hne => ?_⟩
  obtain ⟨g, off, h5, h6⟩ := h4 hne
  exact ⟨g, off, h5, fun i hi => ⟨(h6 i hi).2, by have := (h6 i hi).1; rw [Nat.mul_one] at this; exact this⟩⟩
theorem StrC.of {w : World} {v : Value} {l : List ByteArray} (h : StrsAt w v l) : StrC (cw w) v l := by
  obtain ⟨a, cap, h1, h2, h3, h4⟩ := h
  refine ⟨a, cap, h1, h2, h3, fun hne => ?_⟩
  obtain ⟨g, off, h5, h6⟩ := h4 hne
  exact ⟨g, off, h5, fun i hi => ⟨by have := (h6 i hi).2; rw [Nat.mul_one]; exact this, (h6 i hi).1⟩⟩
end Go.Proofs.Ytnbclbphggmenaa.Tr
