/- Parts of BTr, SomeW, BEval: walks and plain laws that later texts use. Conditions: as each statement says. -/
import Derived.Test.YtghlmengcidmdaaTw0
import Derived.WalkKit
import Derived.Test.YtghlmengcidmdaaRows
import Derived.WalkSpells
import Derived.Lib.Hide
import Derived.Below
import Derived.Deep.QuietTactic
import Derived.BigQuiet
import Derived.WalkSmall
import Derived.Laws.BitsAllLaws
import Derived.IntWalk
import Derived.StillTailTactics
import Derived.Deep.Slices
import Derived.Deep.Fields
import Derived.Lib.SmallJoins
import Derived.SliceStrings
import Derived.ChangeSlices
import Derived.RegionTactic
section
/- Programs, and how they lie in memory. Conditions: none.
   What is read of arguments: expressions, lists of texts, lists of numbers lie in memory. Conditions: none.
   What weighText, weighExpr, FitsExpr of the reference compute: how much an expression is. Conditions: it lies in memory. -/
section
namespace Go.Proofs.Ytghlmengcidmdaa.Tr
open Go.RowKit Go.Proofs.Ytghlmengcidmdaa.Lx Go.Proofs.Ytghlmengcidmdaa.Wd
/-- An argument of a call. -/
inductive Ar where
  | mk (ref : Bool) (nm : ByteArray) (x : Ex)
def Ar.ref : Ar → Bool | .mk r _ _ => r
def Ar.nm : Ar → ByteArray | .mk _ s _ => s
def Ar.x : Ar → Ex | .mk _ _ x => x
/-- A statement. -/
inductive St where
  | mk (id kind : Int) (labels : List ByteArray) (nm proc : ByteArray) (x : Ex) (has : Bool) (args : List Ar) (thn els : List St)
def St.id : St → Int | .mk i _ _ _ _ _ _ _ _ _ => i
def St.kind : St → Int | .mk _ k _ _ _ _ _ _ _ _ => k
def St.labels : St → List ByteArray | .mk _ _ l _ _ _ _ _ _ _ => l
def St.nm : St → ByteArray | .mk _ _ _ s _ _ _ _ _ _ => s
def St.proc : St → ByteArray | .mk _ _ _ _ p _ _ _ _ _ => p
def St.x : St → Ex | .mk _ _ _ _ _ x _ _ _ _ => x
def St.has : St → Bool | .mk _ _ _ _ _ _ h _ _ _ => h
def St.args : St → List Ar | .mk _ _ _ _ _ _ _ a _ _ => a
def St.thn : St → List St | .mk _ _ _ _ _ _ _ _ t _ => t
def St.els : St → List St | .mk _ _ _ _ _ _ _ _ _ e => e
/-- A parameter, a procedure, a program. -/
structure Pa where
  nm : ByteArray
  ref : Bool
structure Pc where
  nm : ByteArray
  params : List Pa
  vars : List ByteArray
  body : List St
  fin : List ByteArray
structure Pr where
  globals : List ByteArray
  procs : List Pc
/-- What is known of cells: which value lies where. -/
abbrev Cs := Nat → Nat → Value → Prop
/-- All cells of a world; those of some blocks alone. -/
def cw (w : World) : Cs := fun g j u => w.cell? ⟨g, j, none⟩ = some u
def only (S : Nat → Prop) (C : Cs) : Cs := fun g j u => S g ∧ C g j u
def Cs.le (C D : Cs) : Prop := ∀ g j u, C g j u → D g j u
theorem cw_next {w w' : World} (hb : Below w.heap.size w w') : Cs.le (cw w) (cw w') := fun _ _ _ h => cell_next hb h
theorem only_le {S T : Nat → Prop} {C D : Cs} (hs : ∀ g, S g → T g) (h : Cs.le C D) : Cs.le (only S C) (only T D) := fun g j u ⟨h1, h2⟩ => ⟨hs g h1, h g j u h2⟩
theorem only_out {S : Nat → Prop} {C : Cs} : Cs.le (only S C) C := fun _ _ _ h => h.2
/-- A cell of a block that is none of those is written: they stay. -/
theorem only_set {S : Nat → Prop} {w : World} {b j : Nat} {x : Value} (h : ¬ S b) : Cs.le (only S (cw w)) (only S (cw (w.setCell ⟨b, j, none⟩ x))) := fun g i u ⟨h1, h2⟩ => by
  refine ⟨h1, ?_⟩
  show (w.setCell ⟨b, j, none⟩ x).cell? ⟨g, i, none⟩ = some u
  rw [World.cell?_setCell_other _ _ _ _ (fun e => h (by have := congrArg Addr.block e; simp only at this; rw [this]; exact h1))]
  exact h2
/-- A slice whose elements lie so: each of so many cells, at a block and a place. -/
def SlAt {α : Type} (size : Nat) (P : Nat → Nat → α → Prop) (v : Value) (l : List α) : Prop :=
  ∃ a cap, v = .slice a l.length cap ∧ l.length ≤ cap ∧ cap ≤ 9223372036854775807 ∧ (l ≠ [] → ∃ g off, a = some ⟨g, off, none⟩ ∧ ∀ i (h : i < l.length), P g (off + i * size) l[i])
theorem SlAt.form {α : Type} {size : Nat} {P : Nat → Nat → α → Prop} {v : Value} {l : List α} (h : SlAt size P v l) : ∃ a cap, v = .slice a l.length cap ∧ l.length ≤ cap ∧ cap ≤ 9223372036854775807 := by
  obtain ⟨a, cap, h1, h2, h3, _⟩ := h
  exact ⟨a, cap, h1, h2, h3⟩
theorem SlAt.cells {α : Type} {size : Nat} {P : Nat → Nat → α → Prop} {v : Value} {l : List α} (h : SlAt size P v l) (hne : l ≠ []) : ∃ g off cap, v = .slice (some ⟨g, off, none⟩) l.length cap ∧ l.length ≤ cap ∧ ∀ i (h : i < l.length), P g (off + i * size) l[i] := by
  obtain ⟨a, cap, h1, h2, h3, h4⟩ := h
  obtain ⟨g, off, rfl, h6⟩ := h4 hne
  exact ⟨g, off, cap, h1, h2, h6⟩
theorem SlAt.imp {α : Type} {size : Nat} {P Q : Nat → Nat → α → Prop} {v : Value} {l : List α} (h : SlAt size P v l) (hpq : ∀ g o x, x ∈ l → P g o x → Q g o x) : SlAt size Q v l := by
  obtain ⟨a, cap, h1, h2, h3, h4⟩ := h
  refine ⟨a, cap, h1, h2, h3, fun hne => ?_⟩
  obtain ⟨g, off, h5, h6⟩ := h4 hne
  exact ⟨g, off, h5, fun i hi => hpq _ _ _ (List.getElem_mem hi) (h6 i hi)⟩
theorem SlAt.nil {α : Type} {size : Nat} {P : Nat → Nat → α → Prop} : SlAt size P (.slice none 0 0) ([] : List α) := ⟨none, 0, rfl, Nat.le_refl _, by omega, fun h => absurd rfl h⟩
/-- A slice of texts; a slice of expressions, so many at most in one another. -/
def StrC (C : Cs) (v : Value) (l : List ByteArray) : Prop := SlAt 1 (fun g o s => C g o (.string s) ∧ s.size ≤ 9223372036854775807) v l
def ExAt (C : Cs) (P : Value → List Ex → Prop) (g o : Nat) (x : Ex) : Prop :=
  ∃ kv, C g o (.int .i64 x.op) ∧ C g (o + 1) (.int .i64 x.n) ∧ C g (o + 2) (.string x.nm) ∧ C g (o + 3) kv ∧ OkE x ∧ P kv x.ks
def ExC (C : Cs) : Nat → Value → List Ex → Prop
  | 0, _, _ => False
  | d + 1, v, l => SlAt 4 (ExAt C (ExC C d)) v l
/-- An argument at a place. -/
def ArAt (C : Cs) (d : Nat) (g o : Nat) (a : Ar) : Prop := C g o (.bool a.ref) ∧ C g (o + 1) (.string a.nm) ∧ a.nm.size ≤ 9223372036854775807 ∧ ExAt C (ExC C d) g (o + 2) a.x
/-- A statement at a place; what stands in it lies as the last argument says. -/
def StAt (C : Cs) (d : Nat) (P : Value → List St → Prop) (g o : Nat) (s : St) : Prop :=
  ∃ lv av tv ev, C g o (.int .i64 s.id) ∧ C g (o + 1) (.int .i64 s.kind) ∧ C g (o + 2) lv ∧ C g (o + 3) (.string s.nm) ∧ C g (o + 4) (.string s.proc) ∧
    ExAt C (ExC C d) g (o + 5) s.x ∧ C g (o + 9) (.bool s.has) ∧ C g (o + 10) av ∧ C g (o + 11) tv ∧ C g (o + 12) ev ∧
    InI s.id ∧ InI s.kind ∧ s.nm.size ≤ 9223372036854775807 ∧ s.proc.size ≤ 9223372036854775807 ∧ StrC C lv s.labels ∧ SlAt 6 (ArAt C d) av s.args ∧ P tv s.thn ∧ P ev s.els
/-- A row of statements, so many at most in one another. -/
def StC (C : Cs) : Nat → Value → List St → Prop
  | 0, _, _ => False
  | d + 1, v, l => SlAt 13 (StAt C d (StC C d)) v l
def PaAt (C : Cs) (g o : Nat) (p : Pa) : Prop := C g o (.string p.nm) ∧ C g (o + 1) (.bool p.ref) ∧ p.nm.size ≤ 9223372036854775807
def PcAt (C : Cs) (d : Nat) (g o : Nat) (p : Pc) : Prop :=
  ∃ pv vv bv fv, C g o (.string p.nm) ∧ C g (o + 1) pv ∧ C g (o + 2) vv ∧ C g (o + 3) bv ∧ C g (o + 4) fv ∧ p.nm.size ≤ 9223372036854775807 ∧ SlAt 2 (PaAt C) pv p.params ∧ StrC C vv p.vars ∧ StC C d bv p.body ∧ StrC C fv p.fin
/-- A program as a value: its globals, its procedures. -/
def PrC (C : Cs) (d : Nat) (gv pv : Value) (p : Pr) : Prop := StrC C gv p.globals ∧ SlAt 5 (PcAt C d) pv p.procs
section
variable {C D : Cs} (h : Cs.le C D)
include h
theorem StrC.mono {v : Value} {l : List ByteArray} (hs : StrC C v l) : StrC D v l := SlAt.imp hs fun _ _ _ _ q => ⟨h _ _ _ q.1, q.2⟩
theorem ExAt.mono {P Q : Value → List Ex → Prop} (hpq : ∀ v l, P v l → Q v l) {g o : Nat} {x : Ex} (hx : ExAt C P g o x) : ExAt D Q g o x := by
  obtain ⟨kv, h0, h1, h2, h3, h4, h5⟩ := hx
  exact ⟨kv, h _ _ _ h0, h _ _ _ h1, h _ _ _ h2, h _ _ _ h3, h4, hpq _ _ h5⟩
theorem ExC.mono : ∀ {d : Nat} {v : Value} {l : List Ex}, ExC C d v l → ExC D d v l := by
  intro d
  induction d with
  | zero => intro v l hx; exact hx
  | succ d ih => intro v l hx; exact SlAt.imp hx fun _ _ _ _ => ExAt.mono h fun _ _ => ih
theorem ArAt.mono {d : Nat} {g o : Nat} {a : Ar} (ha : ArAt C d g o a) : ArAt D d g o a := ⟨h _ _ _ ha.1, h _ _ _ ha.2.1, ha.2.2.1, ExAt.mono h (fun _ _ => ExC.mono h) ha.2.2.2⟩
theorem StAt.mono {d : Nat} {P Q : Value → List St → Prop} (hpq : ∀ v l, P v l → Q v l) {g o : Nat} {s : St} (hs : StAt C d P g o s) : StAt D d Q g o s := by
  obtain ⟨lv, av, tv, ev, h0, h1, h2, h3, h4, h5, h9, h10, h11, h12, i1, i2, i3, i4, i5, i6, i7, i8⟩ := hs
  exact ⟨lv, av, tv, ev, h _ _ _ h0, h _ _ _ h1, h _ _ _ h2, h _ _ _ h3, h _ _ _ h4, ExAt.mono h (fun _ _ => ExC.mono h) h5, h _ _ _ h9, h _ _ _ h10, h _ _ _ h11, h _ _ _ h12, i1, i2, i3, i4, StrC.mono h i5, SlAt.imp i6 (fun _ _ _ _ => ArAt.mono h), hpq _ _ i7, hpq _ _ i8⟩
theorem StC.mono : ∀ {d : Nat} {v : Value} {l : List St}, StC C d v l → StC D d v l := by
  intro d
  induction d with
  | zero => intro v l hx; exact hx
  | succ d ih => intro v l hx; exact SlAt.imp hx fun _ _ _ _ => StAt.mono h fun _ _ => ih
theorem PaAt.mono {g o : Nat} {p : Pa} (q : PaAt C g o p) : PaAt D g o p := ⟨h _ _ _ q.1, h _ _ _ q.2.1, q.2.2⟩
theorem PcAt.mono {d : Nat} {g o : Nat} {p : Pc} (q : PcAt C d g o p) : PcAt D d g o p := by
  obtain ⟨pv, vv, bv, fv, h0, h1, h2, h3, h4, h5, h6, h7, h8, h9⟩ := q
  exact ⟨pv, vv, bv, fv, h _ _ _ h0, h _ _ _ h1, h _ _ _ h2, h _ _ _ h3, h _ _ _ h4, h5, SlAt.imp h6 (fun _ _ _ _ => PaAt.mono h), StrC.mono h h7, StC.mono h h8, StrC.mono h h9⟩
theorem PrC.mono {d : Nat} {gv pv : Value} {p : Pr} (q : PrC C d gv pv p) : PrC D d gv pv p := ⟨StrC.mono h q.1, SlAt.imp q.2 fun _ _ _ _ => PcAt.mono h⟩
end
theorem ExC.of {w : World} : ∀ {d : Nat} {v : Value} {l : List Ex}, ExK d w v l → ExC (cw w) d v l := by
  intro d
  induction d with
  | zero => intro v l h; exact h
  | succ d ih =>
    intro v l h
    obtain ⟨a, cap, h1, h2, h3, h4⟩ := h
    refine ⟨a, cap, h1, h2, h3, fun hne => ?_⟩
    obtain ⟨g, off, h5, h6⟩ := h4 hne
    refine ⟨g, off, h5, fun i hi => ?_⟩
    obtain ⟨h7, u, c0, c1, c2, c3, hk⟩ := h6 i hi
    exact ⟨u, c0, c1, c2, c3, h7, ih hk⟩
theorem ExC.to {w : World} : ∀ {d : Nat} {v : Value} {l : List Ex}, ExC (cw w) d v l → ExK d w v l := by
  intro d
  induction d with
  | zero => intro v l h; exact h
  | succ d ih =>
    intro v l h
    obtain ⟨a, cap, h1, h2, h3, h4⟩ := h
    refine ⟨a, cap, h1, h2, h3, fun hne => ?_⟩
    obtain ⟨g, off, h5, h6⟩ := h4 hne
    refine ⟨g, off, h5, fun i hi => ?_⟩
    obtain ⟨u, c0, c1, c2, c3, h7, hk⟩ := h6 i hi
    exact ⟨h7, u, c0, c1, c2, c3, ih hk⟩
/-- More may stand in one another. -/
theorem ExC.up {C : Cs} : ∀ {d : Nat} {v : Value} {l : List Ex}, ExC C d v l → ExC C (d + 1) v l := by
  intro d
  induction d with
  | zero => intro v l h; exact h.elim
  | succ d ih =>
    intro v l h
    exact SlAt.imp h fun _ _ _ _ q => by
      obtain ⟨kv, h0, h1, h2, h3, h4, h5⟩ := q
      exact ⟨kv, h0, h1, h2, h3, h4, ih h5⟩
theorem ExC.le {C : Cs} {d e : Nat} {v : Value} {l : List Ex} (h : ExC C d v l) (hde : d ≤ e) : ExC C e v l := by
  induction hde with
  | refl => exact h
  | step _ ih => exact ih.up
theorem ExC.none (C : Cs) (d : Nat) : ExC C (d + 1) (.slice none 0 0) [] := SlAt.nil
theorem StrC.none (C : Cs) : StrC C (.slice none 0 0) [] := SlAt.nil
theorem StrC.to {w : World} {v : Value} {l : List ByteArray} (h : StrC (cw w) v l) : StrsAt w v l := by
  obtain ⟨a, cap, h1, h2, h3, h4⟩ := h
  refine ⟨a, cap, h1, h2, h3, fun hne => ?_⟩
  obtain ⟨g, off, h5, h6⟩ := h4 hne
  exact ⟨g, off, h5, fun i hi => ⟨(h6 i hi).2, by have := (h6 i hi).1; rw [Nat.mul_one] at this; exact this⟩⟩
end Go.Proofs.Ytghlmengcidmdaa.Tr
end
section
namespace Go.Proofs.Ytghlmengcidmdaa.Tr
open Go.RowKit Go.Proofs.Ytghlmengcidmdaa.Lx Go.Proofs.Ytghlmengcidmdaa.Wd Go.ChangeShapes Go.WideShapes Go.Deep
theorem list_of {α : Type} {Q : Nat → α → Prop} : ∀ n, (∀ i, i < n → ∃ a, Q i a) → ∃ l : List α, l.length = n ∧ ∀ i (h : i < l.length), Q i l[i] := by
  intro n
  induction n with
  | zero => intro _; exact ⟨[], rfl, fun i h => by cases h⟩
  | succ n ih =>
    intro h
    obtain ⟨l, hl, hq⟩ := ih fun i hi => h i (by omega)
    obtain ⟨a, ha⟩ := h n (by omega)
    refine ⟨l ++ [a], by simp [hl], fun i hi => ?_⟩
    rw [List.getElem_append]
    split
    · rename_i h2; exact hq i h2
    · rename_i h2
      have : i = n := by simp at hi; omega
      subst this
      simpa using ha
section
variable {H : Type} {enc : TypeId × Value → H} {w : World} {base : Nat} {spare : Nat → Bool} {held : Bool}
theorem open_sl {α : Type} {size : Nat} {P : Nat → Nat → α → Prop} {t e : TypeId} {fuel : Nat} {cs : List Value} {x : DataW H × List MemPlace} (ht : Try.prog.underlying t = some (.slice e)) (hC : Try.prog.cellsOf e = size) (hp : 0 < size)
    (h : DataW.trod enc Try.prog w base spare held fuel t cs = some x)
    (hel : ∀ (n : Nat) (cs' : List Value) (y : DataW H × List MemPlace), n < fuel → DataW.trod enc Try.prog w base spare held n e cs' = some y → cs'.length = size → ∀ g o, (∀ j, j < size → w.cell? ⟨g, o + j, none⟩ = cs'[j]?) → ∃ a : α, P g o a) :
    ∃ v l, cs = [v] ∧ SlAt size P v l := by
  rcases DataW.trod_slice ht h with ⟨h0, _⟩ | ⟨a, len, cap, elems, rest, n, hn, hcs, _, _, hl, hm, hlen, hi, _⟩
  · exact ⟨_, [], h0, SlAt.nil⟩
  · have hm' : cap ≤ 9223372036854775807 := hm
    by_cases h0 : len = 0
    · subst h0
      exact ⟨_, [], hcs, ⟨some a, cap, rfl, hl, hm', fun hne => absurd rfl hne⟩⟩
    · have each : ∀ i, i < len → ∃ cs' y, w.cells? base (a.add (i * size)) size = some cs' ∧ DataW.trod enc Try.prog w base spare held n e cs' = some y := by
        intro i hil
        have := hi i hil
        rw [hC, List.getElem?_eq_getElem (by omega)] at this
        cases hc : w.cells? base (a.add (i * size)) size with
        | none => rw [hc] at this; cases this
        | some cs' => rw [hc] at this; exact ⟨cs', _, rfl, this⟩
      obtain ⟨g, off, spot⟩ := a
      have hsp : spot = none := by
        obtain ⟨cs', y, hc, _⟩ := each 0 (by omega)
        obtain ⟨_, hcl, hat⟩ := World.cells?_some hc
        have := hat 0 hp
        rw [List.getElem?_eq_getElem (by omega)] at this
        simp only [Nat.zero_mul] at this
        have e0 : ((⟨g, off, spot⟩ : Addr).add 0).add 0 = ⟨g, off, spot⟩ := rfl
        rw [e0] at this
        unfold World.cell? at this
        cases hh : w.heap[g]? with
        | none => rw [hh] at this; cases this
        | some o =>
          rw [hh] at this
          cases o with
          | cells c t f =>
            cases spot with
            | none => rfl
            | some s => simp at this
          | _ => cases this
      subst hsp
      have hex : ∀ i, i < len → ∃ q : α, P g (off + i * size) q := by
        intro i hil
        obtain ⟨cs', y, hc, hy⟩ := each i hil
        obtain ⟨_, hcl, hat⟩ := World.cells?_some hc
        refine hel n cs' y (by omega) hy hcl g (off + i * size) fun j hj => ?_
        rw [← hat j hj, Go.WideShapes.add_plain, Go.WideShapes.add_plain]
      obtain ⟨l, hll, hq⟩ := list_of len hex
      exact ⟨_, l, hcs, ⟨some ⟨g, off, none⟩, cap, by rw [hll], by omega, hm', fun _ => ⟨g, off, rfl, hq⟩⟩⟩
theorem open_strC {fuel : Nat} {cs : List Value} {x : DataW H × List MemPlace} (h : DataW.trod enc Try.prog w base spare held fuel 22 cs = some x) : ∃ v l, cs = [v] ∧ StrC (cw w) v l := by
  refine open_sl Try.underlying22 (by kernel_rfl) (by omega) h fun n cs' y _ hy hcl g o hat => ?_
  obtain ⟨s, hs, _, hm⟩ := DataW.trod_string Try.underlying9 hy
  refine ⟨s, ?_, hm⟩
  have := hat 0 (by omega)
  rw [hs] at this
  exact this
theorem wf_in {n : Int} (h : (Lit.int .i64 n).wf = true) : InI n := by
  simp only [Lit.wf, Bool.and_eq_true, decide_eq_true_eq] at h
  exact h
set_option maxRecDepth 100000 in
theorem open_exC : ∀ (fuel : Nat) (cs : List Value) (x : DataW H × List MemPlace), DataW.trod enc Try.prog w base spare held fuel 37 cs = some x →
    ∃ (e : Ex) (kv : Value), cs = [.int .i64 e.op, .int .i64 e.n, .string e.nm, kv] ∧ OkE e ∧ ExC (cw w) fuel kv e.ks := by
  intro fuel
  induction fuel using Nat.strongRecOn with
  | ind fuel ih =>
    intro cs x h
    obtain ⟨xs, n, hn, _, hl, hlen, hf⟩ := DataW.trod_struct Try.underlying37 h
    subst hn
    rw [show Try.prog.cellsOf 37 = 4 by kernel_rfl] at hl
    have hxs : xs.length = 4 := hlen
    match cs, hl with
    | [v0, v1, v2, v3], _ =>
      have g0 : DataW.trod enc Try.prog w base spare held n 3 (([v0, v1, v2, v3].drop 0).take (Try.prog.cellsOf 3)) = xs[0]? := hf 0 _ rfl
      have g1 : DataW.trod enc Try.prog w base spare held n 2 (([v0, v1, v2, v3].drop 1).take (Try.prog.cellsOf 2)) = xs[1]? := hf 1 _ rfl
      have g2 : DataW.trod enc Try.prog w base spare held n 9 (([v0, v1, v2, v3].drop 2).take (Try.prog.cellsOf 9)) = xs[2]? := hf 2 _ rfl
      have g3 : DataW.trod enc Try.prog w base spare held n 35 (([v0, v1, v2, v3].drop 3).take (Try.prog.cellsOf 35)) = xs[3]? := hf 3 _ rfl
      rw [List.getElem?_eq_getElem (by omega)] at g0 g1 g2 g3
      have k0 : Try.prog.cellsOf 3 = 1 := by kernel_rfl
      have k1 : Try.prog.cellsOf 2 = 1 := by kernel_rfl
      have k2 : Try.prog.cellsOf 9 = 1 := by kernel_rfl
      have k3 : Try.prog.cellsOf 35 = 1 := by kernel_rfl
      simp only [k0, k1, k2, k3, List.drop_zero, List.drop_succ_cons, List.take_succ_cons, List.take_zero] at g0 g1 g2 g3
      obtain ⟨op, h0, _, w0⟩ := DataW.trod_int Try.underlying3 g0
      obtain ⟨m, h1, _, w1⟩ := DataW.trod_int Try.underlying2 g1
      obtain ⟨s, h2, _, w2⟩ := DataW.trod_string Try.underlying9 g2
      obtain ⟨v, l, h3, hsl⟩ := open_sl (size := 4) (P := ExAt (cw w) (ExC (cw w) n)) Try.underlying35 (by kernel_rfl) (by omega) g3 fun n' cs' y hn' hy hcl g o hat => by
        obtain ⟨e, kv, hcs, hok, hk⟩ := ih n' (by omega) cs' y hy
        subst hcs
        exact ⟨e, kv, hat 0 (by omega), hat 1 (by omega), hat 2 (by omega), hat 3 (by omega), hok, hk.le (by omega)⟩
      cases h0; cases h1; cases h2; cases h3
      exact ⟨.mk op m s l, _, rfl, ⟨wf_in w0, wf_in w1, w2⟩, hsl⟩
end
end Go.Proofs.Ytghlmengcidmdaa.Tr
end
section
namespace Go.Proofs.Ytghlmengcidmdaa.Tr
open Go.RowKit Go.Proofs.Ytghlmengcidmdaa.Lx Go.Proofs.Ytghlmengcidmdaa.Wd
mutual
def wt : Ex → Nat
  | .mk _ _ nm ks => 1 + nm.size + wts ks
def wts : List Ex → Nat
  | [] => 0
  | x :: xs => wt x + wts xs
end
theorem wts_snoc (l : List Ex) (x : Ex) : wts (l ++ [x]) = wts l + wt x := by
  induction l with
  | nil => simp [wts]
  | cons a r ih => simp only [List.cons_append, wts, ih]; omega
theorem wt_eq (x : Ex) : wt x = 1 + x.nm.size + wts x.ks := by cases x; simp only [wt, Ex.nm, Ex.ks]
def wtT (s : ByteArray) (n : Int) : Int := if 20000 < n then 20001 else if 20000 - n ≤ s.size then 20001 else n + 1 + s.size
theorem wtT_bd (s : ByteArray) (n : Int) (h0 : 0 ≤ n) : 0 ≤ wtT s n ∧ wtT s n ≤ 20001 ∧ (wtT s n ≤ 20000 → wtT s n = n + 1 + s.size) := by
  unfold wtT
  split
  · omega
  · split
    · omega
    · omega
theorem weighText_any (s : ByteArray) (n : Int) (w : World) (h0 : 0 ≤ n) (h1 : n ≤ 20001) (hs : s.size ≤ 9223372036854775807) :
    Calls Try.prog 63 #[.string s, .int .i64 n] w fun e w' => e = .returned (.int .i64 (wtT s n)) ∧ w = w' := by
  unfold wtT
  by_cases h2 : 20000 < n
  · rw [if_pos h2]
    go_enter Try.func63, Try.ntmps63
    go_wp2
    go_ret
    exact ⟨rfl, rfl⟩
  · rw [if_neg h2]
    by_cases h3 : 20000 - n ≤ s.size
    · rw [if_pos h3]
      go_enter Try.func63, Try.ntmps63
      go_wp2
      go_ret
      exact ⟨rfl, rfl⟩
    · rw [if_neg h3]
      have hs2 : (s.size : Int) ≤ 20000 := by omega
      go_enter Try.func63, Try.ntmps63
      go_wp2
      go_ret
      exact ⟨rfl, rfl⟩
def Weighs (n : Int) (W : Nat) (w : World) (e : Ending) (w' : World) : Prop :=
  ∃ m : Int, 0 ≤ m ∧ m ≤ 20001 ∧ (m ≤ 20000 → m = n + W) ∧ e = .returned (.int .i64 m) ∧ Below w.heap.size w w'
set_option maxHeartbeats 1000000 in
theorem weighExpr_any : ∀ (d : Nat) (x : Ex) (kv : Value) (n : Int) (w : World), 0 ≤ n → n ≤ 20001 → OkE x → ExK d w kv x.ks →
    Calls Try.prog 115 #[exV x kv, .int .i64 n] w (Weighs n (wt x) w) := by
  intro d
  induction d with
  | zero => intro x kv n w _ _ _ h; exact h.elim
  | succ d ih =>
    intro x kv n w h0 h1 hok hk
    have IH := Lib.hid ih
    obtain ⟨a, cap, rfl, hc1, hc2⟩ := hk.form
    have hb := wtT_bd x.nm n h0
    obtain ⟨t, ht⟩ : ∃ t, Hid (wtT x.nm n = t) := ⟨_, Lib.hid rfl⟩
    rw [ht.out] at hb
    obtain ⟨hb0, hb1, hb2⟩ := hb
    have hnm := hok.nm
    have HK := Lib.hid hk
    have HB2 := Lib.hid hb2
    have hbox := boxed w (.cells #[.int .i64 x.op, .int .i64 x.n, .string x.nm, .slice a x.ks.length cap] 37)
    have HBOX := Lib.hid hbox
    have HK1 := Lib.hid (hk.next hbox)
    clear ih hk hb2 hok hbox
    unfold exV
    go_enter Try.func115, Try.ntmps115
    go_wp2_with (go_at_call 63; refine (weighText_any _ _ _ h0 h1 hnm).mono ?_; rintro e w' ⟨rfl, rfl⟩)
    rw [ht.out]
    generalize hW : w.alloc (.cells #[.int .i64 x.op, .int .i64 x.n, .string x.nm, .slice a x.ks.length cap] 37) = W1 at *
    have hc3 : W1.cell? ⟨w.heap.size, 3, none⟩ = some (.slice a x.ks.length cap) := by rw [← hW]; simp [go_sem]
    clear hW
    go_loopw [1, 5] (fun mv i wr => ∃ (k : Nat) (m : Int), k ≤ x.ks.length ∧ i = .int .i64 k ∧ mv = .int .i64 m ∧ 0 ≤ m ∧ m ≤ 20001 ∧ (m ≤ 20000 → m = n + 1 + x.nm.size + wts (x.ks.take k)) ∧ Below W1.heap.size W1 wr) (fun _ i _ => (x.ks.length - intOf i).toNat)
    case atStart => exact ⟨0, t, by omega, rfl, rfl, hb0, hb1, fun h => by have := HB2.out h; simp [wts]; omega, Below.refl _ _⟩
    case round =>
      obtain ⟨k, m, hk, rfl, rfl, hm0, hm1, hm2, hbel⟩ := hrel
      have hcr := cell_next hbel hc3
      have HM := Lib.hid hm2
      have HBel := Lib.hid hbel
      clear hm2
      by_cases hlt : k < x.ks.length
      · have hlt' : (k : Int) < (x.ks.length : Int) := by omega
        have hne : x.ks ≠ [] := by intro h; rw [h] at hlt; simp at hlt
        by_cases hmost : m ≤ 20000
        · obtain ⟨g, off, cap', hv, _, _, hcells⟩ := (HK1.out.next hbel).kids hne
          simp only [Value.slice.injEq] at hv
          obtain ⟨rfl, -, rfl⟩ := hv
          obtain ⟨hok2, u, c0, c1, c2, c3, hku⟩ := hcells k hlt
          have HKU := Lib.hid hku
          have HOK := Lib.hid hok2
          clear hcells hku hok2 hbel
          go_wp2_with fail
          refine (IH.out x.ks[k] u m _ hm0 hm1 HOK.out HKU.out).mono ?_
          rintro e w2 ⟨m2, h20, h21, h22, rfl, hb2⟩
          have H22 := Lib.hid h22
          have HB2 := Lib.hid (HBel.out.trans (hb2.mono HBel.out.size))
          clear h22 hb2
          go_wp2_with fail
          go_roundw
          case rel =>
            refine ⟨k + 1, m2, by omega, by go_num, rfl, h20, h21, fun h => ?_, HB2.out⟩
            have h1 := H22.out h
            have h2 := HM.out hmost
            rw [List.take_succ_eq_append_getElem hlt, wts_snoc]
            push_cast
            omega
          case measure => simp [intOf]; omega
        · have hmost' : ¬ m ≤ 20000 := hmost
          go_wp2_with fail
          go_ret
          exact ⟨m, hm0, hm1, fun h => by omega, rfl, HBOX.out.trans (HBel.out.mono HBOX.out.size)⟩
      · have hlt' : ¬ (k : Int) < (x.ks.length : Int) := by omega
        go_wp2_with fail
        go_ret
        refine ⟨m, hm0, hm1, fun h => ?_, rfl, HBOX.out.trans (HBel.out.mono HBOX.out.size)⟩
        have h2 := HM.out h
        rw [List.take_of_length_le (by omega)] at h2
        rw [wt_eq]
        push_cast
        omega
/-- Does it fit? If so it is no more than the most. -/
def Fitting (W : Nat) (w : World) (e : Ending) (w' : World) : Prop :=
  ∃ b : Bool, (b = true → W ≤ 20000) ∧ e = .returned (.bool b) ∧ Below w.heap.size w w'
end Go.Proofs.Ytghlmengcidmdaa.Tr
end
end
section
/- What num, name, two, Some of the reference make: small expressions, a program. Conditions: none. -/
namespace Go.Proofs.Ytghlmengcidmdaa.Tr
open Go.RowKit Go.Proofs.Ytghlmengcidmdaa.Lx Go.Proofs.Ytghlmengcidmdaa.Wd
theorem num_any (n : Int) (w : World) : Calls Try.prog 112 #[.int .i64 n] w fun e w' => e = .returned (.agg #[.int .i64 1, .int .i64 n, .string ⟨#[]⟩, .slice none 0 0]) ∧ Below w.heap.size w w' := by
  go_enter Try.func112, Try.ntmps112
  go_wp2
  exact bodyPost_ret (v := .agg #[.int .i64 1, .int .i64 n, .string ⟨#[]⟩, .slice none 0 0]) (by simp [results, Try.results112, go_sem]) rfl ⟨rfl, (Below.refl _ _).alloc (Nat.le_refl _) _⟩
theorem name1_any (s : ByteArray) (w : World) : Calls Try.prog 113 #[.string s] w fun e w' => e = .returned (.agg #[.int .i64 2, .int .i64 0, .string s, .slice none 0 0]) ∧ Below w.heap.size w w' := by
  go_enter Try.func113, Try.ntmps113
  go_wp2
  exact bodyPost_ret (v := .agg #[.int .i64 2, .int .i64 0, .string s, .slice none 0 0]) (by simp [results, Try.results113, go_sem]) rfl ⟨rfl, (Below.refl _ _).alloc (Nat.le_refl _) _⟩
/-- What two leaves. -/
def TwoMade (op : Int) (a b : Ex) (w : World) (e : Ending) (w' : World) : Prop :=
  ∃ g, e = .returned (.agg #[.int .i64 op, .int .i64 0, .string ⟨#[]⟩, .slice (some ⟨g, 0, none⟩) 2 2]) ∧ ExC (only (fun g => w.heap.size ≤ g) (cw w')) 2 (.slice (some ⟨g, 0, none⟩) 2 2) [a, b] ∧ Below w.heap.size w w'
theorem two1_any (op : Int) (a b : Ex) (w : World) (oa : OkE a) (ob : OkE b) (ha : a.ks = []) (hb : b.ks = []) :
    Calls Try.prog 114 #[.int .i64 op, exV a (.slice none 0 0), exV b (.slice none 0 0)] w (TwoMade op a b w) := by
  unfold exV
  have HA := Lib.hid ha
  have HB := Lib.hid hb
  clear ha hb
  go_enter Try.func114, Try.ntmps114
  go_wp2
  refine bodyPost_ret (v := .agg #[.int .i64 op, .int .i64 0, .string ⟨#[]⟩, .slice (some ⟨w.heap.size + 1 + 1 + 1, 0, none⟩) 2 2]) (by simp [results, Try.results114, go_sem]) rfl ⟨_, rfl, ?_, ?_⟩
  · refine ⟨_, 2, rfl, by simp, by omega, fun _ => ⟨_, 0, rfl, fun i hi => ?_⟩⟩
    match i, hi with
    | 0, _ => exact ⟨.slice none 0 0, ⟨by omega, by show World.cell? _ _ = _; simp [go_sem]⟩, ⟨by omega, by show World.cell? _ _ = _; simp [go_sem]⟩, ⟨by omega, by show World.cell? _ _ = _; simp [go_sem]⟩, ⟨by omega, by show World.cell? _ _ = _; simp [go_sem]⟩, oa, by show ExC _ 1 _ a.ks; rw [HA.out]; exact ExC.none _ 0⟩
    | 1, _ => exact ⟨.slice none 0 0, ⟨by omega, by show World.cell? _ _ = _; simp [go_sem]⟩, ⟨by omega, by show World.cell? _ _ = _; simp [go_sem]⟩, ⟨by omega, by show World.cell? _ _ = _; simp [go_sem]⟩, ⟨by omega, by show World.cell? _ _ = _; simp [go_sem]⟩, ob, by show ExC _ 1 _ b.ks; rw [HB.out]; exact ExC.none _ 0⟩
  · exact (((boxed w _).alloc (by simp) _).alloc (by simp; omega) _).alloc (by simp; omega) _
/-- The program, plainly. -/
def eNum (n : Int) : Ex := .mk 1 n ⟨#[]⟩ []
def eName (s : ByteArray) : Ex := .mk 2 0 s []
def eTwo (op : Int) (a b : Ex) : Ex := .mk op 0 ⟨#[]⟩ [a, b]
def eNone : Ex := .mk 0 0 ⟨#[]⟩ []
def noT : ByteArray := ⟨#[]⟩
def sV : ByteArray := ⟨#[118]⟩
def sG : ByteArray := ⟨#[103]⟩
def sP : ByteArray := ⟨#[112]⟩
def sX : ByteArray := ⟨#[120]⟩
def sY : ByteArray := ⟨#[121]⟩
def sE : ByteArray := ⟨#[101]⟩
def sMain : ByteArray := ⟨#[109, 97, 105, 110]⟩
def some5X : Ex := eTwo 8 (eName sY) (eName sX)
def someMain : List St := [.mk 1 1 [] sV noT (eNum 2) false [] [] [], .mk 2 4 [] sG sP eNone false [.mk false noT (eNum 3), .mk true sV eNone] [] [], .mk 3 3 [] noT noT (eName sV) false [] [] [], .mk 4 3 [] noT noT (eName sG) false [] [] []]
def someThen : List St := [.mk 7 10 [] sE noT eNone false [] [] []]
def someBody : List St := [.mk 5 1 [] sY noT some5X false [] [] [], .mk 6 5 [] noT noT (eTwo 12 (eName sY) (eNum 9)) false [] someThen [], .mk 8 9 [] noT noT (eName sY) true [] [] []]
def someP : Pr := ⟨[sG], [⟨sMain, [], [sV], someMain, []⟩, ⟨sP, [⟨sX, false⟩, ⟨sY, true⟩], [], someBody, [sE]⟩]⟩
/-- What Some leaves. -/
def SomeMade (w : World) (e : Ending) (w' : World) : Prop := ∃ gv pv, e = .returned (.agg #[gv, pv]) ∧ PrC (cw w') 3 gv pv someP ∧ Below w.heap.size w w'
theorem okName (s : ByteArray) (h : s.size ≤ 9223372036854775807) : OkE (eName s) := ⟨by show InI 2; unfold InI; omega, InI_zero, h⟩
theorem okNum (n : Int) (h : InI n) : OkE (eNum n) := ⟨by show InI 1; unfold InI; omega, h, by show (0 : Nat) ≤ _; omega⟩
/-- All cells but a block's. -/
def but (R : Nat) (w : World) : Cs := only (fun g => g ≠ R) (cw w)
theorem but_next {R : Nat} {w w' : World} (hb : Below w.heap.size w w') : Cs.le (but R w) (but R w') := only_le (fun _ h => h) (cw_next hb)
theorem one_strs {C : Cs} {g : Nat} {s : ByteArray} (hs : s.size ≤ 9223372036854775807) (h : C g 0 (.string s)) : StrC C (.slice (some ⟨g, 0, none⟩) 1 1) [s] :=
  ⟨_, 1, rfl, Nat.le_refl _, by omega, fun _ => ⟨g, 0, rfl, fun i hi => by
    obtain rfl : i = 0 := by simpa using hi
    exact ⟨h, hs⟩⟩⟩
theorem frozen_next {w w' : World} {g j : Nat} {u : Value} (hb : Below w.heap.size w w') (hc : w.cell? ⟨g, j, none⟩ = some u) (h : w.frozen? ⟨g, j, none⟩ = false) : w'.frozen? ⟨g, j, none⟩ = false :=
  (hb.frozen (p := ⟨g, j, none⟩) (cell_lt hc)).trans h
theorem cell_set {w : World} {b j : Nat} {x y : Value} (h : w.cell? ⟨b, j, none⟩ = some y) : (w.setCell ⟨b, j, none⟩ x).cell? ⟨b, j, none⟩ = some x := by
  exact World.cell?_setCell_same' _ _ _ (by rw [h]; rfl)
theorem cell_set_ne {w : World} {b j i : Nat} {x y : Value} (h : w.cell? ⟨b, j, none⟩ = some y) (hn : i ≠ j) : (w.setCell ⟨b, i, none⟩ x).cell? ⟨b, j, none⟩ = some y := by
  rw [World.cell?_setCell_other _ _ _ _ (fun e => hn (congrArg Addr.off e))]
  exact h
theorem some_le {w11 : World} {R : Nat} {G P : Value} {a b c d : Obj} : Cs.le (but R w11) (cw ((((((w11.setCell ⟨R, 0, none⟩ G).setCell ⟨R, 1, none⟩ P).alloc a).alloc b).alloc c).alloc d)) := fun g j u h =>
  cw_next (((boxed _ a).alloc (by simp) b).alloc (by simp; omega) c |>.alloc (by simp; omega) d) _ _ _ (only_out _ _ _ (only_set (fun h => h rfl) _ _ _ (only_set (fun h => h rfl) _ _ _ h)))
theorem okNone : OkE eNone := ⟨InI_zero, InI_zero, by show (0 : Nat) ≤ _; omega⟩
theorem okTwo (op : Int) (a b : Ex) (h : InI op) : OkE (eTwo op a b) := ⟨h, InI_zero, by show (0 : Nat) ≤ _; omega⟩
theorem in1 {n : Int} (h : -1000 ≤ n ∧ n ≤ 1000) : InI n := by unfold InI; omega
theorem exNone (C : Cs) (g o : Nat) (x : Ex) (hk : x.ks = []) (h0 : C g o (.int .i64 x.op)) (h1 : C g (o + 1) (.int .i64 x.n)) (h2 : C g (o + 2) (.string x.nm)) (h3 : C g (o + 3) (.slice none 0 0)) (h4 : OkE x) (d : Nat) : ExAt C (ExC C (d + 1)) g o x :=
  ⟨_, h0, h1, h2, h3, h4, by rw [hk]; exact ExC.none C d⟩
set_option maxHeartbeats 8000000 in
set_option maxRecDepth 100000 in
theorem some_any (w : World) : Calls Try.prog 61 #[] w (SomeMade w) := by
  go_enter Try.func61, Try.ntmps61
  go_wp2_with fail
  refine (num_any _ _).mono ?_
  rintro e w1 ⟨rfl, hb1⟩
  have hx1 : Below w.heap.size w w1 := ((boxed w _).alloc (by simp) _).trans (hb1.mono (by simp; omega))
  have hRs : w.heap.size < w1.heap.size := by have := hb1.size; simp at this; omega
  have r0 := cell_next (g := w.heap.size) (j := 0) (u := .slice none 0 0) hb1 (by simp [go_sem])
  have r1 := cell_next (g := w.heap.size) (j := 1) (u := .slice none 0 0) hb1 (by simp [go_sem])
  have f0 := frozen_next (g := w.heap.size) (j := 0) (u := .slice none 0 0) hb1 (by simp [go_sem]) (by simp [go_sem])
  have f1 := frozen_next (g := w.heap.size) (j := 1) (u := .slice none 0 0) hb1 (by simp [go_sem]) (by simp [go_sem])
  have HV : Hid (StrC (but w.heap.size w1) (.slice (some ⟨w.heap.size + 1, 0, none⟩) 1 1) [sV]) := Lib.hid (one_strs (by decide) ⟨by omega, cell_next hb1 (by simp [go_sem]; rfl)⟩)
  have HB1 := Lib.hid hx1
  clear hb1 hx1
  go_wp2_with fail
  refine (num_any _ _).mono ?_
  rintro e w2 ⟨rfl, hb2⟩
  replace f0 := frozen_next hb2 r0 f0
  replace f1 := frozen_next hb2 r1 f1
  replace r0 := cell_next hb2 r0
  replace r1 := cell_next hb2 r1
  replace HV := Lib.hid (StrC.mono (but_next hb2) HV.out)
  have hs2 : w.heap.size < w2.heap.size := cell_lt r0
  have HB2 := Lib.hid (HB1.out.trans (hb2.mono HB1.out.size))
  clear hb2 HB1
  go_wp2_with fail
  refine (name1_any _ _).mono ?_
  rintro e w3 ⟨rfl, hb3⟩
  have hx3 : Below w2.heap.size w2 w3 := (boxed w2 _).trans (hb3.mono (by simp))
  replace f0 := frozen_next hx3 r0 f0
  replace f1 := frozen_next hx3 r1 f1
  replace r0 := cell_next hx3 r0
  replace r1 := cell_next hx3 r1
  replace HV := Lib.hid (StrC.mono (but_next hx3) HV.out)
  have a0 := fun j u h => (⟨by omega, cell_next (g := w2.heap.size) (j := j) (u := u) hb3 h⟩ : but w.heap.size w3 w2.heap.size j u)
  have HA : Hid (SlAt 6 (ArAt (but w.heap.size w3) 2) (.slice (some ⟨w2.heap.size, 0, none⟩) 2 2) [.mk false noT (eNum 3), .mk true sV eNone]) := Lib.hid ⟨_, 2, rfl, by simp, by omega, fun _ => ⟨_, 0, rfl, fun i hi => by
    match i, hi with
    | 0, _ => exact ⟨a0 _ _ (by simp [go_sem]; try rfl), a0 _ _ (by simp [go_sem]; try rfl), (show (0 : Nat) ≤ _ by omega), exNone _ _ _ (eNum 3) rfl (a0 _ _ (by simp [go_sem]; try rfl)) (a0 _ _ (by simp [go_sem]; try rfl)) (a0 _ _ (by simp [go_sem]; try rfl)) (a0 _ _ (by simp [go_sem]; try rfl)) (okNum 3 (in1 (by omega))) 1⟩
    | 1, _ => exact ⟨a0 _ _ (by simp [go_sem]; try rfl), a0 _ _ (by simp [go_sem]; try rfl), (show (1 : Nat) ≤ _ by omega), exNone _ _ _ eNone rfl (a0 _ _ (by simp [go_sem]; try rfl)) (a0 _ _ (by simp [go_sem]; try rfl)) (a0 _ _ (by simp [go_sem]; try rfl)) (a0 _ _ (by simp [go_sem]; try rfl)) okNone 1⟩⟩⟩
  have HB3 := Lib.hid (HB2.out.trans (hx3.mono HB2.out.size))
  clear hb3 hx3 HB2 a0
  go_wp2_with fail
  refine (name1_any _ _).mono ?_
  rintro e w4 ⟨rfl, hb4⟩
  replace f0 := frozen_next hb4 r0 f0
  replace f1 := frozen_next hb4 r1 f1
  replace r0 := cell_next hb4 r0
  replace r1 := cell_next hb4 r1
  replace HV := Lib.hid (StrC.mono (but_next hb4) HV.out)
  replace HA := Lib.hid (SlAt.imp HA.out fun _ _ _ _ => ArAt.mono (but_next hb4))
  have hs4 : w.heap.size < w4.heap.size := cell_lt r0
  have HB4 := Lib.hid (HB3.out.trans (hb4.mono HB3.out.size))
  clear hb4 HB3
  go_wp2_with fail
  refine (name1_any _ _).mono ?_
  rintro e w5 ⟨rfl, hb5⟩
  have hx5 : Below w4.heap.size w4 w5 := ((((boxed w4 _).alloc (by simp) _).alloc (by simp; omega) _).alloc (by simp; omega) _).trans (hb5.mono (by simp; omega))
  replace f0 := frozen_next hx5 r0 f0
  replace f1 := frozen_next hx5 r1 f1
  replace r0 := cell_next hx5 r0
  replace r1 := cell_next hx5 r1
  replace HV := Lib.hid (StrC.mono (but_next hx5) HV.out)
  replace HA := Lib.hid (SlAt.imp HA.out fun _ _ _ _ => ArAt.mono (but_next hx5))
  have a0 := fun j u h => (⟨by omega, cell_next (g := w4.heap.size) (j := j) (u := u) hb5 h⟩ : but w.heap.size w5 w4.heap.size j u)
  have HM : Hid (StC (but w.heap.size w5) 3 (.slice (some ⟨w4.heap.size, 0, none⟩) 4 4) someMain) := Lib.hid ⟨_, 4, rfl, by decide, by omega, fun _ => ⟨_, 0, rfl, fun i hi => by
    match i, hi with
    | 0, _ => exact ⟨.slice none 0 0, .slice none 0 0, .slice none 0 0, .slice none 0 0, a0 _ _ (by simp [go_sem]; try rfl), a0 _ _ (by simp [go_sem]; try rfl), a0 _ _ (by simp [go_sem]; try rfl), a0 _ _ (by simp [go_sem]; try rfl), a0 _ _ (by simp [go_sem]; try rfl), (exNone _ _ _ (eNum 2) rfl (a0 _ _ (by simp [go_sem]; try rfl)) (a0 _ _ (by simp [go_sem]; try rfl)) (a0 _ _ (by simp [go_sem]; try rfl)) (a0 _ _ (by simp [go_sem]; try rfl)) (okNum 2 (in1 (by omega))) 1), a0 _ _ (by simp [go_sem]; try rfl), a0 _ _ (by simp [go_sem]; try rfl), a0 _ _ (by simp [go_sem]; try rfl), a0 _ _ (by simp [go_sem]; try rfl), in1 (show (-1000 : Int) ≤ 1 ∧ (1 : Int) ≤ 1000 by omega), in1 (show (-1000 : Int) ≤ 1 ∧ (1 : Int) ≤ 1000 by omega), (show (1 : Nat) ≤ _ by omega), (show (0 : Nat) ≤ _ by omega), StrC.none _, SlAt.nil, SlAt.nil, SlAt.nil⟩
    | 1, _ => exact ⟨.slice none 0 0, .slice (some ⟨w2.heap.size, 0, none⟩) 2 2, .slice none 0 0, .slice none 0 0, a0 _ _ (by simp [go_sem]; try rfl), a0 _ _ (by simp [go_sem]; try rfl), a0 _ _ (by simp [go_sem]; try rfl), a0 _ _ (by simp [go_sem]; try rfl), a0 _ _ (by simp [go_sem]; try rfl), (exNone _ _ _ (eNone) rfl (a0 _ _ (by simp [go_sem]; try rfl)) (a0 _ _ (by simp [go_sem]; try rfl)) (a0 _ _ (by simp [go_sem]; try rfl)) (a0 _ _ (by simp [go_sem]; try rfl)) (okNone) 1), a0 _ _ (by simp [go_sem]; try rfl), a0 _ _ (by simp [go_sem]; try rfl), a0 _ _ (by simp [go_sem]; try rfl), a0 _ _ (by simp [go_sem]; try rfl), in1 (show (-1000 : Int) ≤ 2 ∧ (2 : Int) ≤ 1000 by omega), in1 (show (-1000 : Int) ≤ 4 ∧ (4 : Int) ≤ 1000 by omega), (show (1 : Nat) ≤ _ by omega), (show (1 : Nat) ≤ _ by omega), StrC.none _, HA.out, SlAt.nil, SlAt.nil⟩
    | 2, _ => exact ⟨.slice none 0 0, .slice none 0 0, .slice none 0 0, .slice none 0 0, a0 _ _ (by simp [go_sem]; try rfl), a0 _ _ (by simp [go_sem]; try rfl), a0 _ _ (by simp [go_sem]; try rfl), a0 _ _ (by simp [go_sem]; try rfl), a0 _ _ (by simp [go_sem]; try rfl), (exNone _ _ _ (eName sV) rfl (a0 _ _ (by simp [go_sem]; try rfl)) (a0 _ _ (by simp [go_sem]; try rfl)) (a0 _ _ (by simp [go_sem]; try rfl)) (a0 _ _ (by simp [go_sem]; try rfl)) (okName sV (show (1 : Nat) ≤ _ by omega)) 1), a0 _ _ (by simp [go_sem]; try rfl), a0 _ _ (by simp [go_sem]; try rfl), a0 _ _ (by simp [go_sem]; try rfl), a0 _ _ (by simp [go_sem]; try rfl), in1 (show (-1000 : Int) ≤ 3 ∧ (3 : Int) ≤ 1000 by omega), in1 (show (-1000 : Int) ≤ 3 ∧ (3 : Int) ≤ 1000 by omega), (show (0 : Nat) ≤ _ by omega), (show (0 : Nat) ≤ _ by omega), StrC.none _, SlAt.nil, SlAt.nil, SlAt.nil⟩
    | 3, _ => exact ⟨.slice none 0 0, .slice none 0 0, .slice none 0 0, .slice none 0 0, a0 _ _ (by simp [go_sem]; try rfl), a0 _ _ (by simp [go_sem]; try rfl), a0 _ _ (by simp [go_sem]; try rfl), a0 _ _ (by simp [go_sem]; try rfl), a0 _ _ (by simp [go_sem]; try rfl), (exNone _ _ _ (eName sG) rfl (a0 _ _ (by simp [go_sem]; try rfl)) (a0 _ _ (by simp [go_sem]; try rfl)) (a0 _ _ (by simp [go_sem]; try rfl)) (a0 _ _ (by simp [go_sem]; try rfl)) (okName sG (show (1 : Nat) ≤ _ by omega)) 1), a0 _ _ (by simp [go_sem]; try rfl), a0 _ _ (by simp [go_sem]; try rfl), a0 _ _ (by simp [go_sem]; try rfl), a0 _ _ (by simp [go_sem]; try rfl), in1 (show (-1000 : Int) ≤ 4 ∧ (4 : Int) ≤ 1000 by omega), in1 (show (-1000 : Int) ≤ 3 ∧ (3 : Int) ≤ 1000 by omega), (show (0 : Nat) ≤ _ by omega), (show (0 : Nat) ≤ _ by omega), StrC.none _, SlAt.nil, SlAt.nil, SlAt.nil⟩⟩⟩
  have b0 := fun j u h => cell_next (g := w4.heap.size + 1) (j := j) (u := u) hb5 h
  have m0 := b0 0 (.string sMain) (by simp [go_sem]; try rfl)
  have m1 := b0 1 (.slice none 0 0) (by simp [go_sem]; try rfl)
  have m2 := b0 2 (.slice (some ⟨w.heap.size + 1, 0, none⟩) 1 1) (by simp [go_sem]; try rfl)
  have m3 := b0 3 (.slice (some ⟨w4.heap.size, 0, none⟩) 4 4) (by simp [go_sem]; try rfl)
  have m4 := b0 4 (.slice none 0 0) (by simp [go_sem]; try rfl)
  have d0 := fun j u h => (⟨by omega, cell_next (g := w4.heap.size + 1 + 1) (j := j) (u := u) hb5 h⟩ : but w.heap.size w5 (w4.heap.size + 1 + 1) j u)
  have HPAR : Hid (SlAt 2 (PaAt (but w.heap.size w5)) (.slice (some ⟨w4.heap.size + 1 + 1, 0, none⟩) 2 2) [⟨sX, false⟩, ⟨sY, true⟩]) := Lib.hid ⟨_, 2, rfl, by decide, by omega, fun _ => ⟨_, 0, rfl, fun i hi => by
    match i, hi with
    | 0, _ => exact ⟨d0 _ _ (by simp [go_sem]; try rfl), d0 _ _ (by simp [go_sem]; try rfl), (show (1 : Nat) ≤ _ by omega)⟩
    | 1, _ => exact ⟨d0 _ _ (by simp [go_sem]; try rfl), d0 _ _ (by simp [go_sem]; try rfl), (show (1 : Nat) ≤ _ by omega)⟩⟩⟩
  have HEND : Hid (StrC (but w.heap.size w5) (.slice (some ⟨w4.heap.size + 1 + 1 + 1, 0, none⟩) 1 1) [sE]) := Lib.hid (one_strs (by decide) ⟨by omega, cell_next hb5 (by simp [go_sem]; rfl)⟩)
  have HB5 := Lib.hid (HB4.out.trans (hx5.mono HB4.out.size))
  clear hb5 hx5 HB4 a0 b0 d0 HA
  go_wp2_with fail
  refine (name1_any _ _).mono ?_
  rintro e w6 ⟨rfl, hb6⟩
  replace f0 := frozen_next hb6 r0 f0
  replace f1 := frozen_next hb6 r1 f1
  replace r0 := cell_next hb6 r0
  replace r1 := cell_next hb6 r1
  replace m0 := cell_next hb6 m0
  replace m1 := cell_next hb6 m1
  replace m2 := cell_next hb6 m2
  replace m3 := cell_next hb6 m3
  replace m4 := cell_next hb6 m4
  replace HV := Lib.hid (StrC.mono (but_next hb6) HV.out)
  replace HM := Lib.hid (StC.mono (but_next hb6) HM.out)
  replace HPAR := Lib.hid (SlAt.imp HPAR.out fun _ _ _ _ => PaAt.mono (but_next hb6))
  replace HEND := Lib.hid (StrC.mono (but_next hb6) HEND.out)
  have hs6 : w.heap.size < w6.heap.size := cell_lt r0
  have HB6 := Lib.hid (HB5.out.trans (hb6.mono HB5.out.size))
  clear hb6 HB5
  go_wp2_with fail
  refine (two1_any 8 (eName sY) (eName sX) _ (okName sY (show (1 : Nat) ≤ _ by omega)) (okName sX (show (1 : Nat) ≤ _ by omega)) rfl rfl).mono ?_
  rintro e w7 ⟨g5, rfl, hx5, hb7⟩
  replace f0 := frozen_next hb7 r0 f0
  replace f1 := frozen_next hb7 r1 f1
  replace r0 := cell_next hb7 r0
  replace r1 := cell_next hb7 r1
  replace m0 := cell_next hb7 m0
  replace m1 := cell_next hb7 m1
  replace m2 := cell_next hb7 m2
  replace m3 := cell_next hb7 m3
  replace m4 := cell_next hb7 m4
  replace HV := Lib.hid (StrC.mono (but_next hb7) HV.out)
  replace HM := Lib.hid (StC.mono (but_next hb7) HM.out)
  replace HPAR := Lib.hid (SlAt.imp HPAR.out fun _ _ _ _ => PaAt.mono (but_next hb7))
  replace HEND := Lib.hid (StrC.mono (but_next hb7) HEND.out)
  have HX5 : Hid (ExC (but w.heap.size w7) 2 (.slice (some ⟨g5, 0, none⟩) 2 2) [eName sY, eName sX]) := Lib.hid (ExC.mono (only_le (fun _ h => by omega) (fun _ _ _ h => h)) hx5)
  have HB7 := Lib.hid (HB6.out.trans (hb7.mono HB6.out.size))
  clear hb7 HB6 hx5 hs6
  go_wp2_with fail
  refine (name1_any _ _).mono ?_
  rintro e w8 ⟨rfl, hb8⟩
  replace f0 := frozen_next hb8 r0 f0
  replace f1 := frozen_next hb8 r1 f1
  replace r0 := cell_next hb8 r0
  replace r1 := cell_next hb8 r1
  replace m0 := cell_next hb8 m0
  replace m1 := cell_next hb8 m1
  replace m2 := cell_next hb8 m2
  replace m3 := cell_next hb8 m3
  replace m4 := cell_next hb8 m4
  replace HV := Lib.hid (StrC.mono (but_next hb8) HV.out)
  replace HM := Lib.hid (StC.mono (but_next hb8) HM.out)
  replace HPAR := Lib.hid (SlAt.imp HPAR.out fun _ _ _ _ => PaAt.mono (but_next hb8))
  replace HEND := Lib.hid (StrC.mono (but_next hb8) HEND.out)
  replace HX5 := Lib.hid (ExC.mono (but_next hb8) HX5.out)
  have HB8 := Lib.hid (HB7.out.trans (hb8.mono HB7.out.size))
  clear hb8 HB7
  go_wp2_with fail
  refine (num_any _ _).mono ?_
  rintro e w9 ⟨rfl, hb9⟩
  replace f0 := frozen_next hb9 r0 f0
  replace f1 := frozen_next hb9 r1 f1
  replace r0 := cell_next hb9 r0
  replace r1 := cell_next hb9 r1
  replace m0 := cell_next hb9 m0
  replace m1 := cell_next hb9 m1
  replace m2 := cell_next hb9 m2
  replace m3 := cell_next hb9 m3
  replace m4 := cell_next hb9 m4
  replace HV := Lib.hid (StrC.mono (but_next hb9) HV.out)
  replace HM := Lib.hid (StC.mono (but_next hb9) HM.out)
  replace HPAR := Lib.hid (SlAt.imp HPAR.out fun _ _ _ _ => PaAt.mono (but_next hb9))
  replace HEND := Lib.hid (StrC.mono (but_next hb9) HEND.out)
  replace HX5 := Lib.hid (ExC.mono (but_next hb9) HX5.out)
  have hs9 : w.heap.size < w9.heap.size := cell_lt r0
  have HB9 := Lib.hid (HB8.out.trans (hb9.mono HB8.out.size))
  clear hb9 HB8
  go_wp2_with fail
  refine (two1_any 12 (eName sY) (eNum 9) _ (okName sY (show (1 : Nat) ≤ _ by omega)) (okNum 9 (in1 (by omega))) rfl rfl).mono ?_
  rintro e w10 ⟨g6, rfl, hx6, hb10⟩
  replace f0 := frozen_next hb10 r0 f0
  replace f1 := frozen_next hb10 r1 f1
  replace r0 := cell_next hb10 r0
  replace r1 := cell_next hb10 r1
  replace m0 := cell_next hb10 m0
  replace m1 := cell_next hb10 m1
  replace m2 := cell_next hb10 m2
  replace m3 := cell_next hb10 m3
  replace m4 := cell_next hb10 m4
  replace HV := Lib.hid (StrC.mono (but_next hb10) HV.out)
  replace HM := Lib.hid (StC.mono (but_next hb10) HM.out)
  replace HPAR := Lib.hid (SlAt.imp HPAR.out fun _ _ _ _ => PaAt.mono (but_next hb10))
  replace HEND := Lib.hid (StrC.mono (but_next hb10) HEND.out)
  replace HX5 := Lib.hid (ExC.mono (but_next hb10) HX5.out)
  have HX6 : Hid (ExC (but w.heap.size w10) 2 (.slice (some ⟨g6, 0, none⟩) 2 2) [eName sY, eNum 9]) := Lib.hid (ExC.mono (only_le (fun _ h => by omega) (fun _ _ _ h => h)) hx6)
  have hs10 : w.heap.size < w10.heap.size := cell_lt r0
  have HB10 := Lib.hid (HB9.out.trans (hb10.mono HB9.out.size))
  clear hb10 HB9 hx6 hs9
  go_wp2_with fail
  refine (name1_any _ _).mono ?_
  rintro e w11 ⟨rfl, hb11⟩
  have hx11 : Below w10.heap.size w10 w11 := (boxed w10 _).trans (hb11.mono (by simp))
  replace f0 := frozen_next hx11 r0 f0
  replace f1 := frozen_next hx11 r1 f1
  replace r0 := cell_next hx11 r0
  replace r1 := cell_next hx11 r1
  replace m0 := cell_next hx11 m0
  replace m1 := cell_next hx11 m1
  replace m2 := cell_next hx11 m2
  replace m3 := cell_next hx11 m3
  replace m4 := cell_next hx11 m4
  replace HV := Lib.hid (StrC.mono (but_next hx11) HV.out)
  replace HM := Lib.hid (StC.mono (but_next hx11) HM.out)
  replace HPAR := Lib.hid (SlAt.imp HPAR.out fun _ _ _ _ => PaAt.mono (but_next hx11))
  replace HEND := Lib.hid (StrC.mono (but_next hx11) HEND.out)
  replace HX5 := Lib.hid (ExC.mono (but_next hx11) HX5.out)
  replace HX6 := Lib.hid (ExC.mono (but_next hx11) HX6.out)
  have a0 := fun j u h => (⟨by omega, cell_next (g := w10.heap.size) (j := j) (u := u) hb11 h⟩ : but w.heap.size w11 w10.heap.size j u)
  have HT : Hid (StC (but w.heap.size w11) 2 (.slice (some ⟨w10.heap.size, 0, none⟩) 1 1) someThen) := Lib.hid ⟨_, 1, rfl, by decide, by omega, fun _ => ⟨_, 0, rfl, fun i hi => by
    match i, hi with
    | 0, _ => exact ⟨.slice none 0 0, .slice none 0 0, .slice none 0 0, .slice none 0 0, a0 _ _ (by simp [go_sem]; try rfl), a0 _ _ (by simp [go_sem]; try rfl), a0 _ _ (by simp [go_sem]; try rfl), a0 _ _ (by simp [go_sem]; try rfl), a0 _ _ (by simp [go_sem]; try rfl), (exNone _ _ _ (eNone) rfl (a0 _ _ (by simp [go_sem]; try rfl)) (a0 _ _ (by simp [go_sem]; try rfl)) (a0 _ _ (by simp [go_sem]; try rfl)) (a0 _ _ (by simp [go_sem]; try rfl)) (okNone) 0), a0 _ _ (by simp [go_sem]; try rfl), a0 _ _ (by simp [go_sem]; try rfl), a0 _ _ (by simp [go_sem]; try rfl), a0 _ _ (by simp [go_sem]; try rfl), in1 (show (-1000 : Int) ≤ 7 ∧ (7 : Int) ≤ 1000 by omega), in1 (show (-1000 : Int) ≤ 10 ∧ (10 : Int) ≤ 1000 by omega), (show (1 : Nat) ≤ _ by omega), (show (0 : Nat) ≤ _ by omega), StrC.none _, SlAt.nil, SlAt.nil, SlAt.nil⟩⟩⟩
  have HB11 := Lib.hid (HB10.out.trans (hx11.mono HB10.out.size))
  clear hb11 hx11 HB10 a0
  have z1 := cell_lt m0
  have z2 := cell_lt r0
  have z3 : w4.heap.size < w11.heap.size := by omega
  have z4 : w4.heap.size < w11.heap.size + 1 := by omega
  have z5 : w4.heap.size + 1 < w11.heap.size + 1 := by omega
  have z6 : w4.heap.size + 1 < w11.heap.size + 1 + 1 := by omega
  have z7 : w.heap.size < w11.heap.size + 1 := by omega
  have z8 : w.heap.size < w11.heap.size + 1 + 1 := by omega
  have z9 : w.heap.size < w11.heap.size + 1 + 1 + 1 := by omega
  go_wp2_with fail
  refine bodyPost_ret (v := .agg #[.slice (some ⟨w11.heap.size + 1 + 1, 0, none⟩) 1 1, .slice (some ⟨w11.heap.size + 1 + 1 + 1, 0, none⟩) 2 2]) ?_ rfl ⟨_, _, rfl, ?_, ?_⟩
  · have q0 := cell_set_ne (i := 1) (x := .slice (some ⟨w11.heap.size + 1 + 1 + 1, 0, none⟩) 2 2) (cell_set (x := .slice (some ⟨w11.heap.size + 1 + 1, 0, none⟩) 1 1) r0) (by decide)
    have q1 := cell_set (x := .slice (some ⟨w11.heap.size + 1 + 1 + 1, 0, none⟩) 2 2) (cell_set_ne (i := 0) (x := .slice (some ⟨w11.heap.size + 1 + 1, 0, none⟩) 1 1) r1 (by decide))
    simp [results, Try.results61, go_sem, q0, q1, z2, z7, z8, z9]
  · refine ⟨one_strs (by decide) (by show World.cell? _ _ = _; simp [go_sem]; try rfl), ⟨_, 2, rfl, by decide, by omega, fun _ => ⟨_, 0, rfl, fun i hi => ?_⟩⟩⟩
    match i, hi with
    | 0, _ => exact ⟨.slice none 0 0, .slice (some ⟨w.heap.size + 1, 0, none⟩) 1 1, .slice (some ⟨w4.heap.size, 0, none⟩) 4 4, .slice none 0 0, (by show World.cell? _ _ = _; simp [go_sem]; try rfl), (by show World.cell? _ _ = _; simp [go_sem]; try rfl), (by show World.cell? _ _ = _; simp [go_sem]; try rfl), (by show World.cell? _ _ = _; simp [go_sem]; try rfl), (by show World.cell? _ _ = _; simp [go_sem]; try rfl), (show (4 : Nat) ≤ _ by omega), SlAt.nil, StrC.mono some_le HV.out, StC.mono some_le HM.out, StrC.none _⟩
    | 1, _ =>
      refine ⟨.slice (some ⟨w4.heap.size + 1 + 1, 0, none⟩) 2 2, .slice none 0 0, .slice (some ⟨w11.heap.size, 0, none⟩) 3 3, .slice (some ⟨w4.heap.size + 1 + 1 + 1, 0, none⟩) 1 1, (by show World.cell? _ _ = _; simp [go_sem]; try rfl), (by show World.cell? _ _ = _; simp [go_sem]; try rfl), (by show World.cell? _ _ = _; simp [go_sem]; try rfl), (by show World.cell? _ _ = _; simp [go_sem]; try rfl), (by show World.cell? _ _ = _; simp [go_sem]; try rfl), (show (1 : Nat) ≤ _ by omega), SlAt.imp HPAR.out (fun _ _ _ _ => PaAt.mono some_le), StrC.none _, ?_, StrC.mono some_le HEND.out⟩
      refine ⟨_, 3, rfl, Nat.le_refl 3, by omega, fun _ => ⟨_, 0, rfl, fun i hi => ?_⟩⟩
      match i, hi with
      | 0, _ => exact ⟨.slice none 0 0, .slice none 0 0, .slice none 0 0, .slice none 0 0, (by show World.cell? _ _ = _; simp [go_sem]; try rfl), (by show World.cell? _ _ = _; simp [go_sem]; try rfl), (by show World.cell? _ _ = _; simp [go_sem]; try rfl), (by show World.cell? _ _ = _; simp [go_sem]; try rfl), (by show World.cell? _ _ = _; simp [go_sem]; try rfl), ⟨.slice (some ⟨g5, 0, none⟩) 2 2, (by show World.cell? _ _ = _; simp [go_sem]; try rfl), (by show World.cell? _ _ = _; simp [go_sem]; try rfl), (by show World.cell? _ _ = _; simp [go_sem]; try rfl), (by show World.cell? _ _ = _; simp [go_sem]; try rfl), okTwo _ _ _ (in1 (by omega)), ExC.mono some_le HX5.out⟩, (by show World.cell? _ _ = _; simp [go_sem]; try rfl), (by show World.cell? _ _ = _; simp [go_sem]; try rfl), (by show World.cell? _ _ = _; simp [go_sem]; try rfl), (by show World.cell? _ _ = _; simp [go_sem]; try rfl), in1 (show (-1000 : Int) ≤ 5 ∧ (5 : Int) ≤ 1000 by omega), in1 (show (-1000 : Int) ≤ 1 ∧ (1 : Int) ≤ 1000 by omega), (show (1 : Nat) ≤ _ by omega), (show (0 : Nat) ≤ _ by omega), StrC.none _, SlAt.nil, SlAt.nil, SlAt.nil⟩
      | 1, _ => exact ⟨.slice none 0 0, .slice none 0 0, .slice (some ⟨w10.heap.size, 0, none⟩) 1 1, .slice none 0 0, (by show World.cell? _ _ = _; simp [go_sem]; try rfl), (by show World.cell? _ _ = _; simp [go_sem]; try rfl), (by show World.cell? _ _ = _; simp [go_sem]; try rfl), (by show World.cell? _ _ = _; simp [go_sem]; try rfl), (by show World.cell? _ _ = _; simp [go_sem]; try rfl), ⟨.slice (some ⟨g6, 0, none⟩) 2 2, (by show World.cell? _ _ = _; simp [go_sem]; try rfl), (by show World.cell? _ _ = _; simp [go_sem]; try rfl), (by show World.cell? _ _ = _; simp [go_sem]; try rfl), (by show World.cell? _ _ = _; simp [go_sem]; try rfl), okTwo _ _ _ (in1 (by omega)), ExC.mono some_le HX6.out⟩, (by show World.cell? _ _ = _; simp [go_sem]; try rfl), (by show World.cell? _ _ = _; simp [go_sem]; try rfl), (by show World.cell? _ _ = _; simp [go_sem]; try rfl), (by show World.cell? _ _ = _; simp [go_sem]; try rfl), in1 (show (-1000 : Int) ≤ 6 ∧ (6 : Int) ≤ 1000 by omega), in1 (show (-1000 : Int) ≤ 5 ∧ (5 : Int) ≤ 1000 by omega), (show (0 : Nat) ≤ _ by omega), (show (0 : Nat) ≤ _ by omega), StrC.none _, SlAt.nil, StC.mono some_le HT.out, SlAt.nil⟩
      | 2, _ => exact ⟨.slice none 0 0, .slice none 0 0, .slice none 0 0, .slice none 0 0, (by show World.cell? _ _ = _; simp [go_sem]; try rfl), (by show World.cell? _ _ = _; simp [go_sem]; try rfl), (by show World.cell? _ _ = _; simp [go_sem]; try rfl), (by show World.cell? _ _ = _; simp [go_sem]; try rfl), (by show World.cell? _ _ = _; simp [go_sem]; try rfl), exNone _ _ _ (eName sY) rfl (by show World.cell? _ _ = _; simp [go_sem]; try rfl) (by show World.cell? _ _ = _; simp [go_sem]; try rfl) (by show World.cell? _ _ = _; simp [go_sem]; try rfl) (by show World.cell? _ _ = _; simp [go_sem]; try rfl) (okName sY (show (1 : Nat) ≤ _ by omega)) 1, (by show World.cell? _ _ = _; simp [go_sem]; try rfl), (by show World.cell? _ _ = _; simp [go_sem]; try rfl), (by show World.cell? _ _ = _; simp [go_sem]; try rfl), (by show World.cell? _ _ = _; simp [go_sem]; try rfl), in1 (show (-1000 : Int) ≤ 8 ∧ (8 : Int) ≤ 1000 by omega), in1 (show (-1000 : Int) ≤ 9 ∧ (9 : Int) ≤ 1000 by omega), (show (0 : Nat) ≤ _ by omega), (show (0 : Nat) ≤ _ by omega), StrC.none _, SlAt.nil, SlAt.nil, SlAt.nil⟩
  · exact (((((HB11.out.setCell (Nat.le_refl _) _).setCell (Nat.le_refl _) _).alloc (by simp; omega) _).alloc (by simp; omega) _).alloc (by simp; omega) _).alloc (by simp; omega) _
end Go.Proofs.Ytghlmengcidmdaa.Tr
end
section
/- What eval.of, eval.Of and the reference's worth, Eval compute: what an expression is worth. Conditions: the expression, the names, the values lie in memory; of, worth: the expression may be.
   Plain laws of what expressions are worth: it hangs not on how deep one may look. No program. Conditions: none.
   What reckoned answers: expressions are worth something. Conditions: none.
   The law EvalAll, walked: it returns true. Conditions: the arguments lie in memory. -/
section
namespace Go.Proofs.Ytghlmengcidmdaa.Tr
open Go.RowKit Go.Proofs.Ytghlmengcidmdaa.Lx Go.Proofs.Ytghlmengcidmdaa.Wd
end Go.Proofs.Ytghlmengcidmdaa.Tr
end
section
namespace Go.Proofs.Ytghlmengcidmdaa.Tr
open Go.RowKit Go.Proofs.Ytghlmengcidmdaa.Lx Go.Proofs.Ytghlmengcidmdaa.Wd
theorem may_parts {l : Nat} {x : Ex} (h : mayE (l + 1) x = true) : (x.ks.length : Int) = kidsOf x.op ∧ headE x = true ∧ ∀ k ∈ x.ks, mayE l k = true := by
  rw [mayE_succ, Bool.and_eq_true, Bool.and_eq_true, List.all_eq_true] at h
  exact ⟨by simpa using h.1.1, h.1.2, h.2⟩
end Go.Proofs.Ytghlmengcidmdaa.Tr
end
section
namespace Go.Proofs.Ytghlmengcidmdaa.Tr
open Go.RowKit Go.Proofs.Ytghlmengcidmdaa.Lx Go.Proofs.Ytghlmengcidmdaa.Wd
end Go.Proofs.Ytghlmengcidmdaa.Tr
end
section
namespace Go.Proofs.Ytghlmengcidmdaa.Tr
open Go.RowKit Go.Proofs.Ytghlmengcidmdaa.Lx Go.Proofs.Ytghlmengcidmdaa.Wd
theorem StrsAt.take {w : World} {a : Option Addr} {n cap : Nat} {l : List ByteArray} (h : StrsAt w (.slice a n cap) l) (k : Nat) (hk : k ≤ l.length) : StrsAt w (.slice a k cap) (l.take k) := by
  obtain ⟨a', c, hv, h2, h3, h4⟩ := h
  simp only [Value.slice.injEq] at hv
  obtain ⟨rfl, rfl, rfl⟩ := hv
  refine ⟨_, cap, by rw [List.length_take, Nat.min_eq_left hk], by rw [List.length_take]; omega, h3, fun hne => ?_⟩
  have hne2 : l ≠ [] := by intro h; rw [h] at hne; simp at hne
  obtain ⟨g', off', h5, h6⟩ := h4 hne2
  refine ⟨g', off', h5, fun i hi => ?_⟩
  rw [List.length_take] at hi
  rw [List.getElem_take]
  exact h6 i (by omega)
/-- A slice cut to its first elements. -/
theorem run_cut (T e : TypeId) (hT : Try.prog.underlying T = some (.slice e)) (sz : Nat) (hs : ∀ w, (sizeOf e).run Try.prog w = .ok sz w) (a : Option Addr) (n cap k : Nat) (z : Int) (hz : z = k) (hk : k ≤ cap) (_hc : cap ≤ 9223372036854775807) (w : World) :
    (Instr.slice T (.slice a n cap) none (some (.int .i64 z)) none).run Try.prog w = .ok (.slice a k cap) w := by
  subst hz
  cases a with
  | none => simp [go_sem, hT, hs, hk]
  | some a => simp [go_sem, hT, hs, hk]
end Go.Proofs.Ytghlmengcidmdaa.Tr
end
end
