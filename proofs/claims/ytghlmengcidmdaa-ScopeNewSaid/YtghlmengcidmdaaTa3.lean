/- Parts of BSt, OpenP, CopyE, CopW: walks and plain laws that later texts use. Conditions: as each statement says. -/
import Derived.Test.YtghlmengcidmdaaTa0
import Derived.Test.YtghlmengcidmdaaTa1
import Derived.Test.YtghlmengcidmdaaTa2
import Derived.Deep.DeepCutAuto
import Derived.Maps.Range
import Derived.Outline
import Derived.Lib.SmallJoins
import Derived.Deep.Upon
import Derived.Maps.AppendAt
import Derived.Laws.OwnMore
import Derived.Deep.QuietTactic
import Derived.BigQuiet
import Derived.OwnWalk
import Derived.OneCell
import Derived.Deep.AppendLies
import Derived.Deep.RegionLaw
import Derived.Deep.RegionHeld3
import Derived.RegionTactic
import Derived.Deep.Slices
import Derived.Deep.Fields
import Derived.SliceStrings
import Derived.ChangeSlices
import Derived.IntWalk
import Derived.StillTailTactics
import Derived.WalkKit
import Derived.Test.YtghlmengcidmdaaRows
import Derived.WalkSpells
import Derived.Lib.Hide
import Derived.Below
import Derived.WalkSmall
import Derived.Deep.RegionWith
import Derived.Laws.Cover3
import Derived.Laws.BitsAllLaws
section
/- Plain: statements counted, found. How rows of statements lie. Conditions: none.
   What tree.count, tree.Count compute. Conditions: the rows lie in memory.
   What tree.find computes: where the first statement of an id stands. Conditions: the rows lie in memory.
   Plain: statements weighed, copied, numbered; a statement, an argument as cells. Conditions: none.
   What slices.Clone makes: a new slice. Conditions: the slice lies in memory, it is not long. -/
section
namespace Go.Proofs.Ytghlmengcidmdaa.Tr
open Go.RowKit Go.Proofs.Ytghlmengcidmdaa.Lx Go.Proofs.Ytghlmengcidmdaa.Wd
mutual
/-- How many statements a row has, with those in them. -/
def cntS : St → Nat
  | .mk _ _ _ _ _ _ _ _ t e => 1 + cntL t + cntL e
def cntL : List St → Nat
  | [] => 0
  | s :: r => cntS s + cntL r
end
theorem cntS_eq (s : St) : cntS s = 1 + cntL s.thn + cntL s.els := by cases s; simp only [cntS, St.thn, St.els]
theorem cntL_cons (s : St) (r : List St) : cntL (s :: r) = cntS s + cntL r := by simp only [cntL]
theorem cntL_append (l m : List St) : cntL (l ++ m) = cntL l + cntL m := by
  induction l with
  | nil => simp [cntL]
  | cons s r ih => rw [List.cons_append, cntL_cons, cntL_cons, ih]; omega
mutual
/-- The first statement of an id. -/
def findS (id : Int) : St → Option St
  | .mk i k ls nm pr x h ar t e => if i = id then some (.mk i k ls nm pr x h ar t e) else match findL id t with
    | some s => some s
    | none => findL id e
def findL (id : Int) : List St → Option St
  | [] => none
  | s :: r => match findS id s with
    | some t => some t
    | none => findL id r
end
theorem StC.form {C : Cs} {d : Nat} {v : Value} {l : List St} (h : StC C d v l) : ∃ a cap, v = .slice a l.length cap ∧ l.length ≤ cap ∧ cap ≤ 9223372036854775807 := by
  cases d with
  | zero => exact h.elim
  | succ d => exact SlAt.form h
theorem StC.next {w w' : World} {d : Nat} {v : Value} {l : List St} (h : StC (cw w) d v l) (hb : Below w.heap.size w w') : StC (cw w') d v l := StC.mono (cw_next hb) h
end Go.Proofs.Ytghlmengcidmdaa.Tr
end
section
namespace Go.Proofs.Ytghlmengcidmdaa.Tr
open Go.RowKit Go.Proofs.Ytghlmengcidmdaa.Lx Go.Proofs.Ytghlmengcidmdaa.Wd
end Go.Proofs.Ytghlmengcidmdaa.Tr
end
section
namespace Go.Proofs.Ytghlmengcidmdaa.Tr
open Go.RowKit Go.Proofs.Ytghlmengcidmdaa.Lx Go.Proofs.Ytghlmengcidmdaa.Wd
theorem ExAt.up {C : Cs} {d g o : Nat} {x : Ex} (h : ExAt C (ExC C d) g o x) : ExAt C (ExC C (d + 1)) g o x := ExAt.mono (fun _ _ _ q => q) (fun _ _ q => q.up) h
theorem StAt.up {C : Cs} {d : Nat} {P Q : Value → List St → Prop} (hpq : ∀ v l, P v l → Q v l) {g o : Nat} {s : St} (hs : StAt C d P g o s) : StAt C (d + 1) Q g o s := by
  obtain ⟨lv, av, tv, ev, h0, h1, h2, h3, h4, h5, h9, h10, h11, h12, i1, i2, i3, i4, i5, i6, i7, i8⟩ := hs
  exact ⟨lv, av, tv, ev, h0, h1, h2, h3, h4, h5.up, h9, h10, h11, h12, i1, i2, i3, i4, i5, SlAt.imp i6 (fun _ _ _ _ q => ⟨q.1, q.2.1, q.2.2.1, q.2.2.2.up⟩), hpq _ _ i7, hpq _ _ i8⟩
theorem StC.up {C : Cs} : ∀ {d : Nat} {v : Value} {l : List St}, StC C d v l → StC C (d + 1) v l := by
  intro d
  induction d with
  | zero => intro v l h; exact h.elim
  | succ d ih => intro v l h; exact SlAt.imp h fun _ _ _ _ q => q.up fun _ _ => ih
end Go.Proofs.Ytghlmengcidmdaa.Tr
end
section
namespace Go.Proofs.Ytghlmengcidmdaa.Tr
open Go.RowKit Go.Proofs.Ytghlmengcidmdaa.Lx Go.Proofs.Ytghlmengcidmdaa.Wd
/-- What texts, arguments weigh. -/
def wtTs (l : List ByteArray) : Nat := (l.map fun s => 1 + s.size).sum
def wtAr (a : Ar) : Nat := wt a.x + 1 + a.nm.size
mutual
/-- What statements weigh. -/
def wtS : St → Nat
  | .mk _ _ ls nm pr x _ ar t e => wt x + wtTs ls + (1 + nm.size) + (1 + pr.size) + (ar.map wtAr).sum + wtL t + wtL e
def wtL : List St → Nat
  | [] => 0
  | s :: r => wtS s + wtL r
end
theorem wtS_eq (s : St) : wtS s = wt s.x + wtTs s.labels + (1 + s.nm.size) + (1 + s.proc.size) + (s.args.map wtAr).sum + wtL s.thn + wtL s.els := by cases s; simp only [wtS, St.x, St.labels, St.nm, St.proc, St.args, St.thn, St.els]
theorem wtL_cons (s : St) (r : List St) : wtL (s :: r) = wtS s + wtL r := by simp only [wtL]
theorem wtL_mem {l : List St} {s : St} (h : s ∈ l) : wtS s ≤ wtL l := by
  induction l with
  | nil => cases h
  | cons t r ih =>
    rw [wtL_cons]
    rcases List.mem_cons.1 h with rfl | h
    · omega
    · have := ih h; omega
theorem wtL_len (l : List St) : l.length ≤ wtL l := by
  induction l with
  | nil => simp
  | cons s r ih => rw [wtL_cons, wtS_eq, List.length_cons]; omega
theorem wtTs_len (l : List ByteArray) : l.length ≤ wtTs l := by
  induction l with
  | nil => simp
  | cons s r ih => unfold wtTs at *; rw [List.map_cons, List.sum_cons, List.length_cons]; omega
theorem wtAr_len (l : List Ar) : l.length ≤ (l.map wtAr).sum := by
  induction l with
  | nil => simp
  | cons s r ih => rw [List.map_cons, List.sum_cons, List.length_cons]; unfold wtAr at *; omega
theorem wtAr_mem {l : List Ar} {a : Ar} (h : a ∈ l) : wt a.x ≤ (l.map wtAr).sum := by
  induction l with
  | nil => cases h
  | cons t r ih =>
    rw [List.map_cons, List.sum_cons]
    rcases List.mem_cons.1 h with rfl | h
    · unfold wtAr; omega
    · have := ih h; omega
theorem wts_len (l : List Ex) : l.length ≤ wts l := by
  induction l with
  | nil => simp
  | cons x r ih => simp only [wts, List.length_cons]; rw [wt_eq]; omega
theorem wts_mem {l : List Ex} {x : Ex} (h : x ∈ l) : wt x ≤ wts l := by
  induction l with
  | nil => cases h
  | cons t r ih =>
    simp only [wts]
    rcases List.mem_cons.1 h with rfl | h
    · omega
    · have := ih h; omega
/-- What is light has no long row of kids. -/
theorem lim_of : ∀ (d : Nat) (ks : List Ex), wts ks ≤ 20000 → lim d ks := by
  intro d
  induction d with
  | zero => intro ks _; trivial
  | succ d ih =>
    intro ks h
    refine ⟨Nat.le_trans (wts_len ks) h, fun k hk => ih k.ks ?_⟩
    have := wts_mem hk
    rw [wt_eq] at this
    omega
theorem lim_ex {x : Ex} (h : wt x ≤ 20000) (d : Nat) : lim d x.ks := lim_of d x.ks (by rw [wt_eq] at h; omega)
/-- An argument, a statement as cells. -/
def ArQ (d : Nat) (C : Cs) (c : List Value) (a : Ar) : Prop := ∃ kv, c = [.bool a.ref, .string a.nm, .int .i64 a.x.op, .int .i64 a.x.n, .string a.x.nm, kv] ∧ a.nm.size ≤ 9223372036854775807 ∧ OkE a.x ∧ ExC C d kv a.x.ks
theorem ArQ.mono (d : Nat) : ∀ C D c x, Cs.le C D → ArQ d C c x → ArQ d D c x := fun _ _ _ _ h ⟨kv, h1, h2, h3, h4⟩ => ⟨kv, h1, h2, h3, ExC.mono h h4⟩
theorem ArQ.at_ (d : Nat) : ∀ (C : Cs) (c : List Value) (g o : Nat) (x : Ar), ArQ d C c x → (∀ j u, c[j]? = some u → C g (o + j) u) → ArAt C d g o x := by
  intro C c g o x ⟨kv, h1, h2, h3, h4⟩ h
  subst h1
  exact ⟨h 0 _ rfl, h 1 _ rfl, h2, kv, h 2 _ rfl, h 3 _ rfl, h 4 _ rfl, h 5 _ rfl, h3, h4⟩
def stCells (s : St) (kv lv av tv ev : Value) : List Value := [.int .i64 s.id, .int .i64 s.kind, lv, .string s.nm, .string s.proc, .int .i64 s.x.op, .int .i64 s.x.n, .string s.x.nm, kv, .bool s.has, av, tv, ev]
def StQ (d : Nat) (C : Cs) (c : List Value) (s : St) : Prop := ∃ kv lv av tv ev, c = stCells s kv lv av tv ev ∧ OkE s.x ∧ ExC C d kv s.x.ks ∧ InI s.id ∧ InI s.kind ∧ s.nm.size ≤ 9223372036854775807 ∧ s.proc.size ≤ 9223372036854775807 ∧ StrC C lv s.labels ∧ SlAt 6 (ArAt C d) av s.args ∧ StC C d tv s.thn ∧ StC C d ev s.els
theorem StQ.mono (d : Nat) : ∀ C D c x, Cs.le C D → StQ d C c x → StQ d D c x := fun _ _ _ _ h ⟨kv, lv, av, tv, ev, h1, h2, h3, h4, h5, h6, h7, h8, h9, h10, h11⟩ =>
  ⟨kv, lv, av, tv, ev, h1, h2, ExC.mono h h3, h4, h5, h6, h7, StrC.mono h h8, SlAt.imp h9 (fun _ _ _ _ => ArAt.mono h), StC.mono h h10, StC.mono h h11⟩
theorem StQ.at_ (d : Nat) : ∀ (C : Cs) (c : List Value) (g o : Nat) (x : St), StQ d C c x → (∀ j u, c[j]? = some u → C g (o + j) u) → StAt C d (StC C d) g o x := by
  intro C c g o x ⟨kv, lv, av, tv, ev, h1, h2, h3, h4, h5, h6, h7, h8, h9, h10, h11⟩ h
  subst h1
  exact ⟨lv, av, tv, ev, h 0 _ rfl, h 1 _ rfl, h 2 _ rfl, h 3 _ rfl, h 4 _ rfl, ⟨kv, h 5 _ rfl, h 6 _ rfl, h 7 _ rfl, h 8 _ rfl, h2, h3⟩, h 9 _ rfl, h 10 _ rfl, h 11 _ rfl, h 12 _ rfl, h4, h5, h6, h7, h8, h9, h10, h11⟩
theorem Acc.stC {d B : Nat} {t : TypeId} {w : World} {v : Value} {l : List St} {rows : List (List Value)} (h : Acc (StQ d) B t 13 w v l rows) (hm : l.length ≤ 9223372036854775807) : StC (nwC B w) (d + 1) v l :=
  h.sl (P := fun C g o x => StAt C d (StC C d) g o x) hm (StQ.mono d) fun C c g o x _ _ hq hc => StQ.at_ d C c g o x hq hc
theorem Acc.arC {d B : Nat} {t : TypeId} {w : World} {v : Value} {l : List Ar} {rows : List (List Value)} (h : Acc (ArQ d) B t 6 w v l rows) (hm : l.length ≤ 9223372036854775807) : SlAt 6 (ArAt (nwC B w) d) v l :=
  h.sl (P := fun C g o x => ArAt C d g o x) hm (ArQ.mono d) fun C c g o x _ _ hq hc => ArQ.at_ d C c g o x hq hc
/-- While a row hangs on block Y is grown, all else below B stays. -/
theorem grow_keep {w0 w3 w4 : World} {v v4 : Value} {B Y slot : Nat} (hb : Below w0.heap.size w0 w3) (hg : w3.grownBy w4 v.ownBlock) (ho : ∀ b, b < B → some b ≠ v.ownBlock) :
    Cs.le (only (fun g => g < B ∧ g ≠ Y) (cw w0)) (only (fun g => g < B ∧ g ≠ Y) (cw (w4.setCell ⟨Y, slot, none⟩ v4))) := by
  intro g j u ⟨⟨h1, h2⟩, h3⟩
  have hlt := cell_lt h3
  refine ⟨⟨h1, h2⟩, ?_⟩
  show (w4.setCell ⟨Y, slot, none⟩ v4).cell? ⟨g, j, none⟩ = some u
  rw [World.cell?_setCell_other _ _ _ _ (fun e => h2 (congrArg Addr.block e).symm), hg.cell_far ⟨g, j, none⟩ (Nat.lt_of_lt_of_le hlt hb.size) (ho g h1)]
  exact cell_next hb h3
end Go.Proofs.Ytghlmengcidmdaa.Tr
end
section
namespace Go.Proofs.Ytghlmengcidmdaa.Tr
open Go.RowKit Go.Proofs.Ytghlmengcidmdaa.Lx Go.Proofs.Ytghlmengcidmdaa.Wd
theorem nil_yes (cap : Nat) (w : World) : (binOp .eql 22 (.slice none 0 cap) (.slice none 0 0)).run Try.prog w = .ok (.bool true) w := by
  simp [binOp, run_equal_slice_nil w _ _ _ _ _ Try.underlying22]
theorem nil_no (ad : Addr) (n cap : Nat) (w : World) : (binOp .eql 22 (.slice (some ad) n cap) (.slice none 0 0)).run Try.prog w = .ok (.bool false) w := by
  simp [binOp, run_equal_slice_nil w _ _ _ _ _ Try.underlying22]
end Go.Proofs.Ytghlmengcidmdaa.Tr
end
end
section
/- What is read of an argument that is a program: it lies in memory. Conditions: none. -/
namespace Go.Proofs.Ytghlmengcidmdaa.Tr
open Go.RowKit Go.Proofs.Ytghlmengcidmdaa.Lx Go.Proofs.Ytghlmengcidmdaa.Wd Go.ChangeShapes Go.WideShapes Go.Deep
set_option linter.unusedSimpArgs false
theorem StC.le {C : Cs} {d e : Nat} {v : Value} {l : List St} (h : StC C d v l) (hde : d ≤ e) : StC C e v l := by
  induction hde with
  | refl => exact h
  | step _ ih => exact ih.up
theorem ArAt.le {C : Cs} {d e : Nat} {g o : Nat} {a : Ar} (h : ArAt C d g o a) (hde : d ≤ e) : ArAt C e g o a := by
  obtain ⟨h1, h2, h3, kv, h4, h5, h6, h7, h8, h9⟩ := h
  exact ⟨h1, h2, h3, kv, h4, h5, h6, h7, h8, h9.le hde⟩
theorem StAt.le {C : Cs} {d e d2 e2 : Nat} {g o : Nat} {s : St} (h : StAt C d (StC C d2) g o s) (hde : d ≤ e) (h2 : d2 ≤ e2) : StAt C e (StC C e2) g o s := by
  obtain ⟨lv, av, tv, ev, h0, h1, h2', h3, h4, ⟨kv, x0, x1, x2, x3, x4, x5⟩, h9, h10, h11, h12, i1, i2, i3, i4, i5, i6, i7, i8⟩ := h
  exact ⟨lv, av, tv, ev, h0, h1, h2', h3, h4, ⟨kv, x0, x1, x2, x3, x4, x5.le hde⟩, h9, h10, h11, h12, i1, i2, i3, i4, i5, SlAt.imp i6 (fun _ _ _ _ q => q.le hde), i7.le h2, i8.le h2⟩
theorem PcAt.le {C : Cs} {d e : Nat} {g o : Nat} {p : Pc} (h : PcAt C d g o p) (hde : d ≤ e) : PcAt C e g o p := by
  obtain ⟨pv, vv, bv, fv, h0, h1, h2, h3, h4, h5, h6, h7, h8, h9⟩ := h
  exact ⟨pv, vv, bv, fv, h0, h1, h2, h3, h4, h5, h6, h7, h8.le hde, h9⟩
section
variable {H : Type} {enc : TypeId × Value → H} {w : World} {base : Nat} {spare : Nat → Bool} {held : Bool}
def Lies (w : World) (n : Nat) (cs : List Value) (g o : Nat) : Prop := ∀ j, j < n → w.cell? ⟨g, o + j, none⟩ = cs[j]?
set_option maxRecDepth 100000 in
theorem open_arC (fuel : Nat) (cs : List Value) (x : DataW H × List MemPlace) (h : DataW.trod enc Try.prog w base spare held fuel 49 cs = some x) : ∃ a : Ar, ∀ g o, Lies w 6 cs g o → ArAt (cw w) fuel g o a := by
  obtain ⟨xs, n, hn, _, hl, hlen, hf⟩ := DataW.trod_struct Try.underlying49 h
  subst hn
  rw [show Try.prog.cellsOf 49 = 6 by kernel_rfl] at hl
  have hxs : xs.length = 3 := hlen
  match cs, hl with
  | [v0, v1, v2, v3, v4, v5], _ =>
    have g0 : DataW.trod enc Try.prog w base spare held n 4 (([v0, v1, v2, v3, v4, v5].drop 0).take (Try.prog.cellsOf 4)) = xs[0]? := hf 0 _ rfl
    rw [List.getElem?_eq_getElem (by omega), show Try.prog.cellsOf 4 = 1 by kernel_rfl] at g0
    simp only [List.drop_zero, List.drop_succ_cons, List.take_succ_cons, List.take_zero] at g0
    have g1 : DataW.trod enc Try.prog w base spare held n 9 (([v0, v1, v2, v3, v4, v5].drop 1).take (Try.prog.cellsOf 9)) = xs[1]? := hf 1 _ rfl
    rw [List.getElem?_eq_getElem (by omega), show Try.prog.cellsOf 9 = 1 by kernel_rfl] at g1
    simp only [List.drop_zero, List.drop_succ_cons, List.take_succ_cons, List.take_zero] at g1
    have g2 : DataW.trod enc Try.prog w base spare held n 37 (([v0, v1, v2, v3, v4, v5].drop 2).take (Try.prog.cellsOf 37)) = xs[2]? := hf 2 _ rfl
    rw [List.getElem?_eq_getElem (by omega), show Try.prog.cellsOf 37 = 4 by kernel_rfl] at g2
    simp only [List.drop_zero, List.drop_succ_cons, List.take_succ_cons, List.take_zero] at g2
    obtain ⟨b, h0, _⟩ := DataW.trod_bool Try.underlying4 g0
    obtain ⟨s, h1, _, w1⟩ := DataW.trod_string Try.underlying9 g1
    obtain ⟨e, kv, h2, hok, hk⟩ := open_exC n _ _ g2
    cases h0; cases h1; cases h2
    exact ⟨.mk b s e, fun g o hat => ⟨hat 0 (by omega), hat 1 (by omega), w1, _, hat 2 (by omega), hat 3 (by omega), hat 4 (by omega), hat 5 (by omega), hok, hk.le (by omega)⟩⟩
set_option maxRecDepth 100000 in
theorem open_paC (fuel : Nat) (cs : List Value) (x : DataW H × List MemPlace) (h : DataW.trod enc Try.prog w base spare held fuel 62 cs = some x) : ∃ a : Pa, ∀ g o, Lies w 2 cs g o → PaAt (cw w) g o a := by
  obtain ⟨xs, n, hn, _, hl, hlen, hf⟩ := DataW.trod_struct Try.underlying62 h
  subst hn
  rw [show Try.prog.cellsOf 62 = 2 by kernel_rfl] at hl
  have hxs : xs.length = 2 := hlen
  match cs, hl with
  | [v0, v1], _ =>
    have g0 : DataW.trod enc Try.prog w base spare held n 9 (([v0, v1].drop 0).take (Try.prog.cellsOf 9)) = xs[0]? := hf 0 _ rfl
    rw [List.getElem?_eq_getElem (by omega), show Try.prog.cellsOf 9 = 1 by kernel_rfl] at g0
    simp only [List.drop_zero, List.drop_succ_cons, List.take_succ_cons, List.take_zero] at g0
    have g1 : DataW.trod enc Try.prog w base spare held n 4 (([v0, v1].drop 1).take (Try.prog.cellsOf 4)) = xs[1]? := hf 1 _ rfl
    rw [List.getElem?_eq_getElem (by omega), show Try.prog.cellsOf 4 = 1 by kernel_rfl] at g1
    simp only [List.drop_zero, List.drop_succ_cons, List.take_succ_cons, List.take_zero] at g1
    obtain ⟨s, h0, _, w0⟩ := DataW.trod_string Try.underlying9 g0
    obtain ⟨b, h1, _⟩ := DataW.trod_bool Try.underlying4 g1
    cases h0; cases h1
    exact ⟨⟨s, b⟩, fun g o hat => ⟨hat 0 (by omega), hat 1 (by omega), w0⟩⟩
set_option maxRecDepth 100000 in
set_option maxHeartbeats 4000000 in
theorem open_stC : ∀ (fuel : Nat) (cs : List Value) (x : DataW H × List MemPlace), DataW.trod enc Try.prog w base spare held fuel 41 cs = some x → ∃ s : St, ∀ g o, Lies w 13 cs g o → StAt (cw w) fuel (StC (cw w) fuel) g o s := by
  intro fuel
  induction fuel using Nat.strongRecOn with
  | ind fuel ih =>
    intro cs x h
    obtain ⟨xs, n, hn, _, hl, hlen, hf⟩ := DataW.trod_struct Try.underlying41 h
    subst hn
    rw [show Try.prog.cellsOf 41 = 13 by kernel_rfl] at hl
    have hxs : xs.length = 10 := hlen
    match cs, hl with
    | [v0, v1, v2, v3, v4, v5, v6, v7, v8, v9, v10, v11, v12], _ =>
      have g0 : DataW.trod enc Try.prog w base spare held n 3 (([v0, v1, v2, v3, v4, v5, v6, v7, v8, v9, v10, v11, v12].drop 0).take (Try.prog.cellsOf 3)) = xs[0]? := hf 0 _ rfl
      rw [List.getElem?_eq_getElem (by omega), show Try.prog.cellsOf 3 = 1 by kernel_rfl] at g0
      simp only [List.drop_zero, List.drop_succ_cons, List.take_succ_cons, List.take_zero] at g0
      have g1 : DataW.trod enc Try.prog w base spare held n 3 (([v0, v1, v2, v3, v4, v5, v6, v7, v8, v9, v10, v11, v12].drop 1).take (Try.prog.cellsOf 3)) = xs[1]? := hf 1 _ rfl
      rw [List.getElem?_eq_getElem (by omega), show Try.prog.cellsOf 3 = 1 by kernel_rfl] at g1
      simp only [List.drop_zero, List.drop_succ_cons, List.take_succ_cons, List.take_zero] at g1
      have g2 : DataW.trod enc Try.prog w base spare held n 22 (([v0, v1, v2, v3, v4, v5, v6, v7, v8, v9, v10, v11, v12].drop 2).take (Try.prog.cellsOf 22)) = xs[2]? := hf 2 _ rfl
      rw [List.getElem?_eq_getElem (by omega), show Try.prog.cellsOf 22 = 1 by kernel_rfl] at g2
      simp only [List.drop_zero, List.drop_succ_cons, List.take_succ_cons, List.take_zero] at g2
      have g3 : DataW.trod enc Try.prog w base spare held n 9 (([v0, v1, v2, v3, v4, v5, v6, v7, v8, v9, v10, v11, v12].drop 3).take (Try.prog.cellsOf 9)) = xs[3]? := hf 3 _ rfl
      rw [List.getElem?_eq_getElem (by omega), show Try.prog.cellsOf 9 = 1 by kernel_rfl] at g3
      simp only [List.drop_zero, List.drop_succ_cons, List.take_succ_cons, List.take_zero] at g3
      have g4 : DataW.trod enc Try.prog w base spare held n 9 (([v0, v1, v2, v3, v4, v5, v6, v7, v8, v9, v10, v11, v12].drop 4).take (Try.prog.cellsOf 9)) = xs[4]? := hf 4 _ rfl
      rw [List.getElem?_eq_getElem (by omega), show Try.prog.cellsOf 9 = 1 by kernel_rfl] at g4
      simp only [List.drop_zero, List.drop_succ_cons, List.take_succ_cons, List.take_zero] at g4
      have g5 : DataW.trod enc Try.prog w base spare held n 37 (([v0, v1, v2, v3, v4, v5, v6, v7, v8, v9, v10, v11, v12].drop 5).take (Try.prog.cellsOf 37)) = xs[5]? := hf 5 _ rfl
      rw [List.getElem?_eq_getElem (by omega), show Try.prog.cellsOf 37 = 4 by kernel_rfl] at g5
      simp only [List.drop_zero, List.drop_succ_cons, List.take_succ_cons, List.take_zero] at g5
      have g6 : DataW.trod enc Try.prog w base spare held n 4 (([v0, v1, v2, v3, v4, v5, v6, v7, v8, v9, v10, v11, v12].drop 9).take (Try.prog.cellsOf 4)) = xs[6]? := hf 6 _ rfl
      rw [List.getElem?_eq_getElem (by omega), show Try.prog.cellsOf 4 = 1 by kernel_rfl] at g6
      simp only [List.drop_zero, List.drop_succ_cons, List.take_succ_cons, List.take_zero] at g6
      have g7 : DataW.trod enc Try.prog w base spare held n 38 (([v0, v1, v2, v3, v4, v5, v6, v7, v8, v9, v10, v11, v12].drop 10).take (Try.prog.cellsOf 38)) = xs[7]? := hf 7 _ rfl
      rw [List.getElem?_eq_getElem (by omega), show Try.prog.cellsOf 38 = 1 by kernel_rfl] at g7
      simp only [List.drop_zero, List.drop_succ_cons, List.take_succ_cons, List.take_zero] at g7
      have g8 : DataW.trod enc Try.prog w base spare held n 39 (([v0, v1, v2, v3, v4, v5, v6, v7, v8, v9, v10, v11, v12].drop 11).take (Try.prog.cellsOf 39)) = xs[8]? := hf 8 _ rfl
      rw [List.getElem?_eq_getElem (by omega), show Try.prog.cellsOf 39 = 1 by kernel_rfl] at g8
      simp only [List.drop_zero, List.drop_succ_cons, List.take_succ_cons, List.take_zero] at g8
      have g9 : DataW.trod enc Try.prog w base spare held n 39 (([v0, v1, v2, v3, v4, v5, v6, v7, v8, v9, v10, v11, v12].drop 12).take (Try.prog.cellsOf 39)) = xs[9]? := hf 9 _ rfl
      rw [List.getElem?_eq_getElem (by omega), show Try.prog.cellsOf 39 = 1 by kernel_rfl] at g9
      simp only [List.drop_zero, List.drop_succ_cons, List.take_succ_cons, List.take_zero] at g9
      obtain ⟨i0, h0, _, w0⟩ := DataW.trod_int Try.underlying3 g0
      obtain ⟨i1, h1, _, w1⟩ := DataW.trod_int Try.underlying3 g1
      obtain ⟨u2, l2, h2, w2⟩ := open_strC g2
      obtain ⟨s3, h3, _, w3⟩ := DataW.trod_string Try.underlying9 g3
      obtain ⟨s4, h4, _, w4⟩ := DataW.trod_string Try.underlying9 g4
      obtain ⟨e5, kv, h5, hok, hk⟩ := open_exC n _ _ g5
      obtain ⟨b6, h6, _⟩ := DataW.trod_bool Try.underlying4 g6
      obtain ⟨u7, l7, h7, w7⟩ := open_sl (size := 6) (P := ArAt (cw w) n) Try.underlying38 (by kernel_rfl) (by omega) g7 fun n' cs' y hn' hy hcl g o hat => by
        obtain ⟨a, ha⟩ := open_arC n' cs' y hy
        exact ⟨a, (ha g o hat).le (by omega)⟩
      obtain ⟨u8, l8, h8, w8⟩ := open_sl (size := 13) (P := StAt (cw w) n (StC (cw w) n)) Try.underlying39 (by kernel_rfl) (by omega) g8 fun n' cs' y hn' hy hcl g o hat => by
        obtain ⟨a, ha⟩ := ih n' (by omega) cs' y hy
        exact ⟨a, (ha g o hat).le (by omega) (by omega)⟩
      obtain ⟨u9, l9, h9, w9⟩ := open_sl (size := 13) (P := StAt (cw w) n (StC (cw w) n)) Try.underlying39 (by kernel_rfl) (by omega) g9 fun n' cs' y hn' hy hcl g o hat => by
        obtain ⟨a, ha⟩ := ih n' (by omega) cs' y hy
        exact ⟨a, (ha g o hat).le (by omega) (by omega)⟩
      cases h0; cases h1; cases h2; cases h3; cases h4; cases h5; cases h6; cases h7; cases h8; cases h9
      exact ⟨.mk i0 i1 l2 s3 s4 e5 b6 l7 l8 l9, fun g o hat => ⟨_, _, _, _, hat 0 (by omega), hat 1 (by omega), hat 2 (by omega), hat 3 (by omega), hat 4 (by omega), ⟨_, hat 5 (by omega), hat 6 (by omega), hat 7 (by omega), hat 8 (by omega), hok, hk.le (by omega)⟩,
        hat 9 (by omega), hat 10 (by omega), hat 11 (by omega), hat 12 (by omega), wf_in w0, wf_in w1, w3, w4, w2, SlAt.imp w7 (fun _ _ _ _ q => q.le (by omega)), w8, w9⟩⟩
set_option maxRecDepth 100000 in
set_option maxHeartbeats 4000000 in
theorem open_pcC (fuel : Nat) (cs : List Value) (x : DataW H × List MemPlace) (h : DataW.trod enc Try.prog w base spare held fuel 55 cs = some x) : ∃ p : Pc, ∀ g o, Lies w 5 cs g o → PcAt (cw w) fuel g o p := by
  obtain ⟨xs, n, hn, _, hl, hlen, hf⟩ := DataW.trod_struct Try.underlying55 h
  subst hn
  rw [show Try.prog.cellsOf 55 = 5 by kernel_rfl] at hl
  have hxs : xs.length = 5 := hlen
  match cs, hl with
  | [v0, v1, v2, v3, v4], _ =>
    have g0 : DataW.trod enc Try.prog w base spare held n 9 (([v0, v1, v2, v3, v4].drop 0).take (Try.prog.cellsOf 9)) = xs[0]? := hf 0 _ rfl
    rw [List.getElem?_eq_getElem (by omega), show Try.prog.cellsOf 9 = 1 by kernel_rfl] at g0
    simp only [List.drop_zero, List.drop_succ_cons, List.take_succ_cons, List.take_zero] at g0
    have g1 : DataW.trod enc Try.prog w base spare held n 53 (([v0, v1, v2, v3, v4].drop 1).take (Try.prog.cellsOf 53)) = xs[1]? := hf 1 _ rfl
    rw [List.getElem?_eq_getElem (by omega), show Try.prog.cellsOf 53 = 1 by kernel_rfl] at g1
    simp only [List.drop_zero, List.drop_succ_cons, List.take_succ_cons, List.take_zero] at g1
    have g2 : DataW.trod enc Try.prog w base spare held n 22 (([v0, v1, v2, v3, v4].drop 2).take (Try.prog.cellsOf 22)) = xs[2]? := hf 2 _ rfl
    rw [List.getElem?_eq_getElem (by omega), show Try.prog.cellsOf 22 = 1 by kernel_rfl] at g2
    simp only [List.drop_zero, List.drop_succ_cons, List.take_succ_cons, List.take_zero] at g2
    have g3 : DataW.trod enc Try.prog w base spare held n 39 (([v0, v1, v2, v3, v4].drop 3).take (Try.prog.cellsOf 39)) = xs[3]? := hf 3 _ rfl
    rw [List.getElem?_eq_getElem (by omega), show Try.prog.cellsOf 39 = 1 by kernel_rfl] at g3
    simp only [List.drop_zero, List.drop_succ_cons, List.take_succ_cons, List.take_zero] at g3
    have g4 : DataW.trod enc Try.prog w base spare held n 22 (([v0, v1, v2, v3, v4].drop 4).take (Try.prog.cellsOf 22)) = xs[4]? := hf 4 _ rfl
    rw [List.getElem?_eq_getElem (by omega), show Try.prog.cellsOf 22 = 1 by kernel_rfl] at g4
    simp only [List.drop_zero, List.drop_succ_cons, List.take_succ_cons, List.take_zero] at g4
    obtain ⟨s0, h0, _, w0⟩ := DataW.trod_string Try.underlying9 g0
    obtain ⟨u1, l1, h1, w1⟩ := open_sl (size := 2) (P := PaAt (cw w)) Try.underlying53 (by kernel_rfl) (by omega) g1 fun n' cs' y hn' hy hcl g o hat => by
      obtain ⟨a, ha⟩ := open_paC n' cs' y hy
      exact ⟨a, ha g o hat⟩
    obtain ⟨u2, l2, h2, w2⟩ := open_strC g2
    obtain ⟨u3, l3, h3, w3⟩ := open_sl (size := 13) (P := StAt (cw w) n (StC (cw w) n)) Try.underlying39 (by kernel_rfl) (by omega) g3 fun n' cs' y hn' hy hcl g o hat => by
      obtain ⟨a, ha⟩ := open_stC n' cs' y hy
      exact ⟨a, (ha g o hat).le (by omega) (by omega)⟩
    obtain ⟨u4, l4, h4, w4⟩ := open_strC g4
    cases h0; cases h1; cases h2; cases h3; cases h4
    exact ⟨⟨s0, l1, l2, l3, l4⟩, fun g o hat => ⟨_, _, _, _, hat 0 (by omega), hat 1 (by omega), hat 2 (by omega), hat 3 (by omega), hat 4 (by omega), w0, w1, w2, w3, w4⟩⟩
set_option maxRecDepth 100000 in
/-- A program that was handed in. -/
theorem open_prog {r : Reach} {b0 : Nat} {v : Value} {dd : DataW H} {p : List MemPlace} (hv : Value.okWide Try.prog w r b0 25 v) (h : DataW.Trod enc Try.prog w base spare held 25 v dd p) :
    ∃ d q gv pv, v = .agg #[gv, pv] ∧ PrC (cw w) d gv pv q := by
  obtain ⟨cs, rfl, hsz⟩ := okWide_struct Try.underlying25 hv
  obtain ⟨fuel, h⟩ := h
  obtain ⟨cs⟩ := cs
  change DataW.trod enc Try.prog w base spare held fuel 25 cs = _ at h
  obtain ⟨xs, n, hn, _, hl, hlen, hf⟩ := DataW.trod_struct Try.underlying25 h
  subst hn
  rw [show Try.prog.cellsOf 25 = 2 by kernel_rfl] at hl
  have hxs : xs.length = 2 := hlen
  match cs, hl with
  | [v0, v1], _ =>
    have g0 : DataW.trod enc Try.prog w base spare held n 22 (([v0, v1].drop 0).take (Try.prog.cellsOf 22)) = xs[0]? := hf 0 _ rfl
    rw [List.getElem?_eq_getElem (by omega), show Try.prog.cellsOf 22 = 1 by kernel_rfl] at g0
    simp only [List.drop_zero, List.drop_succ_cons, List.take_succ_cons, List.take_zero] at g0
    have g1 : DataW.trod enc Try.prog w base spare held n 23 (([v0, v1].drop 1).take (Try.prog.cellsOf 23)) = xs[1]? := hf 1 _ rfl
    rw [List.getElem?_eq_getElem (by omega), show Try.prog.cellsOf 23 = 1 by kernel_rfl] at g1
    simp only [List.drop_zero, List.drop_succ_cons, List.take_succ_cons, List.take_zero] at g1
    obtain ⟨u0, l0, h0, w0⟩ := open_strC g0
    obtain ⟨u1, l1, h1, w1⟩ := open_sl (size := 5) (P := PcAt (cw w) n) Try.underlying23 (by kernel_rfl) (by omega) g1 fun n' cs' y hn' hy hcl g o hat => by
      obtain ⟨a, ha⟩ := open_pcC n' cs' y hy
      exact ⟨a, (ha g o hat).le (by omega)⟩
    cases h0; cases h1
    exact ⟨n, ⟨l0, l1⟩, _, _, rfl, w0, w1⟩
end
end Go.Proofs.Ytghlmengcidmdaa.Tr
end
section
/- What CopyExpr of the reference makes: a new expression. Conditions: the expression lies in memory, no row of kids is long. -/
namespace Go.Proofs.Ytghlmengcidmdaa.Tr
open Go.RowKit Go.Proofs.Ytghlmengcidmdaa.Lx Go.Proofs.Ytghlmengcidmdaa.Wd
set_option maxHeartbeats 4000000 in
set_option maxRecDepth 100000 in
theorem copyExpr_any : ∀ (d : Nat) (x : Ex) (kv : Value) (w : World), OkE x → ExK d w kv x.ks → lim d x.ks →
    Calls Try.prog 139 #[exV x kv] w (ExMade d x w) := by
  intro d
  induction d with
  | zero => intro x kv w _ h; exact h.elim
  | succ d ih =>
    intro x kv w hok hk hlim
    have IH := Lib.hid ih
    obtain ⟨i0, hi, hz0, hz1, hz2⟩ := info_parts infoEx
    obtain ⟨ax, cx, rfl, hc1, hc2⟩ := hk.form
    have hbox := boxed w (.cells #[.int .i64 x.op, .int .i64 x.n, .string x.nm, .slice ax x.ks.length cx] 37)
    have HB := Lib.hid hbox
    have HK := Lib.hid (hk.next hbox)
    have HOK := Lib.hid hok
    have HK0 := Lib.hid hk
    have hlen := hlim.1
    have HLIM := Lib.hid hlim.2
    clear ih hbox hok hlim
    unfold exV
    go_enter Try.func139, Try.ntmps139
    go_upto_region 2 with fail
    refine cut_world (fun wx => Below w.heap.size w wx ∧ w.heap.size + 1 + 1 < wx.heap.size ∧ wx.cell? ⟨w.heap.size, 3, none⟩ = some (.slice ax x.ks.length cx) ∧ Grow (ExQ d) 37 4 (w.heap.size + 1 + 1 + 1) (w.heap.size + 1 + 1) (w.heap.size + 1) 4 [.int .i64 x.op, .int .i64 x.n, .string x.nm, .slice none 0 0] 3 [] wx (.slice none 0 0) []) ⟨?_, ?_, ?_, ?_⟩ ?_
    · exact ((boxed w _).alloc (by simp) _).alloc (by simp; omega) _
    · simp
    · simp [go_sem]
    · refine ⟨by omega, by omega, by omega, by simp, fun j u hu => ?_, fun j => by simp [go_sem], fun j hj => ?_, fun j => by simp [go_sem], Acc.nil _ _ _ _ _, by simp⟩
      · match j, hu with
        | 0, hu => cases hu; simp [go_sem]
        | 1, hu => cases hu; simp [go_sem]
        | 2, hu => cases hu; simp [go_sem]
        | 3, hu => cases hu; simp [go_sem]
      · match j, hj with
        | 0, _ => exact ⟨.int .i64 0, by simp [go_sem]⟩
        | 1, _ => exact ⟨.int .i64 0, by simp [go_sem]⟩
        | 2, _ => exact ⟨.string ⟨#[]⟩, by simp [go_sem]⟩
        | 3, _ => exact ⟨.slice none 0 0, by simp [go_sem]⟩
    · intro wc hcut0
      have hcut := And.intro (rfl : (0 : Nat) = 0) hcut0
      clear hcut0
      obtain ⟨-, hbel, hsz, hb3, hG⟩ := hcut
      have HBC := Lib.hid hbel
      have HGC := Lib.hid hG
      have hkc := hk.next hbel
      have HKC := Lib.hid hkc
      have hwc : wc.cell? ⟨w.heap.size, 3, none⟩ = some (.slice ax x.ks.length cx) := hb3
      clear hbel hG hkc hk
      go_wp2_with fail
      go_loopw [15] (fun i wr => ∃ (k : Nat) (v : Value) (rows : List (List Value)), k ≤ x.ks.length ∧ i = .int .i64 k ∧ Below w.heap.size w wr ∧ wc.heap.size ≤ wr.heap.size ∧ wr.cell? ⟨w.heap.size, 3, none⟩ = some (.slice ax x.ks.length cx) ∧ ExK (d + 1) wr (.slice ax x.ks.length cx) x.ks ∧
          Grow (ExQ d) 37 4 (w.heap.size + 1 + 1 + 1) (w.heap.size + 1 + 1) (w.heap.size + 1) 4 [.int .i64 x.op, .int .i64 x.n, .string x.nm, .slice none 0 0] 3 (x.ks.take k) wr v rows) (fun i _ => (x.ks.length - intOf i).toNat)
      case atStart => exact ⟨0, _, [], by omega, rfl, HBC.out, Nat.le_refl _, hwc, HKC.out, HGC.out⟩
      case round =>
        obtain ⟨k, v, rows, hk, rfl, hbel, hle, hc3, hkr, hG⟩ := hrel
        have HBel := Lib.hid hbel
        have HKR := Lib.hid hkr
        have HG := Lib.hid hG
        have hL : (x.ks.take k).length = k := by simp; omega
        have y3 := hG.y 3 _ rfl
        have hown := hG.acc.own
        rw [hL] at hown
        have HOWN := Lib.hid hown
        have fy := hG.fy 3
        clear hwc hb3
        by_cases hlt : k < x.ks.length
        · have hlt' : (k : Int) < (x.ks.length : Int) := by omega
          have h0k : (0 : Int) ≤ (k : Int) := by omega
          have hne : x.ks ≠ [] := by intro h; rw [h] at hlt; simp at hlt
          obtain ⟨g, off, cap', hv, _, _, hcells⟩ := hkr.kids hne
          simp only [Value.slice.injEq] at hv
          obtain ⟨rfl, -, rfl⟩ := hv
          obtain ⟨hok2, u, c0, c1, c2, c3, hku⟩ := hcells k hlt
          obtain ⟨au, cu, rfl, -, -⟩ := hku.form
          have HKU := Lib.hid hku
          have HOK2 := Lib.hid hok2
          have hlimk := HLIM.out x.ks[k] (List.getElem_mem hlt)
          have HLK := Lib.hid hlimk
          have hyl := cell_lt y3
          have hgw : g < w.heap.size := by
            obtain ⟨g0, off0, cap0, hv0, _, _, hcells0⟩ := HK0.out.kids hne
            simp only [Value.slice.injEq, Option.some.injEq, Addr.mk.injEq] at hv0
            obtain ⟨⟨rfl, -⟩, -⟩ := hv0
            obtain ⟨_, _, q0, _⟩ := hcells0 k hlt
            exact cell_lt q0
          obtain ⟨va, vc, rfl⟩ := ownsForm hown
          have hnb := hG.own
          have HNB := Lib.hid hnb
          have hwl : w.heap.size < wr.heap.size := by omega
          have hgl : g < wr.heap.size := by omega
          clear hcells hku hok2 hbel hne hkr hG hown hlimk hnb
          obtain ⟨E, hE⟩ : ∃ E, Hid (x.ks[k] = E) := ⟨_, Lib.hid rfl⟩
          have IHK : Hid (∀ W kv, ExK d W kv x.ks[k].ks → Calls Try.prog 139 #[exV x.ks[k] kv] W (ExMade d E W)) := Lib.hid (fun W kv h => hE.out ▸ IH.out x.ks[k] kv W HOK2.out h HLK.out)
          have Y3 := Lib.hid y3
          have HC3 := Lib.hid hc3
          have FY := Lib.hid fy
          go_upto_region 5 with fail
          go_region_law
            (first
              | (go_simp; go_at_call 139; refine (IHK.out _ _ (HKU.out.next ((Below.refl _ _).drew))).mono ?_; rintro e w2 ⟨kv2, rfl, hok3, hkc3, hb2⟩; obtain ⟨ka2, kc2, rfl, hka1, hka2⟩ := hkc3.form; unfold exV; have z3 := cell_next hb2 (cell_next ((Below.refl _ _).drew) Y3.out); have zf := frozen_next hb2 (cell_next ((Below.refl _ _).drew) Y3.out) (frozen_next ((Below.refl _ _).drew) Y3.out FY.out); have Z3 := Lib.hid z3; have ZF := Lib.hid zf; have znew := World.new_ne _ _ z3; have zlt := cell_lt z3; dsimp only)
              | (have hbt := hb2; refine step_append_lies _ (by rfl) (.tmp 19) (.tmp 26) _ (by rfl) (w.heap.size + 1 + 1 + 1) 37 i0 (.agg #[.int .i64 0, .int .i64 0, .string ⟨#[]⟩, .slice none 0 0]) 4 56 Try.underlying35 hi hz0 hz1 hz2 rfl (by omega) (.slice va k vc) k rows.flatten (by rfl) ((ownsBelow HOWN.out.drew hb2).alloc _)
                  ⟨w2.heap.size, 0, none⟩ 1 1 [.int .i64 E.op, .int .i64 E.n, .string E.nm, .slice ka2 E.ks.length kc2] (by rfl) (by rfl) (World.news_of_block (cs := #[.int .i64 E.op, .int .i64 E.n, .string E.nm, .slice ka2 E.ks.length kc2]) (t := 37) (fr := (0, 0)) (heap_alloc_new w2 _)) (by simp [Value.oneCell'])
                  (by omega) (by unfold maxLen; omega) (by omega) (by have := hb2.size; simp at this ⊢ <;> omega) (w2.heap.size + 1) (by simp) ?_; intro gg cap4 w4 hown4 hgrow4 hat4 hlt4
                 have ylt := cell_lt Z3.out
                 have q3 := (hgrow4.cell_far ⟨w.heap.size + 1 + 1, 3, none⟩ (by simp <;> omega) (HNB.out _ (by simp))).trans (cell_next (boxed w2 _) Z3.out)
                 have qf := (hgrow4.frozen_far ⟨w.heap.size + 1 + 1, 3, none⟩ (by simp <;> omega) (HNB.out _ (by simp))).trans (frozen_next (boxed w2 _) Z3.out ZF.out)))
          all_goals
            go_wp2_with fail
            go_roundw
            case rel =>
              have hch : Below wr.heap.size wr (w2.alloc (.cells #[.int .i64 E.op, .int .i64 E.n, .string E.nm, .slice ka2 E.ks.length kc2] 37)) := (((Below.refl _ _).drew).trans hb2).trans ((boxed w2 _).mono hb2.size)
              have hB2 := Grow.below (B := w.heap.size + 1 + 1 + 1) (Y := w.heap.size + 1 + 1) (slot := 3) (v4 := .slice (some ⟨gg, 0, none⟩) (k + 1) cap4) HBel.out hch hgrow4 (by omega) (by omega) HNB.out
              have hstep := HG.out.step (v4 := .slice (some ⟨gg, 0, none⟩) (k + 1) cap4) (by simp) (ExQ.mono d) ((Below.refl _ _).drew) hb2 (boxed w2 _) hgrow4 (fun q hq => by have hqq : gg = q := by { simpa [Value.ownBlock] using hq }; subst hqq; exact hat4.imp id fun h => by omega) rfl ⟨_, rfl, hok3, hkc3⟩ (by rw [hL]; exact hown4)
              refine ⟨k + 1, .slice (some ⟨gg, 0, none⟩) (k + 1) cap4, rows ++ [[.int .i64 E.op, .int .i64 E.n, .string E.nm, .slice ka2 E.ks.length kc2]], by omega, by go_num, hB2, ?_, ?_, HK0.out.next hB2, ?_⟩
              · have := hgrow4.size
                have := hch.size
                simp only [World.size_setCell]
                omega
              · rw [World.cell?_setCell_other _ _ _ _ (fun e => by have := congrArg Addr.block e; simp only at this; omega), hgrow4.cell_far _ (by have := hch.size; simp only; omega) (HNB.out _ (by simp only; omega))]
                exact cell_next hch HC3.out
              · rw [List.take_succ_eq_append_getElem hlt, hE.out]
                exact hstep
            case measure => simp [intOf]; omega
        · have hlt' : ¬ (k : Int) < (x.ks.length : Int) := by omega
          have hke : k = x.ks.length := by omega
          subst hke
          obtain ⟨va, vc, rfl⟩ := ownsForm hown
          rw [List.take_length] at HG
          have y0 := HG.out.y 0 _ rfl
          have y1 := HG.out.y 1 _ rfl
          have y2 := HG.out.y 2 _ rfl
          obtain ⟨r0, hr0⟩ := HG.out.r 0 (by omega)
          obtain ⟨r1, hr1⟩ := HG.out.r 1 (by omega)
          obtain ⟨r2, hr2⟩ := HG.out.r 2 (by omega)
          obtain ⟨r3, hr3⟩ := HG.out.r 3 (by omega)
          have f0 := HG.out.fy 0
          have f1 := HG.out.fr 0
          have f2 := HG.out.fr 1
          have f3 := HG.out.fr 2
          have f4 := HG.out.fr 3
          have hfit : x.ks.length ≤ 9223372036854775807 := by omega
          have hm := HG.out.acc.exC hfit
          have HM := Lib.hid hm
          clear hG hbel hm hown
          go_wp2_with fail
          obtain ⟨q0, q1, q2, q3⟩ := fill4 (a := .int .i64 x.op) (b := .int .i64 x.n) (c := .string x.nm) (d := .slice va x.ks.length vc) hr0 hr1 hr2 hr3
          refine bodyPost_ret (v := .agg #[.int .i64 x.op, .int .i64 x.n, .string x.nm, .slice va x.ks.length vc]) (by simp [results, Try.results139, go_sem, q0, q1, q2, q3]) rfl ⟨.slice va x.ks.length vc, ?_, ⟨?_, ?_, ?_⟩, ?_, ?_⟩
          · rfl
          · exact HOK.out.op
          · exact HOK.out.n
          · exact HOK.out.nm
          · refine ExC.mono (Cs.le_trans (le_set (R := w.heap.size + 1) (by omega)) (Cs.le_trans (le_set (R := w.heap.size + 1) (by omega)) (Cs.le_trans (le_set (R := w.heap.size + 1) (by omega)) (Cs.le_trans (le_set (R := w.heap.size + 1) (by omega)) (nw_le (by omega) (Below.refl _ _)))))) HM.out
          · refine (((HBel.out.setCell (p := ⟨_, _, none⟩) ?_ _).setCell (p := ⟨_, _, none⟩) ?_ _).setCell (p := ⟨_, _, none⟩) ?_ _).setCell (p := ⟨_, _, none⟩) ?_ _ <;> simp
end Go.Proofs.Ytghlmengcidmdaa.Tr
end
section
/- What tree.copied makes: a row of new statements, numbered on if so. Conditions: the row lies in memory, it is light. -/
namespace Go.Proofs.Ytghlmengcidmdaa.Tr
open Go.RowKit Go.Proofs.Ytghlmengcidmdaa.Lx Go.Proofs.Ytghlmengcidmdaa.Wd
theorem infoSt : (Try.prog.info? 41).map (fun i => (i.zero, i.size, i.bytes)) = some (some (.agg #[.int .i64 0, .int .i64 0, .slice none 0 0, .string ⟨#[]⟩, .string ⟨#[]⟩, .int .i64 0, .int .i64 0, .string ⟨#[]⟩, .slice none 0 0, .bool false, .slice none 0 0, .slice none 0 0, .slice none 0 0]), 13, 208) := by kernel_rfl
theorem infoAr : (Try.prog.info? 49).map (fun i => (i.zero, i.size, i.bytes)) = some (some (.agg #[.bool false, .string ⟨#[]⟩, .int .i64 0, .int .i64 0, .string ⟨#[]⟩, .slice none 0 0]), 6, 80) := by kernel_rfl
/-- The cells of a box. -/
def BoxAt (w : World) (g : Nat) (cs : List Value) : Prop := ∀ j u, cs[j]? = some u → w.cell? ⟨g, j, none⟩ = some u
def Free (w : World) (g : Nat) : Prop := ∀ j, w.frozen? ⟨g, j, none⟩ = false
theorem BoxAt.next {w w' : World} {g : Nat} {cs : List Value} (h : BoxAt w g cs) (hb : Below w.heap.size w w') : BoxAt w' g cs := fun j u hu => cell_next hb (h j u hu)
theorem Free.next {w w' : World} {g : Nat} (h : Free w g) (hg : g < w.heap.size) (hb : Below w.heap.size w w') : Free w' g := fun j => (hb.frozen (p := ⟨g, j, none⟩) hg).trans (h j)
theorem box_new (w : World) (cs : Array Value) (t : TypeId) : BoxAt (w.alloc (.cells cs t)) w.heap.size cs.toList := fun j u hu => by
  rw [World.cell?_alloc_new]
  simpa using hu
theorem box_two (w : World) (o : Obj) (cs : Array Value) (t : TypeId) : BoxAt ((w.alloc o).alloc (.cells cs t)) (w.heap.size + 1) cs.toList := by
  have := box_new (w.alloc o) cs t
  rwa [World.size_alloc] at this
theorem free_two (w : World) (o : Obj) (cs : Array Value) (t : TypeId) : Free ((w.alloc o).alloc (.cells cs t)) (w.heap.size + 1) := fun j => by simp [go_sem]
theorem BoxAt.set {w : World} {g b j : Nat} {cs : List Value} {x : Value} (h : BoxAt w g cs) (hg : b ≠ g) : BoxAt (w.setCell ⟨b, j, none⟩ x) g cs := fun i u hu => by
  rw [World.cell?_setCell_other _ _ _ _ (fun e => hg (congrArg Addr.block e))]
  exact h i u hu
theorem BoxAt.put {w : World} {g j : Nat} {cs : List Value} {x : Value} (h : BoxAt w g cs) (hj : j < cs.length) : BoxAt (w.setCell ⟨g, j, none⟩ x) g (cs.set j x) := fun i u hu => by
  by_cases hi : i = j
  · subst hi
    rw [List.getElem?_set_self hj] at hu
    have : x = u := by simpa using hu
    subst this
    exact cell_set (h i cs[i] (List.getElem?_eq_getElem hj))
  · rw [List.getElem?_set_ne (by omega)] at hu
    exact cell_set_ne (h i u hu) (by omega)
theorem Free.set {w : World} {g b j : Nat} {x : Value} (h : Free w g) : Free (w.setCell ⟨b, j, none⟩ x) g := fun i => by rw [World.frozen?_setCell]; exact h i
end Go.Proofs.Ytghlmengcidmdaa.Tr
end
