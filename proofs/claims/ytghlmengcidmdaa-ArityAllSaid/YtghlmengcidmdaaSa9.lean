/- Parts of BSt: walks and plain laws that later texts use. Conditions: as each statement says. -/
import Derived.Test.YtghlmengcidmdaaSa0
import Derived.Test.YtghlmengcidmdaaSa1
import Derived.Test.YtghlmengcidmdaaSa2
import Derived.Test.YtghlmengcidmdaaSa3
import Derived.Test.YtghlmengcidmdaaSa4
import Derived.Test.YtghlmengcidmdaaSa5
import Derived.Test.YtghlmengcidmdaaSa6
import Derived.Test.YtghlmengcidmdaaSa7
import Derived.Test.YtghlmengcidmdaaSa8
import Derived.RegionTactic
import Derived.Deep.QuietTactic
import Derived.BigQuiet
import Derived.Deep.DeepCutAuto
import Derived.Maps.Range
import Derived.Outline
import Derived.Lib.SmallJoins
import Derived.Deep.Upon
import Derived.Maps.AppendAt
import Derived.Laws.OwnMore
import Derived.IntWalk
import Derived.StillTailTactics
import Derived.OwnWalk
import Derived.OneCell
import Derived.Deep.AppendLies
import Derived.Deep.RegionLaw
import Derived.Deep.RegionHeld3
import Derived.Deep.Slices
import Derived.Deep.Fields
import Derived.SliceStrings
import Derived.ChangeSlices
import Derived.Deep.RegionWith
import Derived.Laws.Cover3
import Derived.WalkKit
import Derived.Test.YtghlmengcidmdaaRows
import Derived.WalkSpells
import Derived.Lib.Hide
import Derived.Below
import Derived.WalkSmall
import Derived.Laws.BitsAllLaws
/- Plain: statements counted, found. How rows of statements lie. Conditions: none.
   What tree.count, tree.Count compute. Conditions: the rows lie in memory.
   What tree.find computes: where the first statement of an id stands. Conditions: the rows lie in memory.
   Plain: statements weighed, copied, numbered; a statement, an argument as cells. Conditions: none.
   What slices.Clone makes: a new slice. Conditions: the slice lies in memory, it is not long. -/
section
namespace Go.Proofs.Ytghlmengcidmdaa.Tr
open Go.RowKit Go.Proofs.Ytghlmengcidmdaa.Lx Go.Proofs.Ytghlmengcidmdaa.Wd
mutual
/-- How many statements a row has, with those in them. -/
def cntS : St → Nat
  | .mk _ _ _ _ _ _ _ _ t e => 1 + cntL t + cntL e
def cntL : List St → Nat
  | [] => 0
  | s :: r => cntS s + cntL r
end
theorem cntS_eq (s : St) : cntS s = 1 + cntL s.thn + cntL s.els := by cases s; simp only [cntS, St.thn, St.els]
theorem cntL_cons (s : St) (r : List St) : cntL (s :: r) = cntS s + cntL r := by simp only [cntL]
theorem cntL_append (l m : List St) : cntL (l ++ m) = cntL l + cntL m := by
  induction l with
  | nil => simp [cntL]
  | cons s r ih => rw [List.cons_append, cntL_cons, cntL_cons, ih]; omega
theorem StC.form {C : Cs} {d : Nat} {v : Value} {l : List St} (h : StC C d v l) : ∃ a cap, v = .slice a l.length cap ∧ l.length ≤ cap ∧ cap ≤ 9223372036854775807 := by
  cases d with
  | zero => exact h.elim
  | succ d => exact SlAt.form h
theorem StC.next {w w' : World} {d : Nat} {v : Value} {l : List St} (h : StC (cw w) d v l) (hb : Below w.heap.size w w') : StC (cw w') d v l := StC.mono (cw_next hb) h
end Go.Proofs.Ytghlmengcidmdaa.Tr
end
section
namespace Go.Proofs.Ytghlmengcidmdaa.Tr
open Go.RowKit Go.Proofs.Ytghlmengcidmdaa.Lx Go.Proofs.Ytghlmengcidmdaa.Wd
end Go.Proofs.Ytghlmengcidmdaa.Tr
end
section
namespace Go.Proofs.Ytghlmengcidmdaa.Tr
open Go.RowKit Go.Proofs.Ytghlmengcidmdaa.Lx Go.Proofs.Ytghlmengcidmdaa.Wd
theorem ExAt.up {C : Cs} {d g o : Nat} {x : Ex} (h : ExAt C (ExC C d) g o x) : ExAt C (ExC C (d + 1)) g o x := ExAt.mono (fun _ _ _ q => q) (fun _ _ q => q.up) h
theorem StAt.up {C : Cs} {d : Nat} {P Q : Value → List St → Prop} (hpq : ∀ v l, P v l → Q v l) {g o : Nat} {s : St} (hs : StAt C d P g o s) : StAt C (d + 1) Q g o s := by
  obtain ⟨lv, av, tv, ev, h0, h1, h2, h3, h4, h5, h9, h10, h11, h12, i1, i2, i3, i4, i5, i6, i7, i8⟩ := hs
  exact ⟨lv, av, tv, ev, h0, h1, h2, h3, h4, h5.up, h9, h10, h11, h12, i1, i2, i3, i4, i5, SlAt.imp i6 (fun _ _ _ _ q => ⟨q.1, q.2.1, q.2.2.1, q.2.2.2.up⟩), hpq _ _ i7, hpq _ _ i8⟩
theorem StC.up {C : Cs} : ∀ {d : Nat} {v : Value} {l : List St}, StC C d v l → StC C (d + 1) v l := by
  intro d
  induction d with
  | zero => intro v l h; exact h.elim
  | succ d ih => intro v l h; exact SlAt.imp h fun _ _ _ _ q => q.up fun _ _ => ih
end Go.Proofs.Ytghlmengcidmdaa.Tr
end
section
namespace Go.Proofs.Ytghlmengcidmdaa.Tr
open Go.RowKit Go.Proofs.Ytghlmengcidmdaa.Lx Go.Proofs.Ytghlmengcidmdaa.Wd
/-- What texts, arguments weigh. -/
def wtTs (l : List ByteArray) : Nat := (l.map fun s => 1 + s.size).sum
def wtAr (a : Ar) : Nat := wt a.x + 1 + a.nm.size
mutual
/-- What statements weigh. -/
def wtS : St → Nat
  | .mk _ _ ls nm pr x _ ar t e => wt x + wtTs ls + (1 + nm.size) + (1 + pr.size) + (ar.map wtAr).sum + wtL t + wtL e
def wtL : List St → Nat
  | [] => 0
  | s :: r => wtS s + wtL r
end
theorem wtS_eq (s : St) : wtS s = wt s.x + wtTs s.labels + (1 + s.nm.size) + (1 + s.proc.size) + (s.args.map wtAr).sum + wtL s.thn + wtL s.els := by cases s; simp only [wtS, St.x, St.labels, St.nm, St.proc, St.args, St.thn, St.els]
theorem wtL_cons (s : St) (r : List St) : wtL (s :: r) = wtS s + wtL r := by simp only [wtL]
theorem wtL_mem {l : List St} {s : St} (h : s ∈ l) : wtS s ≤ wtL l := by
  induction l with
  | nil => cases h
  | cons t r ih =>
    rw [wtL_cons]
    rcases List.mem_cons.1 h with rfl | h
    · omega
    · have := ih h; omega
theorem wtL_len (l : List St) : l.length ≤ wtL l := by
  induction l with
  | nil => simp
  | cons s r ih => rw [wtL_cons, wtS_eq, List.length_cons]; omega
theorem wtTs_len (l : List ByteArray) : l.length ≤ wtTs l := by
  induction l with
  | nil => simp
  | cons s r ih => unfold wtTs at *; rw [List.map_cons, List.sum_cons, List.length_cons]; omega
theorem wtAr_len (l : List Ar) : l.length ≤ (l.map wtAr).sum := by
  induction l with
  | nil => simp
  | cons s r ih => rw [List.map_cons, List.sum_cons, List.length_cons]; unfold wtAr at *; omega
theorem wtAr_mem {l : List Ar} {a : Ar} (h : a ∈ l) : wt a.x ≤ (l.map wtAr).sum := by
  induction l with
  | nil => cases h
  | cons t r ih =>
    rw [List.map_cons, List.sum_cons]
    rcases List.mem_cons.1 h with rfl | h
    · unfold wtAr; omega
    · have := ih h; omega
theorem wts_len (l : List Ex) : l.length ≤ wts l := by
  induction l with
  | nil => simp
  | cons x r ih => simp only [wts, List.length_cons]; rw [wt_eq]; omega
theorem wts_mem {l : List Ex} {x : Ex} (h : x ∈ l) : wt x ≤ wts l := by
  induction l with
  | nil => cases h
  | cons t r ih =>
    simp only [wts]
    rcases List.mem_cons.1 h with rfl | h
    · omega
    · have := ih h; omega
/-- What is light has no long row of kids. -/
theorem lim_of : ∀ (d : Nat) (ks : List Ex), wts ks ≤ 20000 → lim d ks := by
  intro d
  induction d with
  | zero => intro ks _; trivial
  | succ d ih =>
    intro ks h
    refine ⟨Nat.le_trans (wts_len ks) h, fun k hk => ih k.ks ?_⟩
    have := wts_mem hk
    rw [wt_eq] at this
    omega
theorem lim_ex {x : Ex} (h : wt x ≤ 20000) (d : Nat) : lim d x.ks := lim_of d x.ks (by rw [wt_eq] at h; omega)
mutual
/-- A statement anew, numbered from behind some if so. -/
def cpS (b : Bool) (n : Int) : St → St
  | .mk i k ls nm pr x h ar t e => .mk (if b then wrap64 (n + 1) else i) k ls nm pr x h ar (cpL b (n + 1) t) (cpL b (n + 1 + cntL t) e)
def cpL (b : Bool) (n : Int) : List St → List St
  | [] => []
  | s :: r => cpS b n s :: cpL b (n + cntS s) r
end
theorem cpS_eq (b : Bool) (n : Int) (s : St) : cpS b n s = .mk (if b then wrap64 (n + 1) else s.id) s.kind s.labels s.nm s.proc s.x s.has s.args (cpL b (n + 1) s.thn) (cpL b (n + 1 + cntL s.thn) s.els) := by cases s; simp only [cpS, St.id, St.kind, St.labels, St.nm, St.proc, St.x, St.has, St.args, St.thn, St.els]
theorem cpL_cons (b : Bool) (n : Int) (s : St) (r : List St) : cpL b n (s :: r) = cpS b n s :: cpL b (n + cntS s) r := by simp only [cpL]
theorem cpL_append (b : Bool) : ∀ (l m : List St) (n : Int), cpL b n (l ++ m) = cpL b n l ++ cpL b (n + cntL l) m := by
  intro l
  induction l with
  | nil => intro m n; simp [cpL, cntL]
  | cons s r ih =>
    intro m n
    rw [List.cons_append, cpL_cons, cpL_cons, ih, cntL_cons, List.cons_append]
    congr 3
    push_cast
    omega
theorem cpL_len (b : Bool) : ∀ (l : List St) (n : Int), (cpL b n l).length = l.length := by
  intro l
  induction l with
  | nil => intro n; simp [cpL]
  | cons s r ih => intro n; rw [cpL_cons, List.length_cons, List.length_cons, ih]
/-- An argument, a statement as cells. -/
def ArQ (d : Nat) (C : Cs) (c : List Value) (a : Ar) : Prop := ∃ kv, c = [.bool a.ref, .string a.nm, .int .i64 a.x.op, .int .i64 a.x.n, .string a.x.nm, kv] ∧ a.nm.size ≤ 9223372036854775807 ∧ OkE a.x ∧ ExC C d kv a.x.ks
theorem ArQ.mono (d : Nat) : ∀ C D c x, Cs.le C D → ArQ d C c x → ArQ d D c x := fun _ _ _ _ h ⟨kv, h1, h2, h3, h4⟩ => ⟨kv, h1, h2, h3, ExC.mono h h4⟩
theorem ArQ.at_ (d : Nat) : ∀ (C : Cs) (c : List Value) (g o : Nat) (x : Ar), ArQ d C c x → (∀ j u, c[j]? = some u → C g (o + j) u) → ArAt C d g o x := by
  intro C c g o x ⟨kv, h1, h2, h3, h4⟩ h
  subst h1
  exact ⟨h 0 _ rfl, h 1 _ rfl, h2, kv, h 2 _ rfl, h 3 _ rfl, h 4 _ rfl, h 5 _ rfl, h3, h4⟩
def stCells (s : St) (kv lv av tv ev : Value) : List Value := [.int .i64 s.id, .int .i64 s.kind, lv, .string s.nm, .string s.proc, .int .i64 s.x.op, .int .i64 s.x.n, .string s.x.nm, kv, .bool s.has, av, tv, ev]
def StQ (d : Nat) (C : Cs) (c : List Value) (s : St) : Prop := ∃ kv lv av tv ev, c = stCells s kv lv av tv ev ∧ OkE s.x ∧ ExC C d kv s.x.ks ∧ InI s.id ∧ InI s.kind ∧ s.nm.size ≤ 9223372036854775807 ∧ s.proc.size ≤ 9223372036854775807 ∧ StrC C lv s.labels ∧ SlAt 6 (ArAt C d) av s.args ∧ StC C d tv s.thn ∧ StC C d ev s.els
theorem StQ.mono (d : Nat) : ∀ C D c x, Cs.le C D → StQ d C c x → StQ d D c x := fun _ _ _ _ h ⟨kv, lv, av, tv, ev, h1, h2, h3, h4, h5, h6, h7, h8, h9, h10, h11⟩ =>
  ⟨kv, lv, av, tv, ev, h1, h2, ExC.mono h h3, h4, h5, h6, h7, StrC.mono h h8, SlAt.imp h9 (fun _ _ _ _ => ArAt.mono h), StC.mono h h10, StC.mono h h11⟩
theorem StQ.at_ (d : Nat) : ∀ (C : Cs) (c : List Value) (g o : Nat) (x : St), StQ d C c x → (∀ j u, c[j]? = some u → C g (o + j) u) → StAt C d (StC C d) g o x := by
  intro C c g o x ⟨kv, lv, av, tv, ev, h1, h2, h3, h4, h5, h6, h7, h8, h9, h10, h11⟩ h
  subst h1
  exact ⟨lv, av, tv, ev, h 0 _ rfl, h 1 _ rfl, h 2 _ rfl, h 3 _ rfl, h 4 _ rfl, ⟨kv, h 5 _ rfl, h 6 _ rfl, h 7 _ rfl, h 8 _ rfl, h2, h3⟩, h 9 _ rfl, h 10 _ rfl, h 11 _ rfl, h 12 _ rfl, h4, h5, h6, h7, h8, h9, h10, h11⟩
theorem Acc.stC {d B : Nat} {t : TypeId} {w : World} {v : Value} {l : List St} {rows : List (List Value)} (h : Acc (StQ d) B t 13 w v l rows) (hm : l.length ≤ 9223372036854775807) : StC (nwC B w) (d + 1) v l :=
  h.sl (P := fun C g o x => StAt C d (StC C d) g o x) hm (StQ.mono d) fun C c g o x _ _ hq hc => StQ.at_ d C c g o x hq hc
theorem Acc.arC {d B : Nat} {t : TypeId} {w : World} {v : Value} {l : List Ar} {rows : List (List Value)} (h : Acc (ArQ d) B t 6 w v l rows) (hm : l.length ≤ 9223372036854775807) : SlAt 6 (ArAt (nwC B w) d) v l :=
  h.sl (P := fun C g o x => ArAt C d g o x) hm (ArQ.mono d) fun C c g o x _ _ hq hc => ArQ.at_ d C c g o x hq hc
/-- While a row hangs on block Y is grown, all else below B stays. -/
theorem grow_keep {w0 w3 w4 : World} {v v4 : Value} {B Y slot : Nat} (hb : Below w0.heap.size w0 w3) (hg : w3.grownBy w4 v.ownBlock) (ho : ∀ b, b < B → some b ≠ v.ownBlock) :
    Cs.le (only (fun g => g < B ∧ g ≠ Y) (cw w0)) (only (fun g => g < B ∧ g ≠ Y) (cw (w4.setCell ⟨Y, slot, none⟩ v4))) := by
  intro g j u ⟨⟨h1, h2⟩, h3⟩
  have hlt := cell_lt h3
  refine ⟨⟨h1, h2⟩, ?_⟩
  show (w4.setCell ⟨Y, slot, none⟩ v4).cell? ⟨g, j, none⟩ = some u
  rw [World.cell?_setCell_other _ _ _ _ (fun e => h2 (congrArg Addr.block e).symm), hg.cell_far ⟨g, j, none⟩ (Nat.lt_of_lt_of_le hlt hb.size) (ho g h1)]
  exact cell_next hb h3
end Go.Proofs.Ytghlmengcidmdaa.Tr
end
section
namespace Go.Proofs.Ytghlmengcidmdaa.Tr
open Go.RowKit Go.Proofs.Ytghlmengcidmdaa.Lx Go.Proofs.Ytghlmengcidmdaa.Wd
theorem nil_yes (cap : Nat) (w : World) : (binOp .eql 22 (.slice none 0 cap) (.slice none 0 0)).run Try.prog w = .ok (.bool true) w := by
  simp [binOp, run_equal_slice_nil w _ _ _ _ _ Try.underlying22]
theorem nil_no (ad : Addr) (n cap : Nat) (w : World) : (binOp .eql 22 (.slice (some ad) n cap) (.slice none 0 0)).run Try.prog w = .ok (.bool false) w := by
  simp [binOp, run_equal_slice_nil w _ _ _ _ _ Try.underlying22]
/-- What a copier of texts leaves. -/
def TextsCopied (l : List ByteArray) (w : World) (e : Ending) (w' : World) : Prop := ∃ v, e = .returned v ∧ StrC (nwC w.heap.size w') v l ∧ Below w.heap.size w w'
set_option maxHeartbeats 1000000 in
set_option maxRecDepth 100000 in
theorem cloneTexts_any (l : List ByteArray) (v : Value) (w : World) (hl : StrsAt w v l) (hm : l.length ≤ 1000000) : Calls Try.prog 73 #[v] w (TextsCopied l w) := by
  obtain ⟨i0, hi, hz0, hz1, hz2⟩ := info_parts infoStr
  obtain ⟨a, cap, rfl, hc1, hc2⟩ := hl.form
  cases a with
  | none =>
    obtain ⟨-, hz, -⟩ := hl.news
    have h0 : l = [] := List.eq_nil_of_length_eq_zero (hz rfl)
    subst h0
    clear hl hz
    have ny := nil_yes cap
    go_enter Try.func73, Try.ntmps73
    go_wp2_with fail
    go_ret
    exact ⟨_, rfl, SlAt.nil, Below.refl _ _⟩
  | some ad =>
    have HL := Lib.hid hl
    have HALL := Lib.hid hl.all
    clear hl
    have ny := nil_no ad l.length cap
    go_enter Try.func73, Try.ntmps73
    go_wp2_with (at_builtin; refine wpList_append_sl _ rfl (.tmp 5) (.tmp 6) 22 rfl w.heap.size 9 i0 (.string ⟨#[]⟩) 1 16 Try.underlying22 hi hz0 hz1 hz2 rfl (by decide) _ 0 [] rfl ?oa1 (some ad) l.length cap (l.map Value.string) rfl ?oz1 ?ob1 ?oc1 (str_all _) ?od1 ?oe1 ?of1 ?_)
    case oa1 => exact World.ownsRow_lit w #[] 0 (Nat.le_refl _) (by decide) rfl
    case oz1 => intro h; cases h
    case ob1 => rw [List.length_map, Nat.mul_one]
    case oc1 => exact (HL.out.next (boxed w _)).news.2.2
    case od1 => unfold maxLen; omega
    case oe1 => omega
    case of1 => simp
    intro v4 w4 hown4 hg4 hat4
    obtain ⟨la4, lc4, rfl⟩ := ownsForm hown4
    have hb4 : Below w.heap.size w w4 := (boxed w _).grown hg4 (by simp) fun q hq => by have hqq : w.heap.size = q := by { simpa [Value.ownBlock] using hq }; omega
    have HB4 := Lib.hid hb4
    have HOWN4 := Lib.hid hown4
    clear hown4 hg4 hat4 hb4
    go_wp2_with fail
    go_ret
    exact ⟨_, rfl, strs_owned (by simpa using HOWN4.out) (by omega) (by omega) HALL.out, HB4.out⟩
end Go.Proofs.Ytghlmengcidmdaa.Tr
end
