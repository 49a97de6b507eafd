/- Parts of SheetP: walks and plain laws that later texts use. Conditions: as each statement says. -/
import Derived.Test.YtghlmengcidmdaaSa0
import Derived.Test.YtghlmengcidmdaaSa1
import Derived.Test.YtghlmengcidmdaaSa2
import Derived.Test.YtghlmengcidmdaaSa3
import Derived.Test.YtghlmengcidmdaaSa4
import Derived.Test.YtghlmengcidmdaaSa5
import Derived.Test.YtghlmengcidmdaaSa6
import Derived.Test.YtghlmengcidmdaaSa7
import Derived.Test.YtghlmengcidmdaaSa8
import Derived.Test.YtghlmengcidmdaaSa9
import Derived.Test.YtghlmengcidmdaaSa10
import Derived.Test.YtghlmengcidmdaaSa11
import Derived.Test.YtghlmengcidmdaaSa12
import Derived.Test.YtghlmengcidmdaaSa13
import Derived.Test.YtghlmengcidmdaaSa14
import Derived.Test.YtghlmengcidmdaaSa15
import Derived.Test.YtghlmengcidmdaaSa16
import Derived.RegionTactic
import Derived.IntWalk
import Derived.Deep.QuietTactic
import Derived.BigQuiet
import Derived.StillTailTactics
import Derived.Deep.RegionHeld3
import Derived.Deep.DeepCutAuto
import Derived.Deep.Slices
import Derived.Deep.Fields
import Derived.Lib.SmallJoins
import Derived.SliceStrings
import Derived.ChangeSlices
import Derived.Deep.RegionLaw
import Derived.Deep.RegionWith
import Derived.Laws.Cover3
import Derived.WalkKit
import Derived.Test.YtghlmengcidmdaaRows
import Derived.WalkSpells
import Derived.Lib.Hide
import Derived.Below
import Derived.Laws.BitsAllLaws
import Derived.Maps.Range
import Derived.Outline
import Derived.Deep.Upon
import Derived.Maps.AppendAt
import Derived.Laws.OwnMore
import Derived.OwnWalk
import Derived.OneCell
import Derived.Deep.AppendLies
import Derived.Deep.CutBlock
import Derived.Laws.StructEq
import Derived.WalkSmall
/- A program laid flat: its items, their row in memory. Conditions: none. -/
namespace Go.Proofs.Ytghlmengcidmdaa.Tr
open Go.RowKit Go.Proofs.Ytghlmengcidmdaa.Lx Go.Proofs.Ytghlmengcidmdaa.Wd
/-- A statement, its procedure, in whom it stands, what is behind it, its loop. -/
structure Fi where
  s : St
  proc : Int
  up : Int
  next : Int
  loop : Int
structure Ar5 where
  proc : Int
  up : Int
  next : Int
  loop : Int
def itemOf (s : St) (a : Ar5) (nx : Int) : Fi := ⟨s, a.proc, a.up, nx, a.loop⟩
/-- What is around those that stand in a statement of that id and kind. -/
def inside (k id nx : Int) (a : Ar5) : Ar5 := ⟨a.proc, id, if k = 6 then id else nx, if k = 6 then id else a.loop⟩
mutual
def shS : St → Ar5 → Bool → List Fi → List Fi
  | .mk i k ls nm pr x h ar th el, a, last, out =>
    shL el (inside k (out.length + 1) (if last then a.next else out.length + 1 + (1 + cntL th + cntL el : Nat)) a)
      (shL th (inside k (out.length + 1) (if last then a.next else out.length + 1 + (1 + cntL th + cntL el : Nat)) a)
        (out ++ [itemOf (.mk i k ls nm pr x h ar th el) a (if last then a.next else out.length + 1 + (1 + cntL th + cntL el : Nat))]))
def shL : List St → Ar5 → List Fi → List Fi
  | [], _, out => out
  | s :: r, a, out => shL r a (shS s a r.isEmpty out)
end
/-- What is behind a statement. -/
def nextOf (s : St) (a : Ar5) (last : Bool) (n : Nat) : Int := if last then a.next else n + 1 + (cntS s : Nat)
theorem shS_eq (s : St) (a : Ar5) (last : Bool) (out : List Fi) : shS s a last out = shL s.els (inside s.kind (out.length + 1) (nextOf s a last out.length) a) (shL s.thn (inside s.kind (out.length + 1) (nextOf s a last out.length) a) (out ++ [itemOf s a (nextOf s a last out.length)])) := by
  cases s
  rw [shS]
  unfold nextOf
  rw [cntS]
  rfl
mutual
theorem shS_len : ∀ (s : St) (a : Ar5) (last : Bool) (out : List Fi), (shS s a last out).length = out.length + cntS s
  | .mk i k ls nm pr x h ar th el, a, last, out => by
    rw [shS, shL_len el, shL_len th, List.length_append, cntS]
    simp only [List.length_singleton]
    omega
theorem shL_len : ∀ (l : List St) (a : Ar5) (out : List Fi), (shL l a out).length = out.length + cntL l
  | [], a, out => by rw [shL, cntL]; rfl
  | s :: r, a, out => by rw [shL, shL_len r, shS_len s, cntL]; omega
end
/-- A row's first so many laid: the last one is not the row's last. -/
def shT (l : List St) (a : Ar5) : Nat → List Fi → List Fi
  | 0, out => out
  | k + 1, out => match l with
    | [] => out
    | s :: r => shT r a k (shS s a r.isEmpty out)
theorem shT_succ : ∀ (l : List St) (a : Ar5) (k : Nat) (h : k < l.length) (out : List Fi), shT l a (k + 1) out = shS l[k] a (decide (k + 1 = l.length)) (shT l a k out) := by
  intro l
  induction l with
  | nil => intro a k h; exact absurd h (by simp)
  | cons s r ih =>
    intro a k h out
    cases k with
    | zero =>
      simp only [shT]
      congr 1
      cases r with
      | nil => rfl
      | cons t r' => simp
    | succ k =>
      have h' : k < r.length := by simpa using h
      rw [shT, ih a k h', shT]
      simp only [List.getElem_cons_succ, List.length_cons, Nat.add_right_cancel_iff]
theorem shT_all : ∀ (l : List St) (a : Ar5) (out : List Fi), shT l a l.length out = shL l a out := by
  intro l
  induction l with
  | nil => intro a out; rw [shL]; rfl
  | cons s r ih => intro a out; rw [List.length_cons, shT, ih, shL]
theorem shT_len : ∀ (l : List St) (a : Ar5) (k : Nat) (out : List Fi), (shT l a k out).length = out.length + cntL (l.take k) := by
  intro l
  induction l with
  | nil => intro a k out; cases k <;> simp [shT, cntL]
  | cons s r ih =>
    intro a k out
    cases k with
    | zero => simp [shT, cntL]
    | succ k => rw [shT, ih, shS_len, List.take_succ_cons, cntL]; omega
/-- A program's sheet: its items, and where each procedure's begin and end. -/
def sheetPs : List Pc → Nat → List Fi → List Fi
  | [], _, out => out
  | f :: r, i, out => sheetPs r (i + 1) (shL f.body ⟨i, 0, -1, 0⟩ out)
def sheetOf (p : Pr) : List Fi := sheetPs p.procs 0 []
theorem sheetPs_append : ∀ (l m : List Pc) (i : Nat) (out : List Fi), sheetPs (l ++ m) i out = sheetPs m (i + l.length) (sheetPs l i out) := by
  intro l
  induction l with
  | nil => intro m i out; rfl
  | cons f r ih =>
    intro m i out
    rw [List.cons_append, sheetPs, ih, sheetPs, List.length_cons]
    congr 1
    omega
theorem sheet_take (p : Pr) {k : Nat} (h : k < p.procs.length) : sheetPs (p.procs.take (k + 1)) 0 [] = shL p.procs[k].body ⟨k, 0, -1, 0⟩ (sheetPs (p.procs.take k) 0 []) := by
  rw [List.take_succ_eq_append_getElem h, sheetPs_append]
  have e : 0 + (p.procs.take k).length = k := by rw [List.length_take]; omega
  rw [e]
  simp only [sheetPs]
theorem sheetPs_len : ∀ (l : List Pc) (i : Nat) (out : List Fi), (sheetPs l i out).length = out.length + cntP l := by
  intro l
  induction l with
  | nil => intro i out; simp [sheetPs, cntP]
  | cons f r ih => intro i out; rw [sheetPs, ih, shL_len]; unfold cntP; simp; omega
def losOf (l : List Pc) : Nat → List Int
  | 0 => []
  | k + 1 => losOf l k ++ [(cntP (l.take k) : Int) + 1]
def hisOf (l : List Pc) : Nat → List Int
  | 0 => []
  | k + 1 => hisOf l k ++ [(cntP (l.take (k + 1)) : Int) + 1]
theorem los_len (l : List Pc) : ∀ k, (losOf l k).length = k := by
  intro k
  induction k with
  | zero => rfl
  | succ k ih => rw [losOf, List.length_append, ih]; rfl
theorem his_len (l : List Pc) : ∀ k, (hisOf l k).length = k := by
  intro k
  induction k with
  | zero => rfl
  | succ k ih => rw [hisOf, List.length_append, ih]; rfl
theorem los_at (l : List Pc) : ∀ (k i : Nat) (h : i < (losOf l k).length), (losOf l k)[i] = (cntP (l.take i) : Int) + 1 := by
  intro k
  induction k with
  | zero => intro i h; exact absurd h (by simp [losOf])
  | succ k ih =>
    intro i h
    simp only [losOf, List.getElem_append]
    by_cases hi : i < (losOf l k).length
    · rw [dif_pos hi]; exact ih i hi
    · rw [dif_neg hi]
      have h1 := los_len l k
      have h2 := los_len l (k + 1)
      have : i = k := by omega
      subst this
      simp
theorem his_at (l : List Pc) : ∀ (k i : Nat) (h : i < (hisOf l k).length), (hisOf l k)[i] = (cntP (l.take (i + 1)) : Int) + 1 := by
  intro k
  induction k with
  | zero => intro i h; exact absurd h (by simp [hisOf])
  | succ k ih =>
    intro i h
    simp only [hisOf, List.getElem_append]
    by_cases hi : i < (hisOf l k).length
    · rw [dif_pos hi]; exact ih i hi
    · rw [dif_neg hi]
      have h1 := his_len l k
      have h2 := his_len l (k + 1)
      have : i = k := by omega
      subst this
      simp
def fiCells (i : Fi) (kv lv av tv ev : Value) : List Value := stCells i.s kv lv av tv ev ++ [.int .i64 i.proc, .int .i64 i.up, .int .i64 i.next, .int .i64 i.loop]
/-- A row of such items: what hangs on them lies below. -/
def FiQ (d : Nat) (C : Cs) (c : List Value) (i : Fi) : Prop := ∃ kv lv av tv ev, c = fiCells i kv lv av tv ev ∧ OkE i.s.x ∧ ExC C d kv i.s.x.ks ∧ InI i.s.id ∧ InI i.s.kind ∧ i.s.nm.size ≤ 9223372036854775807 ∧ i.s.proc.size ≤ 9223372036854775807 ∧
    StrC C lv i.s.labels ∧ SlAt 6 (ArAt C d) av i.s.args ∧ StC C d tv i.s.thn ∧ StC C d ev i.s.els ∧ InI i.proc ∧ InI i.up ∧ InI i.next ∧ InI i.loop
theorem FiQ.mono {C D : Cs} (h : Cs.le C D) {d : Nat} {c : List Value} {i : Fi} (q : FiQ d C c i) : FiQ d D c i := by
  obtain ⟨kv, lv, av, tv, ev, h1, h2, h3, h4, h5, h6, h7, h8, h9, h10, h11, h12, h13⟩ := q
  exact ⟨kv, lv, av, tv, ev, h1, h2, ExC.mono h h3, h4, h5, h6, h7, StrC.mono h h8, SlAt.imp h9 (fun _ _ _ _ => ArAt.mono h), StC.mono h h10, StC.mono h h11, h12, h13⟩
structure RowF (B d : Nat) (w : World) (v : Value) (l : List Fi) (rows : List (List Value)) : Prop where
  len : rows.length = l.length
  own : w.ownsRow B 95 17 v l.length rows.flatten
  wide : ∀ r ∈ rows, r.length = 17
  each : ∀ i (h : i < l.length) (h' : i < rows.length), FiQ d (lowC B w) rows[i] l[i]
theorem RowF.nil (B d : Nat) (w : World) : RowF B d w (.slice none 0 0) [] [] := ⟨rfl, World.ownsRow_nil _ _ _ _, fun r h => (by cases h), fun i h => (by cases h)⟩
theorem RowF.next {B d : Nat} {w w' : World} {v : Value} {l : List Fi} {rows : List (List Value)} (h : RowF B d w v l rows) (hb : Below w.heap.size w w') : RowF B d w' v l rows :=
  ⟨h.len, ownsBelow h.own hb, h.wide, fun i h1 h2 => FiQ.mono (low_next hb) (h.each i h1 h2)⟩
theorem RowF.more {B d : Nat} {w w3 w4 : World} {v v4 : Value} {l : List Fi} {rows : List (List Value)} {c : List Value} {x : Fi} (h : RowF B d w v l rows) (hb : Below w.heap.size w w3) (hg : w3.grownBy w4 v.ownBlock)
    (hx : FiQ d (lowC B w) c x) (hown : w4.ownsRow B 95 17 v4 (l.length + 1) (rows.flatten ++ c)) : RowF B d w4 v4 (l ++ [x]) (rows ++ [c]) := by
  have hlen := h.len
  have le : Cs.le (lowC B w) (lowC B w4) := Cs.le_trans (low_next hb) (low_grown hg fun g hg => (h.own.lt g hg).1)
  refine ⟨by simp [hlen], by simpa using hown, fun r hr => ?_, fun i h1 h2 => ?_⟩
  · rcases List.mem_append.1 hr with hr | hr
    · exact h.wide r hr
    · simp at hr
      rw [hr]
      obtain ⟨kv, lv, av, tv, ev, h1, -⟩ := hx
      rw [h1]; rfl
  · simp only [List.getElem_append]
    simp at h1 h2
    by_cases hi : i < l.length
    · rw [dif_pos hi, dif_pos (by omega)]
      exact FiQ.mono le (h.each i hi (by omega))
    · rw [dif_neg hi, dif_neg (by omega)]
      have e1 : i - l.length = 0 := by omega
      have e2 : i - rows.length = 0 := by omega
      simp only [e1, e2, List.getElem_cons_zero]
      exact FiQ.mono le hx
theorem infoFi : (Try.prog.info? 95).map (fun i => (i.zero, i.size, i.bytes)) = some (some (.agg #[.int .i64 0, .int .i64 0, .slice none 0 0, .string ⟨#[]⟩, .string ⟨#[]⟩, .int .i64 0, .int .i64 0, .string ⟨#[]⟩, .slice none 0 0, .bool false, .slice none 0 0, .slice none 0 0, .slice none 0 0, .int .i64 0, .int .i64 0, .int .i64 0, .int .i64 0]), 17, 240) := by kernel_rfl
def FiAt (C : Cs) (d : Nat) (g o : Nat) (i : Fi) : Prop := StAt C d (StC C d) g o i.s ∧ C g (o + 13) (.int .i64 i.proc) ∧ C g (o + 14) (.int .i64 i.up) ∧ C g (o + 15) (.int .i64 i.next) ∧ C g (o + 16) (.int .i64 i.loop) ∧ InI i.proc ∧ InI i.up ∧ InI i.next ∧ InI i.loop
theorem FiAt.mono {C D : Cs} (h : Cs.le C D) {d g o : Nat} {i : Fi} (q : FiAt C d g o i) : FiAt D d g o i := ⟨StAt.mono h (fun _ _ => StC.mono h) q.1, h _ _ _ q.2.1, h _ _ _ q.2.2.1, h _ _ _ q.2.2.2.1, h _ _ _ q.2.2.2.2.1, q.2.2.2.2.2⟩
theorem RowF.sl {B d : Nat} {w : World} {v : Value} {l : List Fi} {rows : List (List Value)} (h : RowF B d w v l rows) : SlAt 17 (FiAt (cw w) d) v l := by
  have hlen := h.len
  have hown := h.own
  rcases h.own.2 with ⟨hv, hn⟩ | ⟨g, cap, cur, hv, h1, h2, h3, h4, h5, h6⟩
  · have : l = [] := List.eq_nil_of_length_eq_zero hn
    subst this
    rw [hv]
    exact SlAt.nil
  · refine ⟨_, cap, hv, h3, h4, fun hne => ⟨g, 0, rfl, fun i hi => ?_⟩⟩
    obtain ⟨kv, lv, av, tv, ev, hc, k1, k2, k3, k4, k5, k6, k7, k8, k9, k10, k11, k12, k13, k14⟩ := FiQ.mono (D := cw w) (fun _ _ _ h => h.2) (h.each i hi (by omega))
    have at_ : ∀ j u, (fiCells l[i] kv lv av tv ev)[j]? = some u → cw w g (0 + i * 17 + j) u := fun j u hu => by
      have := hown.cells (g := g) (by rw [hv]; rfl) (i * 17 + j) u (flat_get rows i j u h.wide (by omega) (by rw [hc]; exact hu))
      rw [Addr.add_lit, Nat.zero_add] at this
      show w.cell? ⟨g, 0 + i * 17 + j, none⟩ = _
      rw [Nat.zero_add]
      exact this
    exact ⟨⟨lv, av, tv, ev, at_ 0 _ rfl, at_ 1 _ rfl, at_ 2 _ rfl, at_ 3 _ rfl, at_ 4 _ rfl, ⟨kv, at_ 5 _ rfl, at_ 6 _ rfl, at_ 7 _ rfl, at_ 8 _ rfl, k1, k2⟩, at_ 9 _ rfl, at_ 10 _ rfl, at_ 11 _ rfl, at_ 12 _ rfl, k3, k4, k5, k6, k7, k8, k9, k10⟩,
      at_ 13 _ rfl, at_ 14 _ rfl, at_ 15 _ rfl, at_ 16 _ rfl, k11, k12, k13, k14⟩
/-- What was there stays, but for the box Y and the row's own block. -/
structure Kp (Y : Nat) (w : World) (v : Value) (w' : World) (v' : Value) : Prop where
  os : w'.os = w.os
  tape : w'.tape = w.tape
  output : w'.output = w.output
  size : w.heap.size ≤ w'.heap.size
  block : ∀ k, k < w.heap.size → k ≠ Y → some k ≠ v.ownBlock → w'.heap[k]? = w.heap[k]?
  own : ∀ g, v'.ownBlock = some g → v.ownBlock = some g ∨ w.heap.size ≤ g
theorem Kp.refl (Y : Nat) (w : World) (v : Value) : Kp Y w v w v := ⟨rfl, rfl, rfl, Nat.le_refl _, fun _ _ _ _ => rfl, fun _ h => .inl h⟩
theorem Kp.trans {Y : Nat} {a b c : World} {u v x : Value} (h : Kp Y a u b v) (k : Kp Y b v c x) : Kp Y a u c x :=
  ⟨k.os.trans h.os, k.tape.trans h.tape, k.output.trans h.output, Nat.le_trans h.size k.size, fun i hi h1 h2 => (k.block i (Nat.lt_of_lt_of_le hi h.size) h1 fun e => (h.own i e.symm).elim (fun e => h2 e.symm) (by omega)).trans (h.block i hi h1 h2),
    fun g hg => (k.own g hg).elim (h.own g) fun h' => .inr (Nat.le_trans h.size h')⟩
theorem Kp.below {Y : Nat} {w w' : World} {v : Value} (h : Below w.heap.size w w') : Kp Y w v w' v := ⟨h.os, h.tape, h.output, h.size, fun k hk _ _ => h.block k hk, fun _ h => .inl h⟩
theorem Kp.grown {Y : Nat} {w w' : World} {v v' : Value} (h : w.grownBy w' v.ownBlock) (ho : ∀ g, v'.ownBlock = some g → v.ownBlock = some g ∨ w.heap.size ≤ g) : Kp Y w v w' v' := ⟨h.os, h.tape, h.output, h.size, fun k hk _ h2 => h.block k hk h2, ho⟩
theorem Kp.set {Y j : Nat} {w w' : World} {v v' u : Value} (h : Kp Y w v w' v') : Kp Y w v (w'.setCell ⟨Y, j, none⟩ u) v' :=
  ⟨h.os, h.tape, h.output, by simpa using h.size, fun k hk h1 h2 => by
    rw [← h.block k hk h1 h2]
    unfold World.setCell
    simp only
    rw [Array.getElem?_modify]
    rw [if_neg (fun e => h1 e.symm)], h.own⟩
theorem Kp.cell {Y g j : Nat} {w w' : World} {v v' u : Value} (h : Kp Y w v w' v') (hu : w.cell? ⟨g, j, none⟩ = some u) (h1 : g ≠ Y) (h2 : v.ownBlock ≠ some g) : w'.cell? ⟨g, j, none⟩ = some u :=
  (World.cell?_of_block (a := ⟨g, j, none⟩) (h.block g (cell_lt hu) h1 fun e => h2 e.symm)).trans hu
theorem Kp.box {Y g : Nat} {w w' : World} {v v' : Value} {cs : List Value} (h : Kp Y w v w' v') (hx : BoxAt w g cs) (h1 : g ≠ Y) (h2 : v.ownBlock ≠ some g) : BoxAt w' g cs := fun j u hu => h.cell (hx j u hu) h1 h2
theorem Kp.low {Y B : Nat} {w w' : World} {v v' : Value} (h : Kp Y w v w' v') (h1 : B ≤ Y) (h2 : ∀ g, v.ownBlock = some g → B ≤ g) : Cs.le (lowC B w) (lowC B w') := fun g j u ⟨hg, hu⟩ =>
  ⟨hg, h.cell hu (by omega) fun e => by have := h2 g e; omega⟩
theorem Kp.belowB {Y B : Nat} {w w' : World} {v v' : Value} (h : Kp Y w v w' v') (h0 : B ≤ w.heap.size) (h1 : B ≤ Y) (h2 : ∀ g, v.ownBlock = some g → B ≤ g) : Below B w w' :=
  ⟨h.os, h.tape, h.output, h.size, fun k hk => h.block k (by omega) (by omega) fun e => by have := h2 k e.symm; omega⟩
theorem Kp.rows {Y B z n : Nat} {e : TypeId} {w w' : World} {v v' u : Value} {xs : List Value} (h : Kp Y w v w' v') (hr : w.ownsRow B e z u n xs) (h1 : ∀ g, u.ownBlock = some g → g ≠ Y ∧ v.ownBlock ≠ some g) : w'.ownsRow B e z u n xs := by
  refine ⟨hr.1, ?_⟩
  rcases hr.2 with h' | ⟨g, cap, cur, k1, k2, k3, k4⟩
  · exact .inl h'
  · refine .inr ⟨g, cap, cur, k1, k2, ?_, k4⟩
    have hlt : g < w.heap.size := by
      rcases Nat.lt_or_ge g w.heap.size with hlt | hge
      · exact hlt
      · rw [Array.getElem?_eq_none hge] at k3; cases k3
    have hh := h1 g (by rw [k1]; rfl)
    rw [h.block g hlt hh.1 fun e => hh.2 e.symm]
    exact k3
/-- The sheet while it is laid. -/
structure ShAt (B d : Nat) (w : World) (Y : Nat) (gv pv lov hiv v : Value) (l : List Fi) (rows : List (List Value)) : Prop where
  yb : B ≤ Y
  bw : B ≤ w.heap.size
  box : BoxAt w Y [gv, pv, v, lov, hiv]
  free : Free w Y
  row : RowF B d w v l rows
  ne : v.ownBlock ≠ some Y
theorem ShAt.lo {B d : Nat} {w : World} {Y : Nat} {gv pv lov hiv v : Value} {l : List Fi} {rows : List (List Value)} (h : ShAt B d w Y gv pv lov hiv v l rows) : ∀ g, v.ownBlock = some g → B ≤ g := fun g hg => (h.row.own.lt g hg).1
theorem ShAt.next {B d : Nat} {w w' : World} {Y : Nat} {gv pv lov hiv v : Value} {l : List Fi} {rows : List (List Value)} (h : ShAt B d w Y gv pv lov hiv v l rows) (hb : Below w.heap.size w w') : ShAt B d w' Y gv pv lov hiv v l rows :=
  ⟨h.yb, Nat.le_trans h.bw hb.size, h.box.next hb, h.free.next (cell_lt (h.box 0 _ rfl)) hb, h.row.next hb, h.ne⟩
end Go.Proofs.Ytghlmengcidmdaa.Tr
