/- Parts of SheetQ, ScopeQ, ScopeR, AnyN: walks and plain laws that later texts use. Conditions: as each statement says. -/
import Derived.Test.YtghlmengcidmdaaJa0
import Derived.Test.YtghlmengcidmdaaJa1
import Derived.Test.YtghlmengcidmdaaJa2
import Derived.Test.YtghlmengcidmdaaJa3
import Derived.Test.YtghlmengcidmdaaJa4
import Derived.Test.YtghlmengcidmdaaJa5
import Derived.Test.YtghlmengcidmdaaJa6
import Derived.Test.YtghlmengcidmdaaJa7
import Derived.Test.YtghlmengcidmdaaJa8
import Derived.Test.YtghlmengcidmdaaJa9
import Derived.Test.YtghlmengcidmdaaJa10
import Derived.Test.YtghlmengcidmdaaJa11
import Derived.Test.YtghlmengcidmdaaJa12
import Derived.Deep.QuietTactic
import Derived.BigQuiet
import Derived.Deep.DeepCutAuto
import Derived.Deep.CutBlock
import Derived.Deep.RegionHeld3
import Derived.IntWalk
import Derived.StillTailTactics
import Derived.Deep.RegionLaw
import Derived.WalkKit
import Derived.Test.YtghlmengcidmdaaRows
import Derived.WalkSpells
import Derived.Lib.Hide
import Derived.Below
import Derived.Laws.BitsAllLaws
import Derived.Outline
import Derived.Laws.StructEq
import Derived.Maps.Range
import Derived.Lib.SmallJoins
import Derived.Deep.Upon
import Derived.Maps.AppendAt
import Derived.Laws.OwnMore
import Derived.Deep.AppendLies
import Derived.Deep.RegionWith
import Derived.Laws.Cover3
import Derived.WalkSmall
import Derived.RegionTactic
import Derived.OrdersHeld
import Derived.OwnWalk
import Derived.OneCell
import Derived.Deep.Slices
import Derived.Deep.Fields
import Derived.SliceStrings
import Derived.ChangeSlices
section
/- The sheet as a whole: its items, its rows of beginnings and ends; a procedure's part of it. No program's code. Conditions: none. -/
namespace Go.Proofs.Ytghlmengcidmdaa.Tr
open Go.RowKit Go.Proofs.Ytghlmengcidmdaa.Lx Go.Proofs.Ytghlmengcidmdaa.Wd
theorem infoInt : (Try.prog.info? 3).map (fun i => (i.zero, i.size, i.bytes)) = some (some (.int .i64 0), 1, 8) := by kernel_rfl
/-- An owned row of numbers. -/
def RowN (B : Nat) (w : World) (v : Value) (l : List Int) : Prop := w.ownsRow B 3 1 v l.length (l.map (Value.int .i64))
theorem RowF.kp {B d Y : Nat} {w w' : World} {u u' v : Value} {l : List Fi} {rows : List (List Value)} (h : RowF B d w v l rows) (hk : Kp Y w u w' u') (hY : B ≤ Y) (hu : ∀ g, u.ownBlock = some g → B ≤ g) (hn : ∀ g, v.ownBlock = some g → g ≠ Y ∧ u.ownBlock ≠ some g) : RowF B d w' v l rows :=
  ⟨h.len, hk.rows h.own hn, h.wide, fun i h1 h2 => FiQ.mono (hk.low hY hu) (h.each i h1 h2)⟩
/-- The sheet with its rows: none shares a block with another. -/
structure SheetSt (B D : Nat) (w : World) (Y : Nat) (gv pv lov hiv v : Value) (lo hi : List Int) (l : List Fi) (rows : List (List Value)) : Prop where
  sh : ShAt B D w Y gv pv lov hiv v l rows
  lo : RowN B w lov lo
  hi : RowN B w hiv hi
  d1 : ∀ g, lov.ownBlock = some g → g ≠ Y ∧ v.ownBlock ≠ some g ∧ hiv.ownBlock ≠ some g
  d2 : ∀ g, hiv.ownBlock = some g → g ≠ Y ∧ v.ownBlock ≠ some g ∧ lov.ownBlock ≠ some g
theorem SheetSt.next {B D : Nat} {w w' : World} {Y : Nat} {gv pv lov hiv v : Value} {lo hi : List Int} {l : List Fi} {rows : List (List Value)} (h : SheetSt B D w Y gv pv lov hiv v lo hi l rows) (hb : Below w.heap.size w w') : SheetSt B D w' Y gv pv lov hiv v lo hi l rows :=
  ⟨h.sh.next hb, ownsBelow h.lo hb, ownsBelow h.hi hb, h.d1, h.d2⟩
theorem SheetSt.start {B D : Nat} {w : World} {Y : Nat} {gv pv : Value} (hY : B ≤ Y) (hB : B ≤ w.heap.size) (hb : BoxAt w Y [gv, pv, .slice none 0 0, .slice none 0 0, .slice none 0 0]) (hf : Free w Y) : SheetSt B D w Y gv pv (.slice none 0 0) (.slice none 0 0) (.slice none 0 0) [] [] [] [] :=
  ⟨⟨hY, hB, hb, hf, RowF.nil _ _ _, (fun h => nomatch h)⟩, World.ownsRow_nil _ _ _ _, World.ownsRow_nil _ _ _ _, (fun _ h => nomatch h), (fun _ h => nomatch h)⟩
/-- Statements laid behind. -/
theorem SheetSt.row {B D : Nat} {w w' : World} {Y : Nat} {gv pv lov hiv v v' : Value} {lo hi : List Int} {l l' : List Fi} {rows rows' : List (List Value)} (h : SheetSt B D w Y gv pv lov hiv v lo hi l rows) (hs : ShAt B D w' Y gv pv lov hiv v' l' rows') (hk : Kp Y w v w' v') : SheetSt B D w' Y gv pv lov hiv v' lo hi l' rows' := by
  refine ⟨hs, hk.rows h.lo fun g hg => ⟨(h.d1 g hg).1, (h.d1 g hg).2.1⟩, hk.rows h.hi fun g hg => ⟨(h.d2 g hg).1, (h.d2 g hg).2.1⟩, fun g hg => ⟨(h.d1 g hg).1, fun e => ?_, (h.d1 g hg).2.2⟩, fun g hg => ⟨(h.d2 g hg).1, fun e => ?_, (h.d2 g hg).2.2⟩⟩
  · rcases hk.own g e with h' | h'
    · exact (h.d1 g hg).2.1 h'
    · have := (h.lo.lt g hg).2; omega
  · rcases hk.own g e with h' | h'
    · exact (h.d2 g hg).2.1 h'
    · have := (h.hi.lt g hg).2; omega
theorem RowN.set {B Y j : Nat} {w : World} {v u : Value} {l : List Int} (h : RowN B w v l) (hn : v.ownBlock ≠ some Y) : RowN B (w.setCell ⟨Y, j, none⟩ u) v l := ownsRow_setCell_other h hn u
/-- A beginning more. -/
theorem SheetSt.more_lo {B D : Nat} {w w1 w' : World} {Y : Nat} {gv pv lov hiv v lov' : Value} {lo hi : List Int} {l : List Fi} {rows : List (List Value)} {n : Int} (h : SheetSt B D w Y gv pv lov hiv v lo hi l rows) (hb : Below w.heap.size w w1) (hg : w1.grownBy w' lov.ownBlock) (ho : ∀ g, lov'.ownBlock = some g → lov.ownBlock = some g ∨ w.heap.size ≤ g)
    (hown : w'.ownsRow B 3 1 lov' (lo.length + 1) (lo.map (Value.int .i64) ++ [.int .i64 n])) : SheetSt B D (w'.setCell ⟨Y, 3, none⟩ lov') Y gv pv lov' hiv v (lo ++ [n]) hi l rows := by
  have hgg : w.grownBy w' lov.ownBlock := (grown_of hb _).trans hg
  have hk : Kp Y w lov w' lov' := Kp.grown hgg ho
  have hY := h.sh.yb
  have hYl := cell_lt (h.sh.box 0 _ rfl)
  have hlo : ∀ g, lov.ownBlock = some g → B ≤ g := fun g hg => (h.lo.lt g hg).1
  have hlY : lov.ownBlock ≠ some Y := fun e => (h.d1 Y e).1 rfl
  have hlY' : lov'.ownBlock ≠ some Y := fun e => by rcases ho Y e with h' | h'; exact hlY h'; omega
  have hv : ∀ g, v.ownBlock = some g → g ≠ Y ∧ lov.ownBlock ≠ some g := fun g hg => ⟨fun e => h.sh.ne (by rw [hg, e]), fun e => (h.d1 g e).2.1 hg⟩
  have hbx : BoxAt w' Y [gv, pv, v, lov, hiv] := h.sh.box.grown hgg fun e => hlY e.symm
  have hfr : Free w' Y := fun j => (hgg.frozen_far ⟨Y, j, none⟩ hYl fun e => hlY e.symm).trans (h.sh.free j)
  have hsz := hgg.size
  refine ⟨⟨hY, by simp only [World.size_setCell]; exact Nat.le_trans h.sh.bw hsz, hbx.put (j := 3) (x := lov') (by simp), Free.set hfr, ?_, h.sh.ne⟩, ?_, ?_, fun g hg => ?_, fun g hg => ?_⟩
  · have hr := h.sh.row.kp hk hY hlo hv
    exact ⟨hr.len, ownsRow_setCell_other hr.own h.sh.ne _, hr.wide, fun i h1 h2 => FiQ.mono (only_set (fun e => by omega)) (hr.each i h1 h2)⟩
  · exact RowN.set (by unfold RowN; simpa using hown) hlY'
  · exact RowN.set (hk.rows h.hi fun g hg => ⟨(h.d2 g hg).1, (h.d2 g hg).2.2⟩) fun e => (h.d2 Y e).1 rfl
  · rcases ho g hg with h' | h'
    · exact h.d1 g h'
    · refine ⟨by omega, fun e => ?_, fun e => ?_⟩
      · have := (h.sh.row.own.lt g e).2; omega
      · have := (h.hi.lt g e).2; omega
  · refine ⟨(h.d2 g hg).1, (h.d2 g hg).2.1, fun e => ?_⟩
    rcases ho g e with h' | h'
    · exact (h.d2 g hg).2.2 h'
    · have := (h.hi.lt g hg).2; omega
/-- An end more. -/
theorem SheetSt.more_hi {B D : Nat} {w w1 w' : World} {Y : Nat} {gv pv lov hiv v hiv' : Value} {lo hi : List Int} {l : List Fi} {rows : List (List Value)} {n : Int} (h : SheetSt B D w Y gv pv lov hiv v lo hi l rows) (hb : Below w.heap.size w w1) (hg : w1.grownBy w' hiv.ownBlock) (ho : ∀ g, hiv'.ownBlock = some g → hiv.ownBlock = some g ∨ w.heap.size ≤ g)
    (hown : w'.ownsRow B 3 1 hiv' (hi.length + 1) (hi.map (Value.int .i64) ++ [.int .i64 n])) : SheetSt B D (w'.setCell ⟨Y, 4, none⟩ hiv') Y gv pv lov hiv' v lo (hi ++ [n]) l rows := by
  have hgg : w.grownBy w' hiv.ownBlock := (grown_of hb _).trans hg
  have hk : Kp Y w hiv w' hiv' := Kp.grown hgg ho
  have hY := h.sh.yb
  have hYl := cell_lt (h.sh.box 0 _ rfl)
  have hlo : ∀ g, hiv.ownBlock = some g → B ≤ g := fun g hg => (h.hi.lt g hg).1
  have hlY : hiv.ownBlock ≠ some Y := fun e => (h.d2 Y e).1 rfl
  have hlY' : hiv'.ownBlock ≠ some Y := fun e => by rcases ho Y e with h' | h'; exact hlY h'; omega
  have hv : ∀ g, v.ownBlock = some g → g ≠ Y ∧ hiv.ownBlock ≠ some g := fun g hg => ⟨fun e => h.sh.ne (by rw [hg, e]), fun e => (h.d2 g e).2.1 hg⟩
  have hbx : BoxAt w' Y [gv, pv, v, lov, hiv] := h.sh.box.grown hgg fun e => hlY e.symm
  have hfr : Free w' Y := fun j => (hgg.frozen_far ⟨Y, j, none⟩ hYl fun e => hlY e.symm).trans (h.sh.free j)
  have hsz := hgg.size
  refine ⟨⟨hY, by simp only [World.size_setCell]; exact Nat.le_trans h.sh.bw hsz, hbx.put (j := 4) (x := hiv') (by simp), Free.set hfr, ?_, h.sh.ne⟩, ?_, ?_, fun g hg => ?_, fun g hg => ?_⟩
  · have hr := h.sh.row.kp hk hY hlo hv
    exact ⟨hr.len, ownsRow_setCell_other hr.own h.sh.ne _, hr.wide, fun i h1 h2 => FiQ.mono (only_set (fun e => by omega)) (hr.each i h1 h2)⟩
  · exact RowN.set (hk.rows h.lo fun g hg => ⟨(h.d1 g hg).1, (h.d1 g hg).2.2⟩) fun e => (h.d1 Y e).1 rfl
  · exact RowN.set (by unfold RowN; simpa using hown) hlY'
  · refine ⟨(h.d1 g hg).1, (h.d1 g hg).2.1, fun e => ?_⟩
    rcases ho g e with h' | h'
    · exact (h.d1 g hg).2.2 h'
    · have := (h.lo.lt g hg).2; omega
  · rcases ho g hg with h' | h'
    · exact h.d2 g h'
    · refine ⟨by omega, fun e => ?_, fun e => ?_⟩
      · have := (h.sh.row.own.lt g e).2; omega
      · have := (h.lo.lt g e).2; omega
mutual
theorem shS_sts : ∀ (s : St) (a : Ar5) (last : Bool) (out : List Fi) (deep inn : Int) (els : Bool), ∃ X, shS s a last out = out ++ X ∧ X.map Fi.s = (preS deep inn els s).map It.s
  | .mk i k ls nm pr x h ar th el, a, last, out, deep, inn, els => by
    rw [shS]
    obtain ⟨X1, h1, k1⟩ := shL_sts th (inside k (out.length + 1) (if last then a.next else out.length + 1 + (1 + cntL th + cntL el : Nat)) a) (out ++ [itemOf (.mk i k ls nm pr x h ar th el) a (if last then a.next else out.length + 1 + (1 + cntL th + cntL el : Nat))]) (deep + 1) i false
    rw [h1]
    obtain ⟨X2, h2, k2⟩ := shL_sts el (inside k (out.length + 1) (if last then a.next else out.length + 1 + (1 + cntL th + cntL el : Nat)) a) ((out ++ [itemOf (.mk i k ls nm pr x h ar th el) a (if last then a.next else out.length + 1 + (1 + cntL th + cntL el : Nat))]) ++ X1) (deep + 1) i true
    rw [h2]
    refine ⟨[itemOf (.mk i k ls nm pr x h ar th el) a (if last then a.next else out.length + 1 + (1 + cntL th + cntL el : Nat))] ++ X1 ++ X2, by simp only [List.append_assoc], ?_⟩
    rw [preS]
    simp only [List.map_append, List.map_cons, List.map_nil, k1, k2]
    rfl
theorem shL_sts : ∀ (l : List St) (a : Ar5) (out : List Fi) (deep inn : Int) (els : Bool), ∃ X, shL l a out = out ++ X ∧ X.map Fi.s = (preL deep inn els l).map It.s
  | [], a, out, deep, inn, els => ⟨[], by rw [shL, List.append_nil], by rw [preL]; rfl⟩
  | s :: r, a, out, deep, inn, els => by
    rw [shL]
    obtain ⟨X1, h1, k1⟩ := shS_sts s a r.isEmpty out deep inn els
    rw [h1]
    obtain ⟨X2, h2, k2⟩ := shL_sts r a (out ++ X1) deep inn els
    rw [h2]
    refine ⟨X1 ++ X2, by rw [List.append_assoc], ?_⟩
    rw [preL, List.map_append, List.map_append, k1, k2]
end
theorem sheetPs_pref : ∀ (l : List Pc) (i : Nat) (out : List Fi), ∃ X, sheetPs l i out = out ++ X := by
  intro l
  induction l with
  | nil => intro i out; exact ⟨[], by simp [sheetPs]⟩
  | cons f r ih =>
    intro i out
    rw [sheetPs]
    obtain ⟨X1, h1, -⟩ := shL_sts f.body ⟨i, 0, -1, 0⟩ out 1 0 false
    rw [h1]
    obtain ⟨X2, h2⟩ := ih (i + 1) (out ++ X1)
    exact ⟨X1 ++ X2, by rw [h2, List.append_assoc]⟩
/-- A procedure's part of the sheet. -/
def partOf (p : Pr) (i : Nat) : List Fi := ((sheetOf p).drop (cntP (p.procs.take i))).take (cntP (p.procs.take (i + 1)) - cntP (p.procs.take i))
theorem cntP_take {l : List Pc} {i : Nat} (h : i < l.length) : cntP (l.take (i + 1)) = cntP (l.take i) + cntL l[i].body := by
  rw [List.take_succ_eq_append_getElem h]
  unfold cntP
  rw [List.map_append, List.sum_append]
  simp
theorem part_sts (p : Pr) {i : Nat} (h : i < p.procs.length) : (partOf p i).map Fi.s = stsOf p.procs[i] := by
  have h1 : sheetOf p = sheetPs (p.procs.drop (i + 1)) (i + 1) (sheetPs (p.procs.take (i + 1)) 0 []) := by
    unfold sheetOf
    conv => lhs; rw [← List.take_append_drop (i + 1) p.procs]
    rw [sheetPs_append]
    congr 1
    rw [List.length_take]; omega
  obtain ⟨X, hX⟩ := sheetPs_pref (p.procs.drop (i + 1)) (i + 1) (sheetPs (p.procs.take (i + 1)) 0 [])
  have h2 := sheet_take p h
  obtain ⟨Z, hZ, hZs⟩ := shL_sts p.procs[i].body ⟨i, 0, -1, 0⟩ (sheetPs (p.procs.take i) 0 []) 1 0 false
  have h3 : (sheetPs (p.procs.take i) 0 []).length = cntP (p.procs.take i) := by rw [sheetPs_len]; simp
  have h4 := cntP_take h
  have h5 : Z.length = cntL p.procs[i].body := by
    have e : (Z.map Fi.s).length = ((preL 1 0 false p.procs[i].body).map It.s).length := by rw [hZs]
    rw [List.length_map, List.length_map, preL_len] at e
    exact e
  unfold partOf stsOf itsOf
  rw [h1, hX, h2, hZ, h4, ← h3, List.append_assoc, List.drop_left, ← hZs]
  have e : (sheetPs (p.procs.take i) 0 []).length + cntL p.procs[i].body - (sheetPs (p.procs.take i) 0 []).length = Z.length := by omega
  rw [e, List.take_left]
end Go.Proofs.Ytghlmengcidmdaa.Tr
end
section
/- How much a program says: bounds on what is gathered of it. No program's code. Conditions: none. -/
namespace Go.Proofs.Ytghlmengcidmdaa.Tr
open Go.RowKit Go.Proofs.Ytghlmengcidmdaa.Lx Go.Proofs.Ytghlmengcidmdaa.Wd
theorem ownN_len (x : Ex) (l : List ByteArray) : (ownN x l).length ≤ l.length + 1 := by
  unfold ownN addN
  split
  · split <;> simp
  · omega
theorem fold_wt (m : Nat) (hm : ∀ x l, (namesE m x l).length ≤ l.length + wt x) : ∀ (ks : List Ex) (l : List ByteArray), (ks.foldl (fun l k => namesE m k l) l).length ≤ l.length + wts ks := by
  intro ks
  induction ks with
  | nil => intro l; simp
  | cons k r ih =>
    intro l
    rw [List.foldl_cons]
    have h1 := hm k l
    have h2 := ih (namesE m k l)
    simp only [wts]
    omega
theorem names_wt : ∀ (m : Nat) (x : Ex) (l : List ByteArray), (namesE m x l).length ≤ l.length + wt x := by
  intro m
  induction m with
  | zero => intro x l; simp [namesE]
  | succ m ih =>
    intro x l
    rw [namesE_succ]
    have h1 := fold_wt m ih x.ks (ownN x l)
    have h2 := ownN_len x l
    rw [wt_eq]
    omega
theorem namesOf_wt (x : Ex) : (namesOf x).length ≤ wt x := by
  unfold namesOf
  split
  · have := names_wt 20 x []
    simpa using this
  · simp
theorem saidA_wt (a : Ar) : (saidA a).length ≤ wtAr a := by
  unfold saidA wtAr
  have := namesOf_wt a.x
  rw [List.length_append]
  split <;> simp <;> omega
theorem saidAs_wt : ∀ l : List Ar, ((l.map saidA).flatten).length ≤ (l.map wtAr).sum := by
  intro l
  induction l with
  | nil => simp
  | cons a r ih =>
    have := saidA_wt a
    rw [List.map_cons, List.flatten_cons, List.length_append, List.map_cons, List.sum_cons]
    omega
theorem saidS_wt (s : St) : (saidS s).length ≤ wtS s := by
  unfold saidS saidN
  have h1 := namesOf_wt s.x
  have h2 := saidAs_wt s.args
  rw [List.length_append, List.length_append, wtS_eq]
  split
  · rw [List.length_singleton]; omega
  · rw [List.length_nil]; omega
mutual
theorem preS_wt : ∀ (s : St) (deep inn : Int) (els : Bool) (t : It), t ∈ preS deep inn els s → wtS t.s ≤ wtS s
  | .mk i k ls nm pr x h ar th el, deep, inn, els, t => fun ht => by
    rw [preS] at ht
    rcases List.mem_cons.1 ht with rfl | ht
    · exact Nat.le_refl _
    · rw [wtS_eq (.mk i k ls nm pr x h ar th el)]
      simp only [St.thn, St.els]
      rcases List.mem_append.1 ht with ht | ht
      · have := preL_wt th _ _ _ t ht; omega
      · have := preL_wt el _ _ _ t ht; omega
theorem preL_wt : ∀ (l : List St) (deep inn : Int) (els : Bool) (t : It), t ∈ preL deep inn els l → wtS t.s ≤ wtL l
  | [], deep, inn, els, t => fun ht => by rw [preL] at ht; cases ht
  | s :: r, deep, inn, els, t => fun ht => by
    rw [preL] at ht
    rw [wtL_cons]
    rcases List.mem_append.1 ht with ht | ht
    · have := preS_wt s _ _ _ t ht; omega
    · have := preL_wt r _ _ _ t ht; omega
end
theorem sts_wt {f : Pc} {s : St} (h : s ∈ stsOf f) : wtS s ≤ wtL f.body := by
  unfold stsOf itsOf at h
  obtain ⟨t, ht, rfl⟩ := List.mem_map.1 h
  exact preL_wt _ _ _ _ t ht
def labLs (l : List St) : List ByteArray := (l.map St.labels).flatten
/-- A procedure's labels. -/
def labsOf (f : Pc) : List ByteArray := labLs (stsOf f) ++ f.fin
theorem labLs_append (l m : List St) : labLs (l ++ m) = labLs l ++ labLs m := by unfold labLs; rw [List.map_append, List.flatten_append]
theorem labLs_cons (s : St) (l : List St) : labLs (s :: l) = s.labels ++ labLs l := by unfold labLs; rw [List.map_cons, List.flatten_cons]
mutual
theorem preS_labs : ∀ (s : St) (deep inn : Int) (els : Bool), (labLs ((preS deep inn els s).map It.s)).length ≤ wtS s
  | .mk i k ls nm pr x h ar th el, deep, inn, els => by
    rw [preS, List.map_cons, List.map_append, labLs_cons, labLs_append, List.length_append, List.length_append]
    have h1 := preL_labs th (deep + 1) i false
    have h2 := preL_labs el (deep + 1) i true
    have h3 := wtTs_len ls
    rw [wtS_eq (.mk i k ls nm pr x h ar th el)]
    simp only [St.thn, St.els, St.labels]
    omega
theorem preL_labs : ∀ (l : List St) (deep inn : Int) (els : Bool), (labLs ((preL deep inn els l).map It.s)).length ≤ wtL l
  | [], deep, inn, els => by rw [preL]; simp [labLs]
  | s :: r, deep, inn, els => by
    rw [preL, List.map_append, labLs_append, List.length_append, wtL_cons]
    have h1 := preS_labs s deep inn els
    have h2 := preL_labs r deep inn els
    omega
end
mutual
theorem wtS_cnt : ∀ s : St, cntS s ≤ wtS s
  | .mk i k ls nm pr x h ar th el => by
    rw [wtS_eq, cntS]
    simp only [St.thn, St.els]
    have h1 := wtL_cnt th
    have h2 := wtL_cnt el
    omega
theorem wtL_cnt : ∀ l : List St, cntL l ≤ wtL l
  | [] => by simp [cntL]
  | s :: r => by
    rw [cntL_cons, wtL_cons]
    have h1 := wtS_cnt s
    have h2 := wtL_cnt r
    omega
end
/-- There is room for all that is gathered. -/
structure RoomP (p : Pr) : Prop where
  cnt : cntP p.procs ≤ 1000000
  procs : p.procs.length ≤ 1000000
  glob : p.globals.length ≤ 300000
  own : ∀ f ∈ p.procs, f.params.length + f.vars.length ≤ 300000
  said : ∀ f ∈ p.procs, ∀ s ∈ stsOf f, (saidS s).length ≤ 300000
  labs : ∀ f ∈ p.procs, (labsOf f).length ≤ 300000
theorem wtPcs_len : ∀ l : List Pc, l.length ≤ (l.map wtPc).sum := by
  intro l
  induction l with
  | nil => simp
  | cons f r ih => rw [List.map_cons, List.sum_cons, List.length_cons]; unfold wtPc; unfold wtPc at ih; omega
theorem wtPas_len (l : List Pa) : l.length ≤ (l.map fun x => 1 + x.nm.size).sum := by
  induction l with
  | nil => simp
  | cons f r ih => rw [List.map_cons, List.sum_cons, List.length_cons]; omega
theorem wtPcs_cnt : ∀ l : List Pc, cntP l ≤ (l.map wtPc).sum := by
  intro l
  unfold cntP
  induction l with
  | nil => simp
  | cons f r ih =>
    rw [List.map_cons, List.sum_cons, List.map_cons, List.sum_cons]
    have := wtL_cnt f.body
    have h2 : wtL f.body ≤ wtPc f := by unfold wtPc; omega
    omega
theorem RoomP.of {p : Pr} (h : wtPr p ≤ 300000) : RoomP p := by
  unfold wtPr at h
  have h1 := wtTs_len p.globals
  have h2 := wtPcs_len p.procs
  have h3 := wtPcs_cnt p.procs
  have hm : ∀ f ∈ p.procs, wtPc f ≤ 300000 := fun f hf => by have := sum_mem wtPc p.procs f hf; omega
  refine ⟨by omega, by omega, by omega, fun f hf => ?_, fun f hf s hs => ?_, fun f hf => ?_⟩
  · have := hm f hf
    unfold wtPc at this
    have h4 := wtPas_len f.params
    have h5 := wtTs_len f.vars
    omega
  · have := hm f hf
    unfold wtPc at this
    have h4 := sts_wt hs
    have h5 := saidS_wt s
    omega
  · have := hm f hf
    unfold wtPc at this
    unfold labsOf stsOf itsOf
    have h4 := preL_labs f.body 1 0 false
    have h5 := wtTs_len f.fin
    rw [List.length_append]
    omega
end Go.Proofs.Ytghlmengcidmdaa.Tr
end
section
/- The first fault of a program's names, told step by step. No program's code. Conditions: none. -/
namespace Go.Proofs.Ytghlmengcidmdaa.Tr
open Go.RowKit Go.Proofs.Ytghlmengcidmdaa.Lx Go.Proofs.Ytghlmengcidmdaa.Wd
theorem scope_may {p : Pr} (h : mayP p = false) : scopeP p = (1, 0) := by unfold scopeP; rw [h]; rfl
theorem scope_head {p : Pr} (h : mayP p = true) (h2 : headFault p = true) : scopeP p = (5, 0) := by unfold scopeP; rw [h, h2]; rfl
theorem scope_at {p : Pr} (h : mayP p = true) (h2 : headFault p = false) {k : Nat} (hk : k < p.procs.length) {i : Int} (h0 : ∀ j (hj : j < p.procs.length), j < k → pcFault p.globals (procNs p) p.procs[j] = none) (h1 : pcFault p.globals (procNs p) p.procs[k] = some i) : scopeP p = (5, i) := by
  unfold scopeP
  rw [h, h2, some_at hk (f := pcFault p.globals (procNs p)) h0 h1]
  rfl
theorem scope_ok {p : Pr} (h : mayP p = true) (h2 : headFault p = false) (h0 : ∀ j (hj : j < p.procs.length), pcFault p.globals (procNs p) p.procs[j] = none) : scopeP p = (0, 0) := by
  unfold scopeP
  rw [h, h2, some_no (f := pcFault p.globals (procNs p)) h0]
  rfl
theorem head_glob {p : Pr} (h : twiceB p.globals = true) : headFault p = true := by unfold headFault; rw [h]; rfl
theorem head_procs {p : Pr} (h : twiceB (procNs p) = true) : headFault p = true := by unfold headFault; rw [h]; simp
theorem head_none {p : Pr} (h : pcOf p.procs sMain = none) : headFault p = true := by unfold headFault; rw [h]; simp
theorem head_some {p : Pr} {f : Pc} (h1 : twiceB p.globals = false) (h2 : twiceB (procNs p) = false) (h : pcOf p.procs sMain = some f) : headFault p = decide ((0 : Int) < (f.params.length : Int)) := by
  unfold headFault
  rw [h, h1, h2]
  simp
/-- Index of the names and the procedure of a name. -/
theorem pcs_none {l : List Pc} {s : ByteArray} (h : at_ s (l.map Pc.nm) = none) : pcOf l s = none := by
  unfold at_ at h
  unfold pcOf
  rw [List.findIdx?_eq_none_iff] at h
  rw [List.find?_eq_none]
  intro f hf he
  have := h f.nm (List.mem_map.2 ⟨f, hf, rfl⟩)
  rw [same_comm] at this
  rw [this] at he
  exact Bool.false_ne_true he
theorem pcs_some {l : List Pc} {s : ByteArray} {i : Nat} (h : at_ s (l.map Pc.nm) = some i) : ∃ hi : i < l.length, pcOf l s = some l[i] := by
  unfold at_ at h
  rw [List.findIdx?_eq_some_iff_getElem] at h
  obtain ⟨hi, h1, h2⟩ := h
  have hi' : i < l.length := by simpa using hi
  refine ⟨hi', ?_⟩
  unfold pcOf
  refine fst_at hi' (fun j hj hji => ?_) ?_
  · have := h2 j hji
    rw [List.getElem_map] at this
    rw [same_comm]
    simpa using this
  · rw [List.getElem_map] at h1
    rw [same_comm]
    exact h1
theorem atI_none {s : ByteArray} {l : List ByteArray} (h : at_ s l = none) : atI s l = -1 := by unfold atI; rw [h]
theorem atI_some {s : ByteArray} {l : List ByteArray} {i : Nat} (h : at_ s l = some i) : atI s l = i := by unfold atI; rw [h]
theorem pc_dup {g procs : List ByteArray} {f : Pc} (h : twiceB (ownNs f) = true) : pcFault g procs f = some 0 := by unfold pcFault; rw [h]; rfl
theorem pc_in {g procs : List ByteArray} {f : Pc} (h : ((ownNs f).any fun n => inB n g) = true) : pcFault g procs f = some 0 := by unfold pcFault; rw [h, Bool.or_true]; rfl
theorem pc_st {g procs : List ByteArray} {f : Pc} (h1 : twiceB (ownNs f) = false) (h2 : ((ownNs f).any fun n => inB n g) = false) {k : Nat} (hk : k < (stsOf f).length) (h0 : ∀ j (hj : j < (stsOf f).length), j < k → knownS g f procs (stsOf f)[j] = true) (h : knownS g f procs (stsOf f)[k] = false) : pcFault g procs f = some (stsOf f)[k].id := by
  unfold pcFault
  rw [h1, h2, Bool.or_false, if_neg Bool.false_ne_true, fst_at hk (fun j hj hjk => by rw [h0 j hj hjk]; rfl) (by rw [h]; rfl)]
  rfl
theorem pc_ok {g procs : List ByteArray} {f : Pc} (h1 : twiceB (ownNs f) = false) (h2 : ((ownNs f).any fun n => inB n g) = false) (h0 : ∀ j (hj : j < (stsOf f).length), knownS g f procs (stsOf f)[j] = true) : pcFault g procs f = none := by
  unfold pcFault
  rw [h1, h2, Bool.or_false, if_neg Bool.false_ne_true, fst_no (fun j hj => by rw [h0 j hj]; rfl)]
  rfl
/-- One row of all names: it has a name twice just if the own ones have, or one is a global one. -/
theorem twice_all {g l : List ByteArray} (hg : twiceB g = false) : twiceB (g ++ l) = (twiceB l || l.any fun n => inB n g) := by
  have hn : g.Nodup := by
    unfold twiceB at hg
    simpa using hg
  rw [Bool.eq_iff_iff, Bool.or_eq_true, List.any_eq_true]
  unfold twiceB
  simp only [Bool.not_eq_true', decide_eq_false_iff_not]
  rw [List.nodup_append]
  constructor
  · intro h
    by_cases hl : l.Nodup
    · refine .inr ?_
      refine Classical.byContradiction fun hno => h ⟨hn, hl, fun a ha b hb hab => hno ⟨b, hb, ?_⟩⟩
      rw [← hab]
      exact inB_iff.2 ha
    · exact .inl hl
  · rintro (h | ⟨x, hx, hi⟩) ⟨-, h2, h3⟩
    · exact h h2
    · exact h3 x (inB_iff.1 hi) x hx rfl
/-- The answer of a check: a code, and where. -/
def FaultIs (r : Int × Int) (w : World) (e : Ending) (w' : World) : Prop := e = .returned (.agg #[.int .i64 r.1, .int .i64 r.2]) ∧ Below w.heap.size w w'
theorem below2 {w w' : World} {R : Nat} {x0 x1 : Value} (h : Below w.heap.size w w') (hR : w.heap.size ≤ R) : Below w.heap.size w ((w'.setCell ⟨R, 0, none⟩ x0).setCell ⟨R, 1, none⟩ x1) :=
  (h.setCell (p := ⟨R, 0, none⟩) hR _).setCell (p := ⟨R, 1, none⟩) hR _
theorem box2 {w : World} {R : Nat} {a0 a1 x0 x1 : Value} (h : BoxAt w R [a0, a1]) : BoxAt ((w.setCell ⟨R, 0, none⟩ x0).setCell ⟨R, 1, none⟩ x1) R [x0, x1] :=
  (h.put (j := 0) (x := x0) (by simp)).put (j := 1) (x := x1) (by simp)
theorem procs_at {C : Cs} {d : Nat} {pa : Option Addr} {n pc : Nat} {l : List Pc} (h : SlAt 5 (PcAt C d) (.slice pa n pc) l) {k : Nat} (hk : k < l.length) : ∃ g off, pa = some ⟨g, off, none⟩ ∧ PcAt C d g (off + k * 5) l[k] := by
  have hne : l ≠ [] := by intro h; rw [h] at hk; simp at hk
  obtain ⟨g, off, cap', hv, _, hcells⟩ := SlAt.cells h hne
  simp only [Value.slice.injEq] at hv
  exact ⟨g, off, hv.1, hcells k hk⟩
theorem its_at {C : Cs} {d : Nat} {pa : Option Addr} {n pc : Nat} {l : List Fi} (h : SlAt 17 (FiAt C d) (.slice pa n pc) l) {k : Nat} (hk : k < l.length) : ∃ g off, pa = some ⟨g, off, none⟩ ∧ FiAt C d g (off + k * 17) l[k] := by
  have hne : l ≠ [] := by intro h; rw [h] at hk; simp at hk
  obtain ⟨g, off, cap', hv, _, hcells⟩ := SlAt.cells h hne
  simp only [Value.slice.injEq] at hv
  exact ⟨g, off, hv.1, hcells k hk⟩
theorem its6_at {C : Cs} {d : Nat} {pa : Option Addr} {n pc : Nat} {l : List It} (h : SlAt 16 (ItAt C d) (.slice pa n pc) l) {k : Nat} (hk : k < l.length) : ∃ g off, pa = some ⟨g, off, none⟩ ∧ ItAt C d g (off + k * 16) l[k] := by
  have hne : l ≠ [] := by intro h; rw [h] at hk; simp at hk
  obtain ⟨g, off, cap', hv, _, hcells⟩ := SlAt.cells h hne
  simp only [Value.slice.injEq] at hv
  exact ⟨g, off, hv.1, hcells k hk⟩
/-- A statement's cells and what hangs on them. -/
theorem st_open {C : Cs} {d g o : Nat} {s : St} (h : StAt C d (StC C d) g o s) : ∃ (la ka aa ta ea : Option Addr) (lc kc ac tc ec : Nat),
    (∀ j u, ([.int .i64 s.id, .int .i64 s.kind, .slice la s.labels.length lc, .string s.nm, .string s.proc, .int .i64 s.x.op, .int .i64 s.x.n, .string s.x.nm, .slice ka s.x.ks.length kc, .bool s.has, .slice aa s.args.length ac, .slice ta s.thn.length tc, .slice ea s.els.length ec] : List Value)[j]? = some u → C g (o + j) u)
    ∧ (∀ w, Cs.le C (cw w) → Hang d w s (.slice la s.labels.length lc) (.slice ka s.x.ks.length kc) (.slice aa s.args.length ac) (.slice ta s.thn.length tc) (.slice ea s.els.length ec)) ∧ OkE s.x ∧ InI s.id ∧ InI s.kind ∧ s.nm.size ≤ 9223372036854775807 ∧ s.proc.size ≤ 9223372036854775807 := by
  obtain ⟨lv, av, tv, ev, p0, p1, p2, p3, p4, ⟨kv, p5, p6, p7, p8, hok, hk1⟩, p9, p10, p11, p12, j1, j2, j3, j4, hl1, ha1, ht1, he1⟩ := h
  obtain ⟨la, lc, rfl, -, -⟩ := hl1.form
  obtain ⟨aa, ac, rfl, -, -⟩ := ha1.form
  obtain ⟨ta, tc, rfl, -, -⟩ := ht1.form
  obtain ⟨ea, ec, rfl, -, -⟩ := he1.form
  obtain ⟨ka, kc, rfl, -, -⟩ := hk1.form
  refine ⟨la, ka, aa, ta, ea, lc, kc, ac, tc, ec, fun j u hu => ?_, fun w hle => ⟨StrC.mono hle hl1, ExC.mono hle hk1, SlAt.imp ha1 (fun _ _ _ _ => ArAt.mono hle), StC.mono hle ht1, StC.mono hle he1⟩, hok, j1, j2, j3, j4⟩
  match j, hu with
  | 0, hu => cases hu; exact p0
  | 1, hu => cases hu; exact p1
  | 2, hu => cases hu; exact p2
  | 3, hu => cases hu; exact p3
  | 4, hu => cases hu; exact p4
  | 5, hu => cases hu; exact p5
  | 6, hu => cases hu; exact p6
  | 7, hu => cases hu; exact p7
  | 8, hu => cases hu; exact p8
  | 9, hu => cases hu; exact p9
  | 10, hu => cases hu; exact p10
  | 11, hu => cases hu; exact p11
  | 12, hu => cases hu; exact p12
end Go.Proofs.Ytghlmengcidmdaa.Tr
end
section
/- A region that draws its order, where what is known of the worlds holds behind each operation: AnyZ's law with no operation left out. Conditions: as there. -/
namespace Go.Proofs.Ytghlmengcidmdaa.Tr
open Go
section
variable {P : Program} {ops : Array Oper} {Q : Exit → Act → World → Prop} {md : Region.Mode} {S : World → Prop} {L : Nat}
theorem wpAnyN_first {i : Nat} {oi : Oper} {v : Value} (hi : ops[i]? = some oi) (hsel : ∀ (j : Nat) (o : Oper) cs b, ops[j]? = some o → o.op ≠ .select cs b)
    (hQ : ∀ c a w, Q (.panic c) (a.put oi.dst v) w → Q (.panic c) a w) (hL : ops[L]? = none) :
    ∀ (fuel : Nat) (listed : Array Bool) (a : Act) (w : World),
      (∀ j oj, ops[j]? = some oj → j ≠ i → listed.getD j true = false → (∀ e ∈ oj.after, Region.binds md e = true → e.on ≠ i) → oi.apart ops oj = true) →
      i ∈ Region.ready md ops listed → YieldsIf P ops S oi v a → S w →
      wpAnyZ P md ops Q S L fuel (listed.setIfInBounds i true) (a.put oi.dst v) w → wpAnyZ P md ops Q S L (fuel + 1) listed a w := by
  intro fuel
  induction fuel with
  | zero =>
    intro listed a w _ hr hy hS H
    refine ⟨fun h => (by rw [h] at hr; cases hr), fun j hj => ?_⟩
    by_cases hji : j = i
    · subst hji; exact hy.wpOp hi hS ⟨fun _ => hS, H⟩
    · have := ready_mono hj hji
      rw [H.1] at this
      cases this
  | succ fuel ih =>
    intro listed a w hfree hr hy hS H
    refine ⟨fun h => (by rw [h] at hr; cases hr), fun j hj => ?_⟩
    by_cases hji : j = i
    · subst hji; exact hy.wpOp hi hS ⟨fun _ => hS, H⟩
    · have h1 := H.2 j (ready_mono hj hji)
      obtain ⟨hjun, oj, hoj, hall⟩ := mem_ready.1 hj
      have hnot : ∀ e ∈ oj.after, Region.binds md e = true → e.on ≠ i := fun e he hb heq => by
        have h1 := hall e he hb
        have h0 := (mem_ready.1 hr).1
        rw [heq] at h1
        rcases Nat.lt_or_ge i listed.size with h' | h'
        · simp [h'] at h0 h1; rw [h0] at h1; cases h1
        · simp [Array.getElem?_eq_none h'] at h1
      have hjL : j ≠ L := fun he => by
        subst he
        rw [hL] at hoj
        cases hoj
      have h2 := wpOp_putIf hoj (hfree j oj hoj hji hjun hnot) (fun cs b => hsel i oi cs b hi) (fun cs b => hsel j oj cs b hoj) hQ hy h1
      have hfree' : ∀ k ok, ops[k]? = some ok → k ≠ i → (listed.setIfInBounds j true).getD k true = false →
          (∀ e ∈ ok.after, Region.binds md e = true → e.on ≠ i) → oi.apart ops ok = true := fun k ok hk hki hun hno => by
        refine hfree k ok hk hki ?_ hno
        by_cases hjk : j = k
        · subst hjk; exact hjun
        · rw [getD_set_ne true hjk] at hun; exact hun
      refine wpOp_mono (fun a' w' h3 => ⟨fun _ => h3.2.1 hjL, ih (listed.setIfInBounds j true) a' w' hfree' (ready_mono hr (Ne.symm hji)) h3.1 (h3.2.1 hjL) ?_⟩) h2
      rw [Array.setIfInBounds_comm _ _ hji]
      exact h3.2.2
theorem wpAnyN_take {i : Nat} {oi : Oper} {v : Value} {fuel : Nat} {listed : Array Bool} {a : Act} {w : World} (hi : ops[i]? = some oi)
    (hs : Region.noSelect ops = true) (hf : Region.free md ops listed i = true) (hr : (Region.ready md ops listed).contains i = true) (hL : ops[L]? = none)
    (hQ : ∀ c a w, Q (.panic c) (a.put oi.dst v) w → Q (.panic c) a w) (hy : YieldsIf P ops S oi v a) (hS : S w)
    (h : wpAnyZ P md ops Q S L fuel (listed.setIfInBounds i true) (a.put oi.dst v) w) : wpAnyZ P md ops Q S L (fuel + 1) listed a w :=
  wpAnyN_first hi (Region.noSelect_spec hs) hQ hL fuel listed a w (Region.free_spec hi hf) (by simpa using hr) hy hS h
end
end Go.Proofs.Ytghlmengcidmdaa.Tr
end
