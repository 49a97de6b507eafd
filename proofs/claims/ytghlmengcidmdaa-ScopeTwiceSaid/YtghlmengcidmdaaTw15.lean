/- Parts of SheetQ, ScopeQ, ScopeR, VarsW, OneP, TwiceP: walks and plain laws that later texts use. Conditions: as each statement says. -/
import Derived.Test.YtghlmengcidmdaaTw0
import Derived.Test.YtghlmengcidmdaaTw1
import Derived.Test.YtghlmengcidmdaaTw2
import Derived.Test.YtghlmengcidmdaaTw3
import Derived.Test.YtghlmengcidmdaaTw4
import Derived.Test.YtghlmengcidmdaaTw5
import Derived.Test.YtghlmengcidmdaaTw6
import Derived.Test.YtghlmengcidmdaaTw7
import Derived.Test.YtghlmengcidmdaaTw8
import Derived.Test.YtghlmengcidmdaaTw9
import Derived.Test.YtghlmengcidmdaaTw10
import Derived.Test.YtghlmengcidmdaaTw11
import Derived.Test.YtghlmengcidmdaaTw12
import Derived.Test.YtghlmengcidmdaaTw13
import Derived.Test.YtghlmengcidmdaaTw14
import Derived.Laws.StructEq
import Derived.Deep.RegionHeld3
import Derived.Deep.QuietTactic
import Derived.BigQuiet
import Derived.Deep.Slices
import Derived.Deep.Fields
import Derived.Lib.SmallJoins
import Derived.SliceStrings
import Derived.ChangeSlices
import Derived.IntWalk
import Derived.Deep.RegionLaw
import Derived.Deep.DeepCutAuto
import Derived.Deep.CutBlock
import Derived.WalkKit
import Derived.Test.YtghlmengcidmdaaRows
import Derived.WalkSpells
import Derived.Lib.Hide
import Derived.Below
import Derived.Laws.BitsAllLaws
import Derived.OwnWalk
import Derived.OneCell
import Derived.Deep.AppendLies
import Derived.Deep.RegionWith
import Derived.Laws.Cover3
import Derived.StillTailTactics
import Derived.RegionTactic
import Derived.Maps.Range
import Derived.Outline
import Derived.Deep.Upon
import Derived.Maps.AppendAt
import Derived.Laws.OwnMore
import Derived.OrdersHeld
import Derived.WalkSmall
section
/- The sheet as a whole: its items, its rows of beginnings and ends; a procedure's part of it. No program's code. Conditions: none. -/
namespace Go.Proofs.Ytghlmengcidmdaa.Tr
open Go.RowKit Go.Proofs.Ytghlmengcidmdaa.Lx Go.Proofs.Ytghlmengcidmdaa.Wd
theorem infoInt : (Try.prog.info? 3).map (fun i => (i.zero, i.size, i.bytes)) = some (some (.int .i64 0), 1, 8) := by kernel_rfl
/-- An owned row of numbers. -/
def RowN (B : Nat) (w : World) (v : Value) (l : List Int) : Prop := w.ownsRow B 3 1 v l.length (l.map (Value.int .i64))
theorem RowF.kp {B d Y : Nat} {w w' : World} {u u' v : Value} {l : List Fi} {rows : List (List Value)} (h : RowF B d w v l rows) (hk : Kp Y w u w' u') (hY : B ≤ Y) (hu : ∀ g, u.ownBlock = some g → B ≤ g) (hn : ∀ g, v.ownBlock = some g → g ≠ Y ∧ u.ownBlock ≠ some g) : RowF B d w' v l rows :=
  ⟨h.len, hk.rows h.own hn, h.wide, fun i h1 h2 => FiQ.mono (hk.low hY hu) (h.each i h1 h2)⟩
/-- The sheet with its rows: none shares a block with another. -/
structure SheetSt (B D : Nat) (w : World) (Y : Nat) (gv pv lov hiv v : Value) (lo hi : List Int) (l : List Fi) (rows : List (List Value)) : Prop where
  sh : ShAt B D w Y gv pv lov hiv v l rows
  lo : RowN B w lov lo
  hi : RowN B w hiv hi
  d1 : ∀ g, lov.ownBlock = some g → g ≠ Y ∧ v.ownBlock ≠ some g ∧ hiv.ownBlock ≠ some g
  d2 : ∀ g, hiv.ownBlock = some g → g ≠ Y ∧ v.ownBlock ≠ some g ∧ lov.ownBlock ≠ some g
theorem SheetSt.next {B D : Nat} {w w' : World} {Y : Nat} {gv pv lov hiv v : Value} {lo hi : List Int} {l : List Fi} {rows : List (List Value)} (h : SheetSt B D w Y gv pv lov hiv v lo hi l rows) (hb : Below w.heap.size w w') : SheetSt B D w' Y gv pv lov hiv v lo hi l rows :=
  ⟨h.sh.next hb, ownsBelow h.lo hb, ownsBelow h.hi hb, h.d1, h.d2⟩
theorem SheetSt.start {B D : Nat} {w : World} {Y : Nat} {gv pv : Value} (hY : B ≤ Y) (hB : B ≤ w.heap.size) (hb : BoxAt w Y [gv, pv, .slice none 0 0, .slice none 0 0, .slice none 0 0]) (hf : Free w Y) : SheetSt B D w Y gv pv (.slice none 0 0) (.slice none 0 0) (.slice none 0 0) [] [] [] [] :=
  ⟨⟨hY, hB, hb, hf, RowF.nil _ _ _, (fun h => nomatch h)⟩, World.ownsRow_nil _ _ _ _, World.ownsRow_nil _ _ _ _, (fun _ h => nomatch h), (fun _ h => nomatch h)⟩
/-- Statements laid behind. -/
theorem SheetSt.row {B D : Nat} {w w' : World} {Y : Nat} {gv pv lov hiv v v' : Value} {lo hi : List Int} {l l' : List Fi} {rows rows' : List (List Value)} (h : SheetSt B D w Y gv pv lov hiv v lo hi l rows) (hs : ShAt B D w' Y gv pv lov hiv v' l' rows') (hk : Kp Y w v w' v') : SheetSt B D w' Y gv pv lov hiv v' lo hi l' rows' := by
  refine ⟨hs, hk.rows h.lo fun g hg => ⟨(h.d1 g hg).1, (h.d1 g hg).2.1⟩, hk.rows h.hi fun g hg => ⟨(h.d2 g hg).1, (h.d2 g hg).2.1⟩, fun g hg => ⟨(h.d1 g hg).1, fun e => ?_, (h.d1 g hg).2.2⟩, fun g hg => ⟨(h.d2 g hg).1, fun e => ?_, (h.d2 g hg).2.2⟩⟩
  · rcases hk.own g e with h' | h'
    · exact (h.d1 g hg).2.1 h'
    · have := (h.lo.lt g hg).2; omega
  · rcases hk.own g e with h' | h'
    · exact (h.d2 g hg).2.1 h'
    · have := (h.hi.lt g hg).2; omega
theorem RowN.set {B Y j : Nat} {w : World} {v u : Value} {l : List Int} (h : RowN B w v l) (hn : v.ownBlock ≠ some Y) : RowN B (w.setCell ⟨Y, j, none⟩ u) v l := ownsRow_setCell_other h hn u
/-- A beginning more. -/
theorem SheetSt.more_lo {B D : Nat} {w w1 w' : World} {Y : Nat} {gv pv lov hiv v lov' : Value} {lo hi : List Int} {l : List Fi} {rows : List (List Value)} {n : Int} (h : SheetSt B D w Y gv pv lov hiv v lo hi l rows) (hb : Below w.heap.size w w1) (hg : w1.grownBy w' lov.ownBlock) (ho : ∀ g, lov'.ownBlock = some g → lov.ownBlock = some g ∨ w.heap.size ≤ g)
    (hown : w'.ownsRow B 3 1 lov' (lo.length + 1) (lo.map (Value.int .i64) ++ [.int .i64 n])) : SheetSt B D (w'.setCell ⟨Y, 3, none⟩ lov') Y gv pv lov' hiv v (lo ++ [n]) hi l rows := by
  have hgg : w.grownBy w' lov.ownBlock := (grown_of hb _).trans hg
  have hk : Kp Y w lov w' lov' := Kp.grown hgg ho
  have hY := h.sh.yb
  have hYl := cell_lt (h.sh.box 0 _ rfl)
  have hlo : ∀ g, lov.ownBlock = some g → B ≤ g := fun g hg => (h.lo.lt g hg).1
  have hlY : lov.ownBlock ≠ some Y := fun e => (h.d1 Y e).1 rfl
  have hlY' : lov'.ownBlock ≠ some Y := fun e => by rcases ho Y e with h' | h'; exact hlY h'; omega
  have hv : ∀ g, v.ownBlock = some g → g ≠ Y ∧ lov.ownBlock ≠ some g := fun g hg => ⟨fun e => h.sh.ne (by rw [hg, e]), fun e => (h.d1 g e).2.1 hg⟩
  have hbx : BoxAt w' Y [gv, pv, v, lov, hiv] := h.sh.box.grown hgg fun e => hlY e.symm
  have hfr : Free w' Y := fun j => (hgg.frozen_far ⟨Y, j, none⟩ hYl fun e => hlY e.symm).trans (h.sh.free j)
  have hsz := hgg.size
  refine ⟨⟨hY, by simp only [World.size_setCell]; exact Nat.le_trans h.sh.bw hsz, hbx.put (j := 3) (x := lov') (by simp), Free.set hfr, ?_, h.sh.ne⟩, ?_, ?_, fun g hg => ?_, fun g hg => ?_⟩
  · have hr := h.sh.row.kp hk hY hlo hv
    exact ⟨hr.len, ownsRow_setCell_other hr.own h.sh.ne _, hr.wide, fun i h1 h2 => FiQ.mono (only_set (fun e => by omega)) (hr.each i h1 h2)⟩
  · exact RowN.set (by unfold RowN; simpa using hown) hlY'
  · exact RowN.set (hk.rows h.hi fun g hg => ⟨(h.d2 g hg).1, (h.d2 g hg).2.2⟩) fun e => (h.d2 Y e).1 rfl
  · rcases ho g hg with h' | h'
    · exact h.d1 g h'
    · refine ⟨by omega, fun e => ?_, fun e => ?_⟩
      · have := (h.sh.row.own.lt g e).2; omega
      · have := (h.hi.lt g e).2; omega
  · refine ⟨(h.d2 g hg).1, (h.d2 g hg).2.1, fun e => ?_⟩
    rcases ho g e with h' | h'
    · exact (h.d2 g hg).2.2 h'
    · have := (h.hi.lt g hg).2; omega
/-- An end more. -/
theorem SheetSt.more_hi {B D : Nat} {w w1 w' : World} {Y : Nat} {gv pv lov hiv v hiv' : Value} {lo hi : List Int} {l : List Fi} {rows : List (List Value)} {n : Int} (h : SheetSt B D w Y gv pv lov hiv v lo hi l rows) (hb : Below w.heap.size w w1) (hg : w1.grownBy w' hiv.ownBlock) (ho : ∀ g, hiv'.ownBlock = some g → hiv.ownBlock = some g ∨ w.heap.size ≤ g)
    (hown : w'.ownsRow B 3 1 hiv' (hi.length + 1) (hi.map (Value.int .i64) ++ [.int .i64 n])) : SheetSt B D (w'.setCell ⟨Y, 4, none⟩ hiv') Y gv pv lov hiv' v lo (hi ++ [n]) l rows := by
  have hgg : w.grownBy w' hiv.ownBlock := (grown_of hb _).trans hg
  have hk : Kp Y w hiv w' hiv' := Kp.grown hgg ho
  have hY := h.sh.yb
  have hYl := cell_lt (h.sh.box 0 _ rfl)
  have hlo : ∀ g, hiv.ownBlock = some g → B ≤ g := fun g hg => (h.hi.lt g hg).1
  have hlY : hiv.ownBlock ≠ some Y := fun e => (h.d2 Y e).1 rfl
  have hlY' : hiv'.ownBlock ≠ some Y := fun e => by rcases ho Y e with h' | h'; exact hlY h'; omega
  have hv : ∀ g, v.ownBlock = some g → g ≠ Y ∧ hiv.ownBlock ≠ some g := fun g hg => ⟨fun e => h.sh.ne (by rw [hg, e]), fun e => (h.d2 g e).2.1 hg⟩
  have hbx : BoxAt w' Y [gv, pv, v, lov, hiv] := h.sh.box.grown hgg fun e => hlY e.symm
  have hfr : Free w' Y := fun j => (hgg.frozen_far ⟨Y, j, none⟩ hYl fun e => hlY e.symm).trans (h.sh.free j)
  have hsz := hgg.size
  refine ⟨⟨hY, by simp only [World.size_setCell]; exact Nat.le_trans h.sh.bw hsz, hbx.put (j := 4) (x := hiv') (by simp), Free.set hfr, ?_, h.sh.ne⟩, ?_, ?_, fun g hg => ?_, fun g hg => ?_⟩
  · have hr := h.sh.row.kp hk hY hlo hv
    exact ⟨hr.len, ownsRow_setCell_other hr.own h.sh.ne _, hr.wide, fun i h1 h2 => FiQ.mono (only_set (fun e => by omega)) (hr.each i h1 h2)⟩
  · exact RowN.set (hk.rows h.lo fun g hg => ⟨(h.d1 g hg).1, (h.d1 g hg).2.2⟩) fun e => (h.d1 Y e).1 rfl
  · exact RowN.set (by unfold RowN; simpa using hown) hlY'
  · refine ⟨(h.d1 g hg).1, (h.d1 g hg).2.1, fun e => ?_⟩
    rcases ho g e with h' | h'
    · exact (h.d1 g hg).2.2 h'
    · have := (h.lo.lt g hg).2; omega
  · rcases ho g hg with h' | h'
    · exact h.d2 g h'
    · refine ⟨by omega, fun e => ?_, fun e => ?_⟩
      · have := (h.sh.row.own.lt g e).2; omega
      · have := (h.lo.lt g e).2; omega
mutual
theorem shS_sts : ∀ (s : St) (a : Ar5) (last : Bool) (out : List Fi) (deep inn : Int) (els : Bool), ∃ X, shS s a last out = out ++ X ∧ X.map Fi.s = (preS deep inn els s).map It.s
  | .mk i k ls nm pr x h ar th el, a, last, out, deep, inn, els => by
    rw [shS]
    obtain ⟨X1, h1, k1⟩ := shL_sts th (inside k (out.length + 1) (if last then a.next else out.length + 1 + (1 + cntL th + cntL el : Nat)) a) (out ++ [itemOf (.mk i k ls nm pr x h ar th el) a (if last then a.next else out.length + 1 + (1 + cntL th + cntL el : Nat))]) (deep + 1) i false
    rw [h1]
    obtain ⟨X2, h2, k2⟩ := shL_sts el (inside k (out.length + 1) (if last then a.next else out.length + 1 + (1 + cntL th + cntL el : Nat)) a) ((out ++ [itemOf (.mk i k ls nm pr x h ar th el) a (if last then a.next else out.length + 1 + (1 + cntL th + cntL el : Nat))]) ++ X1) (deep + 1) i true
    rw [h2]
    refine ⟨[itemOf (.mk i k ls nm pr x h ar th el) a (if last then a.next else out.length + 1 + (1 + cntL th + cntL el : Nat))] ++ X1 ++ X2, by simp only [List.append_assoc], ?_⟩
    rw [preS]
    simp only [List.map_append, List.map_cons, List.map_nil, k1, k2]
    rfl
theorem shL_sts : ∀ (l : List St) (a : Ar5) (out : List Fi) (deep inn : Int) (els : Bool), ∃ X, shL l a out = out ++ X ∧ X.map Fi.s = (preL deep inn els l).map It.s
  | [], a, out, deep, inn, els => ⟨[], by rw [shL, List.append_nil], by rw [preL]; rfl⟩
  | s :: r, a, out, deep, inn, els => by
    rw [shL]
    obtain ⟨X1, h1, k1⟩ := shS_sts s a r.isEmpty out deep inn els
    rw [h1]
    obtain ⟨X2, h2, k2⟩ := shL_sts r a (out ++ X1) deep inn els
    rw [h2]
    refine ⟨X1 ++ X2, by rw [List.append_assoc], ?_⟩
    rw [preL, List.map_append, List.map_append, k1, k2]
end
theorem sheetPs_pref : ∀ (l : List Pc) (i : Nat) (out : List Fi), ∃ X, sheetPs l i out = out ++ X := by
  intro l
  induction l with
  | nil => intro i out; exact ⟨[], by simp [sheetPs]⟩
  | cons f r ih =>
    intro i out
    rw [sheetPs]
    obtain ⟨X1, h1, -⟩ := shL_sts f.body ⟨i, 0, -1, 0⟩ out 1 0 false
    rw [h1]
    obtain ⟨X2, h2⟩ := ih (i + 1) (out ++ X1)
    exact ⟨X1 ++ X2, by rw [h2, List.append_assoc]⟩
/-- A procedure's part of the sheet. -/
def partOf (p : Pr) (i : Nat) : List Fi := ((sheetOf p).drop (cntP (p.procs.take i))).take (cntP (p.procs.take (i + 1)) - cntP (p.procs.take i))
theorem cntP_take {l : List Pc} {i : Nat} (h : i < l.length) : cntP (l.take (i + 1)) = cntP (l.take i) + cntL l[i].body := by
  rw [List.take_succ_eq_append_getElem h]
  unfold cntP
  rw [List.map_append, List.sum_append]
  simp
theorem part_sts (p : Pr) {i : Nat} (h : i < p.procs.length) : (partOf p i).map Fi.s = stsOf p.procs[i] := by
  have h1 : sheetOf p = sheetPs (p.procs.drop (i + 1)) (i + 1) (sheetPs (p.procs.take (i + 1)) 0 []) := by
    unfold sheetOf
    conv => lhs; rw [← List.take_append_drop (i + 1) p.procs]
    rw [sheetPs_append]
    congr 1
    rw [List.length_take]; omega
  obtain ⟨X, hX⟩ := sheetPs_pref (p.procs.drop (i + 1)) (i + 1) (sheetPs (p.procs.take (i + 1)) 0 [])
  have h2 := sheet_take p h
  obtain ⟨Z, hZ, hZs⟩ := shL_sts p.procs[i].body ⟨i, 0, -1, 0⟩ (sheetPs (p.procs.take i) 0 []) 1 0 false
  have h3 : (sheetPs (p.procs.take i) 0 []).length = cntP (p.procs.take i) := by rw [sheetPs_len]; simp
  have h4 := cntP_take h
  have h5 : Z.length = cntL p.procs[i].body := by
    have e : (Z.map Fi.s).length = ((preL 1 0 false p.procs[i].body).map It.s).length := by rw [hZs]
    rw [List.length_map, List.length_map, preL_len] at e
    exact e
  unfold partOf stsOf itsOf
  rw [h1, hX, h2, hZ, h4, ← h3, List.append_assoc, List.drop_left, ← hZs]
  have e : (sheetPs (p.procs.take i) 0 []).length + cntL p.procs[i].body - (sheetPs (p.procs.take i) 0 []).length = Z.length := by omega
  rw [e, List.take_left]
end Go.Proofs.Ytghlmengcidmdaa.Tr
end
section
/- How much a program says: bounds on what is gathered of it. No program's code. Conditions: none. -/
namespace Go.Proofs.Ytghlmengcidmdaa.Tr
open Go.RowKit Go.Proofs.Ytghlmengcidmdaa.Lx Go.Proofs.Ytghlmengcidmdaa.Wd
theorem ownN_len (x : Ex) (l : List ByteArray) : (ownN x l).length ≤ l.length + 1 := by
  unfold ownN addN
  split
  · split <;> simp
  · omega
theorem fold_wt (m : Nat) (hm : ∀ x l, (namesE m x l).length ≤ l.length + wt x) : ∀ (ks : List Ex) (l : List ByteArray), (ks.foldl (fun l k => namesE m k l) l).length ≤ l.length + wts ks := by
  intro ks
  induction ks with
  | nil => intro l; simp
  | cons k r ih =>
    intro l
    rw [List.foldl_cons]
    have h1 := hm k l
    have h2 := ih (namesE m k l)
    simp only [wts]
    omega
theorem names_wt : ∀ (m : Nat) (x : Ex) (l : List ByteArray), (namesE m x l).length ≤ l.length + wt x := by
  intro m
  induction m with
  | zero => intro x l; simp [namesE]
  | succ m ih =>
    intro x l
    rw [namesE_succ]
    have h1 := fold_wt m ih x.ks (ownN x l)
    have h2 := ownN_len x l
    rw [wt_eq]
    omega
theorem namesOf_wt (x : Ex) : (namesOf x).length ≤ wt x := by
  unfold namesOf
  split
  · have := names_wt 20 x []
    simpa using this
  · simp
theorem saidA_wt (a : Ar) : (saidA a).length ≤ wtAr a := by
  unfold saidA wtAr
  have := namesOf_wt a.x
  rw [List.length_append]
  split <;> simp <;> omega
theorem saidAs_wt : ∀ l : List Ar, ((l.map saidA).flatten).length ≤ (l.map wtAr).sum := by
  intro l
  induction l with
  | nil => simp
  | cons a r ih =>
    have := saidA_wt a
    rw [List.map_cons, List.flatten_cons, List.length_append, List.map_cons, List.sum_cons]
    omega
theorem saidS_wt (s : St) : (saidS s).length ≤ wtS s := by
  unfold saidS saidN
  have h1 := namesOf_wt s.x
  have h2 := saidAs_wt s.args
  rw [List.length_append, List.length_append, wtS_eq]
  split
  · rw [List.length_singleton]; omega
  · rw [List.length_nil]; omega
mutual
theorem preS_wt : ∀ (s : St) (deep inn : Int) (els : Bool) (t : It), t ∈ preS deep inn els s → wtS t.s ≤ wtS s
  | .mk i k ls nm pr x h ar th el, deep, inn, els, t => fun ht => by
    rw [preS] at ht
    rcases List.mem_cons.1 ht with rfl | ht
    · exact Nat.le_refl _
    · rw [wtS_eq (.mk i k ls nm pr x h ar th el)]
      simp only [St.thn, St.els]
      rcases List.mem_append.1 ht with ht | ht
      · have := preL_wt th _ _ _ t ht; omega
      · have := preL_wt el _ _ _ t ht; omega
theorem preL_wt : ∀ (l : List St) (deep inn : Int) (els : Bool) (t : It), t ∈ preL deep inn els l → wtS t.s ≤ wtL l
  | [], deep, inn, els, t => fun ht => by rw [preL] at ht; cases ht
  | s :: r, deep, inn, els, t => fun ht => by
    rw [preL] at ht
    rw [wtL_cons]
    rcases List.mem_append.1 ht with ht | ht
    · have := preS_wt s _ _ _ t ht; omega
    · have := preL_wt r _ _ _ t ht; omega
end
theorem sts_wt {f : Pc} {s : St} (h : s ∈ stsOf f) : wtS s ≤ wtL f.body := by
  unfold stsOf itsOf at h
  obtain ⟨t, ht, rfl⟩ := List.mem_map.1 h
  exact preL_wt _ _ _ _ t ht
def labLs (l : List St) : List ByteArray := (l.map St.labels).flatten
/-- A procedure's labels. -/
def labsOf (f : Pc) : List ByteArray := labLs (stsOf f) ++ f.fin
theorem labLs_append (l m : List St) : labLs (l ++ m) = labLs l ++ labLs m := by unfold labLs; rw [List.map_append, List.flatten_append]
theorem labLs_cons (s : St) (l : List St) : labLs (s :: l) = s.labels ++ labLs l := by unfold labLs; rw [List.map_cons, List.flatten_cons]
mutual
theorem preS_labs : ∀ (s : St) (deep inn : Int) (els : Bool), (labLs ((preS deep inn els s).map It.s)).length ≤ wtS s
  | .mk i k ls nm pr x h ar th el, deep, inn, els => by
    rw [preS, List.map_cons, List.map_append, labLs_cons, labLs_append, List.length_append, List.length_append]
    have h1 := preL_labs th (deep + 1) i false
    have h2 := preL_labs el (deep + 1) i true
    have h3 := wtTs_len ls
    rw [wtS_eq (.mk i k ls nm pr x h ar th el)]
    simp only [St.thn, St.els, St.labels]
    omega
theorem preL_labs : ∀ (l : List St) (deep inn : Int) (els : Bool), (labLs ((preL deep inn els l).map It.s)).length ≤ wtL l
  | [], deep, inn, els => by rw [preL]; simp [labLs]
  | s :: r, deep, inn, els => by
    rw [preL, List.map_append, labLs_append, List.length_append, wtL_cons]
    have h1 := preS_labs s deep inn els
    have h2 := preL_labs r deep inn els
    omega
end
mutual
theorem wtS_cnt : ∀ s : St, cntS s ≤ wtS s
  | .mk i k ls nm pr x h ar th el => by
    rw [wtS_eq, cntS]
    simp only [St.thn, St.els]
    have h1 := wtL_cnt th
    have h2 := wtL_cnt el
    omega
theorem wtL_cnt : ∀ l : List St, cntL l ≤ wtL l
  | [] => by simp [cntL]
  | s :: r => by
    rw [cntL_cons, wtL_cons]
    have h1 := wtS_cnt s
    have h2 := wtL_cnt r
    omega
end
/-- There is room for all that is gathered. -/
structure RoomP (p : Pr) : Prop where
  cnt : cntP p.procs ≤ 1000000
  procs : p.procs.length ≤ 1000000
  glob : p.globals.length ≤ 300000
  own : ∀ f ∈ p.procs, f.params.length + f.vars.length ≤ 300000
  said : ∀ f ∈ p.procs, ∀ s ∈ stsOf f, (saidS s).length ≤ 300000
  labs : ∀ f ∈ p.procs, (labsOf f).length ≤ 300000
theorem wtPcs_len : ∀ l : List Pc, l.length ≤ (l.map wtPc).sum := by
  intro l
  induction l with
  | nil => simp
  | cons f r ih => rw [List.map_cons, List.sum_cons, List.length_cons]; unfold wtPc; unfold wtPc at ih; omega
theorem wtPas_len (l : List Pa) : l.length ≤ (l.map fun x => 1 + x.nm.size).sum := by
  induction l with
  | nil => simp
  | cons f r ih => rw [List.map_cons, List.sum_cons, List.length_cons]; omega
theorem wtPcs_cnt : ∀ l : List Pc, cntP l ≤ (l.map wtPc).sum := by
  intro l
  unfold cntP
  induction l with
  | nil => simp
  | cons f r ih =>
    rw [List.map_cons, List.sum_cons, List.map_cons, List.sum_cons]
    have := wtL_cnt f.body
    have h2 : wtL f.body ≤ wtPc f := by unfold wtPc; omega
    omega
theorem RoomP.of {p : Pr} (h : wtPr p ≤ 300000) : RoomP p := by
  unfold wtPr at h
  have h1 := wtTs_len p.globals
  have h2 := wtPcs_len p.procs
  have h3 := wtPcs_cnt p.procs
  have hm : ∀ f ∈ p.procs, wtPc f ≤ 300000 := fun f hf => by have := sum_mem wtPc p.procs f hf; omega
  refine ⟨by omega, by omega, by omega, fun f hf => ?_, fun f hf s hs => ?_, fun f hf => ?_⟩
  · have := hm f hf
    unfold wtPc at this
    have h4 := wtPas_len f.params
    have h5 := wtTs_len f.vars
    omega
  · have := hm f hf
    unfold wtPc at this
    have h4 := sts_wt hs
    have h5 := saidS_wt s
    omega
  · have := hm f hf
    unfold wtPc at this
    unfold labsOf stsOf itsOf
    have h4 := preL_labs f.body 1 0 false
    have h5 := wtTs_len f.fin
    rw [List.length_append]
    omega
end Go.Proofs.Ytghlmengcidmdaa.Tr
end
section
/- The first fault of a program's names, told step by step. No program's code. Conditions: none. -/
namespace Go.Proofs.Ytghlmengcidmdaa.Tr
open Go.RowKit Go.Proofs.Ytghlmengcidmdaa.Lx Go.Proofs.Ytghlmengcidmdaa.Wd
theorem scope_may {p : Pr} (h : mayP p = false) : scopeP p = (1, 0) := by unfold scopeP; rw [h]; rfl
theorem scope_head {p : Pr} (h : mayP p = true) (h2 : headFault p = true) : scopeP p = (5, 0) := by unfold scopeP; rw [h, h2]; rfl
theorem scope_at {p : Pr} (h : mayP p = true) (h2 : headFault p = false) {k : Nat} (hk : k < p.procs.length) {i : Int} (h0 : ∀ j (hj : j < p.procs.length), j < k → pcFault p.globals (procNs p) p.procs[j] = none) (h1 : pcFault p.globals (procNs p) p.procs[k] = some i) : scopeP p = (5, i) := by
  unfold scopeP
  rw [h, h2, some_at hk (f := pcFault p.globals (procNs p)) h0 h1]
  rfl
theorem scope_ok {p : Pr} (h : mayP p = true) (h2 : headFault p = false) (h0 : ∀ j (hj : j < p.procs.length), pcFault p.globals (procNs p) p.procs[j] = none) : scopeP p = (0, 0) := by
  unfold scopeP
  rw [h, h2, some_no (f := pcFault p.globals (procNs p)) h0]
  rfl
theorem head_glob {p : Pr} (h : twiceB p.globals = true) : headFault p = true := by unfold headFault; rw [h]; rfl
theorem head_procs {p : Pr} (h : twiceB (procNs p) = true) : headFault p = true := by unfold headFault; rw [h]; simp
theorem head_none {p : Pr} (h : pcOf p.procs sMain = none) : headFault p = true := by unfold headFault; rw [h]; simp
theorem head_some {p : Pr} {f : Pc} (h1 : twiceB p.globals = false) (h2 : twiceB (procNs p) = false) (h : pcOf p.procs sMain = some f) : headFault p = decide ((0 : Int) < (f.params.length : Int)) := by
  unfold headFault
  rw [h, h1, h2]
  simp
/-- Index of the names and the procedure of a name. -/
theorem pcs_none {l : List Pc} {s : ByteArray} (h : at_ s (l.map Pc.nm) = none) : pcOf l s = none := by
  unfold at_ at h
  unfold pcOf
  rw [List.findIdx?_eq_none_iff] at h
  rw [List.find?_eq_none]
  intro f hf he
  have := h f.nm (List.mem_map.2 ⟨f, hf, rfl⟩)
  rw [same_comm] at this
  rw [this] at he
  exact Bool.false_ne_true he
theorem pcs_some {l : List Pc} {s : ByteArray} {i : Nat} (h : at_ s (l.map Pc.nm) = some i) : ∃ hi : i < l.length, pcOf l s = some l[i] := by
  unfold at_ at h
  rw [List.findIdx?_eq_some_iff_getElem] at h
  obtain ⟨hi, h1, h2⟩ := h
  have hi' : i < l.length := by simpa using hi
  refine ⟨hi', ?_⟩
  unfold pcOf
  refine fst_at hi' (fun j hj hji => ?_) ?_
  · have := h2 j hji
    rw [List.getElem_map] at this
    rw [same_comm]
    simpa using this
  · rw [List.getElem_map] at h1
    rw [same_comm]
    exact h1
theorem atI_none {s : ByteArray} {l : List ByteArray} (h : at_ s l = none) : atI s l = -1 := by unfold atI; rw [h]
theorem atI_some {s : ByteArray} {l : List ByteArray} {i : Nat} (h : at_ s l = some i) : atI s l = i := by unfold atI; rw [h]
theorem pc_dup {g procs : List ByteArray} {f : Pc} (h : twiceB (ownNs f) = true) : pcFault g procs f = some 0 := by unfold pcFault; rw [h]; rfl
theorem pc_in {g procs : List ByteArray} {f : Pc} (h : ((ownNs f).any fun n => inB n g) = true) : pcFault g procs f = some 0 := by unfold pcFault; rw [h, Bool.or_true]; rfl
theorem pc_st {g procs : List ByteArray} {f : Pc} (h1 : twiceB (ownNs f) = false) (h2 : ((ownNs f).any fun n => inB n g) = false) {k : Nat} (hk : k < (stsOf f).length) (h0 : ∀ j (hj : j < (stsOf f).length), j < k → knownS g f procs (stsOf f)[j] = true) (h : knownS g f procs (stsOf f)[k] = false) : pcFault g procs f = some (stsOf f)[k].id := by
  unfold pcFault
  rw [h1, h2, Bool.or_false, if_neg Bool.false_ne_true, fst_at hk (fun j hj hjk => by rw [h0 j hj hjk]; rfl) (by rw [h]; rfl)]
  rfl
theorem pc_ok {g procs : List ByteArray} {f : Pc} (h1 : twiceB (ownNs f) = false) (h2 : ((ownNs f).any fun n => inB n g) = false) (h0 : ∀ j (hj : j < (stsOf f).length), knownS g f procs (stsOf f)[j] = true) : pcFault g procs f = none := by
  unfold pcFault
  rw [h1, h2, Bool.or_false, if_neg Bool.false_ne_true, fst_no (fun j hj => by rw [h0 j hj]; rfl)]
  rfl
/-- The answer of a check: a code, and where. -/
def FaultIs (r : Int × Int) (w : World) (e : Ending) (w' : World) : Prop := e = .returned (.agg #[.int .i64 r.1, .int .i64 r.2]) ∧ Below w.heap.size w w'
theorem below2 {w w' : World} {R : Nat} {x0 x1 : Value} (h : Below w.heap.size w w') (hR : w.heap.size ≤ R) : Below w.heap.size w ((w'.setCell ⟨R, 0, none⟩ x0).setCell ⟨R, 1, none⟩ x1) :=
  (h.setCell (p := ⟨R, 0, none⟩) hR _).setCell (p := ⟨R, 1, none⟩) hR _
theorem box2 {w : World} {R : Nat} {a0 a1 x0 x1 : Value} (h : BoxAt w R [a0, a1]) : BoxAt ((w.setCell ⟨R, 0, none⟩ x0).setCell ⟨R, 1, none⟩ x1) R [x0, x1] :=
  (h.put (j := 0) (x := x0) (by simp)).put (j := 1) (x := x1) (by simp)
theorem procs_at {C : Cs} {d : Nat} {pa : Option Addr} {n pc : Nat} {l : List Pc} (h : SlAt 5 (PcAt C d) (.slice pa n pc) l) {k : Nat} (hk : k < l.length) : ∃ g off, pa = some ⟨g, off, none⟩ ∧ PcAt C d g (off + k * 5) l[k] := by
  have hne : l ≠ [] := by intro h; rw [h] at hk; simp at hk
  obtain ⟨g, off, cap', hv, _, hcells⟩ := SlAt.cells h hne
  simp only [Value.slice.injEq] at hv
  exact ⟨g, off, hv.1, hcells k hk⟩
theorem its_at {C : Cs} {d : Nat} {pa : Option Addr} {n pc : Nat} {l : List Fi} (h : SlAt 17 (FiAt C d) (.slice pa n pc) l) {k : Nat} (hk : k < l.length) : ∃ g off, pa = some ⟨g, off, none⟩ ∧ FiAt C d g (off + k * 17) l[k] := by
  have hne : l ≠ [] := by intro h; rw [h] at hk; simp at hk
  obtain ⟨g, off, cap', hv, _, hcells⟩ := SlAt.cells h hne
  simp only [Value.slice.injEq] at hv
  exact ⟨g, off, hv.1, hcells k hk⟩
/-- A statement's cells and what hangs on them. -/
theorem st_open {C : Cs} {d g o : Nat} {s : St} (h : StAt C d (StC C d) g o s) : ∃ (la ka aa ta ea : Option Addr) (lc kc ac tc ec : Nat),
    (∀ j u, ([.int .i64 s.id, .int .i64 s.kind, .slice la s.labels.length lc, .string s.nm, .string s.proc, .int .i64 s.x.op, .int .i64 s.x.n, .string s.x.nm, .slice ka s.x.ks.length kc, .bool s.has, .slice aa s.args.length ac, .slice ta s.thn.length tc, .slice ea s.els.length ec] : List Value)[j]? = some u → C g (o + j) u)
    ∧ (∀ w, Cs.le C (cw w) → Hang d w s (.slice la s.labels.length lc) (.slice ka s.x.ks.length kc) (.slice aa s.args.length ac) (.slice ta s.thn.length tc) (.slice ea s.els.length ec)) ∧ OkE s.x ∧ InI s.id ∧ InI s.kind ∧ s.nm.size ≤ 9223372036854775807 ∧ s.proc.size ≤ 9223372036854775807 := by
  obtain ⟨lv, av, tv, ev, p0, p1, p2, p3, p4, ⟨kv, p5, p6, p7, p8, hok, hk1⟩, p9, p10, p11, p12, j1, j2, j3, j4, hl1, ha1, ht1, he1⟩ := h
  obtain ⟨la, lc, rfl, -, -⟩ := hl1.form
  obtain ⟨aa, ac, rfl, -, -⟩ := ha1.form
  obtain ⟨ta, tc, rfl, -, -⟩ := ht1.form
  obtain ⟨ea, ec, rfl, -, -⟩ := he1.form
  obtain ⟨ka, kc, rfl, -, -⟩ := hk1.form
  refine ⟨la, ka, aa, ta, ea, lc, kc, ac, tc, ec, fun j u hu => ?_, fun w hle => ⟨StrC.mono hle hl1, ExC.mono hle hk1, SlAt.imp ha1 (fun _ _ _ _ => ArAt.mono hle), StC.mono hle ht1, StC.mono hle he1⟩, hok, j1, j2, j3, j4⟩
  match j, hu with
  | 0, hu => cases hu; exact p0
  | 1, hu => cases hu; exact p1
  | 2, hu => cases hu; exact p2
  | 3, hu => cases hu; exact p3
  | 4, hu => cases hu; exact p4
  | 5, hu => cases hu; exact p5
  | 6, hu => cases hu; exact p6
  | 7, hu => cases hu; exact p7
  | 8, hu => cases hu; exact p8
  | 9, hu => cases hu; exact p9
  | 10, hu => cases hu; exact p10
  | 11, hu => cases hu; exact p11
  | 12, hu => cases hu; exact p12
end Go.Proofs.Ytghlmengcidmdaa.Tr
end
section
/- What Vars of scope and of the reference tell: a procedure's names, the global ones first. Conditions: the program lies in memory, and there is room. -/
namespace Go.Proofs.Ytghlmengcidmdaa.Tr
open Go.RowKit Go.Proofs.Ytghlmengcidmdaa.Lx Go.Proofs.Ytghlmengcidmdaa.Wd
set_option linter.unusedSimpArgs false
/-- A procedure's names. -/
def varsIn (p : Pr) (s : ByteArray) : List ByteArray := match pcIn p s with
  | some f => p.globals ++ ownNs f
  | none => []
set_option maxHeartbeats 1000000 in
set_option maxRecDepth 100000 in
theorem cloneRow_any (l : List ByteArray) (v : Value) (w : World) (hl : StrsAt w v l) (hm : l.length ≤ 1000000) : Calls Try.prog 73 #[v] w (NamesMade l w) := by
  obtain ⟨i0, hi, hz0, hz1, hz2⟩ := info_parts infoStr
  obtain ⟨a, cap, rfl, hc1, hc2⟩ := hl.form
  cases a with
  | none =>
    obtain ⟨-, hz, -⟩ := hl.news
    have h0 : l = [] := List.eq_nil_of_length_eq_zero (hz rfl)
    subst h0
    clear hl hz
    have ny := nil_yes cap
    go_enter Try.func73, Try.ntmps73
    go_wp2_with fail
    go_ret
    exact ⟨_, rfl, RowS.nil _ _, Below.refl _ _⟩
  | some ad =>
    have HL := Lib.hid hl
    have HALL := Lib.hid hl.all
    clear hl
    have ny := nil_no ad l.length cap
    go_enter Try.func73, Try.ntmps73
    go_wp2_with (at_builtin; refine wpList_append_sl _ rfl (.tmp 5) (.tmp 6) 22 rfl w.heap.size 9 i0 (.string ⟨#[]⟩) 1 16 Try.underlying22 hi hz0 hz1 hz2 rfl (by decide) _ 0 [] rfl ?oa1 (some ad) l.length cap (l.map Value.string) rfl ?oz1 ?ob1 ?oc1 (str_all _) ?od1 ?oe1 ?of1 ?_)
    case oa1 => exact World.ownsRow_lit w #[] 0 (Nat.le_refl _) (by decide) rfl
    case oz1 => intro h; cases h
    case ob1 => rw [List.length_map, Nat.mul_one]
    case oc1 => exact (HL.out.next (boxed w _)).news.2.2
    case od1 => unfold maxLen; omega
    case oe1 => omega
    case of1 => simp
    intro v4 w4 hown4 hg4 hat4
    obtain ⟨la4, lc4, rfl⟩ := ownsForm hown4
    have hb4 : Below w.heap.size w w4 := (boxed w _).grown hg4 (by simp) fun q hq => by have hqq : w.heap.size = q := by { simpa [Value.ownBlock] using hq }; omega
    have HB4 := Lib.hid hb4
    have HOWN4 := Lib.hid hown4
    clear hown4 hg4 hat4 hb4
    go_wp2_with fail
    go_ret
    exact ⟨_, rfl, ⟨by simpa using HOWN4.out, HALL.out⟩, HB4.out⟩
set_option maxHeartbeats 4000000 in
set_option maxRecDepth 100000 in
theorem svars_any (d : Nat) (p : Pr) (gv pv : Value) (s : ByteArray) (w : World) (hp : PrC (cw w) d gv pv p) (hroom : RoomP p) :
    Calls Try.prog 26 #[.agg #[gv, pv], .string s] w (NamesMade (varsIn p s) w) := by
  obtain ⟨i0, hi, hz0, hz1, hz2⟩ := info_parts infoStr
  have HROOM := Lib.hid hroom
  clear hroom
  obtain ⟨ga, gc, rfl, hgl1, hgl2⟩ := hp.1.form
  obtain ⟨pa, pc, rfl, hl1, hl2⟩ := hp.2.form
  have hpl : p.procs.length ≤ 9223372036854775807 := Nat.le_trans hl1 hl2
  have HP := Lib.hid hp
  clear hp hl1 hl2 hgl1 hgl2
  obtain ⟨KK, hKK⟩ : ∃ n, Hid (varsIn p s = n) := ⟨_, Lib.hid rfl⟩
  rw [hKK.out]
  go_enter Try.func26, Try.ntmps26
  go_upto_region 1 with fail
  refine cut_world (fun wx => Below w.heap.size w wx ∧ BoxAt wx w.heap.size [.slice ga p.globals.length gc, .slice pa p.procs.length pc]) ⟨boxed w _, box_new w #[.slice ga p.globals.length gc, .slice pa p.procs.length pc] 25⟩ ?_
  rintro w1 ⟨hb1, hx1⟩
  have HB1 := Lib.hid hb1
  have HX1 := Lib.hid hx1
  have HP1 := Lib.hid (PrC.mono (cw_next hb1) HP.out)
  have x0 := hx1 0 _ rfl
  have x1 := hx1 1 _ rfl
  clear hb1 hx1
  go_wp2_with fail
  refine (mayP_any d p _ _ _ HP1.out).mono ?_
  rintro e w2 ⟨rfl, hb2⟩
  obtain ⟨m1, hm1⟩ : ∃ m, Hid (mayP p = m) := ⟨_, Lib.hid rfl⟩
  rw [hm1.out]
  have HB2 := Lib.hid (HB1.out.trans (hb2.mono HB1.out.size))
  have HX2 := Lib.hid (HX1.out.next hb2)
  have HP2 := Lib.hid (PrC.mono (cw_next hb2) HP1.out)
  clear hb2 x0 x1
  cases m1 with
  | false =>
    go_wp2_with fail
    go_ret
    exact ⟨_, rfl, by rw [← hKK.out]; unfold varsIn pcIn; rw [if_neg (by rw [hm1.out]; decide)]; exact RowS.nil _ _, HB2.out⟩
  | true =>
    have x1 := HX2.out 1 _ rfl
    go_wp2_with fail
    clear x1
    go_loopw [13] (fun i wr => ∃ k : Nat, k ≤ p.procs.length ∧ i = .int .i64 k ∧ (∀ j (hj : j < p.procs.length), j < k → (p.procs[j].nm.toList == s.toList) = false) ∧ Below w2.heap.size w2 wr) (fun i _ => (p.procs.length - intOf i).toNat)
    case atStart => exact ⟨0, by omega, rfl, fun j _ h => absurd h (by omega), Below.refl _ _⟩
    case round =>
      obtain ⟨k, hk, rfl, hno, hbr⟩ := hrel
      obtain ⟨wq, hwq⟩ : ∃ x : World, x = wr := ⟨_, rfl⟩
      subst hwq
      have HNO := Lib.hid hno
      have HBR := Lib.hid hbr
      have HPQ := Lib.hid (PrC.mono (cw_next hbr) HP2.out)
      have HBQ := Lib.hid (HB2.out.trans (hbr.mono HB2.out.size))
      clear hno hbr
      by_cases hlt : k < p.procs.length
      · have hlt' : (k : Int) < (p.procs.length : Int) := by omega
        have h0k : (0 : Int) ≤ (k : Int) := by omega
        have hfa := fun h => fst_at hlt (f := fun f : Pc => f.nm.toList == s.toList) (fun j hj hjk => HNO.out j hj hjk) h
        have HRO := Lib.hid (HROOM.out.own _ (List.getElem_mem hlt))
        have HRG := Lib.hid HROOM.out.glob
        obtain ⟨g, off, hvp, qv, vv, bv, fv, p0, p1, p2, p3, p4, hnm, hps, hvs, hbody, hfin⟩ := procs_at HPQ.out.2 hlt
        cases hvp
        obtain ⟨f, hf⟩ : ∃ f, Hid (p.procs[k] = f) := ⟨_, Lib.hid rfl⟩
        rw [hf.out] at p0 hnm hps hvs hbody hfin
        obtain ⟨a1, c1, rfl, -, -⟩ := hps.form
        obtain ⟨a2, c2, rfl, -, -⟩ := hvs.form
        obtain ⟨a3, c3, rfl, -, -⟩ := hbody.form
        obtain ⟨a4, c4, rfl, -, -⟩ := hfin.form
        have e0 : wq.cell? ⟨g, off + k * 5, none⟩ = _ := p0
        have e1 : wq.cell? ⟨g, off + k * 5 + 1, none⟩ = _ := p1
        have e2 : wq.cell? ⟨g, off + k * 5 + 2, none⟩ = _ := p2
        have e3 : wq.cell? ⟨g, off + k * 5 + 3, none⟩ = _ := p3
        have e4 : wq.cell? ⟨g, off + k * 5 + 4, none⟩ = _ := p4
        have HNM := Lib.hid hnm
        have HH1 := Lib.hid hps
        have HH2 := Lib.hid hvs
        have HH3 := Lib.hid hbody
        have HH4 := Lib.hid hfin
        clear p0 p1 p2 p3 p4 hnm hps hvs hbody hfin
        rw [hf.out] at hfa HRO
        have HFA := Lib.hid hfa
        clear hfa
        go_upto_region 6 with fail
        refine cut_world (fun wx => Below wq.heap.size wq wx ∧ BoxAt wx wq.heap.size [.string f.nm, .slice a1 f.params.length c1, .slice a2 f.vars.length c2, .slice a3 f.body.length c3, .slice a4 f.fin.length c4]) ⟨boxed wq _, box_new wq #[.string f.nm, .slice a1 f.params.length c1, .slice a2 f.vars.length c2, .slice a3 f.body.length c3, .slice a4 f.fin.length c4] 55⟩ ?_
        clear e0 e1 e2 e3 e4
        rintro w5 ⟨hb5, hy5⟩
        have HB5 := Lib.hid hb5
        have HY5 := Lib.hid hy5
        have HBW5 := Lib.hid (HBQ.out.trans (hb5.mono HBQ.out.size))
        have y0 := hy5 0 _ rfl
        clear hb5 hy5
        cases hc : (f.nm.toList == s.toList) with
        | true =>
          have hfa := HFA.out hc
          have hk : KK = p.globals ++ ownNs f := by
            rw [← hKK.out]
            unfold varsIn pcIn pcOf
            rw [if_pos hm1.out, hfa]
          have HK := Lib.hid hk
          clear hfa hk
          go_upto_region 7 with fail
          clear y0
          have hq : Below w5.heap.size w5 w5.drew := (Below.refl _ _).drew
          have X0 := Lib.hid ((HX2.out.next HBR.out).next HB5.out 0 _ rfl)
          have HGG := Lib.hid (StrsAt.next (StrsAt.next (StrsAt.next (StrC.to HP2.out.1) HBR.out) HB5.out) hq)
          have HQQ := Lib.hid (SlAt.imp HH1.out fun _ _ _ _ => PaAt.mono (Cs.le_trans (cw_next HB5.out) (cw_next hq)))
          have HVV := Lib.hid (StrsAt.next (StrsAt.next (StrC.to HH2.out) HB5.out) hq)
          have hro := HRO.out
          have hrg := HRG.out
          have hrow : (ownNs f).length ≤ 300000 := by unfold ownNs; rw [List.length_append, List.length_map]; exact hro
          obtain ⟨OL, hOL⟩ : ∃ L, Hid (ownNs f = L) := ⟨_, Lib.hid rfl⟩
          rw [hOL.out] at hrow
          refine wp_region_z (fun w' => w'.cell? ⟨w.heap.size, 0, none⟩ = some (.slice ga p.globals.length gc) ∧ BoxAt w' wq.heap.size [.string f.nm, .slice a1 f.params.length c1, .slice a2 f.vars.length c2, .slice a3 f.body.length c3, .slice a4 f.fin.length c4]) 6 (by kernel_rfl) ⟨cell_next hq X0.out, HY5.out.next hq⟩ (fun hS => ?_)
          refine' wpAnyZ_take (i := 0) (oi := _) (v := _) rfl (by kernel_rfl) (by kernel_rfl) (by kernel_rfl) (by kernel_rfl) (fun _ _ _ h => h) (Or.inl ⟨by rfl, ?hy0⟩) hS ?rest0
          case hy0 => (intro w hSw; have c0 := hSw.1; clear hSw; go_simp; (try with_reducible rfl))
          try simp only [Act.put, List.setIfInBounds_toArray, List.set_cons_zero, List.set_cons_succ]
          refine' wpAnyZ_take (i := 1) (oi := _) (v := _) rfl (by kernel_rfl) (by kernel_rfl) (by kernel_rfl) (by kernel_rfl) (fun _ _ _ h => h) (Or.inl ⟨by rfl, ?hy1⟩) hS ?rest1
          case hy1 => (intro w hSw; have c0 := hSw.1; clear hSw; go_simp; (try with_reducible rfl))
          try simp only [Act.put, List.setIfInBounds_toArray, List.set_cons_zero, List.set_cons_succ]
          refine' wpAnyZ_take (i := 3) (oi := _) (v := _) rfl (by kernel_rfl) (by kernel_rfl) (by kernel_rfl) (by kernel_rfl) (fun _ _ _ h => h) (Or.inl ⟨by rfl, ?hy3⟩) hS ?rest3
          case hy3 => (intro w hSw; have d0 := hSw.2 0 _ rfl; have d1 := hSw.2 1 _ rfl; have d2 := hSw.2 2 _ rfl; have d3 := hSw.2 3 _ rfl; have d4 := hSw.2 4 _ rfl; clear hSw; go_simp; (try with_reducible rfl))
          try simp only [Act.put, List.setIfInBounds_toArray, List.set_cons_zero, List.set_cons_succ]
          refine' wpAnyZ_step (i := 2) (o := _) rfl (by kernel_rfl) (fun K hK => ?_)
          go_simp
          go_at_call 73
          refine (cloneRow_any p.globals _ _ HGG.out (by omega)).mono ?_
          rintro e w6 ⟨v6, rfl, hr6, hb6⟩
          obtain ⟨a6, c6, rfl⟩ := ownsForm hr6.1
          have HR6 := Lib.hid hr6
          have HB56 := Lib.hid (below_then hb6 hq)
          have HQ6 := Lib.hid (SlAt.imp HQQ.out fun _ _ _ _ => PaAt.mono (cw_next hb6))
          have HV6 := Lib.hid (StrsAt.next HVV.out hb6)
          have hsz6 := hb6.size
          refine hK _ _ (fun _ => ⟨cell_next HB56.out X0.out, HY5.out.next HB56.out⟩) ?_
          clear hK K hr6 hb6
          try simp only [Act.put, List.setIfInBounds_toArray, List.set_cons_zero, List.set_cons_succ]
          refine' wpAnyZ_step (i := 4) (o := _) rfl (by kernel_rfl) (fun K hK => ?_)
          go_simp
          go_at_call 74
          refine (own_any f a1 a2 a3 a4 c1 c2 c3 c4 _ HQ6.out HV6.out (by omega)).mono ?_
          rintro e w7 ⟨v7, rfl, hr7, hb7⟩
          rw [hOL.out] at hr7
          obtain ⟨a7, c7, rfl⟩ := ownsForm hr7.1
          have HR7 := Lib.hid hr7
          have HB57 := Lib.hid (HB56.out.trans (hb7.mono HB56.out.size))
          have HR67 := Lib.hid (HR6.out.next hb7)
          have hsz7 := hb7.size
          have HF7 := Lib.hid HR6.out.2
          have HF8 := Lib.hid HR7.out.2
          have HS7 := Lib.hid (HR7.out.strs (by omega))
          refine hK _ _ (fun _ => ⟨cell_next HB57.out X0.out, HY5.out.next HB57.out⟩) ?_
          clear hK K hr7 hb7
          try simp only [Act.put, List.setIfInBounds_toArray, List.set_cons_zero, List.set_cons_succ]
          refine' wpAnyZ_step (i := 5) (o := _) rfl (by kernel_rfl) (fun K hK => ?_)
          refine step_append_sl _ (by rfl) (.tmp 23) (.tmp 25) 22 (by rfl) w5.drew.heap.size 9 i0 (.string ⟨#[]⟩) 1 16 Try.underlying22 hi hz0 hz1 hz2 rfl (by decide) _ p.globals.length (p.globals.map Value.string) (by rfl) HR67.out.1 a7 OL.length c7 (OL.map Value.string) (by rfl) HS7.out.news.2.1 (by rw [List.length_map, Nat.mul_one]) HS7.out.news.2.2 (str_all _) (by unfold maxLen; omega) (by omega) (by omega) ?_
          intro va8 vc8 w8 hown8 hg8 hat8
          have hbo : ∀ q, (Value.slice a6 p.globals.length c6).ownBlock = some q → w5.heap.size ≤ q := fun q hq' => by have := (HR6.out.lt q hq').1; simpa using this
          have HB8 := Lib.hid ((HB57.out).grown hg8 HB57.out.size hbo)
          have HR8 := Lib.hid (RowS.cat (l := p.globals) (m := OL) hown8 HF7.out HF8.out)
          refine hK _ _ (fun _ => ⟨cell_next HB8.out X0.out, HY5.out.next HB8.out⟩) ?_
          clear hK K hown8 hg8 hat8
          try simp only [Act.put, List.setIfInBounds_toArray, List.set_cons_zero, List.set_cons_succ]
          refine' wpAnyZ_step (i := 6) (o := _) rfl (by kernel_rfl) (fun K hK => ?_)
          go_simp
          refine hK _ _ (fun h => absurd rfl h) ?_
          clear hK K
          try simp only [Act.put, List.setIfInBounds_toArray, List.set_cons_zero, List.set_cons_succ]
          refine wpAnyZ_done (by kernel_rfl) ?_ _
          clear hS hq
          go_wp2_with fail
          go_ret
          refine ⟨_, rfl, ?_, HBW5.out.trans (HB8.out.mono HBW5.out.size)⟩
          rw [HK.out, hOL.out]
          exact HR8.out.mono (by have := HBW5.out.size; simp only [World.size_drew]; omega)
        | false =>
          have HC := Lib.hid hc
          go_wp2_with fail
          go_roundw
          case rel =>
            refine ⟨k + 1, by omega, by go_num, fun j hj hjk => ?_, HBR.out.trans (HB5.out.mono HBR.out.size)⟩
            rcases Nat.lt_or_ge j k with h | h
            · exact HNO.out j hj h
            · obtain rfl : j = k := by omega
              rw [hf.out]; exact HC.out
          case measure => simp [intOf]; omega
      · have hlt' : ¬ (k : Int) < (p.procs.length : Int) := by omega
        have hfn : p.procs.find? (fun f : Pc => f.nm.toList == s.toList) = none := fst_no fun j hj => HNO.out j hj (by omega)
        have HNON := Lib.hid hfn
        clear hfn
        go_wp2_with fail
        go_ret
        refine ⟨_, rfl, ?_, HBQ.out⟩
        rw [← hKK.out]
        unfold varsIn pcIn pcOf
        rw [if_pos hm1.out, HNON.out]
        exact RowS.nil _ _
end Go.Proofs.Ytghlmengcidmdaa.Tr
end
section
/- What holds of a program whose names are well. No program's code. Conditions: as each statement says. -/
namespace Go.Proofs.Ytghlmengcidmdaa.Tr
open Go.RowKit Go.Proofs.Ytghlmengcidmdaa.Lx Go.Proofs.Ytghlmengcidmdaa.Wd
theorem scope_code {p : Pr} (h : (scopeP p).1 = 0) : mayP p = true ∧ headFault p = false ∧ ∀ f ∈ p.procs, pcFault p.globals (procNs p) f = none := by
  unfold scopeP at h
  cases h1 : mayP p with
  | false => rw [h1] at h; simp at h
  | true =>
    rw [h1] at h
    cases h2 : headFault p with
    | true => rw [h2] at h; simp at h
    | false =>
      rw [h2] at h
      cases h3 : p.procs.findSome? (pcFault p.globals (procNs p)) with
      | some i => rw [h3] at h; simp at h
      | none => exact ⟨rfl, rfl, by rw [List.findSome?_eq_none_iff] at h3; exact h3⟩
theorem pc_parts {g procs : List ByteArray} {f : Pc} (h : pcFault g procs f = none) : twiceB (ownNs f) = false ∧ ((ownNs f).any fun n => inB n g) = false ∧ ∀ s ∈ stsOf f, knownS g f procs s = true := by
  unfold pcFault at h
  cases h1 : twiceB (ownNs f) with
  | true => rw [h1] at h; simp at h
  | false =>
    cases h2 : (ownNs f).any fun n => inB n g with
    | true => rw [h1, h2] at h; simp at h
    | false =>
      rw [h1, h2, Bool.or_false, if_neg Bool.false_ne_true, Option.map_eq_none_iff, List.find?_eq_none] at h
      exact ⟨rfl, rfl, fun s hs => by have := h s hs; simpa using this⟩
theorem head_parts {p : Pr} (h : headFault p = false) : twiceB p.globals = false ∧ twiceB (procNs p) = false ∧ ∃ f, pcOf p.procs sMain = some f ∧ f.params = [] := by
  unfold headFault at h
  rw [Bool.or_eq_false_iff, Bool.or_eq_false_iff] at h
  refine ⟨h.1.1, h.1.2, ?_⟩
  cases h3 : pcOf p.procs sMain with
  | none => rw [h3] at h; simp at h
  | some f =>
    rw [h3] at h
    refine ⟨f, rfl, ?_⟩
    have := h.2
    simp only [decide_eq_false_iff_not] at this
    exact List.eq_nil_of_length_eq_zero (by omega)
theorem nodup_of {l : List ByteArray} (h : twiceB l = false) : l.Nodup := by
  unfold twiceB at h
  simpa using h
theorem nodup_get {l : List ByteArray} (h : l.Nodup) {i j : Nat} (hi : i < l.length) (hj : j < l.length) (he : l[i] = l[j]) : i = j := (List.getElem_inj (h₀ := hi) (h₁ := hj) h).1 he
theorem pc_first {l : List Pc} (h : twiceB (l.map Pc.nm) = false) {k : Nat} (hk : k < l.length) : pcOf l l[k].nm = some l[k] := by
  unfold pcOf
  refine fst_at hk (fun j hj hjk => ?_) (same_text.2 rfl)
  rw [same_no]
  intro he
  have := nodup_get (nodup_of h) (i := j) (j := k) (by simpa using hj) (by simpa using hk) (by simpa using he)
  omega
theorem mod_at {n : Int} {k : Nat} (hk : 0 < k) : (n % (k : Int)).toNat < k ∧ n % (k : Int) = ((n % (k : Int)).toNat : Int) := by
  have h0 := Int.emod_nonneg n (b := (k : Int)) (by omega)
  have h1 := Int.emod_lt_of_pos n (b := (k : Int)) (by omega)
  omega
section
variable {p : Pr} {f : Pc} (hf : f ∈ p.procs) (h : (scopeP p).1 = 0)
include hf h
theorem well_pc : pcIn p f.nm = some f := by
  obtain ⟨h1, h2, -⟩ := scope_code h
  obtain ⟨-, h4, -⟩ := head_parts h2
  obtain ⟨k, hk, rfl⟩ := List.getElem_of_mem hf
  unfold pcIn
  rw [if_pos h1]
  exact pc_first h4 hk
end
theorem well_procs {p : Pr} (h : (scopeP p).1 = 0) : 0 < p.procs.length := by
  obtain ⟨-, h2, -⟩ := scope_code h
  obtain ⟨-, -, f, h3, -⟩ := head_parts h2
  have := List.mem_of_find?_eq_some h3
  exact List.length_pos_of_mem this
end Go.Proofs.Ytghlmengcidmdaa.Tr
end
section
/- A name more in a program: whether that is told. No program's code. Conditions: the program's names are well. -/
namespace Go.Proofs.Ytghlmengcidmdaa.Tr
open Go.RowKit Go.Proofs.Ytghlmengcidmdaa.Lx Go.Proofs.Ytghlmengcidmdaa.Wd
/-- A procedure with a name more. -/
def moreV (s : ByteArray) (f : Pc) : Pc := ⟨f.nm, f.params, f.vars ++ [s], f.body, f.fin⟩
def moreQ (s : ByteArray) (f : Pc) : Pc := ⟨f.nm, f.params ++ [⟨s, false⟩], f.vars, f.body, f.fin⟩
def addPc (g : Pc) (m : Nat) (p : Pr) : Pr := ⟨p.globals, p.procs.set m g⟩
def addG (s : ByteArray) (p : Pr) : Pr := ⟨p.globals ++ [s], p.procs⟩
theorem known_more {g g' procs : List ByteArray} {f f' : Pc} (h : ∀ x, x ∈ ownNs f ∨ x ∈ g → x ∈ ownNs f' ∨ x ∈ g') {t : St} (hk : knownS g f procs t = true) : knownS g' f' procs t = true := by
  unfold knownS at hk ⊢
  rw [Bool.and_eq_true] at hk ⊢
  refine ⟨?_, hk.2⟩
  rw [List.all_eq_true] at hk ⊢
  intro n hn
  have h1 := hk.1 n hn
  simp only [Bool.not_eq_true', beq_eq_false_iff_ne] at h1 ⊢
  intro h2
  rw [kind_zero] at h2
  apply h1
  rw [kind_zero]
  constructor
  · intro hx
    rcases h n (.inl hx) with h3 | h3
    · exact h2.1 h3
    · exact h2.2 h3
  · intro hx
    rcases h n (.inr hx) with h3 | h3
    · exact h2.1 h3
    · exact h2.2 h3
theorem twice_iff {l : List ByteArray} : twiceB l = false ↔ l.Nodup := by
  unfold twiceB
  rw [Bool.not_eq_false', decide_eq_true_iff]
theorem twice_not {l : List ByteArray} (h : ¬ l.Nodup) : twiceB l = true := by
  unfold twiceB
  rw [Bool.not_eq_true', decide_eq_false_iff_not]
  exact h
theorem any_no {l g : List ByteArray} : (l.any fun n => inB n g) = false ↔ ∀ x ∈ l, x ∉ g := by
  rw [List.any_eq_false]
  constructor
  · intro h x hx hg
    exact h x hx (inB_iff.2 hg)
  · intro h x hx hg
    exact h x hx (inB_iff.1 hg)
theorem any_yes {l g : List ByteArray} {x : ByteArray} (h : x ∈ l) (hg : x ∈ g) : (l.any fun n => inB n g) = true := List.any_eq_true.2 ⟨x, h, inB_iff.2 hg⟩
theorem add_names {p : Pr} {m : Nat} (hm : m < p.procs.length) {g : Pc} (hn : g.nm = p.procs[m].nm) : procNs (addPc g m p) = procNs p := by
  unfold procNs addPc
  show (p.procs.set m g).map Pc.nm = _
  refine List.ext_getElem (by simp) fun i h1 h2 => ?_
  simp only [List.getElem_map, List.getElem_set]
  split
  · rename_i he
    subst he
    exact hn
  · rfl
theorem add_pc {p : Pr} (h : (scopeP p).1 = 0) {m : Nat} (hm : m < p.procs.length) {g : Pc} {s : ByteArray} (hn : g.nm = p.procs[m].nm) (hb : g.body = p.procs[m].body) (hmem : ∀ x, x ∈ ownNs g ↔ x ∈ ownNs p.procs[m] ∨ x = s) (hnod : (ownNs g).Nodup ↔ s ∉ ownNs p.procs[m])
    (hmain : p.procs[m].nm = sMain → g.params = []) (hmay : mayP (addPc g m p) = true) :
    (s ∈ p.globals ++ ownNs p.procs[m] → scopeP (addPc g m p) = (5, 0)) ∧ (s ∉ p.globals ++ ownNs p.procs[m] → scopeP (addPc g m p) = (0, 0)) := by
  obtain ⟨h1, h2, h3⟩ := scope_code h
  obtain ⟨h4, h5, f0, h6, h7⟩ := head_parts h2
  have hpn := add_names hm hn
  have hlen : (addPc g m p).procs.length = p.procs.length := List.length_set
  have hget : ∀ j (hj : j < (addPc g m p).procs.length) (hj' : j < p.procs.length), j ≠ m → (addPc g m p).procs[j] = p.procs[j] := fun j hj hj' hne => by
    show (p.procs.set m g)[j]'(by rw [List.length_set]; exact hj') = _
    rw [List.getElem_set, if_neg (fun e => hne e.symm)]
  have hgm : ∀ (hj : m < (addPc g m p).procs.length), (addPc g m p).procs[m] = g := fun hj => by
    show (p.procs.set m g)[m]'(by rw [List.length_set]; exact hm) = _
    rw [List.getElem_set, if_pos rfl]
  have hhead : headFault (addPc g m p) = false := by
    have h6' := h6
    unfold pcOf at h6'
    have hf0 : f0 ∈ p.procs := List.mem_of_find?_eq_some h6'
    have hx := List.find?_some h6'
    have hf0n : f0.nm = sMain := same_text.1 hx
    obtain ⟨k, hk, hkf⟩ := List.getElem_of_mem hf0
    have hk' : k < (addPc g m p).procs.length := by rw [hlen]; exact hk
    have h5' : twiceB ((addPc g m p).procs.map Pc.nm) = false := by
      have : (addPc g m p).procs.map Pc.nm = procNs (addPc g m p) := rfl
      rw [this, hpn]; exact h5
    have h8 := pc_first h5' hk'
    have h9 : (addPc g m p).procs[k].nm = sMain ∧ (addPc g m p).procs[k].params = [] := by
      by_cases hkm : k = m
      · subst hkm
        rw [hgm hk', hn, hkf, hf0n]
        exact ⟨rfl, hmain (by rw [hkf, hf0n])⟩
      · rw [hget k hk' hk hkm, hkf]
        exact ⟨hf0n, h7⟩
    rw [h9.1] at h8
    rw [head_some (p := addPc g m p) h4 (by rw [hpn]; exact h5) h8, h9.2]
    rfl
  have hst : stsOf g = stsOf p.procs[m] := by
    unfold stsOf itsOf
    rw [hb]
  have hold := h3 _ (List.getElem_mem hm)
  obtain ⟨p1, p2, p3⟩ := pc_parts hold
  rw [twice_iff] at p1
  rw [any_no] at p2
  have hj0 : ∀ j (hj : j < (addPc g m p).procs.length), j ≠ m → pcFault (addPc g m p).globals (procNs (addPc g m p)) (addPc g m p).procs[j] = none := fun j hj hjm => by
    have hj' : j < p.procs.length := by rw [← hlen]; exact hj
    rw [hget j hj hj' hjm, hpn]
    exact h3 _ (List.getElem_mem hj')
  have hm' : m < (addPc g m p).procs.length := by rw [hlen]; exact hm
  refine ⟨fun hs => ?_, fun hs => ?_⟩
  · refine scope_at hmay hhead hm' (fun j hj hjm => hj0 j hj (by omega)) ?_
    rw [hgm hm']
    rcases List.mem_append.1 hs with hs | hs
    · exact pc_in (any_yes ((hmem s).2 (.inr rfl)) hs)
    · exact pc_dup (twice_not fun hx => (hnod.1 hx) hs)
  · rw [List.mem_append, not_or] at hs
    refine scope_ok hmay hhead fun j hj => ?_
    by_cases hjm : j = m
    · subst hjm
      rw [hgm hj]
      refine pc_ok (twice_iff.2 (hnod.2 hs.2)) (any_no.2 fun x hx => ?_) fun i hi => ?_
      · rcases (hmem x).1 hx with hx | hx
        · exact p2 x hx
        · rw [hx]; exact hs.1
      · rw [hpn]
        refine known_more (f := p.procs[j]) (g := p.globals) (fun x hx => ?_) (p3 _ (by rw [← hst]; exact List.getElem_mem hi))
        rcases hx with hx | hx
        · exact .inl ((hmem x).2 (.inl hx))
        · exact .inr hx
    · exact hj0 j hj hjm
theorem add_v {p : Pr} (h : (scopeP p).1 = 0) {m : Nat} (hm : m < p.procs.length) {s : ByteArray} (hmay : mayP (addPc (moreV s p.procs[m]) m p) = true) :
    (s ∈ p.globals ++ ownNs p.procs[m] → scopeP (addPc (moreV s p.procs[m]) m p) = (5, 0)) ∧ (s ∉ p.globals ++ ownNs p.procs[m] → scopeP (addPc (moreV s p.procs[m]) m p) = (0, 0)) := by
  obtain ⟨-, h2, h3⟩ := scope_code h
  obtain ⟨p1, -, -⟩ := pc_parts (h3 _ (List.getElem_mem hm))
  rw [twice_iff] at p1
  obtain ⟨-, h5, f0, h6, h7⟩ := head_parts h2
  have ho : ownNs (moreV s p.procs[m]) = ownNs p.procs[m] ++ [s] := by
    unfold ownNs moreV
    rw [List.append_assoc]
  refine add_pc h hm rfl rfl (fun x => ?_) ?_ (fun hmn => ?_) hmay
  · rw [ho]; simp
  · rw [ho, List.nodup_append]
    simp only [p1, true_and, List.mem_singleton, forall_eq]
    constructor
    · intro hx hs
      exact hx.2 s hs rfl
    · intro hx
      exact ⟨by simp, fun a ha hh => hx (hh ▸ ha)⟩
  · have h8 := pc_first h5 hm
    rw [hmn, h6] at h8
    injection h8 with h8
    rw [h8] at h7
    exact h7
theorem add_q {p : Pr} (h : (scopeP p).1 = 0) {m : Nat} (hm : m < p.procs.length) {s : ByteArray} (hmay : mayP (addPc (moreQ s p.procs[m]) m p) = true) :
    (s ∈ p.globals ++ ownNs p.procs[m] ∨ p.procs[m].nm = sMain → scopeP (addPc (moreQ s p.procs[m]) m p) = (5, 0)) ∧ (¬ (s ∈ p.globals ++ ownNs p.procs[m] ∨ p.procs[m].nm = sMain) → scopeP (addPc (moreQ s p.procs[m]) m p) = (0, 0)) := by
  obtain ⟨-, h2, h3⟩ := scope_code h
  obtain ⟨p1, -, -⟩ := pc_parts (h3 _ (List.getElem_mem hm))
  rw [twice_iff] at p1
  obtain ⟨h4, h5, f0, h6, h7⟩ := head_parts h2
  by_cases hmn : p.procs[m].nm = sMain
  · refine ⟨fun _ => ?_, fun hh => absurd (Or.inr hmn) hh⟩
    refine scope_head hmay ?_
    have hpn := add_names hm (g := moreQ s p.procs[m]) rfl
    have hm' : m < (addPc (moreQ s p.procs[m]) m p).procs.length := by show m < (p.procs.set m _).length; rw [List.length_set]; exact hm
    have hgm : (addPc (moreQ s p.procs[m]) m p).procs[m] = moreQ s p.procs[m] := by
      show (p.procs.set m (moreQ s p.procs[m]))[m]'(by rw [List.length_set]; exact hm) = _
      rw [List.getElem_set, if_pos rfl]
    have h5' : twiceB ((addPc (moreQ s p.procs[m]) m p).procs.map Pc.nm) = false := by
      have : (addPc (moreQ s p.procs[m]) m p).procs.map Pc.nm = procNs (addPc (moreQ s p.procs[m]) m p) := rfl
      rw [this, hpn]; exact h5
    have h8 := pc_first h5' hm'
    rw [hgm, show (moreQ s p.procs[m]).nm = sMain from hmn] at h8
    rw [head_some (p := addPc (moreQ s p.procs[m]) m p) h4 (by rw [hpn]; exact h5) h8]
    simp [moreQ]
  · have hperm : (ownNs (moreQ s p.procs[m])).Perm (ownNs p.procs[m] ++ [s]) := by
      unfold ownNs moreQ
      simp only [List.map_append, List.map_cons, List.map_nil, List.append_assoc]
      exact List.Perm.append_left _ List.perm_append_comm
    obtain ⟨hA, hB⟩ := add_pc h hm (g := moreQ s p.procs[m]) (s := s) rfl rfl (fun x => by rw [hperm.mem_iff]; simp) (by
      rw [hperm.nodup_iff, List.nodup_append]
      simp only [p1, true_and, List.mem_singleton, forall_eq]
      constructor
      · intro hx hs
        exact hx.2 s hs rfl
      · intro hx
        exact ⟨by simp, fun a ha hh => hx (hh ▸ ha)⟩) (fun hh => absurd hh hmn) hmay
    exact ⟨fun hs => hA (hs.resolve_right hmn), fun hs => hB fun hh => hs (.inl hh)⟩
theorem some_zero {α : Type} {F : α → Option Int} : ∀ {l : List α}, (∀ a ∈ l, F a = none ∨ F a = some 0) → (∃ a ∈ l, F a = some 0) → l.findSome? F = some 0 := by
  intro l
  induction l with
  | nil => rintro - ⟨a, ha, -⟩; cases ha
  | cons a r ih =>
    intro h ⟨b, hb, hF⟩
    rw [List.findSome?_cons]
    rcases h a List.mem_cons_self with ha | ha
    · rw [ha]
      refine ih (fun c hc => h c (List.mem_cons_of_mem _ hc)) ?_
      rcases List.mem_cons.1 hb with rfl | hb
      · rw [ha] at hF; cases hF
      · exact ⟨b, hb, hF⟩
    · rw [ha]
theorem add_g {p : Pr} (h : (scopeP p).1 = 0) {s : ByteArray} (hmay : mayP (addG s p) = true) :
    p.procs ≠ [] → ((∃ f ∈ p.procs, s ∈ p.globals ++ ownNs f) → scopeP (addG s p) = (5, 0)) ∧ (¬ (∃ f ∈ p.procs, s ∈ p.globals ++ ownNs f) → scopeP (addG s p) = (0, 0)) := by
  intro hne
  obtain ⟨h1, h2, h3⟩ := scope_code h
  obtain ⟨h4, h5, f0, h6, h7⟩ := head_parts h2
  rw [twice_iff] at h4
  by_cases hg : s ∈ p.globals
  · refine ⟨fun _ => ?_, fun hh => ?_⟩
    · refine scope_head hmay (head_glob (twice_not fun hx => ?_))
      have hx' : (p.globals ++ [s]).Nodup := hx
      rw [List.nodup_append] at hx'
      exact hx'.2.2 s hg s (List.mem_singleton.2 rfl) rfl
    · obtain ⟨f, hf⟩ := List.exists_mem_of_ne_nil _ hne
      exact absurd ⟨f, hf, List.mem_append.2 (.inl hg)⟩ hh
  · have hhead : headFault (addG s p) = false := by
      have h4' : twiceB (addG s p).globals = false := by
        rw [twice_iff]
        show (p.globals ++ [s]).Nodup
        rw [List.nodup_append]
        refine ⟨h4, by simp, fun a ha b hb e => ?_⟩
        rw [List.mem_singleton] at hb
        rw [e, hb] at ha
        exact hg ha
      rw [head_some (p := addG s p) h4' h5 h6, h7]
      rfl
    have hin : ∀ f ∈ p.procs, s ∈ ownNs f → pcFault (p.globals ++ [s]) (procNs p) f = some 0 := fun f hf hs => pc_in (any_yes hs (by simp))
    have hout : ∀ f ∈ p.procs, s ∉ ownNs f → pcFault (p.globals ++ [s]) (procNs p) f = none := fun f hf hs => by
      obtain ⟨p1, p2, p3⟩ := pc_parts (h3 f hf)
      rw [any_no] at p2
      refine pc_ok p1 (any_no.2 fun x hx hxg => ?_) fun i hi => known_more (f := f) (g := p.globals) (fun x hx => ?_) (p3 _ (List.getElem_mem hi))
      · rcases List.mem_append.1 hxg with hxg | hxg
        · exact p2 x hx hxg
        · rw [List.mem_singleton] at hxg
          rw [hxg] at hx
          exact hs hx
      · rcases hx with hx | hx
        · exact .inl hx
        · exact .inr (List.mem_append.2 (.inl hx))
    refine ⟨fun hex => ?_, fun hex => ?_⟩
    · have hfs : (addG s p).procs.findSome? (pcFault (addG s p).globals (procNs (addG s p))) = some 0 := by
        refine some_zero (fun f hf => ?_) ?_
        · by_cases hs : s ∈ ownNs f
          · exact .inr (hin f hf hs)
          · exact .inl (hout f hf hs)
        · obtain ⟨f, hf, hs⟩ := hex
          rcases List.mem_append.1 hs with hs | hs
          · exact absurd hs hg
          · exact ⟨f, hf, hin f hf hs⟩
      unfold scopeP
      rw [hmay, hhead, hfs]
      rfl
    · refine scope_ok hmay hhead fun j hj => ?_
      refine hout _ (List.getElem_mem hj) fun hs => hex ⟨_, List.getElem_mem hj, List.mem_append.2 (.inr hs)⟩
/-- Room in a program with a name more. -/
theorem room_more {p q : Pr} (hw : wtPr p ≤ 20000) (hg : q.globals.length ≤ p.globals.length + 1) (hl : q.procs.length = p.procs.length)
    (hf : ∀ k (h : k < q.procs.length) (h' : k < p.procs.length), q.procs[k].body = p.procs[k].body ∧ q.procs[k].fin = p.procs[k].fin ∧ q.procs[k].params.length + q.procs[k].vars.length ≤ p.procs[k].params.length + p.procs[k].vars.length + 1) : RoomP q := by
  have R : RoomP p := RoomP.of (Nat.le_trans hw (by decide))
  have hq : ∀ f ∈ q.procs, ∃ f' ∈ p.procs, f.body = f'.body ∧ f.fin = f'.fin ∧ f.params.length + f.vars.length ≤ f'.params.length + f'.vars.length + 1 := fun f hx => by
    obtain ⟨k, hk, rfl⟩ := List.getElem_of_mem hx
    exact ⟨_, List.getElem_mem (by omega), hf k hk (by omega)⟩
  have hwp := hw
  unfold wtPr at hwp
  have h1 := wtTs_len p.globals
  refine ⟨?_, by rw [hl]; exact R.procs, by omega, fun f hx => ?_, fun f hx t ht => ?_, fun f hx => ?_⟩
  · have : cntP q.procs = cntP p.procs := by
      unfold cntP
      congr 1
      refine List.ext_getElem (by simp [hl]) fun i h1 h2 => ?_
      simp only [List.getElem_map]
      rw [(hf i (by simpa using h1) (by simpa using h2)).1]
    rw [this]; exact R.cnt
  · obtain ⟨f', hf', -, -, h4⟩ := hq f hx
    have h5 := sum_mem wtPc p.procs f' hf'
    have h6 := wtPas_len f'.params
    have h7 := wtTs_len f'.vars
    unfold wtPc at h5
    unfold wtPc at hwp
    omega
  · obtain ⟨f', hf', h4, -, -⟩ := hq f hx
    have : stsOf f = stsOf f' := by unfold stsOf itsOf; rw [h4]
    rw [this] at ht
    exact R.said f' hf' t ht
  · obtain ⟨f', hf', h4, h5, -⟩ := hq f hx
    have : labsOf f = labsOf f' := by unfold labsOf stsOf itsOf; rw [h4, h5]
    rw [this]
    exact R.labs f' hf'
end Go.Proofs.Ytghlmengcidmdaa.Tr
end
