/- Parts of ZoneN, ZoneP: walks and plain laws that later texts use. Conditions: as each statement says. -/
import Derived.Test.YtghlmengcidmdaaTw0
import Derived.Test.YtghlmengcidmdaaTw1
import Derived.Test.YtghlmengcidmdaaTw2
import Derived.Test.YtghlmengcidmdaaTw3
import Derived.Test.YtghlmengcidmdaaTw4
import Derived.Test.YtghlmengcidmdaaTw5
import Derived.Test.YtghlmengcidmdaaTw6
import Derived.Test.YtghlmengcidmdaaTw7
import Derived.Test.YtghlmengcidmdaaTw8
import Derived.Test.YtghlmengcidmdaaTw9
import Derived.Test.YtghlmengcidmdaaTw10
import Derived.Test.YtghlmengcidmdaaTw11
import Derived.Test.YtghlmengcidmdaaTw12
import Derived.Test.YtghlmengcidmdaaTw13
import Derived.Test.YtghlmengcidmdaaTw14
import Derived.Test.YtghlmengcidmdaaTw15
import Derived.Laws.StructEq
import Derived.Deep.DeepCutAuto
import Derived.Deep.RegionHeld3
import Derived.Deep.QuietTactic
import Derived.BigQuiet
import Derived.Deep.Slices
import Derived.Deep.Fields
import Derived.Lib.SmallJoins
import Derived.SliceStrings
import Derived.ChangeSlices
import Derived.IntWalk
import Derived.Deep.RegionLaw
import Derived.Deep.CutBlock
import Derived.WalkKit
import Derived.Test.YtghlmengcidmdaaRows
import Derived.WalkSpells
import Derived.Lib.Hide
import Derived.Below
import Derived.Laws.BitsAllLaws
import Derived.OwnWalk
import Derived.OneCell
import Derived.Deep.AppendLies
import Derived.Deep.RegionWith
import Derived.Laws.Cover3
import Derived.StillTailTactics
import Derived.RegionTactic
import Derived.Maps.Range
import Derived.Outline
import Derived.Deep.Upon
import Derived.Maps.AppendAt
import Derived.Laws.OwnMore
import Derived.OrdersHeld
import Derived.WalkSmall
section
/- A row of a program made anew, with a thing more: what lies in memory then. No program's code. Conditions: none. -/
namespace Go.Proofs.Ytghlmengcidmdaa.Tr
open Go.RowKit Go.Proofs.Ytghlmengcidmdaa.Lx Go.Proofs.Ytghlmengcidmdaa.Wd
theorem acc_cell {α : Type} {Q : Cs → List Value → α → Prop} {B : Nat} {t : TypeId} {z : Nat} {w : World} {v : Value} {l : List α} {rows : List (List Value)} (h : Acc Q B t z w v l rows) {g : Nat} (hv : v.ownBlock = some g) {i j : Nat} {u : Value} (hi : i < rows.length) (hu : rows[i][j]? = some u) : w.cell? ⟨g, i * z + j, none⟩ = some u := by
  have := h.own.cells hv (i * z + j) u (flat_get rows i j u h.wide hi hu)
  rw [Addr.add_lit, Nat.zero_add] at this
  exact this
theorem acc_soft {α : Type} {Q : Cs → List Value → α → Prop} {B : Nat} {t : TypeId} {z : Nat} {w : World} {v : Value} {l : List α} {rows : List (List Value)} (h : Acc Q B t z w v l rows) {g : Nat} (hv : v.ownBlock = some g) : Free w g := fun j => by
  rcases h.own.2 with ⟨hn, -⟩ | ⟨g', cap, cur, hv', h1, h2, -⟩
  · rw [hn] at hv; cases hv
  · have hgg : g' = g := by rw [hv'] at hv; simpa [Value.ownBlock] using hv
    subst hgg
    simp [World.frozen?, h2]
theorem paRows_app : ∀ (l m : List Pa), paRows (l ++ m) = paRows l ++ paRows m := by
  intro l
  induction l with
  | nil => intro m; rfl
  | cons q r ih => intro m; simp only [List.cons_append, paRows, ih]
variable {d lo M N : Nat} {w wE : World} {f : Pc} {pv vv bv fv x : Value} {s : ByteArray}
theorem zone_vars (h1 : lo ≤ M) (h2 : M ≤ N) (h4 : f.nm.size ≤ 9223372036854775807) (h5 : ∀ g, vv.ownBlock = some g → g < M)
    (h6 : StrC (only (fun g => M ≤ g ∧ g < N) (cw w)) fv f.fin) (h7 : StC (only (fun g => M ≤ g ∧ g < N) (cw w)) d bv f.body) (h8 : w.ownsRow N 62 2 pv f.params.length (paRows f.params)) (h9 : ∀ q ∈ f.params, q.nm.size ≤ 9223372036854775807) (h10 : f.params.length ≤ 9223372036854775807)
    (ha : ∀ g, lo ≤ g → g < w.heap.size → vv.ownBlock ≠ some g → wE.heap[g]? = w.heap[g]?) (hx : StrC (cw wE) x (f.vars ++ [s])) : PcQ d (cw wE) [.string f.nm, pv, x, bv, fv] (moreV s f) := by
  have hle : Cs.le (only (fun g => M ≤ g ∧ g < N) (cw w)) (cw wE) := Cs.le_trans (cs_same (T := fun _ => True) fun g hg hl => ⟨ha g (by omega) hl (fun e => by have := h5 g e; omega), trivial⟩) only_out
  refine ⟨pv, x, bv, fv, rfl, h4, ?_, hx, StC.mono hle h7, StrC.mono hle h6⟩
  have h11 : wE.ownsRow N 62 2 pv f.params.length (paRows f.params) := owns_same h8 fun g hg => by
    have h12 := h8.lt g hg
    exact ha g (by omega) h12.2 (fun e => by have := h5 g e; omega)
  exact SlAt.imp (pa_owned h11 rfl h10 h9) fun _ _ _ _ => PaAt.mono only_out
theorem zone_pars (h1 : lo ≤ M) (h2 : M ≤ N) (h4 : f.nm.size ≤ 9223372036854775807) (h5 : ∀ g, vv.ownBlock = some g → g < M)
    (h6 : StrC (only (fun g => M ≤ g ∧ g < N) (cw w)) fv f.fin) (h7 : StC (only (fun g => M ≤ g ∧ g < N) (cw w)) d bv f.body) (h8 : RowS lo w vv f.vars) (h9 : ∀ g, pv.ownBlock = some g → N ≤ g) (h10 : f.vars.length ≤ 9223372036854775807)
    (ha : ∀ g, lo ≤ g → g < w.heap.size → pv.ownBlock ≠ some g → wE.heap[g]? = w.heap[g]?) (hx : SlAt 2 (PaAt (cw wE)) x (f.params ++ [⟨s, false⟩])) : PcQ d (cw wE) [.string f.nm, x, vv, bv, fv] (moreQ s f) := by
  have hle : Cs.le (only (fun g => M ≤ g ∧ g < N) (cw w)) (cw wE) := Cs.le_trans (cs_same (T := fun _ => True) fun g hg hl => ⟨ha g (by omega) hl (fun e => by have := h9 g e; omega), trivial⟩) only_out
  refine ⟨x, vv, bv, fv, rfl, h4, hx, ?_, StC.mono hle h7, StrC.mono hle h6⟩
  have h11 : RowS lo wE vv f.vars := rows_same h8 fun g hg => by
    have h12 := h8.lt g hg
    exact ha g h12.1 h12.2 (fun e => by have h13 := h9 g e; have h14 := h5 g hg; omega)
  exact StrC.mono only_out (strs_owned h11.1 rfl h10 h11.2)
variable {p : Pr} {gv P : Value} {rows : List (List Value)} {B b : Nat} {Lo : Nat → Nat} {W : Nat → World} {m j G : Nat} {X : Option Nat} {f' : Pc}
theorem zone_apart (hz : Zones d p.procs rows w P B Lo W) {i : Nat} (hi : i < p.procs.length) (hm : m < p.procs.length) (hne : i ≠ m) {g : Nat} (h1 : Lo i ≤ g) (h2 : g < (W i).heap.size) : ¬ (Lo m ≤ g ∧ g < (W m).heap.size) := by
  rintro ⟨h3, h4⟩
  rcases Nat.lt_or_gt_of_ne hne with h | h
  · have := hz.apart i m h hm; omega
  · have := hz.apart m i h hi; omega
theorem more_row (acc : Acc (PcQ d) B 55 5 w P p.procs rows) (hz : Zones d p.procs rows w P B Lo W) (hg : RowS b w gv p.globals) (hgl : ∀ g, gv.ownBlock = some g → g < B) (hG : P.ownBlock = some G) (hm : m < p.procs.length) (hm' : m < rows.length)
    (hX : ∀ g, X = some g → Lo m ≤ g ∧ g < (W m).heap.size) (h0 : ∀ g, g < w.heap.size → X ≠ some g → g ≠ G → wE.heap[g]? = w.heap[g]?) (hG1 : ∀ o u, o ≠ m * 5 + j → w.cell? ⟨G, o, none⟩ = some u → wE.cell? ⟨G, o, none⟩ = some u) (hG2 : wE.cell? ⟨G, m * 5 + j, none⟩ = some x) (hj : j < 5)
    (hlen : p.globals.length ≤ 9223372036854775807 ∧ ∀ f ∈ p.procs, f.params.length ≤ 9223372036854775807 ∧ f.vars.length ≤ 9223372036854775807) (hq : PcQ d (cw wE) (rows[m].set j x) f') : PrC (cw wE) d gv P (addPc f' m p) := by
  have hrl := acc.len
  have hGB : B ≤ G ∧ G < w.heap.size := acc.own.lt G hG
  constructor
  · have h1 : RowS b wE gv p.globals := rows_same hg fun g hgg => h0 g (hg.lt g hgg).2 (fun e => by have h2 := hX g e; have h3 := hgl g hgg; have h4 := (hz.lo m hm).1; omega) (by have := hgl g hgg; omega)
    exact StrC.mono only_out (strs_owned h1.1 rfl hlen.1 h1.2)
  · obtain ⟨a, c, hP⟩ := ownsForm acc.own
    have hl : (p.procs.set m f').length = p.procs.length := List.length_set
    have hmax := acc.max
    rcases acc.own.2 with ⟨hn, -⟩ | ⟨g', cap, cur, h1, h2, h3, h4, h5, h6⟩
    · rw [hn] at hG; cases hG
    · have hgg : g' = G := by rw [h1] at hG; simpa [Value.ownBlock] using hG
      subst hgg
      refine ⟨some ⟨g', 0, none⟩, cap, by rw [h1]; show _ = Value.slice _ (p.procs.set m f').length _; rw [hl], by show (p.procs.set m f').length ≤ _; rw [hl]; exact h4, by unfold maxLen at h5; omega, fun _ => ⟨g', 0, rfl, fun i hi => ?_⟩⟩
      have hi' : i < p.procs.length := by rw [← hl]; exact hi
      have hir : i < rows.length := by omega
      have hcell : ∀ q u, rows[i][q]? = some u → w.cell? ⟨g', i * 5 + q, none⟩ = some u := fun q u hu => acc_cell acc hG hir hu
      have hw5 : rows[i].length = 5 := acc.wide _ (List.getElem_mem hir)
      show PcAt (cw wE) d g' (0 + i * 5) ((p.procs.set m f')[i]'hi)
      rw [Nat.zero_add]
      by_cases him : i = m
      · subst him
        have e1 : (p.procs.set i f')[i]'hi = f' := List.getElem_set_self _
        rw [e1]
        refine PcQ.at_ d _ _ _ _ _ hq fun q u hu => ?_
        show wE.cell? ⟨g', i * 5 + q, none⟩ = some u
        by_cases hqj : q = j
        · subst hqj
          rw [List.getElem?_set_self (by omega)] at hu
          cases hu
          exact hG2
        · rw [List.getElem?_set_ne (fun e => hqj e.symm)] at hu
          exact hG1 _ _ (by omega) (hcell q u hu)
      · have e1 : (p.procs.set m f')[i]'hi = p.procs[i] := List.getElem_set_ne (fun e => him e.symm) _
        rw [e1]
        have hle := hlen.2 _ (List.getElem_mem hi')
        refine PcQ.at_ d _ _ _ _ _ ((hz.pc i hi' hir).q (w' := wE) (fun g hg1 hg2 => ?_) hle.1 hle.2) fun q u hu => ?_
        · have h7 := hz.lo i hi'
          have h8 := hz.out i hi' g' hG
          rw [h0 g (by omega) (fun e => zone_apart hz hi' hm him hg1 hg2 (hX g e)) (by omega)]
          exact hz.kept i hi' g hg1 hg2
        · have hq5 : q < 5 := by have := (List.getElem?_eq_some_iff.1 hu).1; omega
          show wE.cell? ⟨g', i * 5 + q, none⟩ = some u
          refine hG1 _ _ ?_ (hcell q u hu)
          intro e
          apply him
          omega
theorem more_glob (acc : Acc (PcQ d) B 55 5 w P p.procs rows) (hz : Zones d p.procs rows w P B Lo W) (hgl : ∀ g, X = some g → g < B)
    (h0 : ∀ g, g < w.heap.size → X ≠ some g → wE.heap[g]? = w.heap[g]?) (hlen : ∀ f ∈ p.procs, f.params.length ≤ 9223372036854775807 ∧ f.vars.length ≤ 9223372036854775807) (hx : StrC (cw wE) x (p.globals ++ [s])) : PrC (cw wE) d x P (addG s p) := by
  have hrl := acc.len
  refine ⟨hx, ?_⟩
  show SlAt 5 (PcAt (cw wE) d) P p.procs
  rcases acc.own.2 with ⟨hn, h1⟩ | ⟨g', cap, cur, h1, h2, h3, h4, h5, h6⟩
  · have : p.procs = [] := List.eq_nil_of_length_eq_zero h1
    rw [this, hn]
    exact SlAt.nil
  · have hG : P.ownBlock = some g' := by rw [h1]; rfl
    have hGB := acc.own.lt g' hG
    refine ⟨some ⟨g', 0, none⟩, cap, h1, h4, by unfold maxLen at h5; omega, fun _ => ⟨g', 0, rfl, fun i hi => ?_⟩⟩
    have hir : i < rows.length := by omega
    rw [Nat.zero_add]
    have hle := hlen _ (List.getElem_mem hi)
    refine PcQ.at_ d _ _ _ _ _ ((hz.pc i hi hir).q (w' := wE) (fun g hg1 hg2 => ?_) hle.1 hle.2) fun q u hu => ?_
    · have h7 := hz.lo i hi
      rw [h0 g (by omega) (fun e => by have := hgl g e; omega)]
      exact hz.kept i hi g hg1 hg2
    · show wE.cell? ⟨g', i * 5 + q, none⟩ = some u
      rw [World.cell?_of_block (a := ⟨g', i * 5 + q, none⟩) (h0 g' hGB.2 (fun e => by have := hgl g' e; omega))]
      exact acc_cell acc hG hir hu
end Go.Proofs.Ytghlmengcidmdaa.Tr
end
section
/- A name more written into a program made anew. No program's code. Conditions: none. -/
namespace Go.Proofs.Ytghlmengcidmdaa.Tr
open Go.RowKit Go.Proofs.Ytghlmengcidmdaa.Lx Go.Proofs.Ytghlmengcidmdaa.Wd
/-- What PcZ tells of a procedure's rows. -/
def ZoneF (d lo : Nat) (w : World) (M N : Nat) (pv vv bv fv : Value) (f : Pc) : Prop := f.nm.size ≤ 9223372036854775807 ∧ lo ≤ M ∧ M ≤ N ∧ N ≤ w.heap.size ∧
  RowS lo w vv f.vars ∧ (∀ g, vv.ownBlock = some g → g < M) ∧
  StrC (only (fun g => M ≤ g ∧ g < N) (cw w)) fv f.fin ∧ StC (only (fun g => M ≤ g ∧ g < N) (cw w)) d bv f.body ∧
  w.ownsRow N 62 2 pv f.params.length (paRows f.params) ∧ (∀ q ∈ f.params, q.nm.size ≤ 9223372036854775807)
variable {d M N : Nat} {w wl w4 : World} {f : Pc} {pv vv bv fv v4 : Value} {s : ByteArray} {p : Pr} {gv P : Value} {rows : List (List Value)} {B b : Nat} {Lo : Nat → Nat} {W : Nat → World} {m G : Nat}
theorem grow_h0 {X : Option Nat} {o : Nat} {u : Value} (hb : Below w.heap.size w wl) (hgr : wl.grownBy w4 X) : ∀ g, g < w.heap.size → X ≠ some g → g ≠ G → (w4.setCell ⟨G, o, none⟩ u).heap[g]? = w.heap[g]? := fun g h1 h2 h3 => by
  rw [set_block h3, hgr.block g (Nat.lt_of_lt_of_le h1 hb.size) (fun e => h2 e.symm)]
  exact hb.block g h1
theorem grow_g {X : Option Nat} (hb : Below w.heap.size w wl) (hgr : wl.grownBy w4 X) (hX : X ≠ some G) {o : Nat} {u : Value} (h : w.cell? ⟨G, o, none⟩ = some u) : w4.cell? ⟨G, o, none⟩ = some u := by
  rw [World.cell?_of_block (a := ⟨G, o, none⟩) (show w4.heap[G]? = w.heap[G]? by rw [hgr.block G (Nat.lt_of_lt_of_le (cell_lt h) hb.size) (fun e => hX e.symm)]; exact hb.block G (cell_lt h))]
  exact h
theorem grow_g1 {X : Option Nat} (hb : Below w.heap.size w wl) (hgr : wl.grownBy w4 X) (hX : X ≠ some G) {c : Nat} {x : Value} : ∀ o u, o ≠ c → w.cell? ⟨G, o, none⟩ = some u → (w4.setCell ⟨G, c, none⟩ x).cell? ⟨G, o, none⟩ = some u := fun o u ho h => by
  rw [World.cell?_setCell_other _ _ _ _ (fun e => ho (by have := congrArg Addr.off e; simpa using this.symm))]
  exact grow_g hb hgr hX h
theorem box_grown {X : Option Nat} {g : Nat} {cs : List Value} (h : BoxAt w g cs) (hg : w.grownBy w4 X) (hX : X ≠ some g) : BoxAt w4 g cs := fun j u hu => by
  have h1 := h j u hu
  rw [World.cell?_of_block (a := ⟨g, j, none⟩) (hg.block g (cell_lt h1) (fun e => hX e.symm))]
  exact h1
theorem free_row {X : Option Nat} {g : Nat} (h : Free w g) (hl : g < w.heap.size) (hg : w.grownBy w4 X) (hX : X ≠ some g) : Free w4 g := fun j => by
  rw [World.frozen?_of_block (a := ⟨g, j, none⟩) (hg.block g hl (fun e => hX e.symm))]
  exact h j
theorem zone_kept (hz : Zones d p.procs rows w P B Lo W) (hm : m < p.procs.length) {v : Value} {l : List ByteArray} (h : RowS (Lo m) (W m) v l) : RowS (Lo m) w v l := rows_same h fun g hg => hz.kept m hm g (h.lt g hg).1 (h.lt g hg).2
theorem zone_keptP (hz : Zones d p.procs rows w P B Lo W) (hm : m < p.procs.length) {v : Value} {n : Nat} {l : List Value} (hN : Lo m ≤ N) (h : (W m).ownsRow N 62 2 v n l) : w.ownsRow N 62 2 v n l := owns_same h fun g hg => hz.kept m hm g (by have := (h.lt g hg).1; omega) (h.lt g hg).2
theorem put_vars (acc : Acc (PcQ d) B 55 5 w P p.procs rows) (hz : Zones d p.procs rows w P B Lo W) (hg : RowS b w gv p.globals) (hgl : ∀ g, gv.ownBlock = some g → g < B) (hG : P.ownBlock = some G) (hm : m < p.procs.length) (hm' : m < rows.length)
    (hrow : rows[m] = [.string f.nm, pv, vv, bv, fv]) (hF : ZoneF d (Lo m) (W m) M N pv vv bv fv f)
    (hlen : p.globals.length ≤ 9223372036854775807 ∧ ∀ f ∈ p.procs, f.params.length ≤ 9223372036854775807 ∧ f.vars.length ≤ 9223372036854775807) (hlf : f.params.length ≤ 9223372036854775807 ∧ f.vars.length + 1 ≤ 9223372036854775807)
    (hb : Below w.heap.size w wl) (hgr : wl.grownBy w4 vv.ownBlock) (hown : w4.ownsRow (Lo m) 9 1 v4 (f.vars.length + 1) (f.vars.map Value.string ++ [.string s])) (hat : ∀ g, v4.ownBlock = some g → vv.ownBlock = some g ∨ wl.heap.size ≤ g) (hs : s.size ≤ 9223372036854775807) :
    PrC (cw (w4.setCell ⟨G, m * 5 + 2, none⟩ v4)) d gv P (addPc (moreV s f) m p) := by
  obtain ⟨h4, h1, h2, h3, h5, h6, h7, h8, h9, h10⟩ := hF
  have hout := hz.out m hm G hG
  have hGl := (acc.own.lt G hG).2
  have hX : ∀ g, vv.ownBlock = some g → Lo m ≤ g ∧ g < (W m).heap.size := fun g hg => h5.lt g hg
  have hXG : vv.ownBlock ≠ some G := fun e => by have := hX G e; omega
  have h0 := grow_h0 (G := G) (o := m * 5 + 2) (u := v4) hb hgr
  have hk := hz.lo m hm
  have hc : w.cell? ⟨G, m * 5 + 2, none⟩ = some vv := acc_cell acc hG hm' (by rw [hrow]; rfl)
  have hnew : RowS (Lo m) (w4.setCell ⟨G, m * 5 + 2, none⟩ v4) v4 (f.vars ++ [s]) := rows_same (RowS.one hown h5.2 hs) fun g hg => set_block (fun e => by
    subst e
    rcases hat g hg with h | h
    · exact hXG h
    · have := hb.size; omega)
  refine more_row (j := 2) acc hz hg hgl hG hm hm' hX h0 (grow_g1 hb hgr hXG) (cell_set (grow_g hb hgr hXG hc)) (by decide) hlen ?_
  rw [hrow]
  refine zone_vars h1 h2 h4 h6 h7 h8 h9 h10 hlf.1 (fun g hg1 hg2 hg3 => ?_) (StrC.mono only_out (strs_owned hnew.1 rfl (by rw [List.length_append]; exact hlf.2) hnew.2))
  rw [h0 g (by omega) hg3 (by omega)]
  exact hz.kept m hm g hg1 hg2
theorem put_pars (acc : Acc (PcQ d) B 55 5 w P p.procs rows) (hz : Zones d p.procs rows w P B Lo W) (hg : RowS b w gv p.globals) (hgl : ∀ g, gv.ownBlock = some g → g < B) (hG : P.ownBlock = some G) (hm : m < p.procs.length) (hm' : m < rows.length)
    (hrow : rows[m] = [.string f.nm, pv, vv, bv, fv]) (hF : ZoneF d (Lo m) (W m) M N pv vv bv fv f)
    (hlen : p.globals.length ≤ 9223372036854775807 ∧ ∀ f ∈ p.procs, f.params.length ≤ 9223372036854775807 ∧ f.vars.length ≤ 9223372036854775807) (hlf : f.params.length + 1 ≤ 9223372036854775807 ∧ f.vars.length ≤ 9223372036854775807)
    (hb : Below w.heap.size w wl) (hgr : wl.grownBy w4 pv.ownBlock) (hown : w4.ownsRow N 62 2 v4 (f.params.length + 1) (paRows f.params ++ [.string s, .bool false])) (hat : ∀ g, v4.ownBlock = some g → pv.ownBlock = some g ∨ wl.heap.size ≤ g) (hs : s.size ≤ 9223372036854775807) :
    PrC (cw (w4.setCell ⟨G, m * 5 + 1, none⟩ v4)) d gv P (addPc (moreQ s f) m p) := by
  obtain ⟨h4, h1, h2, h3, h5, h6, h7, h8, h9, h10⟩ := hF
  have hout := hz.out m hm G hG
  have hGl := (acc.own.lt G hG).2
  have hX : ∀ g, pv.ownBlock = some g → Lo m ≤ g ∧ g < (W m).heap.size := fun g hg => by have := h9.lt g hg; omega
  have hXG : pv.ownBlock ≠ some G := fun e => by have := hX G e; omega
  have h0 := grow_h0 (G := G) (o := m * 5 + 1) (u := v4) hb hgr
  have hk := hz.lo m hm
  have hc : w.cell? ⟨G, m * 5 + 1, none⟩ = some pv := acc_cell acc hG hm' (by rw [hrow]; rfl)
  have hown2 : w4.ownsRow N 62 2 v4 (f.params.length + 1) (paRows (f.params ++ [⟨s, false⟩])) := by rw [paRows_app]; exact hown
  have hnew : (w4.setCell ⟨G, m * 5 + 1, none⟩ v4).ownsRow N 62 2 v4 (f.params.length + 1) (paRows (f.params ++ [⟨s, false⟩])) := owns_same hown2 fun g hg => set_block (fun e => by
    subst e
    rcases hat g hg with h | h
    · exact hXG h
    · have := hb.size; omega)
  have hsl : SlAt 2 (PaAt (cw (w4.setCell ⟨G, m * 5 + 1, none⟩ v4))) v4 (f.params ++ [⟨s, false⟩]) := SlAt.imp (pa_owned hnew (by rw [List.length_append]; rfl) hlf.1 (fun q hq => by
    rcases List.mem_append.1 hq with hq | hq
    · exact h10 q hq
    · rw [List.mem_singleton] at hq; rw [hq]; exact hs)) fun _ _ _ _ => PaAt.mono only_out
  refine more_row (j := 1) acc hz hg hgl hG hm hm' hX h0 (grow_g1 hb hgr hXG) (cell_set (grow_g hb hgr hXG hc)) (by decide) hlen ?_
  rw [hrow]
  refine zone_pars h1 h2 h4 h6 h7 h8 h5 (fun g hg => (h9.lt g hg).1) hlf.2 (fun g hg1 hg2 hg3 => ?_) hsl
  rw [h0 g (by omega) hg3 (by omega)]
  exact hz.kept m hm g hg1 hg2
theorem put_glob (acc : Acc (PcQ d) B 55 5 w P p.procs rows) (hz : Zones d p.procs rows w P B Lo W) (hg : RowS b w gv p.globals) (hgl : ∀ g, gv.ownBlock = some g → g < B) {o : Nat} (hQ : w.heap.size ≤ G)
    (hlen : p.globals.length + 1 ≤ 9223372036854775807 ∧ ∀ f ∈ p.procs, f.params.length ≤ 9223372036854775807 ∧ f.vars.length ≤ 9223372036854775807)
    (hb : Below w.heap.size w wl) (hgr : wl.grownBy w4 gv.ownBlock) (hown : w4.ownsRow b 9 1 v4 (p.globals.length + 1) (p.globals.map Value.string ++ [.string s])) (hat : v4.ownBlock ≠ some G) (hs : s.size ≤ 9223372036854775807) :
    PrC (cw (w4.setCell ⟨G, o, none⟩ v4)) d v4 P (addG s p) := by
  have hnew : RowS b (w4.setCell ⟨G, o, none⟩ v4) v4 (p.globals ++ [s]) := rows_same (RowS.one hown hg.2 hs) fun g hg => set_block (fun e => hat (by rw [← e]; exact hg))
  refine more_glob (X := gv.ownBlock) acc hz hgl (fun g h1 h2 => grow_h0 hb hgr g h1 h2 (by omega)) hlen.2 (StrC.mono only_out (strs_owned hnew.1 rfl (by rw [List.length_append]; exact hlen.1) hnew.2))
/-- Is the name there already? -/
def oldP (k : Int) (f : Pc) (s : ByteArray) (p : Pr) : Bool :=
  if k = 0 then inB s (varsIn p f.nm) else if k = 1 then inB s (varsIn p f.nm) || (f.nm.toList == sMain.toList) else inB s (varsIn p f.nm) || p.procs.any fun x => inB s (varsIn p x.nm)
/-- The program with that name. -/
def newP (k : Int) (f : Pc) (m : Nat) (s : ByteArray) (p : Pr) : Pr := if k = 0 then addPc (moreV s f) m p else if k = 1 then addPc (moreQ s f) m p else addG s p
theorem old_new {k : Int} (h : (scopeP p).1 = 0) (hm : m < p.procs.length) (hf : p.procs[m] = f) (hmay : mayP (newP k f m s p) = true) : scopeP (newP k f m s p) = if oldP k f s p then (5, 0) else (0, 0) := by
  have hmem : f ∈ p.procs := by rw [← hf]; exact List.getElem_mem hm
  have hv : ∀ x ∈ p.procs, inB s (varsIn p x.nm) = true ↔ s ∈ p.globals ++ ownNs x := fun x hx => by
    rw [inB_iff]
    unfold varsIn
    rw [well_pc hx h]
  have hno : ∀ {c : Bool} {P : Prop}, (c = true ↔ P) → c = false → ¬ P := fun h1 h2 h3 => by rw [h1.2 h3] at h2; cases h2
  unfold newP at hmay ⊢
  unfold oldP
  by_cases h0 : k = 0
  · rw [if_pos h0] at hmay
    rw [if_pos h0, if_pos h0]
    subst hf
    obtain ⟨hA, hB⟩ := add_v h hm hmay
    cases hc : inB s (varsIn p p.procs[m].nm) with
    | true => exact hA ((hv _ hmem).1 hc)
    | false => exact hB (hno (hv _ hmem) hc)
  · rw [if_neg h0] at hmay
    rw [if_neg h0, if_neg h0]
    by_cases h1 : k = 1
    · rw [if_pos h1] at hmay
      rw [if_pos h1, if_pos h1]
      subst hf
      obtain ⟨hA, hB⟩ := add_q h hm hmay
      cases hc : inB s (varsIn p p.procs[m].nm) with
      | true => exact hA (.inl ((hv _ hmem).1 hc))
      | false =>
        cases hd : (p.procs[m].nm.toList == sMain.toList) with
        | true => exact hA (.inr (same_text.1 hd))
        | false => exact hB fun hh => hh.elim (hno (hv _ hmem) hc) (same_no.1 hd)
    · rw [if_neg h1] at hmay
      rw [if_neg h1, if_neg h1]
      obtain ⟨hA, hB⟩ := add_g h hmay (List.ne_nil_of_mem hmem)
      cases hc : (inB s (varsIn p f.nm) || p.procs.any fun x => inB s (varsIn p x.nm)) with
      | true =>
        refine hA ?_
        rw [Bool.or_eq_true, List.any_eq_true] at hc
        rcases hc with hc | ⟨x, hx, hc⟩
        · exact ⟨f, hmem, (hv _ hmem).1 hc⟩
        · exact ⟨x, hx, (hv _ hx).1 hc⟩
      | false =>
        refine hB ?_
        rintro ⟨x, hx, hs⟩
        rw [Bool.or_eq_false_iff, List.any_eq_false] at hc
        exact hc.2 x hx ((hv _ hx).2 hs)
theorem new_room {k : Int} (hw : wtPr p ≤ 20000) (hm : m < p.procs.length) (hf : p.procs[m] = f) : RoomP (newP k f m s p) := by
  have hrow : ∀ g : Pc, g.body = f.body → g.fin = f.fin → g.params.length + g.vars.length ≤ f.params.length + f.vars.length + 1 → RoomP (addPc g m p) := fun g h1 h2 h3 => by
    refine room_more hw (by show p.globals.length ≤ _; omega) (List.length_set) fun i h h' => ?_
    by_cases him : i = m
    · subst him
      have e1 : (addPc g i p).procs[i] = g := List.getElem_set_self _
      rw [e1, hf]
      exact ⟨h1, h2, h3⟩
    · have e1 : (addPc g m p).procs[i] = p.procs[i] := List.getElem_set_ne (fun e => him e.symm) _
      rw [e1]
      exact ⟨rfl, rfl, by omega⟩
  unfold newP
  split
  · exact hrow _ rfl rfl (by unfold moreV; simp only [List.length_append, List.length_singleton]; omega)
  · split
    · exact hrow _ rfl rfl (by unfold moreQ; simp only [List.length_append, List.length_singleton]; omega)
    · exact room_more hw (by unfold addG; simp) rfl fun i h h' => ⟨rfl, rfl, by show p.procs[i].params.length + p.procs[i].vars.length ≤ _; omega⟩
/-- The program with a name more lies at QB. -/
def TwiceAt (d QB : Nat) (w wx : World) (q : Pr) : Prop := ∃ (ga pa : Option Addr) (gc pc : Nat), BoxAt wx QB [.slice ga q.globals.length gc, .slice pa q.procs.length pc] ∧ PrC (cw wx) d (.slice ga q.globals.length gc) (.slice pa q.procs.length pc) q ∧ Below w.heap.size w wx
end Go.Proofs.Ytghlmengcidmdaa.Tr
end
