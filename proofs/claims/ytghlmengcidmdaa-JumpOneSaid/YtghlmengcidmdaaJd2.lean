/- Parts of PutW, PutL, PutP, NumP, NumSame, PickW, OneP: walks and plain laws that later texts use. Conditions: as each statement says. -/
import Derived.Test.YtghlmengcidmdaaJa0
import Derived.Test.YtghlmengcidmdaaJa1
import Derived.Test.YtghlmengcidmdaaJa10
import Derived.Test.YtghlmengcidmdaaJa11
import Derived.Test.YtghlmengcidmdaaJa12
import Derived.Test.YtghlmengcidmdaaJa13
import Derived.Test.YtghlmengcidmdaaJa18
import Derived.Test.YtghlmengcidmdaaJa2
import Derived.Test.YtghlmengcidmdaaJa3
import Derived.Test.YtghlmengcidmdaaJa4
import Derived.Test.YtghlmengcidmdaaJa5
import Derived.Test.YtghlmengcidmdaaJa6
import Derived.Test.YtghlmengcidmdaaJa7
import Derived.Test.YtghlmengcidmdaaJa8
import Derived.Test.YtghlmengcidmdaaJa9
import Derived.Test.YtghlmengcidmdaaJd0
import Derived.Test.YtghlmengcidmdaaJd1
import Derived.Laws.StructEq
import Derived.Outline
import Derived.Deep.RegionHeld3
import Derived.Deep.DeepCutAuto
import Derived.IntWalk
import Derived.Deep.QuietTactic
import Derived.BigQuiet
import Derived.Deep.RegionWith
import Derived.Laws.Cover3
import Derived.RegionTactic
import Derived.OwnWalk
import Derived.OneCell
import Derived.Deep.AppendLies
import Derived.Deep.RegionLaw
import Derived.OrdersHeld
import Derived.WalkKit
import Derived.Test.YtghlmengcidmdaaRows
import Derived.WalkSpells
import Derived.Lib.Hide
import Derived.Below
import Derived.Laws.BitsAllLaws
import Derived.Deep.Slices
import Derived.Deep.Fields
import Derived.Lib.SmallJoins
import Derived.SliceStrings
import Derived.ChangeSlices
import Derived.Maps.Range
import Derived.Deep.Upon
import Derived.Maps.AppendAt
import Derived.Laws.OwnMore
import Derived.WalkSmall
import Derived.StillTailTactics
import Derived.Deep.CutBlock
section
/- What texts, copyOne of the reference make: a list of texts, a statement anew. Conditions: they lie in memory; the statement is light. -/
namespace Go.Proofs.Ytghlmengcidmdaa.Tr
open Go.RowKit Go.Proofs.Ytghlmengcidmdaa.Lx Go.Proofs.Ytghlmengcidmdaa.Wd
set_option linter.unusedSimpArgs false
theorem le_ne {w w' : World} {B B' Y : Nat} (hb : Below w.heap.size w w') (hB : B' ≤ B) (hY : Y < B ∨ w.heap.size ≤ Y) : Cs.le (only (fun g => B ≤ g) (cw w)) (only (fun g => B' ≤ g ∧ g ≠ Y) (cw w')) := fun g j u ⟨h1, h2⟩ => by
  have := cell_lt h2
  exact ⟨⟨by omega, by omega⟩, cell_next hb h2⟩
end Go.Proofs.Ytghlmengcidmdaa.Tr
end
section
/- What put of the reference makes: a row in which the statement of that id is another one, which keeps what stands in it. Conditions: they lie in memory and are light. -/
namespace Go.Proofs.Ytghlmengcidmdaa.Tr
open Go.RowKit Go.Proofs.Ytghlmengcidmdaa.Lx Go.Proofs.Ytghlmengcidmdaa.Wd
theorem far1 {w : World} {b g i j : Nat} {x u : Value} (hne : b ≠ g) (h : w.cell? ⟨g, j, none⟩ = some u) : (w.setCell ⟨b, i, none⟩ x).cell? ⟨g, j, none⟩ = some u := by
  rw [World.cell?_setCell_other _ _ _ _ (fun e => hne (congrArg Addr.block e))]
  exact h
end Go.Proofs.Ytghlmengcidmdaa.Tr
end
section
/- What Put, Copy of the reference make: a program anew in which the statement of that id is another one. Conditions: they lie in memory and are light. -/
namespace Go.Proofs.Ytghlmengcidmdaa.Tr
open Go.RowKit Go.Proofs.Ytghlmengcidmdaa.Lx Go.Proofs.Ytghlmengcidmdaa.Wd
theorem wtPc_len : ∀ l : List Pc, l.length ≤ (l.map wtPc).sum := by
  intro l
  induction l with
  | nil => simp
  | cons q r ih => simp only [List.map_cons, List.sum_cons, List.length_cons]; have : 1 ≤ wtPc q := by unfold wtPc; omega
                   omega
theorem infoPc : (Try.prog.info? 55).map (fun i => (i.zero, i.size, i.bytes)) = some (some (.agg #[.string ⟨#[]⟩, .slice none 0 0, .slice none 0 0, .slice none 0 0, .slice none 0 0]), 5, 112) := by kernel_rfl
def paC (q : Pa) : List Value := [.string q.nm, .bool q.ref]
def paRows : List Pa → List Value
  | [] => []
  | q :: r => .string q.nm :: .bool q.ref :: paRows r
theorem paRows_len : ∀ l : List Pa, (paRows l).length = l.length * 2 := by
  intro l
  induction l with
  | nil => rfl
  | cons q r ih => simp only [paRows, List.length_cons, ih]; omega
theorem paRows_flat : ∀ l : List Pa, paRows l = (l.map paC).flatten := by
  intro l
  induction l with
  | nil => rfl
  | cons q r ih => simp only [paRows, paC, List.map_cons, List.flatten_cons, ih]; rfl
theorem paRows_one : ∀ l : List Pa, ∀ u ∈ paRows l, u.oneCell' = true := by
  intro l
  induction l with
  | nil => intro u h; cases h
  | cons q r ih =>
    intro u h
    simp only [paRows, List.mem_cons] at h
    rcases h with rfl | rfl | h
    · rfl
    · rfl
    · exact ih u h
theorem paRows_at {C : Cs} {g : Nat} : ∀ (l : List Pa) (o : Nat), (∀ i (h : i < l.length), PaAt C g (o + i * 2) l[i]) → ∀ j u, (paRows l)[j]? = some u → C g (o + j) u := by
  intro l
  induction l with
  | nil => intro o _ j u h; simp [paRows] at h
  | cons q r ih =>
    intro o h j u hu
    match j, hu with
    | 0, hu =>
      have h0 := (h 0 (by simp)).1
      simp only [paRows, List.getElem?_cons_zero, Option.some.injEq] at hu
      subst hu
      simpa using h0
    | 1, hu =>
      have h0 := (h 0 (by simp)).2.1
      simp only [paRows, List.getElem?_cons_succ, List.getElem?_cons_zero, Option.some.injEq] at hu
      subst hu
      simpa using h0
    | j + 2, hu =>
      have := ih (o + 2) (fun i hi => by
        have := h (i + 1) (by simpa using hi)
        rw [show o + 2 + i * 2 = o + (i + 1) * 2 by omega]
        simpa using this) j u (by simpa [paRows] using hu)
      rw [show o + (j + 2) = o + 2 + j by omega]
      exact this
theorem paNews {w : World} {a : Option Addr} {c : Nat} {l : List Pa} (h : SlAt 2 (PaAt (cw w)) (.slice a l.length c) l) : (a = none → l.length = 0) ∧ (∀ ad, a = some ad → ∀ j u, (paRows l)[j]? = some u → w.cell? (ad.add j) = some u) := by
  by_cases hne : l = []
  · subst hne
    exact ⟨fun _ => rfl, fun ad _ j u hu => by simp [paRows] at hu⟩
  · obtain ⟨g, off, cap, hv, _, hc⟩ := h.cells hne
    simp only [Value.slice.injEq] at hv
    obtain ⟨rfl, -, rfl⟩ := hv
    refine ⟨fun h => (by cases h), fun ad h j u hu => ?_⟩
    cases h
    have := paRows_at l off hc j u hu
    rw [Addr.add_lit]
    exact this
def PaQ (_ : Cs) (c : List Value) (q : Pa) : Prop := c = paC q ∧ q.nm.size ≤ 9223372036854775807
theorem pa_owned {w : World} {B n : Nat} {v : Value} {l : List Pa} (h : w.ownsRow B 62 2 v n (paRows l)) (hn : n = l.length) (hm : n ≤ 9223372036854775807) (hs : ∀ q ∈ l, q.nm.size ≤ 9223372036854775807) : SlAt 2 (PaAt (nwC B w)) v l := by
  subst hn
  rw [paRows_flat] at h
  have hacc : Acc PaQ B 62 2 w v l (l.map paC) := ⟨by simp, h, fun r hr => by
    obtain ⟨q, -, rfl⟩ := List.mem_map.1 hr
    rfl, fun i h1 h2 => ⟨by simp, hs _ (List.getElem_mem h1)⟩⟩
  exact hacc.sl (P := fun C g o x => PaAt C g o x) hm (fun _ _ _ _ _ h => h) fun C c g o x _ _ hq hc => by
    obtain ⟨rfl, h2⟩ := hq
    exact ⟨hc 0 _ rfl, hc 1 _ rfl, h2⟩
theorem PaAt.sizes {C : Cs} {v : Value} {l : List Pa} (h : SlAt 2 (PaAt C) v l) : ∀ q ∈ l, q.nm.size ≤ 9223372036854775807 := by
  intro q hq
  have hne : l ≠ [] := fun e => by subst e; cases hq
  obtain ⟨g, off, cap, _, _, hc⟩ := h.cells hne
  obtain ⟨i, hi, rfl⟩ := List.getElem_of_mem hq
  exact (hc i hi).2.2
theorem infoPa : (Try.prog.info? 62).map (fun i => (i.zero, i.size, i.bytes)) = some (some (.agg #[.string ⟨#[]⟩, .bool false]), 2, 24) := by kernel_rfl
theorem wtPa_len : ∀ l : List Pa, l.length ≤ (l.map fun x : Pa => 1 + x.nm.size).sum := by
  intro l
  induction l with
  | nil => simp
  | cons q r ih => simp only [List.map_cons, List.sum_cons, List.length_cons]; omega
theorem far5 {w : World} {b g j : Nat} {x0 x1 x2 x3 x4 u : Value} (hne : b ≠ g) (h : w.cell? ⟨g, j, none⟩ = some u) : (((((w.setCell ⟨b, 0, none⟩ x0).setCell ⟨b, 1, none⟩ x1).setCell ⟨b, 2, none⟩ x2).setCell ⟨b, 3, none⟩ x3).setCell ⟨b, 4, none⟩ x4).cell? ⟨g, j, none⟩ = some u := far1 hne (far1 hne (far1 hne (far1 hne (far1 hne h))))
theorem free5 {w : World} {b : Nat} {x0 x1 x2 x3 x4 : Value} (h : Free w b) : Free (((((w.setCell ⟨b, 0, none⟩ x0).setCell ⟨b, 1, none⟩ x1).setCell ⟨b, 2, none⟩ x2).setCell ⟨b, 3, none⟩ x3).setCell ⟨b, 4, none⟩ x4) b := ((((h.set).set).set).set).set
theorem size5 {w : World} {b : Nat} {x0 x1 x2 x3 x4 : Value} : (((((w.setCell ⟨b, 0, none⟩ x0).setCell ⟨b, 1, none⟩ x1).setCell ⟨b, 2, none⟩ x2).setCell ⟨b, 3, none⟩ x3).setCell ⟨b, 4, none⟩ x4).heap.size = w.heap.size := by simp only [World.size_setCell]
/-- A procedure as a row of five. -/
def PcQ (d : Nat) (C : Cs) (c : List Value) (f : Pc) : Prop := ∃ pv vv bv fv, c = [.string f.nm, pv, vv, bv, fv] ∧ f.nm.size ≤ 9223372036854775807 ∧ SlAt 2 (PaAt C) pv f.params ∧ StrC C vv f.vars ∧ StC C d bv f.body ∧ StrC C fv f.fin
theorem PcQ.mono (d : Nat) : ∀ C D c x, Cs.le C D → PcQ d C c x → PcQ d D c x := fun _ _ _ _ h ⟨pv, vv, bv, fv, h1, h2, h3, h4, h5, h6⟩ => ⟨pv, vv, bv, fv, h1, h2, SlAt.imp h3 (fun _ _ _ _ => PaAt.mono h), StrC.mono h h4, StC.mono h h5, StrC.mono h h6⟩
theorem PcQ.at_ (d : Nat) : ∀ (C : Cs) (c : List Value) (g o : Nat) (f : Pc), PcQ d C c f → (∀ j u, c[j]? = some u → C g (o + j) u) → PcAt C d g o f := by
  intro C c g o f ⟨pv, vv, bv, fv, h1, h2, h3, h4, h5, h6⟩ h
  subst h1
  exact ⟨pv, vv, bv, fv, h 0 _ rfl, h 1 _ rfl, h 2 _ rfl, h 3 _ rfl, h 4 _ rfl, h2, h3, h4, h5, h6⟩
/-- What Put leaves. -/
def ProgMade (d : Nat) (p : Pr) (w : World) (e : Ending) (w' : World) : Prop := ∃ gv pv, e = .returned (.agg #[gv, pv]) ∧ PrC (nwC w.heap.size w') d gv pv p ∧ Below w.heap.size w w'
/-- What Put leaves: the row of procedures is its own. -/
def ProgRow (d : Nat) (p : Pr) (w : World) (e : Ending) (w' : World) : Prop := ∃ gv pv B rows, e = .returned (.agg #[gv, pv]) ∧ w.heap.size ≤ B ∧ StrC (only (fun g => w.heap.size ≤ g ∧ g < B) (cw w')) gv p.globals ∧ Acc (PcQ d) B 55 5 w' pv p.procs rows ∧ Below w.heap.size w w'
theorem Acc.max {α : Type} {Q : Cs → List Value → α → Prop} {B : Nat} {t : TypeId} {z : Nat} {w : World} {v : Value} {l : List α} {rows : List (List Value)} (h : Acc Q B t z w v l rows) : l.length ≤ 9223372036854775807 := by
  rcases h.own.2 with ⟨-, hn⟩ | ⟨g, cap, cur, -, -, -, h3, h4, -⟩
  · omega
  · unfold maxLen at h4; omega
theorem ProgRow.made {d : Nat} {p : Pr} {w w' : World} {e : Ending} (h : ProgRow d p w e w') : ProgMade d p w e w' := by
  obtain ⟨gv, pv, B, rows, he, hB, hg, hacc, hb⟩ := h
  have hm : SlAt 5 (PcAt (nwC B w') d) pv p.procs := hacc.sl (P := fun C g o x => PcAt C d g o x) hacc.max (PcQ.mono d) fun C c g o x _ _ hq hc => PcQ.at_ d C c g o x hq hc
  exact ⟨gv, pv, he, ⟨StrC.mono (only_le (fun g h => h.1) (fun _ _ _ h => h)) hg, SlAt.imp hm fun _ _ _ _ h => PcAt.mono (nw_le hB (Below.refl _ _)) h⟩, hb⟩
end Go.Proofs.Ytghlmengcidmdaa.Tr
end
section
/- What Number of tree makes: a program anew with its ids. Conditions: it lies in memory and is light. -/
namespace Go.Proofs.Ytghlmengcidmdaa.Tr
open Go.RowKit Go.Proofs.Ytghlmengcidmdaa.Lx Go.Proofs.Ytghlmengcidmdaa.Wd
theorem nilPa_yes (cap : Nat) (w : World) : (binOp .eql 53 (.slice none 0 cap) (.slice none 0 0)).run Try.prog w = .ok (.bool true) w := by
  simp [binOp, run_equal_slice_nil w _ _ _ _ _ Try.underlying53]
theorem nilPa_no (ad : Addr) (n cap : Nat) (w : World) : (binOp .eql 53 (.slice (some ad) n cap) (.slice none 0 0)).run Try.prog w = .ok (.bool false) w := by
  simp [binOp, run_equal_slice_nil w _ _ _ _ _ Try.underlying53]
def PasCopied (l : List Pa) (w : World) (e : Ending) (w' : World) : Prop := ∃ v, e = .returned v ∧ SlAt 2 (PaAt (nwC w.heap.size w')) v l ∧ Below w.heap.size w w'
set_option maxHeartbeats 1000000 in
set_option maxRecDepth 100000 in
theorem clonePas_any (l : List Pa) (v : Value) (w : World) (hl : SlAt 2 (PaAt (cw w)) v l) (hm : l.length ≤ 1000000) : Calls Try.prog 120 #[v] w (PasCopied l w) := by
  obtain ⟨i0, hi, hz0, hz1, hz2⟩ := info_parts infoPa
  obtain ⟨a, cap, rfl, hc1, hc2⟩ := hl.form
  cases a with
  | none =>
    have h0 : l = [] := List.eq_nil_of_length_eq_zero ((paNews hl).1 rfl)
    subst h0
    clear hl
    have ny := nilPa_yes cap
    go_enter Try.func120, Try.ntmps120
    go_wp2_with fail
    go_ret
    exact ⟨_, rfl, SlAt.nil, Below.refl _ _⟩
  | some ad =>
    have HL := Lib.hid hl
    have HALL := Lib.hid (PaAt.sizes hl)
    clear hl
    have ny := nilPa_no ad l.length cap
    go_enter Try.func120, Try.ntmps120
    go_wp2_with (at_builtin; refine wpList_append_sl _ rfl (.tmp 5) (.tmp 6) 53 rfl w.heap.size 62 i0 (.agg #[.string ⟨#[]⟩, .bool false]) 2 24 Try.underlying53 hi hz0 hz1 hz2 rfl (by decide) _ 0 [] rfl ?oa1 (some ad) l.length cap (paRows l) rfl ?oz1 (paRows_len _) ?oc1 (paRows_one _) ?od1 ?oe1 ?of1 ?_)
    case oa1 => exact World.ownsRow_lit w #[] 0 (Nat.le_refl _) (by decide) rfl
    case oz1 => intro h; cases h
    case oc1 => exact (paNews (SlAt.imp HL.out fun _ _ _ _ => PaAt.mono (cw_next (boxed w _)))).2
    case od1 => unfold maxLen; omega
    case oe1 => omega
    case of1 => simp
    intro v4 w4 hown4 hg4 hat4
    obtain ⟨la4, lc4, rfl⟩ := ownsForm hown4
    have hb4 : Below w.heap.size w w4 := (boxed w _).grown hg4 (by simp) fun q hq => by have hqq : w.heap.size = q := by { simpa [Value.ownBlock] using hq }; omega
    have HB4 := Lib.hid hb4
    have HOWN4 := Lib.hid hown4
    clear hown4 hg4 hat4 hb4
    go_wp2_with fail
    go_ret
    exact ⟨_, rfl, pa_owned (by simpa using HOWN4.out) (by omega) (by omega) HALL.out, HB4.out⟩
def numPc (n : Int) (f : Pc) : Pc := ⟨f.nm, f.params, f.vars, cpL true n f.body, f.fin⟩
def numPs : Int → List Pc → List Pc
  | _, [] => []
  | n, f :: r => numPc n f :: numPs (n + cntL f.body) r
def cntQ (l : List Pc) : Nat := (l.map fun f => cntL f.body).sum
theorem numPs_len : ∀ (l : List Pc) (n : Int), (numPs n l).length = l.length := by
  intro l
  induction l with
  | nil => intro n; rfl
  | cons f r ih => intro n; rw [numPs, List.length_cons, ih, List.length_cons]
theorem numPs_snoc : ∀ (l : List Pc) (f : Pc) (n : Int), numPs n (l ++ [f]) = numPs n l ++ [numPc (n + cntQ l) f] := by
  intro l
  induction l with
  | nil => intro f n; simp [numPs, cntQ]
  | cons g r ih =>
    intro f n
    rw [List.cons_append, numPs, ih, numPs, List.cons_append]
    have e : n + ((cntL g.body : Nat) : Int) + cntQ r = n + cntQ (g :: r) := by unfold cntQ; rw [List.map_cons, List.sum_cons]; push_cast; omega
    rw [e]
theorem cntQ_snoc (l : List Pc) (f : Pc) : cntQ (l ++ [f]) = cntQ l + cntL f.body := by unfold cntQ; simp
def numPr (p : Pr) : Pr := ⟨p.globals, numPs 0 p.procs⟩
set_option maxHeartbeats 4000000 in
set_option maxRecDepth 100000 in
theorem number_row (d : Nat) (p : Pr) (gv pv : Value) (w : World) (hp : PrC (cw w) d gv pv p) (hwp : wtPr p ≤ 20000) :
    Calls Try.prog 78 #[.agg #[gv, pv]] w (ProgRow d (numPr p) w) := by
  obtain ⟨ga, gc, rfl, -, -⟩ := hp.1.form
  obtain ⟨pa, pc, rfl, hl1, hl2⟩ := hp.2.form
  have HP := Lib.hid hp
  have HWP := Lib.hid hwp
  have HLIM := Lib.hid (Nat.le_trans hl1 hl2)
  clear hp hwp hl1 hl2
  go_enter Try.func78, Try.ntmps78
  go_upto_region 1 with fail
  refine cut_world (fun wx => Below w.heap.size w wx ∧ wx.heap.size = w.heap.size + 1 + 1 ∧ BoxAt wx w.heap.size [.slice ga p.globals.length gc, .slice pa p.procs.length pc] ∧ BoxAt wx (w.heap.size + 1) [.slice none 0 0, .slice none 0 0] ∧ Free wx (w.heap.size + 1)) ⟨?_, by simp, ?_, ?_, ?_⟩ ?_
  · exact (boxed w _).alloc (by simp) _
  · exact (box_new w #[.slice ga p.globals.length gc, .slice pa p.procs.length pc] 25).next (boxed _ _)
  · exact box_two w _ #[.slice none 0 0, .slice none 0 0] 25
  · exact fun j => by simp [go_sem]
  rintro w1 ⟨hb1, hz1, hp1, hr1, hrf1⟩
  have HB1 := Lib.hid hb1
  have HP1 := Lib.hid hp1
  have HR1 := Lib.hid hr1
  have HRF1 := Lib.hid hrf1
  have HPP1 := Lib.hid (PrC.mono (cw_next hb1) HP.out)
  have p0 := hp1 0 _ rfl
  have hglob : p.globals.length ≤ 1000000 := by have := HWP.out; unfold wtPr at this; have := wtTs_len p.globals; omega
  clear hb1 hp1 hr1 hrf1
  go_wp2_with fail
  refine (cloneTexts_any p.globals _ _ (StrC.to HPP1.out.1) hglob).mono ?_
  rintro e w2 ⟨gv2, rfl, hg2, hb2⟩
  obtain ⟨ga2, gc2, rfl, -, -⟩ := hg2.form
  have HG2 := Lib.hid hg2
  have HB2 := Lib.hid hb2
  have p1 := HP1.out.next hb2 1 _ rfl
  clear hg2 hb2 p0
  have zl := cell_lt p1
  have zn := World.new_ne _ _ p1
  go_wp2_with fail
  refine cut_world (fun wx => Below w.heap.size w wx ∧ w.heap.size + 1 + 1 ≤ w2.heap.size ∧ w2.heap.size < wx.heap.size ∧ BoxAt wx (w.heap.size + 1) [.slice none 0 0, .slice none 0 0] ∧ Free wx (w.heap.size + 1) ∧ BoxAt wx w2.heap.size [.slice ga2 p.globals.length gc2, .slice none 0 0] ∧ Free wx w2.heap.size ∧ StrC (only (fun g => w.heap.size + 1 + 1 ≤ g ∧ g ≠ w2.heap.size) (cw wx)) (.slice ga2 p.globals.length gc2) p.globals) ⟨?_, ?_, by simp, ?_, ?_, box_new w2 #[.slice ga2 p.globals.length gc2, .slice none 0 0] 25, fun j => by simp [go_sem], ?_⟩ ?_
  · exact (HB1.out.trans (HB2.out.mono HB1.out.size)).trans ((boxed w2 _).mono (Nat.le_trans HB1.out.size HB2.out.size))
  · have := HB2.out.size; omega
  · exact (HR1.out.next HB2.out).next (boxed _ _)
  · exact (HRF1.out.next (by omega) HB2.out).next (by have := HB2.out.size; omega) (boxed _ _)
  · exact StrC.mono (le_ne (boxed w2 _) (by omega) (.inr (Nat.le_refl _))) HG2.out
  rintro wb ⟨hbb, hn2, hnb, hrb, hrf, hqb, hqf, hgb⟩
  have HBB := Lib.hid hbb
  have HRB := Lib.hid hrb
  have HRF := Lib.hid hrf
  have HQB := Lib.hid hqb
  have HQF := Lib.hid hqf
  have HGB := Lib.hid hgb
  obtain ⟨iP, hiP, hzP0, hzP1, hzP2⟩ := info_parts infoPc
  clear hbb hrb hrf hqb hqf hgb p1 zl zn HB1 HP1 HR1 HRF1 HPP1 HG2 HB2 hglob
  go_loopw [15, 3] (fun i s3 wr => ∃ (k : Nat) (v : Value) (rows : List (List Value)), k ≤ p.procs.length ∧ i = .int .i64 k ∧ s3 = .int .i64 (wrap64 ((cntQ (p.procs.take k) : Nat) : Int)) ∧ Below w.heap.size w wr ∧ wb.heap.size ≤ wr.heap.size ∧ Cs.le (only (fun g => g < wb.heap.size ∧ g ≠ w2.heap.size) (cw wb)) (cw wr) ∧
    Grow (PcQ d) 55 5 wb.heap.size w2.heap.size (w.heap.size + 1) 2 [.slice ga2 p.globals.length gc2, .slice none 0 0] 1 (numPs 0 (p.procs.take k)) wr v rows) (fun i _ _ => (p.procs.length - intOf i).toNat)
  case atStart =>
    refine ⟨0, .slice none 0 0, [], by omega, rfl, by rw [List.take_zero]; simp [cntQ, wrap64], HBB.out, Nat.le_refl _, only_out, by omega, by omega, by omega, by omega, HQB.out, HQF.out, fun j hj => ⟨_, HRB.out j _ (List.getElem?_eq_getElem (by simpa using hj))⟩, HRF.out, ?_, Nat.le_refl _⟩
    exact Acc.nil _ _ _ _ _
  case round =>
    obtain ⟨k, v5, rows5, hk, rfl, rfl, hbel, hz5, hkeep, hG⟩ := hrel
    obtain ⟨N, hNN⟩ : ∃ N, Hid (cntQ (p.procs.take k) = N) := ⟨_, Lib.hid rfl⟩
    rw [hNN.out]
    have HBel := Lib.hid hbel
    have HKEEP := Lib.hid hkeep
    have HG := Lib.hid hG
    have hqa : (numPs 0 (p.procs.take k)).length = k := by rw [numPs_len, List.length_take]; omega
    obtain ⟨va5, vc5, hv5⟩ := ownsForm hG.acc.own
    rw [hqa] at hv5
    subst hv5
    have HQA := Lib.hid hqa
    have hlim := HLIM.out
    obtain ⟨w3, hw3⟩ : ∃ w3 : World, w3 = wr := ⟨_, rfl⟩
    subst hw3
    clear hqa hG hkeep
    by_cases hlt : k < p.procs.length
    · have hlt' : (k : Int) < (p.procs.length : Int) := by omega
      have h0k : (0 : Int) ≤ (k : Int) := by omega
      have hne : p.procs ≠ [] := by intro h; rw [h] at hlt; simp at hlt
      obtain ⟨g, off, cap', hv, _, hcells⟩ := SlAt.cells (PrC.mono (cw_next hbel) HP.out).2 hne
      simp only [Value.slice.injEq] at hv
      obtain ⟨rfl, -, rfl⟩ := hv
      have hat := hcells k hlt
      have hmem := List.getElem_mem hlt
      obtain ⟨f, hf⟩ : ∃ f, Hid (p.procs[k] = f) := ⟨_, Lib.hid rfl⟩
      rw [hf.out] at hat hmem
      have hwf : Hid (wtPc f ≤ 20000) := Lib.hid (by have h1 := sum_mem wtPc p.procs f hmem; have h2 := HWP.out; unfold wtPr at h2; omega)
      obtain ⟨pv, vv, bv, fv, p0, p1, p2, p3, p4, hnm, hps, hvs, hbody, hfin⟩ := hat
      obtain ⟨a1, c1, rfl, bp1, bp2⟩ := hps.form
      obtain ⟨a2, c2, rfl, -, -⟩ := hvs.form
      obtain ⟨a3, c3, rfl, -, -⟩ := hbody.form
      obtain ⟨a4, c4, rfl, -, -⟩ := hfin.form
      have e0 : w3.cell? ⟨g, off + k * 5, none⟩ = _ := p0
      have e1 : w3.cell? ⟨g, off + k * 5 + 1, none⟩ = _ := p1
      have e2 : w3.cell? ⟨g, off + k * 5 + 2, none⟩ = _ := p2
      have e3 : w3.cell? ⟨g, off + k * 5 + 3, none⟩ = _ := p3
      have e4 : w3.cell? ⟨g, off + k * 5 + 4, none⟩ = _ := p4
      have HH := Lib.hid (HangP.mk (f := f) hps hvs hbody hfin)
      have HNM := Lib.hid hnm
      clear hcells hne p0 p1 p2 p3 p4 hps hvs hbody hfin hbel bp1 bp2 hmem hnm
      go_upto_region 6 with fail
      refine cut_world (fun wx => Below w3.heap.size w3 wx ∧ w3.heap.size < wx.heap.size ∧ BoxAt wx w3.heap.size [.string f.nm, .slice a1 f.params.length c1, .slice a2 f.vars.length c2, .slice a3 f.body.length c3, .slice a4 f.fin.length c4]) ⟨boxed _ _, by simp, box_new w3 #[.string f.nm, .slice a1 f.params.length c1, .slice a2 f.vars.length c2, .slice a3 f.body.length c3, .slice a4 f.fin.length c4] 55⟩ ?_
      rintro w4 ⟨hb4, hz4, hx4⟩
      clear e0 e1 e2 e3 e4
      have HB4 := Lib.hid hb4
      have HX4 := Lib.hid hx4
      have HH4 := Lib.hid (HH.out.next hb4)
      have hplen : f.params.length ≤ 1000000 := by have h1 := wtPa_len f.params; have h2 := hwf.out; unfold wtPc at h2; omega
      have hvlen : f.vars.length ≤ 1000000 := by have h1 := wtTs_len f.vars; have h2 := hwf.out; unfold wtPc at h2; omega
      have hflen : f.fin.length ≤ 1000000 := by have h1 := wtTs_len f.fin; have h2 := hwf.out; unfold wtPc at h2; omega
      have hbwt : wtL f.body ≤ 20000 := by have h2 := hwf.out; unfold wtPc at h2; omega
      clear hb4 hx4
      have hq4 : Below w4.heap.size w4 w4.drew := (Below.refl _ _).drew
      have hq4A : Below w4.heap.size w4 (w4.alloc (.cells #[.string ⟨#[]⟩, .slice none 0 0, .slice none 0 0, .slice none 0 0, .slice none 0 0] 55)).drew := (boxed w4 _).drew
      have L0 : Hid (w4.cell? ⟨w3.heap.size, 0, none⟩ = some (.string f.nm)) := Lib.hid (HX4.out 0 _ rfl)
      have L1 : Hid (w4.cell? ⟨w3.heap.size, 1, none⟩ = some (.slice a1 f.params.length c1)) := Lib.hid (HX4.out 1 _ rfl)
      have L2 : Hid (w4.cell? ⟨w3.heap.size, 2, none⟩ = some (.slice a2 f.vars.length c2)) := Lib.hid (HX4.out 2 _ rfl)
      have L3 : Hid (w4.cell? ⟨w3.heap.size, 4, none⟩ = some (.slice a4 f.fin.length c4)) := Lib.hid (HX4.out 4 _ rfl)
      have KA0 := Lib.hid (cell_next hq4 L0.out)
      have KA1 := Lib.hid (cell_next hq4 L1.out)
      have KA2 := Lib.hid (cell_next hq4 L2.out)
      have KA3 := Lib.hid (cell_next hq4 L3.out)
      have KAA0 := Lib.hid (cell_next hq4A L0.out)
      have KAA1 := Lib.hid (cell_next hq4A L1.out)
      have KAA2 := Lib.hid (cell_next hq4A L2.out)
      have KAA3 := Lib.hid (cell_next hq4A L3.out)
      have hne4X : w4.heap.size ≠ w3.heap.size := by omega
      have HYA := Lib.hid ((box_new w4 #[.string ⟨#[]⟩, .slice none 0 0, .slice none 0 0, .slice none 0 0, .slice none 0 0] 55).next ((Below.refl _ _).drew))
      have HYFA : Hid (Free (w4.alloc (.cells #[.string ⟨#[]⟩, .slice none 0 0, .slice none 0 0, .slice none 0 0, .slice none 0 0] 55)).drew w4.heap.size) := Lib.hid (Free.next (fun j => by simp [go_sem]) (by simp) ((Below.refl _ _).drew))
      go_cut [7] (fun a wx => ∃ (Y : Nat) (a5 a6 a7 : Option Addr) (c5 c6 c7 : Nat), a = .pointer (some ⟨Y, 0, none⟩) ∧ w4.heap.size ≤ Y ∧ Y < wx.heap.size ∧ Below w4.heap.size w4 wx ∧ BoxAt wx Y [.string f.nm, .slice a5 f.params.length c5, .slice a6 f.vars.length c6, .slice none 0 0, .slice a7 f.fin.length c7] ∧ Free wx Y ∧
        SlAt 2 (PaAt (only (fun g => w4.heap.size ≤ g ∧ g ≠ Y) (cw wx))) (.slice a5 f.params.length c5) f.params ∧ StrC (only (fun g => w4.heap.size ≤ g ∧ g ≠ Y) (cw wx)) (.slice a6 f.vars.length c6) f.vars ∧ StrC (only (fun g => w4.heap.size ≤ g ∧ g ≠ Y) (cw wx)) (.slice a7 f.fin.length c7) f.fin)
      case first =>
        go_region_held3 (fun w' => w'.cell? ⟨w3.heap.size, 0, none⟩ = some (.string f.nm) ∧ w'.cell? ⟨w3.heap.size, 1, none⟩ = some (.slice a1 f.params.length c1) ∧ w'.cell? ⟨w3.heap.size, 2, none⟩ = some (.slice a2 f.vars.length c2) ∧ w'.cell? ⟨w3.heap.size, 4, none⟩ = some (.slice a4 f.fin.length c4))
          (first
            | with_reducible exact ⟨KA0.out, KA1.out, KA2.out, KA3.out⟩
            | with_reducible exact ⟨KAA0.out, KAA1.out, KAA2.out, KAA3.out⟩
            | with_reducible exact ⟨KB0.out, KB1.out, KB2.out, KB3.out⟩
            | with_reducible exact ⟨KC0.out, KC1.out, KC2.out, KC3.out⟩
            | with_reducible exact ⟨KD0.out, KD1.out, KD2.out, KD3.out⟩
            | with_reducible exact ⟨far5 hne4X KD0.out, far5 hne4X KD1.out, far5 hne4X KD2.out, far5 hne4X KD3.out⟩
            | with_reducible exact ⟨far5 hne5X KD0.out, far5 hne5X KD1.out, far5 hne5X KD2.out, far5 hne5X KD3.out⟩
            | with_reducible exact ⟨far5 hne6X KD0.out, far5 hne6X KD1.out, far5 hne6X KD2.out, far5 hne6X KD3.out⟩
            | with_reducible exact ⟨KBA0.out, KBA1.out, KBA2.out, KBA3.out⟩
            | with_reducible exact ⟨KCA0.out, KCA1.out, KCA2.out, KCA3.out⟩
            | with_reducible exact ⟨KDA0.out, KDA1.out, KDA2.out, KDA3.out⟩
            | with_reducible exact ⟨KDX0.out, KDX1.out, KDX2.out, KDX3.out⟩)
          (first
            | (go_at_call 73
               have hchk := hb6
               refine (cloneTexts_any f.fin _ _ (StrsAt.next (StrC.to HH4.out.fin) (by first | with_reducible exact hq6 | with_reducible exact hq6A)) hflen).mono ?_
               rintro e w7 ⟨v7, rfl, hs7, hb7⟩
               obtain ⟨a7, c7, rfl, -, -⟩ := hs7.form
               have HS7 := Lib.hid hs7
               have hq7 := below_then hb7 (by first | with_reducible exact hq6 | with_reducible exact hq6A)
               have hs7 : w4.heap.size ≤ w7.heap.size := hq7.size
               have hz7 := hb7.size
               have hq7A := hq7.alloc hs7 (.cells #[.string ⟨#[]⟩, .slice none 0 0, .slice none 0 0, .slice none 0 0, .slice none 0 0] 55)
               have hne7X : w7.heap.size ≠ w3.heap.size := by omega
               have KD0 := Lib.hid (cell_next hq7 L0.out)
               have KD1 := Lib.hid (cell_next hq7 L1.out)
               have KD2 := Lib.hid (cell_next hq7 L2.out)
               have KD3 := Lib.hid (cell_next hq7 L3.out)
               have KDA0 := Lib.hid (cell_next hq7A L0.out)
               have KDA1 := Lib.hid (cell_next hq7A L1.out)
               have KDA2 := Lib.hid (cell_next hq7A L2.out)
               have KDA3 := Lib.hid (cell_next hq7A L3.out)
               have HYB7 := Lib.hid (box_new w7 #[.string ⟨#[]⟩, .slice none 0 0, .slice none 0 0, .slice none 0 0, .slice none 0 0] 55)
               have hq7X := hq7.alloc hs7 (.cells #[.string f.nm, .slice a5 f.params.length c5, .slice a6 f.vars.length c6, .slice none 0 0, .slice a7 f.fin.length c7] 55)
               have KDX0 := Lib.hid (cell_next hq7X L0.out)
               have KDX1 := Lib.hid (cell_next hq7X L1.out)
               have KDX2 := Lib.hid (cell_next hq7X L2.out)
               have KDX3 := Lib.hid (cell_next hq7X L3.out)
               first
                 | ((with_reducible have hY7 := hY6.next hb7)
                    have hYF7 := hYF6.next (cell_lt (hY6 0 _ rfl)) hb7
                    have y0 := hY7 0 _ rfl
                    have y1 := hY7 1 _ rfl
                    have y2 := hY7 2 _ rfl
                    have y3 := hY7 3 _ rfl
                    have y4 := hY7 4 _ rfl
                    have f0 := hYF7 0
                    have f1 := hYF7 1
                    have f2 := hYF7 2
                    have f3 := hYF7 3
                    have f4 := hYF7 4)
                 | ((with_reducible have hY7 := HYB6.out.next hb7)
                    have hYF7 : Free w7 w6.heap.size := Free.next (fun j => by simp [go_sem]) (by simp) hb7
                    have y0 := hY7 0 _ rfl
                    have y1 := hY7 1 _ rfl
                    have y2 := hY7 2 _ rfl
                    have y3 := hY7 3 _ rfl
                    have y4 := hY7 4 _ rfl
                    have f0 := hYF7 0
                    have f1 := hYF7 1
                    have f2 := hYF7 2
                    have f3 := hYF7 3
                    have f4 := hYF7 4)
                 | (with_reducible have hcheck := below_then hb7 hq6))
            | (go_at_call 73
               have hchk := hb5
               refine (cloneTexts_any f.vars _ _ (StrsAt.next (StrC.to HH4.out.vars) (by first | with_reducible exact hq5 | with_reducible exact hq5A)) hvlen).mono ?_
               rintro e w6 ⟨v6, rfl, hs6, hb6⟩
               obtain ⟨a6, c6, rfl, -, -⟩ := hs6.form
               have HS6 := Lib.hid hs6
               have hq6 := below_then hb6 (by first | with_reducible exact hq5 | with_reducible exact hq5A)
               have hs6 : w4.heap.size ≤ w6.heap.size := hq6.size
               have hz6 := hb6.size
               have hq6A := hq6.alloc hs6 (.cells #[.string ⟨#[]⟩, .slice none 0 0, .slice none 0 0, .slice none 0 0, .slice none 0 0] 55)
               have hne6X : w6.heap.size ≠ w3.heap.size := by omega
               have KC0 := Lib.hid (cell_next hq6 L0.out)
               have KC1 := Lib.hid (cell_next hq6 L1.out)
               have KC2 := Lib.hid (cell_next hq6 L2.out)
               have KC3 := Lib.hid (cell_next hq6 L3.out)
               have KCA0 := Lib.hid (cell_next hq6A L0.out)
               have KCA1 := Lib.hid (cell_next hq6A L1.out)
               have KCA2 := Lib.hid (cell_next hq6A L2.out)
               have KCA3 := Lib.hid (cell_next hq6A L3.out)
               have HYB6 := Lib.hid (box_new w6 #[.string ⟨#[]⟩, .slice none 0 0, .slice none 0 0, .slice none 0 0, .slice none 0 0] 55)
               first
                 | ((with_reducible have hY6 := hY5.next hb6)
                    have hYF6 := hYF5.next (cell_lt (hY5 0 _ rfl)) hb6)
                 | ((with_reducible have hY6 := HYB5.out.next hb6)
                    have hYF6 : Free w6 w5.heap.size := Free.next (fun j => by simp [go_sem]) (by simp) hb6)
                 | (with_reducible have hcheck := below_then hb6 hq5))
            | (go_at_call 120
               refine (clonePas_any f.params _ _ (SlAt.imp HH4.out.par fun _ _ _ _ => PaAt.mono (cw_next (by first | with_reducible exact hq4 | with_reducible exact hq4A))) hplen).mono ?_
               rintro e w5 ⟨v5, rfl, hs5, hb5⟩
               obtain ⟨a5, c5, rfl, -, -⟩ := hs5.form
               have HS5 := Lib.hid hs5
               have hq5 := below_then hb5 (by first | with_reducible exact hq4 | with_reducible exact hq4A)
               have hs5 : w4.heap.size ≤ w5.heap.size := hq5.size
               have hz5 := hb5.size
               have hq5A := hq5.alloc hs5 (.cells #[.string ⟨#[]⟩, .slice none 0 0, .slice none 0 0, .slice none 0 0, .slice none 0 0] 55)
               have hne5X : w5.heap.size ≠ w3.heap.size := by omega
               have KB0 := Lib.hid (cell_next hq5 L0.out)
               have KB1 := Lib.hid (cell_next hq5 L1.out)
               have KB2 := Lib.hid (cell_next hq5 L2.out)
               have KB3 := Lib.hid (cell_next hq5 L3.out)
               have KBA0 := Lib.hid (cell_next hq5A L0.out)
               have KBA1 := Lib.hid (cell_next hq5A L1.out)
               have KBA2 := Lib.hid (cell_next hq5A L2.out)
               have KBA3 := Lib.hid (cell_next hq5A L3.out)
               have HYB5 := Lib.hid (box_new w5 #[.string ⟨#[]⟩, .slice none 0 0, .slice none 0 0, .slice none 0 0, .slice none 0 0] 55)
               first
                 | ((with_reducible have hY5 := HYA.out.next hb5)
                    have hYF5 : Free w5 w4.heap.size := Free.next HYFA.out (by simp) hb5)
                 | (with_reducible have hcheck := below_then hb5 hq4)))
        all_goals
          have b56 : Below w5.heap.size w5 w6 := by first | with_reducible exact hb6 | with_reducible exact below_then hb6 (boxed w5 _)
          have b67 : Below w6.heap.size w6 w7 := by first | with_reducible exact hb7 | with_reducible exact below_then hb7 (boxed w6 _)
          have m6 := b56.size
          have m7 := b67.size
          have k5 := hb5.size
          have k6 := hb6.size
          have k7 := hb7.size
          (try simp only [World.size_drew, World.size_alloc] at k5 k6 k7)
          go_wp2_with fail
          go_meet
          first
           | (refine ⟨w7.heap.size, a5, a6, a7, c5, c6, c7, (by with_reducible rfl), ?_, ?_, ?_, ?_, ?_, ?_, ?_, ?_⟩
              · omega
              · simp
              · exact hq7.alloc hs7 _
              · exact (box_new w7 #[.string f.nm, .slice a5 f.params.length c5, .slice a6 f.vars.length c6, .slice none 0 0, .slice a7 f.fin.length c7] 55)
              · exact fun j => by simp [go_sem]
              · refine SlAt.imp HS5.out (fun _ _ _ _ => PaAt.mono (le_ne (B' := w4.heap.size) (Y := w7.heap.size) (below_then (boxed w7 _) (b56.trans (b67.mono b56.size))) ?_ ?_))
                · first | omega | (simp; omega) | simp
                · first | (left; omega) | (right; omega) | (left; simp; omega) | (left; simp) | (right; simp; omega)
              · refine StrC.mono (le_ne (B' := w4.heap.size) (Y := w7.heap.size) (below_then (boxed w7 _) b67) ?_ ?_) HS6.out
                · first | omega | (simp; omega) | simp
                · first | (left; omega) | (right; omega) | (left; simp; omega) | (left; simp) | (right; simp; omega)
              · refine StrC.mono (le_ne (B' := w4.heap.size) (Y := w7.heap.size) (boxed w7 _) ?_ ?_) HS7.out
                · first | omega | (simp; omega) | simp
                · first | (left; omega) | (right; omega) | (left; simp; omega) | (left; simp) | (right; simp; omega))
           | (refine ⟨w6.heap.size, a5, a6, a7, c5, c6, c7, (by with_reducible rfl), ?_, ?_, ?_, ?_, ?_, ?_, ?_, ?_⟩
              · omega
              · rw [size5]; exact cell_lt (hY7 0 _ rfl)
              · exact below5 hq7 (by omega)
              · exact box5 hY7
              · exact free5 hYF7
              · refine SlAt.imp HS5.out (fun _ _ _ _ => PaAt.mono (Cs.le_trans (le_ne (B' := w4.heap.size) (Y := w6.heap.size) (b56.trans (b67.mono b56.size)) ?_ ?_) (only5 ?_)))
                · first | omega | (simp; omega) | simp
                · first | (left; omega) | (right; omega) | (left; simp; omega) | (left; simp) | (right; simp; omega)
                · simp
              · refine StrC.mono (Cs.le_trans (le_ne (B' := w4.heap.size) (Y := w6.heap.size) b67 ?_ ?_) (only5 ?_)) HS6.out
                · first | omega | (simp; omega) | simp
                · first | (left; omega) | (right; omega) | (left; simp; omega) | (left; simp) | (right; simp; omega)
                · simp
              · refine StrC.mono (Cs.le_trans (le_ne (B' := w4.heap.size) (Y := w6.heap.size) (Below.refl _ _) ?_ ?_) (only5 ?_)) HS7.out
                · first | omega | (simp; omega) | simp
                · first | (left; omega) | (right; omega) | (left; simp; omega) | (left; simp) | (right; simp; omega)
                · simp)
           | (refine ⟨w5.heap.size, a5, a6, a7, c5, c6, c7, (by with_reducible rfl), ?_, ?_, ?_, ?_, ?_, ?_, ?_, ?_⟩
              · omega
              · rw [size5]; exact cell_lt (hY7 0 _ rfl)
              · exact below5 hq7 (by omega)
              · exact box5 hY7
              · exact free5 hYF7
              · refine SlAt.imp HS5.out (fun _ _ _ _ => PaAt.mono (Cs.le_trans (le_ne (B' := w4.heap.size) (Y := w5.heap.size) (b56.trans (b67.mono b56.size)) ?_ ?_) (only5 ?_)))
                · first | omega | (simp; omega) | simp
                · first | (left; omega) | (right; omega) | (left; simp; omega) | (left; simp) | (right; simp; omega)
                · simp
              · refine StrC.mono (Cs.le_trans (le_ne (B' := w4.heap.size) (Y := w5.heap.size) b67 ?_ ?_) (only5 ?_)) HS6.out
                · first | omega | (simp; omega) | simp
                · first | (left; omega) | (right; omega) | (left; simp; omega) | (left; simp) | (right; simp; omega)
                · simp
              · refine StrC.mono (Cs.le_trans (le_ne (B' := w4.heap.size) (Y := w5.heap.size) (Below.refl _ _) ?_ ?_) (only5 ?_)) HS7.out
                · first | omega | (simp; omega) | simp
                · first | (left; omega) | (right; omega) | (left; simp; omega) | (left; simp) | (right; simp; omega)
                · simp)
           | (refine ⟨w4.heap.size, a5, a6, a7, c5, c6, c7, (by with_reducible rfl), ?_, ?_, ?_, ?_, ?_, ?_, ?_, ?_⟩
              · omega
              · rw [size5]; exact cell_lt (hY7 0 _ rfl)
              · exact below5 hq7 (by omega)
              · exact box5 hY7
              · exact free5 hYF7
              · refine SlAt.imp HS5.out (fun _ _ _ _ => PaAt.mono (Cs.le_trans (le_ne (B' := w4.heap.size) (Y := w4.heap.size) (b56.trans (b67.mono b56.size)) ?_ ?_) (only5 ?_)))
                · first | omega | (simp; omega) | simp
                · first | (left; omega) | (right; omega) | (left; simp; omega) | (left; simp) | (right; simp; omega)
                · simp
              · refine StrC.mono (Cs.le_trans (le_ne (B' := w4.heap.size) (Y := w4.heap.size) b67 ?_ ?_) (only5 ?_)) HS6.out
                · first | omega | (simp; omega) | simp
                · first | (left; omega) | (right; omega) | (left; simp; omega) | (left; simp) | (right; simp; omega)
                · simp
              · refine StrC.mono (Cs.le_trans (le_ne (B' := w4.heap.size) (Y := w4.heap.size) (Below.refl _ _) ?_ ?_) (only5 ?_)) HS7.out
                · first | omega | (simp; omega) | simp
                · first | (left; omega) | (right; omega) | (left; simp; omega) | (left; simp) | (right; simp; omega)
                · simp)
      case rest =>
        obtain ⟨Y, a5, a6, a7, c5, c6, c7, rfl, hY0, hY1, hbc, hT, hTF, h5, h6, h7⟩ := hcut
        have hs34 := HB4.out.size
        have HBC := Lib.hid hbc
        have HBC3 := Lib.hid (HB4.out.trans (hbc.mono hs34))
        have HT := Lib.hid hT
        have HTF := Lib.hid hTF
        have H5 := Lib.hid h5
        have H6 := Lib.hid h6
        have H7 := Lib.hid h7
        have HBDC := Lib.hid (HH4.out.next hbc).body
        have x3 := HX4.out.next hbc 3 _ rfl
        obtain ⟨LB, hLB⟩ : ∃ L, Hid (cpL true (N : Int) f.body = L) := ⟨_, Lib.hid rfl⟩
        obtain ⟨N2, hN2⟩ : ∃ N2 : Nat, Hid (N2 = N + cntL f.body) := ⟨_, Lib.hid rfl⟩
        have hneYX : Y ≠ w3.heap.size := by omega
        clear hbc hT hTF h5 h6 h7 HX4
        have hcop := copied_any true d f.body _ (N : Int) wc HBDC.out hbwt
        rw [hLB.out, show ((N : Int) + (cntL f.body : Nat)) = (N2 : Int) by rw [hN2.out]; push_cast; rfl] at hcop
        go_wp2_with fail
        refine hcop.mono ?_
        rintro e w10 ⟨v8, rfl, hst8, hb10⟩
        obtain ⟨a8, c8, rfl, -, -⟩ := hst8.form
        have HST8 := Lib.hid hst8
        have HB10 := Lib.hid hb10
        have hT10 := HT.out.next hb10
        have HT10 := Lib.hid hT10
        have z3 := hT10 3 _ rfl
        have zf := HTF.out.next hY1 hb10 3
        clear hst8 hb10 hT10 x3 hcop
        go_upto_region 8 with fail
        have hYc : ¬ wc.heap.size ≤ Y := by omega
        refine cut_world (fun wx => Below w3.heap.size w3 wx ∧ Below w4.heap.size w4 wx ∧ BoxAt wx Y [.string f.nm, .slice a5 f.params.length c5, .slice a6 f.vars.length c6, .slice a8 LB.length c8, .slice a7 f.fin.length c7] ∧ PcQ d (nwC w4.heap.size wx) [.string f.nm, .slice a5 f.params.length c5, .slice a6 f.vars.length c6, .slice a8 LB.length c8, .slice a7 f.fin.length c7] (numPc N f)) ⟨?_, ?_, ?_, ?_⟩ ?_
        · exact (HBC3.out.trans (HB10.out.mono HBC3.out.size)).setCell (p := ⟨Y, 3, none⟩) (by simp; omega) _
        · exact (HBC.out.trans (HB10.out.mono HBC.out.size)).setCell (p := ⟨Y, 3, none⟩) hY0 _
        · exact HT10.out.put (j := 3) (x := .slice a8 LB.length c8) (by simp)
        · have hle : Cs.le (only (fun g => w4.heap.size ≤ g ∧ g ≠ Y) (cw wc)) (nwC w4.heap.size (w10.setCell ⟨Y, 3, none⟩ (.slice a8 LB.length c8))) := Cs.le_trans (only_le (fun _ h => h) (cw_next HB10.out)) (Cs.le_trans (only_set (by simp)) (only_le (fun g h => h.1) (fun _ _ _ h => h)))
          have hle2 : Cs.le (nwC wc.heap.size w10) (nwC w4.heap.size (w10.setCell ⟨Y, 3, none⟩ (.slice a8 LB.length c8))) := Cs.le_trans (only_set hYc) (only_le (fun g h => Nat.le_trans HBC.out.size h) (fun _ _ _ h => h))
          refine ⟨_, _, _, _, rfl, HNM.out, SlAt.imp H5.out (fun _ _ _ _ => PaAt.mono hle), StrC.mono hle H6.out, ?_, StrC.mono hle H7.out⟩
          show StC _ _ _ (cpL true (N : Int) f.body)
          rw [hLB.out]
          exact StC.mono hle2 HST8.out
        rintro w11 ⟨hb11, hb411, hT11, hpq⟩
        have HB11 := Lib.hid hb11
        have HB411 := Lib.hid hb411
        have HPQ := Lib.hid hpq
        have q0 := hT11 0 _ rfl
        have q1 := hT11 1 _ rfl
        have q2 := hT11 2 _ rfl
        have q3 := hT11 3 _ rfl
        have q4 := hT11 4 _ rfl
        have g1 := cell_next hb11 (HG.out.y 1 _ rfl)
        have g1f := frozen_next hb11 (HG.out.y 1 _ rfl) (HG.out.fy 1)
        have hown := ownsBelow HG.out.acc.own hb11
        rw [HQA.out] at hown
        have HOWN := Lib.hid hown
        have hbw := HG.out.bw
        have hylt := HG.out.ylt
        have hz11 := hb11.size
        have hyb := HG.out.yb
        have HNB := Lib.hid HG.out.own
        have hplen2 : p.procs.length ≤ 20000 := by have h1 := wtPc_len p.procs; have h2 := HWP.out; unfold wtPr at h2; omega
        clear hb11 hb411 hT11 hpq hown z3 zf HT10 HST8 HB10 HT HTF H5 H6 H7
        go_wp2_with (at_builtin; refine wpList_append_lies _ rfl (.tmp 40) (.tmp 42) 23 rfl wb.heap.size 55 iP (.agg #[.string ⟨#[]⟩, .slice none 0 0, .slice none 0 0, .slice none 0 0, .slice none 0 0]) 5 112 Try.underlying23 hiP hzP0 hzP1 hzP2 rfl (by decide) _ _ _ rfl (HOWN.out.alloc _) ⟨_, 0, none⟩ 1 1 [.string f.nm, .slice a5 f.params.length c5, .slice a6 f.vars.length c6, .slice a8 LB.length c8, .slice a7 f.fin.length c7] rfl rfl ?_ (by simp [Value.oneCell']) (by decide) ?_ ?_ ?_ _ rfl ?_)
        · intro j u h
          rw [Addr.add_lit, World.cell?_alloc_new]
          simpa using h
        · unfold maxLen; omega
        · omega
        · simp only [World.size_alloc]
          omega
        intro g12 cap12 w12 hown12 hg12 hat12 hlt12
        have HOWN12 := Lib.hid hown12
        have HG12 := Lib.hid hg12
        have HAT12 := Lib.hid hat12
        have r1 := (hg12.cell_far ⟨w2.heap.size, 1, none⟩ (by simp <;> omega) (HNB.out _ (by simp <;> omega))).trans (cell_next (boxed w11 _) g1)
        have r1f := (hg12.frozen_far ⟨w2.heap.size, 1, none⟩ (by simp <;> omega) (HNB.out _ (by simp <;> omega))).trans (frozen_next (boxed w11 _) g1 g1f)
        clear hown12 hg12 hat12 hlt12
        go_wp2_with fail
        go_roundw
        case rel =>
          have hbw11 := boxed w11 (.cells #[.string f.nm, .slice a5 f.params.length c5, .slice a6 f.vars.length c6, .slice a8 LB.length c8, .slice a7 f.fin.length c7] 55)
          have hch := HB11.out.trans (hbw11.mono HB11.out.size)
          refine ⟨k + 1, .slice (some ⟨g12, 0, none⟩) (k + 1) cap12, rows5 ++ [[.string f.nm, .slice a5 f.params.length c5, .slice a6 f.vars.length c6, .slice a8 LB.length c8, .slice a7 f.fin.length c7]], by omega, by go_num, ?_, ?_, ?_, ?_, ?_⟩
          · have e : N2 = cntQ (p.procs.take (k + 1)) := by rw [hN2.out, List.take_succ_eq_append_getElem hlt, cntQ_snoc, hf.out, hNN.out]
            rw [← e]
          · exact Grow.below (B := wb.heap.size) (Y := w2.heap.size) (slot := 1) HBel.out hch HG12.out (by omega) (by omega) HG.out.own
          · have := HG12.out.size
            have := hch.size
            simp only [World.size_setCell, World.size_alloc] at *
            omega
          · exact Cs.le_trans (D := only (fun g => g < wb.heap.size ∧ g ≠ w2.heap.size) (cw w3)) (fun g j u h => ⟨h.1, HKEEP.out g j u h⟩) (Cs.le_trans (grow_keep hch HG12.out HG.out.own) only_out)
          · have hst := HG.out.step (v4 := .slice (some ⟨g12, 0, none⟩) (k + 1) cap12) (by simp) (PcQ.mono d) HB4.out HB411.out hbw11 HG12.out (fun z hz => by have hzz : g12 = z := by { simpa [Value.ownBlock] using hz }; subst hzz; exact HAT12.out.imp id fun h => by omega) rfl HPQ.out (by rw [HQA.out]; exact HOWN12.out)
            rw [List.take_succ_eq_append_getElem hlt, numPs_snoc, hf.out, Int.zero_add, hNN.out]
            exact hst
        case measure => simp [intOf]; omega
    · have hlt' : ¬ (k : Int) < (p.procs.length : Int) := by omega
      have hke : k = p.procs.length := by omega
      subst hke
      rw [List.take_length] at HG
      have y0 := HG.out.y 0 _ rfl
      have y1 := HG.out.y 1 _ rfl
      obtain ⟨r0, hr0⟩ := HG.out.r 0 (by omega)
      obtain ⟨r1, hr1⟩ := HG.out.r 1 (by omega)
      have f1 := HG.out.fr 0
      have f2 := HG.out.fr 1
      have HACC := Lib.hid HG.out.acc
      have hne1 : ∀ i j, (⟨w.heap.size + 1, i, none⟩ : Addr) ≠ ⟨w2.heap.size, j, none⟩ := fun i j e => by have := congrArg Addr.block e; simp only at this; omega
      have HGL : Hid (StrC (only (fun g => w.heap.size + 1 + 1 ≤ g ∧ g < wb.heap.size) (cw w3)) (.slice ga2 p.globals.length gc2) p.globals) := Lib.hid (StrC.mono (fun g j u h => ⟨⟨h.1.1, cell_lt h.2⟩, HKEEP.out g j u ⟨⟨cell_lt h.2, h.1.2⟩, h.2⟩⟩) HGB.out)
      clear hbel
      go_wp2_with fail
      have q0 : ((w3.setCell ⟨w.heap.size + 1, 0, none⟩ (.slice ga2 p.globals.length gc2)).setCell ⟨w.heap.size + 1, 1, none⟩ (.slice va5 p.procs.length vc5)).cell? ⟨w.heap.size + 1, 0, none⟩ = some (.slice ga2 p.globals.length gc2) := by
        rw [World.cell?_setCell_other _ _ _ _ (fun e => by have := congrArg Addr.off e; simp at this)]
        exact cell_set hr0
      have q1 : ((w3.setCell ⟨w.heap.size + 1, 0, none⟩ (.slice ga2 p.globals.length gc2)).setCell ⟨w.heap.size + 1, 1, none⟩ (.slice va5 p.procs.length vc5)).cell? ⟨w.heap.size + 1, 1, none⟩ = some (.slice va5 p.procs.length vc5) := by
        refine cell_set (y := r1) ?_
        rw [World.cell?_setCell_other _ _ _ _ (fun e => by have := congrArg Addr.off e; simp at this)]
        exact hr1
      refine bodyPost_ret (v := .agg #[.slice ga2 p.globals.length gc2, .slice va5 p.procs.length vc5]) (by simp [results, Try.results78, go_sem, q0, q1]) rfl ⟨.slice ga2 p.globals.length gc2, .slice va5 p.procs.length vc5, wb.heap.size, rows5, rfl, by omega, ?_, ?_, ?_⟩
      · have HGL2 := HGL.out
        exact StrC.mono (Cs.le_trans (only_set (by omega)) (Cs.le_trans (only_set (by omega)) (only_le (fun g (h : w.heap.size + 1 + 1 ≤ g ∧ g < wb.heap.size) => (⟨by omega, h.2⟩ : w.heap.size ≤ g ∧ g < wb.heap.size)) (fun _ _ _ h => h)))) HGL2
      · exact (HACC.out.set (PcQ.mono d) (b := w.heap.size + 1) (by omega) _).set (PcQ.mono d) (b := w.heap.size + 1) (by omega) _
      · exact (HBel.out.setCell (p := ⟨_, _, none⟩) (by simp) _).setCell (p := ⟨_, _, none⟩) (by simp) _
end Go.Proofs.Ytghlmengcidmdaa.Tr
end
section
/- A program that may be has its ids already. No program. Conditions: it may be. -/
namespace Go.Proofs.Ytghlmengcidmdaa.Tr
open Go.RowKit Go.Proofs.Ytghlmengcidmdaa.Lx Go.Proofs.Ytghlmengcidmdaa.Wd
mutual
theorem num_sameS : ∀ (s : St) (nest n : Int), rowS 200 12 nest n s = true → 0 ≤ n → cpS true n s = s
  | .mk i k ls nm pr x h ar th el, nest, n => fun hr h0 => by
    rw [rowS_eq] at hr
    simp only [Bool.and_eq_true, decide_eq_true_eq, beq_iff_eq, St.id, St.labels, St.thn, St.els] at hr
    have hn := hr.1.1.1.1.2
    have hm := hr.1.1.1.1.1
    have e : wrap64 (n + 1) = i := by unfold wrap64; omega
    rw [cpS, num_sameL th _ _ hr.1.2 (by omega), num_sameL el _ _ hr.2 (by omega), if_pos rfl, e]
theorem num_sameL : ∀ (l : List St) (nest n : Int), rowsL 200 12 nest n l = true → 0 ≤ n → cpL true n l = l
  | [], nest, n => fun _ _ => by rw [cpL]
  | s :: r, nest, n => fun hr h0 => by
    rw [rowsL_cons] at hr
    simp only [Bool.and_eq_true, decide_eq_true_eq] at hr
    rw [cpL, num_sameS s _ _ hr.1.2 h0, num_sameL r _ _ hr.2 (by omega)]
end
theorem num_samePs : ∀ (l : List Pc) (n : Int), mayPs n l = true → 0 ≤ n → numPs n l = l := by
  intro l
  induction l with
  | nil => intro n _ _; rfl
  | cons f r ih =>
    intro n h h0
    rw [mayPs, Bool.and_eq_true] at h
    rw [numPs]
    have e2 : numPc n f = f := by
      unfold numPc
      rw [num_sameL f.body _ _ (mayPc_rows h.1) h0]
    rw [e2, ih _ h.2 (by omega)]
theorem num_same {p : Pr} (h : mayP p = true) : numPr p = p := by
  unfold numPr
  rw [num_samePs p.procs 0 (mayP_procs h) (by omega)]
end Go.Proofs.Ytghlmengcidmdaa.Tr
end
section
/- A procedure by its name; what a name stands for in it. Conditions: the program lies in memory. -/
namespace Go.Proofs.Ytghlmengcidmdaa.Tr
open Go.RowKit Go.Proofs.Ytghlmengcidmdaa.Lx Go.Proofs.Ytghlmengcidmdaa.Wd
set_option maxHeartbeats 4000000 in
set_option maxRecDepth 100000 in
theorem sproc_any (d : Nat) (p : Pr) (gv pv : Value) (s : ByteArray) (w : World) (hp : PrC (cw w) d gv pv p) (hwp : wtPr p ≤ 20000) :
    Calls Try.prog 32 #[.agg #[gv, pv], .string s] w (PcMade d (pcIn p s) w) := by
  obtain ⟨ga, gc, rfl, -, -⟩ := hp.1.form
  obtain ⟨pa, pc, rfl, hl1, hl2⟩ := hp.2.form
  have hpl : p.procs.length ≤ 9223372036854775807 := Nat.le_trans hl1 hl2
  have HP := Lib.hid hp
  clear hp hl1 hl2
  go_enter Try.func32, Try.ntmps32
  go_upto_region 1 with fail
  refine cut_world (fun wx => Below w.heap.size w wx ∧ wx.heap.size = w.heap.size + 1 + 1 ∧ BoxAt wx w.heap.size [.slice ga p.globals.length gc, .slice pa p.procs.length pc] ∧ BoxAt wx (w.heap.size + 1) [.string ⟨#[]⟩, .slice none 0 0, .slice none 0 0, .slice none 0 0, .slice none 0 0] ∧ Free wx (w.heap.size + 1)) ⟨(boxed w _).alloc (by simp) _, by simp, (box_new w #[.slice ga p.globals.length gc, .slice pa p.procs.length pc] 25).next (boxed _ _), box_two w _ #[.string ⟨#[]⟩, .slice none 0 0, .slice none 0 0, .slice none 0 0, .slice none 0 0] 55, free_two w _ _ _⟩ ?_
  rintro w1 ⟨hb1, hz1, hx1, hr1, hf1⟩
  obtain ⟨R, hR⟩ : ∃ R, R = w.heap.size + 1 := ⟨_, rfl⟩
  rw [← hR] at hr1 hf1
  try rw [← hR]
  have hRw : w.heap.size < R := by omega
  have hR1 : R < w1.heap.size := by omega
  have HB1 := Lib.hid hb1
  have HX1 := Lib.hid hx1
  have HR1 := Lib.hid hr1
  have HF1 := Lib.hid hf1
  have HBP1 : Hid (PrC (but R w1) d (.slice ga p.globals.length gc) (.slice pa p.procs.length pc) p) := Lib.hid (PrC.mono (fun g j u h => ⟨by have := cell_lt h; omega, cw_next hb1 _ _ _ h⟩) HP.out)
  clear hb1 hx1 hr1 hf1 hz1 hR
  have x0 := HX1.out 0 _ rfl
  have x1 := HX1.out 1 _ rfl
  go_wp2_with fail
  refine (mayP_any d p _ _ _ (PrC.mono only_out HBP1.out)).mono ?_
  rintro e w2 ⟨rfl, hb2⟩
  obtain ⟨m1, hm1⟩ : ∃ m, Hid (mayP p = m) := ⟨_, Lib.hid rfl⟩
  rw [hm1.out]
  have HB2 := Lib.hid (HB1.out.trans (hb2.mono HB1.out.size))
  have HX2 := Lib.hid (HX1.out.next hb2)
  have HR2 := Lib.hid (HR1.out.next hb2)
  have HF2 := Lib.hid (HF1.out.next hR1 hb2)
  have hR2 : R < w2.heap.size := cell_lt (HR2.out 0 _ rfl)
  have HP2 := Lib.hid (PrC.mono (Cs.le_trans only_out (cw_next hb2)) HBP1.out)
  clear hb2 x0 x1
  cases m1 with
  | false =>
    have r0 := HR2.out 0 _ rfl
    have r1 := HR2.out 1 _ rfl
    have r2 := HR2.out 2 _ rfl
    have r3 := HR2.out 3 _ rfl
    have r4 := HR2.out 4 _ rfl
    have f0 := HF2.out 0
    have f1 := HF2.out 1
    have f2 := HF2.out 2
    have f3 := HF2.out 3
    have f4 := HF2.out 4
    go_wp2_with fail
    have hq := box5 (x0 := .string ⟨#[]⟩) (x1 := .slice none 0 0) (x2 := .slice none 0 0) (x3 := .slice none 0 0) (x4 := .slice none 0 0) HR2.out
    have q0 := hq 0 _ rfl
    have q1 := hq 1 _ rfl
    have q2 := hq 2 _ rfl
    have q3 := hq 3 _ rfl
    have q4 := hq 4 _ rfl
    refine bodyPost_ret (v := .tuple #[.agg #[.string ⟨#[]⟩, .slice none 0 0, .slice none 0 0, .slice none 0 0, .slice none 0 0], .bool false]) (by simp [results, Try.results32, go_sem, q0, q1, q2, q3, q4]) rfl ?_
    rw [show (pcIn p s) = none from by unfold pcIn; rw [if_neg (by rw [hm1.out]; decide)]]
    exact ⟨rfl, below5 HB2.out (by omega)⟩
  | true =>
    have x0 := HX2.out 0 _ rfl
    have x1 := HX2.out 1 _ rfl
    go_wp2_with fail
    refine ((number_row d p _ _ _ HP2.out hwp).mono fun _ _ h => h.made).mono ?_
    rw [num_same hm1.out]
    rintro e w3 ⟨gv3, pv3, rfl, hp3, hb3⟩
    obtain ⟨gn, gnc, rfl, -, -⟩ := hp3.1.form
    obtain ⟨pn, pnc, rfl, hn1, hn2⟩ := hp3.2.form
    have HP3 := Lib.hid hp3
    have HB3 := Lib.hid (HB2.out.trans (hb3.mono HB2.out.size))
    have HR3 := Lib.hid (HR2.out.next hb3)
    have HF3 := Lib.hid (HF2.out.next hR2 hb3)
    have hs3 := hb3.size
    clear hb3 hp3 x0 x1 hn1 hn2
    go_upto_region 4 with fail
    refine cut_world (fun wx => Below w3.heap.size w3 wx ∧ BoxAt wx w3.heap.size [.slice gn p.globals.length gnc, .slice pn p.procs.length pnc]) ⟨boxed w3 _, box_new w3 #[.slice gn p.globals.length gnc, .slice pn p.procs.length pnc] 25⟩ ?_
    rintro w4 ⟨hb4, hx4⟩
    have HX4 := Lib.hid hx4
    have HB4 := Lib.hid (HB3.out.trans (hb4.mono HB3.out.size))
    have HR4 := Lib.hid (HR3.out.next hb4)
    have HF4 := Lib.hid (HF3.out.next (by omega) hb4)
    have HBP4 : Hid (PrC (but R w4) d (.slice gn p.globals.length gnc) (.slice pn p.procs.length pnc) p) := Lib.hid (PrC.mono (fun g j u h => ⟨by have := h.1; omega, cw_next hb4 _ _ _ h.2⟩) HP3.out)
    clear hb4 hx4
    have x1 := HX4.out 1 _ rfl
    go_wp2_with fail
    clear x1
    go_loopw [18] (fun i wr => ∃ k : Nat, k ≤ p.procs.length ∧ i = .int .i64 k ∧ (∀ j (hj : j < p.procs.length), j < k → (p.procs[j].nm.toList == s.toList) = false) ∧ Below w4.heap.size w4 wr) (fun i _ => (p.procs.length - intOf i).toNat)
    case atStart => exact ⟨0, by omega, rfl, fun j _ h => absurd h (by omega), Below.refl _ _⟩
    case round =>
      obtain ⟨k, hk, rfl, hno, hbr⟩ := hrel
      obtain ⟨wq, hwq⟩ : ∃ x : World, x = wr := ⟨_, rfl⟩
      subst hwq
      have HNO := Lib.hid hno
      have HBR := Lib.hid hbr
      have HPQ := Lib.hid (PrC.mono (but_next hbr) HBP4.out)
      have HRQ := Lib.hid (HR4.out.next hbr)
      have HFQ := Lib.hid (HF4.out.next (cell_lt (HR4.out 0 _ rfl)) hbr)
      have HBQ := Lib.hid (HB4.out.trans (hbr.mono HB4.out.size))
      have hRq : R < wq.heap.size := cell_lt (HRQ.out 0 _ rfl)
      clear hno hbr
      by_cases hlt : k < p.procs.length
      · have hlt' : (k : Int) < (p.procs.length : Int) := by omega
        have h0k : (0 : Int) ≤ (k : Int) := by omega
        have hne : p.procs ≠ [] := by intro h; rw [h] at hlt; simp at hlt
        obtain ⟨g, off, cap', hv, _, hcells⟩ := SlAt.cells HPQ.out.2 hne
        simp only [Value.slice.injEq] at hv
        obtain ⟨rfl, -, rfl⟩ := hv
        obtain ⟨pv, vv, bv, fv, p0, p1, p2, p3, p4, hnm, hps, hvs, hbody, hfin⟩ := hcells k hlt
        have hfa := fun h => fst_at hlt (f := fun f : Pc => f.nm.toList == s.toList) (fun j hj hjk => HNO.out j hj hjk) h
        obtain ⟨f, hf⟩ : ∃ f, Hid (p.procs[k] = f) := ⟨_, Lib.hid rfl⟩
        rw [hf.out] at p0 hnm hps hvs hbody hfin hfa
        obtain ⟨a1, c1, rfl, -, -⟩ := hps.form
        obtain ⟨a2, c2, rfl, -, -⟩ := hvs.form
        obtain ⟨a3, c3, rfl, -, -⟩ := hbody.form
        obtain ⟨a4, c4, rfl, -, -⟩ := hfin.form
        have e0 : wq.cell? ⟨g, off + k * 5, none⟩ = _ := p0.2
        have e1 : wq.cell? ⟨g, off + k * 5 + 1, none⟩ = _ := p1.2
        have e2 : wq.cell? ⟨g, off + k * 5 + 2, none⟩ = _ := p2.2
        have e3 : wq.cell? ⟨g, off + k * 5 + 3, none⟩ = _ := p3.2
        have e4 : wq.cell? ⟨g, off + k * 5 + 4, none⟩ = _ := p4.2
        have HNM := Lib.hid hnm
        have HH1 := Lib.hid hps
        have HH2 := Lib.hid hvs
        have HH3 := Lib.hid hbody
        have HH4 := Lib.hid hfin
        have HFA := Lib.hid hfa
        clear hcells hne p0 p1 p2 p3 p4 hnm hps hvs hbody hfin hfa
        go_upto_region 7 with fail
        refine cut_world (fun wx => Below wq.heap.size wq wx ∧ BoxAt wx wq.heap.size [.string f.nm, .slice a1 f.params.length c1, .slice a2 f.vars.length c2, .slice a3 f.body.length c3, .slice a4 f.fin.length c4]) ⟨boxed wq _, box_new wq #[.string f.nm, .slice a1 f.params.length c1, .slice a2 f.vars.length c2, .slice a3 f.body.length c3, .slice a4 f.fin.length c4] 55⟩ ?_
        clear e0 e1 e2 e3 e4
        rintro w5 ⟨hb5, hx5⟩
        have HB5 := Lib.hid hb5
        have x0 := hx5 0 _ rfl
        have x1 := hx5 1 _ rfl
        have x2 := hx5 2 _ rfl
        have x3 := hx5 3 _ rfl
        have x4 := hx5 4 _ rfl
        have HR5 := Lib.hid (HRQ.out.next hb5)
        have HF5 := Lib.hid (HFQ.out.next hRq hb5)
        have HBW5 := Lib.hid (HBQ.out.trans (hb5.mono HBQ.out.size))
        clear hb5 hx5
        cases hc : (f.nm.toList == s.toList) with
        | true =>
          have hfa := HFA.out hc
          have HFA2 := Lib.hid hfa
          clear hfa
          have r0 := HR5.out 0 _ rfl
          have r1 := HR5.out 1 _ rfl
          have r2 := HR5.out 2 _ rfl
          have r3 := HR5.out 3 _ rfl
          have r4 := HR5.out 4 _ rfl
          have f0 := HF5.out 0
          have f1 := HF5.out 1
          have f2 := HF5.out 2
          have f3 := HF5.out 3
          have f4 := HF5.out 4
          go_wp2_with fail
          have hq := box5 (x0 := .string f.nm) (x1 := .slice a1 f.params.length c1) (x2 := .slice a2 f.vars.length c2) (x3 := .slice a3 f.body.length c3) (x4 := .slice a4 f.fin.length c4) HR5.out
          have q0 := hq 0 _ rfl
          have q1 := hq 1 _ rfl
          have q2 := hq 2 _ rfl
          have q3 := hq 3 _ rfl
          have q4 := hq 4 _ rfl
          refine bodyPost_ret (v := .tuple #[.agg #[.string f.nm, .slice a1 f.params.length c1, .slice a2 f.vars.length c2, .slice a3 f.body.length c3, .slice a4 f.fin.length c4], .bool true]) (by simp [results, Try.results32, go_sem, q0, q1, q2, q3, q4]) rfl ?_
          rw [show (pcIn p s) = some f from by unfold pcIn; rw [if_pos hm1.out]; exact HFA2.out]
          have hle : Cs.le (but R wq) _ := Cs.le_trans (but_next HB5.out) (but_set5 (x0 := .string f.nm) (x1 := .slice a1 f.params.length c1) (x2 := .slice a2 f.vars.length c2) (x3 := .slice a3 f.body.length c3) (x4 := .slice a4 f.fin.length c4))
          exact ⟨a1, a2, a3, a4, c1, c2, c3, c4, rfl, HangP.of hle HH1.out HH2.out HH3.out HH4.out, HNM.out, below5 HBW5.out (by omega)⟩
        | false =>
          have HC := Lib.hid hc
          go_wp2_with fail
          go_roundw
          case rel =>
            refine ⟨k + 1, by omega, by go_num, fun j hj hjk => ?_, HBR.out.trans (HB5.out.mono HBR.out.size)⟩
            rcases Nat.lt_or_ge j k with h | h
            · exact HNO.out j hj h
            · obtain rfl : j = k := by omega
              rw [hf.out]; exact HC.out
          case measure => simp [intOf]; omega
      · have hlt' : ¬ (k : Int) < (p.procs.length : Int) := by omega
        have hfn : p.procs.find? (fun f : Pc => f.nm.toList == s.toList) = none := fst_no fun j hj => HNO.out j hj (by omega)
        have HNON := Lib.hid hfn
        clear hfn
        have r0 := HRQ.out 0 _ rfl
        have r1 := HRQ.out 1 _ rfl
        have r2 := HRQ.out 2 _ rfl
        have r3 := HRQ.out 3 _ rfl
        have r4 := HRQ.out 4 _ rfl
        have f0 := HFQ.out 0
        have f1 := HFQ.out 1
        have f2 := HFQ.out 2
        have f3 := HFQ.out 3
        have f4 := HFQ.out 4
        go_wp2_with fail
        have hq := box5 (x0 := .string ⟨#[]⟩) (x1 := .slice none 0 0) (x2 := .slice none 0 0) (x3 := .slice none 0 0) (x4 := .slice none 0 0) HRQ.out
        have q0 := hq 0 _ rfl
        have q1 := hq 1 _ rfl
        have q2 := hq 2 _ rfl
        have q3 := hq 3 _ rfl
        have q4 := hq 4 _ rfl
        refine bodyPost_ret (v := .tuple #[.agg #[.string ⟨#[]⟩, .slice none 0 0, .slice none 0 0, .slice none 0 0, .slice none 0 0], .bool false]) (by simp [results, Try.results32, go_sem, q0, q1, q2, q3, q4]) rfl ?_
        rw [show (pcIn p s) = none from by unfold pcIn; rw [if_pos hm1.out]; exact HNON.out]
        exact ⟨rfl, below5 HBQ.out (by omega)⟩
end Go.Proofs.Ytghlmengcidmdaa.Tr
end
section
/- What holds of a program whose names are well. No program's code. Conditions: as each statement says. -/
namespace Go.Proofs.Ytghlmengcidmdaa.Tr
open Go.RowKit Go.Proofs.Ytghlmengcidmdaa.Lx Go.Proofs.Ytghlmengcidmdaa.Wd
section
variable {p : Pr} {f : Pc} (hf : f ∈ p.procs) (h : (scopeP p).1 = 0)
include hf h
end
theorem well_procs {p : Pr} (h : (scopeP p).1 = 0) : 0 < p.procs.length := by
  obtain ⟨-, h2, -⟩ := scope_code h
  obtain ⟨-, -, f, h3, -⟩ := head_parts h2
  have := List.mem_of_find?_eq_some h3
  exact List.length_pos_of_mem this
end Go.Proofs.Ytghlmengcidmdaa.Tr
end
