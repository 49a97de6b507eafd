/- Parts of RowA: walks and plain laws that later texts use. Conditions: as each statement says. -/
import Derived.Test.YtghlmengcidmdaaTa0
import Derived.Test.YtghlmengcidmdaaTa1
import Derived.Test.YtghlmengcidmdaaTa2
import Derived.Test.YtghlmengcidmdaaTa3
import Derived.Test.YtghlmengcidmdaaTa4
import Derived.Test.YtghlmengcidmdaaTa5
import Derived.Test.YtghlmengcidmdaaTa6
import Derived.Test.YtghlmengcidmdaaTa7
import Derived.Test.YtghlmengcidmdaaTa8
import Derived.Test.YtghlmengcidmdaaTa9
import Derived.Test.YtghlmengcidmdaaTa10
import Derived.Test.YtghlmengcidmdaaTa11
import Derived.Test.YtghlmengcidmdaaTa12
import Derived.Test.YtghlmengcidmdaaTa13
import Derived.Test.YtghlmengcidmdaaTa14
import Derived.Test.YtghlmengcidmdaaTa15
import Derived.Test.YtghlmengcidmdaaTa16
import Derived.Test.YtghlmengcidmdaaTa17
import Derived.Test.YtghlmengcidmdaaTa18
import Derived.Test.YtghlmengcidmdaaTa19
import Derived.Deep.DeepCutAuto
import Derived.Deep.RegionLaw
import Derived.Deep.RegionHeld3
import Derived.Deep.QuietTactic
import Derived.BigQuiet
import Derived.RegionTactic
import Derived.Deep.MidRow
import Derived.Deep.CutBlock
import Derived.Laws.StructEq
import Derived.OrdersHeld
import Derived.Deep.AppendLies
import Derived.IntWalk
import Derived.StillTailTactics
import Derived.WalkKit
import Derived.Test.YtghlmengcidmdaaRows
import Derived.WalkSpells
import Derived.Lib.Hide
import Derived.Below
import Derived.WalkSmall
import Derived.Deep.RegionWith
import Derived.Laws.Cover3
import Derived.Laws.BitsAllLaws
import Derived.Maps.Range
import Derived.Outline
import Derived.Lib.SmallJoins
import Derived.Deep.Upon
import Derived.Maps.AppendAt
import Derived.Laws.OwnMore
import Derived.OwnWalk
import Derived.OneCell
import Derived.Deep.Slices
import Derived.Deep.Fields
import Derived.SliceStrings
import Derived.ChangeSlices
/- A row of arguments of one's own, whose expressions hang lower. No program's code. Conditions: none. -/
namespace Go.Proofs.Ytghlmengcidmdaa.Tr
open Go.RowKit Go.Proofs.Ytghlmengcidmdaa.Lx Go.Proofs.Ytghlmengcidmdaa.Wd
/-- What lies below K or from B on. -/
def gapC (K B : Nat) (w : World) : Cs := fun g j u => (g < K ∨ B ≤ g) ∧ cw w g j u
theorem gap_le {K B B' : Nat} {w : World} (h : B ≤ B') : Cs.le (gapC K B' w) (gapC K B w) := fun _ _ _ ⟨h1, h2⟩ => ⟨h1.imp id fun h3 => Nat.le_trans h h3, h2⟩
theorem low_gap {K B : Nat} {w : World} : Cs.le (lowC K w) (gapC K B w) := fun _ _ _ ⟨h1, h2⟩ => ⟨.inl h1, h2⟩
structure RowA (B K d : Nat) (w : World) (v : Value) (l : List Ar) (rows : List (List Value)) : Prop where
  len : rows.length = l.length
  own : w.ownsRow B 49 6 v l.length rows.flatten
  wide : ∀ r ∈ rows, r.length = 6
  each : ∀ i (h : i < l.length) (h' : i < rows.length), ArQ d (lowC K w) rows[i] l[i]
theorem RowA.next {B K d : Nat} {w w' : World} {v : Value} {l : List Ar} {rows : List (List Value)} (h : RowA B K d w v l rows) (hb : Below w.heap.size w w') : RowA B K d w' v l rows :=
  ⟨h.len, ownsBelow h.own hb, h.wide, fun i h1 h2 => ArQ.mono d _ _ _ _ (low_next hb) (h.each i h1 h2)⟩
theorem ar_six {d : Nat} {C : Cs} {c : List Value} {a : Ar} (h : ArQ d C c a) : c.length = 6 := by obtain ⟨kv, rfl, -⟩ := h; rfl
theorem RowA.sl {B K d : Nat} {w : World} {v : Value} {l : List Ar} {rows : List (List Value)} (h : RowA B K d w v l rows) : SlAt 6 (ArAt (gapC K B w) d) v l := by
  have hlen := h.len
  have hown := h.own
  rcases h.own.2 with ⟨hv, hn⟩ | ⟨g, cap, cur, hv, h1, h2, h3, h4, h5, h6⟩
  · have : l = [] := List.eq_nil_of_length_eq_zero hn
    subst this
    rw [hv]
    exact SlAt.nil
  · refine ⟨_, cap, hv, h3, h4, fun hne => ⟨g, 0, rfl, fun i hi => ?_⟩⟩
    refine ArQ.at_ d _ _ _ _ _ (ArQ.mono d _ _ _ _ low_gap (h.each i hi (by omega))) fun j u hu => ?_
    have := hown.cells (g := g) (by rw [hv]; rfl) (i * 6 + j) u (flat_get rows i j u h.wide (by omega) hu)
    rw [Addr.add_lit, Nat.zero_add] at this
    refine ⟨.inr (hown.lt g (by rw [hv]; rfl)).1, ?_⟩
    show w.cell? ⟨g, 0 + i * 6 + j, none⟩ = _
    rw [Nat.zero_add]
    exact this
theorem RowA.lit {B K d : Nat} {w : World} (hb : B ≤ w.heap.size) : RowA B K d (w.alloc (.cells #[] 49)) (.slice (some ⟨w.heap.size, 0, none⟩) 0 0) [] [] :=
  ⟨rfl, World.ownsRow_lit w #[] 0 hb (by decide) rfl, fun r h => (by cases h), fun i h => (by cases h)⟩
/-- More of them. -/
theorem RowA.app {B K d : Nat} {w w3 w4 : World} {v v4 : Value} {l m : List Ar} {rows news : List (List Value)} (h : RowA B K d w v l rows) (hb : Below w.heap.size w w3) (hg : w3.grownBy w4 v.ownBlock) (hKB : K ≤ B)
    (hlen : news.length = m.length) (hx : ∀ i (h : i < m.length) (h' : i < news.length), ArQ d (lowC K w3) news[i] m[i]) (hown : w4.ownsRow B 49 6 v4 (l.length + m.length) (rows.flatten ++ news.flatten)) : RowA B K d w4 v4 (l ++ m) (rows ++ news) := by
  have hl := h.len
  have le3 : Cs.le (lowC K w3) (lowC K w4) := low_grown hg fun g hg => Nat.le_trans hKB (h.own.lt g hg).1
  have le : Cs.le (lowC K w) (lowC K w4) := Cs.le_trans (low_next hb) le3
  refine ⟨by simp [hl, hlen], by rw [List.length_append, List.flatten_append]; exact hown, fun r hr => ?_, fun i h1 h2 => ?_⟩
  · rcases List.mem_append.1 hr with hr | hr
    · exact h.wide r hr
    · obtain ⟨i, hi, rfl⟩ := List.getElem_of_mem hr
      exact ar_six (hx i (by omega) hi)
  · simp only [List.getElem_append]
    simp at h1 h2
    by_cases hi : i < l.length
    · rw [dif_pos hi, dif_pos (by omega)]
      exact ArQ.mono d _ _ _ _ le (h.each i hi (by omega))
    · rw [dif_neg hi, dif_neg (by omega)]
      simp only [hl]
      exact ArQ.mono d _ _ _ _ le3 (hx (i - l.length) (by omega) (by omega))
theorem ar_cells {d : Nat} {C : Cs} {c : List Value} {a : Ar} (h : ArQ d C c a) (hk : ∀ kv l, ExC C d kv l → kv.oneCell' = true) : ∀ u ∈ c, u.oneCell' = true := by
  obtain ⟨kv, rfl, h1, h2, h3⟩ := h
  intro u hu
  have h4 := hk _ _ h3
  simp only [List.mem_cons, List.not_mem_nil, or_false] at hu
  rcases hu with rfl | rfl | rfl | rfl | rfl | rfl <;> first | rfl | exact h4
theorem exC_one {C : Cs} {d : Nat} {kv : Value} {l : List Ex} (h : ExC C d kv l) : kv.oneCell' = true := by
  obtain ⟨a, c, rfl, -, -⟩ := h.form
  rfl
/-- The cells of arguments that lie in a row. -/
theorem ars_news {d : Nat} {w : World} {B : Nat} {a : Option Addr} {n c : Nat} {l : List Ar} (h : SlAt 6 (ArAt (lowC B w) d) (.slice a n c) l) : n = l.length ∧ (a = none → n = 0) ∧ ∃ news : List (List Value), news.length = l.length ∧ (∀ i (h : i < l.length) (h' : i < news.length), ArQ d (lowC B w) news[i] l[i]) ∧ (∀ ad, a = some ad → ∀ j u, news.flatten[j]? = some u → w.cell? (ad.add j) = some u) ∧ (∀ u ∈ news.flatten, u.oneCell' = true) ∧ news.flatten.length = n * 6 := by
  obtain ⟨a', c', hv, hc1, hc2⟩ := h.form
  injection hv with e1 e2 e3
  subst e1 e3
  refine ⟨e2, fun ha => ?_, ?_⟩
  · by_cases hne : l = []
    · rw [e2, hne]; rfl
    · obtain ⟨g, off, cap, hv', _, hc⟩ := h.cells hne
      injection hv' with e1' e2' e3'
      rw [ha] at e1'
      cases e1'
  · by_cases hne : l = []
    · subst hne
      exact ⟨[], rfl, (fun i h => (by cases h)), (fun ad _ j u hu => (by simp at hu)), (fun u hu => (by cases hu)), by rw [e2]; rfl⟩
    · obtain ⟨g, off, cap, hv', _, hc⟩ := h.cells hne
      injection hv' with e1' e2' e3'
      obtain ⟨news, hl, hn⟩ := list_of (Q := fun i (r : List Value) => ∀ hi : i < l.length, ArQ d (lowC B w) r l[i] ∧ ∀ j u, r[j]? = some u → w.cell? ⟨g, off + i * 6 + j, none⟩ = some u) l.length (fun i hi => by
        obtain ⟨h1, h2, h3, kv, h4, h5, h6, h7, h8, h9⟩ := hc i hi
        refine ⟨[.bool l[i].ref, .string l[i].nm, .int .i64 l[i].x.op, .int .i64 l[i].x.n, .string l[i].x.nm, kv], fun _ => ⟨⟨kv, rfl, h3, h8, h9⟩, fun j u hu => ?_⟩⟩
        match j, hu with
        | 0, hu => cases hu; exact h1.2
        | 1, hu => cases hu; exact h2.2
        | 2, hu => cases hu; exact h4.2
        | 3, hu => cases hu; exact h5.2
        | 4, hu => cases hu; exact h6.2
        | 5, hu => cases hu; exact h7.2)
      have hw : ∀ r ∈ news, r.length = 6 := fun r hr => by
        obtain ⟨i, hi, rfl⟩ := List.getElem_of_mem hr
        exact ar_six (hn i hi (by omega)).1
      have hfl : ∀ (rows : List (List Value)), (∀ r ∈ rows, r.length = 6) → rows.flatten.length = rows.length * 6 := by
        intro rows
        induction rows with
        | nil => intro _; rfl
        | cons r s ih =>
          intro h
          rw [List.flatten_cons, List.length_append, ih fun q hq => h q (List.mem_cons_of_mem _ hq), h r List.mem_cons_self, List.length_cons]
          omega
      refine ⟨news, hl, fun i h1 h2 => (hn i h2 h1).1, fun ad had j u hu => ?_, fun u hu => ?_, by rw [hfl news hw, hl, e2]⟩
      · rw [e1'] at had
        cases had
        have hj : j < news.flatten.length := (List.getElem?_eq_some_iff.1 hu).1
        rw [hfl news hw] at hj
        have hi : j / 6 < news.length := by omega
        have hr : (news[j / 6])[j % 6]? = some u := by
          have h1 : j % 6 < (news[j / 6]).length := by rw [hw _ (List.getElem_mem hi)]; omega
          have h2 := flat_get news (j / 6) (j % 6) (news[j / 6])[j % 6] hw hi (List.getElem?_eq_getElem h1)
          rw [show j / 6 * 6 + j % 6 = j by omega, hu] at h2
          rw [List.getElem?_eq_getElem h1]
          exact h2.symm
        have := (hn (j / 6) hi (by omega)).2 (j % 6) u hr
        rw [Addr.add_lit]
        rw [show off + j / 6 * 6 + j % 6 = off + j by omega] at this
        exact this
      · obtain ⟨r, hr, hur⟩ := List.mem_flatten.1 hu
        obtain ⟨i, hi, rfl⟩ := List.getElem_of_mem hr
        exact ar_cells (hn i hi (by omega)).1 (fun _ _ => exC_one) u hur
/-- The row's block, its cells. -/
theorem RowA.block {B K d n c : Nat} {w : World} {a : Option Addr} {l : List Ar} {rows : List (List Value)} (h : RowA B K d w (.slice a n c) l rows) {q : Nat} (hq : q < l.length) : ∃ g, a = some ⟨g, 0, none⟩ ∧ n = l.length ∧ B ≤ g ∧ g < w.heap.size ∧ w.there g (q * 6) 6 ∧ (∀ j u, (rows[q]'(by have := h.len; omega))[j]? = some u → w.cell? ⟨g, q * 6 + j, none⟩ = some u) := by
  have hlen := h.len
  have hown := h.own
  rcases h.own.2 with ⟨hv, hn⟩ | ⟨g, cap, cur, hv, h1, h2, h3, h4, h5, h6⟩
  · omega
  · injection hv with e1 e2 e3
    have hlt := h.own.lt g (by rw [e1]; rfl)
    have hcell : ∀ j u, (rows[q]'(by omega))[j]? = some u → w.cell? ⟨g, q * 6 + j, none⟩ = some u := fun j u hu => by
      have := hown.cells (g := g) (by rw [e1]; rfl) (q * 6 + j) u (flat_get rows q j u h.wide (by omega) hu)
      rwa [Addr.add_lit, Nat.zero_add] at this
    refine ⟨g, e1, e2, hlt.1, hlt.2, fun j hj => ?_, hcell⟩
    have hj6 : j < (rows[q]'(by omega)).length := by rw [h.wide _ (List.getElem_mem _)]; exact hj
    have h7 := hcell j _ (List.getElem?_eq_getElem hj6)
    refine ⟨by rw [h7]; rfl, ?_⟩
    unfold World.frozen?
    simp [h2]
theorem RowA.put {B K d n c : Nat} {w : World} {g : Nat} {l : List Ar} {rows : List (List Value)} (h : RowA B K d w (.slice (some ⟨g, 0, none⟩) n c) l rows) {q : Nat} (hq : q < l.length) (hg : B ≤ g) (hKB : K ≤ B) {x : List Value} {a : Ar} (hth : w.there g (q * 6) 6) (hx : ArQ d (lowC K w) x a) : SlAt 6 (ArAt (gapC K B (w.setCells g (q * 6) x)) d) (.slice (some ⟨g, 0, none⟩) n c) (l.set q a) := by
  have hsl := h.sl
  obtain ⟨a', c', hv, hc1, hc2⟩ := hsl.form
  injection hv with e1 e2 e3
  have hx6 := ar_six hx
  subst e3 e2
  have low : Cs.le (lowC K w) (gapC K B (w.setCells g (q * 6) x)) := fun b j u ⟨hb, hu⟩ => by
    refine ⟨.inl hb, ?_⟩
    show (w.setCells g (q * 6) x).cell? ⟨b, j, none⟩ = some u
    rw [World.cell?_setCells_out g x (q * 6) w ⟨b, j, none⟩ (fun hbg _ => absurd hbg (by show b ≠ g; omega))]
    exact hu
  have hown := h.own
  have hlen := h.len
  refine ⟨some ⟨g, 0, none⟩, c, by rw [List.length_set], by rw [List.length_set]; exact hc1, hc2, fun _ => ⟨g, 0, rfl, fun i hi => ?_⟩⟩
  rw [List.length_set] at hi
  by_cases hiq : i = q
  · subst hiq
    rw [List.getElem_set_self]
    refine ArQ.at_ d _ _ _ _ _ (ArQ.mono d _ _ _ _ low hx) fun j u hu => ?_
    have hth' : w.there g (i * 6) x.length := by rw [hx6]; exact hth
    have := World.rangeAt_setCells_same w g (i * 6) x hth' j u hu
    refine ⟨.inr hg, ?_⟩
    show (w.setCells g (i * 6) x).cell? ⟨g, 0 + i * 6 + j, none⟩ = some u
    rw [Nat.zero_add]
    exact this
  · rw [List.getElem_set_ne (fun e => hiq e.symm)]
    refine ArQ.at_ d _ _ _ _ _ (ArQ.mono d _ _ _ _ low (h.each i hi (by omega))) fun j u hu => ?_
    have hj : j < 6 := by
      have := (List.getElem?_eq_some_iff.1 hu).1
      rwa [h.wide _ (List.getElem_mem _)] at this
    have h7 := hown.cells (g := g) rfl (i * 6 + j) u (flat_get rows i j u h.wide (by omega) hu)
    rw [Addr.add_lit, Nat.zero_add] at h7
    refine ⟨.inr hg, ?_⟩
    show (w.setCells g (q * 6) x).cell? ⟨g, 0 + i * 6 + j, none⟩ = some u
    rw [Nat.zero_add, World.cell?_setCells_out g x (q * 6) w ⟨g, i * 6 + j, none⟩ (fun _ _ => by
      rw [hx6]
      show i * 6 + j < q * 6 ∨ q * 6 + 6 ≤ i * 6 + j
      omega)]
    exact h7
/-- A part of the row, to be laid into another one. -/
theorem RowA.news {B K d n c : Nat} {w : World} {g : Nat} {l : List Ar} {rows : List (List Value)} (h : RowA B K d w (.slice (some ⟨g, 0, none⟩) n c) l rows) {lo hi : Nat} (h1 : lo ≤ hi) (h2 : hi ≤ l.length) : ∃ news : List (List Value), news.length = ((l.drop lo).take (hi - lo)).length ∧ (∀ i (h : i < ((l.drop lo).take (hi - lo)).length) (h' : i < news.length), ArQ d (lowC K w) news[i] ((l.drop lo).take (hi - lo))[i]) ∧
    (∀ ad, (if c = lo then some (⟨g, 0, none⟩ : Addr) else (some ⟨g, 0, none⟩ : Option Addr).map fun q => q.add (lo * 6)) = some ad → ∀ j u, news.flatten[j]? = some u → w.cell? (ad.add j) = some u) ∧ (∀ u ∈ news.flatten, u.oneCell' = true) ∧ news.flatten.length = (hi - lo) * 6 := by
  have hlen := h.len
  have hsl := h.sl
  have hfl : ∀ (rows : List (List Value)), (∀ r ∈ rows, r.length = 6) → rows.flatten.length = rows.length * 6 := by
    intro rows
    induction rows with
    | nil => intro _; rfl
    | cons r s ih =>
      intro h
      rw [List.flatten_cons, List.length_append, ih fun q hq => h q (List.mem_cons_of_mem _ hq), h r List.mem_cons_self, List.length_cons]
      omega
  have hmem : ∀ r ∈ (rows.drop lo).take (hi - lo), r ∈ rows := fun r hr => List.mem_of_mem_drop (List.mem_of_mem_take hr)
  have hll : ((rows.drop lo).take (hi - lo)).length = hi - lo := by rw [List.length_take, List.length_drop]; omega
  have hll2 : ((l.drop lo).take (hi - lo)).length = hi - lo := by rw [List.length_take, List.length_drop]; omega
  have hq : ∀ i (h' : i < ((l.drop lo).take (hi - lo)).length) (h'' : i < ((rows.drop lo).take (hi - lo)).length), ArQ d (lowC K w) ((rows.drop lo).take (hi - lo))[i] ((l.drop lo).take (hi - lo))[i] := fun i h' h'' => by
    rw [List.getElem_take, List.getElem_drop, List.getElem_take, List.getElem_drop]
    exact h.each (lo + i) (by omega) (by omega)
  refine ⟨(rows.drop lo).take (hi - lo), by rw [hll, hll2], hq, fun ad had j u hu => ?_, fun u hu => ?_, by rw [hfl _ fun r hr => h.wide r (hmem r hr), hll]⟩
  · have hj : j < (hi - lo) * 6 := by
      have := (List.getElem?_eq_some_iff.1 hu).1
      rwa [hfl _ fun r hr => h.wide r (hmem r hr), hll] at this
    have hcl : c ≠ lo := fun e => by
      obtain ⟨a', c', hv, hc1, hc2⟩ := hsl.form
      injection hv with e1 e2 e3
      omega
    rw [if_neg hcl] at had
    simp only [Option.map_some, Option.some.injEq] at had
    subst had
    have hi' : lo + j / 6 < rows.length := by omega
    have h3 : j % 6 < (rows[lo + j / 6]).length := by rw [h.wide _ (List.getElem_mem hi')]; omega
    have hr : u = (rows[lo + j / 6])[j % 6] := by
      have h4 : j / 6 < ((rows.drop lo).take (hi - lo)).length := by omega
      have h5 : ((rows.drop lo).take (hi - lo))[j / 6] = rows[lo + j / 6] := by rw [List.getElem_take, List.getElem_drop]
      have h6 := flat_get ((rows.drop lo).take (hi - lo)) (j / 6) (j % 6) (rows[lo + j / 6])[j % 6] (fun r hr => h.wide r (hmem r hr)) h4 (by rw [h5]; exact List.getElem?_eq_getElem h3)
      rw [show j / 6 * 6 + j % 6 = j by omega, hu] at h6
      exact Option.some.inj h6
    have h7 := h.own.cells (g := g) rfl ((lo + j / 6) * 6 + j % 6) _ (flat_get rows (lo + j / 6) (j % 6) _ h.wide hi' (List.getElem?_eq_getElem h3))
    rw [hr]
    rw [Addr.add_lit] at h7
    show w.cell? ((Addr.add ⟨g, 0, none⟩ (lo * 6)).add j) = _
    rw [Addr.add_lit, Addr.add_lit, show 0 + lo * 6 + j = 0 + ((lo + j / 6) * 6 + j % 6) by omega]
    exact h7
  · obtain ⟨r, hr, hur⟩ := List.mem_flatten.1 hu
    obtain ⟨i, hi3, rfl⟩ := List.getElem_of_mem hr
    exact ar_cells (hq i (by omega) hi3) (fun _ _ => exC_one) u hur
end Go.Proofs.Ytghlmengcidmdaa.Tr
