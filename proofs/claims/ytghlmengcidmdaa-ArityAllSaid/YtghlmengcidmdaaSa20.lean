/- Parts of AnyZ, PutW, PutL, PutP: walks and plain laws that later texts use. Conditions: as each statement says. -/
import Derived.Test.YtghlmengcidmdaaSa0
import Derived.Test.YtghlmengcidmdaaSa1
import Derived.Test.YtghlmengcidmdaaSa2
import Derived.Test.YtghlmengcidmdaaSa3
import Derived.Test.YtghlmengcidmdaaSa4
import Derived.Test.YtghlmengcidmdaaSa5
import Derived.Test.YtghlmengcidmdaaSa6
import Derived.Test.YtghlmengcidmdaaSa7
import Derived.Test.YtghlmengcidmdaaSa8
import Derived.Test.YtghlmengcidmdaaSa9
import Derived.Test.YtghlmengcidmdaaSa10
import Derived.Test.YtghlmengcidmdaaSa11
import Derived.Test.YtghlmengcidmdaaSa12
import Derived.Test.YtghlmengcidmdaaSa14
import Derived.OrdersHeld
import Derived.Deep.RegionHeld3
import Derived.IntWalk
import Derived.Deep.QuietTactic
import Derived.BigQuiet
import Derived.StillTailTactics
import Derived.Deep.DeepCutAuto
import Derived.Laws.StructEq
import Derived.Deep.RegionLaw
import Derived.Deep.RegionWith
import Derived.Laws.Cover3
import Derived.WalkKit
import Derived.Test.YtghlmengcidmdaaRows
import Derived.WalkSpells
import Derived.Lib.Hide
import Derived.Below
import Derived.Laws.BitsAllLaws
import Derived.RegionTactic
import Derived.Maps.Range
import Derived.Outline
import Derived.Lib.SmallJoins
import Derived.Deep.Upon
import Derived.Maps.AppendAt
import Derived.Laws.OwnMore
import Derived.Deep.AppendLies
import Derived.OwnWalk
import Derived.OneCell
import Derived.Deep.Slices
import Derived.Deep.Fields
import Derived.SliceStrings
import Derived.ChangeSlices
import Derived.WalkSmall
section
/- A region that draws its order and stores, as its last operation, over a cell that it has loaded: what is known of the worlds need not hold behind that last operation. Conditions: the last operation waits for each that is taken first. -/
namespace Go.Proofs.Ytghlmengcidmdaa.Tr
open Go
section
variable {P : Program} {ops : Array Oper} {Q : Exit → Act → World → Prop} {md : Region.Mode} {S : World → Prop} {L : Nat}
/-- Whatever order is picked, and S holds behind every operation but the last. -/
def wpAnyZ (P : Program) (md : Region.Mode) (ops : Array Oper) (Q : Exit → Act → World → Prop) (S : World → Prop) (L : Nat) : Nat → Array Bool → Act → World → Prop
  | 0, listed, a, w => Region.ready md ops listed = [] ∧ Q .normal a w
  | fuel + 1, listed, a, w =>
    (Region.ready md ops listed = [] → Q .normal a w) ∧
    ∀ i ∈ Region.ready md ops listed, wpOp P ops Q i (fun a' w' => (i ≠ L → S w') ∧ wpAnyZ P md ops Q S L fuel (listed.setIfInBounds i true) a' w') a w
theorem wpAny_of_z : ∀ (fuel : Nat) (listed : Array Bool) (a : Act) (w : World), wpAnyZ P md ops Q S L fuel listed a w → wpAny P md ops Q fuel listed a w
  | 0, _, _, _, h => h
  | fuel + 1, _, _, _, h => ⟨h.1, fun i hi => wpOp_mono (fun a' w' h' => wpAny_of_z fuel _ a' w' h'.2) (h.2 i hi)⟩
theorem wpAnyZ_first {i : Nat} {oi : Oper} {v : Value} (hi : ops[i]? = some oi) (hsel : ∀ (j : Nat) (o : Oper) cs b, ops[j]? = some o → o.op ≠ .select cs b)
    (hQ : ∀ c a w, Q (.panic c) (a.put oi.dst v) w → Q (.panic c) a w) (hL : ∃ oL, ops[L]? = some oL ∧ ∃ e ∈ oL.after, Region.binds md e = true ∧ e.on = i) :
    ∀ (fuel : Nat) (listed : Array Bool) (a : Act) (w : World),
      (∀ j oj, ops[j]? = some oj → j ≠ i → listed.getD j true = false → (∀ e ∈ oj.after, Region.binds md e = true → e.on ≠ i) → oi.apart ops oj = true) →
      i ∈ Region.ready md ops listed → YieldsIf P ops S oi v a → S w →
      wpAnyZ P md ops Q S L fuel (listed.setIfInBounds i true) (a.put oi.dst v) w → wpAnyZ P md ops Q S L (fuel + 1) listed a w := by
  intro fuel
  induction fuel with
  | zero =>
    intro listed a w _ hr hy hS H
    refine ⟨fun h => (by rw [h] at hr; cases hr), fun j hj => ?_⟩
    by_cases hji : j = i
    · subst hji; exact hy.wpOp hi hS ⟨fun _ => hS, H⟩
    · have := ready_mono hj hji
      rw [H.1] at this
      cases this
  | succ fuel ih =>
    intro listed a w hfree hr hy hS H
    refine ⟨fun h => (by rw [h] at hr; cases hr), fun j hj => ?_⟩
    by_cases hji : j = i
    · subst hji; exact hy.wpOp hi hS ⟨fun _ => hS, H⟩
    · have h1 := H.2 j (ready_mono hj hji)
      obtain ⟨hjun, oj, hoj, hall⟩ := mem_ready.1 hj
      have hnot : ∀ e ∈ oj.after, Region.binds md e = true → e.on ≠ i := fun e he hb heq => by
        have h1 := hall e he hb
        have h0 := (mem_ready.1 hr).1
        rw [heq] at h1
        rcases Nat.lt_or_ge i listed.size with h' | h'
        · simp [h'] at h0 h1; rw [h0] at h1; cases h1
        · simp [Array.getElem?_eq_none h'] at h1
      have hjL : j ≠ L := fun he => by
        obtain ⟨oL, ho, e, he1, he2, he3⟩ := hL
        subst he
        rw [hoj] at ho
        cases ho
        exact hnot e he1 he2 he3
      have h2 := wpOp_putIf hoj (hfree j oj hoj hji hjun hnot) (fun cs b => hsel i oi cs b hi) (fun cs b => hsel j oj cs b hoj) hQ hy h1
      have hfree' : ∀ k ok, ops[k]? = some ok → k ≠ i → (listed.setIfInBounds j true).getD k true = false →
          (∀ e ∈ ok.after, Region.binds md e = true → e.on ≠ i) → oi.apart ops ok = true := fun k ok hk hki hun hno => by
        refine hfree k ok hk hki ?_ hno
        by_cases hjk : j = k
        · subst hjk; exact hjun
        · rw [getD_set_ne true hjk] at hun; exact hun
      refine wpOp_mono (fun a' w' h3 => ⟨fun _ => h3.2.1 hjL, ih (listed.setIfInBounds j true) a' w' hfree' (ready_mono hr (Ne.symm hji)) h3.1 (h3.2.1 hjL) ?_⟩) h2
      rw [Array.setIfInBounds_comm _ _ hji]
      exact h3.2.2
def waits (md : Region.Mode) (ops : Array Oper) (L i : Nat) : Bool := match ops[L]? with
  | some o => o.after.any fun e => Region.binds md e && e.on == i
  | none => false
theorem waits_spec {i : Nat} (h : waits md ops L i = true) : ∃ oL, ops[L]? = some oL ∧ ∃ e ∈ oL.after, Region.binds md e = true ∧ e.on = i := by
  unfold waits at h
  cases ho : ops[L]? with
  | none => rw [ho] at h; cases h
  | some o =>
    rw [ho] at h
    simp only [Array.any_eq_true, Bool.and_eq_true, beq_iff_eq] at h
    obtain ⟨k, hk, h1, h2⟩ := h
    exact ⟨o, rfl, o.after[k], Array.getElem_mem hk, h1, h2⟩
theorem wpAnyZ_take {i : Nat} {oi : Oper} {v : Value} {fuel : Nat} {listed : Array Bool} {a : Act} {w : World} (hi : ops[i]? = some oi)
    (hs : Region.noSelect ops = true) (hf : Region.free md ops listed i = true) (hr : (Region.ready md ops listed).contains i = true) (hL : waits md ops L i = true)
    (hQ : ∀ c a w, Q (.panic c) (a.put oi.dst v) w → Q (.panic c) a w) (hy : YieldsIf P ops S oi v a) (hS : S w)
    (h : wpAnyZ P md ops Q S L fuel (listed.setIfInBounds i true) (a.put oi.dst v) w) : wpAnyZ P md ops Q S L (fuel + 1) listed a w :=
  wpAnyZ_first hi (Region.noSelect_spec hs) hQ (waits_spec hL) fuel listed a w (Region.free_spec hi hf) (by simpa using hr) hy hS h
/-- One operation alone may come up. -/
theorem wpAnyZ_step {i : Nat} {o : Oper} {fuel : Nat} {listed : Array Bool} {a : Act} {w : World} (hi : ops[i]? = some o) (hr : Region.ready md ops listed = [i])
    (h : ∀ K : Act → World → Prop, (∀ a' w', (i ≠ L → S w') → wpAnyZ P md ops Q S L fuel (listed.setIfInBounds i true) a' w' → K a' w') →
      if Region.wanted o (yielded ops a.tmps) = true then Oper.wp P o a w K Q else K (a.put o.dst undef) w) : wpAnyZ P md ops Q S L (fuel + 1) listed a w := by
  refine ⟨fun h0 => (by rw [h0] at hr; cases hr), fun j hj => ?_⟩
  rw [hr] at hj
  have hji : j = i := by simpa using hj
  subst hji
  have h1 := h (fun a' w' => (j ≠ L → S w') ∧ wpAnyZ P md ops Q S L fuel (listed.setIfInBounds j true) a' w') fun a' w' h1 h2 => ⟨h1, h2⟩
  unfold wpOp
  simp only [hi]
  split
  · rename_i hw
    rw [if_pos hw] at h1
    exact .inl h1
  · rename_i hw
    rw [if_neg hw] at h1
    exact h1
theorem wpAnyZ_done {listed : Array Bool} {a : Act} {w : World} (hr : Region.ready md ops listed = []) (h : Q .normal a w) : ∀ fuel, wpAnyZ P md ops Q S L fuel listed a w
  | 0 => ⟨hr, h⟩
  | _ + 1 => ⟨fun _ => h, by rw [hr]; simp⟩
theorem wp_region_z {id : Nat} {a : Act} {w : World} (S : World → Prop) (L : Nat) (hm : P.follows .mixedOrders = true) (hS : S w.drew)
    (h : S w.drew → wpAnyZ P .any ops Q S L ops.size (Array.replicate ops.size false) a w.drew) : (Code.region id ops true).wp P Q a w :=
  wp_region_any hm (wpAny_of_z _ _ _ _ (h hS))
end
end Go.Proofs.Ytghlmengcidmdaa.Tr
end
section
/- What texts, copyOne of the reference make: a list of texts, a statement anew. Conditions: they lie in memory; the statement is light. -/
namespace Go.Proofs.Ytghlmengcidmdaa.Tr
open Go.RowKit Go.Proofs.Ytghlmengcidmdaa.Lx Go.Proofs.Ytghlmengcidmdaa.Wd
set_option linter.unusedSimpArgs false
theorem le_ne {w w' : World} {B B' Y : Nat} (hb : Below w.heap.size w w') (hB : B' ≤ B) (hY : Y < B ∨ w.heap.size ≤ Y) : Cs.le (only (fun g => B ≤ g) (cw w)) (only (fun g => B' ≤ g ∧ g ≠ Y) (cw w')) := fun g j u ⟨h1, h2⟩ => by
  have := cell_lt h2
  exact ⟨⟨by omega, by omega⟩, cell_next hb h2⟩
end Go.Proofs.Ytghlmengcidmdaa.Tr
end
section
/- What put of the reference makes: a row in which the statement of that id is another one, which keeps what stands in it. Conditions: they lie in memory and are light. -/
namespace Go.Proofs.Ytghlmengcidmdaa.Tr
open Go.RowKit Go.Proofs.Ytghlmengcidmdaa.Lx Go.Proofs.Ytghlmengcidmdaa.Wd
theorem far1 {w : World} {b g i j : Nat} {x u : Value} (hne : b ≠ g) (h : w.cell? ⟨g, j, none⟩ = some u) : (w.setCell ⟨b, i, none⟩ x).cell? ⟨g, j, none⟩ = some u := by
  rw [World.cell?_setCell_other _ _ _ _ (fun e => hne (congrArg Addr.block e))]
  exact h
end Go.Proofs.Ytghlmengcidmdaa.Tr
end
section
/- What Put, Copy of the reference make: a program anew in which the statement of that id is another one. Conditions: they lie in memory and are light. -/
namespace Go.Proofs.Ytghlmengcidmdaa.Tr
open Go.RowKit Go.Proofs.Ytghlmengcidmdaa.Lx Go.Proofs.Ytghlmengcidmdaa.Wd
theorem wtPc_len : ∀ l : List Pc, l.length ≤ (l.map wtPc).sum := by
  intro l
  induction l with
  | nil => simp
  | cons q r ih => simp only [List.map_cons, List.sum_cons, List.length_cons]; have : 1 ≤ wtPc q := by unfold wtPc; omega
                   omega
theorem infoPc : (Try.prog.info? 55).map (fun i => (i.zero, i.size, i.bytes)) = some (some (.agg #[.string ⟨#[]⟩, .slice none 0 0, .slice none 0 0, .slice none 0 0, .slice none 0 0]), 5, 112) := by kernel_rfl
def paC (q : Pa) : List Value := [.string q.nm, .bool q.ref]
def paRows : List Pa → List Value
  | [] => []
  | q :: r => .string q.nm :: .bool q.ref :: paRows r
theorem paRows_len : ∀ l : List Pa, (paRows l).length = l.length * 2 := by
  intro l
  induction l with
  | nil => rfl
  | cons q r ih => simp only [paRows, List.length_cons, ih]; omega
theorem paRows_flat : ∀ l : List Pa, paRows l = (l.map paC).flatten := by
  intro l
  induction l with
  | nil => rfl
  | cons q r ih => simp only [paRows, paC, List.map_cons, List.flatten_cons, ih]; rfl
theorem paRows_one : ∀ l : List Pa, ∀ u ∈ paRows l, u.oneCell' = true := by
  intro l
  induction l with
  | nil => intro u h; cases h
  | cons q r ih =>
    intro u h
    simp only [paRows, List.mem_cons] at h
    rcases h with rfl | rfl | h
    · rfl
    · rfl
    · exact ih u h
theorem paRows_at {C : Cs} {g : Nat} : ∀ (l : List Pa) (o : Nat), (∀ i (h : i < l.length), PaAt C g (o + i * 2) l[i]) → ∀ j u, (paRows l)[j]? = some u → C g (o + j) u := by
  intro l
  induction l with
  | nil => intro o _ j u h; simp [paRows] at h
  | cons q r ih =>
    intro o h j u hu
    match j, hu with
    | 0, hu =>
      have h0 := (h 0 (by simp)).1
      simp only [paRows, List.getElem?_cons_zero, Option.some.injEq] at hu
      subst hu
      simpa using h0
    | 1, hu =>
      have h0 := (h 0 (by simp)).2.1
      simp only [paRows, List.getElem?_cons_succ, List.getElem?_cons_zero, Option.some.injEq] at hu
      subst hu
      simpa using h0
    | j + 2, hu =>
      have := ih (o + 2) (fun i hi => by
        have := h (i + 1) (by simpa using hi)
        rw [show o + 2 + i * 2 = o + (i + 1) * 2 by omega]
        simpa using this) j u (by simpa [paRows] using hu)
      rw [show o + (j + 2) = o + 2 + j by omega]
      exact this
theorem paNews {w : World} {a : Option Addr} {c : Nat} {l : List Pa} (h : SlAt 2 (PaAt (cw w)) (.slice a l.length c) l) : (a = none → l.length = 0) ∧ (∀ ad, a = some ad → ∀ j u, (paRows l)[j]? = some u → w.cell? (ad.add j) = some u) := by
  by_cases hne : l = []
  · subst hne
    exact ⟨fun _ => rfl, fun ad _ j u hu => by simp [paRows] at hu⟩
  · obtain ⟨g, off, cap, hv, _, hc⟩ := h.cells hne
    simp only [Value.slice.injEq] at hv
    obtain ⟨rfl, -, rfl⟩ := hv
    refine ⟨fun h => (by cases h), fun ad h j u hu => ?_⟩
    cases h
    have := paRows_at l off hc j u hu
    rw [Addr.add_lit]
    exact this
def PaQ (_ : Cs) (c : List Value) (q : Pa) : Prop := c = paC q ∧ q.nm.size ≤ 9223372036854775807
theorem pa_owned {w : World} {B n : Nat} {v : Value} {l : List Pa} (h : w.ownsRow B 62 2 v n (paRows l)) (hn : n = l.length) (hm : n ≤ 9223372036854775807) (hs : ∀ q ∈ l, q.nm.size ≤ 9223372036854775807) : SlAt 2 (PaAt (nwC B w)) v l := by
  subst hn
  rw [paRows_flat] at h
  have hacc : Acc PaQ B 62 2 w v l (l.map paC) := ⟨by simp, h, fun r hr => by
    obtain ⟨q, -, rfl⟩ := List.mem_map.1 hr
    rfl, fun i h1 h2 => ⟨by simp, hs _ (List.getElem_mem h1)⟩⟩
  exact hacc.sl (P := fun C g o x => PaAt C g o x) hm (fun _ _ _ _ _ h => h) fun C c g o x _ _ hq hc => by
    obtain ⟨rfl, h2⟩ := hq
    exact ⟨hc 0 _ rfl, hc 1 _ rfl, h2⟩
theorem PaAt.sizes {C : Cs} {v : Value} {l : List Pa} (h : SlAt 2 (PaAt C) v l) : ∀ q ∈ l, q.nm.size ≤ 9223372036854775807 := by
  intro q hq
  have hne : l ≠ [] := fun e => by subst e; cases hq
  obtain ⟨g, off, cap, _, _, hc⟩ := h.cells hne
  obtain ⟨i, hi, rfl⟩ := List.getElem_of_mem hq
  exact (hc i hi).2.2
theorem infoPa : (Try.prog.info? 62).map (fun i => (i.zero, i.size, i.bytes)) = some (some (.agg #[.string ⟨#[]⟩, .bool false]), 2, 24) := by kernel_rfl
theorem wtPa_len : ∀ l : List Pa, l.length ≤ (l.map fun x : Pa => 1 + x.nm.size).sum := by
  intro l
  induction l with
  | nil => simp
  | cons q r ih => simp only [List.map_cons, List.sum_cons, List.length_cons]; omega
theorem far5 {w : World} {b g j : Nat} {x0 x1 x2 x3 x4 u : Value} (hne : b ≠ g) (h : w.cell? ⟨g, j, none⟩ = some u) : (((((w.setCell ⟨b, 0, none⟩ x0).setCell ⟨b, 1, none⟩ x1).setCell ⟨b, 2, none⟩ x2).setCell ⟨b, 3, none⟩ x3).setCell ⟨b, 4, none⟩ x4).cell? ⟨g, j, none⟩ = some u := far1 hne (far1 hne (far1 hne (far1 hne (far1 hne h))))
theorem box5 {w : World} {b : Nat} {c0 c1 c2 c3 c4 x0 x1 x2 x3 x4 : Value} (h : BoxAt w b [c0, c1, c2, c3, c4]) : BoxAt (((((w.setCell ⟨b, 0, none⟩ x0).setCell ⟨b, 1, none⟩ x1).setCell ⟨b, 2, none⟩ x2).setCell ⟨b, 3, none⟩ x3).setCell ⟨b, 4, none⟩ x4) b [x0, x1, x2, x3, x4] :=
  (((((h.put (j := 0) (x := x0) (by simp)).put (j := 1) (x := x1) (by simp)).put (j := 2) (x := x2) (by simp)).put (j := 3) (x := x3) (by simp)).put (j := 4) (x := x4) (by simp))
theorem free5 {w : World} {b : Nat} {x0 x1 x2 x3 x4 : Value} (h : Free w b) : Free (((((w.setCell ⟨b, 0, none⟩ x0).setCell ⟨b, 1, none⟩ x1).setCell ⟨b, 2, none⟩ x2).setCell ⟨b, 3, none⟩ x3).setCell ⟨b, 4, none⟩ x4) b := ((((h.set).set).set).set).set
theorem size5 {w : World} {b : Nat} {x0 x1 x2 x3 x4 : Value} : (((((w.setCell ⟨b, 0, none⟩ x0).setCell ⟨b, 1, none⟩ x1).setCell ⟨b, 2, none⟩ x2).setCell ⟨b, 3, none⟩ x3).setCell ⟨b, 4, none⟩ x4).heap.size = w.heap.size := by simp only [World.size_setCell]
theorem below5 {v w : World} {n b : Nat} {x0 x1 x2 x3 x4 : Value} (h : Below n v w) (hb : n ≤ b) : Below n v (((((w.setCell ⟨b, 0, none⟩ x0).setCell ⟨b, 1, none⟩ x1).setCell ⟨b, 2, none⟩ x2).setCell ⟨b, 3, none⟩ x3).setCell ⟨b, 4, none⟩ x4) :=
  ((((h.setCell (p := ⟨b, 0, none⟩) hb _).setCell (p := ⟨b, 1, none⟩) hb _).setCell (p := ⟨b, 2, none⟩) hb _).setCell (p := ⟨b, 3, none⟩) hb _).setCell (p := ⟨b, 4, none⟩) hb _
theorem only5 {S : Nat → Prop} {w : World} {b : Nat} {x0 x1 x2 x3 x4 : Value} (h : ¬ S b) : Cs.le (only S (cw w)) (only S (cw (((((w.setCell ⟨b, 0, none⟩ x0).setCell ⟨b, 1, none⟩ x1).setCell ⟨b, 2, none⟩ x2).setCell ⟨b, 3, none⟩ x3).setCell ⟨b, 4, none⟩ x4))) :=
  Cs.le_trans (only_set h) (Cs.le_trans (only_set h) (Cs.le_trans (only_set h) (Cs.le_trans (only_set h) (only_set h))))
/-- A procedure as a row of five. -/
def PcQ (d : Nat) (C : Cs) (c : List Value) (f : Pc) : Prop := ∃ pv vv bv fv, c = [.string f.nm, pv, vv, bv, fv] ∧ f.nm.size ≤ 9223372036854775807 ∧ SlAt 2 (PaAt C) pv f.params ∧ StrC C vv f.vars ∧ StC C d bv f.body ∧ StrC C fv f.fin
theorem PcQ.mono (d : Nat) : ∀ C D c x, Cs.le C D → PcQ d C c x → PcQ d D c x := fun _ _ _ _ h ⟨pv, vv, bv, fv, h1, h2, h3, h4, h5, h6⟩ => ⟨pv, vv, bv, fv, h1, h2, SlAt.imp h3 (fun _ _ _ _ => PaAt.mono h), StrC.mono h h4, StC.mono h h5, StrC.mono h h6⟩
theorem PcQ.at_ (d : Nat) : ∀ (C : Cs) (c : List Value) (g o : Nat) (f : Pc), PcQ d C c f → (∀ j u, c[j]? = some u → C g (o + j) u) → PcAt C d g o f := by
  intro C c g o f ⟨pv, vv, bv, fv, h1, h2, h3, h4, h5, h6⟩ h
  subst h1
  exact ⟨pv, vv, bv, fv, h 0 _ rfl, h 1 _ rfl, h 2 _ rfl, h 3 _ rfl, h 4 _ rfl, h2, h3, h4, h5, h6⟩
/-- What Put leaves. -/
def ProgMade (d : Nat) (p : Pr) (w : World) (e : Ending) (w' : World) : Prop := ∃ gv pv, e = .returned (.agg #[gv, pv]) ∧ PrC (nwC w.heap.size w') d gv pv p ∧ Below w.heap.size w w'
/-- What Put leaves: the row of procedures is its own. -/
def ProgRow (d : Nat) (p : Pr) (w : World) (e : Ending) (w' : World) : Prop := ∃ gv pv B rows, e = .returned (.agg #[gv, pv]) ∧ w.heap.size ≤ B ∧ StrC (only (fun g => w.heap.size ≤ g ∧ g < B) (cw w')) gv p.globals ∧ Acc (PcQ d) B 55 5 w' pv p.procs rows ∧ Below w.heap.size w w'
theorem Acc.max {α : Type} {Q : Cs → List Value → α → Prop} {B : Nat} {t : TypeId} {z : Nat} {w : World} {v : Value} {l : List α} {rows : List (List Value)} (h : Acc Q B t z w v l rows) : l.length ≤ 9223372036854775807 := by
  rcases h.own.2 with ⟨-, hn⟩ | ⟨g, cap, cur, -, -, -, h3, h4, -⟩
  · omega
  · unfold maxLen at h4; omega
theorem ProgRow.made {d : Nat} {p : Pr} {w w' : World} {e : Ending} (h : ProgRow d p w e w') : ProgMade d p w e w' := by
  obtain ⟨gv, pv, B, rows, he, hB, hg, hacc, hb⟩ := h
  have hm : SlAt 5 (PcAt (nwC B w') d) pv p.procs := hacc.sl (P := fun C g o x => PcAt C d g o x) hacc.max (PcQ.mono d) fun C c g o x _ _ hq hc => PcQ.at_ d C c g o x hq hc
  exact ⟨gv, pv, he, ⟨StrC.mono (only_le (fun g h => h.1) (fun _ _ _ h => h)) hg, SlAt.imp hm fun _ _ _ _ h => PcAt.mono (nw_le hB (Below.refl _ _)) h⟩, hb⟩
end Go.Proofs.Ytghlmengcidmdaa.Tr
end
