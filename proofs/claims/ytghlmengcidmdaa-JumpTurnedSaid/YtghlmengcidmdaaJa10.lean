/- Parts of RMayP, TreeFindW, RAllW: walks and plain laws that later texts use. Conditions: as each statement says. -/
import Derived.Test.YtghlmengcidmdaaJa0
import Derived.Test.YtghlmengcidmdaaJa1
import Derived.Test.YtghlmengcidmdaaJa2
import Derived.Test.YtghlmengcidmdaaJa3
import Derived.Test.YtghlmengcidmdaaJa4
import Derived.Test.YtghlmengcidmdaaJa5
import Derived.Test.YtghlmengcidmdaaJa6
import Derived.Test.YtghlmengcidmdaaJa7
import Derived.Deep.RegionHeld3
import Derived.Deep.QuietTactic
import Derived.BigQuiet
import Derived.Deep.DeepCutAuto
import Derived.Deep.CutBlock
import Derived.WalkKit
import Derived.Test.YtghlmengcidmdaaRows
import Derived.WalkSpells
import Derived.Lib.Hide
import Derived.Below
import Derived.WalkSmall
import Derived.IntWalk
import Derived.StillTailTactics
import Derived.Deep.RegionLaw
import Derived.RegionTactic
import Derived.Laws.BitsAllLaws
import Derived.Outline
import Derived.OwnWalk
import Derived.OneCell
import Derived.Deep.AppendLies
import Derived.Laws.StructEq
import Derived.Maps.Range
import Derived.Lib.SmallJoins
import Derived.Deep.Upon
import Derived.Maps.AppendAt
import Derived.Laws.OwnMore
import Derived.Deep.RegionWith
import Derived.Laws.Cover3
import Derived.Deep.Slices
import Derived.Deep.Fields
import Derived.SliceStrings
import Derived.ChangeSlices
section
/- The reference's May and tree's May are the same. No program. Conditions: none. -/
namespace Go.Proofs.Ytghlmengcidmdaa.Tr
open Go.RowKit Go.Proofs.Ytghlmengcidmdaa.Lx Go.Proofs.Ytghlmengcidmdaa.Wd
def allPs : List Pc → List It → List It
  | [], out => out
  | f :: r, out => if 200 < (out ++ flatOf f).length then out ++ flatOf f else allPs r (out ++ flatOf f)
def allOf (p : Pr) : List It := allPs p.procs []
theorem allPs_cons (f : Pc) (r : List Pc) (out : List It) : allPs (f :: r) out = if 200 < (out ++ flatOf f).length then out ++ flatOf f else allPs r (out ++ flatOf f) := by simp only [allPs]
/-- An item by itself, the n-th. -/
def okAt (n : Int) (i : It) : Bool := (i.s.id == n + 1) && decide (i.deep ≤ 12) && (namesB i.s.labels && fieldsB i.s)
def oksA : Int → List It → Bool
  | _, [] => true
  | n, i :: r => okAt n i && oksA (n + 1) r
theorem oksA_append : ∀ (l m : List It) (n : Int), oksA n (l ++ m) = (oksA n l && oksA (n + l.length) m) := by
  intro l
  induction l with
  | nil => intro m n; simp [oksA]
  | cons a r ih =>
    intro m n
    rw [List.cons_append, oksA, oksA, ih, Bool.and_assoc, List.length_cons]
    have e : n + 1 + (r.length : Int) = n + ((r.length + 1 : Nat) : Int) := by push_cast; omega
    rw [e]
theorem oksA_no {l : List It} {k : Nat} (hk : k < l.length) {n : Int} (h : okAt (n + k) l[k] = false) : oksA n l = false := by
  have e : l = l.take k ++ l[k] :: l.drop (k + 1) := by rw [← List.drop_eq_getElem_cons hk, List.take_append_drop]
  rw [e, oksA_append, oksA]
  have : ((l.take k).length : Int) = k := by rw [List.length_take]; omega
  rw [this, h]
  simp
theorem oksA_yes {l : List It} {k : Nat} (hk : k < l.length) {n : Int} (h0 : oksA n (l.take k) = true) (h : okAt (n + k) l[k] = true) : oksA n (l.take (k + 1)) = true := by
  rw [List.take_succ_eq_append_getElem hk, oksA_append, h0, oksA, oksA]
  have : ((l.take k).length : Int) = k := by rw [List.length_take]; omega
  rw [this, h]
  rfl
/-- A row of items, from the n-th on: not too many, each one well. -/
def tk (n : Int) (l : List It) : Bool := decide (n + l.length ≤ 200) && oksA n l
theorem tk_append (n : Int) (l m : List It) : tk n (l ++ m) = (tk n l && tk (n + l.length) m) := by
  unfold tk
  rw [oksA_append, List.length_append]
  have e : n + ((l.length + m.length : Nat) : Int) = n + l.length + m.length := by push_cast; omega
  rw [e]
  by_cases h : n + (l.length : Int) + m.length ≤ 200
  · rw [decide_eq_true h, decide_eq_true (show n + (l.length : Int) ≤ 200 by omega)]
    simp
  · rw [decide_eq_false h]
    simp
theorem tk_many {n : Int} {l : List It} (h : 200 < n + l.length) : tk n l = false := by
  unfold tk
  rw [decide_eq_false (by omega), Bool.false_and]
theorem tk_one (n : Int) (s : St) (deep inn : Int) (els : Bool) : tk n [⟨s, deep, inn, els⟩] = (decide (n + 1 ≤ 200) && ((s.id == n + 1) && decide (deep ≤ 12) && (namesB s.labels && fieldsB s))) := by
  unfold tk
  rw [oksA, oksA, okAt, Bool.and_true]
  rfl
mutual
theorem tkS (n : Int) (hn : 0 ≤ n) : ∀ (s : St) (deep inn : Int) (els : Bool) (out : List It), out.length ≤ 200 →
    (tk n (flatS s deep (out ++ [⟨s, deep, inn, els⟩])) = (tk n out && decide (deep ≤ 12) && rowS 200 12 deep (n + out.length) s)) ∧ (tk n (flatS s deep (out ++ [⟨s, deep, inn, els⟩])) = true → (flatS s deep (out ++ [⟨s, deep, inn, els⟩])).length = out.length + cntS s)
  | .mk id k ls nm pr x h ar th el, deep, inn, els, out => fun ho => by
    have hone := tk_one (n + out.length) (.mk id k ls nm pr x h ar th el) deep inn els
    have happ := tk_append n out [⟨.mk id k ls nm pr x h ar th el, deep, inn, els⟩]
    rw [hone] at happ
    by_cases hd : deep ≤ 12
    · have e1 : (flatS (.mk id k ls nm pr x h ar th el) deep (out ++ [⟨.mk id k ls nm pr x h ar th el, deep, inn, els⟩])) = flatL el (deep + 1) id true (flatL th (deep + 1) id false (out ++ [⟨.mk id k ls nm pr x h ar th el, deep, inn, els⟩])) := by rw [flatS, if_pos hd]
      obtain ⟨t1, t2⟩ := tkL n hn th (deep + 1) id false (out ++ [⟨.mk id k ls nm pr x h ar th el, deep, inn, els⟩])
      obtain ⟨t3, t4⟩ := tkL n hn el (deep + 1) id true (flatL th (deep + 1) id false (out ++ [⟨.mk id k ls nm pr x h ar th el, deep, inn, els⟩]))
      have hlen : (out ++ [(⟨.mk id k ls nm pr x h ar th el, deep, inn, els⟩ : It)]).length = out.length + 1 := by simp
      rw [hlen] at t1 t2
      have e2 : n + ((out.length + 1 : Nat) : Int) = n + out.length + 1 := by push_cast; omega
      rw [e2, happ] at t1
      rw [e1]
      refine ⟨?_, fun ht => ?_⟩
      · rw [t3, rowS_eq, decide_eq_true hd]
        simp only [St.id, St.labels, St.thn, St.els, Bool.and_true]
        by_cases hT : tk n (flatL th (deep + 1) id false (out ++ [⟨.mk id k ls nm pr x h ar th el, deep, inn, els⟩])) = true
        · have e3 : n + ((flatL th (deep + 1) id false (out ++ [⟨.mk id k ls nm pr x h ar th el, deep, inn, els⟩])).length : Int) = n + out.length + 1 + cntL th := by rw [t2 hT]; push_cast; omega
          rw [e3, t1, decide_eq_true hd]
          simp only [St.id, St.labels, Bool.and_true, Bool.and_assoc]
        · have hT' : tk n (flatL th (deep + 1) id false (out ++ [⟨.mk id k ls nm pr x h ar th el, deep, inn, els⟩])) = false := by simpa using hT
          rw [hT', Bool.false_and]
          rw [hT', decide_eq_true hd] at t1
          simp only [St.id, St.labels, Bool.and_true] at t1
          cases a1 : tk n out with
          | false => rfl
          | true =>
            rw [a1] at t1
            simp only [Bool.true_and, ← Bool.and_assoc] at t1 ⊢
            rw [← t1, Bool.false_and]
      · have hT : tk n (flatL th (deep + 1) id false (out ++ [⟨.mk id k ls nm pr x h ar th el, deep, inn, els⟩])) = true := by
          rw [t3, Bool.and_eq_true] at ht
          exact ht.1
        rw [t4 ht, t2 hT, cntS]
        omega
    · have e1 : (flatS (.mk id k ls nm pr x h ar th el) deep (out ++ [⟨.mk id k ls nm pr x h ar th el, deep, inn, els⟩])) = out ++ [⟨.mk id k ls nm pr x h ar th el, deep, inn, els⟩] := by rw [flatS, if_neg hd]
      have hz : tk n (out ++ [⟨.mk id k ls nm pr x h ar th el, deep, inn, els⟩]) = false := by rw [happ, decide_eq_false hd]; simp
      rw [e1, hz, decide_eq_false hd]
      exact ⟨by simp, fun h => by cases h⟩
theorem tkL (n : Int) (hn : 0 ≤ n) : ∀ (l : List St) (deep inn : Int) (els : Bool) (out : List It),
    (tk n (flatL l deep inn els out) = (tk n out && rowsL 200 12 deep (n + out.length) l)) ∧ (tk n (flatL l deep inn els out) = true → (flatL l deep inn els out).length = out.length + cntL l)
  | [], deep, inn, els, out => by simp [flatL, rowsL, cntL]
  | s :: r, deep, inn, els, out => by
    rw [flatL_cons]
    by_cases ho : out.length ≤ 200
    · rw [if_pos ho]
      obtain ⟨t1, t2⟩ := tkS n hn s deep inn els out ho
      obtain ⟨t3, t4⟩ := tkL n hn r deep inn els (flatS s deep (out ++ [⟨s, deep, inn, els⟩]))
      refine ⟨?_, fun ht => ?_⟩
      · rw [t3, rowsL_cons]
        by_cases hT : tk n (flatS s deep (out ++ [⟨s, deep, inn, els⟩])) = true
        · have e3 : n + ((flatS s deep (out ++ [⟨s, deep, inn, els⟩])).length : Int) = n + out.length + cntS s := by rw [t2 hT]; push_cast; omega
          rw [e3, t1]
          simp only [Bool.and_assoc]
        · have hT' : tk n (flatS s deep (out ++ [⟨s, deep, inn, els⟩])) = false := by simpa using hT
          rw [hT', Bool.false_and]
          rw [hT'] at t1
          have t1' := t1.symm
          rw [← Bool.and_assoc, ← Bool.and_assoc, t1', Bool.false_and]
      · have hT : tk n (flatS s deep (out ++ [⟨s, deep, inn, els⟩])) = true := by
          rw [t3, Bool.and_eq_true] at ht
          exact ht.1
        rw [t4 ht, t2 hT, cntL_cons]
        omega
    · rw [if_neg ho, tk_many (by omega)]
      exact ⟨by simp, fun h => by cases h⟩
end
theorem tk_flat (n : Int) (hn : 0 ≤ n) (f : Pc) : (tk n (flatOf f) = (decide (n ≤ 200) && rowsL 200 12 1 n f.body)) ∧ (tk n (flatOf f) = true → (flatOf f).length = cntL f.body) := by
  obtain ⟨t1, t2⟩ := tkL n hn f.body 1 0 false []
  unfold flatOf
  have e : tk n [] = decide (n ≤ 200) := by unfold tk; rw [oksA]; simp
  have e2 : n + (([] : List It).length : Int) = n := by simp
  rw [t1, e, e2]
  exact ⟨rfl, fun h => by rw [t2 (by rw [t1, e, e2]; exact h)]; simp⟩
/-- The rows of procedures, behind so many statements. -/
def rowsPs (n : Int) : List Pc → Bool
  | [] => true
  | f :: r => rowsL 200 12 1 n f.body && rowsPs (n + cntL f.body) r
theorem tk_all : ∀ (l : List Pc) (out : List It), tk 0 (allPs l out) = (tk 0 out && rowsPs out.length l) := by
  intro l
  induction l with
  | nil => intro out; simp [allPs, rowsPs]
  | cons f r ih =>
    intro out
    rw [allPs_cons, rowsPs]
    have h1 := tk_append 0 out (flatOf f)
    rw [Int.zero_add] at h1
    obtain ⟨t1, t2⟩ := tk_flat out.length (by omega) f
    by_cases hb : 200 < (out ++ flatOf f).length
    · rw [if_pos hb]
      have hz : tk 0 (out ++ flatOf f) = false := tk_many (by omega)
      rw [hz]
      rw [hz, t1] at h1
      cases a1 : tk 0 out with
      | false => rfl
      | true =>
        have : out.length ≤ 200 := by unfold tk at a1; simp at a1; omega
        rw [a1, decide_eq_true (show (out.length : Int) ≤ 200 by omega)] at h1
        cases a2 : rowsL 200 12 1 out.length f.body with
        | false => rfl
        | true => rw [a2] at h1; cases h1
    · rw [if_neg hb, ih, h1, t1]
      cases a1 : tk 0 out with
      | false => rfl
      | true =>
        have : out.length ≤ 200 := by unfold tk at a1; simp at a1; omega
        rw [decide_eq_true (show (out.length : Int) ≤ 200 by omega)]
        cases a2 : rowsL 200 12 1 out.length f.body with
        | false => rfl
        | true =>
          have h3 := t2 (by rw [t1, a2, decide_eq_true (show (out.length : Int) ≤ 200 by omega)]; rfl)
          have e : ((out ++ flatOf f).length : Int) = out.length + cntL f.body := by rw [List.length_append, h3]; push_cast; rfl
          rw [e]
          simp only [Bool.true_and]
def headQ (f : Pc) : Bool := headPc f && f.params.all fun a => isName (bl a.nm)
def rmayP (p : Pr) : Bool := decide (p.globals.length ≤ 16) && decide (p.procs.length ≤ 16) && namesB p.globals && p.procs.all headQ && tk 0 (allOf p)
theorem mayPs_split : ∀ (l : List Pc) (n : Int), mayPs n l = (l.all headQ && rowsPs n l) := by
  intro l
  induction l with
  | nil => intro n; rfl
  | cons f r ih =>
    intro n
    rw [mayPs, mayPc, ih, List.all_cons, rowsPs, headQ]
    cases headPc f <;> cases f.params.all (fun a => isName (bl a.nm)) <;> cases rowsL 200 12 1 n f.body <;> cases r.all headQ <;> cases rowsPs (n + cntL f.body) r <;> rfl
theorem rmay_same (p : Pr) : rmayP p = mayP p := by
  unfold rmayP mayP allOf
  rw [mayPs_split, tk_all]
  have e : tk 0 [] = true := by unfold tk; rw [oksA]; rfl
  rw [e]
  simp only [Bool.true_and, Bool.and_assoc, List.length_nil]
  rfl
end Go.Proofs.Ytghlmengcidmdaa.Tr
end
section
/- The law TreeFind, walked: it returns true. Conditions: the arguments lie in memory. -/
namespace Go.Proofs.Ytghlmengcidmdaa.Tr
open Go.RowKit Go.Proofs.Ytghlmengcidmdaa.Lx Go.Proofs.Ytghlmengcidmdaa.Wd
def ItAt (C : Cs) (d : Nat) (g o : Nat) (i : It) : Prop := StAt C d (StC C d) g o i.s ∧ C g (o + 13) (.int .i64 i.deep) ∧ C g (o + 14) (.int .i64 i.inn) ∧ C g (o + 15) (.bool i.els) ∧ InI i.deep ∧ InI i.inn
theorem ItAt.mono {C D : Cs} (h : Cs.le C D) {d g o : Nat} {i : It} (q : ItAt C d g o i) : ItAt D d g o i := ⟨StAt.mono h (fun _ _ => StC.mono h) q.1, h _ _ _ q.2.1, h _ _ _ q.2.2.1, h _ _ _ q.2.2.2.1, q.2.2.2.2⟩
theorem RowT.sl {B d : Nat} {w : World} {v : Value} {l : List It} {rows : List (List Value)} (h : RowT B d w v l rows) : SlAt 16 (ItAt (cw w) d) v l := by
  have hlen := h.len
  have hown := h.own
  rcases h.own.2 with ⟨hv, hn⟩ | ⟨g, cap, cur, hv, h1, h2, h3, h4, h5, h6⟩
  · have : l = [] := List.eq_nil_of_length_eq_zero hn
    subst this
    rw [hv]
    exact SlAt.nil
  · refine ⟨_, cap, hv, h3, h4, fun hne => ⟨g, 0, rfl, fun i hi => ?_⟩⟩
    obtain ⟨kv, lv, av, tv, ev, hc, k1, k2, k3, k4, k5, k6, k7, k8, k9, k10, k11, k12⟩ := ItQ.mono (D := cw w) (fun _ _ _ h => h.2) (h.each i hi (by omega))
    have at_ : ∀ j u, (itCells l[i] kv lv av tv ev)[j]? = some u → cw w g (0 + i * 16 + j) u := fun j u hu => by
      have := hown.cells (g := g) (by rw [hv]; rfl) (i * 16 + j) u (flat_get rows i j u h.wide (by omega) (by rw [hc]; exact hu))
      rw [Addr.add_lit, Nat.zero_add] at this
      show w.cell? ⟨g, 0 + i * 16 + j, none⟩ = _
      rw [Nat.zero_add]
      exact this
    exact ⟨⟨lv, av, tv, ev, at_ 0 _ rfl, at_ 1 _ rfl, at_ 2 _ rfl, at_ 3 _ rfl, at_ 4 _ rfl, ⟨kv, at_ 5 _ rfl, at_ 6 _ rfl, at_ 7 _ rfl, at_ 8 _ rfl, k1, k2⟩, at_ 9 _ rfl, at_ 10 _ rfl, at_ 11 _ rfl, at_ 12 _ rfl, k3, k4, k5, k6, k7, k8, k9, k10⟩,
      at_ 13 _ rfl, at_ 14 _ rfl, at_ 15 _ rfl, k11, k12⟩
def FlatMade (d : Nat) (l : List It) (w : World) (e : Ending) (w' : World) : Prop := ∃ v, e = .returned v ∧ SlAt 16 (ItAt (cw w') d) v l ∧ Below w.heap.size w w'
def zSt : St := .mk 0 0 [] ⟨#[]⟩ ⟨#[]⟩ (.mk 0 0 ⟨#[]⟩ []) false [] [] []
set_option maxHeartbeats 1000000 in
theorem flatOf_any (d : Nat) (f : Pc) (pv vv bv fv : Value) (w : World) (hb : StC (cw w) d bv f.body) : Calls Try.prog 60 #[(.agg #[.string f.nm, pv, vv, bv, fv])] w (FlatMade d (flatOf f) w) := by
  obtain ⟨ba, bc, rfl, -, -⟩ := hb.form
  have hbox := boxed w (.cells #[.string f.nm, pv, vv, .slice ba f.body.length bc, fv] 55)
  have HB := Lib.hid hbox
  have HBODY := Lib.hid (hb.next hbox)
  clear hbox hb
  go_enter Try.func60, Try.ntmps60
  go_wp2_with fail
  refine (flat_any _ d d f.body _ (.slice none 0 0) 1 0 false [] [] _ (Nat.le_refl _) (StC.mono low_all HBODY.out) (RowT.nil _ _ _) (Nat.le_refl _) (by omega) (by omega) (by unfold InI; omega) (by simp)).mono ?_
  rintro e w1 ⟨v, rows, rfl, hr, hg⟩
  have HR := Lib.hid hr.sl
  have HG := Lib.hid (((Below.refl _ _).grown hg.1 (Nat.le_refl _) (fun g h => by cases h)).mono HB.out.size)
  obtain ⟨va, vc, rfl⟩ := ownsForm hr.own
  clear hr hg
  go_wp2_with fail
  go_ret
  exact ⟨_, rfl, HR.out, HB.out.trans HG.out⟩
end Go.Proofs.Ytghlmengcidmdaa.Tr
end
section
/- What All of the reference makes: the items of all procedures. Conditions: the program lies in memory. -/
namespace Go.Proofs.Ytghlmengcidmdaa.Tr
open Go.RowKit Go.Proofs.Ytghlmengcidmdaa.Lx Go.Proofs.Ytghlmengcidmdaa.Wd
theorem flatOf_len (f : Pc) : (flatOf f).length ≤ 201 := by unfold flatOf; exact flatL_len _ _ _ _ _ (by simp)
theorem RowT.cells1 {B d : Nat} {w : World} {v : Value} {l : List It} {rows : List (List Value)} (h : RowT B d w v l rows) : ∀ u ∈ rows.flatten, u.oneCell' = true := by
  intro u hu
  obtain ⟨r, hr, hu⟩ := List.mem_flatten.1 hu
  obtain ⟨i, hi, rfl⟩ := List.getElem_of_mem hr
  obtain ⟨kv, lv, av, tv, ev, hc, k1, k2, k3, k4, k5, k6, k7, k8, k9, k10, -⟩ := h.each i (by have := h.len; omega) hi
  rw [hc] at hu
  obtain ⟨ka, kc, rfl, -, -⟩ := k2.form
  obtain ⟨la, lc, rfl, -, -⟩ := k7.form
  obtain ⟨aa, ac, rfl, -, -⟩ := k8.form
  obtain ⟨ta, tc, rfl, -, -⟩ := k9.form
  obtain ⟨ea, ec, rfl, -, -⟩ := k10.form
  have hil : i < l.length := by have := h.len; omega
  exact it_cells (deep := l[i].deep) (inn := l[i].inn) (els := l[i].els) u hu
theorem RowT.flat_len {B d : Nat} {w : World} {v : Value} {l : List It} {rows : List (List Value)} (h : RowT B d w v l rows) : rows.flatten.length = l.length * 16 := by
  rw [← h.len]
  have hw := h.wide
  clear h
  induction rows with
  | nil => rfl
  | cons a r ih =>
    rw [List.flatten_cons, List.length_append, ih fun x hx => hw x (by simp [hx]), hw a (by simp), List.length_cons]
    omega
/-- More items behind. -/
theorem RowT.cat {B d : Nat} {w w3 w4 : World} {v v4 vx : Value} {l m : List It} {rows rowsx : List (List Value)} (h : RowT B d w v l rows) (hb : Below w.heap.size w w3) (hg : w3.grownBy w4 v.ownBlock) (hx : RowT B d w3 vx m rowsx)
    (hown : w4.ownsRow B 76 16 v4 (l.length + m.length) (rows.flatten ++ rowsx.flatten)) : RowT B d w4 v4 (l ++ m) (rows ++ rowsx) := by
  have hlen := h.len
  have hlenx := hx.len
  have le3 : Cs.le (lowC B w3) (lowC B w4) := low_grown hg fun g hg => (h.own.lt g hg).1
  have le : Cs.le (lowC B w) (lowC B w4) := Cs.le_trans (low_next hb) le3
  refine ⟨by simp [hlen, hlenx], by simpa using hown, fun r hr => ?_, fun i h1 h2 => ?_⟩
  · rcases List.mem_append.1 hr with hr | hr
    · exact h.wide r hr
    · exact hx.wide r hr
  · simp only [List.getElem_append]
    simp at h1 h2
    by_cases hi : i < l.length
    · rw [dif_pos hi, dif_pos (by omega)]
      exact ItQ.mono le (h.each i hi (by omega))
    · rw [dif_neg hi, dif_neg (by omega)]
      have e : i - rows.length = i - l.length := by omega
      simp only [e]
      exact ItQ.mono le3 (hx.each (i - l.length) (by omega) (by omega))
theorem RowT.news {B d : Nat} {w : World} {a : Option Addr} {n c : Nat} {l : List It} {rows : List (List Value)} (h : RowT B d w (.slice a n c) l rows) : n = l.length ∧ (a = none → n = 0) ∧ (∀ ad, a = some ad → ∀ j u, rows.flatten[j]? = some u → w.cell? (ad.add j) = some u) := by
  have hown := h.own
  rcases h.own.2 with ⟨hv, hn⟩ | ⟨g, cap, cur, hv, h1, h2, h3, h4, h5, h6⟩
  · injection hv with e1 e2 e3
    subst e1 e2
    exact ⟨hn.symm, fun _ => rfl, fun ad h => by cases h⟩
  · injection hv with e1 e2 e3
    subst e1 e2
    refine ⟨rfl, (fun h => by cases h), fun ad h j u hu => ?_⟩
    injection h with h
    subst h
    have := hown.cells (g := g) (by rfl) j u hu
    exact this
theorem allPs_len (l : List Pc) : ∀ out : List It, out.length ≤ 200 → (allPs l out).length ≤ 401 := by
  induction l with
  | nil => intro out h; rw [allPs]; omega
  | cons f r ih =>
    intro out h
    rw [allPs_cons]
    have := flatOf_len f
    split
    · rw [List.length_append]; omega
    · exact ih _ (by omega)
theorem allOf_len (p : Pr) : (allOf p).length ≤ 401 := allPs_len _ _ (by simp)
def FlatRow (B d : Nat) (l : List It) (w : World) (e : Ending) (w' : World) : Prop := ∃ v rows, e = .returned v ∧ RowT B d w' v l rows ∧ Below w.heap.size w w'
set_option maxHeartbeats 1000000 in
theorem flatB_any (B d : Nat) (f : Pc) (pv vv bv fv : Value) (w : World) (hB : B ≤ w.heap.size) (hb : StC (lowC B w) d bv f.body) : Calls Try.prog 60 #[(.agg #[.string f.nm, pv, vv, bv, fv])] w (FlatRow B d (flatOf f) w) := by
  obtain ⟨ba, bc, rfl, -, -⟩ := hb.form
  have hbox := boxed w (.cells #[.string f.nm, pv, vv, .slice ba f.body.length bc, fv] 55)
  have HB := Lib.hid hbox
  have HBODY := Lib.hid (StC.mono (low_next hbox) hb)
  have HBB : Hid (B ≤ w.heap.size) := Lib.hid hB
  clear hbox hb hB
  go_enter Try.func60, Try.ntmps60
  go_wp2_with fail
  refine (flat_any B d d f.body _ (.slice none 0 0) 1 0 false [] [] _ (Nat.le_refl _) HBODY.out (RowT.nil _ _ _) (Nat.le_trans HBB.out HB.out.size) (by omega) (by omega) (by unfold InI; omega) (by simp)).mono ?_
  rintro e w1 ⟨v, rows, rfl, hr, hg⟩
  have HR := Lib.hid hr
  have HG := Lib.hid (((Below.refl _ _).grown hg.1 (Nat.le_refl _) (fun g h => by cases h)).mono HB.out.size)
  obtain ⟨va, vc, rfl⟩ := ownsForm hr.own
  clear hr hg
  go_wp2_with fail
  go_ret
  exact ⟨_, rows, rfl, HR.out, HB.out.trans HG.out⟩
theorem allPs_append (l m : List Pc) : ∀ out : List It, (allPs l out).length ≤ 200 → allPs (l ++ m) out = allPs m (allPs l out) := by
  induction l with
  | nil => intro out _; simp only [allPs, List.nil_append]
  | cons f r ih =>
    intro out h
    rw [allPs_cons] at h ⊢
    rw [List.cons_append, allPs_cons]
    split
    · rw [if_pos (by assumption)] at h; omega
    · rw [if_neg (by assumption)] at h; exact ih _ h
theorem allPs_stop (l m : List Pc) : ∀ out : List It, out.length ≤ 200 → 200 < (allPs l out).length → allPs (l ++ m) out = allPs l out := by
  induction l with
  | nil => intro out h0 h; rw [allPs] at h; omega
  | cons f r ih =>
    intro out h0 h
    rw [allPs_cons] at h
    rw [List.cons_append, allPs_cons, allPs_cons]
    split
    · rfl
    · rw [if_neg (by assumption)] at h; exact ih _ (by omega) h
set_option maxHeartbeats 4000000 in
set_option maxRecDepth 100000 in
theorem allOf_any (d : Nat) (p : Pr) (gv pv : Value) (w : World) (hp : PrC (cw w) d gv pv p) : Calls Try.prog 71 #[.agg #[gv, pv]] w (FlatRow w.heap.size d (allOf p) w) := by
  obtain ⟨i0, hi, hz0, hz1, hz2⟩ := info_parts infoItem
  obtain ⟨ga, gc, rfl, -, -⟩ := hp.1.form
  obtain ⟨pa, pc, rfl, hl1, hl2⟩ := hp.2.form
  have HPS := Lib.hid hp.2
  have hbox := boxed w (.cells #[.slice ga p.globals.length gc, .slice pa p.procs.length pc] 25)
  have HB := Lib.hid hbox
  have hplen : p.procs.length ≤ 9223372036854775807 := Nat.le_trans hl1 hl2
  clear hp hbox hl1 hl2
  go_enter Try.func71, Try.ntmps71
  go_wp2_with fail
  go_loopw [3, 9] (fun s3 i wr => ∃ (k : Nat) (vr : Value) (its : List It) (rows : List (List Value)), k ≤ p.procs.length ∧ i = .int .i64 k ∧ s3 = vr ∧ allPs (p.procs.take k) [] = its ∧ its.length ≤ 200 ∧ RowT w.heap.size d wr vr its rows ∧ Below w.heap.size w wr) (fun _ i _ => (p.procs.length - intOf i).toNat)
  case atStart => exact ⟨0, _, [], [], by omega, rfl, rfl, rfl, by simp, RowT.nil _ _ _, HB.out⟩
  case round =>
    obtain ⟨k, vr, its, rows, hk, rfl, rfl, hall, hlen, hr, hbel⟩ := hrel
    have HALL := Lib.hid hall
    have HR := Lib.hid hr
    have HBEL := Lib.hid hbel
    obtain ⟨va, vc, rfl⟩ := ownsForm hr.own
    obtain ⟨w0, hw0⟩ : ∃ w0 : World, w0 = wr := ⟨_, rfl⟩
    subst hw0
    clear hall hr
    by_cases hlt : k < p.procs.length
    · have hlt' : (k : Int) < (p.procs.length : Int) := by omega
      have h0k : (0 : Int) ≤ (k : Int) := by omega
      have hne : p.procs ≠ [] := by intro h; rw [h] at hlt; simp at hlt
      have hle : Cs.le (cw w) (lowC w.heap.size w0) := Cs.le_trans low_all (low_next hbel)
      obtain ⟨g, off, cap', hv, _, hcells⟩ := SlAt.cells (SlAt.imp HPS.out fun _ _ _ _ => PcAt.mono hle) hne
      simp only [Value.slice.injEq] at hv
      obtain ⟨rfl, -, rfl⟩ := hv
      obtain ⟨qv1, vv1, bv1, fv1, p0, p1, p2, p3, p4, hnm, hq1, hv1, hb1, hf1⟩ := hcells k hlt
      obtain ⟨f, hf⟩ : ∃ f, Hid (p.procs[k] = f) := ⟨_, Lib.hid rfl⟩
      rw [hf.out] at p0 hnm hq1 hv1 hb1 hf1
      obtain ⟨qa1, qc1, rfl, -, -⟩ := hq1.form
      obtain ⟨va1, vc1, rfl, -, -⟩ := hv1.form
      obtain ⟨ba1, bc1, rfl, -, -⟩ := hb1.form
      obtain ⟨fa1, fc1, rfl, -, -⟩ := hf1.form
      have e0 : w0.cell? ⟨g, off + k * 5, none⟩ = _ := p0.2
      have e1 : w0.cell? ⟨g, off + k * 5 + 1, none⟩ = _ := p1.2
      have e2 : w0.cell? ⟨g, off + k * 5 + 2, none⟩ = _ := p2.2
      have e3 : w0.cell? ⟨g, off + k * 5 + 3, none⟩ = _ := p3.2
      have e4 : w0.cell? ⟨g, off + k * 5 + 4, none⟩ = _ := p4.2
      have hbx := boxed w0 (.cells #[.string f.nm, .slice qa1 f.params.length qc1, .slice va1 f.vars.length vc1, .slice ba1 f.body.length bc1, .slice fa1 f.fin.length fc1] 55)
      have HBX := Lib.hid hbx
      have HBD := Lib.hid (StC.mono (low_next hbx) hb1)
      have HR1 := Lib.hid (HR.out.next hbx)
      have hsz : w.heap.size ≤ w0.heap.size := hbel.size
      have hsz1 := Nat.le_trans hsz hbx.size
      have hstep : Hid (p.procs.take (k + 1) = p.procs.take k ++ [f]) := Lib.hid (by rw [List.take_succ_eq_append_getElem hlt, hf.out])
      have hfl := flatOf_len f
      clear hcells p0 p1 p2 p3 p4 hq1 hv1 hb1 hf1 hne hle hbx hbel hnm
      go_upto_region 5 with fail
      go_wp2_with fail
      refine (flatB_any w.heap.size d f _ _ _ _ _ hsz1 HBD.out).mono ?_
      rintro e w2 ⟨v2, rows2, rfl, hr2, hb2⟩
      have HR2 := Lib.hid hr2
      have HB2 := Lib.hid (HBX.out.trans (hb2.mono HBX.out.size))
      have HR1' := Lib.hid (HR1.out.next hb2)
      have hsz2 := Nat.le_trans hsz1 hb2.size
      obtain ⟨va2, vc2, rfl⟩ := ownsForm hr2.own
      have hall2 : Hid (allPs (p.procs.take (k + 1)) [] = its ++ flatOf f) := Lib.hid (by
        rw [hstep.out, allPs_append _ _ _ (by rw [HALL.out]; exact hlen), HALL.out, allPs_cons]
        split
        · rfl
        · rw [allPs])
      clear hr2 hb2 HR1
      go_wp2_with (at_builtin; refine wpList_append_sl _ rfl (.tmp 13) (.tmp 15) 83 rfl w.heap.size 76 i0 (.agg #[.int .i64 0, .int .i64 0, .slice none 0 0, .string ⟨#[]⟩, .string ⟨#[]⟩, .int .i64 0, .int .i64 0, .string ⟨#[]⟩, .slice none 0 0, .bool false, .slice none 0 0, .slice none 0 0, .slice none 0 0, .int .i64 0, .int .i64 0, .bool false]) 16 232 Try.underlying83 hi hz0 hz1 hz2 rfl (by decide) _ _ _ rfl HR1'.out.own _ _ _ rows2.flatten rfl HR2.out.news.2.1 HR2.out.flat_len HR2.out.news.2.2 HR2.out.cells1 ?c3 ?c4 ?c5 ?_)
      case c3 => unfold maxLen; omega
      case c4 => omega
      case c5 => omega
      intro v4 w4 hown4 hg4 hat4
      have hr4 := HR1'.out.cat (Below.refl _ _) hg4 HR2.out hown4
      have HR4 := Lib.hid hr4
      have hb4 : Below w.heap.size w w4 := (HBEL.out.trans (HB2.out.mono HBEL.out.size)).grown hg4 hsz2 fun q hq => (HR1'.out.own.lt q hq).1
      have HB4 := Lib.hid hb4
      obtain ⟨va4, vc4, rfl⟩ := ownsForm hown4
      clear hown4 hg4 hat4 hr4 hb4 HR2 HB2 HR1'
      by_cases h200 : 200 < (its ++ flatOf f).length
      · have h200' : (200 : Int) < ((its.length + (flatOf f).length : Nat) : Int) := by rw [List.length_append] at h200; omega
        have he : Hid (allOf p = its ++ flatOf f) := Lib.hid (by
          unfold allOf
          rw [← hall2.out, ← allPs_stop (p.procs.take (k + 1)) (p.procs.drop (k + 1)) [] (by simp) (by rw [hall2.out]; exact h200), List.take_append_drop])
        clear h200 hsz hsz1 hsz2
        go_wp2_with fail
        go_ret
        rw [he.out]
        exact ⟨_, _, rfl, HR4.out, HB4.out⟩
      · have h200' : ¬ (200 : Int) < ((its.length + (flatOf f).length : Nat) : Int) := by rw [List.length_append] at h200; omega
        have h2002 : (its ++ flatOf f).length ≤ 200 := by omega
        have H200 := Lib.hid h2002
        clear h200 hsz hsz1 hsz2 h2002
        go_wp2_with fail
        go_roundw
        case rel => exact ⟨k + 1, _, _, _, by omega, by go_num, rfl, hall2.out, H200.out, HR4.out, HB4.out⟩
        case measure => simp [intOf]; omega
    · have hlt' : ¬ (k : Int) < (p.procs.length : Int) := by omega
      have he : allOf p = its := by
        unfold allOf
        rw [← HALL.out, List.take_of_length_le (by omega)]
      have HE := Lib.hid he
      clear he
      go_wp2_with fail
      go_ret
      rw [HE.out]
      exact ⟨_, rows, rfl, HR.out, HBEL.out⟩
end Go.Proofs.Ytghlmengcidmdaa.Tr
end
