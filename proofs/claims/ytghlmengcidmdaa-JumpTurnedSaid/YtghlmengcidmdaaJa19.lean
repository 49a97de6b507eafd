/- Parts of JumpP, JumpF, JumpS: walks and plain laws that later texts use. Conditions: as each statement says. -/
import Derived.Test.YtghlmengcidmdaaJa0
import Derived.Test.YtghlmengcidmdaaJa1
import Derived.Test.YtghlmengcidmdaaJa2
import Derived.Test.YtghlmengcidmdaaJa3
import Derived.Test.YtghlmengcidmdaaJa4
import Derived.Test.YtghlmengcidmdaaJa5
import Derived.Test.YtghlmengcidmdaaJa6
import Derived.Test.YtghlmengcidmdaaJa7
import Derived.Test.YtghlmengcidmdaaJa8
import Derived.Test.YtghlmengcidmdaaJa9
import Derived.Test.YtghlmengcidmdaaJa10
import Derived.Test.YtghlmengcidmdaaJa11
import Derived.Test.YtghlmengcidmdaaJa12
import Derived.Test.YtghlmengcidmdaaJa13
import Derived.Test.YtghlmengcidmdaaJa14
import Derived.Test.YtghlmengcidmdaaJa15
import Derived.Test.YtghlmengcidmdaaJa16
import Derived.Test.YtghlmengcidmdaaJa17
import Derived.Test.YtghlmengcidmdaaJa18
import Derived.Outline
import Derived.IntWalk
import Derived.Deep.QuietTactic
import Derived.BigQuiet
import Derived.Deep.RegionWith
import Derived.Deep.DeepCutAuto
import Derived.Laws.Cover3
import Derived.Deep.RegionHeld3
import Derived.OwnWalk
import Derived.OneCell
import Derived.Deep.AppendLies
import Derived.Deep.RegionLaw
import Derived.Deep.CutBlock
import Derived.StillTailTactics
import Derived.WalkKit
import Derived.Test.YtghlmengcidmdaaRows
import Derived.WalkSpells
import Derived.Lib.Hide
import Derived.Below
import Derived.Laws.BitsAllLaws
import Derived.Laws.StructEq
import Derived.Maps.Range
import Derived.Lib.SmallJoins
import Derived.Deep.Upon
import Derived.Maps.AppendAt
import Derived.Laws.OwnMore
import Derived.WalkSmall
import Derived.RegionTactic
import Derived.Deep.Slices
import Derived.Deep.Fields
import Derived.SliceStrings
import Derived.ChangeSlices
import Derived.OrdersHeld
import Derived.Deep.MidRow
section
/- Labels, where they stand, the innermost loops, the first fault of jumps: plain. No program's code. Conditions: as each says. -/
namespace Go.Proofs.Ytghlmengcidmdaa.Tr
open Go.RowKit Go.Proofs.Ytghlmengcidmdaa.Lx Go.Proofs.Ytghlmengcidmdaa.Wd
/- The innermost loops of statements, in the order of ids. -/
mutual
def loopsS (lp : Int) : St → List Int
  | .mk i k _ _ _ _ _ _ th el => lp :: (loopsL (if k = 6 then i else lp) th ++ loopsL (if k = 6 then i else lp) el)
def loopsL (lp : Int) : List St → List Int
  | [] => []
  | s :: r => loopsS lp s ++ loopsL lp r
end
def loopsOf (f : Pc) : List Int := loopsL 0 f.body
mutual
theorem loopsS_len (lp : Int) : ∀ s : St, (loopsS lp s).length = cntS s
  | .mk i k ls nm pr x h ar th el => by rw [loopsS, cntS, List.length_cons, List.length_append, loopsL_len _ th, loopsL_len _ el]; omega
theorem loopsL_len (lp : Int) : ∀ l : List St, (loopsL lp l).length = cntL l
  | [] => by rw [loopsL, cntL]; rfl
  | s :: r => by rw [loopsL, cntL, List.length_append, loopsS_len _ s, loopsL_len _ r]
end
/-- Up the chain: k items lie ahead, the one of id n is looked for. -/
def climb (L : List It) : Nat → Int → Int
  | 0, _ => 0
  | k + 1, n => if n = 0 then 0 else match L[k]? with
    | none => 0
    | some t => if t.s.id ≠ n then climb L k n else if t.s.kind = 6 then n else climb L k t.inn
theorem climb_zero (L : List It) (k : Nat) : climb L k 0 = 0 := by cases k <;> simp [climb]
theorem climb_pre (P X : List It) : ∀ (k : Nat) (n : Int), k ≤ P.length → climb (P ++ X) k n = climb P k n := by
  intro k
  induction k with
  | zero => intro n _; rfl
  | succ k ih =>
    intro n hk
    simp only [climb]
    rw [List.getElem?_append_left (by omega)]
    split
    · rfl
    · split
      · rfl
      · rw [ih _ (by omega), ih _ (by omega)]
theorem climb_skip1 (P : List It) (t : It) {n : Int} (h : t.s.id ≠ n) : climb (P ++ [t]) (P ++ [t]).length n = climb P P.length n := by
  by_cases hn : n = 0
  · subst hn; rw [climb_zero, climb_zero]
  · rw [List.length_append, List.length_singleton]
    simp only [climb]
    rw [if_neg hn, List.getElem?_append_right (by omega), Nat.sub_self, List.getElem?_cons_zero]
    simp only
    rw [if_pos h, climb_pre _ _ _ _ (Nat.le_refl _)]
theorem climb_skip {n : Int} : ∀ (X P : List It), (∀ t ∈ X, t.s.id ≠ n) → climb (P ++ X) (P ++ X).length n = climb P P.length n := by
  intro X
  induction X with
  | nil => intro P _; rw [List.append_nil]
  | cons t X ih =>
    intro P h
    have h1 := ih (P ++ [t]) fun u hu => h u (List.mem_cons_of_mem _ hu)
    rw [List.append_assoc, List.singleton_append] at h1
    rw [h1, climb_skip1 P t (h t List.mem_cons_self)]
theorem climb_at (P : List It) (t : It) (h0 : t.s.id ≠ 0) : climb (P ++ [t]) (P ++ [t]).length t.s.id = if t.s.kind = 6 then t.s.id else climb P P.length t.inn := by
  rw [List.length_append, List.length_singleton]
  simp only [climb]
  rw [if_neg h0, List.getElem?_append_right (by omega), Nat.sub_self, List.getElem?_cons_zero]
  simp only [ne_eq, not_true, if_false]
  rw [climb_pre _ _ _ _ (Nat.le_refl _)]
/-- The loops of items behind others. -/
def climbAll (P : List It) : List It → List Int
  | [] => []
  | t :: X => climb P P.length t.inn :: climbAll (P ++ [t]) X
theorem climbAll_append : ∀ (X Y P : List It), climbAll P (X ++ Y) = climbAll P X ++ climbAll (P ++ X) Y := by
  intro X
  induction X with
  | nil => intro Y P; simp [climbAll]
  | cons t X ih => intro Y P; rw [List.cons_append, climbAll, climbAll, ih, List.cons_append, List.append_assoc, List.singleton_append]
theorem climbAll_get : ∀ (X P : List It) (j : Nat) (hj : j < X.length), (climbAll P X)[j]? = some (climb (P ++ X) (P.length + j) X[j].inn) := by
  intro X
  induction X with
  | nil => intro P j hj; exact absurd hj (by simp)
  | cons t X ih =>
    intro P j hj
    rw [climbAll]
    cases j with
    | zero => rw [List.getElem?_cons_zero, List.getElem_cons_zero, Nat.add_zero, climb_pre _ _ _ _ (Nat.le_refl _)]
    | succ j =>
      rw [List.getElem?_cons_succ, ih _ _ (by simpa using hj), List.getElem_cons_succ, List.append_assoc, List.singleton_append, List.length_append, List.length_singleton]
      rw [show P.length + 1 + j = P.length + (j + 1) by omega]
theorem preS_above {s : St} {deep inn nest n : Int} {els : Bool} (h : rowS 200 12 nest n s = true) : ∀ t ∈ preS deep inn els s, n < t.s.id := by
  intro t ht
  have h1 : t.s.id ∈ upTo n (cntS s) := by rw [← preS_ids s deep inn nest n els h]; exact List.mem_map.2 ⟨t, ht, rfl⟩
  unfold upTo at h1
  obtain ⟨k, -, he⟩ := List.mem_map.1 h1
  omega
theorem preL_above {l : List St} {deep inn nest n : Int} {els : Bool} (h : rowsL 200 12 nest n l = true) : ∀ t ∈ preL deep inn els l, n < t.s.id := by
  intro t ht
  have h1 : t.s.id ∈ upTo n (cntL l) := by rw [← preL_ids l deep inn nest n els h]; exact List.mem_map.2 ⟨t, ht, rfl⟩
  unfold upTo at h1
  obtain ⟨k, -, he⟩ := List.mem_map.1 h1
  omega
mutual
theorem climbS : ∀ (s : St) (P : List It) (deep inn nest n lp : Int) (els : Bool), rowS 200 12 nest n s = true → 0 ≤ n → climb P P.length inn = lp → climbAll P (preS deep inn els s) = loopsS lp s
  | .mk i k ls nm pr x h ar th el, P, deep, inn, nest, n, lp, els => fun hr h0 hc => by
    rw [rowS_eq] at hr
    simp only [Bool.and_eq_true, decide_eq_true_eq, beq_iff_eq, St.id, St.labels, St.thn, St.els] at hr
    have hi : i = n + 1 := hr.1.1.1.1.2
    rw [preS, loopsS, climbAll, hc, climbAll_append]
    obtain ⟨t, ht⟩ : ∃ t : It, t = ⟨.mk i k ls nm pr x h ar th el, deep, inn, els⟩ := ⟨_, rfl⟩
    rw [← ht]
    have hc1 : climb (P ++ [t]) (P ++ [t]).length i = if k = 6 then i else lp := by
      have h1 := climb_at P t (by rw [ht]; show i ≠ 0; omega)
      rw [ht] at h1 ⊢
      rw [← hc]
      exact h1
    have hskip : climb (P ++ [t] ++ preL (deep + 1) i false th) (P ++ [t] ++ preL (deep + 1) i false th).length i = if k = 6 then i else lp := by
      rw [climb_skip _ _ (fun u hu => by have := preL_above hr.1.2 u hu; omega), hc1]
    rw [climbL th (P ++ [t]) _ _ _ _ _ _ hr.1.2 (by omega) hc1, climbL el _ _ _ _ _ _ _ hr.2 (by omega) hskip]
theorem climbL : ∀ (l : List St) (P : List It) (deep inn nest n lp : Int) (els : Bool), rowsL 200 12 nest n l = true → (0 ≤ n ∧ inn ≤ n) → climb P P.length inn = lp → climbAll P (preL deep inn els l) = loopsL lp l
  | [], P, deep, inn, nest, n, lp, els => fun _ _ _ => by rw [preL, loopsL]; rfl
  | s :: r, P, deep, inn, nest, n, lp, els => fun hr h0 hc => by
    rw [rowsL_cons] at hr
    simp only [Bool.and_eq_true, decide_eq_true_eq] at hr
    rw [preL_cons, climbAll_append, loopsL, climbS s P deep inn _ _ lp els hr.1.2 h0.1 hc]
    rw [climbL r _ deep inn _ _ lp els hr.2 (by omega) (by rw [climb_skip _ _ (fun u hu => by have := preS_above hr.1.2 u hu; omega)]; exact hc)]
end
theorem climb_loops {f : Pc} {n : Int} (h : mayPc n f = true) (h0 : 0 ≤ n) {q : Nat} (hq : q < (itsOf f).length) : (loopsOf f)[q]? = some (climb (itsOf f) q (itsOf f)[q].inn) := by
  have h1 := climbL f.body [] 1 0 1 n 0 false (mayPc_rows h) ⟨h0, h0⟩ rfl
  have h2 := climbAll_get (itsOf f) [] q hq
  rw [List.nil_append, List.length_nil, Nat.zero_add] at h2
  rw [← h2]
  unfold loopsOf itsOf
  rw [h1]
/-- The innermost loop around the statement of an id, as the reference asks it. -/
def aroundG (L : List It) (id : Int) : Nat → Int
  | 0 => 0
  | i + 1 => match L[i]? with
    | none => aroundG L id i
    | some t => if t.s.id ≠ id then aroundG L id i else if climb L i t.inn ≠ 0 then climb L i t.inn else aroundG L id i
theorem around_no (L : List It) (id : Int) : ∀ k, (∀ j (hj : j < L.length), j < k → L[j].s.id ≠ id) → aroundG L id k = 0 := by
  intro k
  induction k with
  | zero => intro _; rfl
  | succ k ih =>
    intro h
    have ih' := ih fun j hj hjk => h j hj (by omega)
    simp only [aroundG]
    split
    · exact ih'
    · rename_i t ht
      obtain ⟨hk, rfl⟩ := List.getElem?_eq_some_iff.1 ht
      rw [if_pos (h k hk (by omega))]
      exact ih'
theorem around_up (L : List It) (id : Int) {q : Nat} (hq : q < L.length) (he : L[q].s.id = id) (hno : ∀ j (hj : j < L.length), j ≠ q → L[j].s.id ≠ id) : ∀ k, q < k → aroundG L id k = climb L q L[q].inn := by
  intro k
  induction k with
  | zero => intro h; omega
  | succ k ih =>
    intro h
    simp only [aroundG]
    by_cases hkq : k = q
    · subst hkq
      rw [List.getElem?_eq_getElem hq]
      simp only
      rw [if_neg (by simpa using he)]
      split
      · rfl
      · rename_i hc
        rw [around_no L id k (fun j hj hjk => hno j hj (by omega))]
        have hc' : climb L k L[k].inn = 0 := by simpa using hc
        exact hc'.symm
    · rw [← ih (by omega)]
      split
      · rfl
      · rename_i t ht
        obtain ⟨hk, rfl⟩ := List.getElem?_eq_some_iff.1 ht
        rw [if_pos (hno k hk hkq)]
theorem around_its {f : Pc} {n : Int} (h : mayPc n f = true) (h0 : 0 ≤ n) {q : Nat} (hq : q < (itsOf f).length) : (loopsOf f)[q]? = some (aroundG (itsOf f) (itsOf f)[q].s.id (itsOf f).length) := by
  rw [climb_loops h h0 hq, around_up (itsOf f) _ hq rfl (fun j hj hjq => ?_) _ hq]
  rw [its_at_id h, its_at_id h]
  omega
/-- Where a jump of a statement goes. -/
def leadsP (f : Pc) (s : St) (lp : Int) : Bool := if s.kind = 7 ∨ s.kind = 8 then !(lp == 0) else if s.kind = 10 then inB s.nm (labsOf f) else true
/-- The first fault of a procedure's jumps, so many labels told. -/
def jumpGo (f : Pc) : List ByteArray → List (St × Int) → Option Int
  | seen, [] => if twiceB (seen ++ f.fin) then some 0 else none
  | seen, (s, lp) :: r => if twiceB (seen ++ s.labels) || !leadsP f s lp then some s.id else jumpGo f (seen ++ s.labels) r
def pcJump (f : Pc) : Option Int := jumpGo f [] ((stsOf f).zip (loopsOf f))
def jumpAt (p : Pr) : Int × Int := match p.procs.findSome? pcJump with
  | some i => (7, i)
  | none => (0, 0)
def jumpP (p : Pr) : Int × Int := if (scopeP p).1 = 0 then jumpAt p else (1, 0)
theorem jump_step {f : Pc} {q : Nat} {s : St} {lp : Int} (hs : (stsOf f)[q]? = some s) (hl : (loopsOf f)[q]? = some lp) (h : pcJump f = jumpGo f (labLs ((stsOf f).take q)) (((stsOf f).zip (loopsOf f)).drop q)) :
    pcJump f = if twiceB (labLs ((stsOf f).take q) ++ s.labels) || !leadsP f s lp then some s.id else jumpGo f (labLs ((stsOf f).take (q + 1))) (((stsOf f).zip (loopsOf f)).drop (q + 1)) := by
  obtain ⟨h1, h2⟩ := List.getElem?_eq_some_iff.1 hs
  obtain ⟨h3, h4⟩ := List.getElem?_eq_some_iff.1 hl
  have hz : q < ((stsOf f).zip (loopsOf f)).length := by rw [List.length_zip]; omega
  rw [h, List.drop_eq_getElem_cons hz, List.getElem_zip, h2, h4, jumpGo, List.take_succ_eq_append_getElem h1, labLs_append, h2]
  have : labLs [s] = s.labels := by unfold labLs; simp
  rw [this]
theorem jump_end {f : Pc} (h : pcJump f = jumpGo f (labLs ((stsOf f).take (stsOf f).length)) (((stsOf f).zip (loopsOf f)).drop (stsOf f).length)) : pcJump f = if twiceB (labsOf f) then some 0 else none := by
  rw [h, List.drop_eq_nil_of_le (by rw [List.length_zip]; omega), jumpGo, List.take_length]
  rfl
theorem jump_at {p : Pr} {k : Nat} (hk : k < p.procs.length) {i : Int} (h0 : ∀ j (hj : j < p.procs.length), j < k → pcJump p.procs[j] = none) (h1 : pcJump p.procs[k] = some i) : jumpAt p = (7, i) := by
  unfold jumpAt
  rw [some_at hk (f := pcJump) h0 h1]
theorem jump_ok {p : Pr} (h0 : ∀ j (hj : j < p.procs.length), pcJump p.procs[j] = none) : jumpAt p = (0, 0) := by
  unfold jumpAt
  rw [some_no (f := pcJump) h0]
/-- The place that bears a label. -/
def bearP (f : Pc) (s : ByteArray) : Int × Bool := match (stsOf f).find? (fun t => inB s t.labels) with
  | some t => (t.id, true)
  | none => if inB s f.fin then (-1, true) else (0, false)
theorem bear_at {f : Pc} {s : ByteArray} {k : Nat} (hk : k < (stsOf f).length) (h0 : ∀ j (hj : j < (stsOf f).length), j < k → inB s (stsOf f)[j].labels = false) (h : inB s (stsOf f)[k].labels = true) : bearP f s = ((stsOf f)[k].id, true) := by
  unfold bearP
  rw [fst_at hk h0 h]
theorem bear_no {f : Pc} {s : ByteArray} (h0 : ∀ j (hj : j < (stsOf f).length), inB s (stsOf f)[j].labels = false) : bearP f s = if inB s f.fin then (-1, true) else (0, false) := by
  unfold bearP
  rw [fst_no h0]
theorem labLs_mem {l : List St} {s : ByteArray} : s ∈ labLs l ↔ ∃ t ∈ l, s ∈ t.labels := by
  unfold labLs
  rw [List.mem_flatten]
  constructor
  · rintro ⟨m, hm, hs⟩
    obtain ⟨t, ht, rfl⟩ := List.mem_map.1 hm
    exact ⟨t, ht, hs⟩
  · rintro ⟨t, ht, hs⟩
    exact ⟨_, List.mem_map.2 ⟨t, ht, rfl⟩, hs⟩
theorem bear_in {f : Pc} {s : ByteArray} : (bearP f s).2 = inB s (labsOf f) := by
  have hm : s ∈ labsOf f ↔ (∃ t ∈ stsOf f, s ∈ t.labels) ∨ s ∈ f.fin := by unfold labsOf; rw [List.mem_append, labLs_mem]
  unfold bearP
  cases hf : (stsOf f).find? (fun t => inB s t.labels) with
  | some t =>
    have h1 := List.find?_some hf
    have h2 := List.mem_of_find?_eq_some hf
    exact (inB_iff.2 (hm.2 (.inl ⟨t, h2, inB_iff.1 h1⟩))).symm
  | none =>
    rw [List.find?_eq_none] at hf
    have hno : ¬ ∃ t ∈ stsOf f, s ∈ t.labels := fun ⟨t, ht, hs⟩ => hf t ht (inB_iff.2 hs)
    cases hi : inB s f.fin with
    | true => exact (inB_iff.2 (hm.2 (.inr (inB_iff.1 hi)))).symm
    | false =>
      have h1 := inB_no.1 hi
      exact (inB_no.2 fun h => (hm.1 h).elim hno h1).symm
end Go.Proofs.Ytghlmengcidmdaa.Tr
end
section
/- The innermost loops on the sheet, and by the reference. No program's code. Conditions: the program may be. -/
namespace Go.Proofs.Ytghlmengcidmdaa.Tr
open Go.RowKit Go.Proofs.Ytghlmengcidmdaa.Lx Go.Proofs.Ytghlmengcidmdaa.Wd
mutual
theorem shS_loops : ∀ (s : St) (a : Ar5) (last : Bool) (out : List Fi) (nest : Int), rowS 200 12 nest out.length s = true → ∃ X, shS s a last out = out ++ X ∧ X.map Fi.loop = loopsS a.loop s ∧ X.map Fi.proc = List.replicate (cntS s) a.proc
  | .mk i k ls nm pr x h ar th el, a, last, out, nest => fun hr => by
    rw [rowS_eq] at hr
    simp only [Bool.and_eq_true, decide_eq_true_eq, beq_iff_eq, St.id, St.labels, St.thn, St.els] at hr
    have hi : i = out.length + 1 := hr.1.1.1.1.2
    rw [shS]
    obtain ⟨nx, hnx⟩ : ∃ nx : Int, nx = (if last then a.next else out.length + 1 + (1 + cntL th + cntL el : Nat)) := ⟨_, rfl⟩
    rw [← hnx]
    obtain ⟨X1, h1, k1, j1⟩ := shL_loops th (inside k (out.length + 1) nx a) (out ++ [itemOf (.mk i k ls nm pr x h ar th el) a nx]) (nest + 1) (by rw [List.length_append, List.length_singleton]; push_cast; exact hr.1.2)
    have hl1 : X1.length = cntL th := by have := congrArg List.length j1; rwa [List.length_map, List.length_replicate] at this
    rw [h1]
    obtain ⟨X2, h2, k2, j2⟩ := shL_loops el (inside k (out.length + 1) nx a) ((out ++ [itemOf (.mk i k ls nm pr x h ar th el) a nx]) ++ X1) (nest + 1) (by rw [List.length_append, List.length_append, List.length_singleton, hl1]; push_cast; exact hr.2)
    rw [h2]
    have hlp : (inside k (out.length + 1) nx a).loop = if k = 6 then i else a.loop := by unfold inside; rw [hi]
    refine ⟨[itemOf (.mk i k ls nm pr x h ar th el) a nx] ++ X1 ++ X2, by simp only [List.append_assoc], ?_, ?_⟩
    · rw [loopsS, List.map_append, List.map_append, k1, k2, hlp]
      simp [itemOf]
    · rw [List.map_append, List.map_append, j1, j2, cntS]
      show [a.proc] ++ List.replicate (cntL th) a.proc ++ List.replicate (cntL el) a.proc = _
      rw [show [a.proc] = List.replicate 1 a.proc from rfl, List.replicate_append_replicate, List.replicate_append_replicate]
theorem shL_loops : ∀ (l : List St) (a : Ar5) (out : List Fi) (nest : Int), rowsL 200 12 nest out.length l = true → ∃ X, shL l a out = out ++ X ∧ X.map Fi.loop = loopsL a.loop l ∧ X.map Fi.proc = List.replicate (cntL l) a.proc
  | [], a, out, nest => fun _ => ⟨[], by rw [shL, List.append_nil], by rw [loopsL]; rfl, by rw [cntL]; rfl⟩
  | s :: r, a, out, nest => fun hr => by
    rw [rowsL_cons] at hr
    simp only [Bool.and_eq_true, decide_eq_true_eq] at hr
    rw [shL]
    obtain ⟨X1, h1, k1, j1⟩ := shS_loops s a r.isEmpty out nest hr.1.2
    have hl1 : X1.length = cntS s := by have := congrArg List.length j1; rwa [List.length_map, List.length_replicate] at this
    rw [h1]
    obtain ⟨X2, h2, k2, j2⟩ := shL_loops r a (out ++ X1) nest (by rw [List.length_append, hl1]; push_cast; exact hr.2)
    rw [h2]
    refine ⟨X1 ++ X2, by rw [List.append_assoc], ?_, ?_⟩
    · rw [loopsL, List.map_append, k1, k2]
    · rw [List.map_append, j1, j2, cntL, List.replicate_append_replicate]
end
theorem sheetPs_loops : ∀ (l : List Pc) (i : Nat) (out : List Fi), mayPs out.length l = true → (sheetPs l i out).map Fi.loop = out.map Fi.loop ++ (l.map loopsOf).flatten := by
  intro l
  induction l with
  | nil => intro i out _; simp [sheetPs]
  | cons f r ih =>
    intro i out h
    rw [mayPs, Bool.and_eq_true] at h
    obtain ⟨X, h1, h2, h3⟩ := shL_loops f.body ⟨i, 0, -1, 0⟩ out 1 (mayPc_rows h.1)
    have hl1 : X.length = cntL f.body := by have := congrArg List.length h3; rwa [List.length_map, List.length_replicate] at this
    rw [sheetPs, h1, ih _ _ (by rw [List.length_append, hl1]; push_cast; exact h.2), List.map_append, h2, List.map_cons, List.flatten_cons, List.append_assoc]
    rfl
theorem sheet_loops {p : Pr} (h : mayP p = true) : (sheetOf p).map Fi.loop = (p.procs.map loopsOf).flatten := by
  unfold sheetOf
  rw [sheetPs_loops p.procs 0 [] (by simpa using mayP_procs h)]
  rfl
theorem sheetPs_procs : ∀ (l : List Pc) (i : Nat) (out : List Fi), mayPs out.length l = true → ∃ X, sheetPs l i out = out ++ X ∧ ∀ k (hk : k < l.length) q, q < cntL l[k].body → (X.map Fi.proc)[cntP (l.take k) + q]? = some ((i + k : Nat) : Int) := by
  intro l
  induction l with
  | nil => intro i out _; exact ⟨[], by simp [sheetPs], fun k hk => absurd hk (by simp)⟩
  | cons f r ih =>
    intro i out h
    rw [mayPs, Bool.and_eq_true] at h
    obtain ⟨X, h1, h2, h3⟩ := shL_loops f.body ⟨i, 0, -1, 0⟩ out 1 (mayPc_rows h.1)
    have hl1 : X.length = cntL f.body := by have := congrArg List.length h3; rwa [List.length_map, List.length_replicate] at this
    obtain ⟨Y, g1, g2⟩ := ih (i + 1) (out ++ X) (by rw [List.length_append, hl1]; push_cast; exact h.2)
    rw [sheetPs, h1, g1]
    refine ⟨X ++ Y, by rw [List.append_assoc], fun k hk q hq => ?_⟩
    rw [List.map_append, h3]
    cases k with
    | zero =>
      rw [List.take_zero]
      have : cntP ([] : List Pc) + q = q := by unfold cntP; simp
      rw [this]
      rw [List.getElem_cons_zero] at hq
      rw [List.getElem?_append_left (by rw [List.length_replicate]; exact hq), List.getElem?_replicate, if_pos hq]
      rfl
    | succ k =>
      rw [List.getElem_cons_succ] at hq
      have e : cntP ((f :: r).take (k + 1)) = cntL f.body + cntP (r.take k) := by rw [List.take_succ_cons]; unfold cntP; rw [List.map_cons, List.sum_cons]
      rw [e, List.getElem?_append_right (by rw [List.length_replicate]; omega), List.length_replicate]
      have := g2 k (by simpa using hk) q hq
      rw [show cntL f.body + cntP (r.take k) + q - cntL f.body = cntP (r.take k) + q by omega, this]
      congr 2
      omega
theorem flat_loops : ∀ (l : List Pc) (k : Nat) (hk : k < l.length) (q : Nat), q < cntL l[k].body → ((l.map loopsOf).flatten)[cntP (l.take k) + q]? = (loopsOf l[k])[q]? := by
  intro l
  induction l with
  | nil => intro k hk; exact absurd hk (by simp)
  | cons f r ih =>
    intro k hk q hq
    have hlf : (loopsOf f).length = cntL f.body := loopsL_len 0 f.body
    rw [List.map_cons, List.flatten_cons]
    cases k with
    | zero =>
      have : cntP ([] : List Pc) + q = q := by unfold cntP; simp
      rw [List.take_zero, this]
      rw [List.getElem_cons_zero] at hq ⊢
      rw [List.getElem?_append_left (by rw [hlf]; exact hq)]
    | succ k =>
      rw [List.getElem_cons_succ] at hq ⊢
      have e : cntP ((f :: r).take (k + 1)) = cntL f.body + cntP (r.take k) := by rw [List.take_succ_cons]; unfold cntP; rw [List.map_cons, List.sum_cons]
      rw [e, List.getElem?_append_right (by rw [hlf]; omega), hlf, ← ih k (by simpa using hk) q hq]
      congr 1
      omega
theorem mayPs_nth : ∀ {l : List Pc} {n : Int}, mayPs n l = true → ∀ k (hk : k < l.length), mayPc (n + cntP (l.take k)) l[k] = true := by
  intro l
  induction l with
  | nil => intro n _ k hk; exact absurd hk (by simp)
  | cons f r ih =>
    intro n h k hk
    rw [mayPs, Bool.and_eq_true] at h
    cases k with
    | zero =>
      have : ((cntP ([] : List Pc) : Nat) : Int) = 0 := by unfold cntP; simp
      rw [List.take_zero, this, List.getElem_cons_zero, Int.add_zero]
      exact h.1
    | succ k =>
      have e : ((cntP ((f :: r).take (k + 1)) : Nat) : Int) = cntL f.body + cntP (r.take k) := by rw [List.take_succ_cons]; unfold cntP; rw [List.map_cons, List.sum_cons]; push_cast; rfl
      have := ih h.2 k (by simpa using hk)
      rw [List.getElem_cons_succ, e, ← Int.add_assoc]
      exact this
/-- A part of the sheet: its loops, its procedure. -/
theorem part_get {p : Pr} {i : Nat} (hi : i < p.procs.length) {q : Nat} (hq : q < cntL p.procs[i].body) : (partOf p i)[q]? = (sheetOf p)[cntP (p.procs.take i) + q]? := by
  unfold partOf
  rw [cntP_take hi, List.getElem?_take, if_pos (by omega), List.getElem?_drop]
theorem part_loop {p : Pr} (h : mayP p = true) {i : Nat} (hi : i < p.procs.length) {q : Nat} {t : Fi} (ht : (partOf p i)[q]? = some t) : (loopsOf p.procs[i])[q]? = some t.loop ∧ t.proc = i ∧ (stsOf p.procs[i])[q]? = some t.s := by
  have hs : ((partOf p i).map Fi.s)[q]? = some t.s := by rw [List.getElem?_map, ht]; rfl
  rw [part_sts p hi] at hs
  have hq : q < cntL p.procs[i].body := by rw [← sts_len]; exact (List.getElem?_eq_some_iff.1 hs).1
  rw [part_get hi hq] at ht
  refine ⟨?_, ?_, hs⟩
  · rw [← flat_loops p.procs i hi q hq, ← sheet_loops h, List.getElem?_map, ht]
    rfl
  · obtain ⟨X, h1, h2⟩ := sheetPs_procs p.procs 0 [] (by simpa using mayP_procs h)
    have h3 := h2 i hi q hq
    have h4 : sheetOf p = X := by unfold sheetOf; rw [h1]; rfl
    rw [← h4, List.getElem?_map, ht] at h3
    simpa using h3
/-- The innermost loop around the statement of an id; 0: none. -/
def loopP (p : Pr) (id : Int) : Int := if 1 ≤ id then (((p.procs.map loopsOf).flatten)[(id - 1).toNat]?).getD 0 else 0
theorem loop_sheet {p : Pr} (h : mayP p = true) {id : Int} (h1 : 1 ≤ id) {t : Fi} (ht : (sheetOf p)[(id - 1).toNat]? = some t) : loopP p id = t.loop := by
  unfold loopP
  rw [if_pos h1, ← sheet_loops h, List.getElem?_map, ht]
  rfl
theorem loops_cnt (l : List Pc) : ((l.map loopsOf).flatten).length = cntP l := by
  rw [List.length_flatten, List.map_map]
  unfold cntP
  congr 1
  refine List.map_congr_left fun f _ => ?_
  exact loopsL_len 0 f.body
theorem loop_out {p : Pr} {id : Int} (h : ¬ (1 ≤ id ∧ id ≤ cntP p.procs)) : loopP p id = 0 := by
  unfold loopP
  split
  · rename_i h1
    rw [List.getElem?_eq_none (by rw [loops_cnt]; omega)]
    rfl
  · rfl
theorem loop_its {p : Pr} (h : mayP p = true) {k : Nat} (hk : k < p.procs.length) {q : Nat} (hq : q < (itsOf p.procs[k]).length) : loopP p (itsOf p.procs[k])[q].s.id = aroundG (itsOf p.procs[k]) (itsOf p.procs[k])[q].s.id (itsOf p.procs[k]).length := by
  have hm := mayPs_nth (mayP_procs h) k hk
  have hid := its_at_id hm hq
  have hql : q < cntL p.procs[k].body := by rw [← its_len]; exact hq
  have h1 := around_its hm (by omega) hq
  rw [← flat_loops p.procs k hk q hql] at h1
  unfold loopP
  rw [if_pos (by omega), show ((itsOf p.procs[k])[q].s.id - 1).toNat = cntP (p.procs.take k) + q by omega, h1]
  rfl
theorem find6_out {p : Pr} (h : mayP p = true) {id : Int} (hf : find6 id p.procs = none) : loopP p id = 0 := by
  refine loop_out fun ⟨h1, h2⟩ => ?_
  have h3 : (id - 1).toNat < (allSts p).length := by rw [all_len2 h]; omega
  have h4 := all_id h h3
  have hm : (allSts p)[(id - 1).toNat] ∈ (allOf p).map It.s := by rw [all_its h]; exact List.getElem_mem h3
  obtain ⟨t, ht, he⟩ := List.mem_map.1 hm
  obtain ⟨k, hk, htk⟩ := all_its_mem h ht
  have h5 := find6_its h hk htk
  have h6 : t.s.id = id := by rw [he]; omega
  rw [h6, hf] at h5
  cases h5
theorem find6_in {p : Pr} (h : mayP p = true) {id : Int} {t : It} {nm : ByteArray} (hf : find6 id p.procs = some (t, nm)) : ∃ k, ∃ hk : k < p.procs.length, t ∈ itsOf p.procs[k] ∧ nm = p.procs[k].nm ∧ t.s.id = id := by
  have hrec : ∀ (l : List Pc), (∀ f ∈ l, flatOf f = itsOf f) → find6 id l = some (t, nm) → ∃ k, ∃ hk : k < l.length, t ∈ itsOf l[k] ∧ nm = l[k].nm ∧ t.s.id = id := by
    intro l
    induction l with
    | nil => intro _ h; cases h
    | cons f r ih =>
      intro hfl hf
      rw [find6] at hf
      cases hx : (flatOf f).find? (fun i => i.s.id == id) with
      | some i =>
        rw [hx] at hf
        simp only [Option.some.injEq, Prod.mk.injEq] at hf
        obtain ⟨rfl, rfl⟩ := hf
        have h1 := List.mem_of_find?_eq_some hx
        have h2 := List.find?_some hx
        rw [hfl f List.mem_cons_self] at h1
        exact ⟨0, by simp, h1, rfl, by simpa using h2⟩
      | none =>
        rw [hx] at hf
        obtain ⟨k, hk, h1, h2, h3⟩ := ih (fun g hg => hfl g (List.mem_cons_of_mem _ hg)) hf
        exact ⟨k + 1, by simpa using hk, h1, h2, h3⟩
  exact hrec p.procs (fun f hf => flat_its h hf) hf
end Go.Proofs.Ytghlmengcidmdaa.Tr
end
section
/- What sheet of jump makes; what Proc, Has and At of a sheet tell. Conditions: the program lies in memory and is not heavy. -/
namespace Go.Proofs.Ytghlmengcidmdaa.Tr
open Go.RowKit Go.Proofs.Ytghlmengcidmdaa.Lx Go.Proofs.Ytghlmengcidmdaa.Wd
set_option linter.unusedSimpArgs false
/-- A program's sheet lies at Y. -/
def SheetAt (D : Nat) (p : Pr) (w : World) (Y : Nat) : Prop := ∃ (B : Nat) (gv pv lov hiv v : Value) (rows : List (List Value)), SheetSt B D w Y gv pv lov hiv v (losOf p.procs p.procs.length) (hisOf p.procs p.procs.length) (sheetOf p) rows ∧ PrC (cw w) D gv pv p
theorem SheetAt.next {D : Nat} {p : Pr} {w w' : World} {Y : Nat} (h : SheetAt D p w Y) (hb : Below w.heap.size w w') : SheetAt D p w' Y := by
  obtain ⟨B, gv, pv, lov, hiv, v, rows, h1, h2⟩ := h
  exact ⟨B, gv, pv, lov, hiv, v, rows, h1.next hb, PrC.mono (cw_next hb) h2⟩
theorem at_fst {s : ByteArray} {l : List ByteArray} {k : Nat} (hk : k < l.length) (h0 : ∀ j (hj : j < l.length), j < k → (l[j].toList == s.toList) = false) (h1 : (l[k].toList == s.toList) = true) : atI s l = k := by
  refine atI_some ?_
  unfold at_
  rw [List.findIdx?_eq_some_iff_getElem]
  refine ⟨hk, by rw [same_comm]; exact h1, fun j hjk => ?_⟩
  rw [same_comm, h0 j (by omega) hjk]
  exact Bool.false_ne_true
theorem at_nil {s : ByteArray} {l : List ByteArray} (h0 : ∀ j (hj : j < l.length), (l[j].toList == s.toList) = false) : atI s l = -1 := by
  refine atI_none ?_
  unfold at_
  rw [List.findIdx?_eq_none_iff]
  intro x hx
  obtain ⟨j, hj, rfl⟩ := List.getElem_of_mem hx
  rw [same_comm]
  exact h0 j hj
set_option maxHeartbeats 4000000 in
set_option maxRecDepth 100000 in
theorem pfun_any (nm : ByteArray) (qv vv bv fv : Value) (hq : qv.oneCell' = true ∧ vv.oneCell' = true ∧ bv.oneCell' = true ∧ fv.oneCell' = true) (R : Nat) (s : ByteArray) (w : World) (hc : w.cell? ⟨R, 0, none⟩ = some (.string s)) :
    Calls Try.prog 130 #[.agg #[.string nm, qv, vv, bv, fv], .pointer (some ⟨R, 0, none⟩)] w fun e w' => e = .returned (.bool (nm.toList == s.toList)) ∧ Below w.heap.size w w' := by
  obtain ⟨q1, q2, q3, q4⟩ := hq
  have HC := Lib.hid hc
  clear hc
  go_enter Try.func130, Try.ntmps130
  go_upto_region 1 with fail
  refine cut_world (fun wx => Below w.heap.size w wx ∧ BoxAt wx w.heap.size [.string nm, qv, vv, bv, fv]) ⟨boxed w _, box_new w #[.string nm, qv, vv, bv, fv] 55⟩ ?_
  rintro w1 ⟨hb1, hx1⟩
  have HB1 := Lib.hid hb1
  have x0 := hx1 0 _ rfl
  have c0 := cell_next hb1 HC.out
  clear hb1 hx1
  go_wp2_with fail
  go_ret
  exact ⟨rfl, HB1.out⟩
set_option maxHeartbeats 4000000 in
set_option maxRecDepth 100000 in
theorem pindex_any (D : Nat) (l : List Pc) (pv : Value) (R : Nat) (s : ByteArray) (w : World) (hp : SlAt 5 (PcAt (cw w) D) pv l) (hc : w.cell? ⟨R, 0, none⟩ = some (.string s)) :
    Calls Try.prog 129 #[pv, .func (.func 130) #[] #[.pointer (some ⟨R, 0, none⟩)]] w fun e w' => e = .returned (.int .i64 (atI s (l.map Pc.nm))) ∧ Below w.heap.size w w' := by
  obtain ⟨pa, pc, rfl, hl1, hl2⟩ := hp.form
  have hpl : l.length ≤ 9223372036854775807 := Nat.le_trans hl1 hl2
  have HP := Lib.hid hp
  have HC := Lib.hid hc
  clear hp hc hl1 hl2
  obtain ⟨KK, hKK⟩ : ∃ s', Hid (atI s (l.map Pc.nm) = s') := ⟨_, Lib.hid rfl⟩
  rw [hKK.out]
  go_enter Try.func129, Try.ntmps129
  go_wp2_with fail
  go_loopw [8] (fun i wr => ∃ k : Nat, k ≤ l.length ∧ i = .int .i64 k ∧ (∀ j (hj : j < l.length), j < k → (l[j].nm.toList == s.toList) = false) ∧ Below w.heap.size w wr) (fun i _ => (l.length - intOf i).toNat)
  case atStart => exact ⟨0, by omega, rfl, fun j _ h => absurd h (by omega), Below.refl _ _⟩
  case round =>
    obtain ⟨k, hk, rfl, hno, hbr⟩ := hrel
    obtain ⟨w2, hw2⟩ : ∃ x : World, x = wr := ⟨_, rfl⟩
    subst hw2
    have HNO := Lib.hid hno
    have HB2 := Lib.hid hbr
    have HP2 := Lib.hid (SlAt.imp HP.out fun _ _ _ _ => PcAt.mono (cw_next hbr))
    clear hno hbr
    by_cases hlt : k < l.length
    · have hlt' : (k : Int) < (l.length : Int) := by omega
      have h0k : (0 : Int) ≤ (k : Int) := by omega
      obtain ⟨g, off, hvp, qv, vv, bv, fv, p0, p1, p2, p3, p4, hnm, hps, hvs, hbody, hfin⟩ := procs_at HP2.out hlt
      cases hvp
      obtain ⟨f, hf⟩ : ∃ f, Hid (l[k] = f) := ⟨_, Lib.hid rfl⟩
      rw [hf.out] at p0 hnm hps hvs hbody hfin
      obtain ⟨a1, c1, rfl, -, -⟩ := hps.form
      obtain ⟨a2, c2, rfl, -, -⟩ := hvs.form
      obtain ⟨a3, c3, rfl, -, -⟩ := hbody.form
      obtain ⟨a4, c4, rfl, -, -⟩ := hfin.form
      have e0 : w2.cell? ⟨g, off + k * 5, none⟩ = _ := p0
      have e1 : w2.cell? ⟨g, off + k * 5 + 1, none⟩ = _ := p1
      have e2 : w2.cell? ⟨g, off + k * 5 + 2, none⟩ = _ := p2
      have e3 : w2.cell? ⟨g, off + k * 5 + 3, none⟩ = _ := p3
      have e4 : w2.cell? ⟨g, off + k * 5 + 4, none⟩ = _ := p4
      clear p0 p1 p2 p3 p4 hnm hps hvs hbody hfin
      go_wp2_with fail
      refine (pfun_any f.nm _ _ _ _ ⟨rfl, rfl, rfl, rfl⟩ R s _ (cell_next HB2.out HC.out)).mono ?_
      rintro e w3 ⟨rfl, hb3⟩
      obtain ⟨NB, hNB⟩ : ∃ b, Hid ((f.nm.toList == s.toList) = b) := ⟨_, Lib.hid rfl⟩
      rw [hNB.out]
      have HB3 := Lib.hid (HB2.out.trans (hb3.mono HB2.out.size))
      clear hb3 e0 e1 e2 e3 e4
      cases NB with
      | true =>
        have hans : KK = (k : Int) := by
          rw [← hKK.out]
          refine at_fst (by rw [List.length_map]; exact hlt) (fun j hj hjk => ?_) ?_
          · rw [List.getElem_map]; exact HNO.out j (by rwa [List.length_map] at hj) hjk
          · rw [List.getElem_map, hf.out]; exact hNB.out
        subst hans
        go_wp2_with fail
        go_ret
        exact ⟨rfl, HB3.out⟩
      | false =>
        go_wp2_with fail
        go_roundw
        case rel =>
          refine ⟨k + 1, by omega, by go_num, fun j hj hjk => ?_, HB3.out⟩
          rcases Nat.lt_or_ge j k with h | h
          · exact HNO.out j hj h
          · obtain rfl : j = k := by omega
            rw [hf.out]; exact hNB.out
        case measure => simp [intOf]; omega
    · have hlt' : ¬ (k : Int) < (l.length : Int) := by omega
      have hans : KK = -1 := by
        rw [← hKK.out]
        refine at_nil fun j hj => ?_
        rw [List.getElem_map]
        rw [List.length_map] at hj
        exact HNO.out j hj (by omega)
      subst hans
      go_wp2_with fail
      go_ret
      exact ⟨rfl, HB2.out⟩
set_option maxHeartbeats 4000000 in
set_option maxRecDepth 100000 in
theorem shproc_any (D : Nat) (p : Pr) (Y : Nat) (s : ByteArray) (w : World) (hs : SheetAt D p w Y) :
    Calls Try.prog 98 #[.pointer (some ⟨Y, 0, none⟩), .string s] w fun e w' => e = .returned (.int .i64 (atI s (procNs p))) ∧ Below w.heap.size w w' := by
  obtain ⟨B, gv, pv, lov, hiv, v, rows, hst, hp⟩ := hs
  obtain ⟨pa, pc, rfl, hl1, hl2⟩ := hp.2.form
  have HP := Lib.hid hp
  have HBX := Lib.hid hst.sh.box
  clear hp hst hl1 hl2
  go_enter Try.func98, Try.ntmps98
  go_upto_region 1 with fail
  refine cut_world (fun wx => Below w.heap.size w wx ∧ BoxAt wx w.heap.size [.string s]) ⟨boxed w _, box_new w #[.string s] 9⟩ ?_
  rintro w1 ⟨hb1, hx1⟩
  have HB1 := Lib.hid hb1
  have HP1 := Lib.hid (PrC.mono (cw_next hb1) HP.out)
  have HX1 := Lib.hid hx1
  have y1 := (HBX.out.next hb1) 1 _ rfl
  clear hb1 hx1
  go_wp2_with fail
  refine (pindex_any D p.procs _ w.heap.size s _ HP1.out.2 (HX1.out 0 _ rfl)).mono ?_
  rintro e w2 ⟨rfl, hb2⟩
  have HB2 := Lib.hid (HB1.out.trans (hb2.mono HB1.out.size))
  clear hb2 y1
  go_wp2_with fail
  go_ret
  exact ⟨rfl, HB2.out⟩
set_option maxHeartbeats 4000000 in
set_option maxRecDepth 100000 in
theorem has_any (D : Nat) (p : Pr) (Y : Nat) (id : Int) (w : World) (hs : SheetAt D p w Y) :
    Calls Try.prog 101 #[.pointer (some ⟨Y, 0, none⟩), .int .i64 id] w fun e w' => e = .returned (.bool (decide (1 ≤ id) && decide (id ≤ ((sheetOf p).length : Int)))) ∧ w = w' := by
  obtain ⟨B, gv, pv, lov, hiv, v, rows, hst, hp⟩ := hs
  obtain ⟨va, vc, rfl, hv1, hv2⟩ := hst.sh.row.sl.form
  have y2 := hst.sh.box 2 _ rfl
  clear hst hp
  go_enter Try.func101, Try.ntmps101
  by_cases h1 : (1 : Int) ≤ id
  · have hd : decide ((1 : Int) ≤ id) = true := decide_eq_true h1
    rw [hd, Bool.true_and]
    go_wp2_with fail
    go_ret
    exact ⟨rfl, rfl⟩
  · have hd : decide ((1 : Int) ≤ id) = false := decide_eq_false h1
    rw [hd, Bool.false_and]
    go_wp2_with fail
    go_ret
    exact ⟨rfl, rfl⟩
set_option maxHeartbeats 4000000 in
set_option maxRecDepth 100000 in
theorem shat_any (D : Nat) (p : Pr) (Y : Nat) (i : Nat) (hi : i < p.procs.length) (f : Pc) (hfi : p.procs[i] = f) (s : ByteArray) (w : World) (hs : SheetAt D p w Y) (hm : cntP p.procs ≤ 1000000) :
    Calls Try.prog 99 #[.pointer (some ⟨Y, 0, none⟩), .int .i64 i, .string s] w fun e w' => e = .returned (.tuple #[.int .i64 (bearP f s).1, .bool (bearP f s).2]) ∧ Below w.heap.size w w' := by
  have hs0 := hs
  obtain ⟨B, gv, pv, lov, hiv, v, rows, hst, hp⟩ := hs
  obtain ⟨pa, pc, rfl, hl1, hl2⟩ := hp.2.form
  have hpl : p.procs.length ≤ 9223372036854775807 := Nat.le_trans hl1 hl2
  have HST := Lib.hid hst
  have HP := Lib.hid hp
  have hparts := part_sts p hi
  rw [hfi] at hparts
  have hf := Lib.hid hfi
  clear hfi
  have HI := Lib.hid hi
  obtain ⟨R1, hR1⟩ : ∃ x, Hid ((bearP f s).1 = x) := ⟨_, Lib.hid rfl⟩
  obtain ⟨R2, hR2⟩ : ∃ x, Hid ((bearP f s).2 = x) := ⟨_, Lib.hid rfl⟩
  rw [hR1.out, hR2.out]
  clear hst hp hs0 hl1 hl2
  go_enter Try.func99, Try.ntmps99
  go_wp2_with fail
  refine (of_any B D p Y _ _ _ _ _ _ i hi _ HST.out hm).mono ?_
  rintro e wK ⟨sv, rfl, hsl, hbK⟩
  obtain ⟨PT, hPT⟩ : ∃ L, Hid (partOf p i = L) := ⟨_, Lib.hid rfl⟩
  rw [hPT.out] at hsl hparts
  obtain ⟨ia, ic, rfl, hil1, hil2⟩ := hsl.form
  have hil : PT.length ≤ 9223372036854775807 := Nat.le_trans hil1 hil2
  have HLK := Lib.hid (SlAt.imp hsl fun _ _ _ _ => FiAt.mono (cw_next hbK))
  have HPART := Lib.hid hparts
  have HBK := Lib.hid hbK
  clear hsl hbK hil1 hil2 hparts
  go_wp2_with fail
  obtain ⟨WK, hWK⟩ : ∃ x : World, x = wK := ⟨_, rfl⟩
  subst hWK
  go_loopw [14] (fun i wr => ∃ q : Nat, q ≤ PT.length ∧ i = .int .i64 q ∧ (∀ j (hj : j < PT.length), j < q → inB s PT[j].s.labels = false) ∧ Below WK.heap.size WK wr) (fun i _ => (PT.length - intOf i).toNat)
  case atStart => exact ⟨0, by omega, rfl, fun j _ h => absurd h (by omega), Below.refl _ _⟩
  case round =>
    obtain ⟨q, hq, rfl, hnq, hbq⟩ := hrel
    obtain ⟨w9, hw9⟩ : ∃ x : World, x = wr := ⟨_, rfl⟩
    subst hw9
    have HNQ := Lib.hid hnq
    have HBQ := Lib.hid hbq
    have HB9 := Lib.hid (HBK.out.trans (hbq.mono HBK.out.size))
    have HL9 := Lib.hid (SlAt.imp HLK.out fun _ _ _ _ => FiAt.mono (cw_next hbq))
    clear hnq hbq
    by_cases hlq : q < PT.length
    · have hlq' : (q : Int) < (PT.length : Int) := by omega
      have h0q : (0 : Int) ≤ (q : Int) := by omega
      obtain ⟨gi, oi, hvi, hfi⟩ := its_at HL9.out hlq
      cases hvi
      obtain ⟨t, ht⟩ : ∃ t, Hid (PT[q] = t) := ⟨_, Lib.hid rfl⟩
      rw [ht.out] at hfi
      obtain ⟨la, ka, aa, ta, ea, lc, kc, ac, tc, ec, hrest⟩ := fi_open hfi
      have hce := hrest.1
      have hha := hrest.2.1
      have HCE := Lib.hid hce
      have HHA := Lib.hid hha
      clear hfi hce hha hrest
      have HI0 : Hid (BoxAt (w9.alloc (.cells #[.int .i64 0, .int .i64 0, .slice none 0 0, .string ⟨#[]⟩, .string ⟨#[]⟩, .int .i64 0, .int .i64 0, .string ⟨#[]⟩, .slice none 0 0, .bool false, .slice none 0 0, .slice none 0 0, .slice none 0 0, .int .i64 0, .int .i64 0, .int .i64 0, .int .i64 0] 95)) w9.heap.size [.int .i64 0, .int .i64 0, .slice none 0 0, .string ⟨#[]⟩, .string ⟨#[]⟩, .int .i64 0, .int .i64 0, .string ⟨#[]⟩, .slice none 0 0, .bool false, .slice none 0 0, .slice none 0 0, .slice none 0 0, .int .i64 0, .int .i64 0, .int .i64 0, .int .i64 0]) := Lib.hid (box_new w9 #[.int .i64 0, .int .i64 0, .slice none 0 0, .string ⟨#[]⟩, .string ⟨#[]⟩, .int .i64 0, .int .i64 0, .string ⟨#[]⟩, .slice none 0 0, .bool false, .slice none 0 0, .slice none 0 0, .slice none 0 0, .int .i64 0, .int .i64 0, .int .i64 0, .int .i64 0] 95)
      have HF0 : Hid (Free (w9.alloc (.cells #[.int .i64 0, .int .i64 0, .slice none 0 0, .string ⟨#[]⟩, .string ⟨#[]⟩, .int .i64 0, .int .i64 0, .string ⟨#[]⟩, .slice none 0 0, .bool false, .slice none 0 0, .slice none 0 0, .slice none 0 0, .int .i64 0, .int .i64 0, .int .i64 0, .int .i64 0] 95)) w9.heap.size) := Lib.hid (fun j => by simp [go_sem])
      have hzi := World.size_alloc w9 (.cells #[.int .i64 0, .int .i64 0, .slice none 0 0, .string ⟨#[]⟩, .string ⟨#[]⟩, .int .i64 0, .int .i64 0, .string ⟨#[]⟩, .slice none 0 0, .bool false, .slice none 0 0, .slice none 0 0, .slice none 0 0, .int .i64 0, .int .i64 0, .int .i64 0, .int .i64 0] 95)
      go_upto_region 4 with (first | refine wpList_load_mid rfl 95 (.tmp 16) rfl gi (oi + q * 17) rfl [.int .i64 t.s.id, .int .i64 t.s.kind, .slice la t.s.labels.length lc, .string t.s.nm, .string t.s.proc, .int .i64 t.s.x.op, .int .i64 t.s.x.n, .string t.s.x.nm, .slice ka t.s.x.ks.length kc, .bool t.s.has, .slice aa t.s.args.length ac, .slice ta t.s.thn.length tc, .slice ea t.s.els.length ec, .int .i64 t.proc, .int .i64 t.up, .int .i64 t.next, .int .i64 t.loop] _ (fun j v hv => HCE.out j v hv) Try.underlying95 rfl (by kernel_rfl) ?_ | refine wpList_store_mid rfl 95 (.tmp 9) (.tmp 17) rfl w9.heap.size 0 #[.int .i64 t.s.id, .int .i64 t.s.kind, .slice la t.s.labels.length lc, .string t.s.nm, .string t.s.proc, .int .i64 t.s.x.op, .int .i64 t.s.x.n, .string t.s.x.nm, .slice ka t.s.x.ks.length kc, .bool t.s.has, .slice aa t.s.args.length ac, .slice ta t.s.thn.length tc, .slice ea t.s.els.length ec, .int .i64 t.proc, .int .i64 t.up, .int .i64 t.next, .int .i64 t.loop] rfl rfl (box_there (n := 17) HI0.out HF0.out (by simp)) (by kernel_rfl) (by simp [Value.oneCell']) ?_)
      refine cut_world (fun wx => Below w9.heap.size w9 wx ∧ BoxAt wx w9.heap.size [.int .i64 t.s.id, .int .i64 t.s.kind, .slice la t.s.labels.length lc, .string t.s.nm, .string t.s.proc, .int .i64 t.s.x.op, .int .i64 t.s.x.n, .string t.s.x.nm, .slice ka t.s.x.ks.length kc, .bool t.s.has, .slice aa t.s.args.length ac, .slice ta t.s.thn.length tc, .slice ea t.s.els.length ec, .int .i64 t.proc, .int .i64 t.up, .int .i64 t.next, .int .i64 t.loop]) ⟨setCells_below _ _ (boxed w9 _) (Nat.le_refl _), box_over (old := [.int .i64 0, .int .i64 0, .slice none 0 0, .string ⟨#[]⟩, .string ⟨#[]⟩, .int .i64 0, .int .i64 0, .string ⟨#[]⟩, .slice none 0 0, .bool false, .slice none 0 0, .slice none 0 0, .slice none 0 0, .int .i64 0, .int .i64 0, .int .i64 0, .int .i64 0]) (xs := [.int .i64 t.s.id, .int .i64 t.s.kind, .slice la t.s.labels.length lc, .string t.s.nm, .string t.s.proc, .int .i64 t.s.x.op, .int .i64 t.s.x.n, .string t.s.x.nm, .slice ka t.s.x.ks.length kc, .bool t.s.has, .slice aa t.s.args.length ac, .slice ta t.s.thn.length tc, .slice ea t.s.els.length ec, .int .i64 t.proc, .int .i64 t.up, .int .i64 t.next, .int .i64 t.loop]) (rest := []) HI0.out HF0.out rfl⟩ ?_
      clear hzi HI0 HF0
      rintro wa ⟨hba, hta⟩
      have t0 := hta 0 _ rfl
      have t2 := hta 2 _ rfl
      have HHH := Lib.hid (HHA.out wa (cw_next hba))
      have HBA := Lib.hid (HB9.out.trans (hba.mono HB9.out.size))
      have HBQA := Lib.hid (HBQ.out.trans (hba.mono HBQ.out.size))
      clear hba hta
      go_wp2_with fail
      refine (contains_any t.s.labels _ s _ (StrC.to HHH.out.lab)).mono ?_
      rintro e w' ⟨rfl, rfl⟩
      obtain ⟨LB, hLB⟩ : ∃ b, Hid (inB s t.s.labels = b) := ⟨_, Lib.hid rfl⟩
      have hLB' : (at_ s t.s.labels).isSome = LB := hLB.out
      try rw [hLB']
      try rw [hLB.out]
      clear hLB'
      cases LB with
      | true =>
        have hans : bearP f s = (t.s.id, true) := by
          have hidx : (stsOf f)[q]? = some t.s := by rw [← HPART.out, List.getElem?_map, List.getElem?_eq_getElem hlq, ht.out]; rfl
          obtain ⟨h1, h2⟩ := List.getElem?_eq_some_iff.1 hidx
          rw [← h2]
          refine bear_at h1 (fun j hj hjq => ?_) (by rw [h2]; exact hLB.out)
          have h5 : (stsOf f)[j]? = some PT[j].s := by rw [← HPART.out, List.getElem?_map, List.getElem?_eq_getElem (by omega)]; rfl
          obtain ⟨h6, h7⟩ := List.getElem?_eq_some_iff.1 h5
          rw [h7]; exact HNQ.out j (by omega) hjq
        have h1 : R1 = t.s.id := by rw [← hR1.out, hans]
        have h2 : R2 = true := by rw [← hR2.out, hans]
        subst h1 h2
        clear hans
        go_wp2_with fail
        refine bodyPost_ret (v := .tuple #[.int .i64 t.s.id, .bool true]) (by simp [results, Try.results99, go_sem]) rfl ?_
        exact ⟨rfl, HBA.out⟩
      | false =>
        clear t0 t2
        go_wp2_with fail
        go_roundw
        case rel =>
          refine ⟨q + 1, by omega, by go_num, fun j hj hjk => ?_, HBQA.out⟩
          rcases Nat.lt_or_ge j q with h | h
          · exact HNQ.out j hj h
          · obtain rfl : j = q := by omega
            rw [ht.out]; exact hLB.out
        case measure => simp [intOf]; omega
    · have hlq' : ¬ (q : Int) < (PT.length : Int) := by omega
      have hans : bearP f s = if inB s f.fin then (-1, true) else (0, false) := bear_no fun j hj => by
        have hlen : (stsOf f).length = PT.length := by rw [← HPART.out, List.length_map]
        have h5 : (stsOf f)[j]? = some PT[j].s := by rw [← HPART.out, List.getElem?_map, List.getElem?_eq_getElem (by omega)]; rfl
        obtain ⟨h6, h7⟩ := List.getElem?_eq_some_iff.1 h5
        rw [h7]; exact HNQ.out j (by omega) (by omega)
      have HANS := Lib.hid hans
      have HP9 := Lib.hid (PrC.mono (cw_next HB9.out) HP.out)
      have y1 := (HST.out.sh.box.next HB9.out) 1 _ rfl
      obtain ⟨g, off, hvp, qv, vv, bv, fv, p0, p1, p2, p3, p4, hnm, hps, hvs, hbody, hfin⟩ := procs_at HP9.out.2 HI.out
      cases hvp
      have hil2 : (i : Int) < (p.procs.length : Int) := by have := HI.out; omega
      have h0i : (0 : Int) ≤ (i : Int) := by omega
      rw [hf.out] at hfin
      obtain ⟨a4, c4, rfl, -, -⟩ := hfin.form
      have e4 : w9.cell? ⟨g, off + i * 5 + 4, none⟩ = _ := p4
      have HFI := Lib.hid (StrC.to hfin)
      clear p0 p1 p2 p3 p4 hnm hps hvs hbody hfin hans
      go_wp2_with fail
      refine (contains_any f.fin _ s _ HFI.out).mono ?_
      rintro e w' ⟨rfl, rfl⟩
      obtain ⟨LB, hLB⟩ : ∃ b, Hid (inB s f.fin = b) := ⟨_, Lib.hid rfl⟩
      have hLB' : (at_ s f.fin).isSome = LB := hLB.out
      try rw [hLB']
      try rw [hLB.out]
      clear hLB'
      cases LB with
      | true =>
        have h1 : R1 = -1 := by rw [← hR1.out, HANS.out, hLB.out]; rfl
        have h2 : R2 = true := by rw [← hR2.out, HANS.out, hLB.out]; rfl
        subst h1 h2
        go_wp2_with fail
        refine bodyPost_ret (v := .tuple #[.int .i64 (-1), .bool true]) (by simp [results, Try.results99, go_sem]) rfl ?_
        exact ⟨rfl, HB9.out⟩
      | false =>
        have h1 : R1 = 0 := by rw [← hR1.out, HANS.out, hLB.out]; rfl
        have h2 : R2 = false := by rw [← hR2.out, HANS.out, hLB.out]; rfl
        subst h1 h2
        go_wp2_with fail
        refine bodyPost_ret (v := .tuple #[.int .i64 (0), .bool false]) (by simp [results, Try.results99, go_sem]) rfl ?_
        exact ⟨rfl, HB9.out⟩
/-- What sheet of jump tells. -/
def SheetTold (d : Nat) (p : Pr) (w : World) (e : Ending) (w' : World) : Prop := if (scopeP p).1 = 0 then ∃ Y, e = .returned (.pointer (some ⟨Y, 0, none⟩)) ∧ SheetAt d p w' Y ∧ Below w.heap.size w w' else e = .returned (.pointer none) ∧ Below w.heap.size w w'
set_option maxHeartbeats 4000000 in
set_option maxRecDepth 100000 in
theorem jsheet_any (d : Nat) (p : Pr) (gv pv : Value) (w : World) (hp : PrC (cw w) d gv pv p) (hroom : RoomP p) :
    Calls Try.prog 97 #[.agg #[gv, pv]] w (SheetTold d p w) := by
  have HROOM := Lib.hid hroom
  clear hroom
  obtain ⟨ga, gc, rfl, hgl1, hgl2⟩ := hp.1.form
  obtain ⟨pa, pc, rfl, hl1, hl2⟩ := hp.2.form
  have hpl : p.procs.length ≤ 9223372036854775807 := Nat.le_trans hl1 hl2
  have HP := Lib.hid hp
  clear hp hl1 hl2 hgl1 hgl2
  go_enter Try.func97, Try.ntmps97
  go_upto_region 1 with fail
  refine cut_world (fun wx => Below w.heap.size w wx ∧ BoxAt wx w.heap.size [.slice ga p.globals.length gc, .slice pa p.procs.length pc]) ⟨boxed _ _, box_new w #[.slice ga p.globals.length gc, .slice pa p.procs.length pc] 25⟩ ?_
  rintro w1 ⟨hb1, hx1⟩
  have HB1 := Lib.hid hb1
  have HX1 := Lib.hid hx1
  have HP1 := Lib.hid (PrC.mono (cw_next hb1) HP.out)
  clear hb1 hx1
  have x0 := HX1.out 0 _ rfl
  have x1 := HX1.out 1 _ rfl
  go_wp2_with fail
  refine (scheck_any d p _ _ _ HP1.out HROOM.out).mono ?_
  rintro e w2 ⟨rfl, hb2⟩
  obtain ⟨SC, hSC⟩ : ∃ r, Hid ((scopeP p).1 = r) := ⟨_, Lib.hid rfl⟩
  obtain ⟨SI, hSI⟩ : ∃ r, Hid ((scopeP p).2 = r) := ⟨_, Lib.hid rfl⟩
  rw [hSC.out, hSI.out]
  have hfd := run_code SC SI
  have HX2 := Lib.hid (HX1.out.next hb2)
  have HP2 := Lib.hid (PrC.mono (cw_next hb2) HP1.out)
  have HB2 := Lib.hid (HB1.out.trans (hb2.mono HB1.out.size))
  clear hb2 x0 x1
  by_cases hz : SC = 0
  · have hz1 : (SC == 0) = true := by simpa using hz
    have HZ := Lib.hid hz
    clear hz
    have x0 := HX2.out 0 _ rfl
    have x1 := HX2.out 1 _ rfl
    go_wp2_with fail
    refine (new_any d p _ _ _ HP2.out HROOM.out.cnt HROOM.out.procs).mono ?_
    rintro e w3 ⟨Y, lov, hiv, sv, rows, rfl, hsh, hb3⟩
    have HSH := Lib.hid hsh
    have HB3 := Lib.hid (HB2.out.trans (hb3.mono HB2.out.size))
    have HP3 := Lib.hid (PrC.mono (cw_next hb3) HP2.out)
    clear hsh hb3 x0 x1
    go_wp2_with fail
    go_ret
    unfold SheetTold
    rw [if_pos (hSC.out.trans HZ.out)]
    exact ⟨Y, rfl, ⟨_, _, _, _, _, _, _, HSH.out, HP3.out⟩, HB3.out⟩
  · have hz1 : (SC == 0) = false := by simpa using hz
    have HZ := Lib.hid hz
    clear hz
    go_wp2_with fail
    go_ret
    unfold SheetTold
    rw [if_neg (by rw [hSC.out]; exact HZ.out)]
    exact ⟨rfl, HB2.out⟩
end Go.Proofs.Ytghlmengcidmdaa.Tr
end
