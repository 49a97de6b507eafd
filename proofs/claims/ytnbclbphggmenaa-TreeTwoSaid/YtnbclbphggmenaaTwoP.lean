/- What is told of two expressions: may they be one, which names are in it; no program. What Deep of the reference computes. Conditions: the expression lies in memory. -/
import Derived.Test.YtnbclbphggmenaaBGath
import Derived.Test.YtnbclbphggmenaaBMay
import Derived.Test.YtnbclbphggmenaaEvalTwoW
namespace Go.Proofs.Ytnbclbphggmenaa.Tr
open Go.RowKit Go.Proofs.Ytnbclbphggmenaa.Lx Go.Proofs.Ytnbclbphggmenaa.Wd
theorem foldM_le {m l : Nat} (hlm : l ≤ m) (f : Ex → Nat) : ∀ (ks : List Ex) (d : Nat), ks.foldl (fun d k => if d < m + 1 then max d (f k) else d) d ≤ l ↔ d ≤ l ∧ ∀ k ∈ ks, f k ≤ l := by
  intro ks
  induction ks with
  | nil => intro d; simp
  | cons a r ih =>
    intro d
    rw [List.foldl_cons, ih]
    by_cases h : d < m + 1
    · rw [if_pos h]
      constructor
      · intro ⟨h1, h2⟩
        refine ⟨by omega, fun k hk => ?_⟩
        rcases List.mem_cons.1 hk with rfl | hk
        · omega
        · exact h2 k hk
      · intro ⟨h1, h2⟩
        have := h2 a (by simp)
        exact ⟨by omega, fun k hk => h2 k (by simp [hk])⟩
    · rw [if_neg h]
      constructor
      · intro ⟨h1, _⟩; omega
      · intro ⟨h1, _⟩; omega
theorem dE_low : ∀ (l m : Nat) (x : Ex), l ≤ m → (dE l x ≤ l ↔ dE m x ≤ l) := by
  intro l
  induction l with
  | zero =>
    intro m x _
    have h1 := dE_pos 0 x
    have h2 := dE_pos m x
    constructor <;> intro h <;> omega
  | succ l ih =>
    intro m x hlm
    obtain ⟨m, rfl⟩ : ∃ m', m = m' + 1 := ⟨m - 1, by omega⟩
    have h1 := foldM_le (Nat.le_refl l) (dE l) x.ks 0
    have h2 := foldM_le (show l ≤ m by omega) (dE m) x.ks 0
    rw [dE, dE]
    rw [Nat.add_le_add_iff_right, Nat.add_le_add_iff_right, h1, h2]
    constructor
    · intro ⟨_, h⟩; exact ⟨by omega, fun k hk => (ih m k (by omega)).1 (h k hk)⟩
    · intro ⟨_, h⟩; exact ⟨by omega, fun k hk => (ih m k (by omega)).2 (h k hk)⟩
theorem may_low {d : Nat} {x : Ex} (ht : tall d x.ks) (h : mayE 20 x = true) {l : Nat} (hl : l ≤ 20) : mayE l x = decide (dE 20 x ≤ l) := by
  have h1 := may_law 20 d x ht
  rw [h] at h1
  have h2 := may_law l d x ht
  have hf : formE d x = true := by simpa using (Bool.and_eq_true _ _ ▸ h1.symm).2
  rw [h2, hf, Bool.and_true]
  have := dE_low l 20 x hl
  by_cases hh : dE l x ≤ l
  · rw [decide_eq_true hh, decide_eq_true (this.1 hh)]
  · rw [decide_eq_false hh, decide_eq_false (fun h => hh (this.2 h))]
def twoX (op : Int) (x y : Ex) : Ex := .mk op 0 ⟨#[]⟩ [x, y]
def twoM (op : Int) (x y : Ex) : Bool := decide (5 ≤ op) && decide (op ≤ 17) && decide (max (dE 20 x) (dE 20 y) + 1 ≤ 20)
theorem may_two {op : Int} {x y : Ex} {dx dy : Nat} (hx : tall dx x.ks) (hy : tall dy y.ks) (mx : mayE 20 x = true) (my : mayE 20 y = true) : mayE 20 (twoX op x y) = twoM op x y := by
  rw [mayE_succ]
  have e1 := may_low hx mx (l := 19) (by omega)
  have e2 := may_low hy my (l := 19) (by omega)
  unfold twoX twoM
  simp only [Ex.ks, Ex.op, List.all_cons, List.all_nil, Bool.and_true, e1, e2]
  by_cases h1 : 5 ≤ op
  · by_cases h2 : op ≤ 17
    · have hk : kidsOf op = 2 := by unfold kidsOf; rw [if_neg (by omega), if_neg (by omega), if_pos ⟨h1, h2⟩]
      have hh : headE (.mk op 0 ⟨#[]⟩ [x, y]) = true := by
        have o1 : (Ex.mk op 0 ⟨#[]⟩ [x, y]).op ≠ 1 := by show op ≠ 1; omega
        have o2 : (Ex.mk op 0 ⟨#[]⟩ [x, y]).op ≠ 2 := by show op ≠ 2; omega
        unfold headE
        rw [if_neg o1, if_neg o2]
        show ((0 : Int) == 0 && noName ⟨#[]⟩) = true
        kernel_rfl
      rw [hk, hh, decide_eq_true h1, decide_eq_true h2]
      by_cases a : dE 20 x ≤ 19 <;> by_cases b : dE 20 y ≤ 19
      · rw [decide_eq_true a, decide_eq_true b, decide_eq_true (by omega)]; rfl
      · rw [decide_eq_true a, decide_eq_false b, decide_eq_false (by omega)]; rfl
      · rw [decide_eq_false a, decide_eq_false (show ¬ max (dE 20 x) (dE 20 y) + 1 ≤ 20 by omega)]; simp
      · rw [decide_eq_false a, decide_eq_false (show ¬ max (dE 20 x) (dE 20 y) + 1 ≤ 20 by omega)]; simp
    · have hk : ((([x, y] : List Ex).length : Int) == kidsOf op) = false := by
        unfold kidsOf
        rw [if_neg (by omega), if_neg (by omega), if_neg (by omega)]
        rfl
      rw [hk, decide_eq_false h2]
      simp
  · have hk : ((([x, y] : List Ex).length : Int) == kidsOf op) = false := by
      unfold kidsOf
      split
      · rfl
      · split
        · rfl
        · rw [if_neg (by omega)]; rfl
    rw [hk, decide_eq_false h1]
    simp
/-- The names as they are met. -/
def seqE : Nat → Ex → List ByteArray
  | 0, _ => []
  | m + 1, x => (if x.op = 2 then [x.nm] else []) ++ (x.ks.map (seqE m)).flatten
def addAll (l q : List ByteArray) : List ByteArray := q.foldl (fun l s => addN s l) l
theorem addAll_app (l a b : List ByteArray) : addAll l (a ++ b) = addAll (addAll l a) b := by unfold addAll; rw [List.foldl_append]
theorem namesE_seq : ∀ (m : Nat) (x : Ex) (l : List ByteArray), namesE m x l = addAll l (seqE m x) := by
  intro m
  induction m with
  | zero => intro x l; rfl
  | succ m ih =>
    intro x l
    rw [namesE_succ, seqE, addAll_app]
    have e : ownN x l = addAll l (if x.op = 2 then [x.nm] else []) := by
      unfold ownN
      split <;> rfl
    rw [e]
    generalize addAll l (if x.op = 2 then [x.nm] else []) = l0
    generalize x.ks = ks
    induction ks generalizing l0 with
    | nil => rfl
    | cons a r ihr =>
      rw [List.foldl_cons, List.map_cons, List.flatten_cons, addAll_app, ih, ihr]
theorem addN_mem {s : ByteArray} {l : List ByteArray} : s ∈ addN s l := by
  unfold addN
  split
  · simp
  · rename_i h
    unfold at_ at h
    rw [List.findIdx?_eq_none_iff] at h
    apply Classical.byContradiction
    intro hs
    apply h
    intro x hx
    cases he : s.toList == x.toList with
    | false => rfl
    | true => rw [eq_text] at he; subst he; exact absurd hx hs
theorem addN_old {s : ByteArray} {l : List ByteArray} (h : s ∈ l) : addN s l = l := by
  unfold addN
  rw [if_neg]
  intro hn
  unfold at_ at hn
  rw [List.findIdx?_eq_none_iff] at hn
  have := hn s h
  rw [(eq_text s s).2 rfl] at this
  cases this
theorem addN_new {s : ByteArray} {l : List ByteArray} (h : s ∉ l) : addN s l = l ++ [s] := by
  unfold addN
  rw [if_pos]
  unfold at_
  rw [List.findIdx?_eq_none_iff]
  intro x hx
  cases he : s.toList == x.toList with
  | false => rfl
  | true => rw [eq_text] at he; subst he; exact absurd hx h
theorem addN_keep {s t : ByteArray} {l : List ByteArray} (h : t ∈ l) : t ∈ addN s l := by
  unfold addN
  split
  · simp [h]
  · exact h
theorem addAll_keep {t : ByteArray} : ∀ (q l : List ByteArray), t ∈ l → t ∈ addAll l q := by
  intro q
  induction q with
  | nil => intro l h; exact h
  | cons s r ih => intro l h; exact ih _ (addN_keep h)
theorem addAll_mem {t : ByteArray} : ∀ (q l : List ByteArray), t ∈ q → t ∈ addAll l q := by
  intro q
  induction q with
  | nil => intro l h; cases h
  | cons s r ih =>
    intro l h
    rcases List.mem_cons.1 h with rfl | h
    · exact addAll_keep r _ addN_mem
    · exact ih _ h
theorem addAll_snoc (l q : List ByteArray) (s : ByteArray) : addAll l (q ++ [s]) = addN s (addAll l q) := by rw [addAll_app]; rfl
theorem mem_addAll {t : ByteArray} : ∀ (q l : List ByteArray), t ∈ addAll l q → t ∈ l ∨ t ∈ q := by
  intro q
  induction q with
  | nil => intro l h; exact .inl h
  | cons s r ih =>
    intro l h
    rcases ih (addN s l) h with h | h
    · by_cases hs : s ∈ l
      · rw [addN_old hs] at h; exact .inl h
      · rw [addN_new hs] at h
        rcases List.mem_append.1 h with h | h
        · exact .inl h
        · simp at h; right; simp [h]
    · right; simp [h]
/-- To add what was gathered is to add what it was gathered of. -/
theorem addAll_gathered (l : List ByteArray) (q : List ByteArray) : addAll l (addAll [] q) = addAll l q := by
  suffices H : ∀ n (q : List ByteArray), q.length = n → addAll l (addAll [] q) = addAll l q from H _ q rfl
  intro n
  induction n with
  | zero => intro q hq; rw [List.eq_nil_of_length_eq_zero hq]; rfl
  | succ n ih =>
    intro q hq
    obtain ⟨r, s, rfl⟩ : ∃ r s, q = r ++ [s] := by
      have hne : q ≠ [] := by intro h; rw [h] at hq; cases hq
      exact ⟨q.dropLast, q.getLast hne, (List.dropLast_concat_getLast hne).symm⟩
    have hr : r.length = n := by simp at hq; exact hq
    rw [addAll_snoc, addAll_snoc]
    by_cases hs : s ∈ addAll [] r
    · rw [addN_old hs, ih r hr]
      have : s ∈ r := by rcases mem_addAll r [] hs with h | h; cases h; exact h
      rw [addN_old (addAll_mem r l this)]
    · rw [addN_new hs, addAll_snoc, ih r hr]
theorem namesE_up : ∀ (m : Nat) (x : Ex) (l : List ByteArray), mayE m x = true → namesE (m + 1) x l = namesE m x l := by
  intro m
  induction m with
  | zero => intro x l h; cases h
  | succ m ih =>
    intro x l h
    rw [mayE_succ] at h
    simp only [Bool.and_eq_true, List.all_eq_true] at h
    rw [namesE_succ (m + 1), namesE_succ m]
    have hk := h.2
    generalize ownN x l = l0
    generalize x.ks = ks at hk
    clear h
    induction ks generalizing l0 with
    | nil => rfl
    | cons a r ihr =>
      rw [List.foldl_cons, List.foldl_cons, ih a _ (hk a (by simp))]
      exact ihr _ fun k h => hk k (by simp [h])
theorem names_two {op : Int} {x y : Ex} {dx dy : Nat} (hx : tall dx x.ks) (hy : tall dy y.ks) (mx : mayE 20 x = true) (my : mayE 20 y = true) (hb : mayE 20 (twoX op x y) = true) : addAll (namesOf x) (namesOf y) = namesOf (twoX op x y) := by
  rw [may_two hx hy mx my] at hb
  have hb' := hb
  unfold twoM at hb
  simp only [Bool.and_eq_true, decide_eq_true_eq] at hb
  have e1 : mayE 19 x = true := by rw [may_low hx mx (by omega)]; exact decide_eq_true (by omega)
  have e2 : mayE 19 y = true := by rw [may_low hy my (by omega)]; exact decide_eq_true (by omega)
  unfold namesOf
  rw [may_two hx hy mx my, hb', mx, my, if_pos rfl, if_pos rfl, if_pos rfl]
  rw [namesE_succ 19 (twoX op x y)]
  have hown : ownN (twoX op x y) [] = [] := by
    have o2 : (twoX op x y).op ≠ 2 := by show op ≠ 2; omega
    unfold ownN
    rw [if_neg o2]
  rw [hown]
  unfold twoX
  simp only [Ex.ks, List.foldl_cons, List.foldl_nil]
  rw [← namesE_up 19 x [] e1, ← namesE_up 19 y _ e2, namesE_seq 20 y (namesE 20 x []), namesE_seq 20 y [], addAll_gathered]
set_option maxHeartbeats 1000000 in
theorem deepX_any (d : Nat) (x : Ex) (kv : Value) (w : World) (hok : OkE x) (hk : ExK d w kv x.ks) :
    Calls Try.prog 37 #[exV x kv] w fun e w' => e = .returned (.int .i64 (dE 20 x)) ∧ Below w.heap.size w w' := by
  obtain ⟨a, cap, rfl, -, -⟩ := hk.form
  have hbox := boxed w (.cells #[.int .i64 x.op, .int .i64 x.n, .string x.nm, .slice a x.ks.length cap] 24)
  have HBOX := Lib.hid hbox
  have HK1 := Lib.hid (hk.next hbox)
  have HOK := Lib.hid hok
  clear hbox hk hok
  unfold exV
  go_enter Try.func37, Try.ntmps37
  go_wp2_with fail
  refine (rdeep_any 20 d x _ _ (by omega) HOK.out HK1.out).mono ?_
  rintro e w1 ⟨rfl, hb⟩
  have HB := Lib.hid (HBOX.out.trans (hb.mono HBOX.out.size))
  clear hb
  go_wp2_with fail
  go_ret
  exact ⟨rfl, HB.out⟩
/-- Two rows lie apart. -/
def Apart (v u : Value) : Prop := ∀ g, v.ownBlock = some g → u.ownBlock ≠ some g
theorem RowS.far {B : Nat} {w w' : World} {v : Value} {l : List ByteArray} {row : Option Nat} (h : RowS B w v l) (hg : w.grownBy w' row) (hr : ∀ g, row = some g → v.ownBlock ≠ some g) : RowS B w' v l := by
  refine ⟨⟨h.1.1, ?_⟩, h.2⟩
  rcases h.1.2 with h2 | ⟨g, cap, cur, h1, h2, h3, h4⟩
  · exact .inl h2
  · refine .inr ⟨g, cap, cur, h1, h2, ?_, h4⟩
    have hlt : g < w.heap.size := by
      rcases Nat.lt_or_ge g w.heap.size with hlt | hge
      · exact hlt
      · rw [Array.getElem?_eq_none hge] at h3; cases h3
    rw [hg.block g hlt (fun e => hr g e.symm (by rw [h1]; rfl))]; exact h3
theorem RowS.after {B' : Nat} {w : World} {v u : Value} {m : List ByteArray} (hu : RowS B' w u m) (hlt : ∀ g, v.ownBlock = some g → g < B') : Apart v u := fun g hg e => by
  have h1 := (hu.lt g e).1
  have h2 := hlt g hg
  omega
theorem Apart.comm {v u : Value} (h : Apart v u) : Apart u v := fun g hg e => h g e hg
end Go.Proofs.Ytnbclbphggmenaa.Tr
