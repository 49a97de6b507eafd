/- Plain laws: a number in a name's place. No program. Conditions: none. -/
import Derived.Test.YtnbclbphggmenaaSubstE
import Derived.Test.YtnbclbphggmenaaGathP
namespace Go.Proofs.Ytnbclbphggmenaa.Tr
open Go.RowKit Go.Proofs.Ytnbclbphggmenaa.Lx Go.Proofs.Ytnbclbphggmenaa.Wd
theorem subE_hit {s : ByteArray} {n : Int} {x : Ex} (h : (x.op == 2 && (x.nm.toList == s.toList)) = true) : subE s n x = .mk 1 n ⟨#[]⟩ [] := by rw [subE_eq, h]; rfl
theorem at_cons (s t : ByteArray) (ns : List ByteArray) : at_ s (t :: ns) = if (s.toList == t.toList) = true then some 0 else (at_ s ns).map (· + 1) := by
  unfold at_
  rw [List.findIdx?_cons]
theorem look_hit (s : ByteArray) (n : Int) (ns : List ByteArray) (vs : List Int) : look s (s :: ns) (n :: vs) = n := by
  unfold look
  rw [at_cons, if_pos ((eq_text s s).2 rfl)]
  rfl
theorem look_miss {s t : ByteArray} (h : (t.toList == s.toList) = false) (n : Int) (ns : List ByteArray) (vs : List Int) : look t (s :: ns) (n :: vs) = look t ns vs := by
  unfold look
  rw [at_cons, if_neg (by rw [h]; simp)]
  cases at_ t ns <;> rfl
theorem eval_sub (s : ByteArray) (n : Int) (ns : List ByteArray) (vs : List Int) : ∀ (l : Nat) (x : Ex), evalE l (subE s n x) ns vs = evalE l x (s :: ns) (n :: vs) := by
  intro l
  induction l with
  | zero => intro x; rfl
  | succ l ih =>
    intro x
    cases h : (x.op == 2 && (x.nm.toList == s.toList)) with
    | true =>
      obtain ⟨h1, h2⟩ := (Bool.and_eq_true _ _).mp h
      have o2 : x.op = 2 := by simpa using h1
      have e : x.nm = s := (eq_text _ _).1 h2
      rw [subE_hit h, ev_name o2, ev_num (x := .mk 1 n ⟨#[]⟩ []) rfl, e, look_hit]
      rfl
    | false =>
      by_cases o1 : x.op = 1
      · rw [ev_num o1, ev_num (by rw [subE_op h]; exact o1), subE_n h]
      by_cases o2 : x.op = 2
      · have h2 : (x.nm.toList == s.toList) = false := by rw [o2] at h; simpa using h
        rw [ev_name o2, ev_name (by rw [subE_op h]; exact o2), subE_nm h, look_miss h2]
      have p1 : (subE s n x).op ≠ 1 := by rw [subE_op h]; exact o1
      have p2 : (subE s n x).op ≠ 2 := by rw [subE_op h]; exact o2
      match hk : x.ks with
      | [a] => rw [ev_one o1 o2 hk, ev_one p1 p2 (by rw [subE_ks h, hk]; rfl), ih, subE_op h]
      | [a, b] => rw [ev_two o1 o2 hk, ev_two p1 p2 (by rw [subE_ks h, hk]; rfl), ih, ih, subE_op h]
      | [] => rw [evalE, evalE, if_neg o1, if_neg o2, if_neg p1, if_neg p2, subE_ks h, hk]; rfl
      | a :: b :: c :: r => rw [evalE, evalE, if_neg o1, if_neg o2, if_neg p1, if_neg p2, subE_ks h, hk]; rfl
theorem may_sub (s : ByteArray) (n : Int) (hn : 0 ≤ n) : ∀ (l : Nat) (x : Ex), mayE l x = true → mayE l (subE s n x) = true := by
  intro l
  induction l with
  | zero => intro x h; exact h
  | succ l ih =>
    intro x h
    obtain ⟨q1, q2, q3⟩ := may_parts h
    cases hh : (x.op == 2 && (x.nm.toList == s.toList)) with
    | true =>
      rw [subE_hit hh, mayE_succ]
      have : headE (.mk 1 n ⟨#[]⟩ []) = true := by
        unfold headE
        rw [if_pos (show (Ex.mk 1 n ⟨#[]⟩ []).op = 1 from rfl), Bool.and_eq_true]
        exact ⟨decide_eq_true hn, by unfold noName; rw [show (Ex.mk 1 n ⟨#[]⟩ []).nm = ⟨#[]⟩ from rfl, ByteArray.toList_mk]; rfl⟩
      rw [this]
      rfl
    | false =>
      rw [mayE_succ, Bool.and_eq_true, Bool.and_eq_true, List.all_eq_true]
      refine ⟨⟨?_, ?_⟩, ?_⟩
      · rw [subE_ks hh, subE_op hh]; simpa using q1
      · unfold headE at q2 ⊢
        rw [subE_op hh, subE_n hh, subE_nm hh]
        exact q2
      · intro k hk
        rw [subE_ks hh] at hk
        obtain ⟨j, hj, rfl⟩ := List.mem_map.1 hk
        exact ih j (q3 j hj)
theorem at_none_iff {s : ByteArray} {l : List ByteArray} : at_ s l = none ↔ s ∉ l := by
  unfold at_
  rw [List.findIdx?_eq_none_iff]
  refine ⟨fun h hm => ?_, fun h m hm => ?_⟩
  · have := h s hm
    rw [(eq_text s s).2 rfl] at this; cases this
  · cases hq : (s.toList == m.toList) with
    | false => rfl
    | true => rw [eq_text] at hq; subst hq; exact absurd hm h
theorem mem_add {t s : ByteArray} {l : List ByteArray} : t ∈ addN s l ↔ t = s ∨ t ∈ l := by
  unfold addN
  split
  · simp [or_comm]
  · rename_i h
    rw [at_none_iff, Classical.not_not] at h
    refine ⟨.inr, fun q => ?_⟩
    rcases q with rfl | q
    · exact h
    · exact q
theorem fold_mem {α : Type} (f : List ByteArray → α → List ByteArray) (s : ByteArray) : ∀ (ks : List α) (l : List ByteArray), (∀ k ∈ ks, ∀ l, s ∈ f l k → s ∈ l) → s ∈ ks.foldl f l → s ∈ l := by
  intro ks
  induction ks with
  | nil => intro l _ h; exact h
  | cons k ks ih =>
    intro l h hm
    exact h k (by simp) l (ih (f l k) (fun k hk => h k (by simp [hk])) hm)
/-- The name that is gone is gone. -/
theorem names_sub (s : ByteArray) (n : Int) : ∀ (m : Nat) (x : Ex) (l : List ByteArray), s ∈ namesE m (subE s n x) l → s ∈ l := by
  intro m
  induction m with
  | zero => intro x l h; exact h
  | succ m ih =>
    intro x l h
    rw [namesE_succ] at h
    cases hh : (x.op == 2 && (x.nm.toList == s.toList)) with
    | true => rw [subE_hit hh] at h; exact h
    | false =>
      rw [subE_ks hh] at h
      have h2 := fold_mem _ s _ _ (fun k hk l hl => by
        obtain ⟨j, hj, rfl⟩ := List.mem_map.1 hk
        exact ih j l hl) h
      unfold ownN at h2
      rw [subE_op hh, subE_nm hh] at h2
      split at h2
      · rename_i ho
        rcases mem_add.1 h2 with h3 | h3
        · rw [ho, ← h3] at hh
          simp at hh
        · exact h3
      · exact h2
theorem sub_law {s : ByteArray} {n : Int} (hn : 0 ≤ n) {x : Ex} (h : mayE 20 x = true) (ns : List ByteArray) (vs : List Int) :
    mayE 20 (subE s n x) = true ∧ (if mayE 20 (subE s n x) then evalE 20 (subE s n x) ns vs else (0, false)) = (if mayE 20 x then evalE 20 x (s :: ns) (n :: vs) else (0, false)) ∧ at_ s (namesE 20 (subE s n x) []) = none := by
  have h1 := may_sub s n hn 20 x h
  refine ⟨h1, ?_, ?_⟩
  · rw [if_pos h, if_pos h1, eval_sub]
  · rw [at_none_iff]
    exact fun hm => by cases names_sub s n 20 x [] hm
end Go.Proofs.Ytnbclbphggmenaa.Tr
