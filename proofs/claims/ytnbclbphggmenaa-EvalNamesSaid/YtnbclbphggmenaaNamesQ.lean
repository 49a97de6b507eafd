/- Plain laws: what an expression is worth hangs on the values of its own names. No program. Conditions: none. -/
import Derived.Test.YtnbclbphggmenaaSubstQ
namespace Go.Proofs.Ytnbclbphggmenaa.Tr
open Go.RowKit Go.Proofs.Ytnbclbphggmenaa.Lx Go.Proofs.Ytnbclbphggmenaa.Wd
/-- Does a name stand in an expression? -/
def occE : Nat → Ex → ByteArray → Prop
  | 0, _, _ => False
  | m + 1, x, s => (x.op = 2 ∧ x.nm = s) ∨ ∃ k ∈ x.ks, occE m k s
theorem eval_ext {ns ns' : List ByteArray} {vs vs' : List Int} : ∀ (m : Nat) (x : Ex), (∀ s, occE m x s → look s ns vs = look s ns' vs') → evalE m x ns vs = evalE m x ns' vs' := by
  intro m
  induction m with
  | zero => intro x _; rfl
  | succ m ih =>
    intro x h
    by_cases o1 : x.op = 1
    · rw [ev_num o1, ev_num o1]
    by_cases o2 : x.op = 2
    · rw [ev_name o2, ev_name o2, h x.nm (.inl ⟨o2, rfl⟩)]
    match hk : x.ks with
    | [a] => rw [ev_one o1 o2 hk, ev_one o1 o2 hk, ih a fun s hs => h s (.inr ⟨a, by rw [hk]; simp, hs⟩)]
    | [a, b] => rw [ev_two o1 o2 hk, ev_two o1 o2 hk, ih a fun s hs => h s (.inr ⟨a, by rw [hk]; simp, hs⟩), ih b fun s hs => h s (.inr ⟨b, by rw [hk]; simp, hs⟩)]
    | [] => rw [evalE, evalE, if_neg o1, if_neg o2, if_neg o1, if_neg o2, hk]
    | a :: b :: c :: r => rw [evalE, evalE, if_neg o1, if_neg o2, if_neg o1, if_neg o2, hk]
theorem fold_keep {α : Type} (f : List ByteArray → α → List ByteArray) (s : ByteArray) : ∀ (ks : List α) (l : List ByteArray), (∀ k ∈ ks, ∀ l, s ∈ l → s ∈ f l k) → s ∈ l → s ∈ ks.foldl f l := by
  intro ks
  induction ks with
  | nil => intro l _ h; exact h
  | cons k ks ih =>
    intro l h hm
    exact ih (f l k) (fun k hk => h k (by simp [hk])) (h k (by simp) l hm)
theorem names_keep (s : ByteArray) : ∀ (m : Nat) (x : Ex) (l : List ByteArray), s ∈ l → s ∈ namesE m x l := by
  intro m
  induction m with
  | zero => intro x l h; exact h
  | succ m ih =>
    intro x l h
    rw [namesE_succ]
    refine fold_keep _ s _ _ (fun k _ l hl => ih k l hl) ?_
    unfold ownN
    split
    · exact mem_add.2 (.inr h)
    · exact h
theorem fold_has {α : Type} (f : List ByteArray → α → List ByteArray) (s : ByteArray) (k : α) (hk : ∀ l, s ∈ f l k) (h : ∀ k l, s ∈ l → s ∈ f l k) : ∀ (ks : List α) (l : List ByteArray), k ∈ ks → s ∈ ks.foldl f l := by
  intro ks
  induction ks with
  | nil => intro l h; cases h
  | cons j ks ih =>
    intro l hm
    rcases List.mem_cons.1 hm with rfl | hm
    · exact fold_keep f s ks _ (fun k _ l => h k l) (hk l)
    · exact ih _ hm
theorem occ_names (s : ByteArray) : ∀ (m : Nat) (x : Ex) (l : List ByteArray), occE m x s → s ∈ namesE m x l := by
  intro m
  induction m with
  | zero => intro x l h; exact h.elim
  | succ m ih =>
    intro x l h
    rw [namesE_succ]
    rcases h with ⟨h1, h2⟩ | ⟨k, hk, h⟩
    · refine fold_keep _ s _ _ (fun k _ l hl => names_keep s m k l hl) ?_
      unfold ownN
      rw [if_pos h1, h2]
      exact mem_add.2 (.inl rfl)
    · exact fold_has _ s k (fun l => ih k l h) (fun k l hl => names_keep s m k l hl) _ _ hk
theorem look_more {s : ByteArray} {L r : List ByteArray} {vs zs os : List Int} (hs : s ∈ L) (hl : (vs ++ zs).length = L.length) (hz : ∀ z ∈ zs, z = 0) : look s L vs = look s (L ++ r) (vs ++ zs ++ os) := by
  unfold look
  cases h : at_ s L with
  | none => exact absurd hs (at_none_iff.1 h)
  | some i =>
    have hi := at_lt h
    have h2 : at_ s (L ++ r) = some i := by
      unfold at_ at h ⊢
      rw [List.findIdx?_append, h]
      rfl
    rw [h2]
    show vs.getD i 0 = (vs ++ zs ++ os).getD i 0
    rw [List.getD_eq_getElem?_getD, List.getD_eq_getElem?_getD, List.getElem?_append_left (by omega)]
    rcases Nat.lt_or_ge i vs.length with h3 | h3
    · rw [List.getElem?_append_left h3]
    · rw [List.getElem?_append_right h3, List.getElem?_eq_none h3]
      cases hq : zs[i - vs.length]? with
      | none => rfl
      | some z =>
        have := hz z (List.mem_of_getElem? hq)
        rw [this]; rfl
theorem names_law {x : Ex} (h : mayE 20 x = true) {L r : List ByteArray} {vs zs os : List Int} (hL : namesE 20 x [] = L) (hl : (vs ++ zs).length = L.length) (hz : ∀ z ∈ zs, z = 0) :
    (if mayE 20 x then evalE 20 x (L ++ r) (vs ++ zs ++ os) else (0, false)) = (if mayE 20 x then evalE 20 x L vs else (0, false)) := by
  rw [if_pos h, if_pos h]
  refine (eval_ext 20 x fun s hs => look_more ?_ hl hz).symm
  rw [← hL]
  exact occ_names s 20 x [] hs
end Go.Proofs.Ytnbclbphggmenaa.Tr
