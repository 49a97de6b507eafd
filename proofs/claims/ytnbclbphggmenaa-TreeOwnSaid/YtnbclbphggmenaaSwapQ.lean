/- Plain laws: an expression with two names changed for each other is worth the same. No program. Conditions: none. -/
import Derived.Test.YtnbclbphggmenaaBSwap
namespace Go.Proofs.Ytnbclbphggmenaa.Tr
open Go.RowKit Go.Proofs.Ytnbclbphggmenaa.Lx Go.Proofs.Ytnbclbphggmenaa.Wd
theorem toList_inj {s t : ByteArray} (h : s.toList = t.toList) : s = t := by
  cases s with
  | mk a =>
    cases t with
    | mk b =>
      rw [ByteArray.toList_mk, ByteArray.toList_mk] at h
      rw [Array.toList_inj.1 h]
theorem eq_text (s t : ByteArray) : (s.toList == t.toList) = true ↔ s = t := by
  rw [beq_iff_eq]
  exact ⟨toList_inj, fun h => by rw [h]⟩
theorem other_eq (a b s : ByteArray) : other a b s = if s = a then b else if s = b then a else s := by
  unfold other
  simp only [eq_text]
theorem other_back (a b s : ByteArray) : other a b (other a b s) = s := by
  rw [other_eq, other_eq]
  by_cases h1 : s = a
  · subst h1
    rw [if_pos rfl]
    by_cases h2 : b = s
    · rw [if_pos h2, h2]
    · rw [if_neg h2, if_pos rfl]
  · rw [if_neg h1]
    by_cases h2 : s = b
    · subst h2
      rw [if_pos rfl, if_pos rfl]
    · rw [if_neg h2, if_neg h1, if_neg h2]
theorem other_inj (a b s t : ByteArray) : ((other a b s).toList == (other a b t).toList) = (s.toList == t.toList) := by
  rw [Bool.eq_iff_iff, eq_text, eq_text]
  exact ⟨fun h => by rw [← other_back a b s, h, other_back], fun h => by rw [h]⟩
theorem at_map {f : ByteArray → ByteArray} (hf : ∀ s t, ((f s).toList == (f t).toList) = (s.toList == t.toList)) (s : ByteArray) (ns : List ByteArray) : at_ (f s) (ns.map f) = at_ s ns := by
  unfold at_
  rw [List.findIdx?_map]
  congr 1
  funext m
  exact hf s m
theorem look_map {f : ByteArray → ByteArray} (hf : ∀ s t, ((f s).toList == (f t).toList) = (s.toList == t.toList)) (s : ByteArray) (ns : List ByteArray) (vs : List Int) : look (f s) (ns.map f) vs = look s ns vs := by
  unfold look
  rw [at_map hf]
theorem eval_map {f : ByteArray → ByteArray} (hf : ∀ s t, ((f s).toList == (f t).toList) = (s.toList == t.toList)) (ns : List ByteArray) (vs : List Int) : ∀ (l : Nat) (x : Ex), evalE l (mapE f x) (ns.map f) vs = evalE l x ns vs := by
  intro l
  induction l with
  | zero => intro x; rfl
  | succ l ih =>
    intro x
    by_cases o1 : x.op = 1
    · rw [ev_num o1, ev_num (by rw [mapE_op]; exact o1), mapE_n]
    by_cases o2 : x.op = 2
    · rw [ev_name o2, ev_name (by rw [mapE_op]; exact o2), mapE_nm, look_map hf]
    have p1 : (mapE f x).op ≠ 1 := by rw [mapE_op]; exact o1
    have p2 : (mapE f x).op ≠ 2 := by rw [mapE_op]; exact o2
    match hk : x.ks with
    | [a] => rw [ev_one o1 o2 hk, ev_one p1 p2 (by rw [mapE_ks, hk]; rfl), ih, mapE_op]
    | [a, b] => rw [ev_two o1 o2 hk, ev_two p1 p2 (by rw [mapE_ks, hk]; rfl), ih, ih, mapE_op]
    | [] => rw [evalE, evalE, if_neg o1, if_neg o2, if_neg p1, if_neg p2, mapE_ks, hk]; rfl
    | a :: b :: c :: r => rw [evalE, evalE, if_neg o1, if_neg o2, if_neg p1, if_neg p2, mapE_ks, hk]; rfl
theorem may_map {f : ByteArray → ByteArray} (h0 : ∀ s, noName s = true → noName (f s) = true) (h1 : ∀ s, isName (bl s) = true → isName (bl (f s)) = true) : ∀ (l : Nat) (x : Ex), mayE l x = true → mayE l (mapE f x) = true := by
  intro l
  induction l with
  | zero => intro x h; exact h
  | succ l ih =>
    intro x h
    obtain ⟨q1, q2, q3⟩ := may_parts h
    rw [mayE_succ, Bool.and_eq_true, Bool.and_eq_true, List.all_eq_true]
    refine ⟨⟨?_, ?_⟩, ?_⟩
    · rw [mapE_ks, mapE_op]; simpa using q1
    · unfold headE at q2 ⊢
      rw [mapE_op, mapE_n, mapE_nm]
      split
      · rename_i h; rw [if_pos h, Bool.and_eq_true] at q2; rw [Bool.and_eq_true]; exact ⟨q2.1, h0 _ q2.2⟩
      · rename_i h
        rw [if_neg h] at q2
        split
        · rename_i h; rw [if_pos h, Bool.and_eq_true] at q2; rw [Bool.and_eq_true]; exact ⟨q2.1, h1 _ q2.2⟩
        · rename_i h; rw [if_neg h, Bool.and_eq_true] at q2; rw [Bool.and_eq_true]; exact ⟨q2.1, h0 _ q2.2⟩
    · intro k hk
      rw [mapE_ks] at hk
      obtain ⟨j, hj, rfl⟩ := List.mem_map.1 hk
      exact ih j (q3 j hj)
/-- A name is an expression. -/
theorem may_name {l : Nat} {a : ByteArray} (h : mayE (l + 1) (.mk 2 0 a []) = true) : isName (bl a) = true := by
  obtain ⟨_, h2, _⟩ := may_parts h
  simpa [headE, Ex.op, Ex.n, Ex.nm] using h2
theorem bl_list (a : ByteArray) : bl a = a.toList := by cases a; exact (ByteArray.toList_mk _).symm
theorem name_some {a : ByteArray} (h : isName (bl a) = true) : noName a = false := by
  unfold noName
  cases hh : a.toList with
  | nil => rw [bl_list, hh] at h; exact absurd h (by decide)
  | cons _ _ => rfl
theorem may_other {a b : ByteArray} (ha : isName (bl a) = true) (hb : isName (bl b) = true) {l : Nat} {x : Ex} (h : mayE l x = true) : mayE l (mapE (other a b) x) = true := by
  refine may_map (fun s hs => ?_) (fun s hs => ?_) l x h
  · rw [other_eq, if_neg (fun e => by rw [e, name_some ha] at hs; cases hs), if_neg (fun e => by rw [e, name_some hb] at hs; cases hs)]
    exact hs
  · rw [other_eq]
    split
    · exact hb
    · split
      · exact ha
      · exact hs
theorem swap_law {a b : ByteArray} (ha : mayE 20 (.mk 2 0 a []) = true) (hb : mayE 20 (.mk 2 0 b []) = true) {x : Ex} (h : mayE 20 x = true) (ns : List ByteArray) (vs : List Int) :
    (if mayE 20 (mapE (other a b) x) then evalE 20 (mapE (other a b) x) (ns.map (other a b)) vs else (0, false)) = (if mayE 20 x then evalE 20 x ns vs else (0, false)) := by
  rw [if_pos h, if_pos (may_other (may_name ha) (may_name hb) h), eval_map (other_inj a b)]
end Go.Proofs.Ytnbclbphggmenaa.Tr
