/- Plain laws: the names of an expression. No program. Conditions: none. -/
import Derived.Test.YtnbclbphggmenaaSwapQ
namespace Go.Proofs.Ytnbclbphggmenaa.Tr
open Go.RowKit Go.Proofs.Ytnbclbphggmenaa.Lx Go.Proofs.Ytnbclbphggmenaa.Wd
/-- A name more, if it is not there. -/
def addN (s : ByteArray) (l : List ByteArray) : List ByteArray := if at_ s l = none then l ++ [s] else l
/-- The expression's own name, if it is one. -/
def ownN (x : Ex) (l : List ByteArray) : List ByteArray := if x.op = 2 then addN x.nm l else l
/-- The names of an expression, behind others. -/
def namesE : Nat → Ex → List ByteArray → List ByteArray
  | 0, _, l => l
  | m + 1, x, l => x.ks.foldl (fun l k => namesE m k l) (ownN x l)
theorem namesE_succ (m : Nat) (x : Ex) (l : List ByteArray) : namesE (m + 1) x l = x.ks.foldl (fun l k => namesE m k l) (ownN x l) := rfl
theorem own_len (x : Ex) (l : List ByteArray) : (ownN x l).length ≤ l.length + 1 := by
  unfold ownN addN
  split
  · split <;> simp
  · omega
theorem fold_len (m : Nat) (hm : ∀ x l, mayE m x = true → (namesE m x l).length + 1 ≤ l.length + 2 ^ m) : ∀ (ks : List Ex) (l : List ByteArray), (∀ k ∈ ks, mayE m k = true) → (ks.foldl (fun l k => namesE m k l) l).length + ks.length ≤ l.length + ks.length * 2 ^ m := by
  intro ks
  induction ks with
  | nil => intro l _; simp
  | cons k ks ih =>
    intro l h
    have h1 := hm k l (h k (by simp))
    have h2 := ih (namesE m k l) fun k hk => h k (by simp [hk])
    rw [List.foldl_cons, List.length_cons, Nat.succ_mul]
    omega
theorem kids_le (op : Int) : kidsOf op ≤ 2 := by unfold kidsOf; split; omega; split; omega; split <;> omega
theorem names_len : ∀ (m : Nat) (x : Ex) (l : List ByteArray), mayE m x = true → (namesE m x l).length + 1 ≤ l.length + 2 ^ m := by
  intro m
  induction m with
  | zero => intro x l h; cases h
  | succ m ih =>
    intro x l h
    obtain ⟨h1, _, h3⟩ := may_parts h
    rw [namesE_succ]
    have h4 := fold_len m ih x.ks (ownN x l) h3
    have h5 : 1 ≤ 2 ^ m := Nat.one_le_two_pow
    have hp : 2 ^ (m + 1) = 2 * 2 ^ m := by rw [Nat.pow_succ]; omega
    have h6 := kids_le x.op
    by_cases ho : x.op = 2
    · have h7 := own_len x l
      have : kidsOf 2 = 0 := rfl
      rw [ho, this] at h1
      have h0 : x.ks = [] := List.eq_nil_of_length_eq_zero (by omega)
      rw [h0] at h4 ⊢
      simp at h4 ⊢
      omega
    · have h7 : ownN x l = l := by unfold ownN; rw [if_neg ho]
      rw [h7] at h4 ⊢
      have h8 : x.ks.length = 0 ∨ x.ks.length = 1 ∨ x.ks.length = 2 := by omega
      rcases h8 with h8 | h8 | h8 <;> rw [h8] at h4 <;> omega
/-- While the kids are gone through. -/
theorem names_mid {m : Nat} {x : Ex} {l : List ByteArray} (h : mayE (m + 1) x = true) {k : Nat} (hk : k < x.ks.length) : ((x.ks.take k).foldl (fun l k => namesE m k l) (ownN x l)).length + 2 ^ m ≤ l.length + 2 ^ (m + 1) := by
  obtain ⟨h1, _, h3⟩ := may_parts h
  have h4 := fold_len m (names_len m) (x.ks.take k) (ownN x l) fun k hk => h3 k (List.mem_of_mem_take hk)
  have hp : 2 ^ (m + 1) = 2 * 2 ^ m := by rw [Nat.pow_succ]; omega
  have h6 := kids_le x.op
  have ho : x.op ≠ 2 := by
    intro ho
    have : kidsOf 2 = 0 := rfl
    rw [ho, this] at h1
    omega
  have h7 : ownN x l = l := by unfold ownN; rw [if_neg ho]
  rw [h7] at h4 ⊢
  rw [List.length_take, Nat.min_eq_left (by omega)] at h4
  have h8 : k = 0 ∨ k = 1 := by omega
  rcases h8 with h8 | h8 <;> subst h8 <;> omega
/-- Texts that are not too long. -/
def Fine (l : List ByteArray) : Prop := ∀ s ∈ l, s.size ≤ 9223372036854775807
theorem Fine.own {x : Ex} {l : List ByteArray} (h : Fine l) (hx : x.nm.size ≤ 9223372036854775807) : Fine (ownN x l) := by
  unfold ownN addN
  split
  · split
    · intro s hs
      rcases List.mem_append.1 hs with hs | hs
      · exact h s hs
      · simp at hs; rw [hs]; exact hx
    · exact h
  · exact h
end Go.Proofs.Ytnbclbphggmenaa.Tr
