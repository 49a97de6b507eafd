/- Plain laws: the chain of a text's tokens. No program. Conditions: none. -/
import Derived.Test.YtbaffdehhcfffaaChainP
namespace Go.Proofs.Ytbaffdehhcfffaa.Lx
/-- The tokens of a text from a byte on: each stands behind what is skipped, as long as it can be; the last one is the end. -/
def Chain (T : List UInt8) : Nat → List Tok → Prop
  | _, [] => False
  | k, t :: ts => k ≤ T.length ∧
    ((T.drop (k + skip (T.drop k)) = [] ∧ t = ⟨0, [], 0, T.length⟩ ∧ ts = []) ∨
     (t.pos = k + skip (T.drop k) ∧ (∃ c r, T.drop t.pos = c :: r ∧ blank c = false ∧ c.toNat ≠ 35) ∧ tokOf (T.drop t.pos) = (0, t.kind, t.text.length, t.n) ∧ t.text = (T.drop t.pos).take t.text.length ∧
      Chain T (t.pos + t.text.length) ts))
theorem lex_first {l : List UInt8} {a room : Nat} (hc : (lexN l a room).code = 0) :
    (l.drop (skip l) = [] ∧ lexN l a room = ⟨0, 0, [⟨0, [], 0, a + l.length⟩]⟩) ∨
    (∃ kind len n r c t, room = r + 1 ∧ l.drop (skip l) = c :: t ∧ blank c = false ∧ c.toNat ≠ 35 ∧ tokOf (l.drop (skip l)) = (0, kind, len, n) ∧ 1 ≤ len ∧ len ≤ (l.drop (skip l)).length ∧
      (lexN ((l.drop (skip l)).drop len) (a + skip l + len) r).code = 0 ∧
      (lexN l a room).toks = ⟨kind, (l.drop (skip l)).take len, n, a + skip l⟩ :: (lexN ((l.drop (skip l)).drop len) (a + skip l + len) r).toks) := by
  rw [lexN_skip] at hc ⊢
  have hle := skip_le l
  rcases skip_rest l with h | ⟨c, t, h, hb, h35⟩
  · left
    have hl : skip l = l.length := by
      have := congrArg List.length h
      rw [List.length_drop] at this
      simp at this
      omega
    rw [h, lexN_nil, hl]
    exact ⟨rfl, rfl⟩
  · right
    rw [h] at hc ⊢
    by_cases he : (tokOf (c :: t)).1 = 0
    · cases room with
      | zero => rw [lexN_full _ _ hb h35 he] at hc; cases hc
      | succ r =>
        rw [lexN_tok _ _ _ hb h35 he] at hc ⊢
        have hk := tokOf_len he
        rcases htk : tokOf (c :: t) with ⟨er, kind, len, n⟩
        rw [htk] at he hc hk
        dsimp only at he hc hk
        subst he
        unfold Res.cons at hc ⊢
        split at hc
        · rename_i h0
          refine ⟨kind, len, n, r, c, t, rfl, rfl, hb, h35, rfl, hk.1, hk.2, h0, ?_⟩
          dsimp only
          rw [if_pos h0]
        · rename_i h0; exact absurd hc h0
    · rw [lexN_bad _ _ _ hb h35 he] at hc
      exact absurd hc he
theorem chain_of (T : List UInt8) : ∀ (room k : Nat), k ≤ T.length → (lexN (T.drop k) k room).code = 0 → Chain T k (lexN (T.drop k) k room).toks := by
  intro room
  induction room with
  | zero =>
    intro k hk hc
    rcases lex_first hc with ⟨h1, h2⟩ | ⟨_, _, _, r, _, _, h, _⟩
    · rw [h2]
      refine ⟨hk, .inl ⟨by rw [← List.drop_drop]; exact h1, ?_, rfl⟩⟩
      rw [List.length_drop]
      congr 1
      omega
    · omega
  | succ room ih =>
    intro k hk hc
    rcases lex_first hc with ⟨h1, h2⟩ | ⟨kind, len, n, r, c, t, hr, h1, hb, h35, ht, hl1, hl2, h0, h2⟩
    · rw [h2]
      refine ⟨hk, .inl ⟨by rw [← List.drop_drop]; exact h1, ?_, rfl⟩⟩
      rw [List.length_drop]
      congr 1
      omega
    · obtain rfl : room = r := by omega
      rw [h2]
      have hle := skip_le (T.drop k)
      rw [List.length_drop] at hle
      rw [List.drop_drop] at h0 ht h1 hl2
      rw [List.length_drop] at hl2
      have htl : ((((T.drop k).drop (skip (T.drop k))).take len)).length = len := by
        rw [List.length_take, List.length_drop, List.length_drop]; omega
      refine ⟨hk, .inr ⟨rfl, ⟨c, t, h1, hb, h35⟩, ?_, ?_, ?_⟩⟩
      · dsimp only; rw [htl]; exact ht
      · dsimp only; rw [htl, List.drop_drop]
      · dsimp only
        rw [htl]
        have e : ((T.drop k).drop (skip (T.drop k))).drop len = T.drop (k + skip (T.drop k) + len) := by rw [List.drop_drop, List.drop_drop, Nat.add_assoc]
        rw [e]
        refine ih (k + skip (T.drop k) + len) (by omega) ?_
        rw [List.drop_drop, ← Nat.add_assoc] at h0
        exact h0
theorem chain_all {T : List UInt8} {p : Nat} {ts : List Tok} (h : lexAll T = ⟨0, p, ts⟩) : Chain T 0 ts := by
  unfold lexAll at h
  split at h
  · cases h
  · have hc : (lexN (T.drop 0) 0 2000).code = 0 := by rw [List.drop_zero, h]
    have := chain_of T 2000 0 (by omega) hc
    rw [List.drop_zero, h] at this
    exact this
theorem tok_kind {l : List UInt8} {kind len n : Nat} (h : tokOf l = (0, kind, len, n)) : 1 ≤ kind ∧ kind ≤ 4 ∧ 1 ≤ len := by
  have hk := tokOf_len (l := l) (by rw [h])
  rw [h] at hk
  cases l with
  | nil => simp [tokOf] at h
  | cons c r =>
    refine ⟨?_, ?_, hk.1⟩ <;>
    · cases hs : small c with
      | true =>
        rw [tok_small rfl hs] at h
        split at h
        · cases h; decide
        split at h
        · cases h
        · cases h; decide
      | false =>
        cases hd : digit c with
        | true =>
          rw [tok_digit rfl hs hd] at h
          split at h
          · cases h
          split at h
          · cases h; decide
          · cases h
        | false =>
          rw [tok_sign rfl hs hd] at h
          split at h
          · cases h
          · cases h; decide
/-- What two tokens that touch can't be. -/
theorem chain_long {T : List UInt8} {k : Nat} {a b : Tok} {ts : List Tok} (h : Chain T k (a :: b :: ts)) (hts : ts ≠ []) : ∃ d r, b.text = d :: r ∧
    (b.pos = a.pos + a.text.length → (a.kind = 2 → digit d = false) ∧ (a.kind = 1 ∨ a.kind = 3 → alnum d = false) ∧ pairs.contains (a.text ++ [d]) = false) := by
  obtain ⟨_, h | ⟨hp, ⟨c, r, hcr, hb, h35⟩, ht, htx, hch⟩⟩ := h
  · cases h.2.2
  · obtain ⟨_, h | ⟨hp2, ⟨c2, r2, hcr2, hb2, h352⟩, ht2, htx2, hch2⟩⟩ := hch
    · exact absurd h.2.2 hts
    · have hk2 := tok_kind ht2
      have hdt : ∃ r', b.text = c2 :: r' := by
        rw [hcr2] at htx2
        cases hb2 : b.text.length with
        | zero => omega
        | succ n => rw [hb2, List.take_succ_cons] at htx2; exact ⟨_, htx2⟩
      obtain ⟨r', hr'⟩ := hdt
      refine ⟨c2, r', hr', fun hto => ?_⟩
      rw [hto, ← List.drop_drop] at hcr2
      generalize a.text.length = la at *
      rw [hcr] at ht htx hcr2
      have hsm : ∀ s, (c :: r).take s ++ [c2] = (c :: r).take (s + 1) → True := fun _ _ => trivial
      refine ⟨?_, ?_, ?_⟩
      · intro hk
        cases hs : small c with
        | true =>
          rw [tok_small rfl hs] at ht
          split at ht
          · have := congrArg (fun x => x.2.1) ht; dsimp only at this; omega
          split at ht
          · cases ht
          · have := congrArg (fun x => x.2.1) ht; dsimp only at this; omega
        | false =>
          cases hd : digit c with
          | true =>
            rw [tok_digit rfl hs hd] at ht
            split at ht
            · cases ht
            split at ht
            · have e1 : runLen digit (c :: r) = la := congrArg (fun x => x.2.2.1) ht
              rw [← e1] at hcr2
              exact run_stop hcr2
            · cases ht
          | false =>
            rw [tok_sign rfl hs hd] at ht
            split at ht
            · cases ht
            · have := congrArg (fun x => x.2.1) ht; dsimp only at this; omega
      · intro hk
        cases hs : small c with
        | true =>
          rw [tok_small rfl hs] at ht
          have e1 : runLen alnum (c :: r) = la := by
            split at ht
            · exact congrArg (fun x => x.2.2.1) ht
            split at ht
            · cases ht
            · exact congrArg (fun x => x.2.2.1) ht
          rw [← e1] at hcr2
          exact run_stop hcr2
        | false =>
          cases hd : digit c with
          | true =>
            rw [tok_digit rfl hs hd] at ht
            split at ht
            · cases ht
            split at ht
            · have := congrArg (fun x => x.2.1) ht; dsimp only at this; omega
            · cases ht
          | false =>
            rw [tok_sign rfl hs hd] at ht
            split at ht
            · cases ht
            · have := congrArg (fun x => x.2.1) ht; dsimp only at this; omega
      · cases hpc : pairs.contains (a.text ++ [c2]) with
        | false => rfl
        | true =>
          exfalso
          have hm := List.contains_iff_mem.1 hpc
          have hlen : (a.text ++ [c2]).length = 2 := by
            simp only [pairs, List.mem_cons, List.not_mem_nil, or_false] at hm
            rcases hm with h | h | h | h | h | h <;> rw [h] <;> rfl
          rw [List.length_append, List.length_singleton] at hlen
          have hla : la = 1 := by
            have h1 := congrArg List.length htx
            rw [List.length_take] at h1
            have hk := tokOf_len (l := c :: r) (by rw [ht])
            rw [ht] at hk
            dsimp only at hk
            omega
          subst hla
          rw [List.take_succ_cons, List.take_zero] at htx
          rw [List.drop_succ_cons, List.drop_zero] at hcr2
          have htk2 : (c :: r).take 2 = a.text ++ [c2] := by rw [htx, hcr2]; rfl
          have hsl : signLen (c :: r) = 2 := by unfold signLen; rw [htk2, hpc]; rfl
          have hc6 : small c = false ∧ digit c = false := by
            rw [htx] at hm
            simp only [pairs, List.cons_append, List.nil_append, List.mem_cons, List.cons.injEq, List.not_mem_nil, or_false] at hm
            rcases hm with h | h | h | h | h | h <;> (rw [h.1]; decide)
          rw [tok_sign rfl hc6.1 hc6.2, hsl] at ht
          simp at ht
theorem lex_bad : ∀ (f : Nat) (l : List UInt8) (a room : Nat), (lex f l a room).code ≠ 0 → (lex f l a room).toks = [] := by
  intro f
  induction f with
  | zero => intro l a room _; rfl
  | succ f ih =>
    intro l a room h
    cases l with
    | nil => exact absurd rfl h
    | cons c r =>
      rw [lex_cons] at h ⊢
      split
      · rename_i h1; rw [if_pos h1] at h; exact ih _ _ _ h
      rename_i h1
      rw [if_neg h1] at h
      split
      · rename_i h2; rw [if_pos h2] at h; exact ih _ _ _ h
      rename_i h2
      rw [if_neg h2] at h
      split
      · rfl
      rename_i h3
      rw [if_neg h3] at h
      split
      · rfl
      rename_i h4
      rw [if_neg h4] at h
      unfold Res.cons at h ⊢
      split
      · rename_i h5; rw [if_pos h5] at h; exact absurd h5 h
      · rename_i h5; rw [if_neg h5] at h; exact ih _ _ _ h
theorem bad_nil {l : List UInt8} (h : (lexAll l).code ≠ 0) : (lexAll l).toks = [] := by
  unfold lexAll at h ⊢
  split
  · rfl
  · rename_i h1; rw [if_neg h1] at h; exact lex_bad _ _ _ _ h
theorem Chain.kind {T : List UInt8} {k : Nat} {a b : Tok} {ts : List Tok} (h : Chain T k (a :: b :: ts)) : a.kind = 1 ∨ a.kind = 2 ∨ a.kind = 3 ∨ a.kind = 4 := by
  obtain ⟨_, h | ⟨_, _, h, _, _⟩⟩ := h
  · cases h.2.2
  · have := tok_kind h; omega
theorem Chain.len {T : List UInt8} {k : Nat} {a b : Tok} {ts : List Tok} (h : Chain T k (a :: b :: ts)) : a.text.length ≤ T.length := by
  obtain ⟨_, h | ⟨_, _, _, h, _⟩⟩ := h
  · cases h.2.2
  · have := congrArg List.length h
    rw [List.length_take, List.length_drop] at this
    omega
end Go.Proofs.Ytbaffdehhcfffaa.Lx
