/- Plain laws: the first token of a text hangs on its first bytes alone. No program. Conditions: none. -/
import Derived.Test.YtbaffdehhcfffaaChainQ
namespace Go.Proofs.Ytbaffdehhcfffaa.Lx
theorem run_app {p : UInt8 → Bool} {d : UInt8} (r : List UInt8) (hd : p d = false) : ∀ l : List UInt8, runLen p (l ++ d :: r) = runLen p l := by
  intro l
  induction l with
  | nil => rw [List.nil_append, runLen_cons_no _ hd]; rfl
  | cons a t ih =>
    rw [List.cons_append]
    cases ha : p a with
    | true => rw [runLen_cons_yes _ ha, runLen_cons_yes _ ha, ih]
    | false => rw [runLen_cons_no _ ha, runLen_cons_no _ ha]
theorem take_app {p : UInt8 → Bool} (d : UInt8) (r l : List UInt8) : (l ++ d :: r).take (runLen p l) = l.take (runLen p l) := by
  rw [List.take_append_of_le_length (runLen_le p l)]
theorem pairs_blank {c d : UInt8} (hd : blank d = true) : pairs.contains [c, d] = false := by
  cases h : pairs.contains [c, d] with
  | false => rfl
  | true =>
    have hm := List.contains_iff_mem.1 h
    simp only [pairs, List.mem_cons, List.cons.injEq, List.not_mem_nil, or_false, and_true] at hm
    rcases hm with h | h | h | h | h | h <;> (rw [h.2] at hd; revert hd; decide)
theorem pairs_one (c : UInt8) : pairs.contains [c] = false := by simp [pairs]
theorem sign_app {c d : UInt8} (l r : List UInt8) (hd : blank d = true) : signLen (c :: l ++ d :: r) = signLen (c :: l) := by
  cases l with
  | nil =>
    unfold signLen
    rw [show (([c] ++ d :: r).take 2) = [c, d] from rfl, show ([c].take 2) = [c] from rfl, pairs_blank hd, pairs_one]
    rfl
  | cons b t => rfl
theorem sign_take (c : UInt8) (l : List UInt8) (j : Nat) (hj : 1 ≤ j) (h : signLen (c :: l) ≤ j) : signLen ((c :: l).take j) = signLen (c :: l) := by
  rcases Nat.lt_or_ge j 2 with h2 | h2
  · obtain rfl : j = 1 := by omega
    have h3 : pairs.contains ((c :: l).take 2) = false := by
      cases h3 : pairs.contains ((c :: l).take 2) with
      | false => rfl
      | true => unfold signLen at h; rw [h3, if_pos rfl] at h; omega
    unfold signLen
    rw [h3, show ((c :: l).take 1).take 2 = [c] from rfl, pairs_one]
    rfl
  · have e : ((c :: l).take j).take 2 = (c :: l).take 2 := by rw [List.take_take, Nat.min_eq_left h2]
    obtain ⟨j', rfl⟩ : ∃ j', j = j' + 1 := ⟨j - 1, by omega⟩
    unfold signLen
    rw [e, show (c :: l).take (j' + 1) = c :: l.take j' from rfl]
theorem blank_alnum {d : UInt8} (h : blank d = true) : alnum d = false ∧ digit d = false := by
  have : d.toNat = 32 ∨ d.toNat = 9 ∨ d.toNat = 10 ∨ d.toNat = 13 := by simp [blank] at h; omega
  constructor
  · simp [alnum, small, digit]; omega
  · simp [digit]; omega
/-- A blank behind, and whatever stands behind that, says nothing of the first token. -/
theorem tok_app {l : List UInt8} {d : UInt8} (r : List UInt8) (hl : l ≠ []) (hd : blank d = true) : tokOf (l ++ d :: r) = tokOf l := by
  cases l with
  | nil => exact absurd rfl hl
  | cons c t =>
    have hb := blank_alnum hd
    have e1 := run_app (p := alnum) r hb.1 (c :: t)
    have e2 := run_app (p := digit) r hb.2 (c :: t)
    have e3 := sign_app (c := c) t r hd
    have t1 := take_app (p := alnum) d r (c :: t)
    have t2 := take_app (p := digit) d r (c :: t)
    rw [List.cons_append] at *
    unfold tokOf
    dsimp only
    rw [e1, e2, e3, t1, t2]
/-- Cut behind its end, the first token stays. -/
theorem tok_take {l : List UInt8} {k len n j : Nat} (h : tokOf l = (0, k, len, n)) (hj : len ≤ j) : tokOf (l.take j) = (0, k, len, n) := by
  have hk := tokOf_len (l := l) (by rw [h])
  rw [h] at hk
  dsimp only at hk
  cases l with
  | nil => simp [tokOf] at h
  | cons c t =>
    have hj1 : (c :: t).take j = c :: t.take (j - 1) := by
      obtain ⟨j', rfl⟩ : ∃ j', j = j' + 1 := ⟨j - 1, by omega⟩
      rw [List.take_succ_cons]; rfl
    cases hs : small c with
    | true =>
      have hr : runLen alnum (c :: t) ≤ j := by
        rw [tok_small rfl hs] at h
        split at h
        · cases h; exact hj
        split at h
        · cases h
        · cases h; exact hj
      have e1 := run_take (p := alnum) (c :: t) j hr
      have e2 : ((c :: t).take j).take (runLen alnum (c :: t)) = (c :: t).take (runLen alnum (c :: t)) := by rw [List.take_take, Nat.min_eq_left hr]
      rw [tok_small hj1 hs, e1, e2, ← tok_small rfl hs]
      exact h
    | false =>
      cases hd : digit c with
      | true =>
        have hr : runLen digit (c :: t) ≤ j := by
          rw [tok_digit rfl hs hd] at h
          split at h
          · cases h
          split at h
          · cases h; exact hj
          · cases h
        have e1 := run_take (p := digit) (c :: t) j hr
        have e2 : ((c :: t).take j).take (runLen digit (c :: t)) = (c :: t).take (runLen digit (c :: t)) := by rw [List.take_take, Nat.min_eq_left hr]
        rw [tok_digit hj1 hs hd, e1, e2, ← tok_digit rfl hs hd]
        exact h
      | false =>
        have hr : signLen (c :: t) ≤ j := by
          rw [tok_sign rfl hs hd] at h
          split at h
          · cases h
          · cases h; exact hj
        rw [tok_sign hj1 hs hd, sign_take c t j (by omega) hr, ← tok_sign rfl hs hd]
        exact h
/-- The tokens written with a blank behind each. -/
def join : List Tok → List UInt8
  | [] => []
  | t :: ts => t.text ++ 32 :: join ts
/-- The tokens where they stand then. -/
def placed : Nat → List Tok → List Tok
  | _, [] => []
  | a, t :: ts => { t with pos := a } :: placed (a + t.text.length + 1) ts
/-- .. the last one at the end. -/
def atEnd : Nat → List Tok → List Tok
  | _, [] => []
  | e, [t] => [{ t with pos := e }]
  | e, t :: u :: ts => t :: atEnd e (u :: ts)
theorem blank32 : blank 32 = true := by decide
theorem lexN_blank32 (l : List UInt8) (a room : Nat) : lexN (32 :: l) a room = lexN l (a + 1) room := lexN_blank l a room blank32
/-- The tokens of the joined text. -/
theorem lex_join : ∀ (room : Nat) (l : List UInt8) (a b : Nat), (lexN l a room).code = 0 →
    lexN (join (lexN l a room).toks) b room = ⟨0, 0, atEnd (b + (join (lexN l a room).toks).length) (placed b (lexN l a room).toks)⟩ := by
  intro room
  induction room with
  | zero =>
    intro l a b h
    rcases lex_first h with ⟨_, h2⟩ | ⟨_, _, _, r, _, _, h, _⟩
    · rw [h2]
      show lexN [32] b 0 = _
      rw [lexN_blank32, lexN_nil]
      rfl
    · omega
  | succ room ih =>
    intro l a b h
    rcases lex_first h with ⟨_, h2⟩ | ⟨kind, len, n, r, c, t, hr, h1, hb, h35, ht, hl1, hl2, h0, h2⟩
    · rw [h2]
      show lexN [32] b (room + 1) = _
      rw [lexN_blank32, lexN_nil]
      rfl
    · obtain rfl : room = r := by omega
      rw [h2]
      generalize (l.drop (skip l)) = l' at *
      have hih := ih (l'.drop len) (a + skip l + len) (b + len + 1) h0
      have hne : ∃ u us, (lexN (l'.drop len) (a + skip l + len) room).toks = u :: us := by
        rcases lex_first h0 with ⟨_, h3⟩ | ⟨_, _, _, _, _, _, _, _, _, _, _, _, _, _, h3⟩
        · rw [h3]; exact ⟨_, _, rfl⟩
        · rw [h3]; exact ⟨_, _, rfl⟩
      generalize (lexN (l'.drop len) (a + skip l + len) room).toks = us at *
      have hlt : (l'.take len).length = len := by rw [List.length_take]; omega
      have htn : ∃ t', l'.take len = c :: t' := by
        rw [h1]
        obtain ⟨m, rfl⟩ : ∃ m, len = m + 1 := ⟨len - 1, by omega⟩
        exact ⟨_, List.take_succ_cons⟩
      obtain ⟨t', ht'⟩ := htn
      have htok : tokOf (l'.take len ++ 32 :: join us) = (0, kind, len, n) := by
        rw [tok_app _ (by rw [ht']; simp) blank32]
        exact tok_take ht (Nat.le_refl _)
      have hjn : join (⟨kind, l'.take len, n, a + skip l⟩ :: us) = l'.take len ++ 32 :: join us := rfl
      rw [hjn]
      have hc2 : l'.take len ++ 32 :: join us = c :: (t' ++ 32 :: join us) := by rw [ht']; rfl
      have hdr : (l'.take len ++ 32 :: join us).drop len = 32 :: join us := by
        rw [List.drop_append_of_le_length (by omega), List.drop_of_length_le (by omega), List.nil_append]
      have htk : (l'.take len ++ 32 :: join us).take len = l'.take len := by
        rw [List.take_append_of_le_length (by omega), List.take_take, Nat.min_self]
      have hlen : b + (l'.take len ++ 32 :: join us).length = b + len + 1 + (join us).length := by
        rw [List.length_append, hlt, List.length_cons]; omega
      have hstep := lexN_tok (c := c) (t' ++ 32 :: join us) b room hb h35 (by rw [← hc2, htok])
      rw [← hc2, htok] at hstep
      dsimp only at hstep
      rw [hdr, htk, lexN_blank32, hih] at hstep
      rw [hstep, hlen]
      unfold Res.cons
      dsimp only
      rw [if_pos rfl]
      obtain ⟨u, us', rfl⟩ := hne
      show _ = (⟨0, 0, atEnd _ (placed b (⟨kind, l'.take len, n, a + skip l⟩ :: u :: us'))⟩ : Res)
      unfold placed
      dsimp only
      rw [hlt]
      rfl
end Go.Proofs.Ytbaffdehhcfffaa.Lx
