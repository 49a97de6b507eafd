/- Plain laws: a token has at most 19 bytes; a text moved, cut, lengthened by a remark. No program. Conditions: none. -/
import Derived.Test.YtbaffdehhcfffaaPrefP
namespace Go.Proofs.Ytbaffdehhcfffaa.Lx
theorem digitsFrom_ge10 : ∀ (l : List UInt8) (n : Nat), n * 10 ^ l.length ≤ digitsFrom n l := by
  intro l
  induction l with
  | nil => intro n; simp [digitsFrom]
  | cons c r ih =>
    intro n
    have h := ih (n * 10 + (c.toNat - 48))
    have e : digitsFrom n (c :: r) = digitsFrom (n * 10 + (c.toNat - 48)) r := rfl
    rw [e]
    refine Nat.le_trans ?_ h
    rw [List.length_cons, Nat.pow_succ, Nat.mul_comm (10 ^ r.length) 10, ← Nat.mul_assoc]
    exact Nat.mul_le_mul_right _ (by omega)
theorem value_big2 {c : UInt8} {r : List UInt8} (hd : digit c = true) (h0 : c.toNat ≠ 48) (hr : 19 ≤ r.length) : 9223372036854775807 < value (c :: r) := by
  have hc : 48 ≤ c.toNat ∧ c.toNat ≤ 57 := by simpa [digit] using hd
  have h := digitsFrom_ge10 r (0 * 10 + (c.toNat - 48))
  have e : value (c :: r) = digitsFrom (0 * 10 + (c.toNat - 48)) r := rfl
  rw [e]
  have h1 : 10 ^ 19 ≤ 10 ^ r.length := Nat.pow_le_pow_right (by omega) hr
  have h2 : 1 * 10 ^ r.length ≤ (0 * 10 + (c.toNat - 48)) * 10 ^ r.length := Nat.mul_le_mul_right _ (by omega)
  omega
theorem sign_le2 (l : List UInt8) : signLen l ≤ 2 := by
  unfold signLen
  split
  · omega
  · split
    · omega
    · split <;> omega
theorem digit_take {c : UInt8} {t : List UInt8} (j : Nat) (hj : 1 ≤ j) : (c :: t).take j = c :: t.take (j - 1) := by
  obtain ⟨j', rfl⟩ : ∃ j', j = j' + 1 := ⟨j - 1, by omega⟩
  rw [List.take_succ_cons]; rfl
/-- A token has at most 19 bytes. -/
theorem tok_len19 {l : List UInt8} {kind len n : Nat} (h : tokOf l = (0, kind, len, n)) : len ≤ 19 := by
  cases l with
  | nil => simp [tokOf] at h
  | cons c t =>
    cases hs : small c with
    | true =>
      rw [tok_small rfl hs] at h
      split at h
      · rename_i hw
        have hl := word_short hw
        cases h
        rw [List.length_take] at hl
        have := runLen_le alnum (c :: t)
        omega
      split at h
      · cases h
      · cases h; omega
    | false =>
      cases hd : digit c with
      | true =>
        rw [tok_digit rfl hs hd] at h
        have hp := runLen_pos (p := digit) (r := t) hd
        have hle := runLen_le digit (c :: t)
        split at h
        · cases h
        rename_i h1
        split at h
        · rename_i h2
          obtain rfl : runLen digit (c :: t) = len := by simp at h; exact h.2.1
          apply Decidable.byContradiction
          intro hn
          rw [digit_take _ hp] at h2
          have h0 : c.toNat ≠ 48 := fun e => h1 ⟨by omega, e⟩
          have := value_big2 (r := t.take (runLen digit (c :: t) - 1)) hd h0 (by rw [List.length_take]; simp only [List.length_cons] at hle; omega)
          omega
        · cases h
      | false =>
        rw [tok_sign rfl hs hd] at h
        split at h
        · cases h
        · have := sign_le2 (c :: t)
          cases h
          omega
theorem toks_len19 : ∀ (room : Nat) (l : List UInt8) (a : Nat), (lexN l a room).code = 0 → ∀ t ∈ (lexN l a room).toks, t.text.length ≤ 19 := by
  intro room
  induction room with
  | zero =>
    intro l a h t ht
    rcases lex_first h with ⟨_, h2⟩ | ⟨_, _, _, r, _, _, h, _⟩
    · rw [h2] at ht; simp at ht; subst ht; simp
    · omega
  | succ room ih =>
    intro l a h t ht
    rcases lex_first h with ⟨_, h2⟩ | ⟨kind, len, n, r, c, u, hr, h1, hb, h35, htk, hl1, hl2, h0, h2⟩
    · rw [h2] at ht; simp at ht; subst ht; simp
    · obtain rfl : room = r := by omega
      rw [h2] at ht
      rcases List.mem_cons.1 ht with rfl | ht
      · have := tok_len19 htk
        simp only [List.length_take]; omega
      · exact ih _ _ h0 t ht
theorem join_len : ∀ ts : List Tok, (∀ t ∈ ts, t.text.length ≤ 19) → (join ts).length ≤ 20 * ts.length := by
  intro ts
  induction ts with
  | nil => intro _; simp [join]
  | cons t r ih =>
    intro h
    have h1 := h t (List.mem_cons_self ..)
    have h2 := ih (fun u hu => h u (List.mem_cons_of_mem _ hu))
    simp only [join, List.length_append, List.length_cons]
    omega
theorem join_all {T : List UInt8} {p : Nat} {ts : List Tok} (h : lexAll T = ⟨0, p, ts⟩) : (join ts).length ≤ 40020 := by
  have hr := all_room T
  rw [h] at hr
  dsimp only at hr
  have h1 : ∀ t ∈ ts, t.text.length ≤ 19 := by
    unfold lexAll at h
    split at h
    · cases h
    · have := toks_len19 2000 T 0 (by rw [h])
      rw [h] at this
      exact this
  have := join_len ts h1
  omega
/-- .. and the joined text's tokens. -/
theorem all_join {T : List UInt8} {p : Nat} {ts : List Tok} (h : lexAll T = ⟨0, p, ts⟩) : lexAll (join ts) = ⟨0, 0, atEnd (join ts).length (placed 0 ts)⟩ := by
  have hl := join_all h
  unfold lexAll at h ⊢
  rw [if_neg (by omega)]
  split at h
  · cases h
  · have := lex_join 2000 T 0 0 (by rw [h])
    rw [h] at this
    simpa using this
theorem toks_ne : ∀ (l : List UInt8) (a room : Nat), (lexN l a room).code = 0 → (lexN l a room).toks ≠ [] := by
  intro l a room h
  rcases lex_first h with ⟨_, h3⟩ | ⟨_, _, _, _, _, _, _, _, _, _, _, _, _, _, h3⟩
  · rw [h3]; simp
  · rw [h3]; simp
theorem all_ne {T : List UInt8} {p : Nat} {ts : List Tok} (h : lexAll T = ⟨0, p, ts⟩) : ts ≠ [] := by
  unfold lexAll at h
  split at h
  · cases h
  · have := toks_ne T 0 2000 (by rw [h])
    rw [h] at this
    exact this
/-- A result, so much farther on. -/
def shR (on : Nat) (r : Res) : Res := ⟨r.code, if r.code = 0 then r.pos else r.pos + on, shift on r.toks⟩
theorem shR_cons (on : Nat) (t : Tok) (r : Res) : Res.cons { t with pos := t.pos + on } (shR on r) = shR on (Res.cons t r) := by
  unfold Res.cons shR
  dsimp only
  by_cases h : r.code = 0
  · simp only [h, if_true]; rfl
  · simp only [h, if_false]
theorem lex_shift (on : Nat) : ∀ (f : Nat) (l : List UInt8) (a room : Nat), lex f l (a + on) room = shR on (lex f l a room) := by
  intro f
  induction f with
  | zero => intro l a room; rfl
  | succ f ih =>
    intro l a room
    cases l with
    | nil => rfl
    | cons c r =>
      rw [lex_cons, lex_cons]
      split
      · rw [Nat.add_right_comm]; exact ih _ _ _
      split
      · rw [Nat.add_right_comm]; exact ih _ _ _
      split
      · rename_i h
        unfold shR
        dsimp only
        rw [if_neg h]; rfl
      split
      · rfl
      · rw [Nat.add_right_comm, ih]
        exact shR_cons on ⟨_, _, _, a⟩ _
theorem lexN_shift (on : Nat) (l : List UInt8) (a room : Nat) : lexN l (a + on) room = shR on (lexN l a room) := lex_shift on _ l a room
/-- Five ways to write blanks. -/
def aheads : List (List UInt8) := [[32], [10], [9, 13], [32, 10, 10], [35, 10, 32]]
theorem lexN_ahead {b : List UInt8} (h : b ∈ aheads) (l : List UInt8) (a room : Nat) : lexN (b ++ l) a room = lexN l (a + b.length) room := by
  simp [aheads] at h
  rcases h with rfl | rfl | rfl | rfl | rfl
  · exact lexN_blank l a room (by decide)
  · exact lexN_blank l a room (by decide)
  · refine (lexN_blank (13 :: l) a room (by decide)).trans (lexN_blank l _ room (by decide))
  · refine (lexN_blank (10 :: 10 :: l) a room (by decide)).trans ((lexN_blank (10 :: l) _ room (by decide)).trans (lexN_blank l _ room (by decide)))
  · have e : runLen noEnd (35 :: 10 :: 32 :: l) = 1 := by
      rw [runLen_cons_yes _ (by decide), runLen_cons_no _ (by decide)]
    have h := lexN_remark (10 :: 32 :: l) a room (c := 35) (by decide)
    rw [e] at h
    exact h.trans ((lexN_blank (32 :: l) (a + 1) room (by decide)).trans (lexN_blank l _ room (by decide)))
theorem all_ahead {b l : List UInt8} (h : b ∈ aheads) (hl : l.length ≤ 99996) : lexAll (b ++ l) = shR b.length (lexAll l) := by
  have hb : b.length ≤ 3 := by
    simp [aheads] at h
    rcases h with rfl | rfl | rfl | rfl | rfl <;> simp
  unfold lexAll
  rw [List.length_append, if_neg (by omega), if_neg (by omega), lexN_ahead h, lexN_shift]
/-- The first step of a cut, what is skipped taken as one. -/
theorem lexN_end {l : List UInt8} (a room : Nat) (h : l.drop (skip l) = []) : lexN l a room = ⟨0, 0, [⟨0, [], 0, a + l.length⟩]⟩ := by
  have hle := skip_le l
  have hl : skip l = l.length := by
    have := congrArg List.length h
    rw [List.length_drop] at this
    simp at this
    omega
  rw [lexN_skip, h, lexN_nil, hl]
theorem lexN_first {l l' : List UInt8} (a room : Nat) (hl' : l.drop (skip l) = l') (h : l' ≠ []) : lexN l a room =
    if (tokOf l').1 ≠ 0 then ⟨(tokOf l').1, a + skip l, []⟩ else if room = 0 then ⟨4, a + skip l, []⟩
    else Res.cons ⟨(tokOf l').2.1, l'.take (tokOf l').2.2.1, (tokOf l').2.2.2, a + skip l⟩ (lexN (l'.drop (tokOf l').2.2.1) (a + skip l + (tokOf l').2.2.1) (room - 1)) := by
  rw [lexN_skip, hl']
  rcases skip_rest l with h2 | ⟨c, t, h2, hb, h35⟩
  · exact absurd (hl'.symm.trans h2) h
  · rw [hl'] at h2
    subst h2
    by_cases he : (tokOf (c :: t)).1 = 0
    · rw [if_neg (by simp [he])]
      cases room with
      | zero => rw [if_pos rfl, lexN_full _ _ hb h35 he]
      | succ r => rw [if_neg (by omega), lexN_tok _ _ _ hb h35 he]; rfl
    · rw [if_pos he, lexN_bad _ _ _ hb h35 he]
theorem skip_app (r : List UInt8) : ∀ l : List UInt8, (l.drop (skip l) = [] → skip (l ++ 10 :: r) = l.length + 1 + skip r) ∧ (l.drop (skip l) ≠ [] → skip (l ++ 10 :: r) = skip l) := by
  apply skip_ind
  · refine ⟨fun _ => ?_, fun h => absurd rfl h⟩
    rw [List.nil_append, skip_blank r (by decide)]; simp; omega
  · intro c t h ih
    rw [skip_blank t h, List.drop_succ_cons, List.cons_append, skip_blank _ h]
    refine ⟨fun h2 => ?_, fun h2 => ?_⟩
    · rw [ih.1 h2, List.length_cons]; omega
    · rw [ih.2 h2]
  · intro c t h ih
    have hd := drop_run noEnd (c :: t)
    have hle := runLen_le noEnd (c :: t)
    have ha := run_app (p := noEnd) (d := 10) r (by decide) (c :: t)
    rw [skip_remark t h, List.cons_append, skip_remark _ h, ← List.cons_append, ha, List.drop_append_of_le_length hle]
    rw [Nat.add_comm (skip _) (runLen noEnd (c :: t)), ← List.drop_drop]
    refine ⟨fun h2 => ?_, fun h2 => ?_⟩
    · rw [ih.1 h2, List.length_drop]; omega
    · rw [ih.2 h2]; omega
  · intro c t hb h35
    rw [skip_stop t hb h35, List.cons_append, skip_stop _ hb h35]
    exact ⟨fun h => by simp at h, fun _ => rfl⟩
theorem atEnd_cons {e : Nat} {t : Tok} {ts : List Tok} (h : ts ≠ []) : atEnd e (t :: ts) = t :: atEnd e ts := by
  cases ts with
  | nil => exact absurd rfl h
  | cons u us => rfl
/-- A remark behind a text. -/
theorem lex_behind (r : List UInt8) (hr : skip r = r.length) : ∀ (room : Nat) (l : List UInt8) (a : Nat), lexN (l ++ 10 :: r) a room =
    if (lexN l a room).code = 0 then ⟨0, (lexN l a room).pos, atEnd (a + l.length + 1 + r.length) (lexN l a room).toks⟩ else lexN l a room := by
  intro room
  induction room with
  | zero =>
    intro l a
    have hs := skip_app r l
    by_cases hd : l.drop (skip l) = []
    · rw [lexN_end a 0 hd, if_pos rfl]
      have e := hs.1 hd
      rw [hr] at e
      rw [lexN_end a 0 (by rw [e]; apply List.drop_of_length_le; simp; omega)]
      simp [atEnd]; omega
    · have e := hs.2 hd
      have hle := skip_le l
      have hd2 : (l ++ 10 :: r).drop (skip (l ++ 10 :: r)) = l.drop (skip l) ++ 10 :: r := by rw [e, List.drop_append_of_le_length hle]
      rw [lexN_first a 0 rfl hd, lexN_first a 0 hd2 (by simp), tok_app r hd (by decide), e]
      by_cases h : (tokOf (l.drop (skip l))).1 ≠ 0
      · rw [if_pos h, if_pos h, if_neg h]
      · rw [if_neg h, if_neg h, if_pos rfl, if_neg (by simp)]
        rfl
  | succ room ih =>
    intro l a
    have hs := skip_app r l
    by_cases hd : l.drop (skip l) = []
    · rw [lexN_end a _ hd, if_pos rfl]
      have e := hs.1 hd
      rw [hr] at e
      rw [lexN_end a _ (by rw [e]; apply List.drop_of_length_le; simp; omega)]
      simp [atEnd]; omega
    · have e := hs.2 hd
      have hle := skip_le l
      have hd2 : (l ++ 10 :: r).drop (skip (l ++ 10 :: r)) = l.drop (skip l) ++ 10 :: r := by rw [e, List.drop_append_of_le_length hle]
      rw [lexN_first a _ rfl hd, lexN_first a _ hd2 (by simp), tok_app r hd (by decide), e]
      generalize hl' : l.drop (skip l) = l'
      rw [hl'] at hd
      have hll : l.length = skip l + l'.length := by rw [← hl', List.length_drop]; omega
      by_cases h : (tokOf l').1 ≠ 0
      · rw [if_pos h, if_pos h, if_neg h]
      · have hk := tokOf_len (l := l') (by simpa using h)
        rw [if_neg h, if_neg h, if_neg (Nat.succ_ne_zero room), if_neg (Nat.succ_ne_zero room), Nat.add_sub_cancel]
        rw [List.take_append_of_le_length hk.2, List.drop_append_of_le_length hk.2, ih]
        have hn := toks_ne (l'.drop (tokOf l').2.2.1) (a + skip l + (tokOf l').2.2.1) room
        have hlen : a + skip l + (tokOf l').2.2.1 + (l'.drop (tokOf l').2.2.1).length + 1 + r.length = a + l.length + 1 + r.length := by
          rw [List.length_drop]; omega
        rw [hlen]
        generalize lexN (l'.drop (tokOf l').2.2.1) (a + skip l + (tokOf l').2.2.1) room = q at *
        unfold Res.cons
        by_cases h0 : q.code = 0
        · simp only [h0, if_true, atEnd_cons (hn h0)]
        · simp only [h0, if_false]
theorem skip_note (n : List UInt8) (h : ∀ c ∈ n, c ≠ 10) : skip (35 :: n) = (35 :: n).length := by
  have hr : runLen noEnd (35 :: n) = (35 :: n).length := by
    apply run_all
    rw [List.all_eq_true]
    intro c hc
    rcases List.mem_cons.1 hc with rfl | hc
    · decide
    · have := h c hc
      simp only [noEnd, bne_iff_ne]
      intro e
      exact this (UInt8.toNat_inj.1 e)
  rw [skip_remark n (by decide), hr, List.drop_of_length_le (Nat.le_refl _), skip_nil, Nat.zero_add]
theorem all_behind {l n : List UInt8} (hl : l.length ≤ 99950) (hn : n.length ≤ 40) (h : ∀ c ∈ n, c ≠ 10) : lexAll (l ++ 10 :: 35 :: n) =
    if (lexAll l).code = 0 then ⟨0, (lexAll l).pos, atEnd (l.length + 2 + n.length) (lexAll l).toks⟩ else lexAll l := by
  have h2 := lex_behind (35 :: n) (skip_note n h) 2000 l 0
  have e1 : lexAll l = lexN l 0 2000 := by unfold lexAll; rw [if_neg (by omega)]
  have e2 : lexAll (l ++ 10 :: 35 :: n) = lexN (l ++ 10 :: 35 :: n) 0 2000 := by unfold lexAll; rw [if_neg (by simp; omega)]
  rw [e1, e2, h2]
  have e : 0 + l.length + 1 + (35 :: n).length = l.length + 2 + n.length := by simp; omega
  rw [e]
theorem skip_take : ∀ (l : List UInt8) (m : Nat), skip l ≤ m → skip (l.take m) = skip l := by
  apply skip_ind (P := fun l => ∀ m : Nat, skip l ≤ m → skip (l.take m) = skip l)
  · intro m _; simp [skip_nil]
  · intro c t h ih m hm
    rw [skip_blank t h] at hm ⊢
    rw [digit_take m (by omega), skip_blank _ h, ih (m - 1) (by omega)]
  · intro c t h ih m hm
    have hp := rem_pos t h
    have hle := runLen_le noEnd (c :: t)
    rw [skip_remark t h] at hm ⊢
    have e := run_take (p := noEnd) (c :: t) m (by omega)
    have e2 := digit_take (c := c) (t := t) m (by omega)
    rw [e2] at e
    rw [e2, skip_remark _ h, e, ← e2, List.drop_take, ih (m - runLen noEnd (c :: t)) (by omega)]
  · intro c t hb h35 m hm
    rw [skip_stop t hb h35]
    cases m with
    | zero => exact skip_nil
    | succ m => exact skip_stop _ hb h35
/-- What stands ahead of a token. -/
theorem lex_front : ∀ (room : Nat) (l : List UInt8) (a k : Nat) (hc : (lexN l a room).code = 0) (hk : k < (lexN l a room).toks.length),
    lexN (l.take ((lexN l a room).toks[k].pos - a)) a room = ⟨0, 0, (lexN l a room).toks.take k ++ [⟨0, [], 0, (lexN l a room).toks[k].pos⟩]⟩ := by
  intro room
  induction room with
  | zero =>
    intro l a k hc hk
    rcases lex_first hc with ⟨h1, h2⟩ | ⟨_, _, _, r, _, _, h, _⟩
    · simp only [h2] at hk ⊢
      obtain rfl : k = 0 := by simpa using hk
      simp only [List.getElem_cons_zero, List.take_zero, List.nil_append]
      rw [Nat.add_sub_cancel_left, List.take_of_length_le (Nat.le_refl _)]
      exact h2
    · omega
  | succ room ih =>
    intro l a k hc hk
    rcases lex_first hc with ⟨h1, h2⟩ | ⟨kind, len, n, r, c, u, hr, h1, hb, h35, htk, hl1, hl2, h0, h2⟩
    · simp only [h2] at hk ⊢
      obtain rfl : k = 0 := by simpa using hk
      simp only [List.getElem_cons_zero, List.take_zero, List.nil_append]
      rw [Nat.add_sub_cancel_left, List.take_of_length_le (Nat.le_refl _)]
      exact h2
    · obtain rfl : room = r := by omega
      have hsl := skip_le l
      cases k with
      | zero =>
        simp only [h2, List.getElem_cons_zero, List.take_zero, List.nil_append]
        rw [Nat.add_sub_cancel_left]
        have hst := skip_take l (skip l) (Nat.le_refl _)
        have hlt : (l.take (skip l)).length = skip l := by rw [List.length_take]; omega
        rw [lexN_end a _ (by rw [hst]; apply List.drop_of_length_le; omega), hlt]
      | succ k =>
        have hk2 : k < (lexN ((l.drop (skip l)).drop len) (a + skip l + len) room).toks.length := by
          simp only [h2, List.length_cons] at hk; omega
        have hmem : (lexN ((l.drop (skip l)).drop len) (a + skip l + len) room).toks[k] ∈ (lexN ((l.drop (skip l)).drop len) (a + skip l + len) room).toks := List.getElem_mem hk2
        have hpos := (tokN_bound _ _ _ _ hmem).1
        have hih := ih _ _ k h0 hk2
        simp only [h2, List.getElem_cons_succ, List.take_succ_cons, List.cons_append]
        generalize (lexN ((l.drop (skip l)).drop len) (a + skip l + len) room).toks[k].pos = p at *
        have hst := skip_take l (p - a) (by omega)
        have hd : (l.take (p - a)).drop (skip (l.take (p - a))) = (l.drop (skip l)).take (p - a - skip l) := by rw [hst, List.drop_take]
        have htt := tok_take htk (j := p - a - skip l) (by omega)
        have hne : (l.drop (skip l)).take (p - a - skip l) ≠ [] := by
          rw [h1]
          obtain ⟨m, hm⟩ : ∃ m, p - a - skip l = m + 1 := ⟨p - a - skip l - 1, by omega⟩
          rw [hm]; simp
        rw [lexN_first a _ hd hne, htt, if_neg (by simp), if_neg (by omega), hst]
        dsimp only
        rw [List.take_take, Nat.min_eq_left (by omega), List.drop_take, Nat.add_sub_cancel]
        rw [show p - a - skip l - len = p - (a + skip l + len) from by omega, hih]
        rfl
theorem all_front {T : List UInt8} {p k : Nat} {ts : List Tok} (h : lexAll T = ⟨0, p, ts⟩) (hk : k < ts.length) : lexAll (T.take ts[k].pos) = ⟨0, 0, ts.take k ++ [⟨0, [], 0, ts[k].pos⟩]⟩ := by
  unfold lexAll at h ⊢
  split at h
  · cases h
  · rename_i hn
    rw [if_neg (by rw [List.length_take]; omega)]
    have h2 := lex_front 2000 T 0 k (by rw [h]) (by rw [h]; exact hk)
    simp only [h] at h2
    exact h2
end Go.Proofs.Ytbaffdehhcfffaa.Lx
