/- Plain laws: a name, a word is what is just one token of that kind. No program. Conditions: none. -/
import Derived.Test.YtbaffdehhcfffaaLexAllW
namespace Go.Proofs.Ytbaffdehhcfffaa.Lx
theorem tok_bound : ∀ (f : Nat) (l : List UInt8) (a room : Nat), ∀ t ∈ (lex f l a room).toks, a ≤ t.pos ∧ t.pos + t.text.length ≤ a + l.length := by
  intro f
  induction f with
  | zero => intro l a room t h; cases h
  | succ f ih =>
    intro l a room t h
    cases l with
    | nil => simp [lex] at h; subst h; simp
    | cons c r =>
      rw [lex_cons] at h
      split at h
      · have := ih _ _ _ t h; simp only [List.length_cons]; omega
      split at h
      · have := ih _ _ _ t h
        rw [drop_run, List.length_drop] at this
        have h2 := runLen_le noEnd (c :: r)
        omega
      split at h
      · cases h
      split at h
      · cases h
      · rename_i h1 h2
        have hk := tokOf_len (l := c :: r) (by simpa using h1)
        unfold Res.cons at h
        split at h
        · rcases List.mem_cons.1 h with rfl | h
          · dsimp only; rw [List.length_take]; omega
          · have := ih _ _ _ t h
            rw [List.length_drop] at this
            omega
        · have := ih _ _ _ t h
          rw [List.length_drop] at this
          omega
theorem tokN_bound (l : List UInt8) (a room : Nat) : ∀ t ∈ (lexN l a room).toks, a ≤ t.pos ∧ t.pos + t.text.length ≤ a + l.length := tok_bound _ l a room
/-- The one token of a text that is all of it. -/
theorem whole_tok {c : UInt8} {r : List UInt8} {room : Nat} {t : Tok} {ts : List Tok} (hc : (lexN (c :: r) 0 (room + 1)).code = 0) (ht : (lexN (c :: r) 0 (room + 1)).toks = t :: ts) (hx : t.text = c :: r) :
    tokOf (c :: r) = (0, t.kind, (c :: r).length, t.n) := by
  have hlen : t.text.length = r.length + 1 := by rw [hx]; rfl
  cases hb : blank c with
  | true =>
    rw [lexN_blank _ _ _ hb] at ht
    have := tokN_bound r (0 + 1) (room + 1) t (by rw [ht]; simp)
    omega
  | false =>
    by_cases h35 : c.toNat = 35
    · rw [lexN_remark _ _ _ h35] at ht
      have h1 := tokN_bound _ _ _ t (by rw [ht]; simp)
      have h2 := runLen_pos (p := noEnd) (c := c) (r := r) (by simp [noEnd, h35])
      have h3 := runLen_le noEnd (c :: r)
      rw [List.length_drop] at h1
      simp only [List.length_cons] at h1 h3
      omega
    · by_cases he : (tokOf (c :: r)).1 = 0
      · rw [lexN_tok _ _ _ hb h35 he] at ht hc
        have hk := tokOf_len he
        unfold Res.cons at ht hc
        split at ht
        · simp only [List.cons.injEq] at ht
          have e1 := ht.1
          have e2 : ((c :: r).take (tokOf (c :: r)).2.2.1).length = r.length + 1 := by rw [← hlen, ← e1]
          rw [List.length_take] at e2
          simp only [List.length_cons] at e2 hk ⊢
          rcases htk : tokOf (c :: r) with ⟨er, kind, len, n⟩
          rw [htk] at he e1 e2 hk
          dsimp only at he e1 e2 hk
          subst e1
          dsimp only
          rw [he, show len = r.length + 1 from by omega]
        · rename_i hne
          rw [if_neg hne] at hc
          exact absurd hc hne
      · rw [lexN_bad _ _ _ hb h35 he] at hc
        exact absurd hc he
theorem run_all {p : UInt8 → Bool} {l : List UInt8} (h : l.all p = true) : runLen p l = l.length := (all_run p l).2 h
theorem small_not {c : UInt8} (h : small c = true) : blank c = false ∧ c.toNat ≠ 35 := by
  have h2 : 97 ≤ c.toNat ∧ c.toNat ≤ 122 := by simpa [small] using h
  refine ⟨?_, by omega⟩
  simp [blank]; omega
theorem word_shape {l : List UInt8} (h : isWord l = true) : ∃ c r, l = c :: r ∧ small c = true ∧ l.all alnum = true := by
  have hm := List.contains_iff_mem.1 h
  simp [words] at hm
  rcases hm with h | h | h | h | h | h | h | h | h | h | h | h | h <;> subst h <;> exact ⟨_, _, rfl, by decide, by decide⟩
theorem lex_one {c : UInt8} {r : List UInt8} {kind n : Nat} (hb : blank c = false) (hc : c.toNat ≠ 35) (ht : tokOf (c :: r) = (0, kind, (c :: r).length, n)) (hl : (c :: r).length ≤ 100000) :
    lexAll (c :: r) = ⟨0, 0, [⟨kind, c :: r, n, 0⟩, ⟨0, [], 0, (c :: r).length⟩]⟩ := by
  unfold lexAll
  rw [if_neg (by omega)]
  rw [show (2000 : Nat) = 1999 + 1 from rfl, lexN_tok _ _ _ hb hc (by rw [ht]), ht]
  dsimp only
  rw [List.take_length, List.drop_length, lexN_nil]
  simp [Res.cons]
theorem names_word {l : List UInt8} (h : isWord l = true) : lexAll l = ⟨0, 0, [⟨3, l, 0, 0⟩, ⟨0, [], 0, l.length⟩]⟩ := by
  obtain ⟨c, r, hl, hs, ha⟩ := word_shape h
  have h8 := word_short h
  have ht := tok_small hl hs
  rw [run_all ha, List.take_length, if_pos h] at ht
  subst hl
  obtain ⟨hb, hc⟩ := small_not hs
  exact lex_one hb hc ht (by omega)
theorem names_name {l : List UInt8} (h : isName l = true) : lexAll l = ⟨0, 0, [⟨1, l, 0, 0⟩, ⟨0, [], 0, l.length⟩]⟩ := by
  cases l with
  | nil => cases h
  | cons c r =>
    simp only [isName, Bool.and_eq_true, decide_eq_true_eq, Bool.not_eq_true'] at h
    obtain ⟨⟨⟨hs, h8⟩, ha⟩, hw⟩ := h
    have ht := tok_small (l := c :: r) rfl hs
    rw [run_all ha, List.take_length, if_neg (by rw [hw]; decide), if_neg (by omega)] at ht
    obtain ⟨hb, hc⟩ := small_not hs
    exact lex_one hb hc ht (by omega)
/-- One token that is all of the text: a name if its kind is 1, a word if it is 3. -/
theorem names_alone {l : List UInt8} {p : Nat} {t e : Tok} (h : lexAll l = ⟨0, p, [t, e]⟩) (hx : t.text = l) : isName l = (t.kind == 1) ∧ isWord l = (t.kind == 3) := by
  by_cases hw : isWord l = true
  · have h2 := names_word hw
    rw [h2] at h
    simp only [Res.mk.injEq, List.cons.injEq] at h
    obtain ⟨_, _, rfl, _⟩ := h
    refine ⟨?_, hw⟩
    cases hn : isName l with
    | false => rfl
    | true =>
      have h3 := names_name hn
      rw [h2] at h3
      simp at h3
  · have hwf : isWord l = false := by simpa using hw
    by_cases hn : isName l = true
    · have h2 := names_name hn
      rw [h2] at h
      simp only [Res.mk.injEq, List.cons.injEq] at h
      obtain ⟨_, _, rfl, _⟩ := h
      exact ⟨hn, hwf⟩
    · have hnf : isName l = false := by simpa using hn
      rw [hnf, hwf]
      cases l with
      | nil =>
        have : lexAll [] = ⟨0, 0, [⟨0, [], 0, 0⟩]⟩ := rfl
        rw [this] at h
        simp at h
      | cons c r =>
        unfold lexAll at h
        split at h
        · simp at h
        · rename_i hl
          have ht := whole_tok (room := 1999) (t := t) (ts := [e]) (by rw [h]) (by rw [h]) hx
          cases hs : small c with
          | true =>
            have h3 := tok_small (l := c :: r) rfl hs
            rw [ht] at h3
            split at h3
            · rename_i hww
              have e1 : (c :: r).length = runLen alnum (c :: r) := congrArg (fun x => x.2.2.1) h3
              rw [← e1, List.take_length] at hww
              exact absurd hww hw
            split at h3
            · cases h3
            · rename_i _ h8
              exfalso
              have e1 : (c :: r).length = runLen alnum (c :: r) := congrArg (fun x => x.2.2.1) h3
              have ha := (all_run alnum (c :: r)).1 e1.symm
              apply hn
              simp only [isName, hs, ha, hwf, Bool.true_and, Bool.and_true, Bool.not_false, decide_eq_true_eq]
              omega
          | false =>
            cases hd : digit c with
            | true =>
              have h3 := tok_digit (l := c :: r) rfl hs hd
              rw [ht] at h3
              split at h3
              · cases h3
              split at h3
              · have e1 : t.kind = 2 := congrArg (fun x => x.2.1) h3
                rw [e1]; exact ⟨rfl, rfl⟩
              · cases h3
            | false =>
              have h3 := tok_sign (l := c :: r) rfl hs hd
              rw [ht] at h3
              split at h3
              · cases h3
              · have e1 : t.kind = 4 := congrArg (fun x => x.2.1) h3
                rw [e1]; exact ⟨rfl, rfl⟩
theorem names_not {l : List UInt8} (h : ∀ p t e, lexAll l = ⟨0, p, [t, e]⟩ → t.text ≠ l) : isName l = false ∧ isWord l = false := by
  constructor
  · cases hn : isName l with
    | false => rfl
    | true => exact absurd rfl (h _ _ _ (names_name hn))
  · cases hn : isWord l with
    | false => rfl
    | true => exact absurd rfl (h _ _ _ (names_word hn))
end Go.Proofs.Ytbaffdehhcfffaa.Lx
