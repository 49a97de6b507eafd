/- Plain laws: what stands behind a fault; a number's digits; two thousand tokens. No program. Conditions: none. -/
import Derived.Test.YtbaffdehhcfffaaMoreP
namespace Go.Proofs.Ytbaffdehhcfffaa.Lx
theorem run_take_lt {p : UInt8 → Bool} : ∀ (l : List UInt8) (j : Nat), j ≤ runLen p l → runLen p (l.take j) = j := by
  intro l
  induction l with
  | nil => intro j h; simp [runLen] at h; subst h; rfl
  | cons c r ih =>
    intro j h
    cases j with
    | zero => rfl
    | succ j =>
      cases hc : p c with
      | false => rw [runLen_cons_no _ hc] at h; omega
      | true =>
        rw [runLen_cons_yes _ hc] at h
        rw [List.take_succ_cons, runLen_cons_yes _ hc, ih j (by omega)]
theorem take_run_take {p : UInt8 → Bool} {l : List UInt8} {j : Nat} (h : runLen p l ≤ j) : (l.take j).take (runLen p l) = l.take (runLen p l) := by rw [List.take_take, Nat.min_eq_left h]
theorem take_ne {l : List UInt8} {m : Nat} (h : l ≠ []) (hm : 0 < m) : l.take m ≠ [] := by
  cases l with
  | nil => exact absurd rfl h
  | cons c t => cases m with
    | zero => omega
    | succ m => simp
/-- A fault at a text's begin hangs on its first 21 bytes. -/
theorem tok_bad_take {l : List UInt8} {j : Nat} (h : (tokOf l).1 ≠ 0) (hl : l ≠ []) (hj : 21 ≤ j) : (tokOf (l.take j)).1 = (tokOf l).1 := by
  cases l with
  | nil => exact absurd rfl hl
  | cons c t =>
    have hj1 := digit_take (c := c) (t := t) j (by omega)
    cases hs : small c with
    | true =>
      rw [tok_small rfl hs] at h ⊢
      rw [tok_small hj1 hs]
      rcases Nat.le_total (runLen alnum (c :: t)) j with hr | hr
      · rw [run_take _ _ hr, take_run_take hr]
      · rw [run_take_lt _ _ hr, List.take_take, Nat.min_self]
        have hle := runLen_le alnum (c :: t)
        have w1 : isWord ((c :: t).take j) = false := by
          cases hw : isWord ((c :: t).take j) with
          | false => rfl
          | true => have := word_short hw; rw [List.length_take] at this; omega
        have w2 : isWord ((c :: t).take (runLen alnum (c :: t))) = false := by
          cases hw : isWord ((c :: t).take (runLen alnum (c :: t))) with
          | false => rfl
          | true => have := word_short hw; rw [List.length_take] at this; omega
        rw [w1, w2]
        simp only [Bool.false_eq_true, if_false]
        rw [if_pos (by omega), if_pos (by omega)]
    | false =>
      cases hd : digit c with
      | true =>
        rw [tok_digit rfl hs hd] at h ⊢
        rw [tok_digit hj1 hs hd]
        rcases Nat.le_total (runLen digit (c :: t)) j with hr | hr
        · rw [run_take _ _ hr, take_run_take hr]
        · rw [run_take_lt _ _ hr, List.take_take, Nat.min_self]
          have hle := runLen_le digit (c :: t)
          by_cases h0 : c.toNat = 48
          · rw [if_pos ⟨by omega, h0⟩, if_pos ⟨by omega, h0⟩]
          · have hjl : j - 1 ≤ t.length := by simp only [List.length_cons] at hle; omega
            have b1 := value_big2 (r := t.take (j - 1)) hd h0 (by rw [List.length_take]; omega)
            have b2 := value_big2 (r := t.take (runLen digit (c :: t) - 1)) hd h0 (by rw [List.length_take]; simp only [List.length_cons] at hle; omega)
            rw [← digit_take _ (by omega)] at b1 b2
            have n1 : ¬ (1 < j ∧ c.toNat = 48) := fun hh => h0 hh.2
            have n2 : ¬ (1 < runLen digit (c :: t) ∧ c.toNat = 48) := fun hh => h0 hh.2
            rw [if_neg n1, if_neg n2, if_neg (by omega), if_neg (by omega)]
      | false =>
        rw [tok_sign rfl hs hd] at h ⊢
        have h2 := sign_le2 (c :: t)
        rw [tok_sign hj1 hs hd, sign_take c t j (by omega) (by omega)]
theorem cons_bad {t : Tok} {r : Res} (h : (Res.cons t r).code ≠ 0) : r.code ≠ 0 ∧ Res.cons t r = r := by
  unfold Res.cons at h ⊢
  by_cases h0 : r.code = 0
  · rw [if_pos h0] at h; exact absurd h0 h
  · rw [if_neg h0]; exact ⟨h0, rfl⟩
theorem tok_code (l : List UInt8) : (tokOf l).1 = 0 ∨ (tokOf l).1 = 2 ∨ (tokOf l).1 = 4 := by
  unfold tokOf
  split
  · simp
  · split
    · split
      · simp
      split
      · simp
      · simp
    split
    · split
      · simp
      split
      · simp
      · simp
    split
    · simp
    · simp
/-- Ahead of the first fault all is well; what stands far behind it says nothing. -/
theorem lex_fault : ∀ (room : Nat) (l : List UInt8) (a : Nat), (lexN l a room).code ≠ 0 → a ≤ (lexN l a room).pos ∧ (lexN l a room).pos < a + l.length ∧ ((lexN l a room).code = 2 ∨ (lexN l a room).code = 4) ∧
    (lexN (l.take ((lexN l a room).pos - a)) a room).code = 0 ∧
    ∀ j, (21 ≤ j ∨ (lexN l a room).pos - a + j = l.length) → (lexN l a room).pos - a + j ≤ l.length → lexN (l.take ((lexN l a room).pos - a + j)) a room = lexN l a room := by
  intro room
  induction room with
  | zero =>
    intro l a hc
    by_cases hd : l.drop (skip l) = []
    · rw [lexN_end a _ hd] at hc; exact absurd rfl hc
    · have hf := lexN_first a 0 rfl hd
      have hle := skip_le l
      generalize hl' : l.drop (skip l) = l' at *
      have hll : l.length = skip l + l'.length := by rw [← hl', List.length_drop]; omega
      have hpos : 0 < l'.length := List.length_pos_iff.2 hd
      have hfr : (lexN (l.take (skip l)) a 0).code = 0 := by
        rw [lexN_end a _ (by rw [skip_take l _ (Nat.le_refl _)]; apply List.drop_of_length_le; rw [List.length_take]; omega)]
      have hdj : ∀ j, (l.take (skip l + j)).drop (skip (l.take (skip l + j))) = l'.take j := fun j => by
        rw [skip_take l _ (by omega), List.drop_take, hl']; congr 1; omega
      have hnj : ∀ j, (21 ≤ j ∨ skip l + j = l.length) → l'.take j ≠ [] := fun j hj => take_ne hd (by omega)
      split at hf
      · rename_i hb
        rw [hf]
        dsimp only
        rw [Nat.add_sub_cancel_left]
        refine ⟨by omega, by omega, by have := tok_code l'; omega, hfr, fun j hj hj2 => ?_⟩
        have htj : (tokOf (l'.take j)).1 = (tokOf l').1 := by
          rcases hj with hj | hj
          · exact tok_bad_take hb hd hj
          · rw [List.take_of_length_le (by omega)]
        rw [lexN_first a 0 (hdj j) (hnj j hj), htj, if_pos hb, skip_take l _ (by omega)]
      · rename_i hb
        rw [if_pos rfl] at hf
        rw [hf]
        dsimp only
        rw [Nat.add_sub_cancel_left]
        refine ⟨by omega, by omega, .inr rfl, hfr, fun j hj hj2 => ?_⟩
        rcases htk : tokOf l' with ⟨er, kind, len, n⟩
        rw [htk] at hb
        obtain rfl : er = 0 := by simpa using hb
        have h19 := tok_len19 htk
        have htj : tokOf (l'.take j) = (0, kind, len, n) := by
          rcases hj with hj | hj
          · exact tok_take htk (by omega)
          · rw [List.take_of_length_le (by omega), htk]
        rw [lexN_first a 0 (hdj j) (hnj j hj), htj, if_neg (by simp), if_pos rfl, skip_take l _ (by omega)]
  | succ room ih =>
    intro l a hc
    by_cases hd : l.drop (skip l) = []
    · rw [lexN_end a _ hd] at hc; exact absurd rfl hc
    · have hf := lexN_first a (room + 1) rfl hd
      have hle := skip_le l
      generalize hl' : l.drop (skip l) = l' at *
      have hll : l.length = skip l + l'.length := by rw [← hl', List.length_drop]; omega
      have hpos : 0 < l'.length := List.length_pos_iff.2 hd
      have hfr : (lexN (l.take (skip l)) a (room + 1)).code = 0 := by
        rw [lexN_end a _ (by rw [skip_take l _ (Nat.le_refl _)]; apply List.drop_of_length_le; rw [List.length_take]; omega)]
      have hdj : ∀ m, skip l ≤ m → (l.take m).drop (skip (l.take m)) = l'.take (m - skip l) := fun m hm => by
        rw [skip_take l _ hm, List.drop_take, hl']
      split at hf
      · rename_i hb
        have hnj : ∀ j, (21 ≤ j ∨ skip l + j = l.length) → l'.take j ≠ [] := fun j hj => take_ne hd (by omega)
        rw [hf]
        dsimp only
        rw [Nat.add_sub_cancel_left]
        refine ⟨by omega, by omega, by have := tok_code l'; omega, hfr, fun j hj hj2 => ?_⟩
        have htj : (tokOf (l'.take j)).1 = (tokOf l').1 := by
          rcases hj with hj | hj
          · exact tok_bad_take hb hd hj
          · rw [List.take_of_length_le (by omega)]
        have hdj2 := hdj (skip l + j) (by omega)
        rw [Nat.add_sub_cancel_left] at hdj2
        rw [lexN_first a _ hdj2 (hnj j hj), htj, if_pos hb, skip_take l _ (by omega)]
      · rename_i hb
        rw [if_neg (by omega)] at hf
        have hk := tokOf_len (l := l') (by simpa using hb)
        rcases htk : tokOf l' with ⟨er, kind, len, n⟩
        rw [htk] at hb hf hk
        obtain rfl : er = 0 := by simpa using hb
        dsimp only at hf hk
        rw [Nat.add_sub_cancel] at hf
        rw [hf] at hc
        obtain ⟨hc0, hcr⟩ := cons_bad hc
        rw [hf, hcr]
        obtain ⟨i1, i2, i3, i4, i5⟩ := ih _ _ hc0
        rw [List.length_drop] at i2
        have key : ∀ m, len ≤ m → lexN (l.take (skip l + m)) a (room + 1) = Res.cons ⟨kind, l'.take len, n, a + skip l⟩ (lexN ((l'.drop len).take (m - len)) (a + skip l + len) room) := by
          intro m hm
          have hdm := hdj (skip l + m) (by omega)
          rw [Nat.add_sub_cancel_left] at hdm
          have hne : l'.take m ≠ [] := take_ne hd (by omega)
          have htm := tok_take htk (j := m) hm
          rw [lexN_first a _ hdm hne, htm, if_neg (by simp), if_neg (by omega), skip_take l _ (by omega)]
          dsimp only
          rw [List.take_take, Nat.min_eq_left hm, List.drop_take, Nat.add_sub_cancel]
        generalize hq : lexN (l'.drop len) (a + skip l + len) room = q at *
        refine ⟨by omega, by omega, i3, ?_, fun j hj hj2 => ?_⟩
        · have hk2 := key (q.pos - a - skip l) (by omega)
          rw [show skip l + (q.pos - a - skip l) = q.pos - a from by omega, show q.pos - a - skip l - len = q.pos - (a + skip l + len) from by omega] at hk2
          rw [hk2]
          unfold Res.cons
          rw [if_pos i4]
          exact i4
        · have hk2 := key (q.pos - a + j - skip l) (by omega)
          have i6 := i5 j (by rw [List.length_drop]; omega) (by rw [List.length_drop]; omega)
          rw [show skip l + (q.pos - a + j - skip l) = q.pos - a + j from by omega, show q.pos - a + j - skip l - len = q.pos - (a + skip l + len) + j from by omega, i6] at hk2
          rw [hk2]
          unfold Res.cons
          rw [if_neg hc0]
theorem fault_all {T : List UInt8} {c p : Nat} {ts : List Tok} (h : lexAll T = ⟨c, p, ts⟩) (hc : c ≠ 0) (hl : T.length ≤ 100000) : p < T.length ∧ (c = 2 ∨ c = 4) ∧ ts = [] ∧ (lexAll (T.take p)).code = 0 ∧
    ∀ j, (21 ≤ j ∨ p + j = T.length) → p + j ≤ T.length → lexAll (T.take (p + j)) = ⟨c, p, ts⟩ := by
  have hn := bad_nil (l := T) (by rw [h]; exact hc)
  rw [h] at hn
  have h2 : lexN T 0 2000 = ⟨c, p, ts⟩ := by unfold lexAll at h; rw [if_neg (by omega)] at h; exact h
  obtain ⟨_, i2, i3, i4, i5⟩ := lex_fault 2000 T 0 (by rw [h2]; exact hc)
  rw [h2] at i2 i3 i4 i5
  dsimp only at i2 i3 i4 i5 hn
  simp only [Nat.zero_add, Nat.sub_zero] at i2 i4 i5
  refine ⟨i2, i3, hn, ?_, fun j hj hj2 => ?_⟩
  · unfold lexAll
    rw [if_neg (by rw [List.length_take]; omega)]
    exact i4
  · unfold lexAll
    rw [if_neg (by rw [List.length_take]; omega)]
    exact i5 j hj hj2
theorem all_long {T : List UInt8} (hl : 100000 < T.length) : lexAll T = ⟨4, 0, []⟩ := by unfold lexAll; rw [if_pos hl]
/-- A number's digits. -/
def dec (n : Nat) : List UInt8 := if h : n < 10 then [UInt8.ofNat (48 + n)] else dec (n / 10) ++ [UInt8.ofNat (48 + n % 10)]
termination_by n
decreasing_by omega
theorem dec_small {n : Nat} (h : n < 10) : dec n = [UInt8.ofNat (48 + n)] := by rw [dec, dif_pos h]
theorem dec_big {n : Nat} (h : ¬ n < 10) : dec n = dec (n / 10) ++ [UInt8.ofNat (48 + n % 10)] := by rw [dec, dif_neg h]
theorem one_digit {d : Nat} (h : d < 10) : digit (UInt8.ofNat (48 + d)) = true ∧ (UInt8.ofNat (48 + d)).toNat = 48 + d := by
  have : (UInt8.ofNat (48 + d)).toNat = 48 + d := by rw [UInt8.toNat_ofNat']; omega
  refine ⟨?_, this⟩
  unfold digit
  rw [this]
  simp; omega
theorem value_snoc (l : List UInt8) (d : UInt8) : value (l ++ [d]) = value l * 10 + (d.toNat - 48) := by
  unfold value digitsFrom
  rw [List.foldl_append]; rfl
theorem dec_facts : ∀ n : Nat, (dec n).all digit = true ∧ value (dec n) = n ∧ ∃ c r, dec n = c :: r ∧ (n ≠ 0 → c.toNat ≠ 48) := by
  intro n
  induction n using Nat.strongRecOn with
  | ind n ih =>
    by_cases h : n < 10
    · have h1 := one_digit h
      rw [dec_small h]
      refine ⟨by rw [List.all_cons, h1.1]; rfl, ?_, _, _, rfl, fun h0 => by rw [h1.2]; omega⟩
      have := value_snoc [] (UInt8.ofNat (48 + n))
      rw [List.nil_append] at this
      rw [this, h1.2]
      simp [value, digitsFrom]
    · obtain ⟨i1, i2, c, r, i3, i4⟩ := ih (n / 10) (by omega)
      have h1 := one_digit (d := n % 10) (by omega)
      rw [dec_big h]
      refine ⟨by simp only [List.all_append, i1, List.all_cons, h1.1, List.all_nil, Bool.and_self], ?_, c, r ++ [UInt8.ofNat (48 + n % 10)], by rw [i3]; rfl, fun _ => i4 (by omega)⟩
      rw [value_snoc, i2, h1.2]; omega
/-- What a row of digits is cut into. -/
theorem lex_digits {c : UInt8} {r : List UInt8} (ha : (c :: r).all digit = true) (hl : (c :: r).length ≤ 100000) : lexAll (c :: r) =
    if 1 < (c :: r).length ∧ c.toNat = 48 then ⟨2, 0, []⟩ else if value (c :: r) ≤ 9223372036854775807 then ⟨0, 0, [⟨2, c :: r, value (c :: r), 0⟩, ⟨0, [], 0, (c :: r).length⟩]⟩ else ⟨4, 0, []⟩ := by
  have hd : digit c = true := by simp at ha; exact ha.1
  have hc : 48 ≤ c.toNat ∧ c.toNat ≤ 57 := by simpa [digit] using hd
  have hs : small c = false := by simp [small]; omega
  have hb : blank c = false := by simp [blank]; omega
  have hr := run_all ha
  have ht := tok_digit (l := c :: r) rfl hs hd
  rw [hr, List.take_of_length_le (Nat.le_refl _)] at ht
  by_cases h1 : 1 < (c :: r).length ∧ c.toNat = 48
  · rw [if_pos h1] at ht ⊢
    unfold lexAll
    rw [if_neg (by omega), lexN_bad _ _ _ hb (by omega) (by rw [ht]; simp), ht]
  · rw [if_neg h1] at ht ⊢
    by_cases h2 : value (c :: r) ≤ 9223372036854775807
    · rw [if_pos h2] at ht ⊢
      exact lex_one hb (by omega) ht hl
    · rw [if_neg h2] at ht ⊢
      unfold lexAll
      rw [if_neg (by omega), lexN_bad _ _ _ hb (by omega) (by rw [ht]; simp), ht]
theorem dec_len {n : Nat} (h : n ≤ 9223372036854775807) : (dec n).length ≤ 19 := by
  obtain ⟨h1, h2, c, r, h3, h4⟩ := dec_facts n
  apply Decidable.byContradiction
  intro hn
  rw [h3] at hn h1 h2
  simp only [List.length_cons] at hn
  by_cases h0 : n = 0
  · subst h0
    rw [dec_small (by omega)] at h3
    cases h3
    simp at hn
  · have := value_big2 (c := c) (r := r) (by simp at h1; exact h1.1) (h4 h0) (by omega)
    omega
theorem dec_zero : dec 0 = [48] := by rw [dec_small (by omega)]; rfl
theorem all_dec {n : Nat} (h : n ≤ 9223372036854775807) : lexAll (dec n) = ⟨0, 0, [⟨2, dec n, n, 0⟩, ⟨0, [], 0, (dec n).length⟩]⟩ := by
  obtain ⟨h1, h2, c, r, h3, h4⟩ := dec_facts n
  have h5 := dec_len h
  rw [h3] at h1 h2 h5 ⊢
  rw [lex_digits h1 (by omega), if_neg ?_, if_pos (by omega), h2]
  rintro ⟨q1, q2⟩
  by_cases h0 : n = 0
  · subst h0
    rw [dec_zero] at h3
    cases h3
    simp at q1
  · exact h4 h0 q2
theorem all_zero_dec {n : Nat} (h : n ≤ 9223372036854775807) : lexAll (48 :: dec n) = ⟨2, 0, []⟩ := by
  obtain ⟨h1, h2, c, r, h3, h4⟩ := dec_facts n
  have h5 := dec_len h
  rw [lex_digits (by simp only [List.all_cons, h1, Bool.and_true]; decide) (by simp; omega), if_pos ⟨by rw [h3]; simp, by decide⟩]
theorem all_dec_zero {n : Nat} (h : n ≤ 9223372036854775807) (h0 : n ≠ 0) : lexAll (dec n ++ [48]) = if n ≤ 922337203685477580 then ⟨0, 0, [⟨2, dec n ++ [48], n * 10, 0⟩, ⟨0, [], 0, (dec n).length + 1⟩]⟩ else ⟨4, 0, []⟩ := by
  obtain ⟨h1, h2, c, r, h3, h4⟩ := dec_facts n
  have h5 := dec_len h
  have hv := value_snoc (dec n) 48
  rw [h2] at hv
  have hv2 : value (dec n ++ [48]) = n * 10 := hv
  have ha : (dec n ++ [48]).all digit = true := by simp only [List.all_append, h1, List.all_cons, List.all_nil, Bool.and_true]; decide
  rw [h3] at ha hv2 h5 ⊢
  rw [List.cons_append] at *
  rw [lex_digits ha (by simp at *; omega), if_neg (fun hh => h4 h0 hh.2), hv2]
  by_cases h6 : n ≤ 922337203685477580
  · rw [if_pos h6, if_pos (by omega)]
    simp
  · rw [if_neg h6, if_neg (by omega)]
/-- A piece, again and again. -/
def rep (s : List UInt8) : Nat → List UInt8
  | 0 => []
  | n + 1 => s ++ rep s n
theorem rep_snoc (s : List UInt8) : ∀ n, rep s n ++ s = rep s (n + 1) := by
  intro n
  induction n with
  | zero => simp [rep]
  | succ n ih => rw [rep, List.append_assoc, ih]; rfl
theorem rep_len (s : List UInt8) : ∀ n, (rep s n).length = n * s.length := by
  intro n
  induction n with
  | zero => simp [rep]
  | succ n ih => rw [rep, List.length_append, ih, Nat.succ_mul, Nat.add_comm]
def tailR : List UInt8 := [32, 35, 32, 97, 110, 100, 32, 110, 111, 32, 109, 111, 114, 101]
theorem tail_end : skip tailR = tailR.length := by decide
/-- A row of one token, again and again. -/
theorem lex_rep {s : List UInt8} (h1 : ∀ r a room, ∃ t, lexN (s ++ r) a (room + 1) = Res.cons t (lexN r (a + s.length) room)) (h0 : ∀ r a, lexN (s ++ r) a 0 = ⟨4, a, []⟩) :
    ∀ (n room a : Nat), (n ≤ room → (lexN (rep s n ++ tailR) a room).code = 0 ∧ (lexN (rep s n ++ tailR) a room).toks.length = n + 1) ∧ (room < n → lexN (rep s n ++ tailR) a room = ⟨4, a + room * s.length, []⟩) := by
  intro n
  induction n with
  | zero =>
    intro room a
    refine ⟨fun _ => ?_, fun h => absurd h (by omega)⟩
    rw [show rep s 0 ++ tailR = tailR from rfl, lexN_end a room (by rw [tail_end]; rfl)]
    exact ⟨rfl, rfl⟩
  | succ n ih =>
    intro room a
    rw [show rep s (n + 1) ++ tailR = s ++ (rep s n ++ tailR) from by rw [rep, List.append_assoc]]
    cases room with
    | zero =>
      refine ⟨fun h => absurd h (by omega), fun _ => ?_⟩
      rw [h0]; simp
    | succ room =>
      obtain ⟨t, ht⟩ := h1 (rep s n ++ tailR) a room
      have hi := ih room (a + s.length)
      rw [ht]
      refine ⟨fun h => ?_, fun h => ?_⟩
      · obtain ⟨j1, j2⟩ := hi.1 (by omega)
        unfold Res.cons
        rw [if_pos j1]
        exact ⟨j1, by simp [j2]⟩
      · rw [hi.2 (by omega)]
        unfold Res.cons
        rw [if_neg (by simp)]
        rw [Nat.succ_mul, Nat.add_assoc, Nat.add_comm s.length]
theorem tok_semi (r : List UInt8) : tokOf (59 :: r) = (0, 4, 1, 0) := by
  have hp : pairs.contains ((59 :: r).take 2) = false := by
    cases r with
    | nil => rfl
    | cons d r => simp [pairs]
  rw [tok_sign rfl (by decide) (by decide)]
  have e : signLen (59 :: r) = 1 := by unfold signLen; rw [hp]; rfl
  rw [e]; rfl
theorem tok_a (r : List UInt8) : tokOf (97 :: 32 :: r) = (0, 1, 1, 0) := by
  rw [tok_small rfl (by decide)]
  have e : runLen alnum (97 :: 32 :: r) = 1 := by rw [runLen_cons_yes _ (by decide), runLen_cons_no _ (by decide)]
  rw [e]; rfl
theorem all_rep {s : List UInt8} (hs : s = [59] ∨ s = [97, 32]) {n : Nat} (hn : n ≤ 3000) : (n ≤ 2000 → (lexAll (rep s n ++ tailR)).code = 0 ∧ (lexAll (rep s n ++ tailR)).toks.length = n + 1) ∧
    (2000 < n → lexAll (rep s n ++ tailR) = ⟨4, 2000 * s.length, []⟩) := by
  have hl : (rep s n ++ tailR).length ≤ 100000 := by
    rw [List.length_append, rep_len]
    rcases hs with rfl | rfl
    · simp [tailR]; omega
    · simp [tailR]; omega
  unfold lexAll
  rw [if_neg (by omega)]
  have h := lex_rep (s := s) ?_ ?_ n 2000 0
  · rw [Nat.zero_add] at h; exact h
  · intro r a room
    rcases hs with rfl | rfl
    · refine ⟨⟨4, [59], 0, a⟩, ?_⟩
      rw [show [59] ++ r = 59 :: r from rfl, lexN_tok _ _ _ (by decide) (by decide) (by rw [tok_semi]), tok_semi]; rfl
    · refine ⟨⟨1, [97], 0, a⟩, ?_⟩
      rw [show [97, 32] ++ r = 97 :: 32 :: r from rfl, lexN_tok _ _ _ (by decide) (by decide) (by rw [tok_a]), tok_a]
      show Res.cons _ (lexN (32 :: r) (a + 1) room) = _
      rw [lexN_blank32]; rfl
  · intro r a
    rcases hs with rfl | rfl
    · rw [show [59] ++ r = 59 :: r from rfl, lexN_full _ _ (by decide) (by decide) (by rw [tok_semi])]
    · rw [show [97, 32] ++ r = 97 :: 32 :: r from rfl, lexN_full _ _ (by decide) (by decide) (by rw [tok_a])]
end Go.Proofs.Ytbaffdehhcfffaa.Lx
