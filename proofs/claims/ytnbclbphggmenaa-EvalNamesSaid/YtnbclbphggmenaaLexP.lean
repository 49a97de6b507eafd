/- Plain definitions: what cutting a text into tokens comes to, and first laws of it. No program. Conditions: none. -/
import Derived.WalkKit
namespace Go.Proofs.Ytnbclbphggmenaa.Lx
def small (c : UInt8) : Bool := decide (97 ≤ c.toNat) && decide (c.toNat ≤ 122)
def digit (c : UInt8) : Bool := decide (48 ≤ c.toNat) && decide (c.toNat ≤ 57)
def alnum (c : UInt8) : Bool := small c || digit c
def blank (c : UInt8) : Bool := c.toNat == 32 || c.toNat == 9 || c.toNat == 10 || c.toNat == 13
def noEnd (c : UInt8) : Bool := c.toNat != 10
def words : List (List UInt8) := [[103, 108, 111, 98, 97, 108], [112, 114, 111, 99], [118, 97, 114], [114, 101, 102], [105, 102], [101, 108, 115, 101], [119, 104, 105, 108, 101], [98, 114, 101, 97, 107], [99, 111, 110, 116, 105, 110, 117, 101], [114, 101, 116, 117, 114, 110], [103, 111, 116, 111], [114, 101, 97, 100], [112, 114, 105, 110, 116]]
def isWord (t : List UInt8) : Bool := words.contains t
def runLen (p : UInt8 → Bool) (l : List UInt8) : Nat := (l.takeWhile p).length
def pairs : List (List UInt8) := [[61, 61], [33, 61], [60, 61], [62, 61], [38, 38], [124, 124]]
def singles : List Nat := [40, 41, 123, 125, 44, 59, 58, 61, 33, 60, 62, 43, 45, 42, 47, 37]
def signLen (l : List UInt8) : Nat :=
  if pairs.contains (l.take 2) then 2 else match l with
  | [] => 0
  | c :: _ => if singles.contains c.toNat then 1 else 0
def digitsFrom (n : Nat) (l : List UInt8) : Nat := l.foldl (fun n c => n * 10 + (c.toNat - 48)) n
def value (l : List UInt8) : Nat := digitsFrom 0 l
/-- A name: 1 to 8 small letters and digits, a letter first, and no word. -/
def isName (l : List UInt8) : Bool :=
  match l with
  | [] => false
  | c :: _ => small c && decide (l.length ≤ 8) && l.all alnum && !isWord l
structure Tok where
  kind : Nat
  text : List UInt8
  n : Nat
  pos : Nat
structure Res where
  code : Nat
  pos : Nat
  toks : List Tok
/-- The token with which a text begins: its error (0: none), kind, length, worth. -/
def tokOf (l : List UInt8) : Nat × Nat × Nat × Nat :=
  match l with
  | [] => (2, 0, 0, 0)
  | c :: _ =>
    if small c then
      (if isWord (l.take (runLen alnum l)) then (0, 3, runLen alnum l, 0) else if 8 < runLen alnum l then (4, 0, 0, 0) else (0, 1, runLen alnum l, 0))
    else if digit c then
      (if 1 < runLen digit l ∧ c.toNat = 48 then (2, 0, 0, 0)
       else if value (l.take (runLen digit l)) ≤ 9223372036854775807 then (0, 2, runLen digit l, value (l.take (runLen digit l))) else (4, 0, 0, 0))
    else if signLen l = 0 then (2, 0, 0, 0) else (0, 4, signLen l, 0)
def Res.cons (t : Tok) (r : Res) : Res := if r.code = 0 then ⟨r.code, r.pos, t :: r.toks⟩ else r
def lex : Nat → List UInt8 → Nat → Nat → Res
  | 0, _, at0, _ => ⟨2, at0, []⟩
  | f + 1, l, at0, room =>
    match l with
    | [] => ⟨0, 0, [⟨0, [], 0, at0⟩]⟩
    | c :: r =>
      if blank c then lex f r (at0 + 1) room
      else if c.toNat == 35 then lex f (l.dropWhile noEnd) (at0 + runLen noEnd l) room
      else if (tokOf l).1 ≠ 0 then ⟨(tokOf l).1, at0, []⟩
      else if room = 0 then ⟨4, at0, []⟩
      else Res.cons ⟨(tokOf l).2.1, l.take (tokOf l).2.2.1, (tokOf l).2.2.2, at0⟩ (lex f (l.drop (tokOf l).2.2.1) (at0 + (tokOf l).2.2.1) (room - 1))
def lexN (l : List UInt8) (at0 room : Nat) : Res := lex (l.length + 1) l at0 room
def lexAll (l : List UInt8) : Res := if 100000 < l.length then ⟨4, 0, []⟩ else lexN l 0 2000
/-- What stands ahead, then what a cut of the rest gives. -/
def fin (acc : List Tok) (r : Res) : Res := if r.code = 0 then ⟨r.code, r.pos, acc ++ r.toks⟩ else r
theorem runLen_pos {p : UInt8 → Bool} {c : UInt8} {r : List UInt8} (h : p c = true) : 1 ≤ runLen p (c :: r) := by
  unfold runLen; rw [List.takeWhile_cons, if_pos h]; simp
theorem runLen_le (p : UInt8 → Bool) (l : List UInt8) : runLen p l ≤ l.length := by
  unfold runLen; exact (List.takeWhile_prefix p).length_le
theorem drop_run (p : UInt8 → Bool) (l : List UInt8) : l.dropWhile p = l.drop (runLen p l) := by
  unfold runLen
  induction l with
  | nil => rfl
  | cons c r ih =>
    by_cases h : p c = true
    · simp [h, ih]
    · simp [h]
theorem take_run (p : UInt8 → Bool) (l : List UInt8) : l.take (runLen p l) = l.takeWhile p := by
  unfold runLen
  induction l with
  | nil => rfl
  | cons c r ih =>
    by_cases h : p c = true
    · simp [h, ih]
    · simp [h]
theorem signLen_le (l : List UInt8) : signLen l ≤ l.length := by
  unfold signLen
  split
  · rename_i h
    have hm := List.contains_iff_mem.1 h
    have h2 : (l.take 2).length = 2 := by
      simp [pairs] at hm
      rcases hm with h | h | h | h | h | h <;> rw [h] <;> rfl
    rw [List.length_take] at h2
    omega
  · split
    · simp
    · split <;> simp
theorem tokOf_len {l : List UInt8} (h : (tokOf l).1 = 0) : 1 ≤ (tokOf l).2.2.1 ∧ (tokOf l).2.2.1 ≤ l.length := by
  cases l with
  | nil => simp [tokOf] at h
  | cons c r =>
    have ha := runLen_le alnum (c :: r)
    have hd := runLen_le digit (c :: r)
    have hs := signLen_le (c :: r)
    unfold tokOf at *
    by_cases hc : small c = true
    · have hp : 1 ≤ runLen alnum (c :: r) := runLen_pos (by simp [alnum, hc])
      simp only [hc, if_true] at *
      split
      · exact ⟨hp, ha⟩
      · rename_i h1
        rw [if_neg h1] at h
        split
        · rename_i h2
          rw [if_pos h2] at h
          cases h
        · exact ⟨hp, ha⟩
    · simp only [hc] at *
      by_cases hg : digit c = true
      · have hp : 1 ≤ runLen digit (c :: r) := runLen_pos hg
        simp only [hg, if_true, if_false, Bool.false_eq_true] at *
        split
        · rename_i h1
          rw [if_pos h1] at h
          cases h
        · rename_i h1
          rw [if_neg h1] at h
          split
          · exact ⟨hp, hd⟩
          · rename_i h2
            rw [if_neg h2] at h
            cases h
      · simp only [hg, if_false, Bool.false_eq_true] at *
        split
        · rename_i h1
          rw [if_pos h1] at h
          cases h
        · rename_i h1
          exact ⟨by simp only at h1 ⊢; omega, hs⟩
theorem lex_fuel : ∀ (f g : Nat) (l : List UInt8) (at0 room : Nat), l.length < f → l.length < g → lex f l at0 room = lex g l at0 room := by
  intro f
  induction f with
  | zero => intro g l at0 room h; omega
  | succ f ih =>
    intro g l at0 room hf hg
    cases g with
    | zero => omega
    | succ g =>
      cases l with
      | nil => rfl
      | cons c r =>
        simp only [lex]
        simp only [List.length_cons] at hf hg
        split
        · exact ih g r _ _ (by omega) (by omega)
        split
        · rename_i h1 h2
          have hl : ((c :: r).dropWhile noEnd).length < (c :: r).length := by
            have : noEnd c = true := by simp only [beq_iff_eq] at h2; simp [noEnd, h2]
            rw [drop_run, List.length_drop]
            have h3 := runLen_pos (r := r) this
            simp only [List.length_cons]
            omega
          simp only [List.length_cons] at hl
          exact ih g _ _ _ (by omega) (by omega)
        split
        · rfl
        split
        · rfl
        · rename_i h3 _
          have hk := tokOf_len (l := c :: r) (by simpa using h3)
          have hl : ((c :: r).drop (tokOf (c :: r)).2.2.1).length ≤ r.length := by
            rw [List.length_drop]; simp only [List.length_cons]; omega
          rw [ih g _ _ _ (by omega) (by omega)]
theorem lexN_of {f : Nat} {l : List UInt8} (at0 room : Nat) (h : l.length < f) : lex f l at0 room = lexN l at0 room := lex_fuel _ _ _ _ _ h (by omega)
theorem lexN_nil (at0 room : Nat) : lexN [] at0 room = ⟨0, 0, [⟨0, [], 0, at0⟩]⟩ := rfl
theorem lex_cons (f : Nat) (c : UInt8) (r : List UInt8) (at0 room : Nat) : lex (f + 1) (c :: r) at0 room =
    if blank c then lex f r (at0 + 1) room
    else if c.toNat == 35 then lex f ((c :: r).dropWhile noEnd) (at0 + runLen noEnd (c :: r)) room
    else if (tokOf (c :: r)).1 ≠ 0 then ⟨(tokOf (c :: r)).1, at0, []⟩
    else if room = 0 then ⟨4, at0, []⟩
    else Res.cons ⟨(tokOf (c :: r)).2.1, (c :: r).take (tokOf (c :: r)).2.2.1, (tokOf (c :: r)).2.2.2, at0⟩ (lex f ((c :: r).drop (tokOf (c :: r)).2.2.1) (at0 + (tokOf (c :: r)).2.2.1) (room - 1)) := rfl
theorem lexN_cons (c : UInt8) (r : List UInt8) (at0 room : Nat) : lexN (c :: r) at0 room =
    if blank c then lex (r.length + 1) r (at0 + 1) room
    else if c.toNat == 35 then lex (r.length + 1) ((c :: r).dropWhile noEnd) (at0 + runLen noEnd (c :: r)) room
    else if (tokOf (c :: r)).1 ≠ 0 then ⟨(tokOf (c :: r)).1, at0, []⟩
    else if room = 0 then ⟨4, at0, []⟩
    else Res.cons ⟨(tokOf (c :: r)).2.1, (c :: r).take (tokOf (c :: r)).2.2.1, (tokOf (c :: r)).2.2.2, at0⟩ (lex (r.length + 1) ((c :: r).drop (tokOf (c :: r)).2.2.1) (at0 + (tokOf (c :: r)).2.2.1) (room - 1)) := rfl
theorem lexN_blank {c : UInt8} (r : List UInt8) (at0 room : Nat) (h : blank c = true) : lexN (c :: r) at0 room = lexN r (at0 + 1) room := by
  rw [lexN_cons, if_pos h]; rfl
theorem not_blank_rem {c : UInt8} (h : c.toNat = 35) : blank c = false := by simp [blank, h]
theorem lexN_remark {c : UInt8} (r : List UInt8) (at0 room : Nat) (h : c.toNat = 35) : lexN (c :: r) at0 room = lexN ((c :: r).drop (runLen noEnd (c :: r))) (at0 + runLen noEnd (c :: r)) room := by
  have hb := not_blank_rem h
  have hn : noEnd c = true := by simp [noEnd, h]
  have h3 := runLen_pos (r := r) hn
  rw [lexN_cons, if_neg (by simp [hb]), if_pos (by simp [h]), drop_run]
  exact lexN_of _ _ (by rw [List.length_drop]; simp only [List.length_cons]; omega)
theorem lexN_bad {c : UInt8} (r : List UInt8) (at0 room : Nat) (hb : blank c = false) (hc : c.toNat ≠ 35) (h : (tokOf (c :: r)).1 ≠ 0) : lexN (c :: r) at0 room = ⟨(tokOf (c :: r)).1, at0, []⟩ := by
  rw [lexN_cons, if_neg (by simp [hb]), if_neg (by simp [hc]), if_pos h]
theorem lexN_full {c : UInt8} (r : List UInt8) (at0 : Nat) (hb : blank c = false) (hc : c.toNat ≠ 35) (h : (tokOf (c :: r)).1 = 0) : lexN (c :: r) at0 0 = ⟨4, at0, []⟩ := by
  rw [lexN_cons, if_neg (by simp [hb]), if_neg (by simp [hc]), if_neg (by simp [h]), if_pos rfl]
theorem lexN_tok {c : UInt8} (r : List UInt8) (at0 room : Nat) (hb : blank c = false) (hc : c.toNat ≠ 35) (h : (tokOf (c :: r)).1 = 0) :
    lexN (c :: r) at0 (room + 1) = Res.cons ⟨(tokOf (c :: r)).2.1, (c :: r).take (tokOf (c :: r)).2.2.1, (tokOf (c :: r)).2.2.2, at0⟩ (lexN ((c :: r).drop (tokOf (c :: r)).2.2.1) (at0 + (tokOf (c :: r)).2.2.1) room) := by
  have hk := tokOf_len h
  rw [lexN_cons, if_neg (by simp [hb]), if_neg (by simp [hc]), if_neg (by simp [h]), if_neg (by omega)]
  rw [lexN_of _ _ (by rw [List.length_drop]; simp only [List.length_cons] at hk ⊢; omega)]
  rfl
theorem fin_nil (r : Res) : fin [] r = r := by unfold fin; split <;> rfl
theorem fin_cons (acc : List Tok) (t : Tok) (r : Res) : fin acc (Res.cons t r) = fin (acc ++ [t]) r := by
  unfold fin Res.cons
  by_cases h : r.code = 0
  · simp [h]
  · simp [h]
end Go.Proofs.Ytnbclbphggmenaa.Lx
