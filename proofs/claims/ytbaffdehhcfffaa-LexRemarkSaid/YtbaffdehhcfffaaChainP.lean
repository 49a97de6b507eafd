/- Plain laws: what is skipped ahead of a token; the first token of a text; a chain of tokens. No program. Conditions: none. -/
import Derived.Test.YtbaffdehhcfffaaNamesP
namespace Go.Proofs.Ytbaffdehhcfffaa.Lx
/-- How many bytes stand ahead of the first token: blanks and remarks. -/
def skipF : Nat → List UInt8 → Nat
  | 0, _ => 0
  | _ + 1, [] => 0
  | f + 1, c :: r => if blank c then skipF f r + 1 else if c.toNat == 35 then skipF f ((c :: r).drop (runLen noEnd (c :: r))) + runLen noEnd (c :: r) else 0
def skip (l : List UInt8) : Nat := skipF (l.length + 1) l
/-- Is it nothing but blanks and remarks (the last remark may have no end, if it may)? -/
def gapF : Nat → Bool → List UInt8 → Bool
  | 0, _, _ => false
  | _ + 1, _, [] => true
  | f + 1, e, c :: r => if c.toNat == 35 then (match (c :: r).drop (runLen noEnd (c :: r)) with
      | [] => e
      | _ :: r' => gapF f e r') else blank c && gapF f e r
def gap (e : Bool) (l : List UInt8) : Bool := gapF (l.length + 1) e l
theorem rem_pos {c : UInt8} (r : List UInt8) (h : c.toNat = 35) : 1 ≤ runLen noEnd (c :: r) := runLen_pos (by simp [noEnd, h])
theorem skipF_fuel : ∀ (f g : Nat) (l : List UInt8), l.length < f → l.length < g → skipF f l = skipF g l := by
  intro f
  induction f with
  | zero => intro g l h; omega
  | succ f ih =>
    intro g l hf hg
    cases g with
    | zero => omega
    | succ g =>
      cases l with
      | nil => rfl
      | cons c r =>
        simp only [List.length_cons] at hf hg
        simp only [skipF]
        split
        · rw [ih g r (by omega) (by omega)]
        split
        · rename_i h
          have hp := rem_pos r (by simpa using h)
          rw [ih g _ (by rw [List.length_drop]; simp only [List.length_cons]; omega) (by rw [List.length_drop]; simp only [List.length_cons]; omega)]
        · rfl
theorem skip_nil : skip [] = 0 := rfl
theorem skip_blank {c : UInt8} (r : List UInt8) (h : blank c = true) : skip (c :: r) = skip r + 1 := by
  show skipF (r.length + 1 + 1) (c :: r) = _
  simp only [skipF, h, if_true]
  rfl
theorem skip_remark {c : UInt8} (r : List UInt8) (h : c.toNat = 35) : skip (c :: r) = skip ((c :: r).drop (runLen noEnd (c :: r))) + runLen noEnd (c :: r) := by
  have hp := rem_pos r h
  show skipF (r.length + 1 + 1) (c :: r) = _
  simp only [skipF, not_blank_rem h, h, beq_self_eq_true, if_true, Bool.false_eq_true, if_false]
  rw [show skip ((c :: r).drop (runLen noEnd (c :: r))) = skipF (r.length + 1) ((c :: r).drop (runLen noEnd (c :: r))) from skipF_fuel _ _ _ (by omega) (by rw [List.length_drop]; simp only [List.length_cons]; omega)]
theorem skip_stop {c : UInt8} (r : List UInt8) (hb : blank c = false) (hc : c.toNat ≠ 35) : skip (c :: r) = 0 := by
  show skipF (r.length + 1 + 1) (c :: r) = _
  have hc' : (c.toNat == 35) = false := by simp [hc]
  simp only [skipF, hb, hc', Bool.false_eq_true, if_false]
/-- Induction along what is skipped. -/
theorem skip_ind {P : List UInt8 → Prop} (hn : P []) (hb : ∀ c r, blank c = true → P r → P (c :: r)) (hr : ∀ c r, c.toNat = 35 → P ((c :: r).drop (runLen noEnd (c :: r))) → P (c :: r))
    (hs : ∀ c r, blank c = false → c.toNat ≠ 35 → P (c :: r)) : ∀ l, P l := by
  have key : ∀ n l, l.length ≤ n → P l := by
    intro n
    induction n with
    | zero =>
      intro l h
      cases l with
      | nil => exact hn
      | cons c r => simp at h
    | succ n ih =>
      intro l h
      cases l with
      | nil => exact hn
      | cons c r =>
        simp only [List.length_cons] at h
        cases hbl : blank c with
        | true => exact hb c r hbl (ih r (by omega))
        | false =>
          by_cases h35 : c.toNat = 35
          · have hp := rem_pos r h35
            exact hr c r h35 (ih _ (by rw [List.length_drop]; simp only [List.length_cons]; omega))
          · exact hs c r hbl h35
  exact fun l => key l.length l (Nat.le_refl _)
theorem skip_le : ∀ l, skip l ≤ l.length := by
  apply skip_ind
  · exact Nat.le_refl _
  · intro c r h ih; rw [skip_blank r h]; simp only [List.length_cons]; omega
  · intro c r h ih
    rw [skip_remark r h]
    rw [List.length_drop] at ih
    have := runLen_le noEnd (c :: r)
    omega
  · intro c r h1 h2; rw [skip_stop r h1 h2]; omega
/-- Cutting goes on behind what is skipped. -/
theorem lexN_skip : ∀ (l : List UInt8) (a room : Nat), lexN l a room = lexN (l.drop (skip l)) (a + skip l) room := by
  apply skip_ind (P := fun l => ∀ (a room : Nat), lexN l a room = lexN (l.drop (skip l)) (a + skip l) room)
  · intro a room; rfl
  · intro c r h ih a room
    rw [lexN_blank _ _ _ h, ih, skip_blank r h, List.drop_succ_cons, show a + 1 + skip r = a + (skip r + 1) from by omega]
  · intro c r h ih a room
    rw [lexN_remark _ _ _ h, ih, skip_remark r h, List.drop_drop, Nat.add_comm (skip _)]
    rw [show a + runLen noEnd (c :: r) + skip ((c :: r).drop (runLen noEnd (c :: r))) = a + (runLen noEnd (c :: r) + skip ((c :: r).drop (runLen noEnd (c :: r)))) from by omega]
  · intro c r h1 h2 a room; rw [skip_stop r h1 h2]; rfl
theorem skip_rest : ∀ l : List UInt8, l.drop (skip l) = [] ∨ ∃ c r, l.drop (skip l) = c :: r ∧ blank c = false ∧ c.toNat ≠ 35 := by
  apply skip_ind
  · exact .inl rfl
  · intro c r h ih; rw [skip_blank r h, List.drop_succ_cons]; exact ih
  · intro c r h ih
    rw [skip_remark r h, Nat.add_comm, ← List.drop_drop]
    exact ih
  · intro c r h1 h2; rw [skip_stop r h1 h2]; exact .inr ⟨c, r, rfl, h1, h2⟩
theorem gapF_fuel (e : Bool) : ∀ (f g : Nat) (l : List UInt8), l.length < f → l.length < g → gapF f e l = gapF g e l := by
  intro f
  induction f with
  | zero => intro g l h; omega
  | succ f ih =>
    intro g l hf hg
    cases g with
    | zero => omega
    | succ g =>
      cases l with
      | nil => rfl
      | cons c r =>
        simp only [List.length_cons] at hf hg
        simp only [gapF]
        split
        · rename_i h
          have hp := rem_pos r (by simpa using h)
          split
          · rfl
          · rename_i _ r' hd
            have hl := congrArg List.length hd
            rw [List.length_drop] at hl
            simp only [List.length_cons] at hl
            exact ih g _ (by omega) (by omega)
        · rw [ih g r (by omega) (by omega)]
theorem gap_nil (e : Bool) : gap e [] = true := rfl
theorem gap_blank (e : Bool) {c : UInt8} (r : List UInt8) (h : blank c = true) : gap e (c :: r) = gap e r := by
  have h35 : (c.toNat == 35) = false := by
    cases hh : (c.toNat == 35) with
    | false => rfl
    | true => rw [not_blank_rem (by simpa using hh)] at h; cases h
  show gapF (r.length + 1 + 1) e (c :: r) = _
  simp only [gapF, h35, h, Bool.false_eq_true, if_false, Bool.true_and]
  rfl
theorem gap_remark_end (e : Bool) {c : UInt8} (r : List UInt8) (h : c.toNat = 35) (hd : (c :: r).drop (runLen noEnd (c :: r)) = []) : gap e (c :: r) = e := by
  show gapF (r.length + 1 + 1) e (c :: r) = _
  simp only [gapF, h, beq_self_eq_true, if_true]
  rw [hd]
theorem gap_remark (e : Bool) {c d : UInt8} (r r' : List UInt8) (h : c.toNat = 35) (hd : (c :: r).drop (runLen noEnd (c :: r)) = d :: r') : gap e (c :: r) = gap e r' := by
  have hl := congrArg List.length hd
  have hp := rem_pos r h
  rw [List.length_drop] at hl
  simp only [List.length_cons] at hl
  show gapF (r.length + 1 + 1) e (c :: r) = _
  simp only [gapF, h, beq_self_eq_true, if_true]
  rw [hd]
  exact gapF_fuel e _ _ _ (by omega) (by omega)
/-- What stands behind a run does not begin with one of the run's own. -/
theorem run_stop {p : UInt8 → Bool} : ∀ {l : List UInt8} {c : UInt8} {r : List UInt8}, l.drop (runLen p l) = c :: r → p c = false := by
  intro l
  induction l with
  | nil => intro c r h; cases h
  | cons a t ih =>
    intro c r h
    cases ha : p a with
    | true => rw [runLen_cons_yes _ ha, List.drop_succ_cons] at h; exact ih h
    | false =>
      rw [runLen_cons_no _ ha, List.drop_zero] at h
      simp only [List.cons.injEq] at h
      rw [← h.1]; exact ha
theorem run_take {p : UInt8 → Bool} : ∀ (l : List UInt8) (m : Nat), runLen p l ≤ m → runLen p (l.take m) = runLen p l := by
  intro l
  induction l with
  | nil => intro m _; simp
  | cons a t ih =>
    intro m hm
    cases ha : p a with
    | true =>
      rw [runLen_cons_yes _ ha] at hm ⊢
      cases m with
      | zero => omega
      | succ m => rw [List.take_succ_cons, runLen_cons_yes _ ha, ih m (by omega)]
    | false =>
      rw [runLen_cons_no _ ha]
      cases m with
      | zero => simp [runLen]
      | succ m => rw [List.take_succ_cons, runLen_cons_no _ ha]
/-- What is skipped is a gap; if it is all of the text, one that may lack its end. -/
theorem gap_skip : ∀ l : List UInt8, (l.drop (skip l) = [] → gap true l = true) ∧ (∀ c r, l.drop (skip l) = c :: r → gap false (l.take (skip l)) = true) := by
  apply skip_ind
  · exact ⟨fun _ => rfl, fun c r h => by cases h⟩
  · intro c r h ih
    rw [skip_blank r h, List.drop_succ_cons, List.take_succ_cons, gap_blank _ _ h, gap_blank _ _ h]
    exact ih
  · intro c r h ih
    have hp := rem_pos r h
    generalize hd : (c :: r).drop (runLen noEnd (c :: r)) = l' at ih
    have hsk : skip (c :: r) = skip l' + runLen noEnd (c :: r) := by rw [skip_remark r h, hd]
    have hdr : (c :: r).drop (skip (c :: r)) = l'.drop (skip l') := by rw [hsk, Nat.add_comm, ← List.drop_drop, hd]
    rw [hdr]
    cases l' with
    | nil =>
      refine ⟨fun _ => gap_remark_end true r h hd, fun c' r' hh => ?_⟩
      simp at hh
    | cons d t =>
      have hn := run_stop hd
      have hbl : blank d = true := by
        have : d.toNat = 10 := by simpa [noEnd] using hn
        simp [blank, this]
      rw [skip_blank t hbl, List.drop_succ_cons, List.take_succ_cons, gap_blank _ _ hbl, gap_blank _ _ hbl] at ih
      rw [skip_blank t hbl, List.drop_succ_cons]
      refine ⟨fun hh => by rw [gap_remark true r t h hd]; exact ih.1 hh, fun c' r' hh => ?_⟩
      have h2 := ih.2 c' r' hh
      rw [hsk, skip_blank t hbl]
      generalize hk : runLen noEnd (c :: r) = k at *
      have htk : (c :: r).take (skip t + 1 + k) = c :: r.take (skip t + k) := by rw [show skip t + 1 + k = (skip t + k) + 1 from by omega, List.take_succ_cons]
      have hrun : runLen noEnd (c :: r.take (skip t + k)) = k := by
        rw [← htk, run_take _ _ (by omega)]; exact hk
      have hdd : (c :: r.take (skip t + k)).drop (runLen noEnd (c :: r.take (skip t + k))) = d :: t.take (skip t) := by
        rw [hrun, ← htk, List.drop_take, hd, show skip t + 1 + k - k = skip t + 1 from by omega, List.take_succ_cons]
      rw [htk, gap_remark false _ _ h hdd]
      exact h2
  · intro c r h1 h2
    rw [skip_stop r h1 h2]
    exact ⟨fun h => (by cases h), fun _ _ _ => rfl⟩
end Go.Proofs.Ytbaffdehhcfffaa.Lx
