/- The law LexAll, walked: it returns true. Conditions: the text has at most 2^63 - 1 bytes. -/
import Derived.Test.YtbaffdehhcfffaaLexLexed
import Derived.Test.YtbaffdehhcfffaaRefLexB
namespace Go.Proofs.Ytbaffdehhcfffaa.Lx
open Go.RowKit
theorem pos_ok : ∀ (f : Nat) (l : List UInt8) (a room : Nat), ∀ t ∈ (lex f l a room).toks, t.pos ≤ a + l.length := by
  intro f
  induction f with
  | zero => intro l a room t h; cases h
  | succ f ih =>
    intro l a room t h
    cases l with
    | nil => simp [lex] at h; subst h; simp
    | cons c r =>
      rw [lex_cons] at h
      split at h
      · have := ih _ _ _ t h; simp only [List.length_cons]; omega
      split at h
      · have := ih _ _ _ t h
        rw [drop_run, List.length_drop] at this
        have h2 := runLen_le noEnd (c :: r)
        omega
      split at h
      · cases h
      split at h
      · cases h
      · rename_i h1 h2
        have hk := tokOf_len (l := c :: r) (by simpa using h1)
        unfold Res.cons at h
        split at h
        · rcases List.mem_cons.1 h with rfl | h
          · simp
          · have := ih _ _ _ t h
            rw [List.length_drop] at this
            omega
        · have := ih _ _ _ t h
          rw [List.length_drop] at this
          omega
theorem toks_room : ∀ (f : Nat) (l : List UInt8) (a room : Nat), (lex f l a room).toks.length ≤ room + 1 := by
  intro f
  induction f with
  | zero => intro l a room; simp [lex]
  | succ f ih =>
    intro l a room
    cases l with
    | nil => simp [lex]
    | cons c r =>
      rw [lex_cons]
      split
      · exact ih _ _ _
      split
      · exact ih _ _ _
      split
      · simp
      split
      · simp
      · rename_i h1 h2
        have := ih ((c :: r).drop (tokOf (c :: r)).2.2.1) (a + (tokOf (c :: r)).2.2.1) (room - 1)
        unfold Res.cons
        split
        · simp only [List.length_cons]; omega
        · omega
theorem all_pos (l : List UInt8) : ∀ t ∈ (lexAll l).toks, t.pos ≤ 100000 := by
  intro t h
  unfold lexAll at h
  split at h
  · cases h
  · have := pos_ok _ _ _ _ t h
    omega
theorem all_room (l : List UInt8) : (lexAll l).toks.length ≤ 2001 := by
  unfold lexAll
  split
  · simp
  · exact toks_room _ _ _ _
theorem cut_size (s : ByteArray) : (s.extract 0 (min s.size 100100)).size ≤ 100100 := by
  rw [ByteArray.size_extract]; omega
theorem same_zero {a : List Tok} {v1 v2 : Value} (w : World) (h1 : Row w v1 a) (h2 : Row w v2 a) (hl : a.length ≤ 100000) (hp : ∀ t ∈ a, t.pos ≤ 1000000) :
    Calls Try.prog 20 #[v1, v2, .int .i64 0] w fun e w' => e = .returned (.bool true) ∧ ∃ n, w' = w.drewN n :=
  same_any a 0 v1 v2 w h1 (by rw [shift_zero]; exact h2) hl hp
theorem rlex_gives {s : ByteArray} (w : World) {c p : Nat} {ts : List Tok} (hs : s.size ≤ 9223372036854775807) (hr : lexAll (bl s) = ⟨c, p, ts⟩) :
    Calls Try.prog 19 #[.string s] w (Gives c p ts w) := by
  refine (rlex_any s w hs).mono ?_
  rintro e w' ⟨v, he, hb, ho⟩
  rw [hr] at he ho
  exact ⟨v, he, hb, ho⟩
set_option maxHeartbeats 1000000 in
theorem law_all (s : ByteArray) (hs : s.size ≤ maxLen) (w : World) :
    Calls Try.prog 3 #[.string s] w fun e w' => e = .returned (.bool true) ∧ Below w.heap.size w w' := by
  unfold maxLen at hs
  have hx := cut_size s
  obtain ⟨x, hxe⟩ : ∃ x, Hid (s.extract 0 (min s.size 100100) = x) := ⟨_, Lib.hid rfl⟩
  rw [hxe.out] at hx
  have HC := Lib.hid (hxe.out ▸ fun w => cut_any s w hs)
  obtain ⟨c, p, ts, hr⟩ : ∃ c p ts, Hid (lexAll (bl x) = ⟨c, p, ts⟩) := ⟨_, _, _, Lib.hid rfl⟩
  have hps : ∀ t ∈ ts, t.pos ≤ 1000000 := fun t h => by have := all_pos (bl x) t (by rw [hr.out]; exact h); omega
  have hrm : ts.length ≤ 100000 := by have := all_room (bl x); rw [hr.out] at this; dsimp only at this; omega
  have HP := Lib.hid hps
  clear hps
  go_enter Try.func3, Try.ntmps3
  go_wp2_with fail
  refine (lexed_any _).mono ?_
  rintro e w1 ⟨rfl, hb1⟩
  have HB1 := Lib.hid hb1
  clear hb1
  go_wp2_with fail
  refine (HC.out _).mono ?_
  rintro e w' ⟨rfl, rfl⟩
  go_wp2_with fail
  refine (all_gives _ (by omega) hr.out).mono ?_
  rintro e w2 ⟨v1, rfl, hb2, ho2⟩
  have hR1 := Row.of ho2
  have HB2 := Lib.hid (HB1.out.trans (hb2.mono HB1.out.size))
  clear hb2 ho2
  go_wp2_with fail
  refine (rlex_gives _ (by omega) hr.out).mono ?_
  rintro e w3 ⟨v2, rfl, hb3, ho3⟩
  have hR2 := Row.of ho3
  have hR3 := (hR1.next ((Below.refl _ _).alloc (Nat.le_refl _) (.cells #[.int .i64 c, .int .i64 p] 27))).next hb3
  have f0 : w3.cell? ⟨w2.heap.size, 0, none⟩ = some (.int .i64 c) := (hb3.cell (by simp)).trans (by simp [go_sem])
  have f1 : w3.cell? ⟨w2.heap.size, 1, none⟩ = some (.int .i64 p) := (hb3.cell (by simp)).trans (by simp [go_sem])
  have hsz : w2.heap.size < w3.heap.size := by have := hb3.size; simp at this; omega
  have HB3 := Lib.hid ((HB2.out.alloc HB2.out.size (.cells #[.int .i64 c, .int .i64 p] 27)).trans (hb3.mono (by have := HB2.out.size; simp; omega)))
  have HR2 := Lib.hid hR2
  have HR3 := Lib.hid hR3
  clear hb3 ho3 hR1 hR2 hR3
  go_wp2_with fail
  refine (same_zero _ (HR3.out.next ((Below.refl _ _).alloc (Nat.le_refl _) _)) (HR2.out.next ((Below.refl _ _).alloc (Nat.le_refl _) _)) hrm HP.out).mono ?_
  rintro e w4 ⟨rfl, n, rfl⟩
  go_wp2_with fail
  go_ret
  exact ⟨rfl, below_drewN (HB3.out.alloc HB3.out.size _) n⟩
end Go.Proofs.Ytbaffdehhcfffaa.Lx
