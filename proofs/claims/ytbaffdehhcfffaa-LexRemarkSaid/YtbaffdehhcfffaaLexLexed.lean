/- What lexed answers: words are known. And what lex.All gives back, said of a known result. Conditions: none; texts of at most 2^63 - 1 bytes. -/
import Derived.Test.YtbaffdehhcfffaaLexAllB
import Derived.Test.YtbaffdehhcfffaaLexSame
namespace Go.Proofs.Ytbaffdehhcfffaa.Lx
open Go.RowKit
theorem ownsSize {w : World} {B : Nat} {ts : List Tok} {v : Value} (h : w.ownsRow B 33 4 v ts.length (rowOf ts)) : ts = [] ∨ ∃ g c, v = .slice (some ⟨g, 0, none⟩) ts.length c ∧ B ≤ g ∧ g < w.heap.size := by
  rcases h.2 with ⟨_, hn⟩ | ⟨g, cap, cur, hv, h1, h2, _⟩
  · exact .inl (List.eq_nil_of_length_eq_zero hn)
  · refine .inr ⟨g, cap, hv, h1, ?_⟩
    apply Decidable.byContradiction
    intro hn
    rw [Array.getElem?_eq_none (by omega)] at h2
    cases h2
/-- What lex.All gives, its plain result known. -/
def Gives (c p : Nat) (ts : List Tok) (W : World) (e : Ending) (w' : World) : Prop :=
  ∃ v, e = .returned (.tuple #[v, .agg #[.int .i64 c, .int .i64 p]]) ∧ Below W.heap.size W w' ∧ w'.ownsRow W.heap.size 33 4 v ts.length (rowOf ts)
theorem all_gives {s : ByteArray} (w : World) {c p : Nat} {ts : List Tok} (hs : s.size ≤ 9223372036854775807) (hr : lexAll (bl s) = ⟨c, p, ts⟩) :
    Calls Try.prog 18 #[.string s] w (Gives c p ts w) := by
  refine (all_any s w hs).mono ?_
  rintro e w' ⟨v, he, hb, ho⟩
  rw [hr] at he ho
  exact ⟨v, he, hb, ho⟩
def abText : ByteArray := ⟨#[97, 98, 32, 61, 32, 49, 50, 59]⟩
theorem ab_lex : lexAll (bl abText) = ⟨0, 0, [⟨1, [97, 98], 0, 0⟩, ⟨4, [61], 0, 3⟩, ⟨2, [49, 50], 12, 5⟩, ⟨4, [59], 0, 7⟩, ⟨0, [], 0, 8⟩]⟩ := by kernel_rfl
set_option maxHeartbeats 1000000 in
theorem lexed_any (w : World) : Calls Try.prog 16 #[] w fun e w' => e = .returned (.bool true) ∧ Below w.heap.size w w' := by
  have hi : isWord (bl ⟨#[105, 102]⟩) = true := by kernel_rfl
  have hn : isName (bl ⟨#[97, 49]⟩) = true := by kernel_rfl
  go_enter Try.func16, Try.ntmps16
  go_wp2_with fail
  refine (all_gives _ (by decide) ab_lex).mono ?_
  rintro e w1 ⟨v, rfl, hb, ho⟩
  rcases ownsSize ho with h | ⟨g, c, rfl, hg1, hg2⟩
  · cases h
  have hR := Row.of ho
  obtain ⟨g', c', hv, hc, hcell⟩ := hR.cells (by simp)
  simp only [Value.slice.injEq, Option.some.injEq, Addr.mk.injEq] at hv
  obtain ⟨⟨rfl, _⟩, _, rfl⟩ := hv
  obtain ⟨q00, q01, _, _⟩ := hcell 0 (by decide)
  obtain ⟨_, _, q22, _⟩ := hcell 2 (by decide)
  obtain ⟨q40, _, _, q43⟩ := hcell 4 (by decide)
  clear hcell hR ho
  have HB := Lib.hid hb
  clear hb
  go_wp2_with (first | (go_at_call 22; refine (word_any _ _).mono ?_; rintro e w' ⟨rfl, rfl⟩) | (go_at_call 21; refine (name_any _ _ (by decide)).mono ?_; rintro e w' ⟨rfl, rfl⟩))
  go_ret
  exact ⟨rfl, HB.out.alloc HB.out.size _⟩
end Go.Proofs.Ytbaffdehhcfffaa.Lx
