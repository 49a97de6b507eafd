/- The law LexNone, walked: it returns true. Conditions: none. -/
import Derived.Test.YtbaffdehhcfffaaLexLexed
namespace Go.Proofs.Ytbaffdehhcfffaa.Lx
open Go.RowKit
theorem none_lex : lexAll (bl ⟨#[]⟩) = ⟨0, 0, [⟨0, [], 0, 0⟩]⟩ := by kernel_rfl
theorem amp_lex : lexAll (bl ⟨#[38]⟩) = ⟨2, 0, []⟩ := by kernel_rfl
theorem bar_lex : lexAll (bl ⟨#[97, 32, 124, 98]⟩) = ⟨2, 2, []⟩ := by kernel_rfl
set_option maxHeartbeats 2000000 in
theorem law_none (w : World) :
    Calls Try.prog 15 #[] w fun e w' => e = .returned (.bool true) ∧ Below w.heap.size w w' := by
  have n0 : isName (bl ⟨#[]⟩) = false := by kernel_rfl
  have n1 : isWord (bl ⟨#[]⟩) = false := by kernel_rfl
  have n2 : isName (bl ⟨#[105, 102]⟩) = false := by kernel_rfl
  have n3 : isName (bl ⟨#[105, 102, 102]⟩) = true := by kernel_rfl
  have n4 : isName (bl ⟨#[97, 98, 99, 100, 101, 102, 103, 104, 105]⟩) = false := by kernel_rfl
  have n5 : isName (bl ⟨#[97, 98, 99, 100, 101, 102, 103, 104]⟩) = true := by kernel_rfl
  have n6 : isName (bl ⟨#[49, 97]⟩) = false := by kernel_rfl
  have n7 : isName (bl ⟨#[97, 66]⟩) = false := by kernel_rfl
  go_enter Try.func15, Try.ntmps15
  go_wp2_with fail
  refine (all_gives _ (by decide) none_lex).mono ?_
  rintro e w1 ⟨v1, rfl, hb1, ho1⟩
  rcases ownsSize ho1 with hnil | ⟨g, cp, rfl, hg1, hg2⟩
  · cases hnil
  obtain ⟨g', cp', hv, hc, hcell⟩ := (Row.of ho1).cells (by simp)
  simp only [Value.slice.injEq, Option.some.injEq, Addr.mk.injEq] at hv
  obtain ⟨⟨rfl, _⟩, _, rfl⟩ := hv
  obtain ⟨q0, _, _, q3⟩ := hcell 0 (by simp)
  simp only [List.getElem_cons_zero] at q0 q3
  have HB1 := Lib.hid hb1
  clear hcell hb1 ho1
  go_wp2_with fail
  refine (all_gives _ (by decide) amp_lex).mono ?_
  rintro e w2 ⟨v2, rfl, hb2, ho2⟩
  obtain ⟨va2, vc2, rfl⟩ := ownsForm ho2
  have a0 : w2.cell? ⟨w1.heap.size, 0, none⟩ = some (.int .i64 0) := (hb2.cell (by simp)).trans (by simp [go_sem])
  have a1 : w2.cell? ⟨w1.heap.size, 1, none⟩ = some (.int .i64 0) := (hb2.cell (by simp)).trans (by simp [go_sem])
  have q02 : w2.cell? ⟨g, 0 * 4, none⟩ = some (.int .i64 0) := (hb2.cell (by simp; omega)).trans ((World.cell?_alloc_past _ _ _ hg2).trans q0)
  have q32 : w2.cell? ⟨g, 0 * 4 + 3, none⟩ = some (.int .i64 0) := (hb2.cell (by simp; omega)).trans ((World.cell?_alloc_past _ _ _ hg2).trans q3)
  have hs2 : w1.heap.size < w2.heap.size := by have := hb2.size; simp at this; omega
  have HB2 := Lib.hid ((HB1.out.alloc HB1.out.size _).trans (hb2.mono (by have := HB1.out.size; simp; omega)))
  clear hb2 ho2 q0 q3
  go_wp2_with fail
  refine (all_gives _ (by decide) bar_lex).mono ?_
  rintro e w3 ⟨v3, rfl, hb3, ho3⟩
  obtain ⟨va3, vc3, rfl⟩ := ownsForm ho3
  have b0 : w3.cell? ⟨w2.heap.size, 0, none⟩ = some (.int .i64 2) := (hb3.cell (by simp)).trans (by simp [go_sem])
  have b1 : w3.cell? ⟨w2.heap.size, 1, none⟩ = some (.int .i64 0) := (hb3.cell (by simp)).trans (by simp [go_sem])
  have a03 : w3.cell? ⟨w1.heap.size, 0, none⟩ = some (.int .i64 0) := (hb3.cell (by simp; omega)).trans ((World.cell?_alloc_past _ _ _ hs2).trans a0)
  have a13 : w3.cell? ⟨w1.heap.size, 1, none⟩ = some (.int .i64 0) := (hb3.cell (by simp; omega)).trans ((World.cell?_alloc_past _ _ _ hs2).trans a1)
  have q03 : w3.cell? ⟨g, 0 * 4, none⟩ = some (.int .i64 0) := (hb3.cell (by simp; omega)).trans ((World.cell?_alloc_past _ _ _ (by omega)).trans q02)
  have q33 : w3.cell? ⟨g, 0 * 4 + 3, none⟩ = some (.int .i64 0) := (hb3.cell (by simp; omega)).trans ((World.cell?_alloc_past _ _ _ (by omega)).trans q32)
  have hs3 : w2.heap.size < w3.heap.size := by have := hb3.size; simp at this; omega
  have HB3 := Lib.hid ((HB2.out.alloc HB2.out.size _).trans (hb3.mono (by have := HB2.out.size; simp; omega)))
  clear hb3 ho3 a0 a1 q02 q32
  go_wp2_with fail
  refine (lexed_any _).mono ?_
  rintro e w4 ⟨rfl, hb4⟩
  have c0 : w4.cell? ⟨w3.heap.size, 0, none⟩ = some (.int .i64 2) := (hb4.cell (by simp)).trans (by simp [go_sem])
  have c1 : w4.cell? ⟨w3.heap.size, 1, none⟩ = some (.int .i64 2) := (hb4.cell (by simp)).trans (by simp [go_sem])
  have b04 : w4.cell? ⟨w2.heap.size, 0, none⟩ = some (.int .i64 2) := (hb4.cell (by simp; omega)).trans ((World.cell?_alloc_past _ _ _ hs3).trans b0)
  have b14 : w4.cell? ⟨w2.heap.size, 1, none⟩ = some (.int .i64 0) := (hb4.cell (by simp; omega)).trans ((World.cell?_alloc_past _ _ _ hs3).trans b1)
  have a04 : w4.cell? ⟨w1.heap.size, 0, none⟩ = some (.int .i64 0) := (hb4.cell (by simp; omega)).trans ((World.cell?_alloc_past _ _ _ (by omega)).trans a03)
  have a14 : w4.cell? ⟨w1.heap.size, 1, none⟩ = some (.int .i64 0) := (hb4.cell (by simp; omega)).trans ((World.cell?_alloc_past _ _ _ (by omega)).trans a13)
  have q04 : w4.cell? ⟨g, 0 * 4, none⟩ = some (.int .i64 0) := (hb4.cell (by simp; omega)).trans ((World.cell?_alloc_past _ _ _ (by omega)).trans q03)
  have q34 : w4.cell? ⟨g, 0 * 4 + 3, none⟩ = some (.int .i64 0) := (hb4.cell (by simp; omega)).trans ((World.cell?_alloc_past _ _ _ (by omega)).trans q33)
  have HB4 := Lib.hid ((HB3.out.alloc HB3.out.size _).trans (hb4.mono (by have := HB3.out.size; simp; omega)))
  clear hb4 b0 b1 a03 a13 q03 q33
  go_wp2_with (first | (go_at_call 22; refine (word_any _ _).mono ?_; rintro e w' ⟨rfl, rfl⟩) | (go_at_call 21; refine (name_any _ _ (by decide)).mono ?_; rintro e w' ⟨rfl, rfl⟩))
  go_ret
  exact ⟨rfl, HB4.out⟩
end Go.Proofs.Ytbaffdehhcfffaa.Lx
