/- What other, SwapTexts of the reference compute. Conditions: the slices lie in memory. -/
import Derived.Test.YtnbclbphggmenaaSwapP
import Derived.OwnWalk
namespace Go.Proofs.Ytnbclbphggmenaa.Tr
open Go.RowKit Go.Proofs.Ytnbclbphggmenaa.Lx Go.Proofs.Ytnbclbphggmenaa.Wd
theorem infoStr : (Try.prog.info? 9).map (fun i => (i.zero, i.size, i.bytes)) = some (some (.string ⟨#[]⟩), 1, 16) := by kernel_rfl
theorem other_any (s a b : ByteArray) (w : World) : Calls Try.prog 59 #[.string s, .string a, .string b] w fun e w' => e = .returned (.string (other a b s)) ∧ w = w' := by
  unfold other
  cases h1 : (s.toList == a.toList) with
  | true =>
    rw [if_pos rfl]
    go_enter Try.func59, Try.ntmps59
    go_wp2
    go_ret
    exact ⟨rfl, rfl⟩
  | false =>
    rw [if_neg (by simp)]
    cases h2 : (s.toList == b.toList) with
    | true =>
      rw [if_pos rfl]
      go_enter Try.func59, Try.ntmps59
      go_wp2
      go_ret
      exact ⟨rfl, rfl⟩
    | false =>
      rw [if_neg (by simp)]
      go_enter Try.func59, Try.ntmps59
      go_wp2
      go_ret
      exact ⟨rfl, rfl⟩
theorem other_size {a b s : ByteArray} {N : Nat} (ha : a.size ≤ N) (hb : b.size ≤ N) (hs : s.size ≤ N) : (other a b s).size ≤ N := by
  unfold other
  split
  · exact hb
  · split
    · exact ha
    · exact hs
/-- A new slice of texts. -/
theorem strs_owned {w : World} {B n : Nat} {v : Value} {l : List ByteArray} (h : w.ownsRow B 9 1 v n (l.map Value.string)) (hn : n = l.length) (hm : n ≤ 9223372036854775807) (hs : ∀ s ∈ l, s.size ≤ 9223372036854775807) :
    StrC (only (fun g => B ≤ g) (cw w)) v l := by
  subst hn
  rcases h.2 with ⟨hv, hn⟩ | ⟨g, cap, cur, hv, h1, h2, h3, h4, h5, h6⟩
  · have : l = [] := List.eq_nil_of_length_eq_zero hn
    subst this
    rw [hv]
    exact SlAt.nil
  · refine ⟨_, cap, hv, h3, ?_, fun hne => ⟨g, 0, rfl, fun i hi => ?_⟩⟩
    · exact h4
    · refine ⟨⟨h1, ?_⟩, hs _ (List.getElem_mem hi)⟩
      have := h.cells (g := g) (by rw [hv]; rfl) i (.string l[i]) (by simp [List.getElem?_eq_getElem hi])
      rw [Addr.add_lit, Nat.zero_add] at this
      show w.cell? ⟨g, 0 + i * 1, none⟩ = _
      rw [Nat.zero_add, Nat.mul_one]
      exact this
/-- What a maker of texts leaves: a new slice. -/
def TextsMade (l : List ByteArray) (w : World) (e : Ending) (w' : World) : Prop := ∃ v, e = .returned v ∧ StrC (only (fun g => w.heap.size ≤ g) (cw w')) v l ∧ Below w.heap.size w w'
theorem str_cells {s : ByteArray} : ∀ u ∈ [Value.string s], u.oneCell' = true := by
  intro u hu
  simp at hu
  subst hu; rfl
theorem ownsForm {w : World} {B : Nat} {e : TypeId} {z : Nat} {v : Value} {n : Nat} {xs : List Value} (h : w.ownsRow B e z v n xs) : ∃ a c, v = .slice a n c := by
  rcases h.2 with ⟨rfl, rfl⟩ | ⟨g, cap, _, rfl, _⟩
  · exact ⟨_, _, rfl⟩
  · exact ⟨_, _, rfl⟩
set_option maxHeartbeats 2000000 in
theorem swapTexts_any (ns : List ByteArray) (nv : Value) (a b : ByteArray) (w : World) (hn : StrsAt w nv ns) (hl : ns.length ≤ 1000000) (ha : a.size ≤ 9223372036854775807) (hb : b.size ≤ 9223372036854775807) :
    Calls Try.prog 26 #[nv, .string a, .string b] w (TextsMade (ns.map (other a b)) w) := by
  obtain ⟨i0, hi, hz0, hz1, hz2⟩ := info_parts infoStr
  obtain ⟨na, nc, rfl, hc1, hc2⟩ := hn.form
  have HN := Lib.hid hn
  clear hn
  go_enter Try.func26, Try.ntmps26
  go_wp2_with fail
  go_loopw [7, 12] (fun v i wr => ∃ k : Nat, k ≤ ns.length ∧ i = .int .i64 k ∧ wr.ownsRow w.heap.size 9 1 v k (((ns.take k).map (other a b)).map Value.string) ∧ Below w.heap.size w wr) (fun _ i _ => (ns.length - intOf i).toNat)
  case atStart => exact ⟨0, by omega, rfl, World.ownsRow_nil _ _ _ _, Below.refl _ _⟩
  case round =>
    obtain ⟨k, hk, rfl, hown, hbel⟩ := hrel
    have HBel := Lib.hid hbel
    have HOWN := Lib.hid hown
    have hsz := hbel.size
    by_cases hlt : k < ns.length
    · have hlt' : (k : Int) < (ns.length : Int) := by omega
      have hne : ns ≠ [] := by intro h; rw [h] at hlt; simp at hlt
      obtain ⟨g, off, cap', hv, hcells⟩ := (HN.out.next hbel).cells hne
      simp only [Value.slice.injEq] at hv
      obtain ⟨rfl, -, rfl⟩ := hv
      obtain ⟨hs, c0⟩ := hcells k hlt
      obtain ⟨va, vc, rfl⟩ := ownsForm hown
      obtain ⟨s, hs2⟩ : ∃ s, Hid (ns[k] = s) := ⟨_, Lib.hid rfl⟩
      rw [hs2.out] at c0
      obtain ⟨o, ho⟩ : ∃ o, Hid (other a b s = o) := ⟨_, Lib.hid rfl⟩
      clear hcells hne hbel hown hs
      go_wp2_with fail
      refine (other_any s a b _).mono ?_
      rintro e w' ⟨rfl, rfl⟩
      rw [ho.out]
      go_wp2_with (at_builtin; refine wpList_append_own _ rfl (.tmp 16) (.tmp 21) 25 rfl w.heap.size 9 i0 (.string ⟨#[]⟩) 1 16 Try.underlying25 hi hz0 hz1 hz2 rfl (by decide) _ _ _ rfl (HOWN.out.alloc _) ⟨_, 0, none⟩ 1 1 [.string o] rfl rfl ?c1 ?c2 ?c3 ?c4 ?c5 ?_)
      case c1 => intro j u h; rw [Addr.add_lit, World.cell?_alloc_new]; simpa using h
      case c2 => exact str_cells
      case c3 => unfold maxLen; omega
      case c4 => omega
      case c5 => simp; omega
      intro v' w1' hown1 hg1 _
      have HB3 : Hid (Below w.heap.size w w1') := Lib.hid (HBel.out.trans (((Below.refl _ _).alloc hsz _).grown hg1 (by simp; omega) (fun k hk => (HOWN.out.lt k hk).1)))
      have HOWN1 := Lib.hid hown1
      clear hown1 hg1
      go_wp2_with fail
      go_roundw
      case rel =>
        refine ⟨k + 1, by omega, by go_num, ?_, HB3.out⟩
        rw [List.take_succ_eq_append_getElem hlt, List.map_append, List.map_append]
        simp only [List.map_cons, List.map_nil, hs2.out, ho.out]
        rw [List.map_map, List.map_take]
        exact HOWN1.out
      case measure => simp [intOf]; omega
    · have hlt' : ¬ (k : Int) < (ns.length : Int) := by omega
      obtain ⟨va, vc, rfl⟩ := ownsForm hown
      clear hbel hown
      go_wp2_with fail
      go_ret
      have he : ns.take k = ns := List.take_of_length_le (by omega)
      refine ⟨_, rfl, strs_owned (by rw [← he]; exact HOWN.out) (by simp; omega) (by omega) ?_, HBel.out⟩
      intro s hs
      obtain ⟨q, hq, rfl⟩ := List.mem_map.1 hs
      have hne : ns ≠ [] := List.ne_nil_of_mem hq
      obtain ⟨g, off, cap', _, hcells⟩ := HN.out.cells hne
      obtain ⟨j, hj, rfl⟩ := List.getElem_of_mem hq
      exact other_size ha hb (hcells j hj).1
end Go.Proofs.Ytnbclbphggmenaa.Tr
