/- The law LexJoin, walked: it returns true. Conditions: the text has at most 2^63 - 1 bytes. -/
import Derived.Test.YtbaffdehhcfffaaMoreQ
import Derived.IntWalk
namespace Go.Proofs.Ytbaffdehhcfffaa.Lx
open Go.RowKit
theorem byteName (l : List UInt8) : ∃ x : ByteArray, (⟨l.toArray⟩ : ByteArray) = x ∧ bl x = l ∧ x.size = l.length := ⟨_, rfl, by unfold bl; simp, by show (l.toArray).size = _; simp⟩
theorem grown_other {wr w' : World} {o1 o2 : Obj} {B n size : Nat} {e : TypeId} {v : Value} {xs : List Value} (hg : ((wr.alloc o1).alloc o2).grownBy w' v.ownBlock) (ho : wr.ownsRow B e size v n xs) {j : Nat} {u : Value}
    (h : ((wr.alloc o1).alloc o2).cell? ⟨wr.heap.size, j, none⟩ = some u) : w'.cell? ⟨wr.heap.size, j, none⟩ = some u := by
  refine hg.cell h ?_
  intro he
  have := (ho.lt _ he.symm).2
  simp at this
theorem all_len19 {T : List UInt8} {p : Nat} {ts : List Tok} (h : lexAll T = ⟨0, p, ts⟩) : ∀ t ∈ ts, t.text.length ≤ 19 := by
  unfold lexAll at h
  split at h
  · cases h
  · have := toks_len19 2000 T 0 (by rw [h])
    rw [h] at this
    exact this
theorem bl_app (a b : ByteArray) : bl (a ++ b) = bl a ++ bl b := by unfold bl; simp
theorem join_snoc : ∀ (l : List Tok) (t : Tok), join (l ++ [t]) = join l ++ (t.text ++ [32]) := by
  intro l t
  induction l with
  | nil => simp [join]
  | cons u r ih => simp only [List.cons_append, join, ih, List.append_assoc]
theorem placed_snoc : ∀ (l : List Tok) (t : Tok) (a : Nat), placed a (l ++ [t]) = placed a l ++ [{ t with pos := a + (join l).length }] := by
  intro l t
  induction l with
  | nil => intro a; simp [placed, join]
  | cons u r ih =>
    intro a
    simp only [List.cons_append, placed, ih, join, List.length_append, List.length_cons]
    rw [show a + u.text.length + 1 + (join r).length = a + (u.text.length + ((join r).length + 1)) from by omega]
theorem placed_len : ∀ (l : List Tok) (a : Nat), (placed a l).length = l.length := by
  intro l
  induction l with
  | nil => intro a; rfl
  | cons u r ih => intro a; simp [placed, ih]
theorem atEnd_len : ∀ (l : List Tok) (e : Nat), (atEnd e l).length = l.length := by
  intro l
  induction l with
  | nil => intro e; rfl
  | cons u r ih =>
    intro e
    cases r with
    | nil => rfl
    | cons v s => simp only [atEnd, List.length_cons] at ih ⊢; rw [ih e]
theorem rowOf_atEnd : ∀ (l : List Tok) (e : Nat), l ≠ [] → rowOf (atEnd e l) = (rowOf l).set ((l.length - 1) * 4 + 3) (.int .i64 e) := by
  intro l
  induction l with
  | nil => intro e h; exact absurd rfl h
  | cons u r ih =>
    intro e _
    cases r with
    | nil => simp [atEnd, rowOf, tokCells]
    | cons v s =>
      have h := ih e (by simp)
      have hr : rowOf (u :: v :: s) = tokCells u ++ rowOf (v :: s) := rfl
      rw [atEnd, show rowOf (u :: atEnd e (v :: s)) = tokCells u ++ rowOf (atEnd e (v :: s)) from rfl, h, hr]
      simp only [List.length_cons, tokCells, List.cons_append, List.nil_append, Nat.add_sub_cancel]
      rw [show (s.length + 1) * 4 + 3 = s.length * 4 + 3 + 1 + 1 + 1 + 1 from by omega]
      simp only [List.set_cons_succ]
/-- The last token's place, written anew. -/
theorem Row.last {w : World} {g n c : Nat} {ts : List Tok} (h : Row w (.slice (some ⟨g, 0, none⟩) n c) ts) (hne : ts ≠ []) (e : Nat) :
    Row (w.setCell ⟨g, (ts.length - 1) * 4 + 3, none⟩ (.int .i64 e)) (.slice (some ⟨g, 0, none⟩) n c) (atEnd e ts) := by
  obtain ⟨a, c', hv, hc, h1⟩ := h
  simp only [Value.slice.injEq] at hv
  obtain ⟨rfl, rfl, rfl⟩ := hv
  refine ⟨_, c, by rw [atEnd_len], by rw [atEnd_len]; exact hc, fun _ => ?_⟩
  obtain ⟨g', hg, h2⟩ := h1 hne
  simp only [Option.some.injEq, Addr.mk.injEq] at hg
  obtain ⟨rfl, _⟩ := hg
  refine ⟨g, rfl, fun j u hj => ?_⟩
  rw [rowOf_atEnd ts e hne, List.getElem?_set] at hj
  split at hj
  · rename_i he
    split at hj
    · rename_i hlt
      cases hj
      subst he
      exact cell_set (h2 _ _ (List.getElem?_eq_getElem hlt))
    · cases hj
  · rename_i hn
    exact cell_set_ne (h2 j u hj) hn
theorem Row.other {w : World} {v : Value} {ts : List Tok} {g : Nat} (h : Row w v ts) (hb : ∀ a n c, v = .slice (some a) n c → a.block ≠ g) (j : Nat) (x : Value) : Row (w.setCell ⟨g, j, none⟩ x) v ts := by
  obtain ⟨a, c, rfl, hc, h1⟩ := h
  refine ⟨a, c, rfl, hc, fun he => ?_⟩
  obtain ⟨g', rfl, h2⟩ := h1 he
  refine ⟨g', rfl, fun i u hi => ?_⟩
  rw [World.cell?_setCell_other _ _ _ _ (fun e => hb _ _ _ rfl (congrArg Addr.block e).symm)]
  exact h2 i u hi
theorem atEnd_pos {l : List Tok} {e N : Nat} (h : ∀ t ∈ l, t.pos ≤ N) (he : e ≤ N) : ∀ t ∈ atEnd e l, t.pos ≤ N := by
  induction l with
  | nil => intro t ht; cases ht
  | cons u r ih =>
    cases r with
    | nil => intro t ht; simp [atEnd] at ht; subst ht; exact he
    | cons v s =>
      intro t ht
      rcases List.mem_cons.1 ht with rfl | ht
      · exact h _ (List.mem_cons_self ..)
      · exact ih (fun x hx => h x (List.mem_cons_of_mem _ hx)) t ht
theorem join_take (ts : List Tok) (k : Nat) : (join (ts.take k)).length ≤ (join ts).length := by
  induction ts generalizing k with
  | nil => simp
  | cons t r ih =>
    cases k with
    | zero => simp [join]
    | succ k => simp only [List.take_succ_cons, join, List.length_append, List.length_cons]; have := ih k; omega
set_option maxHeartbeats 4000000 in
set_option maxRecDepth 100000 in
theorem law_join (s : ByteArray) (hs : s.size ≤ maxLen) (w : World) :
    Calls Try.prog 7 #[.string s] w fun e w' => e = .returned (.bool true) ∧ Below w.heap.size w w' := by
  unfold maxLen at hs
  have hx := cut_size s
  obtain ⟨x, hxe⟩ : ∃ x, Hid (s.extract 0 (min s.size 100100) = x) := ⟨_, Lib.hid rfl⟩
  rw [hxe.out] at hx
  have HC := Lib.hid (hxe.out ▸ fun w => cut_any s w hs)
  obtain ⟨c, p, ts, hr⟩ : ∃ c p ts, Hid (lexAll (bl x) = ⟨c, p, ts⟩) := ⟨_, _, _, Lib.hid rfl⟩
  have hrm : ts.length ≤ 100000 := by have := all_room (bl x); rw [hr.out] at this; dsimp only at this; omega
  obtain ⟨i0, hi, hz0, hz1, hz2⟩ := info_parts infoTok
  by_cases hc0 : c = 0
  · subst hc0
    have hj := join_all hr.out
    have HJ := Lib.hid hj
    have H19 := Lib.hid (all_len19 hr.out)
    have HALL := Lib.hid (all_join hr.out)
    have hne := all_ne hr.out
    have hpos : 0 < ts.length := List.length_pos_iff.2 hne
    have HP := Lib.hid (all_pos (join ts))
    clear hj
    go_enter Try.func7, Try.ntmps7
    go_wp2_with fail
    refine (lexed_any _).mono ?_
    rintro e w1 ⟨rfl, hb1⟩
    have HB1 := Lib.hid hb1
    clear hb1
    go_wp2_with fail
    refine (HC.out _).mono ?_
    rintro e w' ⟨rfl, rfl⟩
    go_wp2_with fail
    refine (all_gives _ (by omega) hr.out).mono ?_
    rintro e w2 ⟨v1, rfl, hb2, ho2⟩
    have HO2 := Lib.hid ho2
    have HB2 := Lib.hid (HB1.out.trans (hb2.mono HB1.out.size))
    clear hb2 ho2
    have hrow := Row.of HO2.out
    obtain ⟨va, vc, rfl⟩ := ownsForm HO2.out
    have HROW := Lib.hid (hrow.next ((Below.refl _ _).alloc (Nat.le_refl _) (.cells #[.int .i64 0, .int .i64 p] 27)))
    have HB := Lib.hid (HB2.out.alloc HB2.out.size (.cells #[.int .i64 0, .int .i64 p] 27))
    clear hrow HO2
    go_wp2_with fail
    obtain ⟨W0, hW0⟩ : ∃ W0, Hid (w2.alloc (.cells #[.int .i64 0, .int .i64 p] 27) = W0) := ⟨_, Lib.hid rfl⟩
    rw [hW0.out] at HROW HB ⊢
    go_loopw [25, 5, 6] (fun i sv wv wr => ∃ (k : Nat) (y : ByteArray), k ≤ ts.length ∧ i = .int .i64 k ∧ sv = .string y ∧ bl y = join (ts.take k) ∧ Below W0.heap.size W0 wr ∧ wr.ownsRow W0.heap.size 33 4 wv k (rowOf (placed 0 (ts.take k)))) (fun i _ _ _ => (ts.length - intOf i).toNat)
    case atStart => exact ⟨0, ⟨#[]⟩, by omega, rfl, rfl, rfl, Below.refl _ _, World.ownsRow_nil _ _ _ _⟩
    case round =>
      obtain ⟨k, y, hk, rfl, rfl, hy, hbel, hown⟩ := hrel
      have hrow := HROW.out.next hbel
      have HY := Lib.hid hy
      have hysz : y.size ≤ 100000 := by rw [← bl_len, hy]; exact Nat.le_trans (join_take ts k) (by have := HJ.out; omega)
      clear hy
      obtain ⟨wa, wc, rfl⟩ := ownsForm hown
      by_cases hlt : k < ts.length
      · have hlt' : (k : Int) < (ts.length : Int) := by omega
        obtain ⟨g, cp, hv, hcap, hcell⟩ := hrow.cells (by intro h; rw [h] at hlt; simp at hlt)
        simp only [Value.slice.injEq] at hv
        obtain ⟨rfl, _, rfl⟩ := hv
        obtain ⟨a0, a1, a2, a3⟩ := hcell k (by omega)
        have hgl : g < wr.heap.size := cell_lt a0
        obtain ⟨xt, hxt, hxt1, hxt2⟩ := byteName ts[k].text
        have hx19 : xt.size ≤ 19 := by rw [hxt2]; exact H19.out _ (List.getElem_mem hlt)
        rw [hxt] at a1
        have HXT := Lib.hid hxt1
        have HXT2 := Lib.hid hxt2
        have HXT0 := Lib.hid hxt
        have HBel := Lib.hid hbel
        have HRow := Lib.hid hrow
        have HOWN := Lib.hid hown
        have hsz0 := hbel.size
        clear hxt1 hxt2 hxt hbel hrow hown hcell hcap
        go_wp2_with (at_builtin; refine wpList_append_own _ rfl (.tmp 32) (.tmp 34) 24 rfl W0.heap.size 33 i0 (.agg #[.int .i64 0, .string ⟨#[]⟩, .int .i64 0, .int .i64 0]) 4 40 Try.underlying24 hi hz0 hz1 hz2 rfl (by decide) _ _ _ rfl ((HOWN.out.alloc _).alloc _) ⟨_, 0, none⟩ 1 1 [.int .i64 ts[k].kind, .string xt, .int .i64 ts[k].n, .int .i64 y.size] rfl rfl ?c1w ?c2w ?c3w ?c4w ?c5w ?_)
        case c1w => intro j u h; rw [Addr.add_lit, show wr.heap.size + 1 = (wr.alloc (.cells #[.int .i64 ts[k].kind, .string xt, .int .i64 ts[k].n, .int .i64 y.size] 33)).heap.size from by simp, World.cell?_alloc_new]; simpa using h
        case c2w => exact one_cells
        case c3w => unfold maxLen; omega
        case c4w => omega
        case c5w => simp; omega
        intro v' w1' hown1 hg1 _
        have hb3 : Below W0.heap.size W0 w1' := HBel.out.trans ((((Below.refl _ _).alloc hsz0 _).alloc (by simp; omega) _).grown hg1 (by simp; omega) (fun k hk => (HOWN.out.lt k hk).1))
        have HB3 := Lib.hid hb3
        have d1 : w1'.cell? ⟨wr.heap.size, 1, none⟩ = some (.string xt) := by
          refine grown_other hg1 HOWN.out ?_
          rw [World.cell?_alloc_past _ _ _ (by simp)]
          rw [World.cell?_alloc_new]; rfl
        have HOWN1 := Lib.hid hown1
        clear hown1 hg1 hb3
        go_wp2_with fail
        go_roundw
        case rel =>
          refine ⟨k + 1, y ++ (xt ++ ⟨#[32]⟩), by omega, by go_num, rfl, ?_, HB3.out, ?_⟩
          · rw [bl_app, bl_app, HY.out, HXT.out, List.take_succ_eq_append_getElem hlt, join_snoc]; rfl
          · have h5 := HOWN1.out
            have h6 : y.size = (join (ts.take k)).length := by rw [← HY.out, bl_len]
            rw [List.take_succ_eq_append_getElem hlt, placed_snoc, rowOf_snoc]
            rw [h6, ← HXT0.out] at h5
            simpa [tokCells] using h5
        case measure => simp [intOf]; omega
      · have hlt' : ¬ (k : Int) < (ts.length : Int) := by omega
        obtain rfl : k = ts.length := by omega
        rw [List.take_of_length_le (Nat.le_refl _)] at hown HY
        have hrowW := Row.of (B := W0.heap.size) (ts := placed 0 ts) (w := wr) (v := .slice wa ts.length wc) (by rw [placed_len]; exact hown)
        have hnp : placed 0 ts ≠ [] := by intro h; have := placed_len ts 0; rw [h] at this; simp at this; omega
        rcases ownsSize (ts := placed 0 ts) (by rw [placed_len]; exact hown) with hnil | ⟨g2, c2, hv2, hg2, hg3⟩
        · exact absurd hnil hnp
        simp only [Value.slice.injEq] at hv2
        obtain ⟨rfl, -, rfl⟩ := hv2
        have hfz := hown.frozenAt ((ts.length - 1) * 4 + 3)
        have HROW2 := Lib.hid hrowW
        have HBel := Lib.hid (HB.out.trans (hbel.mono HB.out.size))
        have hsz0 := HB.out.size
        clear hrow hown hbel hrowW HROW
        have hya : lexAll (bl y) = ⟨0, 0, atEnd (join ts).length (placed 0 ts)⟩ := by rw [HY.out]; exact HALL.out
        have HYA := Lib.hid hya
        have hysz2 : y.size = (join ts).length := by rw [← HY.out, bl_len]
        have HYS := Lib.hid hysz2
        clear hya hysz2
        go_wp2_with fail
        refine (all_gives _ (by omega) HYA.out).mono ?_
        rintro e w3 ⟨v2, rfl, hb3, ho3⟩
        have hne2 : atEnd (join ts).length (placed 0 ts) ≠ [] := by intro h; have := atEnd_len (placed 0 ts) (join ts).length; rw [h, placed_len] at this; simp at this; omega
        rcases ownsSize ho3 with hnil | ⟨g3, c3, rfl, hg4, hg5⟩
        · exact absurd hnil hne2
        have hR2 := Row.of ho3
        have hal : Row w3 (.slice (some ⟨g2, 0, none⟩) ts.length wc) (placed 0 ts) := HROW2.out.next hb3
        obtain ⟨gq, cq, hvq, hcq, hcell⟩ := hal.cells hnp
        simp only [Value.slice.injEq, Option.some.injEq, Addr.mk.injEq] at hvq
        obtain ⟨⟨rfl, -⟩, -, rfl⟩ := hvq
        obtain ⟨_, _, _, q3⟩ := hcell (ts.length - 1) (by rw [placed_len]; omega)
        generalize ((placed 0 ts)[ts.length - 1]'(by rw [placed_len]; omega)).pos = xq at q3
        have hfz3 := (hb3.frozen (p := ⟨g2, (ts.length - 1) * 4 + 3, none⟩) hg3).trans (by simpa [Addr.add_lit] using hfz)
        have hl2 : (atEnd (join ts).length (placed 0 ts)).length = ts.length := by rw [atEnd_len, placed_len]
        rw [hl2] at hR2 ⊢
        clear hl2
        have HR2 := Lib.hid hR2
        have HAL := Lib.hid hal
        have hsz3 := hb3.size
        have HB3 := Lib.hid (HBel.out.trans (hb3.mono HBel.out.size))
        have hg23 : g2 < w3.heap.size := by omega
        clear hb3 ho3 hR2 hal hcell hfz hcq
        have hsub : IntKind.i64.wrap ((ts.length : Int) - 1) = (ts.length : Int) - 1 := IntWalk.i64_in _ (by omega)
        have hle0 : (1 : Int) ≤ (ts.length : Int) := by omega
        have hnat : ((ts.length : Int) - 1).toNat = ts.length - 1 := by omega
        have hnz : ((ts.length : Int) == 0) = false := by simp; omega
        have hA : Row (w3.setCell ⟨g2, (ts.length - 1) * 4 + 3, none⟩ (.int .i64 y.size)) (.slice (some ⟨g2, 0, none⟩) ts.length wc) (atEnd (join ts).length (placed 0 ts)) := by
          have := HAL.out.last hnp (join ts).length
          rw [placed_len] at this
          rw [HYS.out]
          exact this
        have hB : Row (w3.setCell ⟨g2, (ts.length - 1) * 4 + 3, none⟩ (.int .i64 y.size)) (.slice (some ⟨g3, 0, none⟩) ts.length c3) (atEnd (join ts).length (placed 0 ts)) := by
          refine HR2.out.other (fun a n c h => ?_) _ _
          simp only [Value.slice.injEq, Option.some.injEq] at h
          obtain ⟨rfl, -, -⟩ := h
          exact fun e => by simp only at e; omega
        have hB3 : Below w.heap.size w (w3.setCell ⟨g2, (ts.length - 1) * 4 + 3, none⟩ (.int .i64 y.size)) := HB3.out.setCell (show w.heap.size ≤ g2 by omega) _
        have HA := Lib.hid hA
        have HBB := Lib.hid hB
        have HB4 := Lib.hid hB3
        have hP : ∀ t ∈ atEnd (join ts).length (placed 0 ts), t.pos ≤ 1000000 := by
          intro t ht
          have := HP.out t (by rw [HALL.out]; exact ht)
          omega
        have HPP := Lib.hid hP
        have hLL : (atEnd (join ts).length (placed 0 ts)).length ≤ 100000 := by rw [atEnd_len, placed_len]; omega
        have HLL := Lib.hid hLL
        clear hA hB hB3 hP hLL
        go_wp2_with fail
        refine (same_zero _ (HA.out.next ((Below.refl _ _).alloc (Nat.le_refl _) _)) (HBB.out.next ((Below.refl _ _).alloc (Nat.le_refl _) _)) HLL.out HPP.out).mono ?_
        rintro e w5 ⟨rfl, n, rfl⟩
        go_wp2_with fail
        go_ret
        exact ⟨rfl, below_drewN (HB4.out.alloc HB4.out.size _) n⟩
  · have hcb : ((c : Int) != 0) = true := by simp; omega
    clear hc0
    go_enter Try.func7, Try.ntmps7
    go_wp2_with fail
    refine (lexed_any _).mono ?_
    rintro e w1 ⟨rfl, hb1⟩
    have HB1 := Lib.hid hb1
    clear hb1
    go_wp2_with fail
    refine (HC.out _).mono ?_
    rintro e w' ⟨rfl, rfl⟩
    go_wp2_with fail
    refine (all_gives _ (by omega) hr.out).mono ?_
    rintro e w2 ⟨v1, rfl, hb2, ho2⟩
    have HO2 := Lib.hid ho2
    have HB2 := Lib.hid (HB1.out.trans (hb2.mono HB1.out.size))
    clear hb2 ho2
    obtain ⟨va, vc, rfl⟩ := ownsForm HO2.out
    go_wp2_with fail
    go_ret
    exact ⟨rfl, HB2.out.alloc HB2.out.size _⟩
end Go.Proofs.Ytbaffdehhcfffaa.Lx
