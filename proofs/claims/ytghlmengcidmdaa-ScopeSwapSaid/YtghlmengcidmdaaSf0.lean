/- Parts of BSwap, SwapQ, PutW, PutL: walks and plain laws that later texts use. Conditions: as each statement says. -/
import Derived.Test.YtghlmengcidmdaaSa0
import Derived.Test.YtghlmengcidmdaaSa1
import Derived.Test.YtghlmengcidmdaaSa10
import Derived.Test.YtghlmengcidmdaaSa11
import Derived.Test.YtghlmengcidmdaaSa12
import Derived.Test.YtghlmengcidmdaaSa14
import Derived.Test.YtghlmengcidmdaaSa2
import Derived.Test.YtghlmengcidmdaaSa20
import Derived.Test.YtghlmengcidmdaaSa3
import Derived.Test.YtghlmengcidmdaaSa4
import Derived.Test.YtghlmengcidmdaaSa5
import Derived.Test.YtghlmengcidmdaaSa6
import Derived.Test.YtghlmengcidmdaaSa7
import Derived.Test.YtghlmengcidmdaaSa8
import Derived.Test.YtghlmengcidmdaaSa9
import Derived.WalkKit
import Derived.Test.YtghlmengcidmdaaRows
import Derived.WalkSpells
import Derived.Lib.Hide
import Derived.Below
import Derived.Laws.BitsAllLaws
import Derived.Deep.QuietTactic
import Derived.BigQuiet
import Derived.WalkSmall
import Derived.IntWalk
import Derived.StillTailTactics
import Derived.RegionTactic
import Derived.Deep.Slices
import Derived.Deep.Fields
import Derived.Lib.SmallJoins
import Derived.SliceStrings
import Derived.ChangeSlices
import Derived.OwnWalk
import Derived.OneCell
import Derived.Deep.AppendLies
import Derived.Deep.RegionLaw
import Derived.Deep.DeepCutAuto
import Derived.Deep.RegionHeld3
import Derived.Outline
import Derived.OrdersHeld
import Derived.Deep.RegionWith
import Derived.Laws.Cover3
import Derived.Laws.StructEq
import Derived.Maps.Range
import Derived.Deep.Upon
import Derived.Maps.AppendAt
import Derived.Laws.OwnMore
section
/- Plain laws: names changed in an expression. No program. Conditions: none.
   What other, SwapTexts of the reference compute. Conditions: the slices lie in memory.
   A new row of things that is grown by append, each with what hangs on it; how it lies in memory at last. Conditions: none.
   What SwapExpr of the reference makes: a new expression. Conditions: the expression lies in memory, no row of kids is long. -/
section
namespace Go.Proofs.Ytghlmengcidmdaa.Tr
open Go.RowKit Go.Proofs.Ytghlmengcidmdaa.Lx Go.Proofs.Ytghlmengcidmdaa.Wd
/-- Of two names the other one. -/
def other (a b s : ByteArray) : ByteArray := if (s.toList == a.toList) = true then b else if (s.toList == b.toList) = true then a else s
mutual
/-- Each name changed. -/
def mapE (f : ByteArray → ByteArray) : Ex → Ex
  | .mk op n nm ks => .mk op n (f nm) (mapL f ks)
def mapL (f : ByteArray → ByteArray) : List Ex → List Ex
  | [] => []
  | x :: xs => mapE f x :: mapL f xs
end
theorem mapL_eq (f : ByteArray → ByteArray) : ∀ l : List Ex, mapL f l = l.map (mapE f) := by
  intro l
  induction l with
  | nil => rfl
  | cons x xs ih => simp only [mapL, List.map_cons, ih]
theorem mapE_eq (f : ByteArray → ByteArray) (x : Ex) : mapE f x = .mk x.op x.n (f x.nm) (x.ks.map (mapE f)) := by
  cases x with
  | mk op n nm ks => simp only [mapE, mapL_eq, Ex.op, Ex.n, Ex.nm, Ex.ks]
theorem mapE_op (f : ByteArray → ByteArray) (x : Ex) : (mapE f x).op = x.op := by rw [mapE_eq]; rfl
theorem mapE_n (f : ByteArray → ByteArray) (x : Ex) : (mapE f x).n = x.n := by rw [mapE_eq]; rfl
theorem mapE_nm (f : ByteArray → ByteArray) (x : Ex) : (mapE f x).nm = f x.nm := by rw [mapE_eq]; rfl
theorem mapE_ks (f : ByteArray → ByteArray) (x : Ex) : (mapE f x).ks = x.ks.map (mapE f) := by rw [mapE_eq]; rfl
end Go.Proofs.Ytghlmengcidmdaa.Tr
end
section
namespace Go.Proofs.Ytghlmengcidmdaa.Tr
open Go.RowKit Go.Proofs.Ytghlmengcidmdaa.Lx Go.Proofs.Ytghlmengcidmdaa.Wd
theorem other_any (s a b : ByteArray) (w : World) : Calls Try.prog 95 #[.string s, .string a, .string b] w fun e w' => e = .returned (.string (other a b s)) ∧ w = w' := by
  unfold other
  cases h1 : (s.toList == a.toList) with
  | true =>
    rw [if_pos rfl]
    go_enter Try.func95, Try.ntmps95
    go_wp2
    go_ret
    exact ⟨rfl, rfl⟩
  | false =>
    rw [if_neg (by simp)]
    cases h2 : (s.toList == b.toList) with
    | true =>
      rw [if_pos rfl]
      go_enter Try.func95, Try.ntmps95
      go_wp2
      go_ret
      exact ⟨rfl, rfl⟩
    | false =>
      rw [if_neg (by simp)]
      go_enter Try.func95, Try.ntmps95
      go_wp2
      go_ret
      exact ⟨rfl, rfl⟩
theorem other_size {a b s : ByteArray} {N : Nat} (ha : a.size ≤ N) (hb : b.size ≤ N) (hs : s.size ≤ N) : (other a b s).size ≤ N := by
  unfold other
  split
  · exact hb
  · split
    · exact ha
    · exact hs
/-- What a maker of texts leaves: a new slice. -/
def TextsMade (l : List ByteArray) (w : World) (e : Ending) (w' : World) : Prop := ∃ v, e = .returned v ∧ StrC (only (fun g => w.heap.size ≤ g) (cw w')) v l ∧ Below w.heap.size w w'
set_option maxHeartbeats 2000000 in
theorem swapTexts_any (ns : List ByteArray) (nv : Value) (a b : ByteArray) (w : World) (hn : StrsAt w nv ns) (hl : ns.length ≤ 1000000) (ha : a.size ≤ 9223372036854775807) (hb : b.size ≤ 9223372036854775807) :
    Calls Try.prog 46 #[nv, .string a, .string b] w (TextsMade (ns.map (other a b)) w) := by
  obtain ⟨i0, hi, hz0, hz1, hz2⟩ := info_parts infoStr
  obtain ⟨na, nc, rfl, hc1, hc2⟩ := hn.form
  have HN := Lib.hid hn
  clear hn
  go_enter Try.func46, Try.ntmps46
  go_wp2_with fail
  go_loopw [7, 12] (fun v i wr => ∃ k : Nat, k ≤ ns.length ∧ i = .int .i64 k ∧ wr.ownsRow w.heap.size 9 1 v k (((ns.take k).map (other a b)).map Value.string) ∧ Below w.heap.size w wr) (fun _ i _ => (ns.length - intOf i).toNat)
  case atStart => exact ⟨0, by omega, rfl, World.ownsRow_nil _ _ _ _, Below.refl _ _⟩
  case round =>
    obtain ⟨k, hk, rfl, hown, hbel⟩ := hrel
    have HBel := Lib.hid hbel
    have HOWN := Lib.hid hown
    have hsz := hbel.size
    by_cases hlt : k < ns.length
    · have hlt' : (k : Int) < (ns.length : Int) := by omega
      have hne : ns ≠ [] := by intro h; rw [h] at hlt; simp at hlt
      obtain ⟨g, off, cap', hv, hcells⟩ := (HN.out.next hbel).cells hne
      simp only [Value.slice.injEq] at hv
      obtain ⟨rfl, -, rfl⟩ := hv
      obtain ⟨hs, c0⟩ := hcells k hlt
      obtain ⟨va, vc, rfl⟩ := ownsForm hown
      obtain ⟨s, hs2⟩ : ∃ s, Hid (ns[k] = s) := ⟨_, Lib.hid rfl⟩
      rw [hs2.out] at c0
      obtain ⟨o, ho⟩ : ∃ o, Hid (other a b s = o) := ⟨_, Lib.hid rfl⟩
      clear hcells hne hbel hown hs
      go_wp2_with fail
      refine (other_any s a b _).mono ?_
      rintro e w' ⟨rfl, rfl⟩
      rw [ho.out]
      go_wp2_with (at_builtin; refine wpList_append_own _ rfl (.tmp 16) (.tmp 21) 22 rfl w.heap.size 9 i0 (.string ⟨#[]⟩) 1 16 Try.underlying22 hi hz0 hz1 hz2 rfl (by decide) _ _ _ rfl (HOWN.out.alloc _) ⟨_, 0, none⟩ 1 1 [.string o] rfl rfl ?c1 ?c2 ?c3 ?c4 ?c5 ?_)
      case c1 => intro j u h; rw [Addr.add_lit, World.cell?_alloc_new]; simpa using h
      case c2 => exact str_cells
      case c3 => unfold maxLen; omega
      case c4 => omega
      case c5 => simp; omega
      intro v' w1' hown1 hg1 _
      have HB3 : Hid (Below w.heap.size w w1') := Lib.hid (HBel.out.trans (((Below.refl _ _).alloc hsz _).grown hg1 (by simp; omega) (fun k hk => (HOWN.out.lt k hk).1)))
      have HOWN1 := Lib.hid hown1
      clear hown1 hg1
      go_wp2_with fail
      go_roundw
      case rel =>
        refine ⟨k + 1, by omega, by go_num, ?_, HB3.out⟩
        rw [List.take_succ_eq_append_getElem hlt, List.map_append, List.map_append]
        simp only [List.map_cons, List.map_nil, hs2.out, ho.out]
        rw [List.map_map, List.map_take]
        exact HOWN1.out
      case measure => simp [intOf]; omega
    · have hlt' : ¬ (k : Int) < (ns.length : Int) := by omega
      obtain ⟨va, vc, rfl⟩ := ownsForm hown
      clear hbel hown
      go_wp2_with fail
      go_ret
      have he : ns.take k = ns := List.take_of_length_le (by omega)
      refine ⟨_, rfl, strs_owned (by rw [← he]; exact HOWN.out) (by simp; omega) (by omega) ?_, HBel.out⟩
      intro s hs
      obtain ⟨q, hq, rfl⟩ := List.mem_map.1 hs
      have hne : ns ≠ [] := List.ne_nil_of_mem hq
      obtain ⟨g, off, cap', _, hcells⟩ := HN.out.cells hne
      obtain ⟨j, hj, rfl⟩ := List.getElem_of_mem hq
      exact other_size ha hb (hcells j hj).1
end Go.Proofs.Ytghlmengcidmdaa.Tr
end
section
namespace Go.Proofs.Ytghlmengcidmdaa.Tr
open Go.RowKit Go.Proofs.Ytghlmengcidmdaa.Lx Go.Proofs.Ytghlmengcidmdaa.Wd
end Go.Proofs.Ytghlmengcidmdaa.Tr
end
section
namespace Go.Proofs.Ytghlmengcidmdaa.Tr
open Go.RowKit Go.Proofs.Ytghlmengcidmdaa.Lx Go.Proofs.Ytghlmengcidmdaa.Wd
set_option maxHeartbeats 4000000 in
set_option maxRecDepth 100000 in
theorem swapExpr_any (a b : ByteArray) (ha : a.size ≤ 9223372036854775807) (hb : b.size ≤ 9223372036854775807) : ∀ (d : Nat) (x : Ex) (kv : Value) (w : World), OkE x → ExK d w kv x.ks → lim d x.ks →
    Calls Try.prog 128 #[exV x kv, .string a, .string b] w (ExMade d (mapE (other a b) x) w) := by
  intro d
  induction d with
  | zero => intro x kv w _ h; exact h.elim
  | succ d ih =>
    intro x kv w hok hk hlim
    have IH := Lib.hid ih
    obtain ⟨i0, hi, hz0, hz1, hz2⟩ := info_parts infoEx
    obtain ⟨ax, cx, rfl, hc1, hc2⟩ := hk.form
    have hbox := boxed w (.cells #[.int .i64 x.op, .int .i64 x.n, .string x.nm, .slice ax x.ks.length cx] 37)
    have HB := Lib.hid hbox
    have HK := Lib.hid (hk.next hbox)
    have HOK := Lib.hid hok
    have HK0 := Lib.hid hk
    have hlen := hlim.1
    have HLIM := Lib.hid hlim.2
    obtain ⟨o, ho⟩ : ∃ o, Hid (other a b x.nm = o) := ⟨_, Lib.hid rfl⟩
    clear ih hbox hok hlim
    unfold exV
    go_enter Try.func128, Try.ntmps128
    go_upto_region 1 with fail
    go_cut [7] (fun s7 wx => s7 = .pointer (some ⟨w.heap.size + 1 + 1, 0, none⟩) ∧ Below w.heap.size w wx ∧ w.heap.size + 1 + 1 < wx.heap.size ∧ wx.cell? ⟨w.heap.size, 3, none⟩ = some (.slice ax x.ks.length cx) ∧ Grow (ExQ d) 37 4 (w.heap.size + 1 + 1 + 1) (w.heap.size + 1 + 1) (w.heap.size + 1) 4 [.int .i64 x.op, .int .i64 x.n, .string o, .slice none 0 0] 3 [] wx (.slice none 0 0) [])
    case first =>
      go_region_held3 (fun w' => w'.cell? ⟨w.heap.size, 0, none⟩ = some (.int .i64 x.op) ∧ w'.cell? ⟨w.heap.size, 1, none⟩ = some (.int .i64 x.n) ∧ w'.cell? ⟨w.heap.size, 2, none⟩ = some (.string x.nm))
        (go_keep)
        ((go_at_call 95; refine (other_any _ _ _ _).mono ?_; rintro e w' ⟨rfl, rfl⟩))
      all_goals
        go_wp2_with fail
        go_meet
        refine ⟨rfl, ?_, ?_, ?_, ?_⟩
        · first
            | exact (((boxed w _).alloc (by simp) _).drew).alloc (by simp; omega) _
            | exact (((boxed w _).alloc (by simp) _).alloc (by simp; omega) _).drew
        · simp
        · simp [go_sem]
        · refine ⟨by omega, by omega, by omega, by simp, fun j u hu => ?_, fun j => by simp [go_sem], fun j hj => ?_, fun j => by simp [go_sem], Acc.nil _ _ _ _ _, by simp⟩
          · match j, hu with
            | 0, hu => cases hu; simp [go_sem]
            | 1, hu => cases hu; simp [go_sem]
            | 2, hu => cases hu; simp [go_sem, ho.out]
            | 3, hu => cases hu; simp [go_sem]
          · match j, hj with
            | 0, _ => exact ⟨.int .i64 0, by simp [go_sem]⟩
            | 1, _ => exact ⟨.int .i64 0, by simp [go_sem]⟩
            | 2, _ => exact ⟨.string ⟨#[]⟩, by simp [go_sem]⟩
            | 3, _ => exact ⟨.slice none 0 0, by simp [go_sem]⟩
    case rest =>
      obtain ⟨rfl, hbel, hsz, hb3, hG⟩ := hcut
      have HBC := Lib.hid hbel
      have HGC := Lib.hid hG
      have hkc := hk.next hbel
      have HKC := Lib.hid hkc
      have hwc : wc.cell? ⟨w.heap.size, 3, none⟩ = some (.slice ax x.ks.length cx) := hb3
      clear hbel hG hkc hk
      go_wp2_with fail
      go_loopw [22] (fun i wr => ∃ (k : Nat) (v : Value) (rows : List (List Value)), k ≤ x.ks.length ∧ i = .int .i64 k ∧ Below w.heap.size w wr ∧ wc.heap.size ≤ wr.heap.size ∧ wr.cell? ⟨w.heap.size, 3, none⟩ = some (.slice ax x.ks.length cx) ∧ ExK (d + 1) wr (.slice ax x.ks.length cx) x.ks ∧
          Grow (ExQ d) 37 4 (w.heap.size + 1 + 1 + 1) (w.heap.size + 1 + 1) (w.heap.size + 1) 4 [.int .i64 x.op, .int .i64 x.n, .string o, .slice none 0 0] 3 ((x.ks.take k).map (mapE (other a b))) wr v rows) (fun i _ => (x.ks.length - intOf i).toNat)
      case atStart => exact ⟨0, _, [], by omega, rfl, HBC.out, Nat.le_refl _, hwc, HKC.out, HGC.out⟩
      case round =>
        obtain ⟨k, v, rows, hk, rfl, hbel, hle, hc3, hkr, hG⟩ := hrel
        have HBel := Lib.hid hbel
        have HKR := Lib.hid hkr
        have HG := Lib.hid hG
        have hL : ((x.ks.take k).map (mapE (other a b))).length = k := by simp; omega
        have y3 := hG.y 3 _ rfl
        have hown := hG.acc.own
        rw [hL] at hown
        have HOWN := Lib.hid hown
        have fy := hG.fy 3
        clear hwc hb3
        by_cases hlt : k < x.ks.length
        · have hlt' : (k : Int) < (x.ks.length : Int) := by omega
          have h0k : (0 : Int) ≤ (k : Int) := by omega
          have hne : x.ks ≠ [] := by intro h; rw [h] at hlt; simp at hlt
          obtain ⟨g, off, cap', hv, _, _, hcells⟩ := hkr.kids hne
          simp only [Value.slice.injEq] at hv
          obtain ⟨rfl, -, rfl⟩ := hv
          obtain ⟨hok2, u, c0, c1, c2, c3, hku⟩ := hcells k hlt
          obtain ⟨au, cu, rfl, -, -⟩ := hku.form
          have HKU := Lib.hid hku
          have HOK2 := Lib.hid hok2
          have hlimk := HLIM.out x.ks[k] (List.getElem_mem hlt)
          have HLK := Lib.hid hlimk
          have hyl := cell_lt y3
          have hgw : g < w.heap.size := by
            obtain ⟨g0, off0, cap0, hv0, _, _, hcells0⟩ := HK0.out.kids hne
            simp only [Value.slice.injEq, Option.some.injEq, Addr.mk.injEq] at hv0
            obtain ⟨⟨rfl, -⟩, -⟩ := hv0
            obtain ⟨_, _, q0, _⟩ := hcells0 k hlt
            exact cell_lt q0
          obtain ⟨va, vc, rfl⟩ := ownsForm hown
          have hnb := hG.own
          have HNB := Lib.hid hnb
          have hwl : w.heap.size < wr.heap.size := by omega
          have hgl : g < wr.heap.size := by omega
          clear hcells hku hok2 hbel hne hkr hG hown hlimk hnb
          obtain ⟨E, hE⟩ : ∃ E, Hid (mapE (other a b) x.ks[k] = E) := ⟨_, Lib.hid rfl⟩
          have IHK : Hid (∀ W kv, ExK d W kv x.ks[k].ks → Calls Try.prog 128 #[exV x.ks[k] kv, .string a, .string b] W (ExMade d E W)) := Lib.hid (fun W kv h => hE.out ▸ IH.out x.ks[k] kv W HOK2.out h HLK.out)
          have Y3 := Lib.hid y3
          have HC3 := Lib.hid hc3
          have FY := Lib.hid fy
          go_upto_region 5 with fail
          go_region_law
            (first
              | (go_simp; go_at_call 128; refine (IHK.out _ _ (HKU.out.next ((Below.refl _ _).drew))).mono ?_; rintro e w2 ⟨kv2, rfl, hok3, hkc3, hb2⟩; obtain ⟨ka2, kc2, rfl, hka1, hka2⟩ := hkc3.form; unfold exV; have z3 := cell_next hb2 (cell_next ((Below.refl _ _).drew) Y3.out); have zf := frozen_next hb2 (cell_next ((Below.refl _ _).drew) Y3.out) (frozen_next ((Below.refl _ _).drew) Y3.out FY.out); have Z3 := Lib.hid z3; have ZF := Lib.hid zf; have znew := World.new_ne _ _ z3; have zlt := cell_lt z3; dsimp only)
              | (have hbt := hb2; refine step_append_lies _ (by rfl) (.tmp 26) (.tmp 35) _ (by rfl) (w.heap.size + 1 + 1 + 1) 37 i0 (.agg #[.int .i64 0, .int .i64 0, .string ⟨#[]⟩, .slice none 0 0]) 4 56 Try.underlying35 hi hz0 hz1 hz2 rfl (by omega) (.slice va k vc) k rows.flatten (by rfl) ((ownsBelow HOWN.out.drew hb2).alloc _)
                  ⟨w2.heap.size, 0, none⟩ 1 1 [.int .i64 E.op, .int .i64 E.n, .string E.nm, .slice ka2 E.ks.length kc2] (by rfl) (by rfl) (World.news_of_block (cs := #[.int .i64 E.op, .int .i64 E.n, .string E.nm, .slice ka2 E.ks.length kc2]) (t := 37) (fr := (0, 0)) (heap_alloc_new w2 _)) (by simp [Value.oneCell'])
                  (by omega) (by unfold maxLen; omega) (by omega) (by have := hb2.size; simp at this ⊢ <;> omega) (w2.heap.size + 1) (by simp) ?_; intro gg cap4 w4 hown4 hgrow4 hat4 hlt4
                 have ylt := cell_lt Z3.out
                 have q3 := (hgrow4.cell_far ⟨w.heap.size + 1 + 1, 3, none⟩ (by simp <;> omega) (HNB.out _ (by simp))).trans (cell_next (boxed w2 _) Z3.out)
                 have qf := (hgrow4.frozen_far ⟨w.heap.size + 1 + 1, 3, none⟩ (by simp <;> omega) (HNB.out _ (by simp))).trans (frozen_next (boxed w2 _) Z3.out ZF.out)))
          all_goals
            go_wp2_with fail
            go_roundw
            case rel =>
              have hch : Below wr.heap.size wr (w2.alloc (.cells #[.int .i64 E.op, .int .i64 E.n, .string E.nm, .slice ka2 E.ks.length kc2] 37)) := (((Below.refl _ _).drew).trans hb2).trans ((boxed w2 _).mono hb2.size)
              have hB2 := Grow.below (B := w.heap.size + 1 + 1 + 1) (Y := w.heap.size + 1 + 1) (slot := 3) (v4 := .slice (some ⟨gg, 0, none⟩) (k + 1) cap4) HBel.out hch hgrow4 (by omega) (by omega) HNB.out
              have hstep := HG.out.step (v4 := .slice (some ⟨gg, 0, none⟩) (k + 1) cap4) (by simp) (ExQ.mono d) ((Below.refl _ _).drew) hb2 (boxed w2 _) hgrow4 (fun q hq => by have hqq : gg = q := by { simpa [Value.ownBlock] using hq }; subst hqq; exact hat4.imp id fun h => by omega) rfl ⟨_, rfl, hok3, hkc3⟩ (by rw [hL]; exact hown4)
              refine ⟨k + 1, .slice (some ⟨gg, 0, none⟩) (k + 1) cap4, rows ++ [[.int .i64 E.op, .int .i64 E.n, .string E.nm, .slice ka2 E.ks.length kc2]], by omega, by go_num, hB2, ?_, ?_, HK0.out.next hB2, ?_⟩
              · have := hgrow4.size
                have := hch.size
                simp only [World.size_setCell]
                omega
              · rw [World.cell?_setCell_other _ _ _ _ (fun e => by have := congrArg Addr.block e; simp only at this; omega), hgrow4.cell_far _ (by have := hch.size; simp only; omega) (HNB.out _ (by simp only; omega))]
                exact cell_next hch HC3.out
              · rw [List.take_succ_eq_append_getElem hlt, List.map_append, List.map_cons, List.map_nil, hE.out]
                exact hstep
            case measure => simp [intOf]; omega
        · have hlt' : ¬ (k : Int) < (x.ks.length : Int) := by omega
          have hke : k = x.ks.length := by omega
          subst hke
          obtain ⟨va, vc, rfl⟩ := ownsForm hown
          rw [List.take_length] at HG
          have y0 := HG.out.y 0 _ rfl
          have y1 := HG.out.y 1 _ rfl
          have y2 := HG.out.y 2 _ rfl
          obtain ⟨r0, hr0⟩ := HG.out.r 0 (by omega)
          obtain ⟨r1, hr1⟩ := HG.out.r 1 (by omega)
          obtain ⟨r2, hr2⟩ := HG.out.r 2 (by omega)
          obtain ⟨r3, hr3⟩ := HG.out.r 3 (by omega)
          have f0 := HG.out.fy 0
          have f1 := HG.out.fr 0
          have f2 := HG.out.fr 1
          have f3 := HG.out.fr 2
          have f4 := HG.out.fr 3
          have hfit : ((x.ks.map (mapE (other a b))).length) ≤ 9223372036854775807 := by simp; omega
          have hm := HG.out.acc.exC hfit
          have HM := Lib.hid hm
          clear hG hbel hm hown
          go_wp2_with fail
          obtain ⟨q0, q1, q2, q3⟩ := fill4 (a := .int .i64 x.op) (b := .int .i64 x.n) (c := .string o) (d := .slice va x.ks.length vc) hr0 hr1 hr2 hr3
          refine bodyPost_ret (v := .agg #[.int .i64 x.op, .int .i64 x.n, .string o, .slice va x.ks.length vc]) (by simp [results, Try.results128, go_sem, q0, q1, q2, q3]) rfl ⟨.slice va x.ks.length vc, ?_, ⟨?_, ?_, ?_⟩, ?_, ?_⟩
          · unfold exV
            rw [mapE_op, mapE_n, mapE_nm, ho.out]
          · rw [mapE_op]; exact HOK.out.op
          · rw [mapE_n]; exact HOK.out.n
          · rw [mapE_nm, ho.out]; exact ho.out ▸ other_size ha hb HOK.out.nm
          · rw [mapE_ks]
            refine ExC.mono (Cs.le_trans (le_set (R := w.heap.size + 1) (by omega)) (Cs.le_trans (le_set (R := w.heap.size + 1) (by omega)) (Cs.le_trans (le_set (R := w.heap.size + 1) (by omega)) (Cs.le_trans (le_set (R := w.heap.size + 1) (by omega)) (nw_le (by omega) (Below.refl _ _)))))) HM.out
          · refine (((HBel.out.setCell (p := ⟨_, _, none⟩) ?_ _).setCell (p := ⟨_, _, none⟩) ?_ _).setCell (p := ⟨_, _, none⟩) ?_ _).setCell (p := ⟨_, _, none⟩) ?_ _ <;> simp
end Go.Proofs.Ytghlmengcidmdaa.Tr
end
end
section
/- Plain laws: an expression with two names changed for each other is worth the same. No program. Conditions: none. -/
namespace Go.Proofs.Ytghlmengcidmdaa.Tr
open Go.RowKit Go.Proofs.Ytghlmengcidmdaa.Lx Go.Proofs.Ytghlmengcidmdaa.Wd
theorem other_eq (a b s : ByteArray) : other a b s = if s = a then b else if s = b then a else s := by
  unfold other
  simp only [eq_text]
theorem other_back (a b s : ByteArray) : other a b (other a b s) = s := by
  rw [other_eq, other_eq]
  by_cases h1 : s = a
  · subst h1
    rw [if_pos rfl]
    by_cases h2 : b = s
    · rw [if_pos h2, h2]
    · rw [if_neg h2, if_pos rfl]
  · rw [if_neg h1]
    by_cases h2 : s = b
    · subst h2
      rw [if_pos rfl, if_pos rfl]
    · rw [if_neg h2, if_neg h1, if_neg h2]
theorem other_inj (a b s t : ByteArray) : ((other a b s).toList == (other a b t).toList) = (s.toList == t.toList) := by
  rw [Bool.eq_iff_iff, eq_text, eq_text]
  exact ⟨fun h => by rw [← other_back a b s, h, other_back], fun h => by rw [h]⟩
theorem at_map {f : ByteArray → ByteArray} (hf : ∀ s t, ((f s).toList == (f t).toList) = (s.toList == t.toList)) (s : ByteArray) (ns : List ByteArray) : at_ (f s) (ns.map f) = at_ s ns := by
  unfold at_
  rw [List.findIdx?_map]
  congr 1
  funext m
  exact hf s m
theorem may_map {f : ByteArray → ByteArray} (h0 : ∀ s, noName s = true → noName (f s) = true) (h1 : ∀ s, isName (bl s) = true → isName (bl (f s)) = true) : ∀ (l : Nat) (x : Ex), mayE l x = true → mayE l (mapE f x) = true := by
  intro l
  induction l with
  | zero => intro x h; exact h
  | succ l ih =>
    intro x h
    obtain ⟨q1, q2, q3⟩ := may_parts h
    rw [mayE_succ, Bool.and_eq_true, Bool.and_eq_true, List.all_eq_true]
    refine ⟨⟨?_, ?_⟩, ?_⟩
    · rw [mapE_ks, mapE_op]; simpa using q1
    · unfold headE at q2 ⊢
      rw [mapE_op, mapE_n, mapE_nm]
      split
      · rename_i h; rw [if_pos h, Bool.and_eq_true] at q2; rw [Bool.and_eq_true]; exact ⟨q2.1, h0 _ q2.2⟩
      · rename_i h
        rw [if_neg h] at q2
        split
        · rename_i h; rw [if_pos h, Bool.and_eq_true] at q2; rw [Bool.and_eq_true]; exact ⟨q2.1, h1 _ q2.2⟩
        · rename_i h; rw [if_neg h, Bool.and_eq_true] at q2; rw [Bool.and_eq_true]; exact ⟨q2.1, h0 _ q2.2⟩
    · intro k hk
      rw [mapE_ks] at hk
      obtain ⟨j, hj, rfl⟩ := List.mem_map.1 hk
      exact ih j (q3 j hj)
theorem may_other {a b : ByteArray} (ha : isName (bl a) = true) (hb : isName (bl b) = true) {l : Nat} {x : Ex} (h : mayE l x = true) : mayE l (mapE (other a b) x) = true := by
  refine may_map (fun s hs => ?_) (fun s hs => ?_) l x h
  · rw [other_eq, if_neg (fun e => by rw [e, name_some ha] at hs; cases hs), if_neg (fun e => by rw [e, name_some hb] at hs; cases hs)]
    exact hs
  · rw [other_eq]
    split
    · exact hb
    · split
      · exact ha
      · exact hs
end Go.Proofs.Ytghlmengcidmdaa.Tr
end
section
/- What texts, copyOne of the reference make: a list of texts, a statement anew. Conditions: they lie in memory; the statement is light. -/
namespace Go.Proofs.Ytghlmengcidmdaa.Tr
open Go.RowKit Go.Proofs.Ytghlmengcidmdaa.Lx Go.Proofs.Ytghlmengcidmdaa.Wd
set_option linter.unusedSimpArgs false
theorem pfar13 {w : World} {b g j : Nat} {x0 x1 x2 x3 x4 x5 x6 x7 x8 x9 x10 x11 x12 u : Value} (hne : b ≠ g) (h : w.cell? ⟨g, j, none⟩ = some u) : (((((((((((((w.setCell ⟨b, 0, none⟩ x0).setCell ⟨b, 1, none⟩ x1).setCell ⟨b, 2, none⟩ x2).setCell ⟨b, 3, none⟩ x3).setCell ⟨b, 4, none⟩ x4).setCell ⟨b, 5, none⟩ x5).setCell ⟨b, 6, none⟩ x6).setCell ⟨b, 7, none⟩ x7).setCell ⟨b, 8, none⟩ x8).setCell ⟨b, 9, none⟩ x9).setCell ⟨b, 10, none⟩ x10).setCell ⟨b, 11, none⟩ x11).setCell ⟨b, 12, none⟩ x12).cell? ⟨g, j, none⟩ = some u := by
  have ne : ∀ i, (⟨b, i, none⟩ : Addr) ≠ ⟨g, j, none⟩ := fun i e => hne (congrArg Addr.block e)
  iterate 13 rw [World.cell?_setCell_other _ _ _ _ (ne _)]
  exact h
theorem pbox13 {w : World} {b : Nat} {c0 c1 c2 c3 c4 c5 c6 c7 c8 c9 c10 c11 c12 x0 x1 x2 x3 x4 x5 x6 x7 x8 x9 x10 x11 x12 : Value} (h : BoxAt w b [c0, c1, c2, c3, c4, c5, c6, c7, c8, c9, c10, c11, c12]) : BoxAt (((((((((((((w.setCell ⟨b, 0, none⟩ x0).setCell ⟨b, 1, none⟩ x1).setCell ⟨b, 2, none⟩ x2).setCell ⟨b, 3, none⟩ x3).setCell ⟨b, 4, none⟩ x4).setCell ⟨b, 5, none⟩ x5).setCell ⟨b, 6, none⟩ x6).setCell ⟨b, 7, none⟩ x7).setCell ⟨b, 8, none⟩ x8).setCell ⟨b, 9, none⟩ x9).setCell ⟨b, 10, none⟩ x10).setCell ⟨b, 11, none⟩ x11).setCell ⟨b, 12, none⟩ x12) b [x0, x1, x2, x3, x4, x5, x6, x7, x8, x9, x10, x11, x12] := (((((((((((((h.put (j := 0) (x := x0) (by simp)).put (j := 1) (x := x1) (by simp)).put (j := 2) (x := x2) (by simp)).put (j := 3) (x := x3) (by simp)).put (j := 4) (x := x4) (by simp)).put (j := 5) (x := x5) (by simp)).put (j := 6) (x := x6) (by simp)).put (j := 7) (x := x7) (by simp)).put (j := 8) (x := x8) (by simp)).put (j := 9) (x := x9) (by simp)).put (j := 10) (x := x10) (by simp)).put (j := 11) (x := x11) (by simp)).put (j := 12) (x := x12) (by simp))
theorem free13 {w : World} {b : Nat} {x0 x1 x2 x3 x4 x5 x6 x7 x8 x9 x10 x11 x12 : Value} (h : Free w b) : Free (((((((((((((w.setCell ⟨b, 0, none⟩ x0).setCell ⟨b, 1, none⟩ x1).setCell ⟨b, 2, none⟩ x2).setCell ⟨b, 3, none⟩ x3).setCell ⟨b, 4, none⟩ x4).setCell ⟨b, 5, none⟩ x5).setCell ⟨b, 6, none⟩ x6).setCell ⟨b, 7, none⟩ x7).setCell ⟨b, 8, none⟩ x8).setCell ⟨b, 9, none⟩ x9).setCell ⟨b, 10, none⟩ x10).setCell ⟨b, 11, none⟩ x11).setCell ⟨b, 12, none⟩ x12) b := (((((((((((((h.set).set).set).set).set).set).set).set).set).set).set).set).set)
theorem size13 {w : World} {b : Nat} {x0 x1 x2 x3 x4 x5 x6 x7 x8 x9 x10 x11 x12 : Value} : (((((((((((((w.setCell ⟨b, 0, none⟩ x0).setCell ⟨b, 1, none⟩ x1).setCell ⟨b, 2, none⟩ x2).setCell ⟨b, 3, none⟩ x3).setCell ⟨b, 4, none⟩ x4).setCell ⟨b, 5, none⟩ x5).setCell ⟨b, 6, none⟩ x6).setCell ⟨b, 7, none⟩ x7).setCell ⟨b, 8, none⟩ x8).setCell ⟨b, 9, none⟩ x9).setCell ⟨b, 10, none⟩ x10).setCell ⟨b, 11, none⟩ x11).setCell ⟨b, 12, none⟩ x12).heap.size = w.heap.size := by simp only [World.size_setCell]
theorem below13 {v w : World} {n b : Nat} {x0 x1 x2 x3 x4 x5 x6 x7 x8 x9 x10 x11 x12 : Value} (h : Below n v w) (hb : n ≤ b) : Below n v (((((((((((((w.setCell ⟨b, 0, none⟩ x0).setCell ⟨b, 1, none⟩ x1).setCell ⟨b, 2, none⟩ x2).setCell ⟨b, 3, none⟩ x3).setCell ⟨b, 4, none⟩ x4).setCell ⟨b, 5, none⟩ x5).setCell ⟨b, 6, none⟩ x6).setCell ⟨b, 7, none⟩ x7).setCell ⟨b, 8, none⟩ x8).setCell ⟨b, 9, none⟩ x9).setCell ⟨b, 10, none⟩ x10).setCell ⟨b, 11, none⟩ x11).setCell ⟨b, 12, none⟩ x12) := (((((((((((((h.setCell (p := ⟨b, 0, none⟩) hb _).setCell (p := ⟨b, 1, none⟩) hb _).setCell (p := ⟨b, 2, none⟩) hb _).setCell (p := ⟨b, 3, none⟩) hb _).setCell (p := ⟨b, 4, none⟩) hb _).setCell (p := ⟨b, 5, none⟩) hb _).setCell (p := ⟨b, 6, none⟩) hb _).setCell (p := ⟨b, 7, none⟩) hb _).setCell (p := ⟨b, 8, none⟩) hb _).setCell (p := ⟨b, 9, none⟩) hb _).setCell (p := ⟨b, 10, none⟩) hb _).setCell (p := ⟨b, 11, none⟩) hb _).setCell (p := ⟨b, 12, none⟩) hb _)
theorem only13 {S : Nat → Prop} {w : World} {b : Nat} {x0 x1 x2 x3 x4 x5 x6 x7 x8 x9 x10 x11 x12 : Value} (h : ¬ S b) : Cs.le (only S (cw w)) (only S (cw (((((((((((((w.setCell ⟨b, 0, none⟩ x0).setCell ⟨b, 1, none⟩ x1).setCell ⟨b, 2, none⟩ x2).setCell ⟨b, 3, none⟩ x3).setCell ⟨b, 4, none⟩ x4).setCell ⟨b, 5, none⟩ x5).setCell ⟨b, 6, none⟩ x6).setCell ⟨b, 7, none⟩ x7).setCell ⟨b, 8, none⟩ x8).setCell ⟨b, 9, none⟩ x9).setCell ⟨b, 10, none⟩ x10).setCell ⟨b, 11, none⟩ x11).setCell ⟨b, 12, none⟩ x12))) := Cs.le_trans (only_set h) (Cs.le_trans (only_set h) (Cs.le_trans (only_set h) (Cs.le_trans (only_set h) (Cs.le_trans (only_set h) (Cs.le_trans (only_set h) (Cs.le_trans (only_set h) (Cs.le_trans (only_set h) (Cs.le_trans (only_set h) (Cs.le_trans (only_set h) (Cs.le_trans (only_set h) (Cs.le_trans (only_set h) (only_set h))))))))))))
/-- A statement is light: so much as a copier can copy (its names as long as they will). -/
def LightS (s : St) : Prop := wt s.x ≤ 20000 ∧ s.labels.length ≤ 1000000 ∧ s.args.length ≤ 1000000 ∧ ∀ a ∈ s.args, wt a.x ≤ 20000
theorem LightS.of {s : St} (h : wtS s ≤ 20000) : LightS s := by
  rw [wtS_eq] at h
  have h1 := wtTs_len s.labels
  have h2 := wtAr_len s.args
  exact ⟨by omega, by omega, by omega, fun a ha => by have := wtAr_mem ha; omega⟩
end Go.Proofs.Ytghlmengcidmdaa.Tr
end
section
/- What put of the reference makes: a row in which the statement of that id is another one, which keeps what stands in it. Conditions: they lie in memory and are light. -/
namespace Go.Proofs.Ytghlmengcidmdaa.Tr
open Go.RowKit Go.Proofs.Ytghlmengcidmdaa.Lx Go.Proofs.Ytghlmengcidmdaa.Wd
/-- What put leaves. -/
def PutMade (d : Nat) (l : List St) (w : World) (e : Ending) (w' : World) : Prop := ∃ v, e = .returned v ∧ StC (nwC w.heap.size w') d v l ∧ Below w.heap.size w w'
end Go.Proofs.Ytghlmengcidmdaa.Tr
end
