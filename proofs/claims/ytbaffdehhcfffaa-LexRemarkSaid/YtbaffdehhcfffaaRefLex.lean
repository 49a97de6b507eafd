/- What the Go function Lex of the reference computes: the same as lex.All. Conditions: the text has at most 2^63 - 1 bytes. -/
import Derived.Test.YtbaffdehhcfffaaRefTok
import Derived.Deep.AppendLies
namespace Go.Proofs.Ytbaffdehhcfffaa.Lx
open Go.RowKit
theorem infoTok2 : (Try.prog.info? 33).map (fun i => (i.zero, i.size, i.bytes)) = some (some (.agg #[.int .i64 0, .string ⟨#[]⟩, .int .i64 0, .int .i64 0]), 4, 40) := by kernel_rfl
structure MemR (W wr : World) (v : Value) (acc : List Tok) : Prop where
  below : Below W.heap.size W wr
  size : W.heap.size + 1 ≤ wr.heap.size
  f0 : wr.cell? ⟨W.heap.size, 0, none⟩ = some (.int .i64 0)
  f1 : wr.cell? ⟨W.heap.size, 1, none⟩ = some (.int .i64 0)
  ff : ∀ j, wr.frozen? ⟨W.heap.size, j, none⟩ = false
  own : wr.ownsRow (W.heap.size + 1) 33 4 v acc.length (rowOf acc)
theorem ownsBelow {w w' : World} {B : Nat} {e : TypeId} {z : Nat} {v : Value} {n : Nat} {xs : List Value} (h : w.ownsRow B e z v n xs) (hb : Below w.heap.size w w') : w'.ownsRow B e z v n xs := by
  refine ⟨h.1, ?_⟩
  rcases h.2 with h2 | ⟨g, cap, cur, h1, h2, h3, h4⟩
  · exact .inl h2
  · refine .inr ⟨g, cap, cur, h1, h2, ?_, h4⟩
    have hlt : g < w.heap.size := by
      apply Decidable.byContradiction
      intro hn
      rw [Array.getElem?_eq_none (by omega)] at h3
      cases h3
    rw [hb.block g hlt]
    exact h3
theorem MemR.next {W wr w1 : World} {v : Value} {acc : List Tok} (h : MemR W wr v acc) (hb : Below wr.heap.size wr w1) : MemR W w1 v acc where
  below := h.below.trans (hb.mono (by have := h.size; omega))
  size := Nat.le_trans h.size hb.size
  f0 := (hb.cell (p := ⟨W.heap.size, 0, none⟩) h.size).trans h.f0
  f1 := (hb.cell (p := ⟨W.heap.size, 1, none⟩) h.size).trans h.f1
  ff := fun j => (hb.frozen (p := ⟨W.heap.size, j, none⟩) h.size).trans (h.ff j)
  own := ownsBelow h.own hb
theorem MemR.alloc {W wr : World} {v : Value} {acc : List Tok} (h : MemR W wr v acc) (o : Obj) : MemR W (wr.alloc o) v acc := h.next ((Below.refl _ _).alloc (Nat.le_refl _) _)
theorem MemR.grow {W wr w1 : World} {v v1 : Value} {acc : List Tok} {t : Tok} (h : MemR W wr v acc) (o : Obj) (hg : (wr.alloc o).grownBy w1 v.ownBlock)
    (hown : w1.ownsRow (W.heap.size + 1) 33 4 v1 (acc.length + 1) (rowOf acc ++ tokCells t)) : MemR W w1 v1 (acc ++ [t]) := by
  have hlt := h.own.lt
  have hs := h.size
  have hb2 : Below (W.heap.size + 1) wr w1 := ((Below.refl _ wr).alloc hs o).grown hg (by simp; omega) (fun k hk => (hlt k hk).1)
  exact {
    below := h.below.trans (hb2.mono (by omega))
    size := Nat.le_trans hs hb2.size
    f0 := (hb2.cell (p := ⟨W.heap.size, 0, none⟩) (by simp)).trans h.f0
    f1 := (hb2.cell (p := ⟨W.heap.size, 1, none⟩) (by simp)).trans h.f1
    ff := fun j => (hb2.frozen (p := ⟨W.heap.size, j, none⟩) (by simp)).trans (h.ff j)
    own := by rw [rowOf_snoc, List.length_append]; exact hown }
theorem first_memR (w : World) : MemR w (w.alloc (.cells #[.int .i64 0, .int .i64 0] 27)) (.slice none 0 0) [] where
  below := (Below.refl _ _).alloc (Nat.le_refl _) _
  size := by simp
  f0 := World.cell?_alloc_new _ _ _ _
  f1 := World.cell?_alloc_new _ _ _ _
  ff := fun j => by simp [go_sem]
  own := World.ownsRow_nil _ _ _ _
theorem done_R {s : ByteArray} {W w1 : World} {v : Value} {toks : List Tok} (hm : MemR W w1 v toks) (hr : lexAll (bl s) = ⟨0, 0, toks⟩) (x y : Value) :
    AllPost s W (.returned (.tuple #[v, .agg #[.int .i64 0, .int .i64 0]])) ((w1.setCell ⟨W.heap.size, 0, none⟩ x).setCell ⟨W.heap.size, 1, none⟩ y) := by
  refine ⟨v, by rw [hr]; rfl, (hm.below.setCell (Nat.le_refl _) _).setCell (Nat.le_refl _) _, ?_⟩
  rw [hr]
  exact ownsDown (ownsRow_setCell_below (ownsRow_setCell_below hm.own (by simp) _) (by simp) _) (by omega)
theorem ext_tail (s : ByteArray) (k : Nat) : bl (s.extract k s.size) = (bl s).drop k := by
  rw [ext_bl, List.take_of_length_le (by rw [List.length_drop, bl_len]; omega)]
theorem new_cells_at (w : World) (l : List Value) (T : TypeId) (n : Nat) (hn : n = w.heap.size) : ∀ j u, l[j]? = some u → (w.alloc (.cells l.toArray T)).cell? ((⟨n, 0, none⟩ : Addr).add j) = some u := by
  subst hn; exact new_cells w l T
theorem tokVal_ok {t : Nat × Nat × Nat × Nat} {l : List UInt8} {a : Int} {kind len n : Nat} (h : t = (0, kind, len, n)) : tokVal t l a = .tuple #[.agg #[.int .i64 kind, .string ⟨(l.take len).toArray⟩, .int .i64 n, .int .i64 a], .int .i64 0] := by rw [h]; rfl
theorem tokVal_bad {t : Nat × Nat × Nat × Nat} {l : List UInt8} {a : Int} {e kind len n : Nat} (h : t = (e + 1, kind, len, n)) : tokVal t l a = .tuple #[.agg #[.int .i64 0, .string ⟨#[]⟩, .int .i64 0, .int .i64 0], .int .i64 ((e + 1 : Nat) : Int)] := by rw [h]; rfl
set_option maxHeartbeats 4000000 in
set_option maxRecDepth 100000 in
theorem rlex_fits (s : ByteArray) (w : World) (hs : s.size ≤ 9223372036854775807) (h1 : ¬ 100000 < s.size) :
    Calls Try.prog 19 #[.string s] w (AllPost s w) := by
  obtain ⟨i0, hi, hz0, hz1, hz2⟩ := info_parts infoTok2
  have h1' : ¬ (100000 : Int) < (s.size : Int) := by omega
  go_enter Try.func19, Try.ntmps19
  go_wp2_with fail
  go_loopw [4, 5] (fun l i wr => ∃ (k : Nat) (v : Value) (acc : List Tok), k ≤ s.size ∧ i = .int .i64 k ∧ l = v ∧ acc.length ≤ 2000 ∧ MemR w wr v acc ∧ lexAll (bl s) = fin acc (lexN ((bl s).drop k) k (2000 - acc.length))) (fun _ i _ => (s.size - intOf i).toNat)
  case atStart =>
    refine ⟨0, .slice none 0 0, [], by omega, rfl, rfl, by simp, first_memR w, ?_⟩
    rw [fin_nil]
    unfold lexAll
    rw [if_neg (by rw [bl_len]; omega)]
    rfl
  case round =>
    obtain ⟨k, v, acc, hk, rfl, rfl, hl, hmem, heq⟩ := hrel
    have HQ := Lib.hid heq
    clear heq
    have HM := Lib.hid hmem
    clear hmem
    obtain ⟨va, vc, rfl⟩ := ownsForm HM.out.own
    by_cases hend : k < s.size
    · have hend' : (k : Int) < (s.size : Int) := by omega
      cases hb : blank s[k] with
      | true =>
        have HE := Lib.hid (HQ.out.trans (at_blank hend hb _))
        go_wp2_with (go_at_call 33; refine (rblank_any _ _).mono ?_; rintro e w' ⟨rfl, rfl⟩)
        go_roundw
        case rel => exact ⟨k + 1, _, acc, by omega, by go_num, rfl, hl, HM.out, HE.out⟩
        case measure => simp [intOf]; omega
      | false =>
        by_cases h35 : s[k].toNat = 35
        · have n35 : ((s[k].toNat : Int) == 35) = true := by simp; omega
          have HE := Lib.hid (HQ.out.trans (at_remark hend h35 _))
          have HE2 := Lib.hid (endAt_yes (p := noEnd) hend (by simp [noEnd, h35]))
          have HE3 := Lib.hid (endAt_le (p := noEnd) (s := s) (k := k + 1) (by omega))
          obtain ⟨wo, hwo⟩ : ∃ wo : World, Hid (wo = wr) := ⟨_, Lib.hid rfl⟩
          clear h35
          go_wp2_with (go_at_call 33; refine (rblank_any _ _).mono ?_; rintro e w' ⟨rfl, rfl⟩)
          go_loop [5] (fun v => ∃ q : Nat, k ≤ q ∧ q ≤ s.size ∧ v = .int .i64 q ∧ endAt noEnd s q = endAt noEnd s k) (fun v => (s.size - intOf v).toNat)
          case atStart => exact ⟨k, Nat.le_refl _, hk, rfl, rfl⟩
          case round =>
            obtain ⟨q, hq1, hq2, rfl, hq3⟩ := hrel
            have HQ3 := Lib.hid hq3
            clear hq3
            by_cases hlt : q < s.size
            · have hlt' : (q : Int) < (s.size : Int) := by omega
              by_cases h10 : s[q].toNat = 10
              · have t10 : ((s[q].toNat : Int) != 10) = false := by simp; omega
                have hst := endAt_no (p := noEnd) hlt (by simp [noEnd, h10])
                rw [HQ3.out] at hst
                have HST := Lib.hid hst
                clear hst h10
                go_wp2_with fail
                go_roundw
                case rel => exact ⟨q, _, acc, by omega, rfl, rfl, hl, HM.out, by rw [HE.out, HST.out]⟩
                case measure => have := HE2.out; have := HE3.out; have := HST.out; simp [intOf]; omega
              · have t10 : ((s[q].toNat : Int) != 10) = true := by simp; omega
                have HST := Lib.hid (endAt_yes (p := noEnd) hlt (by simp [noEnd, h10]))
                clear h10
                go_wp2_with fail
                go_round
                case rel => exact ⟨q + 1, by omega, by omega, by go_num, by rw [HST.out, HQ3.out]⟩
                case measure => simp [intOf]; omega
            · have hlt' : ¬ (q : Int) < (s.size : Int) := by omega
              have hst := endAt_end (p := noEnd) (s := s) (k := q) (by omega)
              rw [HQ3.out] at hst
              have HST := Lib.hid hst
              clear hst
              go_wp2_with fail
              go_roundw
              case rel => exact ⟨q, _, acc, by omega, rfl, rfl, hl, HM.out, by rw [HE.out, HST.out]⟩
              case measure => have := HE2.out; have := HE3.out; have := HST.out; simp [intOf]; omega
        · have n35 : ((s[k].toNat : Int) == 35) = false := by simp; omega
          obtain ⟨er, kind, len, n, htk⟩ : ∃ er kind len n, Hid (tokOf ((bl s).drop k) = (er, kind, len, n)) := ⟨_, _, _, _, Lib.hid rfl⟩
          have hesz : 0 < (s.extract k s.size).size := by rw [ByteArray.size_extract]; omega
          have HTOK := Lib.hid fun w => rtoken_any (s.extract k s.size) k w hesz (by rw [ByteArray.size_extract]; omega)
          rw [ext_tail s k] at HTOK
          cases er with
          | succ er =>
            have HE := Lib.hid (HQ.out.trans (at_bad hend hb h35 htk.out (by omega) _))
            have HTOK := Lib.hid (tokVal_bad htk.out ▸ HTOK.out)
            have hne : (((er + 1 : Nat) : Int) == 0) = false := by simp; omega
            clear h35 hesz
            go_wp2_with (go_at_call 33; refine (rblank_any _ _).mono ?_; rintro e w' ⟨rfl, rfl⟩)
            refine (HTOK.out _).mono ?_
            rintro e w1 ⟨rfl, hb1⟩
            have HM1 := Lib.hid (HM.out.next hb1)
            clear hb1
            have g0 := HM1.out.f0
            have g1 := HM1.out.f1
            have gf0 := HM1.out.ff 0
            have gf1 := HM1.out.ff 1
            have hsz : w.heap.size < w1.heap.size := by have := HM1.out.size; omega
            go_wp2_with fail
            refine bodyPost_ret (v := .tuple #[.slice none 0 0, .agg #[.int .i64 ((er + 1 : Nat) : Int), .int .i64 k]]) (by simp [results, Try.results19, go_sem, g0, g1, hsz]) rfl (all_fault (c := er + 1) (p := k) ?_ HE.out)
            exact (Below.setCell (Below.setCell HM1.out.below (p := ⟨w.heap.size, 0, none⟩) (Nat.le_refl _) _) (p := ⟨w.heap.size, 1, none⟩) (Nat.le_refl _) _).alloc (by simp; omega) _
          | zero =>
            have HTOK := Lib.hid (tokVal_ok htk.out ▸ HTOK.out)
            have hlen := tokOf_len (l := (bl s).drop k) (by rw [htk.out])
            rw [htk.out, List.length_drop, bl_len] at hlen
            dsimp only at hlen
            obtain ⟨hlen1, hlen2⟩ := hlen
            obtain ⟨x, hx⟩ : ∃ x, Hid ((⟨(((bl s).drop k).take len).toArray⟩ : ByteArray) = x) := ⟨_, Lib.hid rfl⟩
            have hxs : x.size = len := by
              rw [← hx.out]
              show ((((bl s).drop k).take len).toArray).size = len
              rw [List.size_toArray, List.length_take, List.length_drop, bl_len]
              omega
            have HTOK := Lib.hid (hx.out ▸ HTOK.out)
            have h35' := Lib.hid h35
            clear h35 hesz
            by_cases hfull : acc.length = 2000
            · have hfi : ((acc.length : Int) == 2000) = true := by simp; omega
              have HE := Lib.hid (HQ.out.trans (at_full hend hb h35'.out htk.out hfull))
              clear hfull
              go_wp2_with (go_at_call 33; refine (rblank_any _ _).mono ?_; rintro e w' ⟨rfl, rfl⟩)
              refine (HTOK.out _).mono ?_
              rintro e w1 ⟨rfl, hb1⟩
              have HM1 := Lib.hid (HM.out.next hb1)
              clear hb1
              have g0 := HM1.out.f0
              have g1 := HM1.out.f1
              have gf0 := HM1.out.ff 0
              have gf1 := HM1.out.ff 1
              have hsz : w.heap.size < w1.heap.size := by have := HM1.out.size; omega
              go_wp2_with fail
              refine bodyPost_ret (v := .tuple #[.slice none 0 0, .agg #[.int .i64 4, .int .i64 k]]) (by simp [results, Try.results19, go_sem, g0, g1, hsz]) rfl (all_fault (c := 4) (p := k) ?_ HE.out)
              exact (Below.setCell (Below.setCell HM1.out.below (p := ⟨w.heap.size, 0, none⟩) (Nat.le_refl _) _) (p := ⟨w.heap.size, 1, none⟩) (Nat.le_refl _) _).alloc (by simp; omega) _
            · have hfi : ((acc.length : Int) == 2000) = false := by simp; omega
              have HE := Lib.hid (HQ.out.trans (at_tok hend hb h35'.out htk.out (by omega)))
              go_wp2_with (go_at_call 33; refine (rblank_any _ _).mono ?_; rintro e w' ⟨rfl, rfl⟩)
              refine (HTOK.out _).mono ?_
              rintro e w1 ⟨rfl, hb1⟩
              have HM1 := Lib.hid (HM.out.next hb1)
              clear hb1
              have g0 := HM1.out.f0
              have g1 := HM1.out.f1
              have gf0 := HM1.out.ff 0
              have gf1 := HM1.out.ff 1
              have hsz : w.heap.size < w1.heap.size := by have := HM1.out.size; omega
              go_wp2_with (at_builtin; refine wpList_append_own _ rfl (.tmp 58) (.tmp 60) 24 rfl (w.heap.size + 1) 33 i0 (.agg #[.int .i64 0, .string ⟨#[]⟩, .int .i64 0, .int .i64 0]) 4 40 Try.underlying24 hi hz0 hz1 hz2 rfl (by decide) _ _ _ rfl ((HM1.out.alloc _).own.alloc _) ⟨_, 0, none⟩ 1 1 [.int .i64 kind, .string x, .int .i64 n, .int .i64 k] rfl rfl ?c1t ?c2t ?c3t ?c4t ?c5t ?_)
              case c1t => exact new_cells_at _ _ _ _ (by simp)
              case c2t => exact one_cells
              case c3t => unfold maxLen; omega
              case c4t => omega
              case c5t => have := HM1.out.size; simp; omega
              intro v' w2 hown2 hg2 _
              have hown3 := hown2
              rw [← hx.out] at hown3
              have HM2 := Lib.hid ((HM1.out.alloc _).grow (t := ⟨kind, ((bl s).drop k).take len, n, k⟩) _ hg2 hown3)
              have hlt := HM1.out.own.lt
              have hcx : w2.cell? ⟨w1.heap.size, 1, none⟩ = some (.string x) := hg2.cell (by simp [go_sem]) (by
                intro h
                have := hlt _ h.symm
                simp at this)
              clear hown2 hown3 hg2 hlt
              go_wp2_with fail
              go_roundw
              case rel => exact ⟨k + len, v', _, by omega, by go_num, rfl, by simp; omega, HM2.out, HE.out⟩
              case measure => simp [intOf]; omega
    · have hend' : ¬ (k : Int) < (s.size : Int) := by omega
      have HL : Hid (lexAll (bl s) = ⟨0, 0, acc ++ [⟨0, [], 0, s.size⟩]⟩) := by
        have := at_end (s := s) (k := k) (acc := acc) (by omega) (2000 - acc.length)
        rw [← HQ.out, show k = s.size from by omega] at this
        exact Lib.hid this
      go_wp2_with (at_builtin; refine wpList_append_own _ rfl (.tmp 67) (.tmp 71) 24 rfl (w.heap.size + 1) 33 i0 (.agg #[.int .i64 0, .string ⟨#[]⟩, .int .i64 0, .int .i64 0]) 4 40 Try.underlying24 hi hz0 hz1 hz2 rfl (by decide) _ _ _ rfl (HM.out.own.alloc _) ⟨_, 0, none⟩ 1 1 [.int .i64 0, .string ⟨#[]⟩, .int .i64 0, .int .i64 s.size] rfl rfl ?c1e ?c2e ?c3e ?c4e ?c5e ?_)
      case c2e => exact ⟨rfl, rfl, rfl, rfl⟩
      case c3e => unfold maxLen; omega
      case c4e => omega
      case c5e => have := HM.out.size; omega
      intro v' w1 hown1 hg1 _
      have HM1 := Lib.hid (HM.out.grow (t := ⟨0, [], 0, s.size⟩) _ hg1 hown1)
      clear hown1 hg1
      have g0 := HM1.out.f0
      have g1 := HM1.out.f1
      have gf0 := HM1.out.ff 0
      have gf1 := HM1.out.ff 1
      go_wp2_with fail
      exact bodyPost_ret (v := .tuple #[v', .agg #[.int .i64 0, .int .i64 0]]) (by simp [results, Try.results19, go_sem, g0, g1]) rfl (done_R HM1.out HL.out _ _)
end Go.Proofs.Ytbaffdehhcfffaa.Lx
