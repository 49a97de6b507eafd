/- What the Go function lex.All computes: a text's tokens in a row of its own, or its first fault. Conditions: the text has at most 2^63 - 1 bytes. -/
import Derived.Test.YtbaffdehhcfffaaLexMem
import Derived.RegionTactic
import Derived.Deep.DeepMust
import Derived.Deep.Cut
namespace Go.Proofs.Ytbaffdehhcfffaa.Lx
open Go.RowKit Go.Proofs.Ytbaffdehhcfffaa.Lands
theorem infoTok : (Try.prog.info? 33).map (fun i => (i.zero, i.size, i.bytes)) = some (some (.agg #[.int .i64 0, .string ⟨#[]⟩, .int .i64 0, .int .i64 0]), 4, 40) := by kernel_rfl
theorem word_short {t : List UInt8} (h : isWord t = true) : t.length ≤ 8 := by
  have hm := List.contains_iff_mem.1 h
  simp [words] at hm
  rcases hm with h | h | h | h | h | h | h | h | h | h | h | h | h <;> rw [h] <;> decide
set_option maxHeartbeats 20000000 in
set_option maxRecDepth 100000 in
theorem all_fits (s : ByteArray) (w : World) (hs : s.size ≤ 9223372036854775807) (h1 : ¬ (100000 : Int) < s.size) :
    Calls Try.prog 18 #[.string s] w (AllPost s w) := by
  obtain ⟨i0, hi, hz0, hz1, hz2⟩ := info_parts infoTok
  go_enter Try.func18, Try.ntmps18
  go_wp2_with fail
  refine scope_loop 0 (AtNext s w) rfl ?_ ?_
  · intro L HS
    go_wp2_with fail
    go_step3
    rename_i hK
    refine hK _ _ (HS.out s.size _ _ ?_)
    refine ⟨0, .slice none 0 0, 0, true, [], by omega, rfl, by simp, first_mem w, ?_, Fr_of rfl⟩
    rw [fin_nil]
    unfold lexAll
    rw [if_neg (by rw [bl_len]; omega)]
    rfl
  · intro L HG m a' wr HN hJ
    obtain ⟨k, v, code, ok, acc, hk, hm, hl, hmem, heq, u, rfl⟩ := hJ
    have HQ := Lib.hid heq
    clear heq
    obtain ⟨va, vc, rfl⟩ := ownsForm hmem.own
    by_cases hend : k < s.size
    · have hend' : (k : Int) < (s.size : Int) := by omega
      obtain ⟨x0, x1, x2, x3, htk⟩ := hmem.tk
      clear hmem
      have HT := Lib.hid htk
      have hx0 := htk.c0
      have hx1 := htk.c1
      have hx2 := htk.c2
      have hx3 := htk.c3
      have z0 := htk.mem.fc 0
      have z1 := htk.mem.fc 1
      have z2 := htk.mem.fc 2
      have z3 := htk.mem.fc 3
      clear htk
      go_upto_region 9 with (fail)
      refine cut_world (fun w' => Tk w w' (.slice va acc.length vc) acc (.int .i64 0) (.string ⟨#[]⟩) (.int .i64 0) (.int .i64 k)) (by repeat (first | exact HT.out | apply Tk.set0 | apply Tk.set1 | apply Tk.set2 | apply Tk.set3 | apply Tk.drew)) ?_
      clear hx0 hx1 hx2 hx3 z0 z1 z2 z3 HT
      try (clear wr)
      intro wr htk
      have HT := Lib.hid htk
      have hx0 := htk.c0
      have hx1 := htk.c1
      have hx2 := htk.c2
      have hx3 := htk.c3
      have z0 := htk.mem.fc 0
      have z1 := htk.mem.fc 1
      have z2 := htk.mem.fc 2
      have z3 := htk.mem.fc 3
      clear htk
      cases hb : blank s[k] with
      | true =>
        have HE := Lib.hid (HQ.out.trans (at_blank hend hb _))
        have h4 : s[k].toNat = 32 ∨ s[k].toNat = 9 ∨ s[k].toNat = 10 ∨ s[k].toNat = 13 := by simpa [blank, or_assoc] using hb
        clear hb
        by_cases b1 : s[k].toNat = 32
        · have nb1 : ((s[k].toNat : Int) == 32) = true := by simp; omega
          clear h4 b1
          go_wp2_with fail
          go_step3
          change L 0 _ _
          exact HN.out (s.size - (k + 1)) _ _ (by omega) ⟨k + 1, _, code, ok, acc, by omega, rfl, hl, HT.out.mem, HE.out, Fr_of rfl⟩
        · have nb1 : ((s[k].toNat : Int) == 32) = false := by simp; omega
          by_cases b2 : s[k].toNat = 9
          · have nb2 : ((s[k].toNat : Int) == 9) = true := by simp; omega
            clear h4 b1 b2
            go_wp2_with fail
            go_step3
            change L 0 _ _
            exact HN.out (s.size - (k + 1)) _ _ (by omega) ⟨k + 1, _, code, ok, acc, by omega, rfl, hl, HT.out.mem, HE.out, Fr_of rfl⟩
          · have nb2 : ((s[k].toNat : Int) == 9) = false := by simp; omega
            by_cases b3 : s[k].toNat = 10
            · have nb3 : ((s[k].toNat : Int) == 10) = true := by simp; omega
              clear h4 b1 b2 b3
              go_wp2_with fail
              go_step3
              change L 0 _ _
              exact HN.out (s.size - (k + 1)) _ _ (by omega) ⟨k + 1, _, code, ok, acc, by omega, rfl, hl, HT.out.mem, HE.out, Fr_of rfl⟩
            · have nb3 : ((s[k].toNat : Int) == 10) = false := by simp; omega
              have nb4 : ((s[k].toNat : Int) == 13) = true := by simp; omega
              clear h4 b1 b2 b3
              go_wp2_with fail
              go_step3
              change L 0 _ _
              exact HN.out (s.size - (k + 1)) _ _ (by omega) ⟨k + 1, _, code, ok, acc, by omega, rfl, hl, HT.out.mem, HE.out, Fr_of rfl⟩
      | false =>
        have nb1 : ((s[k].toNat : Int) == 32) = false := by simp [blank] at hb ⊢; omega
        have nb2 : ((s[k].toNat : Int) == 9) = false := by simp [blank] at hb ⊢; omega
        have nb3 : ((s[k].toNat : Int) == 10) = false := by simp [blank] at hb ⊢; omega
        have nb4 : ((s[k].toNat : Int) == 13) = false := by simp [blank] at hb ⊢; omega
        have HB := Lib.hid hb
        clear hb
        by_cases h35 : s[k].toNat = 35
        · have n35 : ((s[k].toNat : Int) == 35) = true := by simp; omega
          have HE := Lib.hid (HQ.out.trans (at_remark hend h35 _))
          have hne1 : endAt noEnd s (k + 1) = endAt noEnd s k := endAt_yes hend (by simp [noEnd, h35])
          have hne2 := endAt_le (p := noEnd) (s := s) (k := k + 1) (by omega)
          rw [hne1] at hne2
          have HE1 := Lib.hid hne1
          have HE2 := Lib.hid hne2
          clear hne1 hne2 h35
          go_wp2_with fail
          go_step3
          change L 1 _ _
          refine HG.out 1 _ _ _ rfl ?_
          go_wp2_with fail
          go_loop [6] (fun v => ∃ q : Nat, k ≤ q ∧ q ≤ s.size ∧ v = .int .i64 q ∧ endAt noEnd s q = endAt noEnd s k) (fun v => (s.size - intOf v).toNat)
          case atStart => exact ⟨k, Nat.le_refl _, hk, rfl, rfl⟩
          case round =>
            obtain ⟨q, hq1, hq2, rfl, hq3⟩ := hrel
            have HQ3 := Lib.hid hq3
            clear hq3
            by_cases hlt : q < s.size
            · have hlt' : (q : Int) < (s.size : Int) := by omega
              by_cases h10 : s[q].toNat = 10
              · have t10 : ((s[q].toNat : Int) != 10) = false := by simp; omega
                have hst := endAt_no (p := noEnd) hlt (by simp [noEnd, h10])
                rw [HQ3.out] at hst
                have HST := Lib.hid hst
                clear hst h10
                go_wp2_with fail
                go_step3
                change L 0 _ _
                exact HN.out (s.size - q) _ _ (by have := HE2.out; have := HST.out; omega) ⟨q, _, code, ok, acc, by omega, rfl, hl, HT.out.mem, by rw [HE.out, HST.out], Fr_of rfl⟩
              · have t10 : ((s[q].toNat : Int) != 10) = true := by simp; omega
                have HST := Lib.hid (endAt_yes (p := noEnd) hlt (by simp [noEnd, h10]))
                clear h10
                go_wp2_with fail
                go_round
                case rel => exact ⟨q + 1, by omega, by omega, by go_num, by rw [HST.out, HQ3.out]⟩
                case measure => simp [intOf]; omega
            · have hlt' : ¬ (q : Int) < (s.size : Int) := by omega
              have hst := endAt_end (p := noEnd) (s := s) (k := q) (by omega)
              rw [HQ3.out] at hst
              have HST := Lib.hid hst
              clear hst
              go_wp2_with fail
              go_step3
              change L 0 _ _
              exact HN.out (s.size - q) _ _ (by have := HE2.out; have := HST.out; omega) ⟨q, _, code, ok, acc, by omega, rfl, hl, HT.out.mem, by rw [HE.out, HST.out], Fr_of rfl⟩
        · have n35 : ((s[k].toNat : Int) == 35) = false := by simp; omega
          cases hsm : small s[k] with
          | true =>
            have HR := Lib.hid fun w => run_any s k w hk hs
            have hle := endAt_le (p := alnum) (s := s) (k := k) hk
            have hlt := runLen_pos (p := alnum) (c := s[k]) (r := (bl s).drop (k + 1)) (by simp [alnum, hsm])
            rw [← bl_drop s k hend] at hlt
            obtain ⟨j, hj⟩ : ∃ j, Hid (endAt alnum s k = j) := ⟨_, Lib.hid rfl⟩
            have hrun : runLen alnum ((bl s).drop k) = j - k := by rw [← hj.out]; unfold endAt; omega
            rw [hrun] at hlt
            rw [hj.out] at hle
            have HR := Lib.hid (hj.out ▸ HR.out)
            have HRun := Lib.hid hrun
            obtain ⟨hle1, hle2⟩ := hle
            clear hrun hj
            have hle3 : (k : Int) ≤ (j : Int) := by omega
            have hle4 : (j : Int) ≤ (s.size : Int) := by omega
            have hex : bl (s.extract k j) = ((bl s).drop k).take (j - k) := ext_bl s k j
            have HX := Lib.hid hex
            clear hex
            go_wp2_with (go_at_call 28; refine (letter_any _ _).mono ?_; rintro e w' ⟨rfl, rfl⟩)
            go_step3
            change L 2 _ _
            refine HG.out 2 _ _ _ rfl ?_
            go_wp2_with (go_at_call 31; refine (HR.out _).mono ?_; rintro e w' ⟨rfl, rfl⟩)
            go_region
            cases hwd : isWord (bl (s.extract k j)) with
            | true =>
              have h8 := word_short hwd
              rw [HX.out, List.length_take, List.length_drop, bl_len] at h8
              have h8' : ¬ (8 : Int) < (j : Int) - (k : Int) := by omega
              have HK : Hid (tokOf ((bl s).drop k) = (0, 3, j - k, 0)) := by
                have hr := HRun.out
                have hw2 := hwd
                rw [HX.out, ← hr] at hw2
                rw [← hr]
                rw [bl_drop s k hend] at hw2 ⊢
                refine Lib.hid ?_
                show (if small s[k] = true then _ else _) = _
                rw [if_pos hsm, if_pos hw2]
              go_wp2_with (go_at_call 22; refine (word_any _ _).mono ?_; rintro e w' ⟨rfl, rfl⟩)
              go_step3
              change L 4 _ _
              refine cut_lands (fun w' => Tk w w' (.slice va acc.length vc) acc (.int .i64 3) (.string (s.extract k j)) (.int .i64 0) (.int .i64 k)) (by repeat (first | exact HT.out | apply Tk.set0 | apply Tk.set1 | apply Tk.set2 | apply Tk.set3 | apply Tk.drew)) ?_
              clear hx0 hx1 hx2 hx3 z0 z1 z2 z3 HT
              try (clear wr)
              intro wr htk
              have HT := Lib.hid htk
              have hx0 := htk.c0
              have hx1 := htk.c1
              have hx2 := htk.c2
              have hx3 := htk.c3
              have z0 := htk.mem.fc 0
              have z1 := htk.mem.fc 1
              have z2 := htk.mem.fc 2
              have z3 := htk.mem.fc 3
              clear htk
              refine HG.out 4 _ _ _ rfl ?_
              by_cases hfull : acc.length = 2000
              · have hfi : ((acc.length : Int) == 2000) = true := by simp; omega
                have HE := Lib.hid (HQ.out.trans (at_full hend HB.out h35 HK.out hfull))
                clear hfull
                go_wp2_with fail
                go_step3
                change L 5 _ _
                refine HG.out 5 _ _ _ rfl ?_
                have mf0 := HT.out.mem.f0
                have mf1 := HT.out.mem.f1
                have mz0 := HT.out.mem.ff 0
                have mz1 := HT.out.mem.ff 1
                go_wp2_with fail
                go_region
                go_wp2_with fail
                refine bodyPost_ret (v := .tuple #[.slice none 0 0, .agg #[.int .i64 4, .int .i64 k]]) (by simp [results, Try.results18, go_sem, mf0, mf1]) rfl (all_fault (c := 4) (p := k) ?_ HE.out)
                exact ((HT.out.mem.below.drew).setCell (Nat.le_refl _) _).setCell (Nat.le_refl _) _
              · have hfi : ((acc.length : Int) == 2000) = false := by simp; omega
                go_wp2_with (at_builtin; refine wpList_append_own _ rfl (.tmp 144) (.tmp 146) 24 rfl (w.heap.size + 2) 33 i0 (.agg #[.int .i64 0, .string ⟨#[]⟩, .int .i64 0, .int .i64 0]) 4 40 Try.underlying24 hi hz0 hz1 hz2 rfl (by decide) _ _ _ rfl (HT.out.mem.own.alloc _) ⟨_, 0, none⟩ 1 1 [.int .i64 3, .string (s.extract k j), .int .i64 0, .int .i64 k] rfl rfl ?c1w ?c2w ?c3w ?c4w ?c5w ?_)
                case c1w => exact new_cells _ _ _
                case c2w => exact one_cells
                case c3w => unfold maxLen; omega
                case c4w => omega
                case c5w => have := HT.out.mem.size; simp; omega
                intro v' w1 hown1 hg1 _
                have HM1 := Lib.hid (HT.out.mem.grow (t := ⟨3, ((bl s).drop k).take (j - k), 0, k⟩) _ hg1 (by simp only [tokCells]; rw [← ext_str]; exact hown1))
                have HE := Lib.hid (HQ.out.trans (at_tok hend HB.out h35 HK.out (by omega)))
                clear hown1 hg1
                go_wp2_with fail
                go_step3
                change L 0 _ _
                refine HN.out (s.size - j) _ _ (by omega) ⟨j, v', 4, _, _, by omega, rfl, by simp; omega, HM1.out, by rw [HE.out, show k + (j - k) = j from by omega], Fr_of rfl⟩
            | false =>
              have HX2 := HX.out
              have hwf : isWord (((bl s).drop k).take (runLen alnum ((bl s).drop k))) = false := by rw [HRun.out, ← HX2]; exact hwd
              clear HX2
              by_cases h8 : 8 < j - k
              · have h8' : (8 : Int) < (j : Int) - (k : Int) := by omega
                have HK : Hid (tokOf ((bl s).drop k) = (4, 0, 0, 0)) := by
                  have hr := HRun.out
                  have hw2 := hwf
                  have h82 := h8
                  rw [← hr] at h82
                  rw [bl_drop s k hend] at hw2 h82 ⊢
                  refine Lib.hid ?_
                  show (if small s[k] = true then _ else _) = _
                  rw [if_pos hsm, if_neg (by rw [hw2]; decide), if_pos h82]
                have HE := Lib.hid (HQ.out.trans (at_bad hend HB.out h35 HK.out (by decide) _))
                clear hwf h8
                go_wp2_with (go_at_call 22; refine (word_any _ _).mono ?_; rintro e w' ⟨rfl, rfl⟩)
                go_step3
                change L 5 _ _
                refine cut_lands (fun w' => Tk w w' (.slice va acc.length vc) acc (.int .i64 1) (.string (s.extract k j)) (.int .i64 0) (.int .i64 k)) (by repeat (first | exact HT.out | apply Tk.set0 | apply Tk.set1 | apply Tk.set2 | apply Tk.set3 | apply Tk.drew)) ?_
                clear hx0 hx1 hx2 hx3 z0 z1 z2 z3 HT
                try (clear wr)
                intro wr htk
                have HT := Lib.hid htk
                have hx0 := htk.c0
                have hx1 := htk.c1
                have hx2 := htk.c2
                have hx3 := htk.c3
                have z0 := htk.mem.fc 0
                have z1 := htk.mem.fc 1
                have z2 := htk.mem.fc 2
                have z3 := htk.mem.fc 3
                clear htk
                refine HG.out 5 _ _ _ rfl ?_
                have mf0 := HT.out.mem.f0
                have mf1 := HT.out.mem.f1
                have mz0 := HT.out.mem.ff 0
                have mz1 := HT.out.mem.ff 1
                go_wp2_with fail
                go_region
                go_wp2_with fail
                refine bodyPost_ret (v := .tuple #[.slice none 0 0, .agg #[.int .i64 4, .int .i64 k]]) (by simp [results, Try.results18, go_sem, mf0, mf1]) rfl (all_fault (c := 4) (p := k) ?_ HE.out)
                exact ((HT.out.mem.below.drew).setCell (Nat.le_refl _) _).setCell (Nat.le_refl _) _
              · have h8' : ¬ (8 : Int) < (j : Int) - (k : Int) := by omega
                have HK : Hid (tokOf ((bl s).drop k) = (0, 1, j - k, 0)) := by
                  have hr := HRun.out
                  have hw2 := hwf
                  have h82 := h8
                  rw [← hr] at h82 ⊢
                  rw [bl_drop s k hend] at hw2 h82 ⊢
                  refine Lib.hid ?_
                  show (if small s[k] = true then _ else _) = _
                  rw [if_pos hsm, if_neg (by rw [hw2]; decide), if_neg h82]
                clear hwf h8
                go_wp2_with (go_at_call 22; refine (word_any _ _).mono ?_; rintro e w' ⟨rfl, rfl⟩)
                go_step3
                change L 4 _ _
                refine cut_lands (fun w' => Tk w w' (.slice va acc.length vc) acc (.int .i64 1) (.string (s.extract k j)) (.int .i64 0) (.int .i64 k)) (by repeat (first | exact HT.out | apply Tk.set0 | apply Tk.set1 | apply Tk.set2 | apply Tk.set3 | apply Tk.drew)) ?_
                clear hx0 hx1 hx2 hx3 z0 z1 z2 z3 HT
                try (clear wr)
                intro wr htk
                have HT := Lib.hid htk
                have hx0 := htk.c0
                have hx1 := htk.c1
                have hx2 := htk.c2
                have hx3 := htk.c3
                have z0 := htk.mem.fc 0
                have z1 := htk.mem.fc 1
                have z2 := htk.mem.fc 2
                have z3 := htk.mem.fc 3
                clear htk
                refine HG.out 4 _ _ _ rfl ?_
                by_cases hfull : acc.length = 2000
                · have hfi : ((acc.length : Int) == 2000) = true := by simp; omega
                  have HE := Lib.hid (HQ.out.trans (at_full hend HB.out h35 HK.out hfull))
                  clear hfull
                  go_wp2_with fail
                  go_step3
                  change L 5 _ _
                  refine HG.out 5 _ _ _ rfl ?_
                  have mf0 := HT.out.mem.f0
                  have mf1 := HT.out.mem.f1
                  have mz0 := HT.out.mem.ff 0
                  have mz1 := HT.out.mem.ff 1
                  go_wp2_with fail
                  go_region
                  go_wp2_with fail
                  refine bodyPost_ret (v := .tuple #[.slice none 0 0, .agg #[.int .i64 4, .int .i64 k]]) (by simp [results, Try.results18, go_sem, mf0, mf1]) rfl (all_fault (c := 4) (p := k) ?_ HE.out)
                  exact ((HT.out.mem.below.drew).setCell (Nat.le_refl _) _).setCell (Nat.le_refl _) _
                · have hfi : ((acc.length : Int) == 2000) = false := by simp; omega
                  go_wp2_with (at_builtin; refine wpList_append_own _ rfl (.tmp 144) (.tmp 146) 24 rfl (w.heap.size + 2) 33 i0 (.agg #[.int .i64 0, .string ⟨#[]⟩, .int .i64 0, .int .i64 0]) 4 40 Try.underlying24 hi hz0 hz1 hz2 rfl (by decide) _ _ _ rfl (HT.out.mem.own.alloc _) ⟨_, 0, none⟩ 1 1 [.int .i64 1, .string (s.extract k j), .int .i64 0, .int .i64 k] rfl rfl ?c1n ?c2n ?c3n ?c4n ?c5n ?_)
                  case c1n => exact new_cells _ _ _
                  case c2n => exact one_cells
                  case c3n => unfold maxLen; omega
                  case c4n => omega
                  case c5n => have := HT.out.mem.size; simp; omega
                  intro v' w1 hown1 hg1 _
                  have HM1 := Lib.hid (HT.out.mem.grow (t := ⟨1, ((bl s).drop k).take (j - k), 0, k⟩) _ hg1 (by simp only [tokCells]; rw [← ext_str]; exact hown1))
                  have HE := Lib.hid (HQ.out.trans (at_tok hend HB.out h35 HK.out (by omega)))
                  clear hown1 hg1
                  go_wp2_with fail
                  go_step3
                  change L 0 _ _
                  refine HN.out (s.size - j) _ _ (by omega) ⟨j, v', 4, _, _, by omega, rfl, by simp; omega, HM1.out, by rw [HE.out, show k + (j - k) = j from by omega], Fr_of rfl⟩
          | false =>
            cases hdg : digit s[k] with
            | true =>
              have hle := endAt_le (p := digit) (s := s) (k := k) hk
              have hlt := runLen_pos (p := digit) (c := s[k]) (r := (bl s).drop (k + 1)) hdg
              rw [← bl_drop s k hend] at hlt
              obtain ⟨j, hj⟩ : ∃ j, Hid (endAt digit s k = j) := ⟨_, Lib.hid rfl⟩
              have hrun : runLen digit ((bl s).drop k) = j - k := by rw [← hj.out]; unfold endAt; omega
              rw [hrun] at hlt
              rw [hj.out] at hle
              have HRun := Lib.hid hrun
              obtain ⟨hle1, hle2⟩ := hle
              clear hrun
              have hle3 : (k : Int) ≤ (j : Int) := by omega
              have hle4 : (j : Int) ≤ (s.size : Int) := by omega
              have HX := Lib.hid (ext_bl s k j)
              have HD : Hid (∀ c ∈ bl (s.extract k j), digit c = true) := by
                refine Lib.hid ?_
                rw [HX.out, ← HRun.out, take_run]
                intro c hc
                exact mem_takeWhile hc
              have HNUM := Lib.hid fun w => number_any (s.extract k j) w HD.out (by rw [ByteArray.size_extract]; omega)
              have hmin : min j s.size = j := by omega
              go_wp2_with (first | (go_at_call 28; refine (letter_any _ _).mono ?_; rintro e w' ⟨rfl, rfl⟩) | (go_at_call 29; refine (digit_any _ _).mono ?_; rintro e w' ⟨rfl, rfl⟩))
              go_step3
              change L 3 _ _
              refine HG.out 3 _ _ _ rfl ?_
              go_wp2_with fail
              go_loop [6] (fun v => ∃ q : Nat, k ≤ q ∧ q ≤ s.size ∧ v = .int .i64 q ∧ endAt digit s q = j) (fun v => (s.size - intOf v).toNat)
              case atStart => exact ⟨k, Nat.le_refl _, hk, rfl, hj.out⟩
              case round =>
                obtain ⟨q, hq1, hq2, rfl, hq3⟩ := hrel
                have HQ3 := Lib.hid hq3
                clear hq3
                by_cases hlt2 : q < s.size
                · have hlt' : (q : Int) < (s.size : Int) := by omega
                  cases hdq : digit s[q] with
                  | true =>
                    have HST := Lib.hid (endAt_yes (p := digit) hlt2 hdq)
                    go_wp2_with (go_at_call 29; refine (digit_any _ _).mono ?_; rintro e w' ⟨rfl, rfl⟩)
                    go_round
                    case rel => exact ⟨q + 1, by omega, by omega, by go_num, by rw [HST.out, HQ3.out]⟩
                    case measure => simp [intOf]; omega
                  | false =>
                    obtain rfl : q = j := by have h := endAt_no (p := digit) hlt2 hdq; rw [HQ3.out] at h; exact h.symm
                    go_wp2_with (go_at_call 29; refine (digit_any _ _).mono ?_; rintro e w' ⟨rfl, rfl⟩)
                    go_region
                    by_cases hl1 : 1 < q - k
                    · have hl1' : (1 : Int) < ((q - k : Nat) : Int) := by omega
                      have hpos : 0 < (s.extract k q).size := by rw [ByteArray.size_extract, hmin]; omega
                      have hz0 : (s.extract k q)[0]'hpos = s[k] := by rw [ByteArray.getElem_extract]; rfl
                      by_cases h48 : s[k].toNat = 48
                      · have t48 : ((((s.extract k q)[0]'hpos).toNat : Int) == 48) = true := by rw [hz0]; simp; omega
                        have HK : Hid (tokOf ((bl s).drop k) = (2, 0, 0, 0)) := by
                          have hr := HRun.out
                          have hN : 1 < q - k ∧ s[k].toNat = 48 := ⟨hl1, h48⟩
                          rw [← hr] at hN
                          rw [bl_drop s k hend] at hN ⊢
                          refine Lib.hid ?_
                          show (if small s[k] = true then _ else _) = _
                          rw [if_neg (by rw [hsm]; decide), if_pos hdg, if_pos hN]
                        have HE := Lib.hid (HQ.out.trans (at_bad hend HB.out h35 HK.out (by decide) _))
                        clear hz0 h48
                        go_wp2_with fail
                        go_step3
                        change L 5 _ _
                        refine cut_lands (fun w' => Tk w w' (.slice va acc.length vc) acc (.int .i64 2) (.string (s.extract k q)) (.int .i64 0) (.int .i64 k)) (by repeat (first | exact HT.out | apply Tk.set0 | apply Tk.set1 | apply Tk.set2 | apply Tk.set3 | apply Tk.drew)) ?_
                        clear hx0 hx1 hx2 hx3 z0 z1 z2 z3 HT
                        try (clear wr)
                        intro wr htk
                        have HT := Lib.hid htk
                        have hx0 := htk.c0
                        have hx1 := htk.c1
                        have hx2 := htk.c2
                        have hx3 := htk.c3
                        have z0 := htk.mem.fc 0
                        have z1 := htk.mem.fc 1
                        have z2 := htk.mem.fc 2
                        have z3 := htk.mem.fc 3
                        clear htk
                        refine HG.out 5 _ _ _ rfl ?_
                        have mf0 := HT.out.mem.f0
                        have mf1 := HT.out.mem.f1
                        have mz0 := HT.out.mem.ff 0
                        have mz1 := HT.out.mem.ff 1
                        go_wp2_with fail
                        go_region
                        go_wp2_with fail
                        refine bodyPost_ret (v := .tuple #[.slice none 0 0, .agg #[.int .i64 2, .int .i64 k]]) (by simp [results, Try.results18, go_sem, mf0, mf1]) rfl (all_fault (c := 2) (p := k) ?_ HE.out)
                        exact ((HT.out.mem.below.drew).setCell (Nat.le_refl _) _).setCell (Nat.le_refl _) _
                      · have t48 : ((((s.extract k q)[0]'hpos).toNat : Int) == 48) = false := by rw [hz0]; simp; omega
                        have H48 : Hid (¬ (1 < q - k ∧ s[k].toNat = 48)) := Lib.hid (fun h => h48 h.2)
                        clear hz0 h48
                        cases hnb : numB (bl (s.extract k q)) with
                        | true =>
                          have HK : Hid (tokOf ((bl s).drop k) = (0, 2, q - k, numV (bl (s.extract k q)))) := by
                            have hr := HRun.out
                            have hv : value (bl (s.extract k q)) ≤ 9223372036854775807 := of_decide_eq_true hnb
                            have hv2 : numV (bl (s.extract k q)) = value (bl (s.extract k q)) := if_pos hv
                            rw [hv2]
                            have hx := HX.out
                            rw [hx, ← hr] at hv ⊢
                            have hN := H48.out
                            rw [← hr] at hN
                            rw [bl_drop s k hend] at hv hN ⊢
                            refine Lib.hid ?_
                            show (if small s[k] = true then _ else _) = _
                            rw [if_neg (by rw [hsm]; decide), if_pos hdg, if_neg hN, if_pos hv]
                          go_wp2_with (go_at_call 32; refine (HNUM.out _).mono ?_; rintro e w' ⟨rfl, rfl⟩)
                          go_step3
                          rename_i hK
                          refine hK _ _ ?_
                          clear hK
                          refine cut_world (fun w' => Tk w w' (.slice va acc.length vc) acc (.int .i64 2) (.string (s.extract k q)) (.int .i64 (numV (bl (s.extract k q)) : Nat)) (.int .i64 k)) (by repeat (first | exact HT.out | apply Tk.set0 | apply Tk.set1 | apply Tk.set2 | apply Tk.set3 | apply Tk.drew)) ?_
                          clear hx0 hx1 hx2 hx3 z0 z1 z2 z3 HT
                          try (clear wr)
                          intro wr htk
                          have HT := Lib.hid htk
                          have hx0 := htk.c0
                          have hx1 := htk.c1
                          have hx2 := htk.c2
                          have hx3 := htk.c3
                          have z0 := htk.mem.fc 0
                          have z1 := htk.mem.fc 1
                          have z2 := htk.mem.fc 2
                          have z3 := htk.mem.fc 3
                          clear htk
                          by_cases hfull : acc.length = 2000
                          · have hfi : ((acc.length : Int) == 2000) = true := by simp; omega
                            have HE := Lib.hid (HQ.out.trans (at_full hend HB.out h35 HK.out hfull))
                            clear hfull
                            go_wp2_with fail
                            go_step3
                            change L 5 _ _
                            refine HG.out 5 _ _ _ rfl ?_
                            have mf0 := HT.out.mem.f0
                            have mf1 := HT.out.mem.f1
                            have mz0 := HT.out.mem.ff 0
                            have mz1 := HT.out.mem.ff 1
                            go_wp2_with fail
                            go_region
                            go_wp2_with fail
                            refine bodyPost_ret (v := .tuple #[.slice none 0 0, .agg #[.int .i64 4, .int .i64 k]]) (by simp [results, Try.results18, go_sem, mf0, mf1]) rfl (all_fault (c := 4) (p := k) ?_ HE.out)
                            exact ((HT.out.mem.below.drew).setCell (Nat.le_refl _) _).setCell (Nat.le_refl _) _
                          · have hfi : ((acc.length : Int) == 2000) = false := by simp; omega
                            go_wp2_with (at_builtin; refine wpList_append_own _ rfl (.tmp 144) (.tmp 146) 24 rfl (w.heap.size + 2) 33 i0 (.agg #[.int .i64 0, .string ⟨#[]⟩, .int .i64 0, .int .i64 0]) 4 40 Try.underlying24 hi hz0 hz1 hz2 rfl (by decide) _ _ _ rfl (HT.out.mem.own.alloc _) ⟨_, 0, none⟩ 1 1 [.int .i64 2, .string (s.extract k q), .int .i64 (numV (bl (s.extract k q))), .int .i64 k] rfl rfl ?c1daa ?c2daa ?c3daa ?c4daa ?c5daa ?_)
                            case c1daa => exact new_cells _ _ _
                            case c2daa => exact one_cells
                            case c3daa => unfold maxLen; omega
                            case c4daa => omega
                            case c5daa => have := HT.out.mem.size; simp; omega
                            intro v' w1 hown1 hg1 _
                            have HM1 := Lib.hid (HT.out.mem.grow (t := ⟨2, ((bl s).drop k).take (q - k), (numV (bl (s.extract k q))), k⟩) _ hg1 (by simp only [tokCells]; rw [← ext_str]; exact hown1))
                            have HE := Lib.hid (HQ.out.trans (at_tok hend HB.out h35 HK.out (by omega)))
                            clear hown1 hg1
                            go_wp2_with fail
                            go_step3
                            change L 0 _ _
                            refine HN.out (s.size - q) _ _ (by omega) ⟨q, v', 4, _, _, by omega, rfl, by simp; omega, HM1.out, by rw [HE.out, show k + (q - k) = q from by omega], Fr_of rfl⟩
                        | false =>
                          have HK : Hid (tokOf ((bl s).drop k) = (4, 0, 0, 0)) := by
                            have hr := HRun.out
                            have hv : ¬ value (bl (s.extract k q)) ≤ 9223372036854775807 := of_decide_eq_false hnb
                            have hx := HX.out
                            rw [hx, ← hr] at hv
                            have hN := H48.out
                            rw [← hr] at hN
                            rw [bl_drop s k hend] at hv hN ⊢
                            refine Lib.hid ?_
                            show (if small s[k] = true then _ else _) = _
                            rw [if_neg (by rw [hsm]; decide), if_pos hdg, if_neg hN, if_neg hv]
                          have HE := Lib.hid (HQ.out.trans (at_bad hend HB.out h35 HK.out (by decide) _))
                          go_wp2_with (go_at_call 32; refine (HNUM.out _).mono ?_; rintro e w' ⟨rfl, rfl⟩)
                          go_step3
                          change L 5 _ _
                          refine cut_lands (fun w' => Tk w w' (.slice va acc.length vc) acc (.int .i64 2) (.string (s.extract k q)) (.int .i64 (numV (bl (s.extract k q)) : Nat)) (.int .i64 k)) (by repeat (first | exact HT.out | apply Tk.set0 | apply Tk.set1 | apply Tk.set2 | apply Tk.set3 | apply Tk.drew)) ?_
                          clear hx0 hx1 hx2 hx3 z0 z1 z2 z3 HT
                          try (clear wr)
                          intro wr htk
                          have HT := Lib.hid htk
                          have hx0 := htk.c0
                          have hx1 := htk.c1
                          have hx2 := htk.c2
                          have hx3 := htk.c3
                          have z0 := htk.mem.fc 0
                          have z1 := htk.mem.fc 1
                          have z2 := htk.mem.fc 2
                          have z3 := htk.mem.fc 3
                          clear htk
                          refine HG.out 5 _ _ _ rfl ?_
                          have mf0 := HT.out.mem.f0
                          have mf1 := HT.out.mem.f1
                          have mz0 := HT.out.mem.ff 0
                          have mz1 := HT.out.mem.ff 1
                          go_wp2_with fail
                          go_region
                          go_wp2_with fail
                          refine bodyPost_ret (v := .tuple #[.slice none 0 0, .agg #[.int .i64 4, .int .i64 k]]) (by simp [results, Try.results18, go_sem, mf0, mf1]) rfl (all_fault (c := 4) (p := k) ?_ HE.out)
                          exact ((HT.out.mem.below.drew).setCell (Nat.le_refl _) _).setCell (Nat.le_refl _) _
                    · have hl1' : ¬ (1 : Int) < ((q - k : Nat) : Int) := by omega
                      have H48 : Hid (¬ (1 < q - k ∧ s[k].toNat = 48)) := Lib.hid (fun h => hl1 h.1)
                      clear hl1
                      cases hnb : numB (bl (s.extract k q)) with
                      | true =>
                        have HK : Hid (tokOf ((bl s).drop k) = (0, 2, q - k, numV (bl (s.extract k q)))) := by
                          have hr := HRun.out
                          have hv : value (bl (s.extract k q)) ≤ 9223372036854775807 := of_decide_eq_true hnb
                          have hv2 : numV (bl (s.extract k q)) = value (bl (s.extract k q)) := if_pos hv
                          rw [hv2]
                          have hx := HX.out
                          rw [hx, ← hr] at hv ⊢
                          have hN := H48.out
                          rw [← hr] at hN
                          rw [bl_drop s k hend] at hv hN ⊢
                          refine Lib.hid ?_
                          show (if small s[k] = true then _ else _) = _
                          rw [if_neg (by rw [hsm]; decide), if_pos hdg, if_neg hN, if_pos hv]
                        go_wp2_with (go_at_call 32; refine (HNUM.out _).mono ?_; rintro e w' ⟨rfl, rfl⟩)
                        go_step3
                        rename_i hK
                        refine hK _ _ ?_
                        clear hK
                        refine cut_world (fun w' => Tk w w' (.slice va acc.length vc) acc (.int .i64 2) (.string (s.extract k q)) (.int .i64 (numV (bl (s.extract k q)) : Nat)) (.int .i64 k)) (by repeat (first | exact HT.out | apply Tk.set0 | apply Tk.set1 | apply Tk.set2 | apply Tk.set3 | apply Tk.drew)) ?_
                        clear hx0 hx1 hx2 hx3 z0 z1 z2 z3 HT
                        try (clear wr)
                        intro wr htk
                        have HT := Lib.hid htk
                        have hx0 := htk.c0
                        have hx1 := htk.c1
                        have hx2 := htk.c2
                        have hx3 := htk.c3
                        have z0 := htk.mem.fc 0
                        have z1 := htk.mem.fc 1
                        have z2 := htk.mem.fc 2
                        have z3 := htk.mem.fc 3
                        clear htk
                        by_cases hfull : acc.length = 2000
                        · have hfi : ((acc.length : Int) == 2000) = true := by simp; omega
                          have HE := Lib.hid (HQ.out.trans (at_full hend HB.out h35 HK.out hfull))
                          clear hfull
                          go_wp2_with fail
                          go_step3
                          change L 5 _ _
                          refine HG.out 5 _ _ _ rfl ?_
                          have mf0 := HT.out.mem.f0
                          have mf1 := HT.out.mem.f1
                          have mz0 := HT.out.mem.ff 0
                          have mz1 := HT.out.mem.ff 1
                          go_wp2_with fail
                          go_region
                          go_wp2_with fail
                          refine bodyPost_ret (v := .tuple #[.slice none 0 0, .agg #[.int .i64 4, .int .i64 k]]) (by simp [results, Try.results18, go_sem, mf0, mf1]) rfl (all_fault (c := 4) (p := k) ?_ HE.out)
                          exact ((HT.out.mem.below.drew).setCell (Nat.le_refl _) _).setCell (Nat.le_refl _) _
                        · have hfi : ((acc.length : Int) == 2000) = false := by simp; omega
                          go_wp2_with (at_builtin; refine wpList_append_own _ rfl (.tmp 144) (.tmp 146) 24 rfl (w.heap.size + 2) 33 i0 (.agg #[.int .i64 0, .string ⟨#[]⟩, .int .i64 0, .int .i64 0]) 4 40 Try.underlying24 hi hz0 hz1 hz2 rfl (by decide) _ _ _ rfl (HT.out.mem.own.alloc _) ⟨_, 0, none⟩ 1 1 [.int .i64 2, .string (s.extract k q), .int .i64 (numV (bl (s.extract k q))), .int .i64 k] rfl rfl ?c1dab ?c2dab ?c3dab ?c4dab ?c5dab ?_)
                          case c1dab => exact new_cells _ _ _
                          case c2dab => exact one_cells
                          case c3dab => unfold maxLen; omega
                          case c4dab => omega
                          case c5dab => have := HT.out.mem.size; simp; omega
                          intro v' w1 hown1 hg1 _
                          have HM1 := Lib.hid (HT.out.mem.grow (t := ⟨2, ((bl s).drop k).take (q - k), (numV (bl (s.extract k q))), k⟩) _ hg1 (by simp only [tokCells]; rw [← ext_str]; exact hown1))
                          have HE := Lib.hid (HQ.out.trans (at_tok hend HB.out h35 HK.out (by omega)))
                          clear hown1 hg1
                          go_wp2_with fail
                          go_step3
                          change L 0 _ _
                          refine HN.out (s.size - q) _ _ (by omega) ⟨q, v', 4, _, _, by omega, rfl, by simp; omega, HM1.out, by rw [HE.out, show k + (q - k) = q from by omega], Fr_of rfl⟩
                      | false =>
                        have HK : Hid (tokOf ((bl s).drop k) = (4, 0, 0, 0)) := by
                          have hr := HRun.out
                          have hv : ¬ value (bl (s.extract k q)) ≤ 9223372036854775807 := of_decide_eq_false hnb
                          have hx := HX.out
                          rw [hx, ← hr] at hv
                          have hN := H48.out
                          rw [← hr] at hN
                          rw [bl_drop s k hend] at hv hN ⊢
                          refine Lib.hid ?_
                          show (if small s[k] = true then _ else _) = _
                          rw [if_neg (by rw [hsm]; decide), if_pos hdg, if_neg hN, if_neg hv]
                        have HE := Lib.hid (HQ.out.trans (at_bad hend HB.out h35 HK.out (by decide) _))
                        go_wp2_with (go_at_call 32; refine (HNUM.out _).mono ?_; rintro e w' ⟨rfl, rfl⟩)
                        go_step3
                        change L 5 _ _
                        refine cut_lands (fun w' => Tk w w' (.slice va acc.length vc) acc (.int .i64 2) (.string (s.extract k q)) (.int .i64 (numV (bl (s.extract k q)) : Nat)) (.int .i64 k)) (by repeat (first | exact HT.out | apply Tk.set0 | apply Tk.set1 | apply Tk.set2 | apply Tk.set3 | apply Tk.drew)) ?_
                        clear hx0 hx1 hx2 hx3 z0 z1 z2 z3 HT
                        try (clear wr)
                        intro wr htk
                        have HT := Lib.hid htk
                        have hx0 := htk.c0
                        have hx1 := htk.c1
                        have hx2 := htk.c2
                        have hx3 := htk.c3
                        have z0 := htk.mem.fc 0
                        have z1 := htk.mem.fc 1
                        have z2 := htk.mem.fc 2
                        have z3 := htk.mem.fc 3
                        clear htk
                        refine HG.out 5 _ _ _ rfl ?_
                        have mf0 := HT.out.mem.f0
                        have mf1 := HT.out.mem.f1
                        have mz0 := HT.out.mem.ff 0
                        have mz1 := HT.out.mem.ff 1
                        go_wp2_with fail
                        go_region
                        go_wp2_with fail
                        refine bodyPost_ret (v := .tuple #[.slice none 0 0, .agg #[.int .i64 4, .int .i64 k]]) (by simp [results, Try.results18, go_sem, mf0, mf1]) rfl (all_fault (c := 4) (p := k) ?_ HE.out)
                        exact ((HT.out.mem.below.drew).setCell (Nat.le_refl _) _).setCell (Nat.le_refl _) _
                · have hlt' : ¬ (q : Int) < (s.size : Int) := by omega
                  obtain rfl : q = j := by have h := endAt_end (p := digit) (s := s) (k := q) (by omega); rw [HQ3.out] at h; exact h.symm
                  go_wp2_with fail
                  go_region
                  by_cases hl1 : 1 < q - k
                  · have hl1' : (1 : Int) < ((q - k : Nat) : Int) := by omega
                    have hpos : 0 < (s.extract k q).size := by rw [ByteArray.size_extract, hmin]; omega
                    have hz0 : (s.extract k q)[0]'hpos = s[k] := by rw [ByteArray.getElem_extract]; rfl
                    by_cases h48 : s[k].toNat = 48
                    · have t48 : ((((s.extract k q)[0]'hpos).toNat : Int) == 48) = true := by rw [hz0]; simp; omega
                      have HK : Hid (tokOf ((bl s).drop k) = (2, 0, 0, 0)) := by
                        have hr := HRun.out
                        have hN : 1 < q - k ∧ s[k].toNat = 48 := ⟨hl1, h48⟩
                        rw [← hr] at hN
                        rw [bl_drop s k hend] at hN ⊢
                        refine Lib.hid ?_
                        show (if small s[k] = true then _ else _) = _
                        rw [if_neg (by rw [hsm]; decide), if_pos hdg, if_pos hN]
                      have HE := Lib.hid (HQ.out.trans (at_bad hend HB.out h35 HK.out (by decide) _))
                      clear hz0 h48
                      go_wp2_with fail
                      go_step3
                      change L 5 _ _
                      refine cut_lands (fun w' => Tk w w' (.slice va acc.length vc) acc (.int .i64 2) (.string (s.extract k q)) (.int .i64 0) (.int .i64 k)) (by repeat (first | exact HT.out | apply Tk.set0 | apply Tk.set1 | apply Tk.set2 | apply Tk.set3 | apply Tk.drew)) ?_
                      clear hx0 hx1 hx2 hx3 z0 z1 z2 z3 HT
                      try (clear wr)
                      intro wr htk
                      have HT := Lib.hid htk
                      have hx0 := htk.c0
                      have hx1 := htk.c1
                      have hx2 := htk.c2
                      have hx3 := htk.c3
                      have z0 := htk.mem.fc 0
                      have z1 := htk.mem.fc 1
                      have z2 := htk.mem.fc 2
                      have z3 := htk.mem.fc 3
                      clear htk
                      refine HG.out 5 _ _ _ rfl ?_
                      have mf0 := HT.out.mem.f0
                      have mf1 := HT.out.mem.f1
                      have mz0 := HT.out.mem.ff 0
                      have mz1 := HT.out.mem.ff 1
                      go_wp2_with fail
                      go_region
                      go_wp2_with fail
                      refine bodyPost_ret (v := .tuple #[.slice none 0 0, .agg #[.int .i64 2, .int .i64 k]]) (by simp [results, Try.results18, go_sem, mf0, mf1]) rfl (all_fault (c := 2) (p := k) ?_ HE.out)
                      exact ((HT.out.mem.below.drew).setCell (Nat.le_refl _) _).setCell (Nat.le_refl _) _
                    · have t48 : ((((s.extract k q)[0]'hpos).toNat : Int) == 48) = false := by rw [hz0]; simp; omega
                      have H48 : Hid (¬ (1 < q - k ∧ s[k].toNat = 48)) := Lib.hid (fun h => h48 h.2)
                      clear hz0 h48
                      cases hnb : numB (bl (s.extract k q)) with
                      | true =>
                        have HK : Hid (tokOf ((bl s).drop k) = (0, 2, q - k, numV (bl (s.extract k q)))) := by
                          have hr := HRun.out
                          have hv : value (bl (s.extract k q)) ≤ 9223372036854775807 := of_decide_eq_true hnb
                          have hv2 : numV (bl (s.extract k q)) = value (bl (s.extract k q)) := if_pos hv
                          rw [hv2]
                          have hx := HX.out
                          rw [hx, ← hr] at hv ⊢
                          have hN := H48.out
                          rw [← hr] at hN
                          rw [bl_drop s k hend] at hv hN ⊢
                          refine Lib.hid ?_
                          show (if small s[k] = true then _ else _) = _
                          rw [if_neg (by rw [hsm]; decide), if_pos hdg, if_neg hN, if_pos hv]
                        go_wp2_with (go_at_call 32; refine (HNUM.out _).mono ?_; rintro e w' ⟨rfl, rfl⟩)
                        go_step3
                        rename_i hK
                        refine hK _ _ ?_
                        clear hK
                        refine cut_world (fun w' => Tk w w' (.slice va acc.length vc) acc (.int .i64 2) (.string (s.extract k q)) (.int .i64 (numV (bl (s.extract k q)) : Nat)) (.int .i64 k)) (by repeat (first | exact HT.out | apply Tk.set0 | apply Tk.set1 | apply Tk.set2 | apply Tk.set3 | apply Tk.drew)) ?_
                        clear hx0 hx1 hx2 hx3 z0 z1 z2 z3 HT
                        try (clear wr)
                        intro wr htk
                        have HT := Lib.hid htk
                        have hx0 := htk.c0
                        have hx1 := htk.c1
                        have hx2 := htk.c2
                        have hx3 := htk.c3
                        have z0 := htk.mem.fc 0
                        have z1 := htk.mem.fc 1
                        have z2 := htk.mem.fc 2
                        have z3 := htk.mem.fc 3
                        clear htk
                        by_cases hfull : acc.length = 2000
                        · have hfi : ((acc.length : Int) == 2000) = true := by simp; omega
                          have HE := Lib.hid (HQ.out.trans (at_full hend HB.out h35 HK.out hfull))
                          clear hfull
                          go_wp2_with fail
                          go_step3
                          change L 5 _ _
                          refine HG.out 5 _ _ _ rfl ?_
                          have mf0 := HT.out.mem.f0
                          have mf1 := HT.out.mem.f1
                          have mz0 := HT.out.mem.ff 0
                          have mz1 := HT.out.mem.ff 1
                          go_wp2_with fail
                          go_region
                          go_wp2_with fail
                          refine bodyPost_ret (v := .tuple #[.slice none 0 0, .agg #[.int .i64 4, .int .i64 k]]) (by simp [results, Try.results18, go_sem, mf0, mf1]) rfl (all_fault (c := 4) (p := k) ?_ HE.out)
                          exact ((HT.out.mem.below.drew).setCell (Nat.le_refl _) _).setCell (Nat.le_refl _) _
                        · have hfi : ((acc.length : Int) == 2000) = false := by simp; omega
                          go_wp2_with (at_builtin; refine wpList_append_own _ rfl (.tmp 144) (.tmp 146) 24 rfl (w.heap.size + 2) 33 i0 (.agg #[.int .i64 0, .string ⟨#[]⟩, .int .i64 0, .int .i64 0]) 4 40 Try.underlying24 hi hz0 hz1 hz2 rfl (by decide) _ _ _ rfl (HT.out.mem.own.alloc _) ⟨_, 0, none⟩ 1 1 [.int .i64 2, .string (s.extract k q), .int .i64 (numV (bl (s.extract k q))), .int .i64 k] rfl rfl ?c1dba ?c2dba ?c3dba ?c4dba ?c5dba ?_)
                          case c1dba => exact new_cells _ _ _
                          case c2dba => exact one_cells
                          case c3dba => unfold maxLen; omega
                          case c4dba => omega
                          case c5dba => have := HT.out.mem.size; simp; omega
                          intro v' w1 hown1 hg1 _
                          have HM1 := Lib.hid (HT.out.mem.grow (t := ⟨2, ((bl s).drop k).take (q - k), (numV (bl (s.extract k q))), k⟩) _ hg1 (by simp only [tokCells]; rw [← ext_str]; exact hown1))
                          have HE := Lib.hid (HQ.out.trans (at_tok hend HB.out h35 HK.out (by omega)))
                          clear hown1 hg1
                          go_wp2_with fail
                          go_step3
                          change L 0 _ _
                          refine HN.out (s.size - q) _ _ (by omega) ⟨q, v', 4, _, _, by omega, rfl, by simp; omega, HM1.out, by rw [HE.out, show k + (q - k) = q from by omega], Fr_of rfl⟩
                      | false =>
                        have HK : Hid (tokOf ((bl s).drop k) = (4, 0, 0, 0)) := by
                          have hr := HRun.out
                          have hv : ¬ value (bl (s.extract k q)) ≤ 9223372036854775807 := of_decide_eq_false hnb
                          have hx := HX.out
                          rw [hx, ← hr] at hv
                          have hN := H48.out
                          rw [← hr] at hN
                          rw [bl_drop s k hend] at hv hN ⊢
                          refine Lib.hid ?_
                          show (if small s[k] = true then _ else _) = _
                          rw [if_neg (by rw [hsm]; decide), if_pos hdg, if_neg hN, if_neg hv]
                        have HE := Lib.hid (HQ.out.trans (at_bad hend HB.out h35 HK.out (by decide) _))
                        go_wp2_with (go_at_call 32; refine (HNUM.out _).mono ?_; rintro e w' ⟨rfl, rfl⟩)
                        go_step3
                        change L 5 _ _
                        refine cut_lands (fun w' => Tk w w' (.slice va acc.length vc) acc (.int .i64 2) (.string (s.extract k q)) (.int .i64 (numV (bl (s.extract k q)) : Nat)) (.int .i64 k)) (by repeat (first | exact HT.out | apply Tk.set0 | apply Tk.set1 | apply Tk.set2 | apply Tk.set3 | apply Tk.drew)) ?_
                        clear hx0 hx1 hx2 hx3 z0 z1 z2 z3 HT
                        try (clear wr)
                        intro wr htk
                        have HT := Lib.hid htk
                        have hx0 := htk.c0
                        have hx1 := htk.c1
                        have hx2 := htk.c2
                        have hx3 := htk.c3
                        have z0 := htk.mem.fc 0
                        have z1 := htk.mem.fc 1
                        have z2 := htk.mem.fc 2
                        have z3 := htk.mem.fc 3
                        clear htk
                        refine HG.out 5 _ _ _ rfl ?_
                        have mf0 := HT.out.mem.f0
                        have mf1 := HT.out.mem.f1
                        have mz0 := HT.out.mem.ff 0
                        have mz1 := HT.out.mem.ff 1
                        go_wp2_with fail
                        go_region
                        go_wp2_with fail
                        refine bodyPost_ret (v := .tuple #[.slice none 0 0, .agg #[.int .i64 4, .int .i64 k]]) (by simp [results, Try.results18, go_sem, mf0, mf1]) rfl (all_fault (c := 4) (p := k) ?_ HE.out)
                        exact ((HT.out.mem.below.drew).setCell (Nat.le_refl _) _).setCell (Nat.le_refl _) _
                  · have hl1' : ¬ (1 : Int) < ((q - k : Nat) : Int) := by omega
                    have H48 : Hid (¬ (1 < q - k ∧ s[k].toNat = 48)) := Lib.hid (fun h => hl1 h.1)
                    clear hl1
                    cases hnb : numB (bl (s.extract k q)) with
                    | true =>
                      have HK : Hid (tokOf ((bl s).drop k) = (0, 2, q - k, numV (bl (s.extract k q)))) := by
                        have hr := HRun.out
                        have hv : value (bl (s.extract k q)) ≤ 9223372036854775807 := of_decide_eq_true hnb
                        have hv2 : numV (bl (s.extract k q)) = value (bl (s.extract k q)) := if_pos hv
                        rw [hv2]
                        have hx := HX.out
                        rw [hx, ← hr] at hv ⊢
                        have hN := H48.out
                        rw [← hr] at hN
                        rw [bl_drop s k hend] at hv hN ⊢
                        refine Lib.hid ?_
                        show (if small s[k] = true then _ else _) = _
                        rw [if_neg (by rw [hsm]; decide), if_pos hdg, if_neg hN, if_pos hv]
                      go_wp2_with (go_at_call 32; refine (HNUM.out _).mono ?_; rintro e w' ⟨rfl, rfl⟩)
                      go_step3
                      rename_i hK
                      refine hK _ _ ?_
                      clear hK
                      refine cut_world (fun w' => Tk w w' (.slice va acc.length vc) acc (.int .i64 2) (.string (s.extract k q)) (.int .i64 (numV (bl (s.extract k q)) : Nat)) (.int .i64 k)) (by repeat (first | exact HT.out | apply Tk.set0 | apply Tk.set1 | apply Tk.set2 | apply Tk.set3 | apply Tk.drew)) ?_
                      clear hx0 hx1 hx2 hx3 z0 z1 z2 z3 HT
                      try (clear wr)
                      intro wr htk
                      have HT := Lib.hid htk
                      have hx0 := htk.c0
                      have hx1 := htk.c1
                      have hx2 := htk.c2
                      have hx3 := htk.c3
                      have z0 := htk.mem.fc 0
                      have z1 := htk.mem.fc 1
                      have z2 := htk.mem.fc 2
                      have z3 := htk.mem.fc 3
                      clear htk
                      by_cases hfull : acc.length = 2000
                      · have hfi : ((acc.length : Int) == 2000) = true := by simp; omega
                        have HE := Lib.hid (HQ.out.trans (at_full hend HB.out h35 HK.out hfull))
                        clear hfull
                        go_wp2_with fail
                        go_step3
                        change L 5 _ _
                        refine HG.out 5 _ _ _ rfl ?_
                        have mf0 := HT.out.mem.f0
                        have mf1 := HT.out.mem.f1
                        have mz0 := HT.out.mem.ff 0
                        have mz1 := HT.out.mem.ff 1
                        go_wp2_with fail
                        go_region
                        go_wp2_with fail
                        refine bodyPost_ret (v := .tuple #[.slice none 0 0, .agg #[.int .i64 4, .int .i64 k]]) (by simp [results, Try.results18, go_sem, mf0, mf1]) rfl (all_fault (c := 4) (p := k) ?_ HE.out)
                        exact ((HT.out.mem.below.drew).setCell (Nat.le_refl _) _).setCell (Nat.le_refl _) _
                      · have hfi : ((acc.length : Int) == 2000) = false := by simp; omega
                        go_wp2_with (at_builtin; refine wpList_append_own _ rfl (.tmp 144) (.tmp 146) 24 rfl (w.heap.size + 2) 33 i0 (.agg #[.int .i64 0, .string ⟨#[]⟩, .int .i64 0, .int .i64 0]) 4 40 Try.underlying24 hi hz0 hz1 hz2 rfl (by decide) _ _ _ rfl (HT.out.mem.own.alloc _) ⟨_, 0, none⟩ 1 1 [.int .i64 2, .string (s.extract k q), .int .i64 (numV (bl (s.extract k q))), .int .i64 k] rfl rfl ?c1dbb ?c2dbb ?c3dbb ?c4dbb ?c5dbb ?_)
                        case c1dbb => exact new_cells _ _ _
                        case c2dbb => exact one_cells
                        case c3dbb => unfold maxLen; omega
                        case c4dbb => omega
                        case c5dbb => have := HT.out.mem.size; simp; omega
                        intro v' w1 hown1 hg1 _
                        have HM1 := Lib.hid (HT.out.mem.grow (t := ⟨2, ((bl s).drop k).take (q - k), (numV (bl (s.extract k q))), k⟩) _ hg1 (by simp only [tokCells]; rw [← ext_str]; exact hown1))
                        have HE := Lib.hid (HQ.out.trans (at_tok hend HB.out h35 HK.out (by omega)))
                        clear hown1 hg1
                        go_wp2_with fail
                        go_step3
                        change L 0 _ _
                        refine HN.out (s.size - q) _ _ (by omega) ⟨q, v', 4, _, _, by omega, rfl, by simp; omega, HM1.out, by rw [HE.out, show k + (q - k) = q from by omega], Fr_of rfl⟩
                    | false =>
                      have HK : Hid (tokOf ((bl s).drop k) = (4, 0, 0, 0)) := by
                        have hr := HRun.out
                        have hv : ¬ value (bl (s.extract k q)) ≤ 9223372036854775807 := of_decide_eq_false hnb
                        have hx := HX.out
                        rw [hx, ← hr] at hv
                        have hN := H48.out
                        rw [← hr] at hN
                        rw [bl_drop s k hend] at hv hN ⊢
                        refine Lib.hid ?_
                        show (if small s[k] = true then _ else _) = _
                        rw [if_neg (by rw [hsm]; decide), if_pos hdg, if_neg hN, if_neg hv]
                      have HE := Lib.hid (HQ.out.trans (at_bad hend HB.out h35 HK.out (by decide) _))
                      go_wp2_with (go_at_call 32; refine (HNUM.out _).mono ?_; rintro e w' ⟨rfl, rfl⟩)
                      go_step3
                      change L 5 _ _
                      refine cut_lands (fun w' => Tk w w' (.slice va acc.length vc) acc (.int .i64 2) (.string (s.extract k q)) (.int .i64 (numV (bl (s.extract k q)) : Nat)) (.int .i64 k)) (by repeat (first | exact HT.out | apply Tk.set0 | apply Tk.set1 | apply Tk.set2 | apply Tk.set3 | apply Tk.drew)) ?_
                      clear hx0 hx1 hx2 hx3 z0 z1 z2 z3 HT
                      try (clear wr)
                      intro wr htk
                      have HT := Lib.hid htk
                      have hx0 := htk.c0
                      have hx1 := htk.c1
                      have hx2 := htk.c2
                      have hx3 := htk.c3
                      have z0 := htk.mem.fc 0
                      have z1 := htk.mem.fc 1
                      have z2 := htk.mem.fc 2
                      have z3 := htk.mem.fc 3
                      clear htk
                      refine HG.out 5 _ _ _ rfl ?_
                      have mf0 := HT.out.mem.f0
                      have mf1 := HT.out.mem.f1
                      have mz0 := HT.out.mem.ff 0
                      have mz1 := HT.out.mem.ff 1
                      go_wp2_with fail
                      go_region
                      go_wp2_with fail
                      refine bodyPost_ret (v := .tuple #[.slice none 0 0, .agg #[.int .i64 4, .int .i64 k]]) (by simp [results, Try.results18, go_sem, mf0, mf1]) rfl (all_fault (c := 4) (p := k) ?_ HE.out)
                      exact ((HT.out.mem.below.drew).setCell (Nat.le_refl _) _).setCell (Nat.le_refl _) _
            | false =>
              have HS := Lib.hid fun w => sign_any s k w hend hs
              have hsl := signLen_le ((bl s).drop k)
              rw [List.length_drop, bl_len] at hsl
              have HK0 : Hid (tokOf ((bl s).drop k) = if signLen ((bl s).drop k) = 0 then (2, 0, 0, 0) else (0, 4, signLen ((bl s).drop k), 0)) := by
                rw [bl_drop s k hend]
                refine Lib.hid ?_
                show (if small s[k] = true then _ else _) = _
                rw [if_neg (by rw [hsm]; decide), if_neg (by rw [hdg]; decide)]
              obtain ⟨n, hn⟩ : ∃ n, Hid (signLen ((bl s).drop k) = n) := ⟨_, Lib.hid rfl⟩
              rw [hn.out] at hsl
              have HS := Lib.hid (hn.out ▸ HS.out)
              have HK0 := Lib.hid (hn.out ▸ HK0.out)
              have hle4 : (k : Int) + (n : Int) ≤ (s.size : Int) := by omega
              by_cases hn0 : n = 0
              · have HK := Lib.hid ((HK0.out).trans (if_pos hn0))
                have HE := Lib.hid (HQ.out.trans (at_bad hend HB.out h35 HK.out (by decide) _))
                subst hn0
                go_wp2_with (first | (go_at_call 28; refine (letter_any _ _).mono ?_; rintro e w' ⟨rfl, rfl⟩) | (go_at_call 29; refine (digit_any _ _).mono ?_; rintro e w' ⟨rfl, rfl⟩) | (go_at_call 30; refine (HS.out _).mono ?_; rintro e w' ⟨rfl, rfl⟩))
                go_step3
                change L 5 _ _
                refine cut_lands (fun w' => Tk w w' (.slice va acc.length vc) acc (.int .i64 4) (.string ByteArray.empty) (.int .i64 0) (.int .i64 k)) (by repeat (first | exact HT.out | apply Tk.set0 | apply Tk.set1 | apply Tk.set2 | apply Tk.set3 | apply Tk.drew)) ?_
                clear hx0 hx1 hx2 hx3 z0 z1 z2 z3 HT
                try (clear wr)
                intro wr htk
                have HT := Lib.hid htk
                have hx0 := htk.c0
                have hx1 := htk.c1
                have hx2 := htk.c2
                have hx3 := htk.c3
                have z0 := htk.mem.fc 0
                have z1 := htk.mem.fc 1
                have z2 := htk.mem.fc 2
                have z3 := htk.mem.fc 3
                clear htk
                refine HG.out 5 _ _ _ rfl ?_
                have mf0 := HT.out.mem.f0
                have mf1 := HT.out.mem.f1
                have mz0 := HT.out.mem.ff 0
                have mz1 := HT.out.mem.ff 1
                go_wp2_with fail
                go_region
                go_wp2_with fail
                refine bodyPost_ret (v := .tuple #[.slice none 0 0, .agg #[.int .i64 2, .int .i64 k]]) (by simp [results, Try.results18, go_sem, mf0, mf1]) rfl (all_fault (c := 2) (p := k) ?_ HE.out)
                exact ((HT.out.mem.below.drew).setCell (Nat.le_refl _) _).setCell (Nat.le_refl _) _
              · have HK := Lib.hid ((HK0.out).trans (if_neg hn0))
                have hnp : (k : Int) < (k : Int) + (n : Int) := by omega
                have HNZ := Lib.hid hn0
                clear hn0
                go_wp2_with (first | (go_at_call 28; refine (letter_any _ _).mono ?_; rintro e w' ⟨rfl, rfl⟩) | (go_at_call 29; refine (digit_any _ _).mono ?_; rintro e w' ⟨rfl, rfl⟩) | (go_at_call 30; refine (HS.out _).mono ?_; rintro e w' ⟨rfl, rfl⟩))
                go_step3
                change L 4 _ _
                refine cut_lands (fun w' => Tk w w' (.slice va acc.length vc) acc (.int .i64 4) (.string (s.extract k (k + n))) (.int .i64 0) (.int .i64 k)) (by repeat (first | exact HT.out | apply Tk.set0 | apply Tk.set1 | apply Tk.set2 | apply Tk.set3 | apply Tk.drew)) ?_
                clear hx0 hx1 hx2 hx3 z0 z1 z2 z3 HT
                try (clear wr)
                intro wr htk
                have HT := Lib.hid htk
                have hx0 := htk.c0
                have hx1 := htk.c1
                have hx2 := htk.c2
                have hx3 := htk.c3
                have z0 := htk.mem.fc 0
                have z1 := htk.mem.fc 1
                have z2 := htk.mem.fc 2
                have z3 := htk.mem.fc 3
                clear htk
                refine HG.out 4 _ _ _ rfl ?_
                by_cases hfull : acc.length = 2000
                · have hfi : ((acc.length : Int) == 2000) = true := by simp; omega
                  have HE := Lib.hid (HQ.out.trans (at_full hend HB.out h35 HK.out hfull))
                  clear hfull
                  go_wp2_with fail
                  go_step3
                  change L 5 _ _
                  refine HG.out 5 _ _ _ rfl ?_
                  have mf0 := HT.out.mem.f0
                  have mf1 := HT.out.mem.f1
                  have mz0 := HT.out.mem.ff 0
                  have mz1 := HT.out.mem.ff 1
                  go_wp2_with fail
                  go_region
                  go_wp2_with fail
                  refine bodyPost_ret (v := .tuple #[.slice none 0 0, .agg #[.int .i64 4, .int .i64 k]]) (by simp [results, Try.results18, go_sem, mf0, mf1]) rfl (all_fault (c := 4) (p := k) ?_ HE.out)
                  exact ((HT.out.mem.below.drew).setCell (Nat.le_refl _) _).setCell (Nat.le_refl _) _
                · have hfi : ((acc.length : Int) == 2000) = false := by simp; omega
                  go_wp2_with (at_builtin; refine wpList_append_own _ rfl (.tmp 144) (.tmp 146) 24 rfl (w.heap.size + 2) 33 i0 (.agg #[.int .i64 0, .string ⟨#[]⟩, .int .i64 0, .int .i64 0]) 4 40 Try.underlying24 hi hz0 hz1 hz2 rfl (by decide) _ _ _ rfl (HT.out.mem.own.alloc _) ⟨_, 0, none⟩ 1 1 [.int .i64 4, .string (s.extract k (k + n)), .int .i64 0, .int .i64 k] rfl rfl ?c1s ?c2s ?c3s ?c4s ?c5s ?_)
                  case c1s => exact new_cells _ _ _
                  case c2s => exact one_cells
                  case c3s => unfold maxLen; omega
                  case c4s => omega
                  case c5s => have := HT.out.mem.size; simp; omega
                  intro v' w1 hown1 hg1 _
                  have HM1 := Lib.hid (HT.out.mem.grow (t := ⟨4, ((bl s).drop k).take ((k + n) - k), 0, k⟩) _ hg1 (by simp only [tokCells]; rw [← ext_str]; exact hown1))
                  have HE := Lib.hid (HQ.out.trans (at_tok hend HB.out h35 HK.out (by omega)))
                  clear hown1 hg1
                  go_wp2_with fail
                  go_step3
                  change L 0 _ _
                  refine HN.out (s.size - (k + n)) _ _ (by omega) ⟨(k + n), v', 4, _, _, by omega, rfl, by simp; omega, HM1.out, by rw [HE.out, show (k + n) - k = n from by omega], Fr_of rfl⟩
    · have hend' : ¬ (k : Int) < (s.size : Int) := by omega
      have HL : Hid (lexAll (bl s) = ⟨0, 0, acc ++ [⟨0, [], 0, s.size⟩]⟩) := by
        have := at_end (s := s) (k := k) (acc := acc) (by omega) (2000 - acc.length)
        rw [← HQ.out, show k = s.size from by omega] at this
        exact Lib.hid this
      have HM := Lib.hid hmem
      clear hmem
      go_wp2_with (at_builtin; refine wpList_append_own _ rfl (.tmp 18) (.tmp 22) 24 rfl (w.heap.size + 2) 33 i0 (.agg #[.int .i64 0, .string ⟨#[]⟩, .int .i64 0, .int .i64 0]) 4 40 Try.underlying24 hi hz0 hz1 hz2 rfl (by decide) _ _ _ rfl (HM.out.own.alloc _) ⟨_, 0, none⟩ 1 1 [.int .i64 0, .string ⟨#[]⟩, .int .i64 0, .int .i64 s.size] rfl rfl ?c1e ?c2e ?c3e ?c4e ?c5e ?_)
      case c2e => exact ⟨rfl, rfl, rfl, rfl⟩
      case c3e => unfold maxLen; omega
      case c4e => omega
      case c5e => have := HM.out.size; omega
      intro v' w1 hown1 hg1 _
      have HM1 := Lib.hid (HM.out.grow (t := ⟨0, [], 0, s.size⟩) _ hg1 hown1)
      clear hown1 hg1
      have g0 := HM1.out.f0
      have g1 := HM1.out.f1
      have gf0 := HM1.out.ff 0
      have gf1 := HM1.out.ff 1
      go_wp2_with fail
      exact bodyPost_ret (v := .tuple #[v', .agg #[.int .i64 0, .int .i64 0]]) (by simp [results, Try.results18, go_sem, g0, g1]) rfl (all_done HM1.out HL.out _ _)
end Go.Proofs.Ytbaffdehhcfffaa.Lx
