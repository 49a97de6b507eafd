/- What the Go function token of the reference computes: the token with which a text begins. Conditions: the text is not empty and has at most 2^63 - 1 bytes. -/
import Derived.Test.YtbaffdehhcfffaaRefSign
namespace Go.Proofs.Ytbaffdehhcfffaa.Lx
open Go.RowKit
def tokVal (t : Nat × Nat × Nat × Nat) (l : List UInt8) (a : Int) : Value :=
  match t with
  | (0, kind, len, n) => .tuple #[.agg #[.int .i64 kind, .string ⟨(l.take len).toArray⟩, .int .i64 n, .int .i64 a], .int .i64 0]
  | (e + 1, _, _, _) => .tuple #[.agg #[.int .i64 0, .string ⟨#[]⟩, .int .i64 0, .int .i64 0], .int .i64 ((e + 1 : Nat) : Int)]
theorem tok_small {l : List UInt8} {c : UInt8} {r : List UInt8} (hl : l = c :: r) (h : small c = true) :
    tokOf l = if isWord (l.take (runLen alnum l)) then (0, 3, runLen alnum l, 0) else if 8 < runLen alnum l then (4, 0, 0, 0) else (0, 1, runLen alnum l, 0) := by
  subst hl; show (if small c = true then _ else _) = _; rw [if_pos h]
theorem tok_digit {l : List UInt8} {c : UInt8} {r : List UInt8} (hl : l = c :: r) (h : small c = false) (hd : digit c = true) :
    tokOf l = if 1 < runLen digit l ∧ c.toNat = 48 then (2, 0, 0, 0) else if value (l.take (runLen digit l)) ≤ 9223372036854775807 then (0, 2, runLen digit l, value (l.take (runLen digit l))) else (4, 0, 0, 0) := by
  subst hl; show (if small c = true then _ else _) = _; rw [if_neg (by rw [h]; decide), if_pos hd]
theorem tok_sign {l : List UInt8} {c : UInt8} {r : List UInt8} (hl : l = c :: r) (h : small c = false) (hd : digit c = false) :
    tokOf l = if signLen l = 0 then (2, 0, 0, 0) else (0, 4, signLen l, 0) := by
  subst hl; show (if small c = true then _ else _) = _; rw [if_neg (by rw [h]; decide), if_neg (by rw [hd]; decide)]
theorem ext_front (s : ByteArray) (j : Nat) : s.extract 0 j = ⟨((bl s).take j).toArray⟩ := by
  have := ext_str s 0 j
  rw [List.drop_zero, Nat.sub_zero] at this
  exact this
theorem bl_front (s : ByteArray) (j : Nat) : bl (s.extract 0 j) = (bl s).take j := by
  rw [ext_bl, List.drop_zero, Nat.sub_zero]
set_option maxHeartbeats 4000000 in
theorem rtoken_any (s : ByteArray) (a : Int) (w : World) (h0 : 0 < s.size) (hs : s.size ≤ 9223372036854775807) :
    Calls Try.prog 34 #[.string s, .int .i64 a] w fun e w' => e = .returned (tokVal (tokOf (bl s)) (bl s) a) ∧ Below w.heap.size w w' := by
  have hc0 : bl s = s[0] :: (bl s).drop 1 := by have := bl_drop s 0 h0; rwa [List.drop_zero] at this
  have h0' : (0 : Int) < (s.size : Int) := by omega
  cases hsm : small s[0] with
  | true =>
    have HT := Lib.hid (tok_small hc0 hsm)
    have hrl := runLen_le alnum (bl s)
    rw [bl_len] at hrl
    have he : endAt alnum s 0 = runLen alnum (bl s) := by unfold endAt; rw [List.drop_zero]; omega
    obtain ⟨j, hj⟩ : ∃ j, Hid (runLen alnum (bl s) = j) := ⟨_, Lib.hid rfl⟩
    have HF := Lib.hid fun w => from_true s w hs
    rw [hj.out] at he hrl
    have HF := Lib.hid (he ▸ HF.out)
    have HT := Lib.hid (hj.out ▸ HT.out)
    have hle : (j : Int) ≤ (s.size : Int) := by omega
    have hmin : min j s.size = j := by omega
    have HX := Lib.hid (bl_front s j)
    clear he hc0
    cases hwd : isWord (bl (s.extract 0 j)) with
    | true =>
      have HK := Lib.hid (HT.out.trans (if_pos (by rw [← HX.out]; exact hwd)))
      go_enter Try.func34, Try.ntmps34
      go_wp2_with (first | (go_at_call 36; refine (rsmall_any _ _).mono ?_; rintro e w' ⟨rfl, rfl⟩) | (go_at_call 37; refine (HF.out _).mono ?_; rintro e w' ⟨rfl, rfl⟩))
      refine (rword_any _ _).mono ?_
      rintro e w1 ⟨rfl, hb1⟩
      have g0 : w1.cell? ⟨w.heap.size, 0, none⟩ = some (.int .i64 0) := (hb1.cell (by simp)).trans (by simp [go_sem])
      have g1 : w1.cell? ⟨w.heap.size, 1, none⟩ = some (.string ⟨#[]⟩) := (hb1.cell (by simp)).trans (by simp [go_sem])
      have g2 : w1.cell? ⟨w.heap.size, 2, none⟩ = some (.int .i64 0) := (hb1.cell (by simp)).trans (by simp [go_sem])
      have g3 : w1.cell? ⟨w.heap.size, 3, none⟩ = some (.int .i64 0) := (hb1.cell (by simp)).trans (by simp [go_sem])
      have z0 : w1.frozen? ⟨w.heap.size, 0, none⟩ = false := (hb1.frozen (by simp)).trans (by simp [go_sem])
      have z1 : w1.frozen? ⟨w.heap.size, 1, none⟩ = false := (hb1.frozen (by simp)).trans (by simp [go_sem])
      have z2 : w1.frozen? ⟨w.heap.size, 2, none⟩ = false := (hb1.frozen (by simp)).trans (by simp [go_sem])
      have z3 : w1.frozen? ⟨w.heap.size, 3, none⟩ = false := (hb1.frozen (by simp)).trans (by simp [go_sem])
      have HB1 := Lib.hid hb1
      clear hb1
      go_wp2_with fail
      refine bodyPost_ret (v := .tuple #[.agg #[.int .i64 3, .string (s.extract 0 j), .int .i64 0, .int .i64 a], .int .i64 0]) (by simp [results, Try.results34, go_sem, g0, g1, g2, g3]) rfl ⟨?_, ?_⟩
      · rw [HK.out]
        simp only [tokVal]
        rw [ext_front]; rfl
      · exact (((Below.setCell (((Below.refl _ _).alloc (Nat.le_refl _) _).trans (HB1.out.mono (by simp))) (p := ⟨w.heap.size, 0, none⟩) (Nat.le_refl _) _).setCell (p := ⟨w.heap.size, 1, none⟩) (Nat.le_refl _) _).setCell (p := ⟨w.heap.size, 2, none⟩) (Nat.le_refl _) _).setCell (p := ⟨w.heap.size, 3, none⟩) (Nat.le_refl _) _
    | false =>
      have hwf : ¬ isWord ((bl s).take j) = true := by rw [← HX.out, hwd]; decide
      by_cases h8 : 8 < j
      · have HK := Lib.hid (HT.out.trans ((if_neg hwf).trans (if_pos h8)))
        have h8' : (8 : Int) < (j : Int) := by omega
        clear hwf
        go_enter Try.func34, Try.ntmps34
        go_wp2_with (first | (go_at_call 36; refine (rsmall_any _ _).mono ?_; rintro e w' ⟨rfl, rfl⟩) | (go_at_call 37; refine (HF.out _).mono ?_; rintro e w' ⟨rfl, rfl⟩))
        refine (rword_any _ _).mono ?_
        rintro e w1 ⟨rfl, hb1⟩
        have g0 : w1.cell? ⟨w.heap.size, 0, none⟩ = some (.int .i64 0) := (hb1.cell (by simp)).trans (by simp [go_sem])
        have g1 : w1.cell? ⟨w.heap.size, 1, none⟩ = some (.string ⟨#[]⟩) := (hb1.cell (by simp)).trans (by simp [go_sem])
        have g2 : w1.cell? ⟨w.heap.size, 2, none⟩ = some (.int .i64 0) := (hb1.cell (by simp)).trans (by simp [go_sem])
        have g3 : w1.cell? ⟨w.heap.size, 3, none⟩ = some (.int .i64 0) := (hb1.cell (by simp)).trans (by simp [go_sem])
        have z0 : w1.frozen? ⟨w.heap.size, 0, none⟩ = false := (hb1.frozen (by simp)).trans (by simp [go_sem])
        have z1 : w1.frozen? ⟨w.heap.size, 1, none⟩ = false := (hb1.frozen (by simp)).trans (by simp [go_sem])
        have z2 : w1.frozen? ⟨w.heap.size, 2, none⟩ = false := (hb1.frozen (by simp)).trans (by simp [go_sem])
        have z3 : w1.frozen? ⟨w.heap.size, 3, none⟩ = false := (hb1.frozen (by simp)).trans (by simp [go_sem])
        have HB1 := Lib.hid hb1
        clear hb1
        go_wp2_with fail
        refine bodyPost_ret (v := .tuple #[.agg #[.int .i64 0, .string ⟨#[]⟩, .int .i64 0, .int .i64 0], .int .i64 4]) (by simp [results, Try.results34, go_sem, g0, g1, g2, g3]) rfl ⟨?_, ?_⟩
        · rw [HK.out]
          simp only [tokVal]
          rfl
        · exact (((Below.setCell (((Below.refl _ _).alloc (Nat.le_refl _) _).trans (HB1.out.mono (by simp))) (p := ⟨w.heap.size, 0, none⟩) (Nat.le_refl _) _).setCell (p := ⟨w.heap.size, 1, none⟩) (Nat.le_refl _) _).setCell (p := ⟨w.heap.size, 2, none⟩) (Nat.le_refl _) _).setCell (p := ⟨w.heap.size, 3, none⟩) (Nat.le_refl _) _
      · have HK := Lib.hid (HT.out.trans ((if_neg hwf).trans (if_neg h8)))
        have h8' : ¬ (8 : Int) < (j : Int) := by omega
        clear hwf
        go_enter Try.func34, Try.ntmps34
        go_wp2_with (first | (go_at_call 36; refine (rsmall_any _ _).mono ?_; rintro e w' ⟨rfl, rfl⟩) | (go_at_call 37; refine (HF.out _).mono ?_; rintro e w' ⟨rfl, rfl⟩))
        refine (rword_any _ _).mono ?_
        rintro e w1 ⟨rfl, hb1⟩
        have g0 : w1.cell? ⟨w.heap.size, 0, none⟩ = some (.int .i64 0) := (hb1.cell (by simp)).trans (by simp [go_sem])
        have g1 : w1.cell? ⟨w.heap.size, 1, none⟩ = some (.string ⟨#[]⟩) := (hb1.cell (by simp)).trans (by simp [go_sem])
        have g2 : w1.cell? ⟨w.heap.size, 2, none⟩ = some (.int .i64 0) := (hb1.cell (by simp)).trans (by simp [go_sem])
        have g3 : w1.cell? ⟨w.heap.size, 3, none⟩ = some (.int .i64 0) := (hb1.cell (by simp)).trans (by simp [go_sem])
        have z0 : w1.frozen? ⟨w.heap.size, 0, none⟩ = false := (hb1.frozen (by simp)).trans (by simp [go_sem])
        have z1 : w1.frozen? ⟨w.heap.size, 1, none⟩ = false := (hb1.frozen (by simp)).trans (by simp [go_sem])
        have z2 : w1.frozen? ⟨w.heap.size, 2, none⟩ = false := (hb1.frozen (by simp)).trans (by simp [go_sem])
        have z3 : w1.frozen? ⟨w.heap.size, 3, none⟩ = false := (hb1.frozen (by simp)).trans (by simp [go_sem])
        have HB1 := Lib.hid hb1
        clear hb1
        go_wp2_with fail
        refine bodyPost_ret (v := .tuple #[.agg #[.int .i64 1, .string (s.extract 0 j), .int .i64 0, .int .i64 a], .int .i64 0]) (by simp [results, Try.results34, go_sem, g0, g1, g2, g3]) rfl ⟨?_, ?_⟩
        · rw [HK.out]
          simp only [tokVal]
          rw [ext_front]; rfl
        · exact (((Below.setCell (((Below.refl _ _).alloc (Nat.le_refl _) _).trans (HB1.out.mono (by simp))) (p := ⟨w.heap.size, 0, none⟩) (Nat.le_refl _) _).setCell (p := ⟨w.heap.size, 1, none⟩) (Nat.le_refl _) _).setCell (p := ⟨w.heap.size, 2, none⟩) (Nat.le_refl _) _).setCell (p := ⟨w.heap.size, 3, none⟩) (Nat.le_refl _) _
  | false =>
    cases hdg : digit s[0] with
    | true =>
      have HT := Lib.hid (tok_digit hc0 hsm hdg)
      have hrl := runLen_le digit (bl s)
      rw [bl_len] at hrl
      have hrp := runLen_pos (p := digit) (c := s[0]) (r := (bl s).drop 1) hdg
      rw [← hc0] at hrp
      have he : endAt digit s 0 = runLen digit (bl s) := by unfold endAt; rw [List.drop_zero]; omega
      obtain ⟨j, hj⟩ : ∃ j, Hid (runLen digit (bl s) = j) := ⟨_, Lib.hid rfl⟩
      have HF := Lib.hid fun w => from_false s w hs
      rw [hj.out] at he hrl hrp
      have HF := Lib.hid (he ▸ HF.out)
      have HT := Lib.hid (hj.out ▸ HT.out)
      have hle : (j : Int) ≤ (s.size : Int) := by omega
      have hmin : min j s.size = j := by omega
      have HX := Lib.hid (bl_front s j)
      have HD : Hid (∀ c ∈ bl (s.extract 0 j), digit c = true) := by
        refine Lib.hid ?_
        rw [HX.out, ← hj.out, take_run]
        intro c hc
        exact mem_takeWhile hc
      have hpos : 0 < (s.extract 0 j).size := by rw [ByteArray.size_extract, hmin]; omega
      have hz0 : (s.extract 0 j)[0]'hpos = s[0] := by rw [ByteArray.getElem_extract]
      clear he hc0
      by_cases hN : 1 < j ∧ s[0].toNat = 48
      · have HK := Lib.hid (HT.out.trans (if_pos hN))
        have t48 : ((((s.extract 0 j)[0]'hpos).toNat : Int) == 48) = true := by rw [hz0, hN.2]; rfl
        have hj1 : (1 : Int) < (j : Int) := by omega
        clear hN hz0
        go_enter Try.func34, Try.ntmps34
        go_wp2_with (first | (go_at_call 36; refine (rsmall_any _ _).mono ?_; rintro e w' ⟨rfl, rfl⟩) | (go_at_call 39; refine (rdigit_any _ _).mono ?_; rintro e w' ⟨rfl, rfl⟩) | (go_at_call 37; refine (HF.out _).mono ?_; rintro e w' ⟨rfl, rfl⟩))
        refine bodyPost_ret (v := .tuple #[.agg #[.int .i64 0, .string ⟨#[]⟩, .int .i64 0, .int .i64 0], .int .i64 2]) (by simp [results, Try.results34, go_sem]) rfl ⟨?_, ?_⟩
        · rw [HK.out]
          simp only [tokVal]
          rfl
        · exact (Below.refl w.heap.size w).alloc (Nat.le_refl _) _
      · have hzz : ∀ h : 1 < (s.extract 0 j).size, ((s.extract 0 j)[0]'(by omega)).toNat ≠ 48 := by
          intro h h48
          rw [ByteArray.size_extract, hmin] at h
          rw [show (s.extract 0 j)[0]'(by rw [ByteArray.size_extract, hmin]; omega) = s[0] from hz0] at h48
          exact hN ⟨by omega, h48⟩
        have HWO := Lib.hid fun w => worth_has (s.extract 0 j) w HD.out hzz
        have HNN := Lib.hid hN
        clear hzz hN
        have NB : numB (bl (s.extract 0 j)) = decide (value ((bl s).take j) ≤ 9223372036854775807) := by rw [HX.out]; rfl
        by_cases hv : value ((bl s).take j) ≤ 9223372036854775807
        · have HK := Lib.hid (HT.out.trans ((if_neg HNN.out).trans (if_pos hv)))
          have hnb : numB (bl (s.extract 0 j)) = true := by rw [NB]; simp [hv]
          have hnv : (numV (bl (s.extract 0 j)) : Int) = (value ((bl s).take j) : Nat) := by rw [HX.out]; unfold numV; rw [if_pos hv]
          have HN1 := Lib.hid (((HWO.out w).1 hnb).trans hnv)
          clear NB hnv hv
          by_cases hj1 : 1 < j
          · have hj1' : (1 : Int) < (j : Int) := by omega
            have t48 : ((((s.extract 0 j)[0]'hpos).toNat : Int) == 48) = false := by rw [hz0]; simp; have := HNN.out; omega
            clear hz0
            go_enter Try.func34, Try.ntmps34
            go_wp2_with (first | (go_at_call 36; refine (rsmall_any _ _).mono ?_; rintro e w' ⟨rfl, rfl⟩) | (go_at_call 39; refine (rdigit_any _ _).mono ?_; rintro e w' ⟨rfl, rfl⟩) | (go_at_call 37; refine (HF.out _).mono ?_; rintro e w' ⟨rfl, rfl⟩) | (go_at_call 40; refine (HWO.out _).2.mono ?_; rintro e w' ⟨rfl, rfl⟩))
            refine bodyPost_ret (v := .tuple #[.agg #[.int .i64 2, .string (s.extract 0 j), .int .i64 (worthN (s.extract 0 j)), .int .i64 a], .int .i64 0]) (by simp [results, Try.results34, go_sem]) rfl ⟨?_, ?_⟩
            · rw [HK.out]
              simp only [tokVal]
              rw [ext_front, ← ext_front s j, HN1.out, ext_front]; rfl
            · exact (Below.refl w.heap.size w).alloc (Nat.le_refl _) _
          · have hj1' : ¬ (1 : Int) < (j : Int) := by omega
            clear hz0
            go_enter Try.func34, Try.ntmps34
            go_wp2_with (first | (go_at_call 36; refine (rsmall_any _ _).mono ?_; rintro e w' ⟨rfl, rfl⟩) | (go_at_call 39; refine (rdigit_any _ _).mono ?_; rintro e w' ⟨rfl, rfl⟩) | (go_at_call 37; refine (HF.out _).mono ?_; rintro e w' ⟨rfl, rfl⟩) | (go_at_call 40; refine (HWO.out _).2.mono ?_; rintro e w' ⟨rfl, rfl⟩))
            refine bodyPost_ret (v := .tuple #[.agg #[.int .i64 2, .string (s.extract 0 j), .int .i64 (worthN (s.extract 0 j)), .int .i64 a], .int .i64 0]) (by simp [results, Try.results34, go_sem]) rfl ⟨?_, ?_⟩
            · rw [HK.out]
              simp only [tokVal]
              rw [ext_front, ← ext_front s j, HN1.out, ext_front]; rfl
            · exact (Below.refl w.heap.size w).alloc (Nat.le_refl _) _
        · have HK := Lib.hid (HT.out.trans ((if_neg HNN.out).trans (if_neg hv)))
          have hnb : numB (bl (s.extract 0 j)) = false := by rw [NB]; simp; omega
          clear NB hv
          by_cases hj1 : 1 < j
          · have hj1' : (1 : Int) < (j : Int) := by omega
            have t48 : ((((s.extract 0 j)[0]'hpos).toNat : Int) == 48) = false := by rw [hz0]; simp; have := HNN.out; omega
            clear hz0
            go_enter Try.func34, Try.ntmps34
            go_wp2_with (first | (go_at_call 36; refine (rsmall_any _ _).mono ?_; rintro e w' ⟨rfl, rfl⟩) | (go_at_call 39; refine (rdigit_any _ _).mono ?_; rintro e w' ⟨rfl, rfl⟩) | (go_at_call 37; refine (HF.out _).mono ?_; rintro e w' ⟨rfl, rfl⟩) | (go_at_call 40; refine (HWO.out _).2.mono ?_; rintro e w' ⟨rfl, rfl⟩))
            refine bodyPost_ret (v := .tuple #[.agg #[.int .i64 0, .string ⟨#[]⟩, .int .i64 0, .int .i64 0], .int .i64 4]) (by simp [results, Try.results34, go_sem]) rfl ⟨?_, ?_⟩
            · rw [HK.out]
              simp only [tokVal]
              rfl
            · exact (Below.refl w.heap.size w).alloc (Nat.le_refl _) _
          · have hj1' : ¬ (1 : Int) < (j : Int) := by omega
            clear hz0
            go_enter Try.func34, Try.ntmps34
            go_wp2_with (first | (go_at_call 36; refine (rsmall_any _ _).mono ?_; rintro e w' ⟨rfl, rfl⟩) | (go_at_call 39; refine (rdigit_any _ _).mono ?_; rintro e w' ⟨rfl, rfl⟩) | (go_at_call 37; refine (HF.out _).mono ?_; rintro e w' ⟨rfl, rfl⟩) | (go_at_call 40; refine (HWO.out _).2.mono ?_; rintro e w' ⟨rfl, rfl⟩))
            refine bodyPost_ret (v := .tuple #[.agg #[.int .i64 0, .string ⟨#[]⟩, .int .i64 0, .int .i64 0], .int .i64 4]) (by simp [results, Try.results34, go_sem]) rfl ⟨?_, ?_⟩
            · rw [HK.out]
              simp only [tokVal]
              rfl
            · exact (Below.refl w.heap.size w).alloc (Nat.le_refl _) _
    | false =>
      have HT := Lib.hid (tok_sign hc0 hsm hdg)
      have hsl := signLen_le (bl s)
      rw [bl_len] at hsl
      have HF := Lib.hid fun w => rsign_any s w h0
      obtain ⟨j, hj⟩ : ∃ j, Hid (signLen (bl s) = j) := ⟨_, Lib.hid rfl⟩
      rw [hj.out] at hsl
      have HF := Lib.hid (hj.out ▸ HF.out)
      have HT := Lib.hid (hj.out ▸ HT.out)
      have hle : (j : Int) ≤ (s.size : Int) := by omega
      clear hc0
      by_cases hj0 : j = 0
      · have HK := Lib.hid (HT.out.trans (if_pos hj0))
        subst hj0
        go_enter Try.func34, Try.ntmps34
        go_wp2_with (first | (go_at_call 36; refine (rsmall_any _ _).mono ?_; rintro e w' ⟨rfl, rfl⟩) | (go_at_call 39; refine (rdigit_any _ _).mono ?_; rintro e w' ⟨rfl, rfl⟩))
        refine (HF.out _).mono ?_
        rintro e w1 ⟨rfl, hb1⟩
        have g0 : w1.cell? ⟨w.heap.size, 0, none⟩ = some (.int .i64 0) := (hb1.cell (by simp)).trans (by simp [go_sem])
        have g1 : w1.cell? ⟨w.heap.size, 1, none⟩ = some (.string ⟨#[]⟩) := (hb1.cell (by simp)).trans (by simp [go_sem])
        have g2 : w1.cell? ⟨w.heap.size, 2, none⟩ = some (.int .i64 0) := (hb1.cell (by simp)).trans (by simp [go_sem])
        have g3 : w1.cell? ⟨w.heap.size, 3, none⟩ = some (.int .i64 0) := (hb1.cell (by simp)).trans (by simp [go_sem])
        have z0 : w1.frozen? ⟨w.heap.size, 0, none⟩ = false := (hb1.frozen (by simp)).trans (by simp [go_sem])
        have z1 : w1.frozen? ⟨w.heap.size, 1, none⟩ = false := (hb1.frozen (by simp)).trans (by simp [go_sem])
        have z2 : w1.frozen? ⟨w.heap.size, 2, none⟩ = false := (hb1.frozen (by simp)).trans (by simp [go_sem])
        have z3 : w1.frozen? ⟨w.heap.size, 3, none⟩ = false := (hb1.frozen (by simp)).trans (by simp [go_sem])
        have HB1 := Lib.hid hb1
        clear hb1
        go_wp2_with fail
        refine bodyPost_ret (v := .tuple #[.agg #[.int .i64 0, .string ⟨#[]⟩, .int .i64 0, .int .i64 0], .int .i64 2]) (by simp [results, Try.results34, go_sem, g0, g1, g2, g3]) rfl ⟨?_, ?_⟩
        · rw [HK.out]
          simp only [tokVal]
          rfl
        · exact (((Below.setCell (((Below.refl _ _).alloc (Nat.le_refl _) _).trans (HB1.out.mono (by simp))) (p := ⟨w.heap.size, 0, none⟩) (Nat.le_refl _) _).setCell (p := ⟨w.heap.size, 1, none⟩) (Nat.le_refl _) _).setCell (p := ⟨w.heap.size, 2, none⟩) (Nat.le_refl _) _).setCell (p := ⟨w.heap.size, 3, none⟩) (Nat.le_refl _) _
      · have HK := Lib.hid (HT.out.trans (if_neg hj0))
        have hjb : ((j : Int) == 0) = false := by simp; omega
        have HJ := Lib.hid hj0
        clear hj0
        go_enter Try.func34, Try.ntmps34
        go_wp2_with (first | (go_at_call 36; refine (rsmall_any _ _).mono ?_; rintro e w' ⟨rfl, rfl⟩) | (go_at_call 39; refine (rdigit_any _ _).mono ?_; rintro e w' ⟨rfl, rfl⟩))
        refine (HF.out _).mono ?_
        rintro e w1 ⟨rfl, hb1⟩
        have g0 : w1.cell? ⟨w.heap.size, 0, none⟩ = some (.int .i64 0) := (hb1.cell (by simp)).trans (by simp [go_sem])
        have g1 : w1.cell? ⟨w.heap.size, 1, none⟩ = some (.string ⟨#[]⟩) := (hb1.cell (by simp)).trans (by simp [go_sem])
        have g2 : w1.cell? ⟨w.heap.size, 2, none⟩ = some (.int .i64 0) := (hb1.cell (by simp)).trans (by simp [go_sem])
        have g3 : w1.cell? ⟨w.heap.size, 3, none⟩ = some (.int .i64 0) := (hb1.cell (by simp)).trans (by simp [go_sem])
        have z0 : w1.frozen? ⟨w.heap.size, 0, none⟩ = false := (hb1.frozen (by simp)).trans (by simp [go_sem])
        have z1 : w1.frozen? ⟨w.heap.size, 1, none⟩ = false := (hb1.frozen (by simp)).trans (by simp [go_sem])
        have z2 : w1.frozen? ⟨w.heap.size, 2, none⟩ = false := (hb1.frozen (by simp)).trans (by simp [go_sem])
        have z3 : w1.frozen? ⟨w.heap.size, 3, none⟩ = false := (hb1.frozen (by simp)).trans (by simp [go_sem])
        have HB1 := Lib.hid hb1
        clear hb1
        go_wp2_with fail
        refine bodyPost_ret (v := .tuple #[.agg #[.int .i64 4, .string (s.extract 0 j), .int .i64 0, .int .i64 a], .int .i64 0]) (by simp [results, Try.results34, go_sem, g0, g1, g2, g3]) rfl ⟨?_, ?_⟩
        · rw [HK.out]
          simp only [tokVal]
          rw [ext_front]; rfl
        · exact (((Below.setCell (((Below.refl _ _).alloc (Nat.le_refl _) _).trans (HB1.out.mono (by simp))) (p := ⟨w.heap.size, 0, none⟩) (Nat.le_refl _) _).setCell (p := ⟨w.heap.size, 1, none⟩) (Nat.le_refl _) _).setCell (p := ⟨w.heap.size, 2, none⟩) (Nat.le_refl _) _).setCell (p := ⟨w.heap.size, 3, none⟩) (Nat.le_refl _) _
end Go.Proofs.Ytbaffdehhcfffaa.Lx
