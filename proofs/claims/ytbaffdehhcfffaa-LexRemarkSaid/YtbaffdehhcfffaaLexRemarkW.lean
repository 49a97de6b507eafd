/- The law LexRemark, walked: it returns true. Conditions: the texts have at most 2^63 - 1 bytes. -/
import Derived.Test.YtbaffdehhcfffaaLexJoinW
import Derived.Deep.QuietTactic
import Derived.BigQuiet
namespace Go.Proofs.Ytbaffdehhcfffaa.Lx
open Go.RowKit
theorem bl_take (x : ByteArray) (k : Nat) : bl (x.extract 0 k) = (bl x).take k := by rw [ext_bl]; rfl
def sizeOf : Value → Nat
  | .string q => q.size
  | _ => 0
theorem atEnd_take : ∀ (l : List Tok) (e : Nat), (atEnd e l).take (l.length - 1) = l.take (l.length - 1) := by
  intro l
  induction l with
  | nil => intro e; rfl
  | cons u r ih =>
    intro e
    cases r with
    | nil => rfl
    | cons v s =>
      have := ih e
      simp only [List.length_cons, Nat.add_sub_cancel] at this ⊢
      rw [atEnd, List.take_succ_cons, List.take_succ_cons, this]
theorem atEnd_last : ∀ (l : List Tok) (e : Nat) (h : l.length - 1 < (atEnd e l).length), (atEnd e l)[l.length - 1].pos = e := by
  intro l
  induction l with
  | nil => intro e h; simp [atEnd] at h
  | cons u r ih =>
    intro e h
    cases r with
    | nil => rfl
    | cons v s =>
      have := ih e (by rw [atEnd_len]; simp)
      simp only [List.length_cons, Nat.add_sub_cancel, atEnd, List.getElem_cons_succ] at this ⊢
      exact this
theorem take_bytes (q : ByteArray) (k : Nat) (h : k < q.size) : (bl q).take (k + 1) = (bl q).take k ++ [q[k]] := by
  have h' : k < (bl q).length := by rw [bl_len]; exact h
  rw [List.take_succ_eq_append_getElem h']
  rfl
set_option maxHeartbeats 4000000 in
set_option maxRecDepth 100000 in
theorem law_remark (s : ByteArray) (hs : s.size ≤ maxLen) (m : ByteArray) (hm : m.size ≤ maxLen) (w : World) :
    Calls Try.prog 9 #[.string s, .string m] w fun e w' => e = .returned (.bool true) ∧ Below w.heap.size w w' := by
  unfold maxLen at hm
  unfold maxLen at hs
  have hx := cut_size s
  obtain ⟨x, hxe⟩ : ∃ x, Hid (s.extract 0 (min s.size 100100) = x) := ⟨_, Lib.hid rfl⟩
  rw [hxe.out] at hx
  have HC := Lib.hid (hxe.out ▸ fun w => cut_any s w hs)
  obtain ⟨c, p, ts, hr⟩ : ∃ c p ts, Hid (lexAll (bl x) = ⟨c, p, ts⟩) := ⟨_, _, _, Lib.hid rfl⟩
  have hrm : ts.length ≤ 100000 := by have := all_room (bl x); rw [hr.out] at this; dsimp only at this; omega
  have hps : ∀ t ∈ ts, t.pos ≤ 1000000 := fun t h => by have := all_pos (bl x) t (by rw [hr.out]; exact h); omega
  have HP := Lib.hid hps
  clear hps
  go_enter Try.func9, Try.ntmps9
  go_wp2_with fail
  refine (lexed_any _).mono ?_
  rintro e w1 ⟨rfl, hb1⟩
  have HB1 := Lib.hid hb1
  clear hb1
  go_wp2_with fail
  refine (HC.out _).mono ?_
  rintro e w' ⟨rfl, rfl⟩
  by_cases hm40 : m.size ≤ 40
  · have hmi : (m.size : Int) ≤ 40 := by omega
    go_wp2_with fail
    go_loop [1, 5] (fun nv i => ∃ (k : Nat) (q : ByteArray), k ≤ q.size + 1 ∧ q.size ≤ 40 ∧ i = .int .i64 k ∧ nv = .string q ∧ ∀ c ∈ (bl q).take k, c ≠ 10) (fun nv i => (sizeOf nv - intOf i).toNat)
    case atStart => exact ⟨0, m, by omega, hm40, rfl, rfl, by intro c hc; simp at hc⟩
    case round =>
      obtain ⟨k, q, hk, hq, rfl, rfl, hcs⟩ := hrel
      have HCS := Lib.hid hcs
      clear hcs
      by_cases hlt : k < q.size
      · have hlt' : (k : Int) < (q.size : Int) := by omega
        have htb := take_bytes q k hlt
        by_cases h10 : q[k].toNat = 10
        · have h10' : ((q[k].toNat : Int) == 10) = true := by simp; omega
          have hmin : min k q.size = k := by omega
          have HMIN := Lib.hid hmin
          clear htb h10 hmin
          go_wp2_with fail
          go_round
          case rel =>
            refine ⟨k + 1, q.extract 0 k, by rw [ByteArray.size_extract]; omega, by rw [ByteArray.size_extract]; omega, by go_num, rfl, ?_⟩
            intro c hc
            rw [bl_take, List.take_take, Nat.min_eq_right (by omega)] at hc
            exact HCS.out c hc
          case measure => simp [intOf, sizeOf]; omega
        · have h10' : ((q[k].toNat : Int) == 10) = false := by simp; omega
          have HTB := Lib.hid htb
          have HN := Lib.hid h10
          clear htb h10
          go_wp2_with fail
          go_round
          case rel =>
            refine ⟨k + 1, q, by omega, by omega, by go_num, rfl, ?_⟩
            intro c hc
            rw [HTB.out] at hc
            rcases List.mem_append.1 hc with hc | hc
            · exact HCS.out c hc
            · simp at hc; subst hc; intro e; exact HN.out (by rw [e]; rfl)
          case measure => simp [intOf, sizeOf]; omega
      · have hlt' : ¬ (k : Int) < (q.size : Int) := by omega
        have hcq : ∀ c ∈ bl q, c ≠ 10 := by
          intro c hc
          refine HCS.out c ?_
          rw [List.take_of_length_le (by rw [bl_len]; omega)]
          exact hc
        by_cases hbig : 99950 < x.size
        · have hbig' : (99950 : Int) < (x.size : Int) := by omega
          clear hcq
          go_wp2_with fail
          go_ret
          exact ⟨rfl, HB1.out⟩
        · have hbig' : ¬ (99950 : Int) < (x.size : Int) := by omega
          have hbe := all_behind (l := bl x) (n := bl q) (by rw [bl_len]; omega) (by rw [bl_len]; omega) hcq
          rw [hr.out, bl_len, bl_len] at hbe
          have hsz : (x ++ ⟨#[10, 35]⟩ ++ q : ByteArray).size ≤ 9223372036854775807 := by rw [ByteArray.size_append, ByteArray.size_append]; show x.size + 2 + q.size ≤ _; omega
          have HSZ := Lib.hid hsz
          clear hcq hsz
          by_cases hc0 : c = 0
          · subst hc0
            dsimp only at hbe
            rw [if_pos rfl] at hbe
            have hne := all_ne hr.out
            have hlen : 0 < ts.length := List.length_pos_iff.2 hne
            have h2 : Hid (lexAll (bl (x ++ ⟨#[10, 35]⟩ ++ q)) = ⟨0, p, atEnd (x.size + 2 + q.size) ts⟩) := Lib.hid (by rw [bl_app, bl_app, List.append_assoc]; exact hbe)
            clear hbe
            go_wp2_with fail
            refine (all_gives _ (by omega) hr.out).mono ?_
            rintro e w2 ⟨v1, rfl, hb2, ho2⟩
            have hR1 := (Row.of ho2).next ((Below.refl _ _).alloc (Nat.le_refl _) (.cells #[.int .i64 0, .int .i64 p] 27))
            have HR1 := Lib.hid hR1
            have HB2 := Lib.hid ((HB1.out.trans (hb2.mono HB1.out.size)).alloc (HB1.out.trans (hb2.mono HB1.out.size)).size (.cells #[.int .i64 0, .int .i64 p] 27))
            obtain ⟨va, vc, rfl⟩ := ownsForm ho2
            clear hb2 ho2 hR1
            have hWc0 : (w2.alloc (.cells #[.int .i64 0, .int .i64 p] 27)).cell? ⟨w2.heap.size, 0, none⟩ = some (.int .i64 0) := by simp [go_sem]
            have hWc1 : (w2.alloc (.cells #[.int .i64 0, .int .i64 p] 27)).cell? ⟨w2.heap.size, 1, none⟩ = some (.int .i64 p) := by simp [go_sem]
            have hWss : w2.heap.size < (w2.alloc (.cells #[.int .i64 0, .int .i64 p] 27)).heap.size := by simp
            go_wp2_with fail
            generalize w2.alloc (.cells #[.int .i64 0, .int .i64 p] 27) = W2 at *
            refine (all_gives _ HSZ.out h2.out).mono ?_
            rintro e w3 ⟨v2, rfl, hb3, ho3⟩
            have a0 : w3.cell? ⟨w2.heap.size, 0, none⟩ = some (.int .i64 0) := (hb3.cell hWss).trans hWc0
            have a1 : w3.cell? ⟨w2.heap.size, 1, none⟩ = some (.int .i64 p) := (hb3.cell hWss).trans hWc1
            have hsz3 : w2.heap.size < w3.heap.size := by have := hb3.size; omega
            have hl3 : (atEnd (x.size + 2 + q.size) ts).length = ts.length := atEnd_len _ _
            have hne3 : atEnd (x.size + 2 + q.size) ts ≠ [] := by intro h; rw [h] at hl3; simp at hl3; omega
            have hR2 := (Row.of ho3).next ((Below.refl _ _).alloc (Nat.le_refl _) (.cells #[.int .i64 0, .int .i64 p] 27))
            obtain ⟨g2, c2, rfl, hc2, hcell2⟩ := (Row.of ho3).cells hne3
            obtain ⟨-, -, -, q3⟩ := hcell2 (ts.length - 1) (by omega)
            rw [atEnd_last] at q3
            have hgl2 : g2 < w3.heap.size := cell_lt q3
            rw [hl3] at hR2 hc2 ⊢
            have hR1 := (HR1.out.next hb3).next ((Below.refl _ _).alloc (Nat.le_refl _) (.cells #[.int .i64 0, .int .i64 p] 27))
            obtain ⟨g1, c1, hv, hc1, _⟩ := hR1.cells hne
            simp only [Value.slice.injEq] at hv
            obtain ⟨rfl, -, rfl⟩ := hv
            have hT1 := hR1.take (ts.length - 1) (by omega)
            have hT2 := hR2.take (ts.length - 1) (by rw [hl3]; omega)
            rw [atEnd_take] at hT2
            have hks : (ts.take (ts.length - 1)).length ≤ 100000 := by rw [List.length_take]; omega
            have HSAME : Hid (∀ (k : Nat), Calls Try.prog 20 #[.slice (some ⟨g1, 0, none⟩) (ts.length - 1) vc, .slice (some ⟨g2, 0, none⟩) (ts.length - 1) c2, .int .i64 0] ((w3.alloc (.cells #[.int .i64 0, .int .i64 p] 27)).drewN k) fun e w' => e = .returned (.bool true) ∧ ∃ n, w' = ((w3.alloc (.cells #[.int .i64 0, .int .i64 p] 27)).drewN k).drewN n) :=
              Lib.hid fun k => same_zero _ (hT1.next (below_drewN (Below.refl _ _) k)) (hT2.next (below_drewN (Below.refl _ _) k)) hks (fun t h => HP.out t (List.mem_of_mem_take h))
            have HB3 := Lib.hid ((HB2.out.trans (hb3.mono HB2.out.size)).alloc (HB2.out.trans (hb3.mono HB2.out.size)).size (.cells #[.int .i64 0, .int .i64 p] 27))
            have hsub : IntKind.i64.wrap ((ts.length : Int) - 1) = (ts.length : Int) - 1 := IntWalk.i64_in _ (by omega)
            have hle0 : (1 : Int) ≤ (ts.length : Int) := by omega
            have hle1 : (0 : Int) ≤ (ts.length : Int) - 1 := by omega
            have hnat : ((ts.length : Int) - 1).toNat = ts.length - 1 := by omega
            have hnz : ((ts.length : Int) == 0) = false := by simp; omega
            have hsum : ((x.size + 2 + q.size : Nat) : Int) = (x.size : Int) + 2 + (q.size : Int) := rfl
            rw [hsum] at q3
            clear hb3 ho3 hR1 hR2 hT1 hT2 hcell2 hks hWc0 hWc1 hl3 hne3 hsum
            go_wp2_with fail
            generalize hW : w3.alloc (.cells #[.int .i64 0, .int .i64 p] 27) = W3 at *
            clear hW
            have s1 : (ts.length : Int) - 1 ≤ (vc : Int) := by omega
            have s2 : (ts.length : Int) - 1 ≤ (c2 : Int) := by omega
            have s3 : ts.length - 1 ≤ vc := by omega
            have s4 : ts.length - 1 ≤ c2 := by omega
            go_quiet ((go_at_call 20; exact Calls.quiet_of (HSAME.out _)))
            go_wp2_with fail
            go_ret
            exact ⟨rfl, below_drewN HB3.out nq⟩
          · dsimp only at hbe
            rw [if_neg hc0] at hbe
            have hbn := bad_nil (l := bl x) (by rw [hr.out]; exact hc0)
            rw [hr.out] at hbn
            dsimp only at hbn
            subst hbn
            have h2 : Hid (lexAll (bl (x ++ ⟨#[10, 35]⟩ ++ q)) = ⟨c, p, []⟩) := Lib.hid (by rw [bl_app, bl_app, List.append_assoc]; exact hbe)
            have ht : ((c : Int) == 0) = false := by simp; omega
            have ht2 : ((c : Int) != 0) = true := by simp; omega
            clear hbe hc0 hrm
            go_wp2_with fail
            refine (all_gives _ (by omega) hr.out).mono ?_
            rintro e w2 ⟨v1, rfl, hb2, ho2⟩
            have hR1 := (Row.of ho2).next ((Below.refl _ _).alloc (Nat.le_refl _) (.cells #[.int .i64 c, .int .i64 p] 27))
            have HR1 := Lib.hid hR1
            have HB2 := Lib.hid ((HB1.out.trans (hb2.mono HB1.out.size)).alloc (HB1.out.trans (hb2.mono HB1.out.size)).size (.cells #[.int .i64 c, .int .i64 p] 27))
            obtain ⟨va, vc, rfl⟩ := ownsForm ho2
            clear hb2 ho2 hR1
            have hWc0 : (w2.alloc (.cells #[.int .i64 c, .int .i64 p] 27)).cell? ⟨w2.heap.size, 0, none⟩ = some (.int .i64 c) := by simp [go_sem]
            have hWc1 : (w2.alloc (.cells #[.int .i64 c, .int .i64 p] 27)).cell? ⟨w2.heap.size, 1, none⟩ = some (.int .i64 p) := by simp [go_sem]
            have hWss : w2.heap.size < (w2.alloc (.cells #[.int .i64 c, .int .i64 p] 27)).heap.size := by simp
            go_wp2_with fail
            generalize w2.alloc (.cells #[.int .i64 c, .int .i64 p] 27) = W2 at *
            refine (all_gives _ HSZ.out h2.out).mono ?_
            rintro e w3 ⟨v2, rfl, hb3, ho3⟩
            have a0 : w3.cell? ⟨w2.heap.size, 0, none⟩ = some (.int .i64 c) := (hb3.cell hWss).trans hWc0
            have a1 : w3.cell? ⟨w2.heap.size, 1, none⟩ = some (.int .i64 p) := (hb3.cell hWss).trans hWc1
            have hsz3 : w2.heap.size < w3.heap.size := by have := hb3.size; omega
            obtain ⟨ua, uc, rfl⟩ := ownsForm ho3
            have HB3 := Lib.hid (HB2.out.trans (hb3.mono HB2.out.size))
            have hu2 : ([] : List Tok).length = 0 := rfl
            rw [hu2]
            clear hb3 ho3 hWc0 hWc1 hu2
            go_wp2_with fail
            go_ret
            exact ⟨rfl, HB3.out.alloc HB3.out.size _⟩
  · have hmi : ¬ (m.size : Int) ≤ 40 := by omega
    go_wp2_with fail
    go_loop [1, 5] (fun nv i => ∃ (k : Nat) (q : ByteArray), k ≤ q.size + 1 ∧ q.size ≤ 40 ∧ i = .int .i64 k ∧ nv = .string q ∧ ∀ c ∈ (bl q).take k, c ≠ 10) (fun nv i => (sizeOf nv - intOf i).toNat)
    case atStart => exact ⟨0, m.extract 0 40, by omega, by rw [ByteArray.size_extract]; omega, rfl, rfl, by intro c hc; simp at hc⟩
    case round =>
      obtain ⟨k, q, hk, hq, rfl, rfl, hcs⟩ := hrel
      have HCS := Lib.hid hcs
      clear hcs
      by_cases hlt : k < q.size
      · have hlt' : (k : Int) < (q.size : Int) := by omega
        have htb := take_bytes q k hlt
        by_cases h10 : q[k].toNat = 10
        · have h10' : ((q[k].toNat : Int) == 10) = true := by simp; omega
          have hmin : min k q.size = k := by omega
          have HMIN := Lib.hid hmin
          clear htb h10 hmin
          go_wp2_with fail
          go_round
          case rel =>
            refine ⟨k + 1, q.extract 0 k, by rw [ByteArray.size_extract]; omega, by rw [ByteArray.size_extract]; omega, by go_num, rfl, ?_⟩
            intro c hc
            rw [bl_take, List.take_take, Nat.min_eq_right (by omega)] at hc
            exact HCS.out c hc
          case measure => simp [intOf, sizeOf]; omega
        · have h10' : ((q[k].toNat : Int) == 10) = false := by simp; omega
          have HTB := Lib.hid htb
          have HN := Lib.hid h10
          clear htb h10
          go_wp2_with fail
          go_round
          case rel =>
            refine ⟨k + 1, q, by omega, by omega, by go_num, rfl, ?_⟩
            intro c hc
            rw [HTB.out] at hc
            rcases List.mem_append.1 hc with hc | hc
            · exact HCS.out c hc
            · simp at hc; subst hc; intro e; exact HN.out (by rw [e]; rfl)
          case measure => simp [intOf, sizeOf]; omega
      · have hlt' : ¬ (k : Int) < (q.size : Int) := by omega
        have hcq : ∀ c ∈ bl q, c ≠ 10 := by
          intro c hc
          refine HCS.out c ?_
          rw [List.take_of_length_le (by rw [bl_len]; omega)]
          exact hc
        by_cases hbig : 99950 < x.size
        · have hbig' : (99950 : Int) < (x.size : Int) := by omega
          clear hcq
          go_wp2_with fail
          go_ret
          exact ⟨rfl, HB1.out⟩
        · have hbig' : ¬ (99950 : Int) < (x.size : Int) := by omega
          have hbe := all_behind (l := bl x) (n := bl q) (by rw [bl_len]; omega) (by rw [bl_len]; omega) hcq
          rw [hr.out, bl_len, bl_len] at hbe
          have hsz : (x ++ ⟨#[10, 35]⟩ ++ q : ByteArray).size ≤ 9223372036854775807 := by rw [ByteArray.size_append, ByteArray.size_append]; show x.size + 2 + q.size ≤ _; omega
          have HSZ := Lib.hid hsz
          clear hcq hsz
          by_cases hc0 : c = 0
          · subst hc0
            dsimp only at hbe
            rw [if_pos rfl] at hbe
            have hne := all_ne hr.out
            have hlen : 0 < ts.length := List.length_pos_iff.2 hne
            have h2 : Hid (lexAll (bl (x ++ ⟨#[10, 35]⟩ ++ q)) = ⟨0, p, atEnd (x.size + 2 + q.size) ts⟩) := Lib.hid (by rw [bl_app, bl_app, List.append_assoc]; exact hbe)
            clear hbe
            go_wp2_with fail
            refine (all_gives _ (by omega) hr.out).mono ?_
            rintro e w2 ⟨v1, rfl, hb2, ho2⟩
            have hR1 := (Row.of ho2).next ((Below.refl _ _).alloc (Nat.le_refl _) (.cells #[.int .i64 0, .int .i64 p] 27))
            have HR1 := Lib.hid hR1
            have HB2 := Lib.hid ((HB1.out.trans (hb2.mono HB1.out.size)).alloc (HB1.out.trans (hb2.mono HB1.out.size)).size (.cells #[.int .i64 0, .int .i64 p] 27))
            obtain ⟨va, vc, rfl⟩ := ownsForm ho2
            clear hb2 ho2 hR1
            have hWc0 : (w2.alloc (.cells #[.int .i64 0, .int .i64 p] 27)).cell? ⟨w2.heap.size, 0, none⟩ = some (.int .i64 0) := by simp [go_sem]
            have hWc1 : (w2.alloc (.cells #[.int .i64 0, .int .i64 p] 27)).cell? ⟨w2.heap.size, 1, none⟩ = some (.int .i64 p) := by simp [go_sem]
            have hWss : w2.heap.size < (w2.alloc (.cells #[.int .i64 0, .int .i64 p] 27)).heap.size := by simp
            go_wp2_with fail
            generalize w2.alloc (.cells #[.int .i64 0, .int .i64 p] 27) = W2 at *
            refine (all_gives _ HSZ.out h2.out).mono ?_
            rintro e w3 ⟨v2, rfl, hb3, ho3⟩
            have a0 : w3.cell? ⟨w2.heap.size, 0, none⟩ = some (.int .i64 0) := (hb3.cell hWss).trans hWc0
            have a1 : w3.cell? ⟨w2.heap.size, 1, none⟩ = some (.int .i64 p) := (hb3.cell hWss).trans hWc1
            have hsz3 : w2.heap.size < w3.heap.size := by have := hb3.size; omega
            have hl3 : (atEnd (x.size + 2 + q.size) ts).length = ts.length := atEnd_len _ _
            have hne3 : atEnd (x.size + 2 + q.size) ts ≠ [] := by intro h; rw [h] at hl3; simp at hl3; omega
            have hR2 := (Row.of ho3).next ((Below.refl _ _).alloc (Nat.le_refl _) (.cells #[.int .i64 0, .int .i64 p] 27))
            obtain ⟨g2, c2, rfl, hc2, hcell2⟩ := (Row.of ho3).cells hne3
            obtain ⟨-, -, -, q3⟩ := hcell2 (ts.length - 1) (by omega)
            rw [atEnd_last] at q3
            have hgl2 : g2 < w3.heap.size := cell_lt q3
            rw [hl3] at hR2 hc2 ⊢
            have hR1 := (HR1.out.next hb3).next ((Below.refl _ _).alloc (Nat.le_refl _) (.cells #[.int .i64 0, .int .i64 p] 27))
            obtain ⟨g1, c1, hv, hc1, _⟩ := hR1.cells hne
            simp only [Value.slice.injEq] at hv
            obtain ⟨rfl, -, rfl⟩ := hv
            have hT1 := hR1.take (ts.length - 1) (by omega)
            have hT2 := hR2.take (ts.length - 1) (by rw [hl3]; omega)
            rw [atEnd_take] at hT2
            have hks : (ts.take (ts.length - 1)).length ≤ 100000 := by rw [List.length_take]; omega
            have HSAME : Hid (∀ (k : Nat), Calls Try.prog 20 #[.slice (some ⟨g1, 0, none⟩) (ts.length - 1) vc, .slice (some ⟨g2, 0, none⟩) (ts.length - 1) c2, .int .i64 0] ((w3.alloc (.cells #[.int .i64 0, .int .i64 p] 27)).drewN k) fun e w' => e = .returned (.bool true) ∧ ∃ n, w' = ((w3.alloc (.cells #[.int .i64 0, .int .i64 p] 27)).drewN k).drewN n) :=
              Lib.hid fun k => same_zero _ (hT1.next (below_drewN (Below.refl _ _) k)) (hT2.next (below_drewN (Below.refl _ _) k)) hks (fun t h => HP.out t (List.mem_of_mem_take h))
            have HB3 := Lib.hid ((HB2.out.trans (hb3.mono HB2.out.size)).alloc (HB2.out.trans (hb3.mono HB2.out.size)).size (.cells #[.int .i64 0, .int .i64 p] 27))
            have hsub : IntKind.i64.wrap ((ts.length : Int) - 1) = (ts.length : Int) - 1 := IntWalk.i64_in _ (by omega)
            have hle0 : (1 : Int) ≤ (ts.length : Int) := by omega
            have hle1 : (0 : Int) ≤ (ts.length : Int) - 1 := by omega
            have hnat : ((ts.length : Int) - 1).toNat = ts.length - 1 := by omega
            have hnz : ((ts.length : Int) == 0) = false := by simp; omega
            have hsum : ((x.size + 2 + q.size : Nat) : Int) = (x.size : Int) + 2 + (q.size : Int) := rfl
            rw [hsum] at q3
            clear hb3 ho3 hR1 hR2 hT1 hT2 hcell2 hks hWc0 hWc1 hl3 hne3 hsum
            go_wp2_with fail
            generalize hW : w3.alloc (.cells #[.int .i64 0, .int .i64 p] 27) = W3 at *
            clear hW
            have s1 : (ts.length : Int) - 1 ≤ (vc : Int) := by omega
            have s2 : (ts.length : Int) - 1 ≤ (c2 : Int) := by omega
            have s3 : ts.length - 1 ≤ vc := by omega
            have s4 : ts.length - 1 ≤ c2 := by omega
            go_quiet ((go_at_call 20; exact Calls.quiet_of (HSAME.out _)))
            go_wp2_with fail
            go_ret
            exact ⟨rfl, below_drewN HB3.out nq⟩
          · dsimp only at hbe
            rw [if_neg hc0] at hbe
            have hbn := bad_nil (l := bl x) (by rw [hr.out]; exact hc0)
            rw [hr.out] at hbn
            dsimp only at hbn
            subst hbn
            have h2 : Hid (lexAll (bl (x ++ ⟨#[10, 35]⟩ ++ q)) = ⟨c, p, []⟩) := Lib.hid (by rw [bl_app, bl_app, List.append_assoc]; exact hbe)
            have ht : ((c : Int) == 0) = false := by simp; omega
            have ht2 : ((c : Int) != 0) = true := by simp; omega
            clear hbe hc0 hrm
            go_wp2_with fail
            refine (all_gives _ (by omega) hr.out).mono ?_
            rintro e w2 ⟨v1, rfl, hb2, ho2⟩
            have hR1 := (Row.of ho2).next ((Below.refl _ _).alloc (Nat.le_refl _) (.cells #[.int .i64 c, .int .i64 p] 27))
            have HR1 := Lib.hid hR1
            have HB2 := Lib.hid ((HB1.out.trans (hb2.mono HB1.out.size)).alloc (HB1.out.trans (hb2.mono HB1.out.size)).size (.cells #[.int .i64 c, .int .i64 p] 27))
            obtain ⟨va, vc, rfl⟩ := ownsForm ho2
            clear hb2 ho2 hR1
            have hWc0 : (w2.alloc (.cells #[.int .i64 c, .int .i64 p] 27)).cell? ⟨w2.heap.size, 0, none⟩ = some (.int .i64 c) := by simp [go_sem]
            have hWc1 : (w2.alloc (.cells #[.int .i64 c, .int .i64 p] 27)).cell? ⟨w2.heap.size, 1, none⟩ = some (.int .i64 p) := by simp [go_sem]
            have hWss : w2.heap.size < (w2.alloc (.cells #[.int .i64 c, .int .i64 p] 27)).heap.size := by simp
            go_wp2_with fail
            generalize w2.alloc (.cells #[.int .i64 c, .int .i64 p] 27) = W2 at *
            refine (all_gives _ HSZ.out h2.out).mono ?_
            rintro e w3 ⟨v2, rfl, hb3, ho3⟩
            have a0 : w3.cell? ⟨w2.heap.size, 0, none⟩ = some (.int .i64 c) := (hb3.cell hWss).trans hWc0
            have a1 : w3.cell? ⟨w2.heap.size, 1, none⟩ = some (.int .i64 p) := (hb3.cell hWss).trans hWc1
            have hsz3 : w2.heap.size < w3.heap.size := by have := hb3.size; omega
            obtain ⟨ua, uc, rfl⟩ := ownsForm ho3
            have HB3 := Lib.hid (HB2.out.trans (hb3.mono HB2.out.size))
            have hu2 : ([] : List Tok).length = 0 := rfl
            rw [hu2]
            clear hb3 ho3 hWc0 hWc1 hu2
            go_wp2_with fail
            go_ret
            exact ⟨rfl, HB3.out.alloc HB3.out.size _⟩
end Go.Proofs.Ytbaffdehhcfffaa.Lx
