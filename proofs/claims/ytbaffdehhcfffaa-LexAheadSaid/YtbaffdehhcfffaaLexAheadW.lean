/- The law LexAhead, walked: it returns true. Conditions: the text has at most 2^63 - 1 bytes. -/
import Derived.Test.YtbaffdehhcfffaaMod
namespace Go.Proofs.Ytbaffdehhcfffaa.Lx
open Go.RowKit
/-- The blanks, in the order of the law's list. -/
def aheadOf : Int → ByteArray := fun r => if r = 0 then ⟨#[32]⟩ else if r = 1 then ⟨#[10]⟩ else if r = 2 then ⟨#[9, 13]⟩ else if r = 3 then ⟨#[32, 10, 10]⟩ else ⟨#[35, 10, 32]⟩
theorem i64_wf {n : Int} (h : (Lit.int .i64 n).wf = true) : -9223372036854775808 ≤ n ∧ n ≤ 9223372036854775807 := by
  simp only [Lit.wf, Bool.and_eq_true, decide_eq_true_eq] at h
  exact h
theorem shift_len (on : Nat) (ts : List Tok) : (shift on ts).length = ts.length := by simp [shift]
theorem ownsForm' {w : World} {v : Value} {ts : List Tok} (h : Row w v ts) : ∃ a c, v = .slice a ts.length c := by
  obtain ⟨a, c, hv, _⟩ := h
  exact ⟨a, c, hv⟩
theorem same_on {a : List Tok} {v1 v2 : Value} (w : World) {on : Nat} {k : Int} (hk : k = on) (h1 : Row w v1 a) (h2 : Row w v2 (shift on a)) (hl : a.length ≤ 100000) (hp : ∀ t ∈ a, t.pos ≤ 1000000) :
    Calls Try.prog 20 #[v1, v2, .int .i64 k] w fun e w' => e = .returned (.bool true) ∧ ∃ n, w' = w.drewN n := by
  subst hk
  exact same_any a on v1 v2 w h1 h2 hl hp
theorem bl_app (a b : ByteArray) : bl (a ++ b) = bl a ++ bl b := by unfold bl; simp
theorem ahead_size {b x : ByteArray} (hb : b.size ≤ 3) (hx : x.size ≤ 99996) : (b ++ x).size ≤ 9223372036854775807 := by rw [ByteArray.size_append]; omega
theorem ahead_all {b x : ByteArray} (hb : b = ⟨#[32]⟩ ∨ b = ⟨#[10]⟩ ∨ b = ⟨#[9, 13]⟩ ∨ b = ⟨#[32, 10, 10]⟩ ∨ b = ⟨#[35, 10, 32]⟩) (hx : x.size ≤ 99996) {c p : Nat} {ts : List Tok} (hr : lexAll (bl x) = ⟨c, p, ts⟩) :
    lexAll (bl (b ++ x)) = ⟨c, if c = 0 then p else p + b.size, shift b.size ts⟩ := by
  rw [bl_app, all_ahead (b := bl b) ?_ (by rw [bl_len]; exact hx), hr, bl_len]
  · rfl
  · rcases hb with rfl | rfl | rfl | rfl | rfl <;> decide
set_option maxHeartbeats 4000000 in
set_option maxRecDepth 100000 in
theorem law_ahead (s : ByteArray) (hs : s.size ≤ maxLen) (n : Int) (hn : (Lit.int .i64 n).wf = true) (w : World) :
    Calls Try.prog 8 #[.string s, .int .i64 n] w fun e w' => e = .returned (.bool true) ∧ Below w.heap.size w w' := by
  obtain ⟨hn3, hn4⟩ := i64_wf hn
  clear hn
  unfold maxLen at hs
  have hx := cut_size s
  obtain ⟨x, hxe⟩ : ∃ x, Hid (s.extract 0 (min s.size 100100) = x) := ⟨_, Lib.hid rfl⟩
  rw [hxe.out] at hx
  have HC := Lib.hid (hxe.out ▸ fun w => cut_any s w hs)
  obtain ⟨c, p, ts, hr⟩ : ∃ c p ts, Hid (lexAll (bl x) = ⟨c, p, ts⟩) := ⟨_, _, _, Lib.hid rfl⟩
  by_cases hbig : 99996 < x.size
  · have hbig' : (99996 : Int) < (x.size : Int) := by omega
    clear hr
    go_enter Try.func8, Try.ntmps8
    go_wp2_with fail
    refine (lexed_any _).mono ?_
    rintro e w1 ⟨rfl, hb1⟩
    have HB1 := Lib.hid hb1
    clear hb1
    go_wp2_with fail
    refine (HC.out _).mono ?_
    rintro e w' ⟨rfl, rfl⟩
    go_wp2_with fail
    go_ret
    exact ⟨rfl, HB1.out⟩
  · have hbig' : ¬ (99996 : Int) < (x.size : Int) := by omega
    have hrm : ts.length ≤ 100000 := by have := all_room (bl x); rw [hr.out] at this; dsimp only at this; omega
    have hps : ∀ t ∈ ts, t.pos ≤ 1000000 := fun t h => by have := all_pos (bl x) t (by rw [hr.out]; exact h); omega
    have HP := Lib.hid hps
    clear hps
    have h50 := Int.emod_nonneg n (b := 5) (by omega)
    have h51 := Int.emod_lt_of_pos n (b := 5) (by omega)
    obtain ⟨r, hrr⟩ : ∃ r, Hid (n % 5 = r) := ⟨_, Lib.hid rfl⟩
    rw [hrr.out] at h50 h51
    have h5 : r = 0 ∨ r = 1 ∨ r = 2 ∨ r = 3 ∨ r = 4 := by omega
    clear h50 h51
    rcases h5 with rfl | rfl | rfl | rfl | rfl
    · have hall := ahead_all (b := (⟨#[32]⟩ : ByteArray)) (x := x) (by simp) (by omega) hr.out
      by_cases hc0 : c = 0
      · subst hc0
        rw [if_pos rfl] at hall
        have HA := Lib.hid hall
        clear hall
        go_enter Try.func8, Try.ntmps8
        go_wp2_with fail
        refine (lexed_any _).mono ?_
        rintro e w1 ⟨rfl, hb1⟩
        have HB1 := Lib.hid hb1
        clear hb1
        go_wp2_with fail
        refine (HC.out _).mono ?_
        rintro e w' ⟨rfl, rfl⟩
        go_wp2_with fail
        refine (mod_any n 5 0 _ hn3 hn4 (by omega) (by omega) hrr.out).mono ?_
        rintro e w' ⟨rfl, rfl⟩
        go_wp2_with fail
        refine (all_gives _ (by omega) hr.out).mono ?_
        rintro e w2 ⟨v1, rfl, hb2, ho2⟩
        have hR1 := Row.of ho2
        have HB2 := Lib.hid ((HB1.out.alloc HB1.out.size _).trans (hb2.mono (by have := HB1.out.size; simp; omega)))
        clear hb2 ho2
        go_wp2_with fail
        refine (all_gives _ (ahead_size (by decide) (by omega)) HA.out).mono ?_
        rintro e w3 ⟨v2, rfl, hb3, ho3⟩
        have hR2 := Row.of ho3
        have a0 : w3.cell? ⟨w2.heap.size, 0, none⟩ = some (.int .i64 0) := (hb3.cell (by simp)).trans (by simp [go_sem])
        have a1 : w3.cell? ⟨w2.heap.size, 1, none⟩ = some (.int .i64 p) := (hb3.cell (by simp)).trans (by simp [go_sem])
        have hsz3 : w2.heap.size < w3.heap.size := by have := hb3.size; simp at this; omega
        have HR1 := Lib.hid ((hR1.next ((Below.refl _ _).alloc (Nat.le_refl _) (.cells #[.int .i64 0, .int .i64 p] 27))).next hb3)
        have HR2 := Lib.hid hR2
        have HB3 := Lib.hid ((HB2.out.alloc HB2.out.size (.cells #[.int .i64 0, .int .i64 p] 27)).trans (hb3.mono (by have := HB2.out.size; simp; omega)))
        clear hb3 ho3 hR1 hR2
        obtain ⟨va, vc, rfl⟩ := ownsForm' HR1.out
        obtain ⟨ua, uc, rfl⟩ := ownsForm' HR2.out
        rw [shift_len] at HR2 ⊢
        go_wp2_with fail
        refine (same_on _ (on := 1) rfl (HR1.out.next ((Below.refl _ _).alloc (Nat.le_refl _) _)) (HR2.out.next ((Below.refl _ _).alloc (Nat.le_refl _) _)) hrm HP.out).mono ?_
        rintro e w5 ⟨rfl, n5, rfl⟩
        go_wp2_with fail
        go_ret
        exact ⟨rfl, below_drewN (HB3.out.alloc HB3.out.size _) n5⟩
      · rw [if_neg hc0] at hall
        have hbn := bad_nil (l := bl x) (by rw [hr.out]; exact hc0)
        rw [hr.out] at hbn
        dsimp only at hbn
        subst hbn
        have HA : Hid (lexAll (bl ((⟨#[32]⟩ : ByteArray) ++ x)) = ⟨c, p + 1, []⟩) := Lib.hid hall
        have hpb := (fault_all hr.out hc0 (by rw [bl_len]; omega)).1
        rw [bl_len] at hpb
        have ht : ((c : Int) == 0) = false := by simp; omega
        have ht2 : ((c : Int) != 0) = true := by simp; omega
        clear hall hc0 hrm
        go_enter Try.func8, Try.ntmps8
        go_wp2_with fail
        refine (lexed_any _).mono ?_
        rintro e w1 ⟨rfl, hb1⟩
        have HB1 := Lib.hid hb1
        clear hb1
        go_wp2_with fail
        refine (HC.out _).mono ?_
        rintro e w' ⟨rfl, rfl⟩
        go_wp2_with fail
        refine (mod_any n 5 0 _ hn3 hn4 (by omega) (by omega) hrr.out).mono ?_
        rintro e w' ⟨rfl, rfl⟩
        go_wp2_with fail
        refine (all_gives _ (by omega) hr.out).mono ?_
        rintro e w2 ⟨v1, rfl, hb2, ho2⟩
        have hR1 := Row.of ho2
        have HB2 := Lib.hid ((HB1.out.alloc HB1.out.size _).trans (hb2.mono (by have := HB1.out.size; simp; omega)))
        clear hb2 ho2
        go_wp2_with fail
        refine (all_gives _ (ahead_size (by decide) (by omega)) HA.out).mono ?_
        rintro e w3 ⟨v2, rfl, hb3, ho3⟩
        have hR2 := Row.of ho3
        have a0 : w3.cell? ⟨w2.heap.size, 0, none⟩ = some (.int .i64 c) := (hb3.cell (by simp)).trans (by simp [go_sem])
        have a1 : w3.cell? ⟨w2.heap.size, 1, none⟩ = some (.int .i64 p) := (hb3.cell (by simp)).trans (by simp [go_sem])
        have hsz3 : w2.heap.size < w3.heap.size := by have := hb3.size; simp at this; omega
        have HR1 := Lib.hid ((hR1.next ((Below.refl _ _).alloc (Nat.le_refl _) (.cells #[.int .i64 c, .int .i64 p] 27))).next hb3)
        have HR2 := Lib.hid hR2
        have HB3 := Lib.hid ((HB2.out.alloc HB2.out.size (.cells #[.int .i64 c, .int .i64 p] 27)).trans (hb3.mono (by have := HB2.out.size; simp; omega)))
        clear hb3 ho3 hR1 hR2
        obtain ⟨ua, uc, rfl⟩ := ownsForm' HR2.out
        obtain ⟨va, vc, rfl⟩ := ownsForm' HR1.out
        have hu2 : ([] : List Tok).length = 0 := rfl
        rw [hu2]
        have hq : ((p + 1 : Nat) : Int) = (p : Int) + 1 := rfl
        rw [hq]
        clear hu2 hq
        go_wp2_with fail
        go_ret
        exact ⟨rfl, HB3.out.alloc HB3.out.size _⟩
    · have hall := ahead_all (b := (⟨#[10]⟩ : ByteArray)) (x := x) (by simp) (by omega) hr.out
      by_cases hc0 : c = 0
      · subst hc0
        rw [if_pos rfl] at hall
        have HA := Lib.hid hall
        clear hall
        go_enter Try.func8, Try.ntmps8
        go_wp2_with fail
        refine (lexed_any _).mono ?_
        rintro e w1 ⟨rfl, hb1⟩
        have HB1 := Lib.hid hb1
        clear hb1
        go_wp2_with fail
        refine (HC.out _).mono ?_
        rintro e w' ⟨rfl, rfl⟩
        go_wp2_with fail
        refine (mod_any n 5 1 _ hn3 hn4 (by omega) (by omega) hrr.out).mono ?_
        rintro e w' ⟨rfl, rfl⟩
        go_wp2_with fail
        refine (all_gives _ (by omega) hr.out).mono ?_
        rintro e w2 ⟨v1, rfl, hb2, ho2⟩
        have hR1 := Row.of ho2
        have HB2 := Lib.hid ((HB1.out.alloc HB1.out.size _).trans (hb2.mono (by have := HB1.out.size; simp; omega)))
        clear hb2 ho2
        go_wp2_with fail
        refine (all_gives _ (ahead_size (by decide) (by omega)) HA.out).mono ?_
        rintro e w3 ⟨v2, rfl, hb3, ho3⟩
        have hR2 := Row.of ho3
        have a0 : w3.cell? ⟨w2.heap.size, 0, none⟩ = some (.int .i64 0) := (hb3.cell (by simp)).trans (by simp [go_sem])
        have a1 : w3.cell? ⟨w2.heap.size, 1, none⟩ = some (.int .i64 p) := (hb3.cell (by simp)).trans (by simp [go_sem])
        have hsz3 : w2.heap.size < w3.heap.size := by have := hb3.size; simp at this; omega
        have HR1 := Lib.hid ((hR1.next ((Below.refl _ _).alloc (Nat.le_refl _) (.cells #[.int .i64 0, .int .i64 p] 27))).next hb3)
        have HR2 := Lib.hid hR2
        have HB3 := Lib.hid ((HB2.out.alloc HB2.out.size (.cells #[.int .i64 0, .int .i64 p] 27)).trans (hb3.mono (by have := HB2.out.size; simp; omega)))
        clear hb3 ho3 hR1 hR2
        obtain ⟨va, vc, rfl⟩ := ownsForm' HR1.out
        obtain ⟨ua, uc, rfl⟩ := ownsForm' HR2.out
        rw [shift_len] at HR2 ⊢
        go_wp2_with fail
        refine (same_on _ (on := 1) rfl (HR1.out.next ((Below.refl _ _).alloc (Nat.le_refl _) _)) (HR2.out.next ((Below.refl _ _).alloc (Nat.le_refl _) _)) hrm HP.out).mono ?_
        rintro e w5 ⟨rfl, n5, rfl⟩
        go_wp2_with fail
        go_ret
        exact ⟨rfl, below_drewN (HB3.out.alloc HB3.out.size _) n5⟩
      · rw [if_neg hc0] at hall
        have hbn := bad_nil (l := bl x) (by rw [hr.out]; exact hc0)
        rw [hr.out] at hbn
        dsimp only at hbn
        subst hbn
        have HA : Hid (lexAll (bl ((⟨#[10]⟩ : ByteArray) ++ x)) = ⟨c, p + 1, []⟩) := Lib.hid hall
        have hpb := (fault_all hr.out hc0 (by rw [bl_len]; omega)).1
        rw [bl_len] at hpb
        have ht : ((c : Int) == 0) = false := by simp; omega
        have ht2 : ((c : Int) != 0) = true := by simp; omega
        clear hall hc0 hrm
        go_enter Try.func8, Try.ntmps8
        go_wp2_with fail
        refine (lexed_any _).mono ?_
        rintro e w1 ⟨rfl, hb1⟩
        have HB1 := Lib.hid hb1
        clear hb1
        go_wp2_with fail
        refine (HC.out _).mono ?_
        rintro e w' ⟨rfl, rfl⟩
        go_wp2_with fail
        refine (mod_any n 5 1 _ hn3 hn4 (by omega) (by omega) hrr.out).mono ?_
        rintro e w' ⟨rfl, rfl⟩
        go_wp2_with fail
        refine (all_gives _ (by omega) hr.out).mono ?_
        rintro e w2 ⟨v1, rfl, hb2, ho2⟩
        have hR1 := Row.of ho2
        have HB2 := Lib.hid ((HB1.out.alloc HB1.out.size _).trans (hb2.mono (by have := HB1.out.size; simp; omega)))
        clear hb2 ho2
        go_wp2_with fail
        refine (all_gives _ (ahead_size (by decide) (by omega)) HA.out).mono ?_
        rintro e w3 ⟨v2, rfl, hb3, ho3⟩
        have hR2 := Row.of ho3
        have a0 : w3.cell? ⟨w2.heap.size, 0, none⟩ = some (.int .i64 c) := (hb3.cell (by simp)).trans (by simp [go_sem])
        have a1 : w3.cell? ⟨w2.heap.size, 1, none⟩ = some (.int .i64 p) := (hb3.cell (by simp)).trans (by simp [go_sem])
        have hsz3 : w2.heap.size < w3.heap.size := by have := hb3.size; simp at this; omega
        have HR1 := Lib.hid ((hR1.next ((Below.refl _ _).alloc (Nat.le_refl _) (.cells #[.int .i64 c, .int .i64 p] 27))).next hb3)
        have HR2 := Lib.hid hR2
        have HB3 := Lib.hid ((HB2.out.alloc HB2.out.size (.cells #[.int .i64 c, .int .i64 p] 27)).trans (hb3.mono (by have := HB2.out.size; simp; omega)))
        clear hb3 ho3 hR1 hR2
        obtain ⟨ua, uc, rfl⟩ := ownsForm' HR2.out
        obtain ⟨va, vc, rfl⟩ := ownsForm' HR1.out
        have hu2 : ([] : List Tok).length = 0 := rfl
        rw [hu2]
        have hq : ((p + 1 : Nat) : Int) = (p : Int) + 1 := rfl
        rw [hq]
        clear hu2 hq
        go_wp2_with fail
        go_ret
        exact ⟨rfl, HB3.out.alloc HB3.out.size _⟩
    · have hall := ahead_all (b := (⟨#[9, 13]⟩ : ByteArray)) (x := x) (by simp) (by omega) hr.out
      by_cases hc0 : c = 0
      · subst hc0
        rw [if_pos rfl] at hall
        have HA := Lib.hid hall
        clear hall
        go_enter Try.func8, Try.ntmps8
        go_wp2_with fail
        refine (lexed_any _).mono ?_
        rintro e w1 ⟨rfl, hb1⟩
        have HB1 := Lib.hid hb1
        clear hb1
        go_wp2_with fail
        refine (HC.out _).mono ?_
        rintro e w' ⟨rfl, rfl⟩
        go_wp2_with fail
        refine (mod_any n 5 2 _ hn3 hn4 (by omega) (by omega) hrr.out).mono ?_
        rintro e w' ⟨rfl, rfl⟩
        go_wp2_with fail
        refine (all_gives _ (by omega) hr.out).mono ?_
        rintro e w2 ⟨v1, rfl, hb2, ho2⟩
        have hR1 := Row.of ho2
        have HB2 := Lib.hid ((HB1.out.alloc HB1.out.size _).trans (hb2.mono (by have := HB1.out.size; simp; omega)))
        clear hb2 ho2
        go_wp2_with fail
        refine (all_gives _ (ahead_size (by decide) (by omega)) HA.out).mono ?_
        rintro e w3 ⟨v2, rfl, hb3, ho3⟩
        have hR2 := Row.of ho3
        have a0 : w3.cell? ⟨w2.heap.size, 0, none⟩ = some (.int .i64 0) := (hb3.cell (by simp)).trans (by simp [go_sem])
        have a1 : w3.cell? ⟨w2.heap.size, 1, none⟩ = some (.int .i64 p) := (hb3.cell (by simp)).trans (by simp [go_sem])
        have hsz3 : w2.heap.size < w3.heap.size := by have := hb3.size; simp at this; omega
        have HR1 := Lib.hid ((hR1.next ((Below.refl _ _).alloc (Nat.le_refl _) (.cells #[.int .i64 0, .int .i64 p] 27))).next hb3)
        have HR2 := Lib.hid hR2
        have HB3 := Lib.hid ((HB2.out.alloc HB2.out.size (.cells #[.int .i64 0, .int .i64 p] 27)).trans (hb3.mono (by have := HB2.out.size; simp; omega)))
        clear hb3 ho3 hR1 hR2
        obtain ⟨va, vc, rfl⟩ := ownsForm' HR1.out
        obtain ⟨ua, uc, rfl⟩ := ownsForm' HR2.out
        rw [shift_len] at HR2 ⊢
        go_wp2_with fail
        refine (same_on _ (on := 2) rfl (HR1.out.next ((Below.refl _ _).alloc (Nat.le_refl _) _)) (HR2.out.next ((Below.refl _ _).alloc (Nat.le_refl _) _)) hrm HP.out).mono ?_
        rintro e w5 ⟨rfl, n5, rfl⟩
        go_wp2_with fail
        go_ret
        exact ⟨rfl, below_drewN (HB3.out.alloc HB3.out.size _) n5⟩
      · rw [if_neg hc0] at hall
        have hbn := bad_nil (l := bl x) (by rw [hr.out]; exact hc0)
        rw [hr.out] at hbn
        dsimp only at hbn
        subst hbn
        have HA : Hid (lexAll (bl ((⟨#[9, 13]⟩ : ByteArray) ++ x)) = ⟨c, p + 2, []⟩) := Lib.hid hall
        have hpb := (fault_all hr.out hc0 (by rw [bl_len]; omega)).1
        rw [bl_len] at hpb
        have ht : ((c : Int) == 0) = false := by simp; omega
        have ht2 : ((c : Int) != 0) = true := by simp; omega
        clear hall hc0 hrm
        go_enter Try.func8, Try.ntmps8
        go_wp2_with fail
        refine (lexed_any _).mono ?_
        rintro e w1 ⟨rfl, hb1⟩
        have HB1 := Lib.hid hb1
        clear hb1
        go_wp2_with fail
        refine (HC.out _).mono ?_
        rintro e w' ⟨rfl, rfl⟩
        go_wp2_with fail
        refine (mod_any n 5 2 _ hn3 hn4 (by omega) (by omega) hrr.out).mono ?_
        rintro e w' ⟨rfl, rfl⟩
        go_wp2_with fail
        refine (all_gives _ (by omega) hr.out).mono ?_
        rintro e w2 ⟨v1, rfl, hb2, ho2⟩
        have hR1 := Row.of ho2
        have HB2 := Lib.hid ((HB1.out.alloc HB1.out.size _).trans (hb2.mono (by have := HB1.out.size; simp; omega)))
        clear hb2 ho2
        go_wp2_with fail
        refine (all_gives _ (ahead_size (by decide) (by omega)) HA.out).mono ?_
        rintro e w3 ⟨v2, rfl, hb3, ho3⟩
        have hR2 := Row.of ho3
        have a0 : w3.cell? ⟨w2.heap.size, 0, none⟩ = some (.int .i64 c) := (hb3.cell (by simp)).trans (by simp [go_sem])
        have a1 : w3.cell? ⟨w2.heap.size, 1, none⟩ = some (.int .i64 p) := (hb3.cell (by simp)).trans (by simp [go_sem])
        have hsz3 : w2.heap.size < w3.heap.size := by have := hb3.size; simp at this; omega
        have HR1 := Lib.hid ((hR1.next ((Below.refl _ _).alloc (Nat.le_refl _) (.cells #[.int .i64 c, .int .i64 p] 27))).next hb3)
        have HR2 := Lib.hid hR2
        have HB3 := Lib.hid ((HB2.out.alloc HB2.out.size (.cells #[.int .i64 c, .int .i64 p] 27)).trans (hb3.mono (by have := HB2.out.size; simp; omega)))
        clear hb3 ho3 hR1 hR2
        obtain ⟨ua, uc, rfl⟩ := ownsForm' HR2.out
        obtain ⟨va, vc, rfl⟩ := ownsForm' HR1.out
        have hu2 : ([] : List Tok).length = 0 := rfl
        rw [hu2]
        have hq : ((p + 2 : Nat) : Int) = (p : Int) + 2 := rfl
        rw [hq]
        clear hu2 hq
        go_wp2_with fail
        go_ret
        exact ⟨rfl, HB3.out.alloc HB3.out.size _⟩
    · have hall := ahead_all (b := (⟨#[32, 10, 10]⟩ : ByteArray)) (x := x) (by simp) (by omega) hr.out
      by_cases hc0 : c = 0
      · subst hc0
        rw [if_pos rfl] at hall
        have HA := Lib.hid hall
        clear hall
        go_enter Try.func8, Try.ntmps8
        go_wp2_with fail
        refine (lexed_any _).mono ?_
        rintro e w1 ⟨rfl, hb1⟩
        have HB1 := Lib.hid hb1
        clear hb1
        go_wp2_with fail
        refine (HC.out _).mono ?_
        rintro e w' ⟨rfl, rfl⟩
        go_wp2_with fail
        refine (mod_any n 5 3 _ hn3 hn4 (by omega) (by omega) hrr.out).mono ?_
        rintro e w' ⟨rfl, rfl⟩
        go_wp2_with fail
        refine (all_gives _ (by omega) hr.out).mono ?_
        rintro e w2 ⟨v1, rfl, hb2, ho2⟩
        have hR1 := Row.of ho2
        have HB2 := Lib.hid ((HB1.out.alloc HB1.out.size _).trans (hb2.mono (by have := HB1.out.size; simp; omega)))
        clear hb2 ho2
        go_wp2_with fail
        refine (all_gives _ (ahead_size (by decide) (by omega)) HA.out).mono ?_
        rintro e w3 ⟨v2, rfl, hb3, ho3⟩
        have hR2 := Row.of ho3
        have a0 : w3.cell? ⟨w2.heap.size, 0, none⟩ = some (.int .i64 0) := (hb3.cell (by simp)).trans (by simp [go_sem])
        have a1 : w3.cell? ⟨w2.heap.size, 1, none⟩ = some (.int .i64 p) := (hb3.cell (by simp)).trans (by simp [go_sem])
        have hsz3 : w2.heap.size < w3.heap.size := by have := hb3.size; simp at this; omega
        have HR1 := Lib.hid ((hR1.next ((Below.refl _ _).alloc (Nat.le_refl _) (.cells #[.int .i64 0, .int .i64 p] 27))).next hb3)
        have HR2 := Lib.hid hR2
        have HB3 := Lib.hid ((HB2.out.alloc HB2.out.size (.cells #[.int .i64 0, .int .i64 p] 27)).trans (hb3.mono (by have := HB2.out.size; simp; omega)))
        clear hb3 ho3 hR1 hR2
        obtain ⟨va, vc, rfl⟩ := ownsForm' HR1.out
        obtain ⟨ua, uc, rfl⟩ := ownsForm' HR2.out
        rw [shift_len] at HR2 ⊢
        go_wp2_with fail
        refine (same_on _ (on := 3) rfl (HR1.out.next ((Below.refl _ _).alloc (Nat.le_refl _) _)) (HR2.out.next ((Below.refl _ _).alloc (Nat.le_refl _) _)) hrm HP.out).mono ?_
        rintro e w5 ⟨rfl, n5, rfl⟩
        go_wp2_with fail
        go_ret
        exact ⟨rfl, below_drewN (HB3.out.alloc HB3.out.size _) n5⟩
      · rw [if_neg hc0] at hall
        have hbn := bad_nil (l := bl x) (by rw [hr.out]; exact hc0)
        rw [hr.out] at hbn
        dsimp only at hbn
        subst hbn
        have HA : Hid (lexAll (bl ((⟨#[32, 10, 10]⟩ : ByteArray) ++ x)) = ⟨c, p + 3, []⟩) := Lib.hid hall
        have hpb := (fault_all hr.out hc0 (by rw [bl_len]; omega)).1
        rw [bl_len] at hpb
        have ht : ((c : Int) == 0) = false := by simp; omega
        have ht2 : ((c : Int) != 0) = true := by simp; omega
        clear hall hc0 hrm
        go_enter Try.func8, Try.ntmps8
        go_wp2_with fail
        refine (lexed_any _).mono ?_
        rintro e w1 ⟨rfl, hb1⟩
        have HB1 := Lib.hid hb1
        clear hb1
        go_wp2_with fail
        refine (HC.out _).mono ?_
        rintro e w' ⟨rfl, rfl⟩
        go_wp2_with fail
        refine (mod_any n 5 3 _ hn3 hn4 (by omega) (by omega) hrr.out).mono ?_
        rintro e w' ⟨rfl, rfl⟩
        go_wp2_with fail
        refine (all_gives _ (by omega) hr.out).mono ?_
        rintro e w2 ⟨v1, rfl, hb2, ho2⟩
        have hR1 := Row.of ho2
        have HB2 := Lib.hid ((HB1.out.alloc HB1.out.size _).trans (hb2.mono (by have := HB1.out.size; simp; omega)))
        clear hb2 ho2
        go_wp2_with fail
        refine (all_gives _ (ahead_size (by decide) (by omega)) HA.out).mono ?_
        rintro e w3 ⟨v2, rfl, hb3, ho3⟩
        have hR2 := Row.of ho3
        have a0 : w3.cell? ⟨w2.heap.size, 0, none⟩ = some (.int .i64 c) := (hb3.cell (by simp)).trans (by simp [go_sem])
        have a1 : w3.cell? ⟨w2.heap.size, 1, none⟩ = some (.int .i64 p) := (hb3.cell (by simp)).trans (by simp [go_sem])
        have hsz3 : w2.heap.size < w3.heap.size := by have := hb3.size; simp at this; omega
        have HR1 := Lib.hid ((hR1.next ((Below.refl _ _).alloc (Nat.le_refl _) (.cells #[.int .i64 c, .int .i64 p] 27))).next hb3)
        have HR2 := Lib.hid hR2
        have HB3 := Lib.hid ((HB2.out.alloc HB2.out.size (.cells #[.int .i64 c, .int .i64 p] 27)).trans (hb3.mono (by have := HB2.out.size; simp; omega)))
        clear hb3 ho3 hR1 hR2
        obtain ⟨ua, uc, rfl⟩ := ownsForm' HR2.out
        obtain ⟨va, vc, rfl⟩ := ownsForm' HR1.out
        have hu2 : ([] : List Tok).length = 0 := rfl
        rw [hu2]
        have hq : ((p + 3 : Nat) : Int) = (p : Int) + 3 := rfl
        rw [hq]
        clear hu2 hq
        go_wp2_with fail
        go_ret
        exact ⟨rfl, HB3.out.alloc HB3.out.size _⟩
    · have hall := ahead_all (b := (⟨#[35, 10, 32]⟩ : ByteArray)) (x := x) (by simp) (by omega) hr.out
      by_cases hc0 : c = 0
      · subst hc0
        rw [if_pos rfl] at hall
        have HA := Lib.hid hall
        clear hall
        go_enter Try.func8, Try.ntmps8
        go_wp2_with fail
        refine (lexed_any _).mono ?_
        rintro e w1 ⟨rfl, hb1⟩
        have HB1 := Lib.hid hb1
        clear hb1
        go_wp2_with fail
        refine (HC.out _).mono ?_
        rintro e w' ⟨rfl, rfl⟩
        go_wp2_with fail
        refine (mod_any n 5 4 _ hn3 hn4 (by omega) (by omega) hrr.out).mono ?_
        rintro e w' ⟨rfl, rfl⟩
        go_wp2_with fail
        refine (all_gives _ (by omega) hr.out).mono ?_
        rintro e w2 ⟨v1, rfl, hb2, ho2⟩
        have hR1 := Row.of ho2
        have HB2 := Lib.hid ((HB1.out.alloc HB1.out.size _).trans (hb2.mono (by have := HB1.out.size; simp; omega)))
        clear hb2 ho2
        go_wp2_with fail
        refine (all_gives _ (ahead_size (by decide) (by omega)) HA.out).mono ?_
        rintro e w3 ⟨v2, rfl, hb3, ho3⟩
        have hR2 := Row.of ho3
        have a0 : w3.cell? ⟨w2.heap.size, 0, none⟩ = some (.int .i64 0) := (hb3.cell (by simp)).trans (by simp [go_sem])
        have a1 : w3.cell? ⟨w2.heap.size, 1, none⟩ = some (.int .i64 p) := (hb3.cell (by simp)).trans (by simp [go_sem])
        have hsz3 : w2.heap.size < w3.heap.size := by have := hb3.size; simp at this; omega
        have HR1 := Lib.hid ((hR1.next ((Below.refl _ _).alloc (Nat.le_refl _) (.cells #[.int .i64 0, .int .i64 p] 27))).next hb3)
        have HR2 := Lib.hid hR2
        have HB3 := Lib.hid ((HB2.out.alloc HB2.out.size (.cells #[.int .i64 0, .int .i64 p] 27)).trans (hb3.mono (by have := HB2.out.size; simp; omega)))
        clear hb3 ho3 hR1 hR2
        obtain ⟨va, vc, rfl⟩ := ownsForm' HR1.out
        obtain ⟨ua, uc, rfl⟩ := ownsForm' HR2.out
        rw [shift_len] at HR2 ⊢
        go_wp2_with fail
        refine (same_on _ (on := 3) rfl (HR1.out.next ((Below.refl _ _).alloc (Nat.le_refl _) _)) (HR2.out.next ((Below.refl _ _).alloc (Nat.le_refl _) _)) hrm HP.out).mono ?_
        rintro e w5 ⟨rfl, n5, rfl⟩
        go_wp2_with fail
        go_ret
        exact ⟨rfl, below_drewN (HB3.out.alloc HB3.out.size _) n5⟩
      · rw [if_neg hc0] at hall
        have hbn := bad_nil (l := bl x) (by rw [hr.out]; exact hc0)
        rw [hr.out] at hbn
        dsimp only at hbn
        subst hbn
        have HA : Hid (lexAll (bl ((⟨#[35, 10, 32]⟩ : ByteArray) ++ x)) = ⟨c, p + 3, []⟩) := Lib.hid hall
        have hpb := (fault_all hr.out hc0 (by rw [bl_len]; omega)).1
        rw [bl_len] at hpb
        have ht : ((c : Int) == 0) = false := by simp; omega
        have ht2 : ((c : Int) != 0) = true := by simp; omega
        clear hall hc0 hrm
        go_enter Try.func8, Try.ntmps8
        go_wp2_with fail
        refine (lexed_any _).mono ?_
        rintro e w1 ⟨rfl, hb1⟩
        have HB1 := Lib.hid hb1
        clear hb1
        go_wp2_with fail
        refine (HC.out _).mono ?_
        rintro e w' ⟨rfl, rfl⟩
        go_wp2_with fail
        refine (mod_any n 5 4 _ hn3 hn4 (by omega) (by omega) hrr.out).mono ?_
        rintro e w' ⟨rfl, rfl⟩
        go_wp2_with fail
        refine (all_gives _ (by omega) hr.out).mono ?_
        rintro e w2 ⟨v1, rfl, hb2, ho2⟩
        have hR1 := Row.of ho2
        have HB2 := Lib.hid ((HB1.out.alloc HB1.out.size _).trans (hb2.mono (by have := HB1.out.size; simp; omega)))
        clear hb2 ho2
        go_wp2_with fail
        refine (all_gives _ (ahead_size (by decide) (by omega)) HA.out).mono ?_
        rintro e w3 ⟨v2, rfl, hb3, ho3⟩
        have hR2 := Row.of ho3
        have a0 : w3.cell? ⟨w2.heap.size, 0, none⟩ = some (.int .i64 c) := (hb3.cell (by simp)).trans (by simp [go_sem])
        have a1 : w3.cell? ⟨w2.heap.size, 1, none⟩ = some (.int .i64 p) := (hb3.cell (by simp)).trans (by simp [go_sem])
        have hsz3 : w2.heap.size < w3.heap.size := by have := hb3.size; simp at this; omega
        have HR1 := Lib.hid ((hR1.next ((Below.refl _ _).alloc (Nat.le_refl _) (.cells #[.int .i64 c, .int .i64 p] 27))).next hb3)
        have HR2 := Lib.hid hR2
        have HB3 := Lib.hid ((HB2.out.alloc HB2.out.size (.cells #[.int .i64 c, .int .i64 p] 27)).trans (hb3.mono (by have := HB2.out.size; simp; omega)))
        clear hb3 ho3 hR1 hR2
        obtain ⟨ua, uc, rfl⟩ := ownsForm' HR2.out
        obtain ⟨va, vc, rfl⟩ := ownsForm' HR1.out
        have hu2 : ([] : List Tok).length = 0 := rfl
        rw [hu2]
        have hq : ((p + 3 : Nat) : Int) = (p : Int) + 3 := rfl
        rw [hq]
        clear hu2 hq
        go_wp2_with fail
        go_ret
        exact ⟨rfl, HB3.out.alloc HB3.out.size _⟩
end Go.Proofs.Ytbaffdehhcfffaa.Lx
