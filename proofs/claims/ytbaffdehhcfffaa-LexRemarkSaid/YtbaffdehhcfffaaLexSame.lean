/- What the Go functions Cut, same of the statements on lex compute; a row of tokens in memory. Conditions: texts of at most 2^63 - 1 bytes; same: the second tokens are the first ones, so much farther on. -/
import Derived.Test.YtbaffdehhcfffaaLexMem
import Derived.Deep.QuietTactic
import Derived.BigQuiet
import Derived.WalkSmall
namespace Go.Proofs.Ytbaffdehhcfffaa.Lx
open Go.RowKit
/-- A slice value whose elements are these tokens. -/
def Row (w : World) (v : Value) (ts : List Tok) : Prop :=
  ∃ a c, v = .slice a ts.length c ∧ ts.length ≤ c ∧ (ts ≠ [] → ∃ g, a = some ⟨g, 0, none⟩ ∧ ∀ j u, (rowOf ts)[j]? = some u → w.cell? ⟨g, j, none⟩ = some u)
theorem Row.of {w : World} {B : Nat} {v : Value} {ts : List Tok} (h : w.ownsRow B 33 4 v ts.length (rowOf ts)) : Row w v ts := by
  rcases h.2 with ⟨hv, hn⟩ | ⟨g, cap, cur, hv, h1, h2, h3, h4, h5, h6⟩
  · subst hv
    refine ⟨none, 0, by rw [hn], by omega, fun he => ?_⟩
    exact absurd (List.eq_nil_of_length_eq_zero hn) he
  · refine ⟨_, cap, hv, h3, fun _ => ⟨g, rfl, fun j u hj => ?_⟩⟩
    have := h.cells (g := g) (by rw [hv]; rfl) j u hj
    rw [Addr.add_lit, Nat.zero_add] at this
    exact this
theorem cell_lt {w : World} {g j : Nat} {u : Value} (h : w.cell? ⟨g, j, none⟩ = some u) : g < w.heap.size := by
  apply Decidable.byContradiction
  intro hn
  have e : w.heap[g]? = none := Array.getElem?_eq_none (by omega)
  simp [World.cell?, e] at h
theorem Row.next {w w' : World} {v : Value} {ts : List Tok} (h : Row w v ts) (hb : Below w.heap.size w w') : Row w' v ts := by
  obtain ⟨a, c, hv, hc, h1⟩ := h
  refine ⟨a, c, hv, hc, fun he => ?_⟩
  obtain ⟨g, ha, h2⟩ := h1 he
  exact ⟨g, ha, fun j u hj => (hb.cell (p := ⟨g, j, none⟩) (cell_lt (h2 j u hj))).trans (h2 j u hj)⟩
theorem rowOf_take (ts : List Tok) (k : Nat) : rowOf (ts.take k) = (rowOf ts).take (k * 4) := by
  induction ts generalizing k with
  | nil => simp [rowOf]
  | cons t r ih =>
    cases k with
    | zero => simp [rowOf]
    | succ k =>
      have h := ih k
      simp only [rowOf, List.take_succ_cons, List.flatMap_cons] at h ⊢
      rw [h, show (k + 1) * 4 = (k * 4) + 4 from by omega]
      simp [tokCells]
theorem rowOf_get (ts : List Tok) (i : Nat) (h : i < ts.length) : (rowOf ts)[i * 4]? = some (.int .i64 ts[i].kind) ∧ (rowOf ts)[i * 4 + 1]? = some (.string ⟨ts[i].text.toArray⟩) ∧ (rowOf ts)[i * 4 + 2]? = some (.int .i64 ts[i].n) ∧ (rowOf ts)[i * 4 + 3]? = some (.int .i64 ts[i].pos) := by
  induction ts generalizing i with
  | nil => cases h
  | cons t r ih =>
    cases i with
    | zero => simp [rowOf, tokCells]
    | succ i =>
      have := ih i (by simpa using h)
      simp only [rowOf, List.flatMap_cons, List.getElem_cons_succ] at this ⊢
      rw [show (i + 1) * 4 = i * 4 + 4 from by omega]
      simpa [tokCells] using this
theorem Row.cells {w : World} {v : Value} {ts : List Tok} (h : Row w v ts) (he : ts ≠ []) : ∃ g c, v = .slice (some ⟨g, 0, none⟩) ts.length c ∧ ts.length ≤ c ∧ ∀ i (hi : i < ts.length), w.cell? ⟨g, i * 4, none⟩ = some (.int .i64 ts[i].kind) ∧ w.cell? ⟨g, i * 4 + 1, none⟩ = some (.string ⟨ts[i].text.toArray⟩) ∧ w.cell? ⟨g, i * 4 + 2, none⟩ = some (.int .i64 ts[i].n) ∧ w.cell? ⟨g, i * 4 + 3, none⟩ = some (.int .i64 ts[i].pos) := by
  obtain ⟨a, c, hv, hc, h1⟩ := h
  obtain ⟨g, rfl, h2⟩ := h1 he
  refine ⟨g, c, hv, hc, fun i hi => ?_⟩
  have := rowOf_get ts i hi
  exact ⟨h2 _ _ this.1, h2 _ _ this.2.1, h2 _ _ this.2.2.1, h2 _ _ this.2.2.2⟩
theorem Row.take {w : World} {g n c : Nat} {ts : List Tok} (h : Row w (.slice (some ⟨g, 0, none⟩) n c) ts) (k : Nat) (hk : k ≤ ts.length) : Row w (.slice (some ⟨g, 0, none⟩) k c) (ts.take k) := by
  obtain ⟨a, c', hv, hc, h1⟩ := h
  simp only [Value.slice.injEq] at hv
  obtain ⟨rfl, rfl, rfl⟩ := hv
  refine ⟨_, c, by rw [List.length_take, Nat.min_eq_left hk], by rw [List.length_take]; omega, fun he => ?_⟩
  have hne : ts ≠ [] := by intro h; rw [h] at he; simp at he
  obtain ⟨g', hg, h2⟩ := h1 hne
  refine ⟨g', hg, fun j u hj => h2 j u ?_⟩
  rw [rowOf_take, List.getElem?_take] at hj
  split at hj
  · exact hj
  · cases hj
def shift (on : Nat) (ts : List Tok) : List Tok := ts.map fun t => ⟨t.kind, t.text, t.n, t.pos + on⟩
theorem shift_zero (ts : List Tok) : shift 0 ts = ts := by simp [shift]
theorem cut_any (s : ByteArray) (w : World) (hs : s.size ≤ 9223372036854775807) : Calls Try.prog 17 #[.string s] w fun e w' => e = .returned (.string (s.extract 0 (min s.size 100100))) ∧ w = w' := by
  by_cases h : s.size ≤ 100100
  · have h' : (s.size : Int) ≤ 100100 := by omega
    rw [Nat.min_eq_left h, ByteArray.extract_zero_size]
    go_enter Try.func17, Try.ntmps17
    go_wp2
    go_ret
    exact ⟨rfl, rfl⟩
  · have h' : ¬ (s.size : Int) ≤ 100100 := by omega
    rw [Nat.min_eq_right (by omega)]
    go_enter Try.func17, Try.ntmps17
    go_wp2
    go_ret
    exact ⟨rfl, rfl⟩
set_option maxHeartbeats 1000000 in
set_option maxRecDepth 100000 in
theorem same_any (a : List Tok) (on : Nat) (v1 v2 : Value) (w : World) (h1 : Row w v1 a) (h2 : Row w v2 (shift on a)) (hl : a.length ≤ 100000) (hp : ∀ t ∈ a, t.pos ≤ 1000000) :
    Calls Try.prog 20 #[v1, v2, .int .i64 on] w fun e w' => e = .returned (.bool true) ∧ ∃ n, w' = w.drewN n := by
  by_cases he : a = []
  · subst he
    obtain ⟨a1, c1, rfl, -, -⟩ := h1
    obtain ⟨a2, c2, rfl, -, -⟩ := h2
    have e1 : (shift on []).length = 0 := rfl
    have e2 : ([] : List Tok).length = 0 := rfl
    rw [e1, e2]
    clear hp hl e1 e2
    go_enter Try.func20, Try.ntmps20
    go_wp2_with fail
    go_loop [15] (fun i => i = .int .i64 0) (fun _ => 0)
    case atStart => rfl
    case round =>
      subst hrel
      go_wp2
      go_ret
      exact ⟨rfl, 0, rfl⟩
  · obtain ⟨g1, c1, rfl, hc1, k1⟩ := h1.cells he
    obtain ⟨g2, c2, rfl, hc2, k2⟩ := h2.cells (by simpa [shift] using he)
    have hsl : (shift on a).length = a.length := by simp [shift]
    have K1 := Lib.hid k1
    have K2 : Hid (∀ i (hi : i < a.length), w.cell? ⟨g2, i * 4, none⟩ = some (.int .i64 a[i].kind) ∧ w.cell? ⟨g2, i * 4 + 1, none⟩ = some (.string ⟨a[i].text.toArray⟩) ∧ w.cell? ⟨g2, i * 4 + 2, none⟩ = some (.int .i64 a[i].n) ∧ w.cell? ⟨g2, i * 4 + 3, none⟩ = some (.int .i64 ((a[i].pos + on : Nat) : Int))) :=
      Lib.hid fun i hi => by simpa [shift] using k2 i (by rw [hsl]; exact hi)
    rw [hsl]
    clear k1 k2 h1 h2 hc1 hc2 hsl
    go_enter Try.func20, Try.ntmps20
    go_wp2_with fail
    go_loopw [15] (fun i wr => ∃ k n : Nat, k ≤ a.length ∧ i = .int .i64 k ∧ wr = w.drewN n) (fun i _ => (a.length - intOf i).toNat)
    case atStart => exact ⟨0, 0, by omega, rfl, rfl⟩
    case round =>
      obtain ⟨k, n, hk, rfl, rfl⟩ := hrel
      by_cases hlt : k < a.length
      · have hlt' : (k : Int) < (a.length : Int) := by omega
        have h0 : (0 : Int) ≤ (k : Int) := by omega
        obtain ⟨q0, q1, q2, q3⟩ := K1.out k hlt
        obtain ⟨r0, r1, r2, r3⟩ := K2.out k hlt
        have hpos := hp _ (List.getElem_mem hlt)
        generalize a[k].kind = xk at q0 r0
        generalize a[k].text = xt at q1 r1
        generalize a[k].n = xn at q2 r2
        generalize a[k].pos = xp at q3 r3 hpos
        have hbe : ((xp : Int) != ((xp + on : Nat) : Int) - (on : Int)) = false := by simp
        go_wp2_with fail
        go_quiet (fail)
        go_wp2
        go_roundw
        case rel => exact ⟨k + 1, n + nq, by omega, by go_num, rfl⟩
        case measure => simp [intOf]; omega
      · have hlt' : ¬ (k : Int) < (a.length : Int) := by omega
        go_wp2
        go_ret
        exact ⟨rfl, n, rfl⟩
end Go.Proofs.Ytbaffdehhcfffaa.Lx
