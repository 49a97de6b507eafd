/- What is read of arguments: expressions, lists of texts, lists of numbers lie in memory. Conditions: none. -/
import Derived.Test.YtnbclbphggmenaaTrM
import Derived.Deep.Slices
import Derived.Deep.Fields
import Derived.Lib.SmallJoins
import Derived.SliceStrings
import Derived.ChangeSlices
namespace Go.Proofs.Ytnbclbphggmenaa.Tr
open Go.RowKit Go.Proofs.Ytnbclbphggmenaa.Lx Go.Proofs.Ytnbclbphggmenaa.Wd Go.ChangeShapes Go.WideShapes Go.Deep
theorem list_of {α : Type} {Q : Nat → α → Prop} : ∀ n, (∀ i, i < n → ∃ a, Q i a) → ∃ l : List α, l.length = n ∧ ∀ i (h : i < l.length), Q i l[i] := by
  intro n
  induction n with
  | zero => intro _; exact ⟨[], rfl, fun i h => by cases h⟩
  | succ n ih =>
    intro h
    obtain ⟨l, hl, hq⟩ := ih fun i hi => h i (by omega)
    obtain ⟨a, ha⟩ := h n (by omega)
    refine ⟨l ++ [a], by simp [hl], fun i hi => ?_⟩
    rw [List.getElem_append]
    split
    · rename_i h2; exact hq i h2
    · rename_i h2
      have : i = n := by simp at hi; omega
      subst this
      simpa using ha
section
variable {H : Type} {enc : TypeId × Value → H} {w : World} {base : Nat} {spare : Nat → Bool} {held : Bool}
theorem open_sl {α : Type} {size : Nat} {P : Nat → Nat → α → Prop} {t e : TypeId} {fuel : Nat} {cs : List Value} {x : DataW H × List MemPlace} (ht : Try.prog.underlying t = some (.slice e)) (hC : Try.prog.cellsOf e = size) (hp : 0 < size)
    (h : DataW.trod enc Try.prog w base spare held fuel t cs = some x)
    (hel : ∀ (n : Nat) (cs' : List Value) (y : DataW H × List MemPlace), n < fuel → DataW.trod enc Try.prog w base spare held n e cs' = some y → cs'.length = size → ∀ g o, (∀ j, j < size → w.cell? ⟨g, o + j, none⟩ = cs'[j]?) → ∃ a : α, P g o a) :
    ∃ v l, cs = [v] ∧ SlAt size P v l := by
  rcases DataW.trod_slice ht h with ⟨h0, _⟩ | ⟨a, len, cap, elems, rest, n, hn, hcs, _, _, hl, hm, hlen, hi, _⟩
  · exact ⟨_, [], h0, SlAt.nil⟩
  · have hm' : cap ≤ 9223372036854775807 := hm
    by_cases h0 : len = 0
    · subst h0
      exact ⟨_, [], hcs, ⟨some a, cap, rfl, hl, hm', fun hne => absurd rfl hne⟩⟩
    · have each : ∀ i, i < len → ∃ cs' y, w.cells? base (a.add (i * size)) size = some cs' ∧ DataW.trod enc Try.prog w base spare held n e cs' = some y := by
        intro i hil
        have := hi i hil
        rw [hC, List.getElem?_eq_getElem (by omega)] at this
        cases hc : w.cells? base (a.add (i * size)) size with
        | none => rw [hc] at this; cases this
        | some cs' => rw [hc] at this; exact ⟨cs', _, rfl, this⟩
      obtain ⟨g, off, spot⟩ := a
      have hsp : spot = none := by
        obtain ⟨cs', y, hc, _⟩ := each 0 (by omega)
        obtain ⟨_, hcl, hat⟩ := World.cells?_some hc
        have := hat 0 hp
        rw [List.getElem?_eq_getElem (by omega)] at this
        simp only [Nat.zero_mul] at this
        have e0 : ((⟨g, off, spot⟩ : Addr).add 0).add 0 = ⟨g, off, spot⟩ := rfl
        rw [e0] at this
        unfold World.cell? at this
        cases hh : w.heap[g]? with
        | none => rw [hh] at this; cases this
        | some o =>
          rw [hh] at this
          cases o with
          | cells c t f =>
            cases spot with
            | none => rfl
            | some s => simp at this
          | _ => cases this
      subst hsp
      have hex : ∀ i, i < len → ∃ q : α, P g (off + i * size) q := by
        intro i hil
        obtain ⟨cs', y, hc, hy⟩ := each i hil
        obtain ⟨_, hcl, hat⟩ := World.cells?_some hc
        refine hel n cs' y (by omega) hy hcl g (off + i * size) fun j hj => ?_
        rw [← hat j hj, Go.WideShapes.add_plain, Go.WideShapes.add_plain]
      obtain ⟨l, hll, hq⟩ := list_of len hex
      exact ⟨_, l, hcs, ⟨some ⟨g, off, none⟩, cap, by rw [hll], by omega, hm', fun _ => ⟨g, off, rfl, hq⟩⟩⟩
theorem open_strC {fuel : Nat} {cs : List Value} {x : DataW H × List MemPlace} (h : DataW.trod enc Try.prog w base spare held fuel 25 cs = some x) : ∃ v l, cs = [v] ∧ StrC (cw w) v l := by
  refine open_sl Try.underlying25 (by kernel_rfl) (by omega) h fun n cs' y _ hy hcl g o hat => ?_
  obtain ⟨s, hs, _, hm⟩ := DataW.trod_string Try.underlying9 hy
  refine ⟨s, ?_, hm⟩
  have := hat 0 (by omega)
  rw [hs] at this
  exact this
/-- A slice of numbers, by its cells. -/
def IntC (C : Cs) (v : Value) (l : List Int) : Prop := SlAt 1 (fun g o n => C g o (.int .i64 n) ∧ InI n) v l
theorem wf_in {n : Int} (h : (Lit.int .i64 n).wf = true) : InI n := by
  simp only [Lit.wf, Bool.and_eq_true, decide_eq_true_eq] at h
  exact h
theorem open_intC {fuel : Nat} {cs : List Value} {x : DataW H × List MemPlace} (h : DataW.trod enc Try.prog w base spare held fuel 26 cs = some x) : ∃ v l, cs = [v] ∧ IntC (cw w) v l := by
  refine open_sl Try.underlying26 (by kernel_rfl) (by omega) h fun n cs' y _ hy hcl g o hat => ?_
  obtain ⟨s, hs, _, hm⟩ := DataW.trod_int Try.underlying2 hy
  refine ⟨s, ?_, wf_in hm⟩
  have := hat 0 (by omega)
  rw [hs] at this
  exact this
theorem IntC.to {v : Value} {l : List Int} (h : IntC (cw w) v l) : IntsAt w v l := by
  obtain ⟨a, cap, h1, h2, h3, h4⟩ := h
  refine ⟨a, cap, h1, h2, h3, fun hne => ?_⟩
  obtain ⟨g, off, h5, h6⟩ := h4 hne
  exact ⟨g, off, h5, fun i hi => ⟨(h6 i hi).2, by have := (h6 i hi).1; rw [Nat.mul_one] at this; exact this⟩⟩
set_option maxRecDepth 100000 in
theorem open_exC : ∀ (fuel : Nat) (cs : List Value) (x : DataW H × List MemPlace), DataW.trod enc Try.prog w base spare held fuel 24 cs = some x →
    ∃ (e : Ex) (kv : Value), cs = [.int .i64 e.op, .int .i64 e.n, .string e.nm, kv] ∧ OkE e ∧ ExC (cw w) fuel kv e.ks := by
  intro fuel
  induction fuel using Nat.strongRecOn with
  | ind fuel ih =>
    intro cs x h
    obtain ⟨xs, n, hn, _, hl, hlen, hf⟩ := DataW.trod_struct Try.underlying24 h
    subst hn
    rw [show Try.prog.cellsOf 24 = 4 by kernel_rfl] at hl
    have hxs : xs.length = 4 := hlen
    match cs, hl with
    | [v0, v1, v2, v3], _ =>
      have g0 : DataW.trod enc Try.prog w base spare held n 3 (([v0, v1, v2, v3].drop 0).take (Try.prog.cellsOf 3)) = xs[0]? := hf 0 _ rfl
      have g1 : DataW.trod enc Try.prog w base spare held n 2 (([v0, v1, v2, v3].drop 1).take (Try.prog.cellsOf 2)) = xs[1]? := hf 1 _ rfl
      have g2 : DataW.trod enc Try.prog w base spare held n 9 (([v0, v1, v2, v3].drop 2).take (Try.prog.cellsOf 9)) = xs[2]? := hf 2 _ rfl
      have g3 : DataW.trod enc Try.prog w base spare held n 22 (([v0, v1, v2, v3].drop 3).take (Try.prog.cellsOf 22)) = xs[3]? := hf 3 _ rfl
      rw [List.getElem?_eq_getElem (by omega)] at g0 g1 g2 g3
      have k0 : Try.prog.cellsOf 3 = 1 := by kernel_rfl
      have k1 : Try.prog.cellsOf 2 = 1 := by kernel_rfl
      have k2 : Try.prog.cellsOf 9 = 1 := by kernel_rfl
      have k3 : Try.prog.cellsOf 22 = 1 := by kernel_rfl
      simp only [k0, k1, k2, k3, List.drop_zero, List.drop_succ_cons, List.take_succ_cons, List.take_zero] at g0 g1 g2 g3
      obtain ⟨op, h0, _, w0⟩ := DataW.trod_int Try.underlying3 g0
      obtain ⟨m, h1, _, w1⟩ := DataW.trod_int Try.underlying2 g1
      obtain ⟨s, h2, _, w2⟩ := DataW.trod_string Try.underlying9 g2
      obtain ⟨v, l, h3, hsl⟩ := open_sl (size := 4) (P := ExAt (cw w) (ExC (cw w) n)) Try.underlying22 (by kernel_rfl) (by omega) g3 fun n' cs' y hn' hy hcl g o hat => by
        obtain ⟨e, kv, hcs, hok, hk⟩ := ih n' (by omega) cs' y hy
        subst hcs
        exact ⟨e, kv, hat 0 (by omega), hat 1 (by omega), hat 2 (by omega), hat 3 (by omega), hok, hk.le (by omega)⟩
      cases h0; cases h1; cases h2; cases h3
      exact ⟨.mk op m s l, _, rfl, ⟨wf_in w0, wf_in w1, w2⟩, hsl⟩
set_option maxRecDepth 100000 in
/-- An expression that was handed in. -/
theorem open_expr {r : Reach} {b0 : Nat} {v : Value} {dd : DataW H} {p : List MemPlace} (hv : Value.okWide Try.prog w r b0 24 v) (h : DataW.Trod enc Try.prog w base spare held 24 v dd p) :
    ∃ d e kv, v = exV e kv ∧ OkE e ∧ ExK d w kv e.ks := by
  obtain ⟨cs, rfl, hsz⟩ := okWide_struct Try.underlying24 hv
  obtain ⟨fuel, hf⟩ := h
  obtain ⟨e, kv, hcs, hok, hk⟩ := open_exC fuel _ _ hf
  refine ⟨fuel, e, kv, ?_, hok, hk.to⟩
  have : cs.toList = [.int .i64 e.op, .int .i64 e.n, .string e.nm, kv] := hcs
  unfold exV
  rw [← this]
set_option maxRecDepth 100000 in
theorem open_strs1 {r : Reach} {b0 : Nat} {v : Value} {dd : DataW H} {p : List MemPlace} (hv : Value.okWide Try.prog w r b0 25 v) (h : DataW.Trod enc Try.prog w base spare held 25 v dd p) :
    ∃ l, StrsAt w v l := by
  obtain ⟨a, n, c, rfl⟩ := okWide_slice Try.underlying25 hv
  obtain ⟨fuel, hf⟩ := h
  obtain ⟨u, l, hcs, hl⟩ := open_strC hf
  cases (show [Value.slice a n c] = [u] from hcs)
  exact ⟨l, hl.to⟩
set_option maxRecDepth 100000 in
theorem open_ints1 {r : Reach} {b0 : Nat} {v : Value} {dd : DataW H} {p : List MemPlace} (hv : Value.okWide Try.prog w r b0 26 v) (h : DataW.Trod enc Try.prog w base spare held 26 v dd p) :
    ∃ l, IntsAt w v l := by
  obtain ⟨a, n, c, rfl⟩ := okWide_slice Try.underlying26 hv
  obtain ⟨fuel, hf⟩ := h
  obtain ⟨u, l, hcs, hl⟩ := open_intC hf
  cases (show [Value.slice a n c] = [u] from hcs)
  exact ⟨l, hl.to⟩
end
end Go.Proofs.Ytnbclbphggmenaa.Tr
