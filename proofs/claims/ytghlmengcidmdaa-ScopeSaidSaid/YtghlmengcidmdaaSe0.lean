/- Parts of BSt, FitsW, FindP, FindL, ScopeSaidW: walks and plain laws that later texts use. Conditions: as each statement says. -/
import Derived.Test.YtghlmengcidmdaaSa0
import Derived.Test.YtghlmengcidmdaaSa1
import Derived.Test.YtghlmengcidmdaaSa10
import Derived.Test.YtghlmengcidmdaaSa11
import Derived.Test.YtghlmengcidmdaaSa12
import Derived.Test.YtghlmengcidmdaaSa13
import Derived.Test.YtghlmengcidmdaaSa14
import Derived.Test.YtghlmengcidmdaaSa15
import Derived.Test.YtghlmengcidmdaaSa16
import Derived.Test.YtghlmengcidmdaaSa17
import Derived.Test.YtghlmengcidmdaaSa18
import Derived.Test.YtghlmengcidmdaaSa19
import Derived.Test.YtghlmengcidmdaaSa2
import Derived.Test.YtghlmengcidmdaaSa20
import Derived.Test.YtghlmengcidmdaaSa21
import Derived.Test.YtghlmengcidmdaaSa22
import Derived.Test.YtghlmengcidmdaaSa23
import Derived.Test.YtghlmengcidmdaaSa24
import Derived.Test.YtghlmengcidmdaaSa25
import Derived.Test.YtghlmengcidmdaaSa26
import Derived.Test.YtghlmengcidmdaaSa27
import Derived.Test.YtghlmengcidmdaaSa28
import Derived.Test.YtghlmengcidmdaaSa29
import Derived.Test.YtghlmengcidmdaaSa3
import Derived.Test.YtghlmengcidmdaaSa30
import Derived.Test.YtghlmengcidmdaaSa31
import Derived.Test.YtghlmengcidmdaaSa32
import Derived.Test.YtghlmengcidmdaaSa33
import Derived.Test.YtghlmengcidmdaaSa34
import Derived.Test.YtghlmengcidmdaaSa35
import Derived.Test.YtghlmengcidmdaaSa36
import Derived.Test.YtghlmengcidmdaaSa37
import Derived.Test.YtghlmengcidmdaaSa38
import Derived.Test.YtghlmengcidmdaaSa39
import Derived.Test.YtghlmengcidmdaaSa4
import Derived.Test.YtghlmengcidmdaaSa40
import Derived.Test.YtghlmengcidmdaaSa5
import Derived.Test.YtghlmengcidmdaaSa6
import Derived.Test.YtghlmengcidmdaaSa7
import Derived.Test.YtghlmengcidmdaaSa8
import Derived.Test.YtghlmengcidmdaaSa9
import Derived.Test.YtghlmengcidmdaaSc0
import Derived.Test.YtghlmengcidmdaaSd0
import Derived.WalkKit
import Derived.Test.YtghlmengcidmdaaRows
import Derived.WalkSpells
import Derived.Lib.Hide
import Derived.Below
import Derived.Laws.BitsAllLaws
import Derived.IntWalk
import Derived.Deep.QuietTactic
import Derived.BigQuiet
import Derived.StillTailTactics
import Derived.Deep.Slices
import Derived.Deep.Fields
import Derived.Lib.SmallJoins
import Derived.SliceStrings
import Derived.ChangeSlices
import Derived.WalkSmall
import Derived.OwnWalk
import Derived.OneCell
import Derived.Deep.AppendLies
import Derived.Deep.RegionLaw
import Derived.Deep.DeepCutAuto
import Derived.Deep.RegionHeld3
import Derived.Maps.Range
import Derived.Outline
import Derived.Deep.Upon
import Derived.Maps.AppendAt
import Derived.Laws.OwnMore
import Derived.Deep.RegionWith
import Derived.Laws.Cover3
import Derived.RegionTactic
import Derived.Deep.CutBlock
import Derived.Laws.StructEq
import Derived.Deep.MidRow
import Derived.OrdersHeld
section
/- Plain: statements counted, found. How rows of statements lie. Conditions: none.
   What tree.count, tree.Count compute. Conditions: the rows lie in memory.
   What tree.find computes: where the first statement of an id stands. Conditions: the rows lie in memory.
   Plain: statements weighed, copied, numbered; a statement, an argument as cells. Conditions: none.
   What slices.Clone makes: a new slice. Conditions: the slice lies in memory, it is not long. -/
section
namespace Go.Proofs.Ytghlmengcidmdaa.Tr
open Go.RowKit Go.Proofs.Ytghlmengcidmdaa.Lx Go.Proofs.Ytghlmengcidmdaa.Wd
mutual
/-- The first statement of an id. -/
def findS (id : Int) : St → Option St
  | .mk i k ls nm pr x h ar t e => if i = id then some (.mk i k ls nm pr x h ar t e) else match findL id t with
    | some s => some s
    | none => findL id e
def findL (id : Int) : List St → Option St
  | [] => none
  | s :: r => match findS id s with
    | some t => some t
    | none => findL id r
end
theorem findS_eq (id : Int) (s : St) : findS id s = if s.id = id then some s else match findL id s.thn with
    | some t => some t
    | none => findL id s.els := by cases s; simp only [findS, St.id, St.thn, St.els]; rfl
theorem findL_cons (id : Int) (s : St) (r : List St) : findL id (s :: r) = match findS id s with
    | some t => some t
    | none => findL id r := by simp only [findL]
theorem findL_none {id : Int} {l : List St} (h : ∀ k (hk : k < l.length), findS id l[k] = none) : findL id l = none := by
  induction l with
  | nil => simp only [findL]
  | cons s r ih =>
    have h0 : findS id s = none := h 0 (by simp)
    rw [findL_cons, h0]
    exact ih fun k hk => h (k + 1) (by simpa using hk)
theorem findL_at {id : Int} {l : List St} {k : Nat} (hk : k < l.length) {t : St} (ht : findS id l[k] = some t) (h : ∀ j (hj : j < l.length), j < k → findS id l[j] = none) : findL id l = some t := by
  induction l generalizing k with
  | nil => cases hk
  | cons s r ih =>
    cases k with
    | zero =>
      have h0 : findS id s = some t := ht
      rw [findL_cons, h0]
    | succ k =>
      have h0 : findS id s = none := h 0 (by simp) (by omega)
      rw [findL_cons, h0]
      exact ih (k := k) (by simpa using hk) ht fun j hj hjk => h (j + 1) (by simpa using hj) (by omega)
end Go.Proofs.Ytghlmengcidmdaa.Tr
end
section
namespace Go.Proofs.Ytghlmengcidmdaa.Tr
open Go.RowKit Go.Proofs.Ytghlmengcidmdaa.Lx Go.Proofs.Ytghlmengcidmdaa.Wd
end Go.Proofs.Ytghlmengcidmdaa.Tr
end
section
namespace Go.Proofs.Ytghlmengcidmdaa.Tr
open Go.RowKit Go.Proofs.Ytghlmengcidmdaa.Lx Go.Proofs.Ytghlmengcidmdaa.Wd
/-- What find tells. -/
def FoundAt (w : World) (d : Nat) (r : Option St) (v : Value) : Prop := match r with
  | none => v = .pointer none
  | some s => ∃ g o, v = .pointer (some ⟨g, o, none⟩) ∧ StAt (cw w) d (StC (cw w) d) g o s
theorem FoundAt.up {w : World} {d : Nat} {r : Option St} {v : Value} (h : FoundAt w d r v) : FoundAt w (d + 1) r v := by
  cases r with
  | none => exact h
  | some s =>
    obtain ⟨g, o, h1, h2⟩ := h
    exact ⟨g, o, h1, h2.up fun _ _ => StC.up⟩
set_option maxHeartbeats 2000000 in
theorem find_any (id : Int) (w : World) : ∀ (d : Nat) (l : List St) (v : Value), StC (cw w) d v l →
    Calls Try.prog 108 #[v, .int .i64 id] w fun e w' => (∃ p, e = .returned p ∧ FoundAt w d (findL id l) p) ∧ w = w' := by
  intro d
  induction d with
  | zero => intro l v h; exact h.elim
  | succ d ih =>
    intro l v hl
    have IH := Lib.hid ih
    obtain ⟨a, cap, rfl, hc1, hc2⟩ := hl.form
    have HL := Lib.hid hl
    clear ih hl
    go_enter Try.func108, Try.ntmps108
    go_wp2_with fail
    go_loop [10] (fun i => ∃ k : Nat, k ≤ l.length ∧ i = .int .i64 k ∧ ∀ j (hj : j < l.length), j < k → findS id l[j] = none) (fun i => (l.length - intOf i).toNat)
    case atStart => exact ⟨0, by omega, rfl, fun j _ h => absurd h (by omega)⟩
    case round =>
      obtain ⟨k, hk, rfl, hno⟩ := hrel
      have HNO := Lib.hid hno
      clear hno
      by_cases hlt : k < l.length
      · have hlt' : (k : Int) < (l.length : Int) := by omega
        have h0k : (0 : Int) ≤ (k : Int) := by omega
        have hne : l ≠ [] := by intro h; rw [h] at hlt; simp at hlt
        obtain ⟨g, off, cap', hv, _, hcells⟩ := SlAt.cells HL.out hne
        simp only [Value.slice.injEq] at hv
        obtain ⟨rfl, -, rfl⟩ := hv
        have hst := hcells k hlt
        have HST := Lib.hid hst
        obtain ⟨lv, av, tv, ev, q0, q1, q2, q3, q4, q5, q9, q10, q11, q12, i1, i2, i3, i4, i5, i6, ht, he⟩ := hst
        obtain ⟨s, hs⟩ : ∃ s, Hid (l[k] = s) := ⟨_, Lib.hid rfl⟩
        rw [hs.out] at ht he q0
        have c0 : w.cell? ⟨g, off + k * 13, none⟩ = some (.int .i64 s.id) := q0
        have c11 : w.cell? ⟨g, off + k * 13 + 11, none⟩ = some tv := q11
        have c12 : w.cell? ⟨g, off + k * 13 + 12, none⟩ = some ev := q12
        obtain ⟨ta, tc, rfl, -, -⟩ := ht.form
        obtain ⟨ea, ec, rfl, -, -⟩ := he.form
        have HT := Lib.hid ht
        have HE := Lib.hid he
        clear hcells q0 q1 q2 q3 q4 q5 q9 q10 q11 q12 i1 i2 i3 i4 i5 i6 ht he hne
        have hlast := fun j (hj : j < l.length) (h : j < k) => HNO.out j hj h
        have HLAST := Lib.hid hlast
        clear hlast
        by_cases hid : s.id = id
        · have b1 : (s.id == id) = true := by simpa using hid
          have hf : findL id l = some s := findL_at hlt (by rw [hs.out, findS_eq, if_pos hid]) HLAST.out
          have HF := Lib.hid hf
          clear hf hid
          go_wp2_with fail
          go_ret
          refine ⟨⟨_, rfl, ?_⟩, rfl⟩
          rw [HF.out]
          refine ⟨g, _, rfl, ?_⟩
          have := HST.out
          rw [hs.out] at this
          exact this.up fun _ _ => StC.up
        · have b1 : (s.id == id) = false := by simpa using hid
          cases hft : findL id s.thn with
          | some t =>
            have hf : findL id l = some t := findL_at hlt (by rw [hs.out, findS_eq, if_neg hid, hft]) HLAST.out
            have HF := Lib.hid hf
            have HFT := Lib.hid hft
            clear hf hid hft
            go_wp2_with fail
            refine (IH.out s.thn _ HT.out).mono ?_
            rintro e w' ⟨⟨p, rfl, hfa⟩, rfl⟩
            rw [HFT.out] at hfa
            have HFA := Lib.hid hfa.up
            obtain ⟨g2, o2, rfl, -⟩ := hfa
            go_wp2_with fail
            go_ret
            refine ⟨⟨_, rfl, ?_⟩, rfl⟩
            rw [HF.out]
            exact HFA.out
          | none =>
            cases hfe : findL id s.els with
            | some t =>
              have hf : findL id l = some t := findL_at hlt (by rw [hs.out, findS_eq, if_neg hid, hft]; exact hfe) HLAST.out
              have HF := Lib.hid hf
              have HFT := Lib.hid hft
              have HFE := Lib.hid hfe
              clear hf hid hft hfe
              go_wp2_with fail
              refine (IH.out s.thn _ HT.out).mono ?_
              rintro e w' ⟨⟨p, rfl, hfa⟩, rfl⟩
              rw [HFT.out] at hfa
              have hfa' : p = .pointer none := hfa
              subst hfa'
              clear hfa
              go_wp2_with fail
              refine (IH.out s.els _ HE.out).mono ?_
              rintro e w' ⟨⟨p, rfl, hfa⟩, rfl⟩
              rw [HFE.out] at hfa
              have HFA := Lib.hid hfa.up
              obtain ⟨g2, o2, rfl, -⟩ := hfa
              go_wp2_with fail
              go_ret
              refine ⟨⟨_, rfl, ?_⟩, rfl⟩
              rw [HF.out]
              exact HFA.out
            | none =>
              have hf : findS id s = none := by rw [findS_eq, if_neg hid, hft]; exact hfe
              have HF := Lib.hid hf
              have HFT := Lib.hid hft
              have HFE := Lib.hid hfe
              clear hf hid hft hfe
              go_wp2_with fail
              refine (IH.out s.thn _ HT.out).mono ?_
              rintro e w' ⟨⟨p, rfl, hfa⟩, rfl⟩
              rw [HFT.out] at hfa
              have hfa' : p = .pointer none := hfa
              subst hfa'
              clear hfa
              go_wp2_with fail
              refine (IH.out s.els _ HE.out).mono ?_
              rintro e w' ⟨⟨p, rfl, hfa⟩, rfl⟩
              rw [HFE.out] at hfa
              have hfa' : p = .pointer none := hfa
              subst hfa'
              clear hfa
              go_wp2_with fail
              go_round
              case rel =>
                refine ⟨k + 1, by omega, by go_num, fun j hj hjk => ?_⟩
                rcases Nat.lt_or_ge j k with h | h
                · exact HLAST.out j hj h
                · obtain rfl : j = k := by omega
                  rw [hs.out]
                  exact HF.out
              case measure => simp [intOf]; omega
      · have hlt' : ¬ (k : Int) < (l.length : Int) := by omega
        go_wp2_with fail
        go_ret
        refine ⟨⟨_, rfl, ?_⟩, rfl⟩
        rw [findL_none fun j hj => HNO.out j hj (by omega)]
        rfl
end Go.Proofs.Ytghlmengcidmdaa.Tr
end
section
namespace Go.Proofs.Ytghlmengcidmdaa.Tr
open Go.RowKit Go.Proofs.Ytghlmengcidmdaa.Lx Go.Proofs.Ytghlmengcidmdaa.Wd
mutual
theorem cpS_same (n : Int) : ∀ s : St, cpS false n s = s
  | .mk i k ls nm pr x h ar t e => by simp only [cpS, cpL_same (n + 1) t, cpL_same (n + 1 + cntL t) e]; rfl
theorem cpL_same (n : Int) : ∀ l : List St, cpL false n l = l
  | [] => by simp only [cpL]
  | s :: r => by simp only [cpL, cpS_same n s, cpL_same (n + cntS s) r]
end
end Go.Proofs.Ytghlmengcidmdaa.Tr
end
section
namespace Go.Proofs.Ytghlmengcidmdaa.Tr
open Go.RowKit Go.Proofs.Ytghlmengcidmdaa.Lx Go.Proofs.Ytghlmengcidmdaa.Wd
end Go.Proofs.Ytghlmengcidmdaa.Tr
end
end
section
/- What weighTexts, weighStmts, Fits of the reference compute: how much a program is. Conditions: it lies in memory. -/
namespace Go.Proofs.Ytghlmengcidmdaa.Tr
open Go.RowKit Go.Proofs.Ytghlmengcidmdaa.Lx Go.Proofs.Ytghlmengcidmdaa.Wd
theorem wtPr_mem {p : Pr} (h : wtPr p ≤ 20000) : ∀ f ∈ p.procs, wtL f.body ≤ 20000 := by
  intro f hf
  have := sum_mem wtPc p.procs f hf
  have h2 : wtL f.body ≤ wtPc f := by unfold wtPc; omega
  unfold wtPr at h
  omega
end Go.Proofs.Ytghlmengcidmdaa.Tr
end
section
/- What tree.Find tells. Conditions: the program lies in memory, it is light. -/
namespace Go.Proofs.Ytghlmengcidmdaa.Tr
open Go.RowKit Go.Proofs.Ytghlmengcidmdaa.Lx Go.Proofs.Ytghlmengcidmdaa.Wd
/-- The first statement of an id, and its procedure's name. -/
def findP (id : Int) : List Pc → Option (ByteArray × St)
  | [] => none
  | f :: r => match findL id f.body with
    | some s => some (f.nm, s)
    | none => findP id r
theorem findP_none {id : Int} {l : List Pc} (h : ∀ k (hk : k < l.length), findL id l[k].body = none) : findP id l = none := by
  induction l with
  | nil => rfl
  | cons f r ih =>
    have h0 : findL id f.body = none := h 0 (by simp)
    rw [findP, h0]
    exact ih fun k hk => h (k + 1) (by simpa using hk)
theorem findP_at {id : Int} {l : List Pc} {k : Nat} (hk : k < l.length) {t : St} (ht : findL id l[k].body = some t) (h : ∀ j (hj : j < l.length), j < k → findL id l[j].body = none) : findP id l = some (l[k].nm, t) := by
  induction l generalizing k with
  | nil => cases hk
  | cons f r ih =>
    cases k with
    | zero =>
      have h0 : findL id f.body = some t := ht
      rw [findP, h0]; rfl
    | succ k =>
      have h0 : findL id f.body = none := h 0 (by simp) (by omega)
      rw [findP, h0]
      exact ih (k := k) (by simpa using hk) ht fun j hj hjk => h (j + 1) (by simpa using hj) (by omega)
mutual
theorem findS_wt (id : Int) : ∀ (s t : St), findS id s = some t → wtS t ≤ wtS s
  | .mk i k ls nm pr x h ar th el, t, hf => by
    rw [findS_eq] at hf
    by_cases hi : (St.mk i k ls nm pr x h ar th el).id = id
    · rw [if_pos hi] at hf
      have e := Option.some.inj hf
      rw [← e]
      exact Nat.le_refl _
    · rw [if_neg hi] at hf
      simp only [St.thn, St.els] at hf
      cases hq : findL id th with
      | some u =>
        rw [hq] at hf
        have e : u = t := Option.some.inj hf
        have := findL_wt id th u hq
        rw [← e]
        simp only [wtS]
        omega
      | none =>
        rw [hq] at hf
        have := findL_wt id el t hf
        simp only [wtS]
        omega
theorem findL_wt (id : Int) : ∀ (l : List St) (t : St), findL id l = some t → wtS t ≤ wtL l
  | [], t, hf => by simp only [findL] at hf; cases hf
  | s :: r, t, hf => by
    rw [findL_cons] at hf
    cases hq : findS id s with
    | some u =>
      rw [hq] at hf
      have e : u = t := Option.some.inj hf
      have := findS_wt id s u hq
      rw [← e]
      simp only [wtL]
      omega
    | none =>
      rw [hq] at hf
      have := findL_wt id r t hf
      simp only [wtL]
      omega
end
/-- No statement. -/
def noSt : List Value := [.int .i64 0, .int .i64 0, .slice none 0 0, .string ⟨#[]⟩, .string ⟨#[]⟩, .int .i64 0, .int .i64 0, .string ⟨#[]⟩, .slice none 0 0, .bool false, .slice none 0 0, .slice none 0 0, .slice none 0 0]
def FindMade (d : Nat) (r : Option (ByteArray × St)) (w : World) (e : Ending) (w' : World) : Prop := match r with
  | some (nm, s) => ∃ c, e = .returned (.tuple #[.string nm, .agg c.toArray, .bool true]) ∧ StQ d (nwC w.heap.size w') c s ∧ Below w.heap.size w w'
  | none => e = .returned (.tuple #[.string ⟨#[]⟩, .agg noSt.toArray, .bool false]) ∧ Below w.heap.size w w'
/-- A statement that stands somewhere, as a row of one. -/
theorem one_st {w : World} {d g o : Nat} {s : St} (h : StAt (cw w) d (StC (cw w) d) g o s) : StC (cw w) (d + 1) (.slice (some ⟨g, o, none⟩) 1 1) [s] :=
  ⟨_, 1, rfl, Nat.le_refl _, by omega, fun _ => ⟨g, o, rfl, fun i hi => by
    match i, hi with
    | 0, _ => simpa using h⟩⟩
theorem box13 {w : World} {R : Nat} {cs : List Value} {a0 a1 a2 a3 a4 a5 a6 a7 a8 a9 a10 a11 a12 : Value} (h : BoxAt w R cs) (hl : cs.length = 13) : BoxAt (((((((((((((w.setCell ⟨R, 0, none⟩ a0).setCell ⟨R, 1, none⟩ a1).setCell ⟨R, 2, none⟩ a2).setCell ⟨R, 3, none⟩ a3).setCell ⟨R, 4, none⟩ a4).setCell ⟨R, 5, none⟩ a5).setCell ⟨R, 6, none⟩ a6).setCell ⟨R, 7, none⟩ a7).setCell ⟨R, 8, none⟩ a8).setCell ⟨R, 9, none⟩ a9).setCell ⟨R, 10, none⟩ a10).setCell ⟨R, 11, none⟩ a11).setCell ⟨R, 12, none⟩ a12) R [a0, a1, a2, a3, a4, a5, a6, a7, a8, a9, a10, a11, a12] := by
  match cs, hl with
  | [c0, c1, c2, c3, c4, c5, c6, c7, c8, c9, c10, c11, c12], _ =>
    exact (((((((((((((h.put (j := 0) (x := a0) (by simp)).put (j := 1) (x := a1) (by simp)).put (j := 2) (x := a2) (by simp)).put (j := 3) (x := a3) (by simp)).put (j := 4) (x := a4) (by simp)).put (j := 5) (x := a5) (by simp)).put (j := 6) (x := a6) (by simp)).put (j := 7) (x := a7) (by simp)).put (j := 8) (x := a8) (by simp)).put (j := 9) (x := a9) (by simp)).put (j := 10) (x := a10) (by simp)).put (j := 11) (x := a11) (by simp)).put (j := 12) (x := a12) (by simp))
theorem le13 {w : World} {B R : Nat} {a0 a1 a2 a3 a4 a5 a6 a7 a8 a9 a10 a11 a12 : Value} (h : R < B) : Cs.le (nwC B w) (nwC B (((((((((((((w.setCell ⟨R, 0, none⟩ a0).setCell ⟨R, 1, none⟩ a1).setCell ⟨R, 2, none⟩ a2).setCell ⟨R, 3, none⟩ a3).setCell ⟨R, 4, none⟩ a4).setCell ⟨R, 5, none⟩ a5).setCell ⟨R, 6, none⟩ a6).setCell ⟨R, 7, none⟩ a7).setCell ⟨R, 8, none⟩ a8).setCell ⟨R, 9, none⟩ a9).setCell ⟨R, 10, none⟩ a10).setCell ⟨R, 11, none⟩ a11).setCell ⟨R, 12, none⟩ a12)) :=
  Cs.le_trans (le_set h) (Cs.le_trans (le_set h) (Cs.le_trans (le_set h) (Cs.le_trans (le_set h) (Cs.le_trans (le_set h) (Cs.le_trans (le_set h) (Cs.le_trans (le_set h) (Cs.le_trans (le_set h) (Cs.le_trans (le_set h) (Cs.le_trans (le_set h) (Cs.le_trans (le_set h) (Cs.le_trans (le_set h) (le_set h))))))))))))
set_option maxHeartbeats 4000000 in
set_option maxRecDepth 100000 in
theorem findP_any (d : Nat) (p : Pr) (gv pv : Value) (id : Int) (w : World) (hp : PrC (cw w) d gv pv p) (hw : ∀ f ∈ p.procs, wtL f.body ≤ 20000) :
    Calls Try.prog 58 #[.agg #[gv, pv], .int .i64 id] w (FindMade d (findP id p.procs) w) := by
  obtain ⟨ga, gc, rfl, -, -⟩ := hp.1.form
  obtain ⟨pa, pc, rfl, hc1, hc2⟩ := hp.2.form
  have hbox : Below w.heap.size w ((w.alloc (.cells #[.slice ga p.globals.length gc, .slice pa p.procs.length pc] 25)).alloc (.cells noSt.toArray 41)) := (boxed w _).alloc (by simp) _
  have hR := box_two w (.cells #[.slice ga p.globals.length gc, .slice pa p.procs.length pc] 25) noSt.toArray 41
  have hRF := free_two w (.cells #[.slice ga p.globals.length gc, .slice pa p.procs.length pc] 25) noSt.toArray 41
  have HB := Lib.hid hbox
  have HR := Lib.hid hR
  have HRF := Lib.hid hRF
  have HP := Lib.hid (PrC.mono (cw_next hbox) hp)
  have HW := Lib.hid hw
  obtain ⟨fr, hfr⟩ : ∃ fr, Hid (findP id p.procs = fr) := ⟨_, Lib.hid rfl⟩
  rw [hfr.out]
  clear hbox hp hR hRF hw
  go_enter Try.func58, Try.ntmps58
  go_wp2_with fail
  go_loopw [15] (fun i wr => ∃ k : Nat, k ≤ p.procs.length ∧ i = .int .i64 k ∧ Below w.heap.size w wr ∧ w.heap.size + 1 + 1 ≤ wr.heap.size ∧ BoxAt wr (w.heap.size + 1) noSt ∧ Free wr (w.heap.size + 1) ∧ PrC (cw wr) d (.slice ga p.globals.length gc) (.slice pa p.procs.length pc) p ∧ ∀ j (hj : j < p.procs.length), j < k → findL id p.procs[j].body = none) (fun i _ => (p.procs.length - intOf i).toNat)
  case atStart => exact ⟨0, by omega, rfl, HB.out, by simp, HR.out, HRF.out, HP.out, fun j _ h => absurd h (by omega)⟩
  case round =>
    obtain ⟨k, hk, rfl, hbel, hsz, hbx, hfx, hpr, hno⟩ := hrel
    have HBEL := Lib.hid hbel
    have HPR := Lib.hid hpr
    have HBX := Lib.hid hbx
    have HFX := Lib.hid hfx
    have HNO := Lib.hid hno
    by_cases hlt : k < p.procs.length
    · have hlt' : (k : Int) < (p.procs.length : Int) := by omega
      have h0k : (0 : Int) ≤ (k : Int) := by omega
      have hne : p.procs ≠ [] := by intro h; rw [h] at hlt; simp at hlt
      obtain ⟨g, off, cap', hv, _, hcells⟩ := SlAt.cells hpr.2 hne
      simp only [Value.slice.injEq] at hv
      obtain ⟨rfl, -, rfl⟩ := hv
      obtain ⟨qv, vv, bv, fv, q0, q1, q2, q3, q4, q5, q6, q7, q8, q9⟩ := hcells k hlt
      have hwt := HW.out _ (List.getElem_mem hlt)
      obtain ⟨f, hf⟩ : ∃ f, Hid (p.procs[k] = f) := ⟨_, Lib.hid rfl⟩
      rw [hf.out] at q0 q6 q7 q8 q9 hwt
      obtain ⟨a1, c1, rfl, -, -⟩ := q6.form
      obtain ⟨a2, c2, rfl, -, -⟩ := q7.form
      obtain ⟨a3, c3, rfl, -, -⟩ := q8.form
      obtain ⟨a4, c4, rfl, -, -⟩ := q9.form
      have e0 : wr.cell? ⟨g, off + k * 5, none⟩ = _ := q0
      have e1 : wr.cell? ⟨g, off + k * 5 + 1, none⟩ = _ := q1
      have e2 : wr.cell? ⟨g, off + k * 5 + 2, none⟩ = _ := q2
      have e3 : wr.cell? ⟨g, off + k * 5 + 3, none⟩ = _ := q3
      have e4 : wr.cell? ⟨g, off + k * 5 + 4, none⟩ = _ := q4
      have hkb := boxed wr (.cells #[.string f.nm, .slice a1 f.params.length c1, .slice a2 f.vars.length c2, .slice a3 f.body.length c3, .slice a4 f.fin.length c4] 55)
      have HKB := Lib.hid hkb
      have HBODY := Lib.hid (q8.next hkb)
      have HWT := Lib.hid hwt
      clear hcells q0 q1 q2 q3 q4 q5 q6 q7 q8 q9 hne hpr hbel hkb hwt hbx hfx hno
      cases hfd : findL id f.body with
      | none =>
        have HFD := Lib.hid hfd
        clear hfd
        go_wp2_with fail
        refine (find_any id _ d f.body _ HBODY.out).mono ?_
        rintro e w3 ⟨⟨q, rfl, hfa⟩, rfl⟩
        rw [HFD.out] at hfa
        have hfa' : q = .pointer none := hfa
        subst hfa'
        clear hfa
        go_wp2_with fail
        go_roundw
        case rel =>
          refine ⟨k + 1, by omega, by go_num, HBEL.out.trans (HKB.out.mono HBEL.out.size), by simp; omega, HBX.out.next HKB.out, HFX.out.next (by omega) HKB.out, PrC.mono (cw_next HKB.out) HPR.out, fun j hj hjk => ?_⟩
          rcases Nat.lt_or_ge j k with h | h
          · exact HNO.out j hj h
          · obtain rfl : j = k := by omega
            rw [hf.out]
            exact HFD.out
        case measure => simp [intOf]; omega
      | some s =>
        have hfp : findP id p.procs = some (f.nm, s) := by
          have := findP_at hlt (by rw [hf.out]; exact hfd) HNO.out
          rw [hf.out] at this
          exact this
        rw [hfr.out] at hfp
        have HFP := Lib.hid hfp
        have hws := Nat.le_trans (findL_wt id f.body s hfd) HWT.out
        have HWS := Lib.hid hws
        have HFD := Lib.hid hfd
        clear hfd hfp hws
        go_wp2_with fail
        refine (find_any id _ d f.body _ HBODY.out).mono ?_
        rintro e w3 ⟨⟨q, rfl, hfa⟩, rfl⟩
        rw [HFD.out] at hfa
        obtain ⟨g2, o2, rfl, hst⟩ := hfa
        have HST := Lib.hid hst
        obtain ⟨lv, av, tv, ev, q0, q1, q2, q3, q4, ⟨kv, q5, q6, q7, q8, hok, hxk⟩, q9, q10, q11, q12, i1', i2', i3', i4', i5', i6', ht, he⟩ := hst
        obtain ⟨la, lc, rfl, -, -⟩ := i5'.form
        obtain ⟨aa, ac, rfl, -, -⟩ := i6'.form
        obtain ⟨ta, tc, rfl, -, -⟩ := ht.form
        obtain ⟨ea, ec, rfl, -, -⟩ := he.form
        obtain ⟨ka, kc, rfl, -, -⟩ := hxk.form
        have n0 : (wr.alloc (.cells #[.string f.nm, .slice a1 f.params.length c1, .slice a2 f.vars.length c2, .slice a3 f.body.length c3, .slice a4 f.fin.length c4] 55)).cell? ⟨g2, o2, none⟩ = _ := q0
        have n1 : (wr.alloc (.cells #[.string f.nm, .slice a1 f.params.length c1, .slice a2 f.vars.length c2, .slice a3 f.body.length c3, .slice a4 f.fin.length c4] 55)).cell? ⟨g2, o2 + 1, none⟩ = _ := q1
        have n2 : (wr.alloc (.cells #[.string f.nm, .slice a1 f.params.length c1, .slice a2 f.vars.length c2, .slice a3 f.body.length c3, .slice a4 f.fin.length c4] 55)).cell? ⟨g2, o2 + 2, none⟩ = _ := q2
        have n3 : (wr.alloc (.cells #[.string f.nm, .slice a1 f.params.length c1, .slice a2 f.vars.length c2, .slice a3 f.body.length c3, .slice a4 f.fin.length c4] 55)).cell? ⟨g2, o2 + 3, none⟩ = _ := q3
        have n4 : (wr.alloc (.cells #[.string f.nm, .slice a1 f.params.length c1, .slice a2 f.vars.length c2, .slice a3 f.body.length c3, .slice a4 f.fin.length c4] 55)).cell? ⟨g2, o2 + 4, none⟩ = _ := q4
        have n5 : (wr.alloc (.cells #[.string f.nm, .slice a1 f.params.length c1, .slice a2 f.vars.length c2, .slice a3 f.body.length c3, .slice a4 f.fin.length c4] 55)).cell? ⟨g2, o2 + 5, none⟩ = _ := q5
        have n6 : (wr.alloc (.cells #[.string f.nm, .slice a1 f.params.length c1, .slice a2 f.vars.length c2, .slice a3 f.body.length c3, .slice a4 f.fin.length c4] 55)).cell? ⟨g2, o2 + 6, none⟩ = _ := q6
        have n7 : (wr.alloc (.cells #[.string f.nm, .slice a1 f.params.length c1, .slice a2 f.vars.length c2, .slice a3 f.body.length c3, .slice a4 f.fin.length c4] 55)).cell? ⟨g2, o2 + 7, none⟩ = _ := q7
        have n8 : (wr.alloc (.cells #[.string f.nm, .slice a1 f.params.length c1, .slice a2 f.vars.length c2, .slice a3 f.body.length c3, .slice a4 f.fin.length c4] 55)).cell? ⟨g2, o2 + 8, none⟩ = _ := q8
        have n9 : (wr.alloc (.cells #[.string f.nm, .slice a1 f.params.length c1, .slice a2 f.vars.length c2, .slice a3 f.body.length c3, .slice a4 f.fin.length c4] 55)).cell? ⟨g2, o2 + 9, none⟩ = _ := q9
        have n10 : (wr.alloc (.cells #[.string f.nm, .slice a1 f.params.length c1, .slice a2 f.vars.length c2, .slice a3 f.body.length c3, .slice a4 f.fin.length c4] 55)).cell? ⟨g2, o2 + 10, none⟩ = _ := q10
        have n11 : (wr.alloc (.cells #[.string f.nm, .slice a1 f.params.length c1, .slice a2 f.vars.length c2, .slice a3 f.body.length c3, .slice a4 f.fin.length c4] 55)).cell? ⟨g2, o2 + 11, none⟩ = _ := q11
        have n12 : (wr.alloc (.cells #[.string f.nm, .slice a1 f.params.length c1, .slice a2 f.vars.length c2, .slice a3 f.body.length c3, .slice a4 f.fin.length c4] 55)).cell? ⟨g2, o2 + 12, none⟩ = _ := q12
        clear q0 q1 q2 q3 q4 q5 q6 q7 q8 q9 q10 q11 q12 hok hxk i1' i2' i3' i4' i5' i6' ht he
        have hgz := cell_lt n0
        have hwl : wtL [s] ≤ 20000 := by rw [wtL_cons]; simp only [wtL]; have := HWS.out; omega
        have hkb2 := boxed (wr.alloc (.cells #[.string f.nm, .slice a1 f.params.length c1, .slice a2 f.vars.length c2, .slice a3 f.body.length c3, .slice a4 f.fin.length c4] 55)) (.cells #[.int .i64 s.id, .int .i64 s.kind, .slice la s.labels.length lc, .string s.nm, .string s.proc, .int .i64 s.x.op, .int .i64 s.x.n, .string s.x.nm, .slice ka s.x.ks.length kc, .bool s.has, .slice aa s.args.length ac, .slice ta s.thn.length tc, .slice ea s.els.length ec] 41)
        have HKB2 := Lib.hid (HKB.out.trans (hkb2.mono HKB.out.size))
        have hst1 := StC.next (one_st HST.out) hkb2
        have hbx2 := box_two wr (.cells #[.string f.nm, .slice a1 f.params.length c1, .slice a2 f.vars.length c2, .slice a3 f.body.length c3, .slice a4 f.fin.length c4] 55) #[.int .i64 s.id, .int .i64 s.kind, .slice la s.labels.length lc, .string s.nm, .string s.proc, .int .i64 s.x.op, .int .i64 s.x.n, .string s.x.nm, .slice ka s.x.ks.length kc, .bool s.has, .slice aa s.args.length ac, .slice ta s.thn.length tc, .slice ea s.els.length ec] 41
        have hst2 : StC (cw ((wr.alloc (.cells #[.string f.nm, .slice a1 f.params.length c1, .slice a2 f.vars.length c2, .slice a3 f.body.length c3, .slice a4 f.fin.length c4] 55)).alloc (.cells #[.int .i64 s.id, .int .i64 s.kind, .slice la s.labels.length lc, .string s.nm, .string s.proc, .int .i64 s.x.op, .int .i64 s.x.n, .string s.x.nm, .slice ka s.x.ks.length kc, .bool s.has, .slice aa s.args.length ac, .slice ta s.thn.length tc, .slice ea s.els.length ec] 41))) (d + 1) (.slice (some ⟨wr.heap.size + 1, 0, none⟩) 1 1) [s] := by
          refine one_st ?_
          obtain ⟨lv', av', tv', ev', p0, p1, p2, p3, p4, ⟨kv', p5, p6, p7, p8, pok, pxk⟩, p9, p10, p11, p12, j1, j2, j3, j4, j5, j6, pt, pe⟩ := HST.out
          have u2 : Value.slice la s.labels.length lc = lv' := Option.some.inj (n2.symm.trans p2)
          have u8 : Value.slice ka s.x.ks.length kc = kv' := Option.some.inj (n8.symm.trans p8)
          have u10 : Value.slice aa s.args.length ac = av' := Option.some.inj (n10.symm.trans p10)
          have u11 : Value.slice ta s.thn.length tc = tv' := Option.some.inj (n11.symm.trans p11)
          have u12 : Value.slice ea s.els.length ec = ev' := Option.some.inj (n12.symm.trans p12)
          subst u2 u8 u10 u11 u12
          exact ⟨_, _, _, _, hbx2 0 _ rfl, hbx2 1 _ rfl, hbx2 2 _ rfl, hbx2 3 _ rfl, hbx2 4 _ rfl, ⟨_, hbx2 5 _ rfl, hbx2 6 _ rfl, hbx2 7 _ rfl, hbx2 8 _ rfl, pok, ExC.mono (cw_next hkb2) pxk⟩, hbx2 9 _ rfl, hbx2 10 _ rfl, hbx2 11 _ rfl, hbx2 12 _ rfl, j1, j2, j3, j4, StrC.mono (cw_next hkb2) j5, SlAt.imp j6 (fun _ _ _ _ => ArAt.mono (cw_next hkb2)), StC.mono (cw_next hkb2) pt, StC.mono (cw_next hkb2) pe⟩
        have hcp := copied_any false (d + 1) [s] (.slice (some ⟨wr.heap.size + 1, 0, none⟩) 1 1) 0 _ hst2 hwl
        rw [(by unfold wrap64; omega : wrap64 0 = 0), cpL_same] at hcp
        have HCP := Lib.hid hcp
        have f0 : ((wr.alloc (.cells #[.string f.nm, .slice a1 f.params.length c1, .slice a2 f.vars.length c2, .slice a3 f.body.length c3, .slice a4 f.fin.length c4] 55)).alloc (.cells #[.int .i64 s.id, .int .i64 s.kind, .slice la s.labels.length lc, .string s.nm, .string s.proc, .int .i64 s.x.op, .int .i64 s.x.n, .string s.x.nm, .slice ka s.x.ks.length kc, .bool s.has, .slice aa s.args.length ac, .slice ta s.thn.length tc, .slice ea s.els.length ec] 41)).cell? ⟨wr.heap.size, 0, none⟩ = some (.string f.nm) := by simp [go_sem]
        have F0 := Lib.hid f0
        clear hst1 hst2 hcp f0 hkb2 hbx2
        go_wp2_with fail
        refine HCP.out.mono ?_
        rintro e w5 ⟨v5, rfl, hst5, hb5⟩
        obtain ⟨g5, off5, c5, rfl, _, hcl5⟩ := SlAt.cells (show SlAt 13 (StAt _ d (StC _ d)) v5 [s] from hst5) (by simp)
        obtain ⟨lv', av', tv', ev', p0, p1, p2, p3, p4, ⟨kv', p5, p6, p7, p8, pok, pxk⟩, p9, p10, p11, p12, j1, j2, j3, j4, j5, j6, pt, pe⟩ := hcl5 0 (by simp)
        simp only [Nat.zero_mul, Nat.add_zero, List.getElem_cons_zero] at p0 p1 p2 p3 p4 p5 p6 p7 p8 p9 p10 p11 p12 pok pxk j1 j2 j3 j4 j5 j6 pt pe
        obtain ⟨la5, lc5, rfl, -, -⟩ := j5.form
        obtain ⟨aa5, ac5, rfl, -, -⟩ := j6.form
        obtain ⟨ta5, tc5, rfl, -, -⟩ := pt.form
        obtain ⟨ea5, ec5, rfl, -, -⟩ := pe.form
        obtain ⟨ka5, kc5, rfl, -, -⟩ := pxk.form
        have m0 : w5.cell? ⟨g5, off5, none⟩ = _ := p0.2
        have m1 : w5.cell? ⟨g5, off5 + 1, none⟩ = _ := p1.2
        have m2 : w5.cell? ⟨g5, off5 + 2, none⟩ = _ := p2.2
        have m3 : w5.cell? ⟨g5, off5 + 3, none⟩ = _ := p3.2
        have m4 : w5.cell? ⟨g5, off5 + 4, none⟩ = _ := p4.2
        have m5 : w5.cell? ⟨g5, off5 + 5, none⟩ = _ := p5.2
        have m6 : w5.cell? ⟨g5, off5 + 6, none⟩ = _ := p6.2
        have m7 : w5.cell? ⟨g5, off5 + 7, none⟩ = _ := p7.2
        have m8 : w5.cell? ⟨g5, off5 + 8, none⟩ = _ := p8.2
        have m9 : w5.cell? ⟨g5, off5 + 9, none⟩ = _ := p9.2
        have m10 : w5.cell? ⟨g5, off5 + 10, none⟩ = _ := p10.2
        have m11 : w5.cell? ⟨g5, off5 + 11, none⟩ = _ := p11.2
        have m12 : w5.cell? ⟨g5, off5 + 12, none⟩ = _ := p12.2
        have hg5 := p0.1
        have hsw : ((wr.alloc (.cells #[.string f.nm, .slice a1 f.params.length c1, .slice a2 f.vars.length c2, .slice a3 f.body.length c3, .slice a4 f.fin.length c4] 55)).alloc (.cells #[.int .i64 s.id, .int .i64 s.kind, .slice la s.labels.length lc, .string s.nm, .string s.proc, .int .i64 s.x.op, .int .i64 s.x.n, .string s.x.nm, .slice ka s.x.ks.length kc, .bool s.has, .slice aa s.args.length ac, .slice ta s.thn.length tc, .slice ea s.els.length ec] 41)).heap.size = wr.heap.size + 1 + 1 := by simp
        have F5 := Lib.hid (cell_next hb5 F0.out)
        have hbr := HKB2.out.trans (hb5.mono HKB2.out.size)
        have HR5 := Lib.hid (HBX.out.next hbr)
        have HF5 := Lib.hid (HFX.out.next (by omega) hbr)
        have HB5 := Lib.hid (HBEL.out.trans (hbr.mono HBEL.out.size))
        have HQ5 : Hid (StQ d (nwC ((wr.alloc (.cells #[.string f.nm, .slice a1 f.params.length c1, .slice a2 f.vars.length c2, .slice a3 f.body.length c3, .slice a4 f.fin.length c4] 55)).alloc (.cells #[.int .i64 s.id, .int .i64 s.kind, .slice la s.labels.length lc, .string s.nm, .string s.proc, .int .i64 s.x.op, .int .i64 s.x.n, .string s.x.nm, .slice ka s.x.ks.length kc, .bool s.has, .slice aa s.args.length ac, .slice ta s.thn.length tc, .slice ea s.els.length ec] 41)).heap.size w5) (stCells s (.slice ka5 s.x.ks.length kc5) (.slice la5 s.labels.length lc5) (.slice aa5 s.args.length ac5) (.slice ta5 s.thn.length tc5) (.slice ea5 s.els.length ec5)) s) := Lib.hid ⟨_, _, _, _, _, rfl, pok, pxk, j1, j2, j3, j4, j5, j6, pt, pe⟩
        have f0 := F5.out
        have r0 := HR5.out 0 _ rfl
        have z0 := HF5.out 0
        have r1 := HR5.out 1 _ rfl
        have z1 := HF5.out 1
        have r2 := HR5.out 2 _ rfl
        have z2 := HF5.out 2
        have r3 := HR5.out 3 _ rfl
        have z3 := HF5.out 3
        have r4 := HR5.out 4 _ rfl
        have z4 := HF5.out 4
        have r5 := HR5.out 5 _ rfl
        have z5 := HF5.out 5
        have r6 := HR5.out 6 _ rfl
        have z6 := HF5.out 6
        have r7 := HR5.out 7 _ rfl
        have z7 := HF5.out 7
        have r8 := HR5.out 8 _ rfl
        have z8 := HF5.out 8
        have r9 := HR5.out 9 _ rfl
        have z9 := HF5.out 9
        have r10 := HR5.out 10 _ rfl
        have z10 := HF5.out 10
        have r11 := HR5.out 11 _ rfl
        have z11 := HF5.out 11
        have r12 := HR5.out 12 _ rfl
        have z12 := HF5.out 12
        have ng : w.heap.size + 1 ≠ g5 := by rw [hsw] at hg5; omega
        have nf : w.heap.size + 1 ≠ wr.heap.size := by omega
        clear p0 p1 p2 p3 p4 p5 p6 p7 p8 p9 p10 p11 p12 pok pxk j1 j2 j3 j4 j5 j6 pt pe hcl5 hst5 hb5 hbr n0 n1 n2 n3 n4 n5 n6 n7 n8 n9 n10 n11 n12 hsw hg5
        go_upto_region 7 with fail
        go_region
        go_wp2_with fail
        have HX := box13 (a0 := .int .i64 s.id) (a1 := .int .i64 s.kind) (a2 := .slice la5 s.labels.length lc5) (a3 := .string s.nm) (a4 := .string s.proc) (a5 := .int .i64 s.x.op) (a6 := .int .i64 s.x.n) (a7 := .string s.x.nm) (a8 := .slice ka5 s.x.ks.length kc5) (a9 := .bool s.has) (a10 := .slice aa5 s.args.length ac5) (a11 := .slice ta5 s.thn.length tc5) (a12 := .slice ea5 s.els.length ec5) HR5.out rfl
        have q0 := HX 0 _ rfl
        have q1 := HX 1 _ rfl
        have q2 := HX 2 _ rfl
        have q3 := HX 3 _ rfl
        have q4 := HX 4 _ rfl
        have q5 := HX 5 _ rfl
        have q6 := HX 6 _ rfl
        have q7 := HX 7 _ rfl
        have q8 := HX 8 _ rfl
        have q9 := HX 9 _ rfl
        have q10 := HX 10 _ rfl
        have q11 := HX 11 _ rfl
        have q12 := HX 12 _ rfl
        refine bodyPost_ret (v := .tuple #[.string f.nm, .agg #[.int .i64 s.id, .int .i64 s.kind, .slice la5 s.labels.length lc5, .string s.nm, .string s.proc, .int .i64 s.x.op, .int .i64 s.x.n, .string s.x.nm, .slice ka5 s.x.ks.length kc5, .bool s.has, .slice aa5 s.args.length ac5, .slice ta5 s.thn.length tc5, .slice ea5 s.els.length ec5], .bool true]) (by simp [results, Try.results58, go_sem, q0, q1, q2, q3, q4, q5, q6, q7, q8, q9, q10, q11, q12]) rfl ?_
        rw [HFP.out]
        refine ⟨[.int .i64 s.id, .int .i64 s.kind, .slice la5 s.labels.length lc5, .string s.nm, .string s.proc, .int .i64 s.x.op, .int .i64 s.x.n, .string s.x.nm, .slice ka5 s.x.ks.length kc5, .bool s.has, .slice aa5 s.args.length ac5, .slice ta5 s.thn.length tc5, .slice ea5 s.els.length ec5], rfl, StQ.mono d _ _ _ _ ?_ HQ5.out, ?_⟩
        · refine Cs.le_trans (le13 (R := w.heap.size + 1) (by simp; omega)) (nw_le ?_ ((Below.refl _ _).drew))
          simp; omega
        · refine Below.drew ?_
          refine (((((((((((((HB5.out.setCell (p := ⟨_, _, none⟩) ?_ _).setCell (p := ⟨_, _, none⟩) ?_ _).setCell (p := ⟨_, _, none⟩) ?_ _).setCell (p := ⟨_, _, none⟩) ?_ _).setCell (p := ⟨_, _, none⟩) ?_ _).setCell (p := ⟨_, _, none⟩) ?_ _).setCell (p := ⟨_, _, none⟩) ?_ _).setCell (p := ⟨_, _, none⟩) ?_ _).setCell (p := ⟨_, _, none⟩) ?_ _).setCell (p := ⟨_, _, none⟩) ?_ _).setCell (p := ⟨_, _, none⟩) ?_ _).setCell (p := ⟨_, _, none⟩) ?_ _).setCell (p := ⟨_, _, none⟩) ?_ _) <;> simp
    · have hlt' : ¬ (k : Int) < (p.procs.length : Int) := by omega
      have hfp : findP id p.procs = none := findP_none fun j hj => HNO.out j hj (by omega)
      rw [hfr.out] at hfp
      have HFP := Lib.hid hfp
      have r0 := HBX.out 0 _ rfl
      have z0 := HFX.out 0
      have r1 := HBX.out 1 _ rfl
      have z1 := HFX.out 1
      have r2 := HBX.out 2 _ rfl
      have z2 := HFX.out 2
      have r3 := HBX.out 3 _ rfl
      have z3 := HFX.out 3
      have r4 := HBX.out 4 _ rfl
      have z4 := HFX.out 4
      have r5 := HBX.out 5 _ rfl
      have z5 := HFX.out 5
      have r6 := HBX.out 6 _ rfl
      have z6 := HFX.out 6
      have r7 := HBX.out 7 _ rfl
      have z7 := HFX.out 7
      have r8 := HBX.out 8 _ rfl
      have z8 := HFX.out 8
      have r9 := HBX.out 9 _ rfl
      have z9 := HFX.out 9
      have r10 := HBX.out 10 _ rfl
      have z10 := HFX.out 10
      have r11 := HBX.out 11 _ rfl
      have z11 := HFX.out 11
      have r12 := HBX.out 12 _ rfl
      have z12 := HFX.out 12
      clear hfp hbel hpr hno hbx hfx
      go_wp2_with fail
      have HX := box13 (a0 := .int .i64 0) (a1 := .int .i64 0) (a2 := .slice none 0 0) (a3 := .string ⟨#[]⟩) (a4 := .string ⟨#[]⟩) (a5 := .int .i64 0) (a6 := .int .i64 0) (a7 := .string ⟨#[]⟩) (a8 := .slice none 0 0) (a9 := .bool false) (a10 := .slice none 0 0) (a11 := .slice none 0 0) (a12 := .slice none 0 0) HBX.out rfl
      have q0 := HX 0 _ rfl
      have q1 := HX 1 _ rfl
      have q2 := HX 2 _ rfl
      have q3 := HX 3 _ rfl
      have q4 := HX 4 _ rfl
      have q5 := HX 5 _ rfl
      have q6 := HX 6 _ rfl
      have q7 := HX 7 _ rfl
      have q8 := HX 8 _ rfl
      have q9 := HX 9 _ rfl
      have q10 := HX 10 _ rfl
      have q11 := HX 11 _ rfl
      have q12 := HX 12 _ rfl
      refine bodyPost_ret (v := .tuple #[.string ⟨#[]⟩, .agg #[.int .i64 0, .int .i64 0, .slice none 0 0, .string ⟨#[]⟩, .string ⟨#[]⟩, .int .i64 0, .int .i64 0, .string ⟨#[]⟩, .slice none 0 0, .bool false, .slice none 0 0, .slice none 0 0, .slice none 0 0], .bool false]) (by simp [results, Try.results58, go_sem, q0, q1, q2, q3, q4, q5, q6, q7, q8, q9, q10, q11, q12]) rfl ?_
      rw [HFP.out]
      refine ⟨rfl, ?_⟩
      refine (((((((((((((HBEL.out.setCell (p := ⟨_, _, none⟩) ?_ _).setCell (p := ⟨_, _, none⟩) ?_ _).setCell (p := ⟨_, _, none⟩) ?_ _).setCell (p := ⟨_, _, none⟩) ?_ _).setCell (p := ⟨_, _, none⟩) ?_ _).setCell (p := ⟨_, _, none⟩) ?_ _).setCell (p := ⟨_, _, none⟩) ?_ _).setCell (p := ⟨_, _, none⟩) ?_ _).setCell (p := ⟨_, _, none⟩) ?_ _).setCell (p := ⟨_, _, none⟩) ?_ _).setCell (p := ⟨_, _, none⟩) ?_ _).setCell (p := ⟨_, _, none⟩) ?_ _).setCell (p := ⟨_, _, none⟩) ?_ _) <;> simp
end Go.Proofs.Ytghlmengcidmdaa.Tr
end
section
/- What flat's row says of find: the first item of an id is the statement that find tells; ids are one after another. No program. Conditions: the rows may be. -/
namespace Go.Proofs.Ytghlmengcidmdaa.Tr
open Go.RowKit Go.Proofs.Ytghlmengcidmdaa.Lx Go.Proofs.Ytghlmengcidmdaa.Wd
mutual
theorem preS_find (id : Int) : ∀ (s : St) (deep inn : Int) (els : Bool), ((preS deep inn els s).find? fun i => i.s.id == id).map It.s = findS id s
  | .mk i k ls nm pr x h ar th el, deep, inn, els => by
    rw [preS, findS, List.find?_cons]
    by_cases hi : i = id
    · simp [hi, St.id]
    · have : ((It.mk (.mk i k ls nm pr x h ar th el) deep inn els).s.id == id) = false := by simp [St.id, hi]
      rw [this, if_neg hi, List.find?_append]
      have h1 := preL_find id th (deep + 1) i false
      have h2 := preL_find id el (deep + 1) i true
      cases hf : (preL (deep + 1) i false th).find? fun i => i.s.id == id with
      | some a => rw [hf] at h1; simp at h1; simp [← h1]
      | none => rw [hf] at h1; simp at h1; rw [← h1]; simpa using h2
theorem preL_find (id : Int) : ∀ (l : List St) (deep inn : Int) (els : Bool), ((preL deep inn els l).find? fun i => i.s.id == id).map It.s = findL id l
  | [], deep, inn, els => by rw [preL, findL]; rfl
  | s :: r, deep, inn, els => by
    rw [preL, findL, List.find?_append]
    have h1 := preS_find id s deep inn els
    have h2 := preL_find id r deep inn els
    cases hf : (preS deep inn els s).find? fun i => i.s.id == id with
    | some a => rw [hf] at h1; simp at h1; simp [← h1]
    | none => rw [hf] at h1; simp at h1; rw [← h1]; simpa using h2
end
end Go.Proofs.Ytghlmengcidmdaa.Tr
end
section
/- The law ScopeSaid, walked: it returns true. Conditions: the arguments lie in memory. -/
namespace Go.Proofs.Ytghlmengcidmdaa.Tr
open Go.RowKit Go.Proofs.Ytghlmengcidmdaa.Lx Go.Proofs.Ytghlmengcidmdaa.Wd
set_option linter.unusedSimpArgs false
theorem findP_where {id : Int} : ∀ {l : List Pc} {nm : ByteArray} {s : St}, findP id l = some (nm, s) → ∃ f ∈ l, f.nm = nm ∧ s ∈ stsOf f := by
  intro l
  induction l with
  | nil => intro nm s h; cases h
  | cons f r ih =>
    intro nm s h
    rw [findP] at h
    cases hf : findL id f.body with
    | some t =>
      rw [hf] at h
      simp only [Option.some.injEq, Prod.mk.injEq] at h
      refine ⟨f, List.mem_cons_self, h.1, ?_⟩
      rw [← preL_find id f.body 1 0 false] at hf
      cases hp : (preL 1 0 false f.body).find? (fun i => i.s.id == id) with
      | none => rw [hp] at hf; cases hf
      | some i =>
        rw [hp] at hf
        have := List.mem_of_find?_eq_some hp
        unfold stsOf itsOf
        refine List.mem_map.2 ⟨i, this, ?_⟩
        rw [← h.2]
        simpa using hf
    | none =>
      rw [hf] at h
      obtain ⟨g, hg, h1, h2⟩ := ih h
      exact ⟨g, List.mem_cons_of_mem _ hg, h1, h2⟩
theorem known_parts {g procs : List ByteArray} {f : Pc} {s : St} (h : knownS g f procs s = true) : (∀ n ∈ saidS s, kindP g f n ≠ 0) ∧ (s.kind = 4 → s.proc ≠ sMain ∧ s.proc ∈ procs) := by
  unfold knownS at h
  rw [Bool.and_eq_true, List.all_eq_true] at h
  refine ⟨fun n hn => by have := h.1 n hn; simpa using this, fun hk => ?_⟩
  have h2 := h.2
  rw [hk] at h2
  simp only [beq_self_eq_true, Bool.not_true, Bool.false_or, Bool.and_eq_true, Bool.not_eq_true'] at h2
  exact ⟨same_no.1 h2.1, inB_iff.1 h2.2⟩
theorem well_st {p : Pr} {f : Pc} (hf : f ∈ p.procs) (h : (scopeP p).1 = 0) {s : St} (hs : s ∈ stsOf f) : knownS p.globals f (procNs p) s = true := by
  obtain ⟨-, -, h3⟩ := scope_code h
  exact (pc_parts (h3 f hf)).2.2 s hs
theorem well_call {p : Pr} (h : (scopeP p).1 = 0) {s : ByteArray} (hs : s ∈ procNs p) : (pcIn p s).isSome = true := by
  obtain ⟨h1, -, -⟩ := scope_code h
  unfold pcIn pcOf
  rw [if_pos h1, List.find?_isSome]
  obtain ⟨f, hf, rfl⟩ := List.mem_map.1 hs
  exact ⟨f, hf, same_text.2 rfl⟩
set_option maxHeartbeats 4000000 in
set_option maxRecDepth 100000 in
theorem law_scopeSaid {w : World} (d : Nat) (p : Pr) (gv pv : Value) (hp : PrC (cw w) d gv pv p) (id : Int) (_ : (Lit.int .i64 id).wf = true) :
    Calls Try.prog 14 #[.agg #[gv, pv], .int .i64 id] w fun e w' => e = .returned (.bool true) ∧ Below w.heap.size w w' := by
  obtain ⟨ga, gc, rfl, -, -⟩ := hp.1.form
  obtain ⟨pa, pc, rfl, hpl1, hpl2⟩ := hp.2.form
  have hpl : p.procs.length ≤ 9223372036854775807 := Nat.le_trans hpl1 hpl2
  have HP := Lib.hid hp
  clear hp hpl1 hpl2
  go_enter Try.func14, Try.ntmps14
  go_upto_region 1 with fail
  refine cut_world (fun wx => Below w.heap.size w wx ∧ BoxAt wx w.heap.size [.slice ga p.globals.length gc, .slice pa p.procs.length pc]) ⟨boxed _ _, box_new w #[.slice ga p.globals.length gc, .slice pa p.procs.length pc] 25⟩ ?_
  rintro w1 ⟨hb1, hx1⟩
  have HB1 := Lib.hid hb1
  have HX1 := Lib.hid hx1
  have HP1 := Lib.hid (PrC.mono (cw_next hb1) HP.out)
  clear hb1 hx1
  have p0 := HX1.out 0 _ rfl
  have p1 := HX1.out 1 _ rfl
  go_wp2_with fail
  refine (scoped_any _).mono ?_
  rintro e w2 ⟨rfl, hb2⟩
  have HX2 := Lib.hid (HX1.out.next hb2)
  have HP2 := Lib.hid (PrC.mono (cw_next hb2) HP1.out)
  have HB2 := Lib.hid (HB1.out.trans (hb2.mono HB1.out.size))
  clear hb2
  clear p0 p1
  have p0 := HX2.out 0 _ rfl
  have p1 := HX2.out 1 _ rfl
  go_wp2_with fail
  refine (fits_any d p _ _ _ HP2.out).mono ?_
  rintro e w3 ⟨b1, hf1, rfl, hb3⟩
  have HF1 := Lib.hid hf1
  clear hf1
  have HX3 := Lib.hid (HX2.out.next hb3)
  have HP3 := Lib.hid (PrC.mono (cw_next hb3) HP2.out)
  have HB3 := Lib.hid (HB2.out.trans (hb3.mono HB2.out.size))
  clear hb3
  clear p0 p1
  cases b1 with
  | false =>
    have p0 := HX3.out 0 _ rfl
    have p1 := HX3.out 1 _ rfl
    go_wp2_with fail
    go_ret
    exact ⟨rfl, HB3.out⟩
  | true =>
    have HWP := Lib.hid (HF1.out (by simp))
    have HROOM := Lib.hid (RoomP.of (Nat.le_trans HWP.out (by decide)))
    clear HF1
    have p0 := HX3.out 0 _ rfl
    have p1 := HX3.out 1 _ rfl
    go_wp2_with fail
    refine (scheck_any d p _ _ _ HP3.out HROOM.out).mono ?_
    rintro e w4 ⟨rfl, hb4⟩
    obtain ⟨SC, hSC⟩ : ∃ r, Hid ((scopeP p).1 = r) := ⟨_, Lib.hid rfl⟩
    obtain ⟨SI, hSI⟩ : ∃ r, Hid ((scopeP p).2 = r) := ⟨_, Lib.hid rfl⟩
    rw [hSC.out, hSI.out]
    have HX4 := Lib.hid (HX3.out.next hb4)
    have HP4 := Lib.hid (PrC.mono (cw_next hb4) HP3.out)
    have HB4 := Lib.hid (HB3.out.trans (hb4.mono HB3.out.size))
    clear hb4
    clear p0 p1
    have hfd := run_code SC SI
    by_cases hz : SC = 0
    · have hz1 : (SC == 0) = true := by simpa using hz
      have HWELL := Lib.hid (hSC.out.trans hz)
      have HZ := Lib.hid hz
      clear hz
      go_upto_region 7 with fail
      clear hfd hz1
      have p0 := HX4.out 0 _ rfl
      have p1 := HX4.out 1 _ rfl
      go_wp2_with fail
      refine (findP_any d p _ _ id _ HP4.out (wtPr_mem HWP.out)).mono ?_
      intro e w5 hfm
      cases hfp : findP id p.procs with
      | none =>
        rw [hfp] at hfm
        obtain ⟨rfl, hb5⟩ := hfm
        have HX5 := Lib.hid (HX4.out.next hb5)
        have HP5 := Lib.hid (PrC.mono (cw_next hb5) HP4.out)
        have HB5 := Lib.hid (HB4.out.trans (hb5.mono HB4.out.size))
        clear hb5
        clear p0 p1
        clear hfp
        unfold noSt
        go_upto_region 8 with fail
        refine cut_world (fun wx => Below w5.heap.size w5 wx) (boxed w5 _) ?_
        intro w6 hb6
        have HB6 := Lib.hid (HB5.out.trans (hb6.mono HB5.out.size))
        clear hb6
        go_wp2_with fail
        go_ret
        exact ⟨rfl, HB6.out⟩
      | some q =>
        obtain ⟨fnm, s⟩ := q
        rw [hfp] at hfm
        obtain ⟨c, rfl, ⟨kv, lv, av, tv, ev, rfl, hok, hk1, hj1, hj2, hj3, hj4, hl1, ha1, ht1, he1⟩, hb5⟩ := hfm
        obtain ⟨la, lc, rfl, -, -⟩ := hl1.form
        obtain ⟨aa, ac, rfl, -, -⟩ := ha1.form
        obtain ⟨ta, tc, rfl, -, -⟩ := ht1.form
        obtain ⟨ea, ec, rfl, -, -⟩ := he1.form
        obtain ⟨ka, kc, rfl, -, -⟩ := hk1.form
        have hle : Cs.le (nwC w4.heap.size w5) (cw w5) := fun _ _ _ h => h.2
        have HH5 : Hid (Hang d w5 s (.slice la s.labels.length lc) (.slice ka s.x.ks.length kc) (.slice aa s.args.length ac) (.slice ta s.thn.length tc) (.slice ea s.els.length ec)) := Lib.hid ⟨StrC.mono hle hl1, ExC.mono hle hk1, SlAt.imp ha1 (fun _ _ _ _ => ArAt.mono hle), StC.mono hle ht1, StC.mono hle he1⟩
        have HOK := Lib.hid hok
        have HJ3 := Lib.hid hj3
        obtain ⟨f, hmem, hfn, hst⟩ := findP_where hfp
        have hkn := well_st hmem HWELL.out hst
        obtain ⟨hkn1, hkn2⟩ := known_parts hkn
        have hsd := HROOM.out.said f hmem s hst
        have hpc := well_pc hmem HWELL.out
        subst hfn
        have HKN : Hid (∀ n ∈ saidS s, kindIn p f.nm n ≠ 0) := Lib.hid (fun n hn => by unfold kindIn; rw [hpc]; exact hkn1 n hn)
        have HKC : Hid (s.kind = 4 → s.proc ≠ sMain ∧ (pcIn p s.proc).isSome = true) := Lib.hid (fun hk => ⟨(hkn2 hk).1, well_call HWELL.out (hkn2 hk).2⟩)
        have HSD := Lib.hid hsd
        clear hfp hok hk1 hj1 hj2 hj3 hj4 hl1 ha1 ht1 he1 hle hmem hst hkn hkn1 hkn2 hsd hpc
        unfold stCells
        have HX5 := Lib.hid (HX4.out.next hb5)
        have HP5 := Lib.hid (PrC.mono (cw_next hb5) HP4.out)
        have HB5 := Lib.hid (HB4.out.trans (hb5.mono HB4.out.size))
        clear hb5
        clear p0 p1
        go_upto_region 8 with fail
        refine cut_world (fun wx => Below w5.heap.size w5 wx ∧ BoxAt wx w5.heap.size [.int .i64 s.id, .int .i64 s.kind, .slice la s.labels.length lc, .string s.nm, .string s.proc, .int .i64 s.x.op, .int .i64 s.x.n, .string s.x.nm, .slice ka s.x.ks.length kc, .bool s.has, .slice aa s.args.length ac, .slice ta s.thn.length tc, .slice ea s.els.length ec]) ⟨boxed w5 _, box_new w5 #[.int .i64 s.id, .int .i64 s.kind, .slice la s.labels.length lc, .string s.nm, .string s.proc, .int .i64 s.x.op, .int .i64 s.x.n, .string s.x.nm, .slice ka s.x.ks.length kc, .bool s.has, .slice aa s.args.length ac, .slice ta s.thn.length tc, .slice ea s.els.length ec] 41⟩ ?_
        rintro w6 ⟨hb6, ht6⟩
        have HT6 := Lib.hid ht6
        have HH6 := Lib.hid (HH5.out.next hb6)
        have HX6 := Lib.hid (HX5.out.next hb6)
        have HP6 := Lib.hid (PrC.mono (cw_next hb6) HP5.out)
        have HB6 := Lib.hid (HB5.out.trans (hb6.mono HB5.out.size))
        clear hb6 ht6
        have hsd2 : (saidS s).length ≤ 1000000 := by have := HSD.out; omega
        go_wp2_with (refine wpList_load_mid rfl 41 (.tmp 6) rfl w5.heap.size 0 rfl [.int .i64 s.id, .int .i64 s.kind, .slice la s.labels.length lc, .string s.nm, .string s.proc, .int .i64 s.x.op, .int .i64 s.x.n, .string s.x.nm, .slice ka s.x.ks.length kc, .bool s.has, .slice aa s.args.length ac, .slice ta s.thn.length tc, .slice ea s.els.length ec] _ (fun j v hv => by rw [Nat.zero_add]; exact HT6.out j v hv) Try.underlying41 rfl (by kernel_rfl) ?_)
        refine (rsaid_any d s la ka aa ta ea lc kc ac tc ec _ HH6.out HOK.out HJ3.out hsd2).mono ?_
        rintro e w7 ⟨nv, rfl, hs7, hb7⟩
        obtain ⟨LS, hLS⟩ : ∃ L, Hid (saidS s = L) := ⟨_, Lib.hid rfl⟩
        rw [hLS.out] at hs7 hsd2 HKN
        have HS7 := Lib.hid (hs7.strs (by omega))
        obtain ⟨sa, sc, rfl⟩ := ownsForm hs7.1
        have HT7 := Lib.hid (HT6.out.next hb7)
        have HX7 := Lib.hid (HX6.out.next hb7)
        have HP7 := Lib.hid (PrC.mono (cw_next hb7) HP6.out)
        have HB7 := Lib.hid (HB6.out.trans (hb7.mono HB6.out.size))
        clear hb7 hs7
        go_wp2_with fail
        obtain ⟨W7, hW7⟩ : ∃ x : World, x = w7 := ⟨_, rfl⟩
        subst hW7
        go_loopw [33] (fun i wr => ∃ q : Nat, q ≤ LS.length ∧ i = .int .i64 q ∧ Below W7.heap.size W7 wr) (fun i _ => (LS.length - intOf i).toNat)
        case atStart => exact ⟨0, by omega, rfl, Below.refl _ _⟩
        case round =>
          obtain ⟨q, hq, rfl, hbq⟩ := hrel
          obtain ⟨wq, hwq⟩ : ∃ x : World, x = wr := ⟨_, rfl⟩
          subst hwq
          have HBQ := Lib.hid hbq
          have HSQ := Lib.hid (HS7.out.next hbq)
          have HTQ := Lib.hid (HT7.out.next hbq)
          have HXQ := Lib.hid (HX7.out.next hbq)
          have HPQ := Lib.hid (PrC.mono (cw_next hbq) HP7.out)
          have HBBQ := Lib.hid (HB7.out.trans (hbq.mono HB7.out.size))
          clear hbq
          by_cases hlt : q < LS.length
          · have hlt' : (q : Int) < (LS.length : Int) := by omega
            have h0q : (0 : Int) ≤ (q : Int) := by omega
            have hne : LS ≠ [] := by intro h; rw [h] at hlt; simp at hlt
            obtain ⟨gs, os, caps, hvs, hcs⟩ := HSQ.out.cells hne
            simp only [Value.slice.injEq] at hvs
            obtain ⟨rfl, -, rfl⟩ := hvs
            obtain ⟨-, c0⟩ := hcs q hlt
            have hkq := HKN.out LS[q] (List.getElem_mem hlt)
            obtain ⟨n, hn⟩ : ∃ s, Hid (LS[q] = s) := ⟨_, Lib.hid rfl⟩
            rw [hn.out] at c0 hkq
            have HKQ := Lib.hid hkq
            clear hcs hne hkq
            have p0 := HXQ.out 0 _ rfl
            have p1 := HXQ.out 1 _ rfl
            go_wp2_with fail
            refine (skind_any d p _ _ f.nm n _ HPQ.out).mono ?_
            rintro e w8 ⟨rfl, hb8⟩
            obtain ⟨KI, hKI⟩ : ∃ k, Hid (kindIn p f.nm n = k) := ⟨_, Lib.hid rfl⟩
            have hkb : (KI == 0) = false := by rw [← hKI.out]; simpa using HKQ.out
            rw [hKI.out]
            have HN8 := Lib.hid hb8
            clear hb8 p0 p1 c0
            go_wp2_with fail
            go_roundw
            case rel => exact ⟨q + 1, by omega, by go_num, HBQ.out.trans (HN8.out.mono HBQ.out.size)⟩
            case measure => simp [intOf]; omega
          · have hlt' : ¬ (q : Int) < (LS.length : Int) := by omega
            have p0 := HXQ.out 0 _ rfl
            have p1 := HXQ.out 1 _ rfl
            have t4 := HTQ.out 4 _ rfl
            go_wp2_with fail
            refine (sproc_any d p _ _ s.proc _ HPQ.out HWP.out).mono ?_
            intro e w8 hpm
            obtain ⟨b1, b2, b3, b4, k1, k2, k3, k4, rfl, -, -, hb8⟩ := hpm.all
            obtain ⟨F2, hF2⟩ : ∃ f, Hid ((pcIn p s.proc).getD zPc = f) := ⟨_, Lib.hid rfl⟩
            obtain ⟨OK2, hOK2⟩ : ∃ b, Hid ((pcIn p s.proc).isSome = b) := ⟨_, Lib.hid rfl⟩
            rw [hF2.out, hOK2.out]
            rw [hOK2.out] at HKC
            have HT8 := Lib.hid (HTQ.out.next hb8)
            have HB8 := Lib.hid (HBBQ.out.trans (hb8.mono HBBQ.out.size))
            clear hpm hb8 p0 p1 t4
            go_upto_region 17 with fail
            refine cut_world (fun wx => Below w8.heap.size w8 wx) (boxed w8 _) ?_
            intro w9 hb9
            have HT9 := Lib.hid (HT8.out.next hb9)
            have HB9 := Lib.hid (HB8.out.trans (hb9.mono HB8.out.size))
            clear hb9
            have t1 := HT9.out 1 _ rfl
            have t4 := HT9.out 4 _ rfl
            by_cases hk4 : s.kind = 4
            · obtain ⟨hm1, hm2⟩ := HKC.out hk4
              have hkb : (s.kind == 4) = true := by simpa using hk4
              have hkb2 : (s.kind != 4) = false := by rw [hk4]; rfl
              have hmb : (s.proc.toList == [109, 97, 105, 110]) = false := by rw [← main_list]; exact same_no.2 hm1
              have hmb2 : (s.proc.toList != [109, 97, 105, 110]) = true := by rw [bne, hmb]; rfl
              subst hm2
              clear hk4 hm1
              go_wp2_with fail
              go_ret
              exact ⟨rfl, HB9.out⟩
            · have hkb : (s.kind == 4) = false := by simpa using hk4
              have hkb2 : (s.kind != 4) = true := by rw [bne, hkb]; rfl
              clear hk4
              go_wp2_with fail
              go_ret
              exact ⟨rfl, HB9.out⟩
    · have hz1 : (SC == 0) = false := by simpa using hz
      have HZ := Lib.hid hz
      clear hz
      go_wp2_with fail
      go_ret
      exact ⟨rfl, HB4.out⟩
end Go.Proofs.Ytghlmengcidmdaa.Tr
end
