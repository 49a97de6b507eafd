/- Parts of OfP, OfW: walks and plain laws that later texts use. Conditions: as each statement says. -/
import Derived.Test.YtghlmengcidmdaaSa0
import Derived.Test.YtghlmengcidmdaaSa1
import Derived.Test.YtghlmengcidmdaaSa2
import Derived.Test.YtghlmengcidmdaaSa3
import Derived.Test.YtghlmengcidmdaaSa4
import Derived.Test.YtghlmengcidmdaaSa5
import Derived.Test.YtghlmengcidmdaaSa6
import Derived.Test.YtghlmengcidmdaaSa7
import Derived.Test.YtghlmengcidmdaaSa8
import Derived.Test.YtghlmengcidmdaaSa9
import Derived.Test.YtghlmengcidmdaaSa10
import Derived.Test.YtghlmengcidmdaaSa11
import Derived.Test.YtghlmengcidmdaaSa12
import Derived.Test.YtghlmengcidmdaaSa13
import Derived.Test.YtghlmengcidmdaaSa14
import Derived.Test.YtghlmengcidmdaaSa15
import Derived.Test.YtghlmengcidmdaaSa16
import Derived.Test.YtghlmengcidmdaaSa17
import Derived.Test.YtghlmengcidmdaaSa20
import Derived.Test.YtghlmengcidmdaaSa21
import Derived.Test.YtghlmengcidmdaaSa28
import Derived.Test.YtghlmengcidmdaaSa30
import Derived.Test.YtghlmengcidmdaaSa31
import Derived.Test.YtghlmengcidmdaaSa32
import Derived.Test.YtghlmengcidmdaaSa35
import Derived.Test.YtghlmengcidmdaaSa36
import Derived.RegionTactic
import Derived.IntWalk
import Derived.Deep.QuietTactic
import Derived.BigQuiet
import Derived.StillTailTactics
import Derived.Deep.RegionHeld3
import Derived.Deep.DeepCutAuto
import Derived.Deep.RegionLaw
import Derived.Deep.RegionWith
import Derived.Laws.Cover3
import Derived.Maps.Range
import Derived.Outline
import Derived.Lib.SmallJoins
import Derived.Deep.Upon
import Derived.Maps.AppendAt
import Derived.Laws.OwnMore
import Derived.Deep.AppendLies
import Derived.Deep.CutBlock
import Derived.Laws.StructEq
import Derived.WalkKit
import Derived.Test.YtghlmengcidmdaaRows
import Derived.WalkSpells
import Derived.Lib.Hide
import Derived.Below
import Derived.WalkSmall
import Derived.OrdersHeld
import Derived.Deep.MidRow
import Derived.Laws.BitsAllLaws
import Derived.OwnWalk
import Derived.OneCell
import Derived.Deep.Slices
import Derived.Deep.Fields
import Derived.SliceStrings
import Derived.ChangeSlices
section
/- A part of a slice. No program's code. Conditions: the bounds are in it. -/
namespace Go.Proofs.Ytghlmengcidmdaa.Tr
open Go.RowKit Go.Proofs.Ytghlmengcidmdaa.Lx Go.Proofs.Ytghlmengcidmdaa.Wd
theorem run_sub (T e : TypeId) (hT : Try.prog.underlying T = some (.slice e)) (sz : Nat) (hs : ∀ w, (sizeOf e).run Try.prog w = .ok sz w) (a : Option Addr) (n cap lo hi : Nat) (x y : Int) (hx : x = lo) (hy : y = hi) (hlo : lo ≤ hi) (hk : hi ≤ cap) (_ : cap ≤ 9223372036854775807) (w : World) :
    (Instr.slice T (.slice a n cap) (some (.int .i64 x)) (some (.int .i64 y)) none).run Try.prog w = .ok (.slice (if cap = lo then a else a.map fun q => q.add (lo * sz)) (hi - lo) (cap - lo)) w := by
  subst hx hy
  by_cases h : cap = lo
  · rw [if_pos h]
    subst h
    cases a with
    | none => simp [go_sem, hT, hs, hk, hlo]
    | some a => simp [go_sem, hT, hs, hk, hlo]
  · rw [if_neg h]
    cases a with
    | none => simp [go_sem, hT, hs, hk, hlo]
    | some a => simp [go_sem, hT, hs, hk, hlo, h]
theorem SlAt.sub {α : Type} {size : Nat} {P : Nat → Nat → α → Prop} {a : Option Addr} {n c : Nat} {l : List α} (h : SlAt size P (.slice a n c) l) {lo hi : Nat} (h1 : lo ≤ hi) (h2 : hi ≤ l.length) : SlAt size P (.slice (if c = lo then a else a.map fun q => q.add (lo * size)) (hi - lo) (c - lo)) ((l.drop lo).take (hi - lo)) := by
  have hlen : ((l.drop lo).take (hi - lo)).length = hi - lo := by rw [List.length_take, List.length_drop]; omega
  obtain ⟨a', c', hv, hc1, hc2⟩ := h.form
  injection hv with e1 e2 e3
  subst e1 e3
  refine ⟨_, _, by rw [hlen], by omega, by omega, fun hne => ?_⟩
  have hlt : lo < hi := by
    rcases Nat.lt_or_ge lo hi with h' | h'
    · exact h'
    · exfalso; apply hne; exact List.eq_nil_of_length_eq_zero (by omega)
  have hnl : l ≠ [] := by intro e; subst e; simp at h2; omega
  obtain ⟨g, off, cap, hv', _, hc⟩ := h.cells hnl
  injection hv' with e1' e2' e3'
  subst e1'
  rw [if_neg (by omega)]
  refine ⟨g, off + lo * size, by simp [Addr.add], fun i hi' => ?_⟩
  rw [List.getElem_take, List.getElem_drop]
  have := hc (lo + i) (by omega)
  rwa [Nat.add_mul, ← Nat.add_assoc] at this
end Go.Proofs.Ytghlmengcidmdaa.Tr
end
section
/- What Of of flat's Sheet tells: a procedure's part. Conditions: the sheet stands in memory. -/
namespace Go.Proofs.Ytghlmengcidmdaa.Tr
open Go.RowKit Go.Proofs.Ytghlmengcidmdaa.Lx Go.Proofs.Ytghlmengcidmdaa.Wd
theorem cntP_le (l : List Pc) (k : Nat) : cntP (l.take k) ≤ cntP l := by
  conv => rhs; rw [← List.take_append_drop k l]
  unfold cntP
  rw [List.map_append, List.sum_append]
  omega
set_option maxHeartbeats 4000000 in
set_option maxRecDepth 100000 in
theorem of_any (B D : Nat) (p : Pr) (Y : Nat) (gv pv lov hiv v : Value) (rows : List (List Value)) (i : Nat) (hi : i < p.procs.length) (w : World) (h : SheetSt B D w Y gv pv lov hiv v (losOf p.procs p.procs.length) (hisOf p.procs p.procs.length) (sheetOf p) rows) (hm : cntP p.procs ≤ 1000000) :
    Calls Try.prog 88 #[.pointer (some ⟨Y, 0, none⟩), .int .i64 i] w fun e w' => ∃ sv, e = .returned sv ∧ SlAt 17 (FiAt (cw w) D) sv (partOf p i) ∧ Below w.heap.size w w' := by
  have hlo := h.lo
  have hhi := h.hi
  unfold RowN at hlo hhi
  have c1 : ∃ g1 k1, lov = .slice (some ⟨g1, 0, none⟩) p.procs.length k1 ∧ w.cell? ⟨g1, i, none⟩ = some (.int .i64 ((cntP (p.procs.take i) : Int) + 1)) := by
    rcases hlo.2 with ⟨-, hn⟩ | ⟨g1, cap1, cur1, hv1, -⟩
    · rw [los_len] at hn; omega
    · rw [los_len] at hv1
      have := hlo.cells (g := g1) (by rw [hv1]; rfl) i (.int .i64 ((cntP (p.procs.take i) : Int) + 1)) (by rw [List.getElem?_map, List.getElem?_eq_getElem (by rw [los_len]; exact hi), los_at]; rfl)
      rw [Addr.add_lit, Nat.zero_add] at this
      exact ⟨g1, cap1, hv1, this⟩
  have c2 : ∃ g1 k1, hiv = .slice (some ⟨g1, 0, none⟩) p.procs.length k1 ∧ w.cell? ⟨g1, i, none⟩ = some (.int .i64 ((cntP (p.procs.take (i + 1)) : Int) + 1)) := by
    rcases hhi.2 with ⟨-, hn⟩ | ⟨g1, cap1, cur1, hv1, -⟩
    · rw [his_len] at hn; omega
    · rw [his_len] at hv1
      have := hhi.cells (g := g1) (by rw [hv1]; rfl) i (.int .i64 ((cntP (p.procs.take (i + 1)) : Int) + 1)) (by rw [List.getElem?_map, List.getElem?_eq_getElem (by rw [his_len]; exact hi), his_at]; rfl)
      rw [Addr.add_lit, Nat.zero_add] at this
      exact ⟨g1, cap1, hv1, this⟩
  obtain ⟨g1, k1, rfl, l1⟩ := c1
  obtain ⟨g2, k2, rfl, l2⟩ := c2
  have hsl := h.sh.row.sl
  obtain ⟨va, vc, rfl, hv1, hv2⟩ := hsl.form
  have hln : (sheetOf p).length = cntP p.procs := by unfold sheetOf; rw [sheetPs_len]; simp
  have hA := cntP_le p.procs i
  have hE := cntP_le p.procs (i + 1)
  have hAE := cntP_take hi
  have hpart : partOf p i = ((sheetOf p).drop (cntP (p.procs.take i))).take (cntP (p.procs.take (i + 1)) - cntP (p.procs.take i)) := rfl
  obtain ⟨A, hA'⟩ : ∃ A, Hid (cntP (p.procs.take i) = A) := ⟨_, Lib.hid rfl⟩
  obtain ⟨E, hE'⟩ : ∃ E, Hid (cntP (p.procs.take (i + 1)) = E) := ⟨_, Lib.hid rfl⟩
  rw [hA'.out] at l1 hA hAE hpart
  rw [hE'.out] at l2 hE hAE hpart
  have HSUB := Lib.hid (SlAt.sub hsl (show A ≤ E by omega) (by omega))
  have y2 := h.sh.box 2 _ rfl
  have y3 := h.sh.box 3 _ rfl
  have y4 := h.sh.box 4 _ rfl
  have hcut := run_sub 89 95 Try.underlying89 17 (fun _ => by kernel_rfl) va (sheetOf p).length vc A E _ _ rfl rfl (by omega) (by omega) hv2
  obtain ⟨AD, hAD⟩ : ∃ x, Hid ((if vc = A then va else va.map fun q => q.add (A * 17)) = x) := ⟨_, Lib.hid rfl⟩
  rw [hAD.out] at hcut HSUB
  have w1 : IntKind.i64.wrap ((A : Int) + 1 - 1) = (A : Int) := by rw [IntWalk.i64_in _ (by omega)]; omega
  have w2 : IntKind.i64.wrap ((E : Int) + 1 - 1) = (E : Int) := by rw [IntWalk.i64_in _ (by omega)]; omega
  have w3 : IntKind.i64.wrap (A : Int) = (A : Int) := IntWalk.i64_in _ (by omega)
  have w4 : IntKind.i64.wrap (E : Int) = (E : Int) := IntWalk.i64_in _ (by omega)
  have hi' : (i : Int) < (p.procs.length : Int) := by omega
  have h0i : (0 : Int) ≤ (i : Int) := by omega
  have HPART := Lib.hid hpart
  clear h hlo hhi hsl hv1 hv2 hln hA hE hAE hpart
  go_enter Try.func88, Try.ntmps88
  go_wp2_with fail
  go_quiet (fail)
  go_wp2_with fail
  go_ret
  exact ⟨_, rfl, by rw [HPART.out]; exact HSUB.out, by first | exact below_drewN (Below.refl _ _) _ | exact (Below.refl _ _).drew⟩
end Go.Proofs.Ytghlmengcidmdaa.Tr
end
