/- Parts of ScopeP, OneP, TMod, ProcAtW, ScopeOneW: walks and plain laws that later texts use. Conditions: as each statement says. -/
import Derived.Test.YtghlmengcidmdaaSa0
import Derived.Test.YtghlmengcidmdaaSa1
import Derived.Test.YtghlmengcidmdaaSa10
import Derived.Test.YtghlmengcidmdaaSa11
import Derived.Test.YtghlmengcidmdaaSa12
import Derived.Test.YtghlmengcidmdaaSa13
import Derived.Test.YtghlmengcidmdaaSa14
import Derived.Test.YtghlmengcidmdaaSa15
import Derived.Test.YtghlmengcidmdaaSa16
import Derived.Test.YtghlmengcidmdaaSa17
import Derived.Test.YtghlmengcidmdaaSa18
import Derived.Test.YtghlmengcidmdaaSa19
import Derived.Test.YtghlmengcidmdaaSa2
import Derived.Test.YtghlmengcidmdaaSa20
import Derived.Test.YtghlmengcidmdaaSa21
import Derived.Test.YtghlmengcidmdaaSa22
import Derived.Test.YtghlmengcidmdaaSa23
import Derived.Test.YtghlmengcidmdaaSa24
import Derived.Test.YtghlmengcidmdaaSa25
import Derived.Test.YtghlmengcidmdaaSa26
import Derived.Test.YtghlmengcidmdaaSa27
import Derived.Test.YtghlmengcidmdaaSa28
import Derived.Test.YtghlmengcidmdaaSa29
import Derived.Test.YtghlmengcidmdaaSa3
import Derived.Test.YtghlmengcidmdaaSa30
import Derived.Test.YtghlmengcidmdaaSa31
import Derived.Test.YtghlmengcidmdaaSa32
import Derived.Test.YtghlmengcidmdaaSa33
import Derived.Test.YtghlmengcidmdaaSa34
import Derived.Test.YtghlmengcidmdaaSa35
import Derived.Test.YtghlmengcidmdaaSa36
import Derived.Test.YtghlmengcidmdaaSa37
import Derived.Test.YtghlmengcidmdaaSa38
import Derived.Test.YtghlmengcidmdaaSa4
import Derived.Test.YtghlmengcidmdaaSa40
import Derived.Test.YtghlmengcidmdaaSa5
import Derived.Test.YtghlmengcidmdaaSa6
import Derived.Test.YtghlmengcidmdaaSa7
import Derived.Test.YtghlmengcidmdaaSa8
import Derived.Test.YtghlmengcidmdaaSa9
import Derived.Deep.Slices
import Derived.Deep.Fields
import Derived.Lib.SmallJoins
import Derived.SliceStrings
import Derived.ChangeSlices
import Derived.IntWalk
import Derived.Outline
import Derived.Deep.RegionLaw
import Derived.Deep.DeepCutAuto
import Derived.Deep.RegionHeld3
import Derived.Deep.QuietTactic
import Derived.BigQuiet
import Derived.OwnWalk
import Derived.OneCell
import Derived.Deep.AppendLies
import Derived.WalkKit
import Derived.Test.YtghlmengcidmdaaRows
import Derived.WalkSpells
import Derived.Lib.Hide
import Derived.Below
import Derived.WalkSmall
import Derived.Maps.Range
import Derived.Deep.Upon
import Derived.Maps.AppendAt
import Derived.Laws.OwnMore
import Derived.RegionTactic
import Derived.Laws.StructEq
import Derived.Deep.CutBlock
import Derived.Deep.RegionWith
import Derived.Laws.Cover3
import Derived.StillTailTactics
import Derived.Laws.BitsAllLaws
import Derived.OrdersHeld
import Derived.Deep.MidRow
section
/- What names stand for, and the first fault of a program's names. No program. Conditions: none. -/
namespace Go.Proofs.Ytghlmengcidmdaa.Tr
open Go.RowKit Go.Proofs.Ytghlmengcidmdaa.Lx Go.Proofs.Ytghlmengcidmdaa.Wd
theorem parK_zero {s : ByteArray} {l : List Pa} : parK s l = 0 ↔ s ∉ l.map Pa.nm := by
  unfold parK
  cases h : l.find? (fun a => a.nm.toList == s.toList) with
  | none =>
    rw [List.find?_eq_none] at h
    simp only [List.mem_map, not_exists, not_and, true_iff]
    intro a ha he
    exact h a ha (same_text.2 he)
  | some a =>
    have h1 := List.find?_some h
    have h2 := List.mem_of_find?_eq_some h
    rw [same_text] at h1
    constructor
    · intro he
      simp only at he
      split at he <;> omega
    · intro hn
      exact absurd (List.mem_map.2 ⟨a, h2, h1⟩) hn
end Go.Proofs.Ytghlmengcidmdaa.Tr
end
section
/- What holds of a program whose names are well. No program's code. Conditions: as each statement says. -/
namespace Go.Proofs.Ytghlmengcidmdaa.Tr
open Go.RowKit Go.Proofs.Ytghlmengcidmdaa.Lx Go.Proofs.Ytghlmengcidmdaa.Wd
theorem scope_code {p : Pr} (h : (scopeP p).1 = 0) : mayP p = true ∧ headFault p = false ∧ ∀ f ∈ p.procs, pcFault p.globals (procNs p) f = none := by
  unfold scopeP at h
  cases h1 : mayP p with
  | false => rw [h1] at h; simp at h
  | true =>
    rw [h1] at h
    cases h2 : headFault p with
    | true => rw [h2] at h; simp at h
    | false =>
      rw [h2] at h
      cases h3 : p.procs.findSome? (pcFault p.globals (procNs p)) with
      | some i => rw [h3] at h; simp at h
      | none => exact ⟨rfl, rfl, by rw [List.findSome?_eq_none_iff] at h3; exact h3⟩
theorem pc_parts {g procs : List ByteArray} {f : Pc} (h : pcFault g procs f = none) : twiceB (ownNs f) = false ∧ ((ownNs f).any fun n => inB n g) = false ∧ ∀ s ∈ stsOf f, knownS g f procs s = true := by
  unfold pcFault at h
  cases h1 : twiceB (ownNs f) with
  | true => rw [h1] at h; simp at h
  | false =>
    cases h2 : (ownNs f).any fun n => inB n g with
    | true => rw [h1, h2] at h; simp at h
    | false =>
      rw [h1, h2, Bool.or_false, if_neg Bool.false_ne_true, Option.map_eq_none_iff, List.find?_eq_none] at h
      exact ⟨rfl, rfl, fun s hs => by have := h s hs; simpa using this⟩
theorem head_parts {p : Pr} (h : headFault p = false) : twiceB p.globals = false ∧ twiceB (procNs p) = false ∧ ∃ f, pcOf p.procs sMain = some f ∧ f.params = [] := by
  unfold headFault at h
  rw [Bool.or_eq_false_iff, Bool.or_eq_false_iff] at h
  refine ⟨h.1.1, h.1.2, ?_⟩
  cases h3 : pcOf p.procs sMain with
  | none => rw [h3] at h; simp at h
  | some f =>
    rw [h3] at h
    refine ⟨f, rfl, ?_⟩
    have := h.2
    simp only [decide_eq_false_iff_not] at this
    exact List.eq_nil_of_length_eq_zero (by omega)
theorem nodup_of {l : List ByteArray} (h : twiceB l = false) : l.Nodup := by
  unfold twiceB at h
  simpa using h
theorem nodup_get {l : List ByteArray} (h : l.Nodup) {i j : Nat} (hi : i < l.length) (hj : j < l.length) (he : l[i] = l[j]) : i = j := (List.getElem_inj (h₀ := hi) (h₁ := hj) h).1 he
theorem pc_first {l : List Pc} (h : twiceB (l.map Pc.nm) = false) {k : Nat} (hk : k < l.length) : pcOf l l[k].nm = some l[k] := by
  unfold pcOf
  refine fst_at hk (fun j hj hjk => ?_) (same_text.2 rfl)
  rw [same_no]
  intro he
  have := nodup_get (nodup_of h) (i := j) (j := k) (by simpa using hj) (by simpa using hk) (by simpa using he)
  omega
/-- A procedure's name, by a number. -/
def procAtP (p : Pr) (n : Int) : ByteArray := match p.procs[(n % (p.procs.length : Int)).toNat]? with
  | some f => f.nm
  | none => ⟨#[]⟩
theorem mod_at {n : Int} {k : Nat} (hk : 0 < k) : (n % (k : Int)).toNat < k ∧ n % (k : Int) = ((n % (k : Int)).toNat : Int) := by
  have h0 := Int.emod_nonneg n (b := (k : Int)) (by omega)
  have h1 := Int.emod_lt_of_pos n (b := (k : Int)) (by omega)
  omega
theorem procAt_some {p : Pr} {n : Int} (hk : 0 < p.procs.length) : procAtP p n = (p.procs[(n % (p.procs.length : Int)).toNat]'(mod_at hk).1).nm := by
  unfold procAtP
  rw [List.getElem?_eq_getElem (mod_at hk).1]
theorem procAt_none {p : Pr} {n : Int} (hk : p.procs.length = 0) : procAtP p n = ⟨#[]⟩ := by
  unfold procAtP
  rw [List.getElem?_eq_none (by omega)]
theorem parK_get {l : List Pa} (h : (l.map Pa.nm).Nodup) {j : Nat} (hj : j < l.length) : parK l[j].nm l = if l[j].ref then 3 else 2 := by
  refine parK_at hj (fun i hi hij => ?_) (same_text.2 rfl)
  rw [same_no]
  intro he
  have := nodup_get h (i := i) (j := j) (by simpa using hi) (by simpa using hj) (by simpa using he)
  omega
section
variable {p : Pr} {f : Pc} (hf : f ∈ p.procs) (h : (scopeP p).1 = 0)
include hf h
theorem well_own : (ownNs f).Nodup ∧ (∀ s ∈ ownNs f, s ∉ p.globals) := by
  obtain ⟨-, -, h3⟩ := scope_code h
  obtain ⟨h4, h5, -⟩ := pc_parts (h3 f hf)
  refine ⟨nodup_of h4, fun s hs hg => ?_⟩
  rw [List.any_eq_false] at h5
  exact h5 s hs (inB_iff.2 hg)
theorem well_pc : pcIn p f.nm = some f := by
  obtain ⟨h1, h2, -⟩ := scope_code h
  obtain ⟨-, h4, -⟩ := head_parts h2
  obtain ⟨k, hk, rfl⟩ := List.getElem_of_mem hf
  unfold pcIn
  rw [if_pos h1]
  exact pc_first h4 hk
theorem well_glob {s : ByteArray} (hs : s ∈ p.globals) : kindIn p f.nm s = 1 := by
  obtain ⟨-, hn⟩ := well_own hf h
  have h0 : s ∉ ownNs f := fun hm => hn s hm hs
  unfold kindIn
  rw [well_pc hf h]
  unfold ownNs at h0
  rw [List.mem_append, not_or] at h0
  show kindP p.globals f s = 1
  unfold kindP
  rw [parK_zero.2 h0.1, if_neg (by simp), inB_no.2 h0.2, if_neg Bool.false_ne_true, inB_iff.2 hs, if_pos rfl]
theorem well_par {j : Nat} (hj : j < f.params.length) : kindIn p f.nm f.params[j].nm = if f.params[j].ref then 3 else 2 := by
  obtain ⟨hd, -⟩ := well_own hf h
  unfold ownNs at hd
  have hd1 := (List.nodup_append.1 hd).1
  unfold kindIn
  rw [well_pc hf h]
  show kindP p.globals f _ = _
  unfold kindP
  rw [parK_get hd1 hj]
  split <;> simp
theorem well_var {s : ByteArray} (hs : s ∈ f.vars) : kindIn p f.nm s = 4 := by
  obtain ⟨hd, -⟩ := well_own hf h
  unfold ownNs at hd
  obtain ⟨-, -, hd3⟩ := List.nodup_append.1 hd
  have h0 : s ∉ f.params.map Pa.nm := fun hm => hd3 s hm s hs rfl
  unfold kindIn
  rw [well_pc hf h]
  show kindP p.globals f s = 4
  unfold kindP
  rw [parK_zero.2 h0, if_neg (by simp), inB_iff.2 hs, if_pos rfl]
theorem well_vars : varsIn p f.nm = p.globals ++ (f.params.map Pa.nm ++ f.vars) := by
  unfold varsIn
  rw [well_pc hf h]
  rfl
end
theorem well_procs {p : Pr} (h : (scopeP p).1 = 0) : 0 < p.procs.length := by
  obtain ⟨-, h2, -⟩ := scope_code h
  obtain ⟨-, -, f, h3, -⟩ := head_parts h2
  have := List.mem_of_find?_eq_some h3
  exact List.length_pos_of_mem this
theorem cat_glob {a b c : List ByteArray} {q : Nat} (hq : q < (a ++ (b ++ c)).length) (h : q < a.length) : (a ++ (b ++ c))[q] = a[q] := List.getElem_append_left h
theorem cat_par {a b c : List ByteArray} {q j : Nat} (hq : q < (a ++ (b ++ c)).length) (h : q = a.length + j) (hj : j < b.length) : (a ++ (b ++ c))[q] = b[j] := by
  subst h
  rw [List.getElem_append_right (by omega), List.getElem_append_left (by omega)]
  congr 1
  omega
theorem cat_var {a b c : List ByteArray} {q j : Nat} (hq : q < (a ++ (b ++ c)).length) (h : q = a.length + b.length + j) (hj : j < c.length) : (a ++ (b ++ c))[q] = c[j] := by
  subst h
  rw [List.getElem_append_right (by omega), List.getElem_append_right (by omega)]
  congr 1
  omega
end Go.Proofs.Ytghlmengcidmdaa.Tr
end
section
/- What Mod of the reference computes: the rest, never below 0. Conditions: the divisor is at least 1 and at most 1000000. -/
namespace Go.Proofs.Ytghlmengcidmdaa.Tr
open Go.RowKit
theorem ret_i64 {a b : Int} (h : a = b) : Ending.returned (.int .i64 a) = .returned (.int .i64 b) := by rw [h]
theorem mod_any (n k r : Int) (w : World) (hn1 : -9223372036854775808 ≤ n) (hn2 : n ≤ 9223372036854775807) (hk1 : 1 ≤ k) (hk2 : k ≤ 1000000) (hr : n % k = r) :
    Calls Try.prog 28 #[.int .i64 n, .int .i64 k] w fun e w' => e = .returned (.int .i64 r) ∧ w = w' := by
  have h0 := Int.emod_nonneg n (b := k) (by omega)
  have h1 := Int.emod_lt_of_pos n (b := k) (by omega)
  have hk : ¬ k < 1 := by omega
  have HR := Lib.hid hr
  clear hr
  by_cases hneg : 0 ≤ n
  · have hr0 : decide (n % k < 0) = false := by simpa using h0
    go_enter Try.func28, Try.ntmps28
    go_wp2
    go_ret
    exact ⟨ret_i64 HR.out, rfl⟩
  · have ht := Int.tmod_eq_emod (a := n) (b := k)
    by_cases hz : n % k = 0
    · have hd : k ∣ n := Int.dvd_of_emod_eq_zero hz
      rw [if_pos (.inr hd), hz] at ht
      have HT : Hid (n.tmod k = 0) := Lib.hid (by omega)
      have hr0 : decide (n.tmod k < 0) = false := by rw [HT.out]; rfl
      have HZ := Lib.hid hz
      clear ht hd hz h0 h1
      go_enter Try.func28, Try.ntmps28
      go_wp2
      go_ret
      exact ⟨ret_i64 (by rw [HT.out, ← HR.out, HZ.out]), rfl⟩
    · have hd : ¬ k ∣ n := fun h => hz (Int.emod_eq_zero_of_dvd h)
      rw [if_neg (by simp; omega)] at ht
      have b1 : -1000000 ≤ n.tmod k := by omega
      have b2 : n.tmod k < 0 := by omega
      have b3 : n.tmod k + k = r := by have := HR.out; omega
      have HB := Lib.hid b3
      have hr0 : decide (n.tmod k < 0) = true := by simpa using b2
      have hsum : wrap64 (n.tmod k + k) = n.tmod k + k := IntWalk.wrap64_in _ (by omega)
      have HS := Lib.hid hsum
      clear ht hd hz h0 h1 b3 hsum
      go_enter Try.func28, Try.ntmps28
      go_wp2
      go_ret
      exact ⟨ret_i64 (by first | exact HB.out | (rw [HS.out]; exact HB.out)), rfl⟩
end Go.Proofs.Ytghlmengcidmdaa.Tr
end
section
/- What ProcAt of the reference tells: a procedure's name, by a number. Conditions: the program lies in memory; the number is one of 64 bits. -/
namespace Go.Proofs.Ytghlmengcidmdaa.Tr
open Go.RowKit Go.Proofs.Ytghlmengcidmdaa.Lx Go.Proofs.Ytghlmengcidmdaa.Wd
set_option maxHeartbeats 2000000 in
set_option maxRecDepth 100000 in
theorem procat_any (d : Nat) (p : Pr) (gv pv : Value) (n : Int) (w : World) (hp : PrC (cw w) d gv pv p) (hn1 : -9223372036854775808 ≤ n) (hn2 : n ≤ 9223372036854775807) (hm : p.procs.length ≤ 1000000) :
    Calls Try.prog 40 #[.agg #[gv, pv], .int .i64 n] w fun e w' => e = .returned (.string (procAtP p n)) ∧ Below w.heap.size w w' := by
  obtain ⟨ga, gc, rfl, hgl1, hgl2⟩ := hp.1.form
  obtain ⟨pa, pc, rfl, hl1, hl2⟩ := hp.2.form
  have hpl : p.procs.length ≤ 9223372036854775807 := Nat.le_trans hl1 hl2
  have HP := Lib.hid hp
  clear hp hl1 hl2 hgl1 hgl2
  obtain ⟨KK, hKK⟩ : ∃ s, Hid (procAtP p n = s) := ⟨_, Lib.hid rfl⟩
  rw [hKK.out]
  go_enter Try.func40, Try.ntmps40
  go_upto_region 1 with fail
  refine cut_world (fun wx => Below w.heap.size w wx ∧ BoxAt wx w.heap.size [.slice ga p.globals.length gc, .slice pa p.procs.length pc]) ⟨boxed w _, box_new w #[.slice ga p.globals.length gc, .slice pa p.procs.length pc] 25⟩ ?_
  rintro w1 ⟨hb1, hx1⟩
  have HB1 := Lib.hid hb1
  have HP1 := Lib.hid (PrC.mono (cw_next hb1) HP.out)
  have x1 := hx1 1 _ rfl
  clear hb1 hx1
  by_cases hz : p.procs.length = 0
  · have hs : KK = ⟨#[]⟩ := by rw [← hKK.out]; exact procAt_none hz
    have hz1 : ((p.procs.length : Int) == 0) = true := by rw [hz]; rfl
    have HZ := Lib.hid hz
    subst hs
    clear hz
    go_wp2_with fail
    go_ret
    exact ⟨rfl, HB1.out⟩
  · have hz1 : ((p.procs.length : Int) == 0) = false := by simpa using hz
    have hpos : 0 < p.procs.length := by omega
    obtain ⟨m, hmm⟩ : ∃ m, m = (n % (p.procs.length : Int)).toNat := ⟨_, rfl⟩
    have hlt : m < p.procs.length := by rw [hmm]; exact (mod_at hpos).1
    have hmi : n % (p.procs.length : Int) = (m : Int) := by rw [hmm]; exact (mod_at hpos).2
    have hs : KK = (p.procs[m]).nm := by rw [← hKK.out, procAt_some hpos]; subst hmm; rfl
    have hlt' : (m : Int) < (p.procs.length : Int) := by omega
    have h0m : (0 : Int) ≤ (m : Int) := by omega
    have hk1 : (1 : Int) ≤ (p.procs.length : Int) := by omega
    have hk2 : (p.procs.length : Int) ≤ 1000000 := by omega
    have HS := Lib.hid hs
    have HMI := Lib.hid hmi
    obtain ⟨g, off, hvp, qv, vv, bv, fv, p0, p1, p2, p3, p4, hnm, hps, hvs, hbody, hfin⟩ := procs_at HP1.out.2 hlt
    cases hvp
    have e0 : w1.cell? ⟨g, off + m * 5, none⟩ = _ := p0
    clear p0 p1 p2 p3 p4 hnm hps hvs hbody hfin hs hmi hmm hz
    go_upto_region 3 with fail
    go_quiet ((go_at_call 28; exact Calls.quiet_of_same ((mod_any n (p.procs.length : Int) (m : Int) _ hn1 hn2 hk1 hk2 HMI.out).mono fun e w' h => ⟨h.1, h.2.symm⟩)))
    go_wp2_with fail
    go_ret
    exact ⟨by rw [HS.out]; rfl, by first | exact below_drewN HB1.out _ | exact HB1.out.drew⟩
end Go.Proofs.Ytghlmengcidmdaa.Tr
end
section
/- The law ScopeOne, walked: it returns true. Conditions: the arguments lie in memory. -/
namespace Go.Proofs.Ytghlmengcidmdaa.Tr
open Go.RowKit Go.Proofs.Ytghlmengcidmdaa.Lx Go.Proofs.Ytghlmengcidmdaa.Wd
set_option linter.unusedSimpArgs false
set_option maxHeartbeats 4000000 in
set_option maxRecDepth 100000 in
theorem law_scopeOne {w : World} (d : Nat) (p : Pr) (gv pv : Value) (hp : PrC (cw w) d gv pv p) (n : Int) (hn0 : (Lit.int .i64 n).wf = true) :
    Calls Try.prog 7 #[.agg #[gv, pv], .int .i64 n] w fun e w' => e = .returned (.bool true) ∧ Below w.heap.size w w' := by
  obtain ⟨ga, gc, rfl, -, -⟩ := hp.1.form
  obtain ⟨pa, pc, rfl, hpl1, hpl2⟩ := hp.2.form
  have hpl : p.procs.length ≤ 9223372036854775807 := Nat.le_trans hpl1 hpl2
  have HP := Lib.hid hp
  clear hp hpl1 hpl2
  have hn : InI n := wf_in hn0
  clear hn0
  go_enter Try.func7, Try.ntmps7
  go_upto_region 1 with fail
  refine cut_world (fun wx => Below w.heap.size w wx ∧ BoxAt wx w.heap.size [.slice ga p.globals.length gc, .slice pa p.procs.length pc]) ⟨boxed _ _, box_new w #[.slice ga p.globals.length gc, .slice pa p.procs.length pc] 25⟩ ?_
  rintro w1 ⟨hb1, hx1⟩
  have HB1 := Lib.hid hb1
  have HX1 := Lib.hid hx1
  have HP1 := Lib.hid (PrC.mono (cw_next hb1) HP.out)
  clear hb1 hx1
  have p0 := HX1.out 0 _ rfl
  have p1 := HX1.out 1 _ rfl
  go_wp2_with fail
  refine (scoped_any _).mono ?_
  rintro e w2 ⟨rfl, hb2⟩
  have HX2 := Lib.hid (HX1.out.next hb2)
  have HP2 := Lib.hid (PrC.mono (cw_next hb2) HP1.out)
  have HB2 := Lib.hid (HB1.out.trans (hb2.mono HB1.out.size))
  clear hb2
  clear p0 p1
  have p0 := HX2.out 0 _ rfl
  have p1 := HX2.out 1 _ rfl
  go_wp2_with fail
  refine (fits_any d p _ _ _ HP2.out).mono ?_
  rintro e w3 ⟨b1, hf1, rfl, hb3⟩
  have HF1 := Lib.hid hf1
  clear hf1
  have HX3 := Lib.hid (HX2.out.next hb3)
  have HP3 := Lib.hid (PrC.mono (cw_next hb3) HP2.out)
  have HB3 := Lib.hid (HB2.out.trans (hb3.mono HB2.out.size))
  clear hb3
  clear p0 p1
  cases b1 with
  | false =>
    have p0 := HX3.out 0 _ rfl
    have p1 := HX3.out 1 _ rfl
    go_wp2_with fail
    go_ret
    exact ⟨rfl, HB3.out⟩
  | true =>
    have HWP := Lib.hid (HF1.out (by simp))
    have HROOM := Lib.hid (RoomP.of (Nat.le_trans HWP.out (by decide)))
    clear HF1
    have p0 := HX3.out 0 _ rfl
    have p1 := HX3.out 1 _ rfl
    go_wp2_with fail
    refine (scheck_any d p _ _ _ HP3.out HROOM.out).mono ?_
    rintro e w4 ⟨rfl, hb4⟩
    obtain ⟨SC, hSC⟩ : ∃ r, Hid ((scopeP p).1 = r) := ⟨_, Lib.hid rfl⟩
    obtain ⟨SI, hSI⟩ : ∃ r, Hid ((scopeP p).2 = r) := ⟨_, Lib.hid rfl⟩
    rw [hSC.out, hSI.out]
    have HX4 := Lib.hid (HX3.out.next hb4)
    have HP4 := Lib.hid (PrC.mono (cw_next hb4) HP3.out)
    have HB4 := Lib.hid (HB3.out.trans (hb4.mono HB3.out.size))
    clear hb4
    clear p0 p1
    have hfd := run_code SC SI
    by_cases hz : SC = 0
    · have hz1 : (SC == 0) = true := by simpa using hz
      have HWELL := Lib.hid (hSC.out.trans hz)
      have HZ := Lib.hid hz
      clear hz
      go_upto_region 7 with fail
      clear hfd hz1
      have p0 := HX4.out 0 _ rfl
      have p1 := HX4.out 1 _ rfl
      go_wp2_with fail
      refine (procat_any d p _ _ n _ HP4.out hn.1 hn.2 HROOM.out.procs).mono ?_
      rintro e w5 ⟨rfl, hb5⟩
      have HX5 := Lib.hid (HX4.out.next hb5)
      have HP5 := Lib.hid (PrC.mono (cw_next hb5) HP4.out)
      have HB5 := Lib.hid (HB4.out.trans (hb5.mono HB4.out.size))
      clear hb5
      clear p0 p1
      have hpos := well_procs HWELL.out
      obtain ⟨m, hmm⟩ : ∃ m, m = (n % (p.procs.length : Int)).toNat := ⟨_, rfl⟩
      have hlm : m < p.procs.length := by rw [hmm]; exact (mod_at hpos).1
      have hpa : procAtP p n = (p.procs[m]).nm := by rw [procAt_some hpos]; subst hmm; rfl
      obtain ⟨f, hf⟩ : ∃ f, p.procs[m] = f := ⟨_, rfl⟩
      have hmem : f ∈ p.procs := by rw [← hf]; exact List.getElem_mem hlm
      rw [hf] at hpa
      rw [hpa]
      have HPC := Lib.hid (well_pc hmem HWELL.out)
      have HVL := Lib.hid (well_vars hmem HWELL.out)
      have HG := Lib.hid (fun s hs => well_glob hmem HWELL.out (s := s) hs)
      have HPR := Lib.hid (fun j hj => well_par hmem HWELL.out (j := j) hj)
      have HV := Lib.hid (fun s hs => well_var hmem HWELL.out (s := s) hs)
      have hr1 := HROOM.out.glob
      have hr2 := HROOM.out.own f hmem
      clear hmm hpa hf hlm hpos hmem
      have p0 := HX5.out 0 _ rfl
      have p1 := HX5.out 1 _ rfl
      go_wp2_with fail
      refine (sproc_any d p _ _ f.nm _ HP5.out HWP.out).mono ?_
      intro e w6 hpm
      rw [HPC.out] at hpm
      obtain ⟨a1, a2, a3, a4, c1, c2, c3, c4, rfl, hh6, hn6, hb6⟩ := hpm
      have HH6 := Lib.hid hh6
      clear hh6 hn6
      have HX6 := Lib.hid (HX5.out.next hb6)
      have HP6 := Lib.hid (PrC.mono (cw_next hb6) HP5.out)
      have HB6 := Lib.hid (HB5.out.trans (hb6.mono HB5.out.size))
      clear hb6
      clear p0 p1
      go_upto_region 9 with fail
      refine cut_world (fun wx => Below w6.heap.size w6 wx ∧ BoxAt wx w6.heap.size [.string f.nm, .slice a1 f.params.length c1, .slice a2 f.vars.length c2, .slice a3 f.body.length c3, .slice a4 f.fin.length c4]) ⟨boxed w6 _, box_new w6 #[.string f.nm, .slice a1 f.params.length c1, .slice a2 f.vars.length c2, .slice a3 f.body.length c3, .slice a4 f.fin.length c4] 55⟩ ?_
      rintro w7 ⟨hb7, hy7⟩
      have HY7 := Lib.hid hy7
      have HH7 := Lib.hid (HH6.out.next hb7)
      have HX7 := Lib.hid (HX6.out.next hb7)
      have HP7 := Lib.hid (PrC.mono (cw_next hb7) HP6.out)
      have HB7 := Lib.hid (HB6.out.trans (hb7.mono HB6.out.size))
      clear hb7 hy7
      have p0 := HX7.out 0 _ rfl
      have p1 := HX7.out 1 _ rfl
      go_wp2_with fail
      refine (svars_any d p _ _ f.nm _ HP7.out HROOM.out).mono ?_
      rintro e w8 ⟨v8, rfl, hr8, hb8⟩
      rw [HVL.out] at hr8
      obtain ⟨VL, hVL⟩ : ∃ L, Hid (p.globals ++ (f.params.map Pa.nm ++ f.vars) = L) := ⟨_, Lib.hid rfl⟩
      have hvl : (p.globals ++ (f.params.map Pa.nm ++ f.vars)).length = p.globals.length + f.params.length + f.vars.length := by simp only [List.length_append, List.length_map]; omega
      rw [hVL.out] at hr8 hvl
      have HS8 := Lib.hid (hr8.strs (by omega))
      obtain ⟨va, vc, rfl⟩ := ownsForm hr8.1
      have HY8 := Lib.hid (HY7.out.next hb8)
      have HH8 := Lib.hid (HH7.out.next hb8)
      clear hr8
      have HX8 := Lib.hid (HX7.out.next hb8)
      have HP8 := Lib.hid (PrC.mono (cw_next hb8) HP7.out)
      have HB8 := Lib.hid (HB7.out.trans (hb8.mono HB7.out.size))
      clear hb8
      clear p0 p1
      have hlen : (VL.length : Int) = (p.globals.length : Int) + (f.params.length : Int) + (f.vars.length : Int) := by omega
      have HVLEN := Lib.hid hvl
      rw [hvl]
      clear hvl hlen
      have p0 := HX8.out 0 _ rfl
      have p1 := HX8.out 1 _ rfl
      have y0 := HY8.out 0 _ rfl
      have y1 := HY8.out 1 _ rfl
      have y2 := HY8.out 2 _ rfl
      go_wp2_with fail
      clear p0 p1 y0 y1 y2
      obtain ⟨W8, hW8⟩ : ∃ x : World, x = w8 := ⟨_, rfl⟩
      subst hW8
      go_loopw [59] (fun i wr => ∃ q : Nat, q ≤ p.globals.length + f.params.length + f.vars.length ∧ i = .int .i64 q ∧ Below W8.heap.size W8 wr) (fun i _ => (p.globals.length + f.params.length + f.vars.length - intOf i).toNat)
      case atStart => exact ⟨0, by omega, rfl, Below.refl _ _⟩
      case round =>
        obtain ⟨q, hq, rfl, hbq⟩ := hrel
        obtain ⟨wq, hwq⟩ : ∃ x : World, x = wr := ⟨_, rfl⟩
        subst hwq
        have HBQ := Lib.hid hbq
        have HSQ := Lib.hid (HS8.out.next hbq)
        have HYQ := Lib.hid (HY8.out.next hbq)
        have HHQ := Lib.hid (HH8.out.next hbq)
        have HXQ := Lib.hid (HX8.out.next hbq)
        have HPQ := Lib.hid (PrC.mono (cw_next hbq) HP8.out)
        have HBBQ := Lib.hid (HB8.out.trans (hbq.mono HB8.out.size))
        clear hbq
        by_cases hlt : q < p.globals.length + f.params.length + f.vars.length
        · have hlt' : (q : Int) < ((p.globals.length + f.params.length + f.vars.length : Nat) : Int) := by omega
          have h0q : (0 : Int) ≤ (q : Int) := by omega
          have hlv : q < VL.length := by rw [HVLEN.out]; exact hlt
          have hne : VL ≠ [] := by intro h; rw [h] at hlv; simp at hlv
          obtain ⟨gs, os, caps, hvs, hcs⟩ := HSQ.out.cells hne
          simp only [Value.slice.injEq] at hvs
          obtain ⟨rfl, -, rfl⟩ := hvs
          obtain ⟨-, c0⟩ := hcs q hlv
          obtain ⟨s, hs⟩ : ∃ s, Hid (VL[q] = s) := ⟨_, Lib.hid rfl⟩
          rw [hs.out] at c0
          clear hcs hne
          have p0 := HXQ.out 0 _ rfl
          have p1 := HXQ.out 1 _ rfl
          go_wp2_with fail
          refine (skind_any d p _ _ f.nm s _ HPQ.out).mono ?_
          rintro e w9 ⟨rfl, hb9⟩
          obtain ⟨KI, hKI⟩ : ∃ k, Hid (kindIn p f.nm s = k) := ⟨_, Lib.hid rfl⟩
          rw [hKI.out]
          have HN9 := Lib.hid hb9
          have HX9 := Lib.hid (HXQ.out.next hb9)
          have HY9 := Lib.hid (HYQ.out.next hb9)
          have HH9 := Lib.hid (HHQ.out.next hb9)
          clear hb9 p0 p1 c0
          have p0 := HX9.out 0 _ rfl
          have y1 := HY9.out 1 _ rfl
          have hs2 : VL[q] = s := hs.out
          simp only [← hVL.out] at hs2
          by_cases h1 : q < p.globals.length
          · have hk : KI = 1 := by
              rw [← hKI.out]
              refine HG.out s ?_
              rw [← hs2, cat_glob _ h1]
              exact List.getElem_mem h1
            have HK := Lib.hid hk
            have h1' : (q : Int) < (p.globals.length : Int) := by omega
            subst hk
            clear hs2 h1
            go_wp2_with fail
            go_roundw
            case rel => exact ⟨q + 1, by omega, by go_num, HBQ.out.trans (HN9.out.mono HBQ.out.size)⟩
            case measure => simp [intOf]; omega
          · by_cases h2 : q < p.globals.length + f.params.length
            · obtain ⟨j, hj⟩ : ∃ j, q = p.globals.length + j := ⟨q - p.globals.length, by omega⟩
              have hjl : j < f.params.length := by omega
              have hkr := HPR.out j hjl
              rw [show f.params[j].nm = s by rw [← hs2, cat_par _ hj (by simpa using hjl), List.getElem_map]] at hkr
              rw [hKI.out] at hkr
              have h1' : ¬ (q : Int) < (p.globals.length : Int) := by omega
              have h2' : ¬ ((p.globals.length : Int) + (f.params.length : Int)) ≤ (q : Int) := by omega
              have hjj : (q : Int) - (p.globals.length : Int) = (j : Int) := by omega
              have hj0 : (0 : Int) ≤ (q : Int) - (p.globals.length : Int) := by omega
              have hjl' : (j : Int) < (f.params.length : Int) := by omega
              have h0j : (0 : Int) ≤ (j : Int) := by omega
              have hneP : f.params ≠ [] := by intro h; rw [h] at hjl; simp at hjl
              obtain ⟨gq, oq, cq, hvq, _, hcq⟩ := SlAt.cells HH9.out.par hneP
              simp only [Value.slice.injEq] at hvq
              obtain ⟨rfl, -, rfl⟩ := hvq
              obtain ⟨-, q1, -⟩ := hcq j hjl
              have d1 : w9.cell? ⟨gq, oq + j * 2 + 1, none⟩ = _ := q1
              have HKR := Lib.hid hkr
              obtain ⟨b, hb⟩ : ∃ b, Hid (f.params[j].ref = b) := ⟨_, Lib.hid rfl⟩
              rw [hb.out] at d1 HKR
              clear hs2 h1 h2 hkr hneP hcq q1 hj
              cases b with
              | true =>
                have hk : KI = 3 := HKR.out
                subst hk
                go_wp2_with fail
                go_roundw
                case rel => exact ⟨q + 1, by omega, by go_num, HBQ.out.trans (HN9.out.mono HBQ.out.size)⟩
                case measure => simp [intOf]; omega
              | false =>
                have hk : KI = 2 := HKR.out
                subst hk
                go_wp2_with fail
                go_roundw
                case rel => exact ⟨q + 1, by omega, by go_num, HBQ.out.trans (HN9.out.mono HBQ.out.size)⟩
                case measure => simp [intOf]; omega
            · obtain ⟨j, hj⟩ : ∃ j, q = p.globals.length + f.params.length + j := ⟨q - (p.globals.length + f.params.length), by omega⟩
              have hjl : j < f.vars.length := by omega
              have hk : KI = 4 := by
                rw [← hKI.out]
                refine HV.out s ?_
                rw [← hs2, cat_var _ (by rw [List.length_map]; exact hj) hjl]
                exact List.getElem_mem hjl
              have h1' : ¬ (q : Int) < (p.globals.length : Int) := by omega
              have h2' : ((p.globals.length : Int) + (f.params.length : Int)) ≤ (q : Int) := by omega
              subst hk
              clear hs2 h1 h2 hj
              go_wp2_with fail
              go_roundw
              case rel => exact ⟨q + 1, by omega, by go_num, HBQ.out.trans (HN9.out.mono HBQ.out.size)⟩
              case measure => simp [intOf]; omega
        · have hlt' : ¬ (q : Int) < ((p.globals.length + f.params.length + f.vars.length : Nat) : Int) := by omega
          go_wp2_with fail
          go_ret
          exact ⟨rfl, HBBQ.out⟩
    · have hz1 : (SC == 0) = false := by simpa using hz
      have HZ := Lib.hid hz
      clear hz
      go_wp2_with fail
      go_ret
      exact ⟨rfl, HB4.out⟩
end Go.Proofs.Ytghlmengcidmdaa.Tr
end
