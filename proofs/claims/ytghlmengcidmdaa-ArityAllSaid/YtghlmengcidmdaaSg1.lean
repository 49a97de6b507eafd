/- Parts of OneP, ArityW, TMod: walks and plain laws that later texts use. Conditions: as each statement says. -/
import Derived.Test.YtghlmengcidmdaaSa0
import Derived.Test.YtghlmengcidmdaaSa1
import Derived.Test.YtghlmengcidmdaaSa10
import Derived.Test.YtghlmengcidmdaaSa11
import Derived.Test.YtghlmengcidmdaaSa12
import Derived.Test.YtghlmengcidmdaaSa13
import Derived.Test.YtghlmengcidmdaaSa14
import Derived.Test.YtghlmengcidmdaaSa15
import Derived.Test.YtghlmengcidmdaaSa16
import Derived.Test.YtghlmengcidmdaaSa17
import Derived.Test.YtghlmengcidmdaaSa18
import Derived.Test.YtghlmengcidmdaaSa19
import Derived.Test.YtghlmengcidmdaaSa2
import Derived.Test.YtghlmengcidmdaaSa20
import Derived.Test.YtghlmengcidmdaaSa21
import Derived.Test.YtghlmengcidmdaaSa22
import Derived.Test.YtghlmengcidmdaaSa23
import Derived.Test.YtghlmengcidmdaaSa24
import Derived.Test.YtghlmengcidmdaaSa25
import Derived.Test.YtghlmengcidmdaaSa26
import Derived.Test.YtghlmengcidmdaaSa27
import Derived.Test.YtghlmengcidmdaaSa28
import Derived.Test.YtghlmengcidmdaaSa29
import Derived.Test.YtghlmengcidmdaaSa3
import Derived.Test.YtghlmengcidmdaaSa30
import Derived.Test.YtghlmengcidmdaaSa31
import Derived.Test.YtghlmengcidmdaaSa32
import Derived.Test.YtghlmengcidmdaaSa33
import Derived.Test.YtghlmengcidmdaaSa34
import Derived.Test.YtghlmengcidmdaaSa35
import Derived.Test.YtghlmengcidmdaaSa36
import Derived.Test.YtghlmengcidmdaaSa37
import Derived.Test.YtghlmengcidmdaaSa38
import Derived.Test.YtghlmengcidmdaaSa39
import Derived.Test.YtghlmengcidmdaaSa4
import Derived.Test.YtghlmengcidmdaaSa40
import Derived.Test.YtghlmengcidmdaaSa5
import Derived.Test.YtghlmengcidmdaaSa6
import Derived.Test.YtghlmengcidmdaaSa7
import Derived.Test.YtghlmengcidmdaaSa8
import Derived.Test.YtghlmengcidmdaaSa9
import Derived.Test.YtghlmengcidmdaaSg0
import Derived.Deep.DeepCutAuto
import Derived.Deep.RegionHeld3
import Derived.OrdersHeld
import Derived.Outline
import Derived.Deep.QuietTactic
import Derived.BigQuiet
import Derived.RegionTactic
import Derived.Laws.StructEq
import Derived.Deep.RegionLaw
import Derived.WalkKit
import Derived.Test.YtghlmengcidmdaaRows
import Derived.WalkSpells
import Derived.Lib.Hide
import Derived.Below
import Derived.Laws.BitsAllLaws
import Derived.Maps.Range
import Derived.Lib.SmallJoins
import Derived.Deep.Upon
import Derived.Maps.AppendAt
import Derived.Laws.OwnMore
import Derived.OwnWalk
import Derived.OneCell
import Derived.Deep.AppendLies
import Derived.WalkSmall
import Derived.Deep.CutBlock
import Derived.Deep.Slices
import Derived.Deep.Fields
import Derived.SliceStrings
import Derived.ChangeSlices
import Derived.IntWalk
import Derived.StillTailTactics
import Derived.Deep.RegionWith
import Derived.Laws.Cover3
import Derived.Deep.MidRow
section
/- What holds of a program whose names are well. No program's code. Conditions: as each statement says. -/
namespace Go.Proofs.Ytghlmengcidmdaa.Tr
open Go.RowKit Go.Proofs.Ytghlmengcidmdaa.Lx Go.Proofs.Ytghlmengcidmdaa.Wd
theorem scope_code {p : Pr} (h : (scopeP p).1 = 0) : mayP p = true ∧ headFault p = false ∧ ∀ f ∈ p.procs, pcFault p.globals (procNs p) f = none := by
  unfold scopeP at h
  cases h1 : mayP p with
  | false => rw [h1] at h; simp at h
  | true =>
    rw [h1] at h
    cases h2 : headFault p with
    | true => rw [h2] at h; simp at h
    | false =>
      rw [h2] at h
      cases h3 : p.procs.findSome? (pcFault p.globals (procNs p)) with
      | some i => rw [h3] at h; simp at h
      | none => exact ⟨rfl, rfl, by rw [List.findSome?_eq_none_iff] at h3; exact h3⟩
theorem mod_at {n : Int} {k : Nat} (hk : 0 < k) : (n % (k : Int)).toNat < k ∧ n % (k : Int) = ((n % (k : Int)).toNat : Int) := by
  have h0 := Int.emod_nonneg n (b := (k : Int)) (by omega)
  have h1 := Int.emod_lt_of_pos n (b := (k : Int)) (by omega)
  omega
section
variable {p : Pr} {f : Pc} (hf : f ∈ p.procs) (h : (scopeP p).1 = 0)
include hf h
end
end Go.Proofs.Ytghlmengcidmdaa.Tr
end
section
/- What Fits and Check of arity, CallFits, arity and Arity of the reference tell. Conditions: what they are handed lies in memory, and there is room. -/
namespace Go.Proofs.Ytghlmengcidmdaa.Tr
open Go.RowKit Go.Proofs.Ytghlmengcidmdaa.Lx Go.Proofs.Ytghlmengcidmdaa.Wd
set_option linter.unusedSimpArgs false
theorem all_its_l : ∀ (l : List Pc) (out : List It), mayPs out.length l = true → out.length + cntP l ≤ 200 → allPs l out = out ++ (l.map itsOf).flatten := by
  intro l
  induction l with
  | nil => intro out _ _; simp [allPs]
  | cons f r ih =>
    intro out h hl
    rw [mayPs, Bool.and_eq_true] at h
    have hc : cntP (f :: r) = cntL f.body + cntP r := by unfold cntP; simp
    have h2 := mayPc_rows h.1
    have hf : flatOf f = itsOf f := by
      unfold flatOf itsOf
      rw [flatL_pre f.body 1 0 _ false [] h2 (by simp; omega), List.nil_append]
    have hfl : (itsOf f).length = cntL f.body := by unfold itsOf; exact preL_len _ _ _ _
    have hlen : (out ++ flatOf f).length = out.length + cntL f.body := by rw [List.length_append, hf, hfl]
    rw [allPs_cons, hlen, if_neg (by omega), ih _ (by rw [hlen]; have := h.2; push_cast; exact this) (by rw [hlen]; omega), hf, List.map_cons, List.flatten_cons, List.append_assoc]
theorem all_its {p : Pr} (h : mayP p = true) : (allOf p).map It.s = allSts p := by
  unfold allOf allSts
  have hc := mayP_cnt h
  rw [all_its_l p.procs [] (mayP_procs h) (by simpa using hc), List.nil_append, List.map_flatten, List.map_map]
  rfl
set_option maxHeartbeats 2000000 in
set_option maxRecDepth 100000 in
theorem sFits_any (d : Nat) (p : Pr) (gv pv : Value) (s : St) (la ka aa ta ea : Option Addr) (lc kc ac tc ec : Nat) (w : World) (hp : PrC (cw w) d gv pv p) (hh : Hang d w s (.slice la s.labels.length lc) (.slice ka s.x.ks.length kc) (.slice aa s.args.length ac) (.slice ta s.thn.length tc) (.slice ea s.els.length ec)) (hroom : RoomP p) :
    Calls Try.prog 24 #[.agg #[gv, pv], .agg #[.int .i64 s.id, .int .i64 s.kind, .slice la s.labels.length lc, .string s.nm, .string s.proc, .int .i64 s.x.op, .int .i64 s.x.n, .string s.x.nm, .slice ka s.x.ks.length kc, .bool s.has, .slice aa s.args.length ac, .slice ta s.thn.length tc, .slice ea s.els.length ec]] w fun e w' => e = .returned (.bool (decide ((scopeP p).1 = 0) && fitsP p s)) ∧ Below w.heap.size w w' := by
  have HH := Lib.hid hh
  have HROOM := Lib.hid hroom
  clear hh hroom
  obtain ⟨ga, gc, rfl, hgl1, hgl2⟩ := hp.1.form
  obtain ⟨pa, pc, rfl, hl1, hl2⟩ := hp.2.form
  have hpl : p.procs.length ≤ 9223372036854775807 := Nat.le_trans hl1 hl2
  have HP := Lib.hid hp
  clear hp hl1 hl2 hgl1 hgl2
  obtain ⟨RES, hRES⟩ : ∃ b, Hid ((decide ((scopeP p).1 = 0) && fitsP p s) = b) := ⟨_, Lib.hid rfl⟩
  rw [hRES.out]
  go_enter Try.func24, Try.ntmps24
  go_upto_region 1 with fail
  refine cut_world (fun wx => Below w.heap.size w wx ∧ BoxAt wx w.heap.size [.slice ga p.globals.length gc, .slice pa p.procs.length pc] ∧ BoxAt wx (w.heap.size + 1) [.int .i64 s.id, .int .i64 s.kind, .slice la s.labels.length lc, .string s.nm, .string s.proc, .int .i64 s.x.op, .int .i64 s.x.n, .string s.x.nm, .slice ka s.x.ks.length kc, .bool s.has, .slice aa s.args.length ac, .slice ta s.thn.length tc, .slice ea s.els.length ec]) ⟨(boxed w _).alloc (by simp) _, (box_new w #[.slice ga p.globals.length gc, .slice pa p.procs.length pc] 25).next (boxed _ _), box_two w _ #[.int .i64 s.id, .int .i64 s.kind, .slice la s.labels.length lc, .string s.nm, .string s.proc, .int .i64 s.x.op, .int .i64 s.x.n, .string s.x.nm, .slice ka s.x.ks.length kc, .bool s.has, .slice aa s.args.length ac, .slice ta s.thn.length tc, .slice ea s.els.length ec] 41⟩ ?_
  rintro w1 ⟨hb1, hx1, hs1⟩
  have HB1 := Lib.hid hb1
  have HX1 := Lib.hid hx1
  have HS1 := Lib.hid hs1
  have HP1 := Lib.hid (PrC.mono (cw_next hb1) HP.out)
  have HH1 := Lib.hid (HH.out.next hb1)
  clear hb1 hx1 hs1
  have x0 := HX1.out 0 _ rfl
  have x1 := HX1.out 1 _ rfl
  go_wp2_with fail
  refine (scheck_any d p _ _ _ HP1.out HROOM.out).mono ?_
  rintro e w2 ⟨rfl, hb2⟩
  obtain ⟨SC, hSC⟩ : ∃ r, Hid ((scopeP p).1 = r) := ⟨_, Lib.hid rfl⟩
  obtain ⟨SI, hSI⟩ : ∃ r, Hid ((scopeP p).2 = r) := ⟨_, Lib.hid rfl⟩
  rw [hSC.out, hSI.out]
  have hfd := run_code SC SI
  have HB2 := Lib.hid (HB1.out.trans (hb2.mono HB1.out.size))
  have HX2 := Lib.hid (HX1.out.next hb2)
  have HS2 := Lib.hid (HS1.out.next hb2)
  have HP2 := Lib.hid (PrC.mono (cw_next hb2) HP1.out)
  have HH2 := Lib.hid (HH1.out.next hb2)
  clear hb2 x0 x1
  by_cases hz : SC = 0
  · have hz1 : (SC == 0) = true := by simpa using hz
    have hre : fitsP p s = RES := by rw [← hRES.out, hSC.out, decide_eq_true hz, Bool.true_and]
    have HRE := Lib.hid hre
    clear hz hre
    have x0 := HX2.out 0 _ rfl
    have x1 := HX2.out 1 _ rfl
    have s0 := HS2.out 0 _ rfl
    have s1 := HS2.out 1 _ rfl
    have s2 := HS2.out 2 _ rfl
    have s3 := HS2.out 3 _ rfl
    have s4 := HS2.out 4 _ rfl
    have s5 := HS2.out 5 _ rfl
    have s6 := HS2.out 6 _ rfl
    have s7 := HS2.out 7 _ rfl
    have s8 := HS2.out 8 _ rfl
    have s9 := HS2.out 9 _ rfl
    have s10 := HS2.out 10 _ rfl
    have s11 := HS2.out 11 _ rfl
    have s12 := HS2.out 12 _ rfl
    go_wp2_with fail
    refine (sfits_any d p _ _ s la ka aa ta ea lc kc ac tc ec _ HP2.out HH2.out).mono ?_
    rintro e w3 ⟨rfl, hb3⟩
    rw [HRE.out]
    have HB3 := Lib.hid (HB2.out.trans (hb3.mono HB2.out.size))
    clear hb3 x0 x1 s0 s1 s2 s3 s4 s5 s6 s7 s8 s9 s10 s11 s12
    go_wp2_with fail
    go_ret
    exact ⟨rfl, HB3.out⟩
  · have hz1 : (SC == 0) = false := by simpa using hz
    have hre : RES = false := by rw [← hRES.out, hSC.out, decide_eq_false hz, Bool.false_and]
    subst hre
    clear hz
    go_wp2_with fail
    go_ret
    exact ⟨rfl, HB2.out⟩
set_option maxHeartbeats 2000000 in
set_option maxRecDepth 100000 in
theorem rFits_any (d : Nat) (p : Pr) (gv pv : Value) (s : St) (la ka aa ta ea : Option Addr) (lc kc ac tc ec : Nat) (w : World) (hp : PrC (cw w) d gv pv p) (hh : Hang d w s (.slice la s.labels.length lc) (.slice ka s.x.ks.length kc) (.slice aa s.args.length ac) (.slice ta s.thn.length tc) (.slice ea s.els.length ec)) (hroom : RoomP p) :
    Calls Try.prog 25 #[.agg #[gv, pv], .agg #[.int .i64 s.id, .int .i64 s.kind, .slice la s.labels.length lc, .string s.nm, .string s.proc, .int .i64 s.x.op, .int .i64 s.x.n, .string s.x.nm, .slice ka s.x.ks.length kc, .bool s.has, .slice aa s.args.length ac, .slice ta s.thn.length tc, .slice ea s.els.length ec]] w fun e w' => e = .returned (.bool (decide ((scopeP p).1 = 0) && fitsP p s)) ∧ Below w.heap.size w w' := by
  have HH := Lib.hid hh
  have HROOM := Lib.hid hroom
  clear hh hroom
  obtain ⟨ga, gc, rfl, hgl1, hgl2⟩ := hp.1.form
  obtain ⟨pa, pc, rfl, hl1, hl2⟩ := hp.2.form
  have hpl : p.procs.length ≤ 9223372036854775807 := Nat.le_trans hl1 hl2
  have HP := Lib.hid hp
  clear hp hl1 hl2 hgl1 hgl2
  obtain ⟨RES, hRES⟩ : ∃ b, Hid ((decide ((scopeP p).1 = 0) && fitsP p s) = b) := ⟨_, Lib.hid rfl⟩
  rw [hRES.out]
  go_enter Try.func25, Try.ntmps25
  go_upto_region 1 with fail
  refine cut_world (fun wx => Below w.heap.size w wx ∧ BoxAt wx w.heap.size [.slice ga p.globals.length gc, .slice pa p.procs.length pc] ∧ BoxAt wx (w.heap.size + 1) [.int .i64 s.id, .int .i64 s.kind, .slice la s.labels.length lc, .string s.nm, .string s.proc, .int .i64 s.x.op, .int .i64 s.x.n, .string s.x.nm, .slice ka s.x.ks.length kc, .bool s.has, .slice aa s.args.length ac, .slice ta s.thn.length tc, .slice ea s.els.length ec]) ⟨(boxed w _).alloc (by simp) _, (box_new w #[.slice ga p.globals.length gc, .slice pa p.procs.length pc] 25).next (boxed _ _), box_two w _ #[.int .i64 s.id, .int .i64 s.kind, .slice la s.labels.length lc, .string s.nm, .string s.proc, .int .i64 s.x.op, .int .i64 s.x.n, .string s.x.nm, .slice ka s.x.ks.length kc, .bool s.has, .slice aa s.args.length ac, .slice ta s.thn.length tc, .slice ea s.els.length ec] 41⟩ ?_
  rintro w1 ⟨hb1, hx1, hs1⟩
  have HB1 := Lib.hid hb1
  have HX1 := Lib.hid hx1
  have HS1 := Lib.hid hs1
  have HP1 := Lib.hid (PrC.mono (cw_next hb1) HP.out)
  have HH1 := Lib.hid (HH.out.next hb1)
  clear hb1 hx1 hs1
  have x0 := HX1.out 0 _ rfl
  have x1 := HX1.out 1 _ rfl
  go_wp2_with fail
  refine (rscope_any d p _ _ _ HP1.out HROOM.out).mono ?_
  rintro e w2 ⟨rfl, hb2⟩
  obtain ⟨SC, hSC⟩ : ∃ r, Hid ((scopeP p).1 = r) := ⟨_, Lib.hid rfl⟩
  obtain ⟨SI, hSI⟩ : ∃ r, Hid ((scopeP p).2 = r) := ⟨_, Lib.hid rfl⟩
  rw [hSC.out, hSI.out]
  have hfd := run_code SC SI
  have HB2 := Lib.hid (HB1.out.trans (hb2.mono HB1.out.size))
  have HX2 := Lib.hid (HX1.out.next hb2)
  have HS2 := Lib.hid (HS1.out.next hb2)
  have HP2 := Lib.hid (PrC.mono (cw_next hb2) HP1.out)
  have HH2 := Lib.hid (HH1.out.next hb2)
  clear hb2 x0 x1
  by_cases hz : SC = 0
  · have hz1 : (SC == 0) = true := by simpa using hz
    have hre : fitsP p s = RES := by rw [← hRES.out, hSC.out, decide_eq_true hz, Bool.true_and]
    have HRE := Lib.hid hre
    clear hz hre
    have x0 := HX2.out 0 _ rfl
    have x1 := HX2.out 1 _ rfl
    have s0 := HS2.out 0 _ rfl
    have s1 := HS2.out 1 _ rfl
    have s2 := HS2.out 2 _ rfl
    have s3 := HS2.out 3 _ rfl
    have s4 := HS2.out 4 _ rfl
    have s5 := HS2.out 5 _ rfl
    have s6 := HS2.out 6 _ rfl
    have s7 := HS2.out 7 _ rfl
    have s8 := HS2.out 8 _ rfl
    have s9 := HS2.out 9 _ rfl
    have s10 := HS2.out 10 _ rfl
    have s11 := HS2.out 11 _ rfl
    have s12 := HS2.out 12 _ rfl
    go_wp2_with fail
    refine (rfits_any d p _ _ s la ka aa ta ea lc kc ac tc ec _ HP2.out HH2.out).mono ?_
    rintro e w3 ⟨rfl, hb3⟩
    rw [HRE.out]
    have HB3 := Lib.hid (HB2.out.trans (hb3.mono HB2.out.size))
    clear hb3 x0 x1 s0 s1 s2 s3 s4 s5 s6 s7 s8 s9 s10 s11 s12
    go_wp2_with fail
    go_ret
    exact ⟨rfl, HB3.out⟩
  · have hz1 : (SC == 0) = false := by simpa using hz
    have hre : RES = false := by rw [← hRES.out, hSC.out, decide_eq_false hz, Bool.false_and]
    subst hre
    clear hz
    go_wp2_with fail
    go_ret
    exact ⟨rfl, HB2.out⟩
set_option maxHeartbeats 4000000 in
set_option maxRecDepth 100000 in
theorem scheckA_any (d : Nat) (p : Pr) (gv pv : Value) (w : World) (hp : PrC (cw w) d gv pv p) (hroom : RoomP p) :
    Calls Try.prog 18 #[.agg #[gv, pv]] w (FaultIs (arityP p) w) := by
  have HROOM := Lib.hid hroom
  clear hroom
  obtain ⟨ga, gc, rfl, hgl1, hgl2⟩ := hp.1.form
  obtain ⟨pa, pc, rfl, hl1, hl2⟩ := hp.2.form
  have hpl : p.procs.length ≤ 9223372036854775807 := Nat.le_trans hl1 hl2
  have HP := Lib.hid hp
  clear hp hl1 hl2 hgl1 hgl2
  obtain ⟨RR, hRR⟩ : ∃ r, Hid (arityP p = r) := ⟨_, Lib.hid rfl⟩
  rw [hRR.out]
  go_enter Try.func18, Try.ntmps18
  go_upto_region 1 with fail
  refine cut_world (fun wx => Below w.heap.size w wx ∧ wx.heap.size = w.heap.size + 1 + 1 ∧ BoxAt wx w.heap.size [.slice ga p.globals.length gc, .slice pa p.procs.length pc] ∧ BoxAt wx (w.heap.size + 1) [.int .i64 0, .int .i64 0] ∧ Free wx (w.heap.size + 1)) ⟨(boxed w _).alloc (by simp) _, by simp, (box_new w #[.slice ga p.globals.length gc, .slice pa p.procs.length pc] 25).next (boxed _ _), box_two w _ #[.int .i64 0, .int .i64 0] 30, free_two w _ _ _⟩ ?_
  rintro w1 ⟨hb1, hz1', hx1, hr1, hf1⟩
  obtain ⟨R, hR⟩ : ∃ R, R = w.heap.size + 1 := ⟨_, rfl⟩
  rw [← hR] at hr1 hf1
  try rw [← hR]
  have hRw : w.heap.size < R := by omega
  have hR1 : R < w1.heap.size := by omega
  have HB1 := Lib.hid hb1
  have HX1 := Lib.hid hx1
  have HR1 := Lib.hid hr1
  have HF1 := Lib.hid hf1
  have HP1 := Lib.hid (PrC.mono (cw_next hb1) HP.out)
  clear hb1 hx1 hr1 hf1 hz1' hR
  have x0 := HX1.out 0 _ rfl
  have x1 := HX1.out 1 _ rfl
  go_wp2_with fail
  refine (scheck_any d p _ _ _ HP1.out HROOM.out).mono ?_
  rintro e w2 ⟨rfl, hb2⟩
  obtain ⟨SC, hSC⟩ : ∃ r, Hid ((scopeP p).1 = r) := ⟨_, Lib.hid rfl⟩
  obtain ⟨SI, hSI⟩ : ∃ r, Hid ((scopeP p).2 = r) := ⟨_, Lib.hid rfl⟩
  rw [hSC.out, hSI.out]
  have hfd := run_code SC SI
  have HX2 := Lib.hid (HX1.out.next hb2)
  have HR2 := Lib.hid (HR1.out.next hb2)
  have HF2 := Lib.hid (HF1.out.next hR1 hb2)
  have HP2 := Lib.hid (PrC.mono (cw_next hb2) HP1.out)
  have HB2 := Lib.hid (HB1.out.trans (hb2.mono HB1.out.size))
  have hR2 : R < w2.heap.size := by have := hb2.size; omega
  clear hb2 x0 x1
  by_cases hz : SC = 0
  · have hz1 : (SC == 0) = true := by simpa using hz
    have HWELL := Lib.hid (hSC.out.trans hz)
    have hyes : arityP p = arityAt p := by unfold arityP; rw [if_pos HWELL.out]
    have HYES := Lib.hid hyes
    clear hz hyes
    have x0 := HX2.out 0 _ rfl
    have x1 := HX2.out 1 _ rfl
    go_wp2_with fail
    refine (new_any d p _ _ _ HP2.out HROOM.out.cnt HROOM.out.procs).mono ?_
    rintro e wK ⟨Y, lov, hiv, sv, rows, rfl, hsh, hbK⟩
    have hsl := hsh.sh.row.sl
    have y2 := hsh.sh.box 2 _ rfl
    obtain ⟨PT, hPT⟩ : ∃ L, Hid (sheetOf p = L) := ⟨_, Lib.hid rfl⟩
    have hpts : PT.map Fi.s = allSts p := by rw [← hPT.out]; exact sheet_sts p
    have HPART := Lib.hid hpts
    rw [hPT.out] at hsl
    obtain ⟨ia, ic, rfl, hil1, hil2⟩ := hsl.form
    have hil : PT.length ≤ 9223372036854775807 := Nat.le_trans hil1 hil2
    have HLK := Lib.hid hsl
    have HXK := Lib.hid (HX2.out.next hbK)
    have HRK := Lib.hid (HR2.out.next hbK)
    have HFK := Lib.hid (HF2.out.next hR2 hbK)
    have HPK := Lib.hid (PrC.mono (cw_next hbK) HP2.out)
    have HBK := Lib.hid (HB2.out.trans (hbK.mono HB2.out.size))
    have hRK : R < wK.heap.size := by have := hbK.size; omega
    clear hsl hsh hbK x0 x1 hil1 hil2 hpts
    go_wp2_with fail
    clear y2
    obtain ⟨WK, hWK⟩ : ∃ x : World, x = wK := ⟨_, rfl⟩
    subst hWK
    go_loopw [16] (fun i wr => ∃ q : Nat, q ≤ PT.length ∧ i = .int .i64 q ∧ (∀ j (hj : j < PT.length), j < q → badCall p PT[j].s = false) ∧ Below WK.heap.size WK wr) (fun i _ => (PT.length - intOf i).toNat)
    case atStart => exact ⟨0, by omega, rfl, fun j _ h => absurd h (by omega), Below.refl _ _⟩
    case round =>
      obtain ⟨q, hq, rfl, hnq, hbq⟩ := hrel
      obtain ⟨w9, hw9⟩ : ∃ x : World, x = wr := ⟨_, rfl⟩
      subst hw9
      have HNQ := Lib.hid hnq
      have HBQ9 := Lib.hid hbq
      have HX9 := Lib.hid (HXK.out.next hbq)
      have HR9 := Lib.hid (HRK.out.next hbq)
      have HF9 := Lib.hid (HFK.out.next hRK hbq)
      have HP9 := Lib.hid (PrC.mono (cw_next hbq) HPK.out)
      have HB9 := Lib.hid (HBK.out.trans (hbq.mono HBK.out.size))
      have hR9 : R < w9.heap.size := by have := hbq.size; omega
      have HL9 := Lib.hid (SlAt.imp HLK.out fun _ _ _ _ => FiAt.mono (cw_next hbq))
      clear hnq hbq
      by_cases hlq : q < PT.length
      · have hlq' : (q : Int) < (PT.length : Int) := by omega
        have h0q : (0 : Int) ≤ (q : Int) := by omega
        obtain ⟨gi, oi, hvi, hfi⟩ := its_at HL9.out hlq
        cases hvi
        obtain ⟨t, ht⟩ : ∃ t, Hid (PT[q] = t) := ⟨_, Lib.hid rfl⟩
        rw [ht.out] at hfi
        obtain ⟨la, ka, aa, ta, ea, lc, kc, ac, tc, ec, hrest⟩ := fi_open hfi
        have hce := hrest.1
        have hha := hrest.2.1
        have HCE := Lib.hid hce
        have HHA := Lib.hid hha
        clear hfi hce hha hrest
        have HI0 : Hid (BoxAt (w9.alloc (.cells #[.int .i64 0, .int .i64 0, .slice none 0 0, .string ⟨#[]⟩, .string ⟨#[]⟩, .int .i64 0, .int .i64 0, .string ⟨#[]⟩, .slice none 0 0, .bool false, .slice none 0 0, .slice none 0 0, .slice none 0 0, .int .i64 0, .int .i64 0, .int .i64 0, .int .i64 0] 95)) w9.heap.size [.int .i64 0, .int .i64 0, .slice none 0 0, .string ⟨#[]⟩, .string ⟨#[]⟩, .int .i64 0, .int .i64 0, .string ⟨#[]⟩, .slice none 0 0, .bool false, .slice none 0 0, .slice none 0 0, .slice none 0 0, .int .i64 0, .int .i64 0, .int .i64 0, .int .i64 0]) := Lib.hid (box_new w9 #[.int .i64 0, .int .i64 0, .slice none 0 0, .string ⟨#[]⟩, .string ⟨#[]⟩, .int .i64 0, .int .i64 0, .string ⟨#[]⟩, .slice none 0 0, .bool false, .slice none 0 0, .slice none 0 0, .slice none 0 0, .int .i64 0, .int .i64 0, .int .i64 0, .int .i64 0] 95)
        have HF0 : Hid (Free (w9.alloc (.cells #[.int .i64 0, .int .i64 0, .slice none 0 0, .string ⟨#[]⟩, .string ⟨#[]⟩, .int .i64 0, .int .i64 0, .string ⟨#[]⟩, .slice none 0 0, .bool false, .slice none 0 0, .slice none 0 0, .slice none 0 0, .int .i64 0, .int .i64 0, .int .i64 0, .int .i64 0] 95)) w9.heap.size) := Lib.hid (fun j => by simp [go_sem])
        have hzi := World.size_alloc w9 (.cells #[.int .i64 0, .int .i64 0, .slice none 0 0, .string ⟨#[]⟩, .string ⟨#[]⟩, .int .i64 0, .int .i64 0, .string ⟨#[]⟩, .slice none 0 0, .bool false, .slice none 0 0, .slice none 0 0, .slice none 0 0, .int .i64 0, .int .i64 0, .int .i64 0, .int .i64 0] 95)
        go_upto_region 6 with (first | refine wpList_load_mid rfl 95 (.tmp 18) rfl gi (oi + q * 17) rfl [.int .i64 t.s.id, .int .i64 t.s.kind, .slice la t.s.labels.length lc, .string t.s.nm, .string t.s.proc, .int .i64 t.s.x.op, .int .i64 t.s.x.n, .string t.s.x.nm, .slice ka t.s.x.ks.length kc, .bool t.s.has, .slice aa t.s.args.length ac, .slice ta t.s.thn.length tc, .slice ea t.s.els.length ec, .int .i64 t.proc, .int .i64 t.up, .int .i64 t.next, .int .i64 t.loop] _ (fun j v hv => HCE.out j v hv) Try.underlying95 rfl (by kernel_rfl) ?_ | refine wpList_store_mid rfl 95 (.tmp 4) (.tmp 19) rfl w9.heap.size 0 #[.int .i64 t.s.id, .int .i64 t.s.kind, .slice la t.s.labels.length lc, .string t.s.nm, .string t.s.proc, .int .i64 t.s.x.op, .int .i64 t.s.x.n, .string t.s.x.nm, .slice ka t.s.x.ks.length kc, .bool t.s.has, .slice aa t.s.args.length ac, .slice ta t.s.thn.length tc, .slice ea t.s.els.length ec, .int .i64 t.proc, .int .i64 t.up, .int .i64 t.next, .int .i64 t.loop] rfl rfl (box_there (n := 17) HI0.out HF0.out (by simp)) (by kernel_rfl) (by simp [Value.oneCell']) ?_)
        refine cut_world (fun wx => Below w9.heap.size w9 wx ∧ BoxAt wx w9.heap.size [.int .i64 t.s.id, .int .i64 t.s.kind, .slice la t.s.labels.length lc, .string t.s.nm, .string t.s.proc, .int .i64 t.s.x.op, .int .i64 t.s.x.n, .string t.s.x.nm, .slice ka t.s.x.ks.length kc, .bool t.s.has, .slice aa t.s.args.length ac, .slice ta t.s.thn.length tc, .slice ea t.s.els.length ec, .int .i64 t.proc, .int .i64 t.up, .int .i64 t.next, .int .i64 t.loop]) ⟨setCells_below _ _ (boxed w9 _) (Nat.le_refl _), box_over (old := [.int .i64 0, .int .i64 0, .slice none 0 0, .string ⟨#[]⟩, .string ⟨#[]⟩, .int .i64 0, .int .i64 0, .string ⟨#[]⟩, .slice none 0 0, .bool false, .slice none 0 0, .slice none 0 0, .slice none 0 0, .int .i64 0, .int .i64 0, .int .i64 0, .int .i64 0]) (xs := [.int .i64 t.s.id, .int .i64 t.s.kind, .slice la t.s.labels.length lc, .string t.s.nm, .string t.s.proc, .int .i64 t.s.x.op, .int .i64 t.s.x.n, .string t.s.x.nm, .slice ka t.s.x.ks.length kc, .bool t.s.has, .slice aa t.s.args.length ac, .slice ta t.s.thn.length tc, .slice ea t.s.els.length ec, .int .i64 t.proc, .int .i64 t.up, .int .i64 t.next, .int .i64 t.loop]) (rest := []) HI0.out HF0.out rfl⟩ ?_
        clear hzi HI0 HF0
        rintro wa ⟨hba, hta⟩
        have HTA := Lib.hid hta
        have HXA := Lib.hid (HX9.out.next hba)
        have HRA := Lib.hid (HR9.out.next hba)
        have HFA := Lib.hid (HF9.out.next hR9 hba)
        have HPA := Lib.hid (PrC.mono (cw_next hba) HP9.out)
        have HBA := Lib.hid (HB9.out.trans (hba.mono HB9.out.size))
        have hRA : R < wa.heap.size := by have := hba.size; omega
        have HBQA := Lib.hid (HBQ9.out.trans (hba.mono HBQ9.out.size))
        have HHAA := Lib.hid (HHA.out wa (cw_next hba))
        clear hba hta
        have t0 := HTA.out 0 _ rfl
        have t1 := HTA.out 1 _ rfl
        have hidx : (allSts p)[q]? = some t.s := by rw [← HPART.out, List.getElem?_map, List.getElem?_eq_getElem hlq, ht.out]; rfl
        have HIDX := Lib.hid hidx
        have hpre : ∀ j (hj : j < (allSts p).length), j < q → badCall p (allSts p)[j] = false := fun j hj hjq => by
          have h4 := HNQ.out j (by omega) hjq
          have h5 : (allSts p)[j]? = some PT[j].s := by rw [← HPART.out, List.getElem?_map, List.getElem?_eq_getElem (by omega)]; rfl
          obtain ⟨h6, h7⟩ := List.getElem?_eq_some_iff.1 h5
          rw [h7]; exact h4
        have HPRE := Lib.hid hpre
        clear hidx hpre
        cases hk4 : (t.s.kind == 4) with
        | false =>
          have hbad : badCall p t.s = false := by unfold badCall; rw [hk4, Bool.false_and]
          have HBAD := Lib.hid hbad
          clear hbad
          go_wp2_with fail
          go_roundw
          case rel =>
            refine ⟨q + 1, by omega, by go_num, fun j hj hjk => ?_, HBQA.out⟩
            rcases Nat.lt_or_ge j q with h | h
            · exact HNQ.out j hj h
            · obtain rfl : j = q := by omega
              rw [ht.out]; exact HBAD.out
          case measure => simp [intOf]; omega
        | true =>
          have HK4 := Lib.hid hk4
          have x0 := HXA.out 0 _ rfl
          have x1 := HXA.out 1 _ rfl
          have t2 := HTA.out 2 _ rfl
          have t3 := HTA.out 3 _ rfl
          have t4 := HTA.out 4 _ rfl
          have t5 := HTA.out 5 _ rfl
          have t6 := HTA.out 6 _ rfl
          have t7 := HTA.out 7 _ rfl
          have t8 := HTA.out 8 _ rfl
          have t9 := HTA.out 9 _ rfl
          have t10 := HTA.out 10 _ rfl
          have t11 := HTA.out 11 _ rfl
          have t12 := HTA.out 12 _ rfl
          go_wp2_with fail
          refine (sfits_any d p _ _ t.s la ka aa ta ea lc kc ac tc ec _ HPA.out HHAA.out).mono ?_
          rintro e wb ⟨rfl, hbb⟩
          obtain ⟨FB, hFB⟩ : ∃ b, Hid (fitsP p t.s = b) := ⟨_, Lib.hid rfl⟩
          rw [hFB.out]
          clear x0 x1 t0 t1 hk4 t2 t3 t4 t5 t6 t7 t8 t9 t10 t11 t12
          have HRB := Lib.hid (HRA.out.next hbb)
          have HFB := Lib.hid (HFA.out.next hRA hbb)
          have HBB := Lib.hid (HBA.out.trans (hbb.mono HBA.out.size))
          have hRB : R < wb.heap.size := by have := hbb.size; omega
          have HBQB := Lib.hid (HBQA.out.trans (hbb.mono HBQA.out.size))
          have t0 := HTA.out.next hbb 0 _ rfl
          clear hbb
          cases FB with
          | true =>
            have hbad : badCall p t.s = false := by unfold badCall; rw [hFB.out]; simp
            have HBAD := Lib.hid hbad
            clear hbad
            go_wp2_with fail
            go_roundw
            case rel =>
              refine ⟨q + 1, by omega, by go_num, fun j hj hjk => ?_, HBQB.out⟩
              rcases Nat.lt_or_ge j q with h | h
              · exact HNQ.out j hj h
              · obtain rfl : j = q := by omega
                rw [ht.out]; exact HBAD.out
            case measure => simp [intOf]; omega
          | false =>
            have hbad : badCall p t.s = true := by unfold badCall; rw [HK4.out, hFB.out]; rfl
            have hans : arityAt p = (6, t.s.id) := by
              obtain ⟨hq2, hq3⟩ := List.getElem?_eq_some_iff.1 HIDX.out
              rw [← hq3]
              exact arity_bad hq2 HPRE.out (by rw [hq3]; exact hbad)
            have HANS := Lib.hid hans
            clear hbad hans
            have r0 := HRB.out 0 _ rfl
            have r1 := HRB.out 1 _ rfl
            have f0 := HFB.out 0
            have f1 := HFB.out 1
            go_wp2_with fail
            have hq := box2 (x0 := .int .i64 6) (x1 := .int .i64 t.s.id) HRB.out
            have q0 := hq 0 _ rfl
            have q1 := hq 1 _ rfl
            refine bodyPost_ret (v := .agg #[.int .i64 6, .int .i64 t.s.id]) (by simp [results, Try.results18, go_sem, q0, q1]) rfl ?_
            exact ⟨by rw [← hRR.out, HYES.out, HANS.out], below2 HBB.out (by omega)⟩
      · have hlq' : ¬ (q : Int) < (PT.length : Int) := by omega
        have hans : arityAt p = (0, 0) := arity_ok fun j hj => by
          have hlen : (allSts p).length = PT.length := by rw [← HPART.out, List.length_map]
          have h4 := HNQ.out j (by omega) (by omega)
          have h5 : (allSts p)[j]? = some PT[j].s := by rw [← HPART.out, List.getElem?_map, List.getElem?_eq_getElem (by omega)]; rfl
          obtain ⟨h6, h7⟩ := List.getElem?_eq_some_iff.1 h5
          rw [h7]; exact h4
        have HANS := Lib.hid hans
        clear hans
        have r0 := HR9.out 0 _ rfl
        have r1 := HR9.out 1 _ rfl
        have f0 := HF9.out 0
        have f1 := HF9.out 1
        go_wp2_with fail
        have hq := box2 (x0 := .int .i64 0) (x1 := .int .i64 0) HR9.out
        have q0 := hq 0 _ rfl
        have q1 := hq 1 _ rfl
        refine bodyPost_ret (v := .agg #[.int .i64 0, .int .i64 0]) (by simp [results, Try.results18, go_sem, q0, q1]) rfl ?_
        exact ⟨by rw [← hRR.out, HYES.out, HANS.out], below2 HB9.out (by omega)⟩
  · have hz1 : (SC == 0) = false := by simpa using hz
    have hno : arityP p = (1, 0) := by unfold arityP; rw [hSC.out, if_neg hz]
    have HNO := Lib.hid hno
    clear hz hno
    have r0 := HR2.out 0 _ rfl
    have r1 := HR2.out 1 _ rfl
    have f0 := HF2.out 0
    have f1 := HF2.out 1
    go_wp2_with fail
    have hq := box2 (x0 := .int .i64 1) (x1 := .int .i64 0) HR2.out
    have q0 := hq 0 _ rfl
    have q1 := hq 1 _ rfl
    refine bodyPost_ret (v := .agg #[.int .i64 1, .int .i64 0]) (by simp [results, Try.results18, go_sem, q0, q1]) rfl ?_
    exact ⟨by rw [← hRR.out, HNO.out], below2 HB2.out (by omega)⟩
set_option maxHeartbeats 4000000 in
set_option maxRecDepth 100000 in
theorem rarity_any (d : Nat) (p : Pr) (gv pv : Value) (w : World) (hp : PrC (cw w) d gv pv p) (hroom : RoomP p) (hmay : mayP p = true) :
    Calls Try.prog 68 #[.agg #[gv, pv]] w (FaultIs (arityAt p) w) := by
  have HROOM := Lib.hid hroom
  have HMAY := Lib.hid hmay
  clear hroom hmay
  obtain ⟨ga, gc, rfl, hgl1, hgl2⟩ := hp.1.form
  obtain ⟨pa, pc, rfl, hl1, hl2⟩ := hp.2.form
  have hpl : p.procs.length ≤ 9223372036854775807 := Nat.le_trans hl1 hl2
  have HP := Lib.hid hp
  clear hp hl1 hl2 hgl1 hgl2
  obtain ⟨RR, hRR⟩ : ∃ r, Hid (arityAt p = r) := ⟨_, Lib.hid rfl⟩
  rw [hRR.out]
  go_enter Try.func68, Try.ntmps68
  go_upto_region 1 with fail
  refine cut_world (fun wx => Below w.heap.size w wx ∧ wx.heap.size = w.heap.size + 1 + 1 ∧ BoxAt wx w.heap.size [.slice ga p.globals.length gc, .slice pa p.procs.length pc] ∧ BoxAt wx (w.heap.size + 1) [.int .i64 0, .int .i64 0] ∧ Free wx (w.heap.size + 1)) ⟨(boxed w _).alloc (by simp) _, by simp, (box_new w #[.slice ga p.globals.length gc, .slice pa p.procs.length pc] 25).next (boxed _ _), box_two w _ #[.int .i64 0, .int .i64 0] 30, free_two w _ _ _⟩ ?_
  rintro w1 ⟨hb1, hz1', hx1, hr1, hf1⟩
  obtain ⟨R, hR⟩ : ∃ R, R = w.heap.size + 1 := ⟨_, rfl⟩
  rw [← hR] at hr1 hf1
  try rw [← hR]
  have hRw : w.heap.size < R := by omega
  have hR1 : R < w1.heap.size := by omega
  have HB1 := Lib.hid hb1
  have HX1 := Lib.hid hx1
  have HR1 := Lib.hid hr1
  have HF1 := Lib.hid hf1
  have HP1 := Lib.hid (PrC.mono (cw_next hb1) HP.out)
  clear hb1 hx1 hr1 hf1 hz1' hR
  have x0 := HX1.out 0 _ rfl
  have x1 := HX1.out 1 _ rfl
  go_wp2_with fail
  refine (allOf_any d p _ _ _ HP1.out).mono ?_
  rintro e wK ⟨v, rows, rfl, hrow, hbK⟩
  have hsl := hrow.sl
  obtain ⟨PT, hPT⟩ : ∃ L, Hid (allOf p = L) := ⟨_, Lib.hid rfl⟩
  have hpts : PT.map It.s = allSts p := by rw [← hPT.out]; exact all_its HMAY.out
  have HPART := Lib.hid hpts
  rw [hPT.out] at hsl
  obtain ⟨ia, ic, rfl, hil1, hil2⟩ := hsl.form
  have hil : PT.length ≤ 9223372036854775807 := Nat.le_trans hil1 hil2
  have HLK := Lib.hid hsl
  have HXK := Lib.hid (HX1.out.next hbK)
  have HRK := Lib.hid (HR1.out.next hbK)
  have HFK := Lib.hid (HF1.out.next hR1 hbK)
  have HPK := Lib.hid (PrC.mono (cw_next hbK) HP1.out)
  have HBK := Lib.hid (HB1.out.trans (hbK.mono HB1.out.size))
  have hRK : R < wK.heap.size := by have := hbK.size; omega
  clear hsl hrow hbK x0 x1 hil1 hil2 hpts
  go_wp2_with fail
  obtain ⟨WK, hWK⟩ : ∃ x : World, x = wK := ⟨_, rfl⟩
  subst hWK
  go_loopw [8] (fun i wr => ∃ q : Nat, q ≤ PT.length ∧ i = .int .i64 q ∧ (∀ j (hj : j < PT.length), j < q → badCall p PT[j].s = false) ∧ Below WK.heap.size WK wr) (fun i _ => (PT.length - intOf i).toNat)
  case atStart => exact ⟨0, by omega, rfl, fun j _ h => absurd h (by omega), Below.refl _ _⟩
  case round =>
    obtain ⟨q, hq, rfl, hnq, hbq⟩ := hrel
    obtain ⟨w9, hw9⟩ : ∃ x : World, x = wr := ⟨_, rfl⟩
    subst hw9
    have HNQ := Lib.hid hnq
    have HBQ9 := Lib.hid hbq
    have HX9 := Lib.hid (HXK.out.next hbq)
    have HR9 := Lib.hid (HRK.out.next hbq)
    have HF9 := Lib.hid (HFK.out.next hRK hbq)
    have HP9 := Lib.hid (PrC.mono (cw_next hbq) HPK.out)
    have HB9 := Lib.hid (HBK.out.trans (hbq.mono HBK.out.size))
    have hR9 : R < w9.heap.size := by have := hbq.size; omega
    have HL9 := Lib.hid (SlAt.imp HLK.out fun _ _ _ _ => ItAt.mono (cw_next hbq))
    clear hnq hbq
    by_cases hlq : q < PT.length
    · have hlq' : (q : Int) < (PT.length : Int) := by omega
      have h0q : (0 : Int) ≤ (q : Int) := by omega
      obtain ⟨gi, oi, hvi, hfi⟩ := its6_at HL9.out hlq
      cases hvi
      obtain ⟨t, ht⟩ : ∃ t, Hid (PT[q] = t) := ⟨_, Lib.hid rfl⟩
      rw [ht.out] at hfi
      obtain ⟨la, ka, aa, ta, ea, lc, kc, ac, tc, ec, hrest⟩ := it_open hfi
      have hce := hrest.1
      have hha := hrest.2.1
      have HCE := Lib.hid hce
      have HHA := Lib.hid hha
      clear hfi hce hha hrest
      have HI0 : Hid (BoxAt (w9.alloc (.cells #[.int .i64 0, .int .i64 0, .slice none 0 0, .string ⟨#[]⟩, .string ⟨#[]⟩, .int .i64 0, .int .i64 0, .string ⟨#[]⟩, .slice none 0 0, .bool false, .slice none 0 0, .slice none 0 0, .slice none 0 0, .int .i64 0, .int .i64 0, .bool false] 76)) w9.heap.size [.int .i64 0, .int .i64 0, .slice none 0 0, .string ⟨#[]⟩, .string ⟨#[]⟩, .int .i64 0, .int .i64 0, .string ⟨#[]⟩, .slice none 0 0, .bool false, .slice none 0 0, .slice none 0 0, .slice none 0 0, .int .i64 0, .int .i64 0, .bool false]) := Lib.hid (box_new w9 #[.int .i64 0, .int .i64 0, .slice none 0 0, .string ⟨#[]⟩, .string ⟨#[]⟩, .int .i64 0, .int .i64 0, .string ⟨#[]⟩, .slice none 0 0, .bool false, .slice none 0 0, .slice none 0 0, .slice none 0 0, .int .i64 0, .int .i64 0, .bool false] 76)
      have HF0 : Hid (Free (w9.alloc (.cells #[.int .i64 0, .int .i64 0, .slice none 0 0, .string ⟨#[]⟩, .string ⟨#[]⟩, .int .i64 0, .int .i64 0, .string ⟨#[]⟩, .slice none 0 0, .bool false, .slice none 0 0, .slice none 0 0, .slice none 0 0, .int .i64 0, .int .i64 0, .bool false] 76)) w9.heap.size) := Lib.hid (fun j => by simp [go_sem])
      have hzi := World.size_alloc w9 (.cells #[.int .i64 0, .int .i64 0, .slice none 0 0, .string ⟨#[]⟩, .string ⟨#[]⟩, .int .i64 0, .int .i64 0, .string ⟨#[]⟩, .slice none 0 0, .bool false, .slice none 0 0, .slice none 0 0, .slice none 0 0, .int .i64 0, .int .i64 0, .bool false] 76)
      go_upto_region 4 with (first | refine wpList_load_mid rfl 76 (.tmp 10) rfl gi (oi + q * 16) rfl [.int .i64 t.s.id, .int .i64 t.s.kind, .slice la t.s.labels.length lc, .string t.s.nm, .string t.s.proc, .int .i64 t.s.x.op, .int .i64 t.s.x.n, .string t.s.x.nm, .slice ka t.s.x.ks.length kc, .bool t.s.has, .slice aa t.s.args.length ac, .slice ta t.s.thn.length tc, .slice ea t.s.els.length ec, .int .i64 t.deep, .int .i64 t.inn, .bool t.els] _ (fun j v hv => HCE.out j v hv) Try.underlying76 rfl (by kernel_rfl) ?_ | refine wpList_store_mid rfl 76 (.tmp 4) (.tmp 11) rfl w9.heap.size 0 #[.int .i64 t.s.id, .int .i64 t.s.kind, .slice la t.s.labels.length lc, .string t.s.nm, .string t.s.proc, .int .i64 t.s.x.op, .int .i64 t.s.x.n, .string t.s.x.nm, .slice ka t.s.x.ks.length kc, .bool t.s.has, .slice aa t.s.args.length ac, .slice ta t.s.thn.length tc, .slice ea t.s.els.length ec, .int .i64 t.deep, .int .i64 t.inn, .bool t.els] rfl rfl (box_there (n := 16) HI0.out HF0.out (by simp)) (by kernel_rfl) (by simp [Value.oneCell']) ?_)
      refine cut_world (fun wx => Below w9.heap.size w9 wx ∧ BoxAt wx w9.heap.size [.int .i64 t.s.id, .int .i64 t.s.kind, .slice la t.s.labels.length lc, .string t.s.nm, .string t.s.proc, .int .i64 t.s.x.op, .int .i64 t.s.x.n, .string t.s.x.nm, .slice ka t.s.x.ks.length kc, .bool t.s.has, .slice aa t.s.args.length ac, .slice ta t.s.thn.length tc, .slice ea t.s.els.length ec, .int .i64 t.deep, .int .i64 t.inn, .bool t.els]) ⟨setCells_below _ _ (boxed w9 _) (Nat.le_refl _), box_over (old := [.int .i64 0, .int .i64 0, .slice none 0 0, .string ⟨#[]⟩, .string ⟨#[]⟩, .int .i64 0, .int .i64 0, .string ⟨#[]⟩, .slice none 0 0, .bool false, .slice none 0 0, .slice none 0 0, .slice none 0 0, .int .i64 0, .int .i64 0, .bool false]) (xs := [.int .i64 t.s.id, .int .i64 t.s.kind, .slice la t.s.labels.length lc, .string t.s.nm, .string t.s.proc, .int .i64 t.s.x.op, .int .i64 t.s.x.n, .string t.s.x.nm, .slice ka t.s.x.ks.length kc, .bool t.s.has, .slice aa t.s.args.length ac, .slice ta t.s.thn.length tc, .slice ea t.s.els.length ec, .int .i64 t.deep, .int .i64 t.inn, .bool t.els]) (rest := []) HI0.out HF0.out rfl⟩ ?_
      clear hzi HI0 HF0
      rintro wa ⟨hba, hta⟩
      have HTA := Lib.hid hta
      have HXA := Lib.hid (HX9.out.next hba)
      have HRA := Lib.hid (HR9.out.next hba)
      have HFA := Lib.hid (HF9.out.next hR9 hba)
      have HPA := Lib.hid (PrC.mono (cw_next hba) HP9.out)
      have HBA := Lib.hid (HB9.out.trans (hba.mono HB9.out.size))
      have hRA : R < wa.heap.size := by have := hba.size; omega
      have HBQA := Lib.hid (HBQ9.out.trans (hba.mono HBQ9.out.size))
      have HHAA := Lib.hid (HHA.out wa (cw_next hba))
      clear hba hta
      have t0 := HTA.out 0 _ rfl
      have t1 := HTA.out 1 _ rfl
      have hidx : (allSts p)[q]? = some t.s := by rw [← HPART.out, List.getElem?_map, List.getElem?_eq_getElem hlq, ht.out]; rfl
      have HIDX := Lib.hid hidx
      have hpre : ∀ j (hj : j < (allSts p).length), j < q → badCall p (allSts p)[j] = false := fun j hj hjq => by
        have h4 := HNQ.out j (by omega) hjq
        have h5 : (allSts p)[j]? = some PT[j].s := by rw [← HPART.out, List.getElem?_map, List.getElem?_eq_getElem (by omega)]; rfl
        obtain ⟨h6, h7⟩ := List.getElem?_eq_some_iff.1 h5
        rw [h7]; exact h4
      have HPRE := Lib.hid hpre
      clear hidx hpre
      cases hk4 : (t.s.kind == 4) with
      | false =>
        have hbad : badCall p t.s = false := by unfold badCall; rw [hk4, Bool.false_and]
        have HBAD := Lib.hid hbad
        clear hbad
        go_wp2_with fail
        go_roundw
        case rel =>
          refine ⟨q + 1, by omega, by go_num, fun j hj hjk => ?_, HBQA.out⟩
          rcases Nat.lt_or_ge j q with h | h
          · exact HNQ.out j hj h
          · obtain rfl : j = q := by omega
            rw [ht.out]; exact HBAD.out
        case measure => simp [intOf]; omega
      | true =>
        have HK4 := Lib.hid hk4
        have x0 := HXA.out 0 _ rfl
        have x1 := HXA.out 1 _ rfl
        have t2 := HTA.out 2 _ rfl
        have t3 := HTA.out 3 _ rfl
        have t4 := HTA.out 4 _ rfl
        have t5 := HTA.out 5 _ rfl
        have t6 := HTA.out 6 _ rfl
        have t7 := HTA.out 7 _ rfl
        have t8 := HTA.out 8 _ rfl
        have t9 := HTA.out 9 _ rfl
        have t10 := HTA.out 10 _ rfl
        have t11 := HTA.out 11 _ rfl
        have t12 := HTA.out 12 _ rfl
        go_wp2_with fail
        refine (rfits_any d p _ _ t.s la ka aa ta ea lc kc ac tc ec _ HPA.out HHAA.out).mono ?_
        rintro e wb ⟨rfl, hbb⟩
        obtain ⟨FB, hFB⟩ : ∃ b, Hid (fitsP p t.s = b) := ⟨_, Lib.hid rfl⟩
        rw [hFB.out]
        clear x0 x1 t0 t1 hk4 t2 t3 t4 t5 t6 t7 t8 t9 t10 t11 t12
        have HRB := Lib.hid (HRA.out.next hbb)
        have HFB := Lib.hid (HFA.out.next hRA hbb)
        have HBB := Lib.hid (HBA.out.trans (hbb.mono HBA.out.size))
        have hRB : R < wb.heap.size := by have := hbb.size; omega
        have HBQB := Lib.hid (HBQA.out.trans (hbb.mono HBQA.out.size))
        have t0 := HTA.out.next hbb 0 _ rfl
        clear hbb
        cases FB with
        | true =>
          have hbad : badCall p t.s = false := by unfold badCall; rw [hFB.out]; simp
          have HBAD := Lib.hid hbad
          clear hbad
          go_wp2_with fail
          go_roundw
          case rel =>
            refine ⟨q + 1, by omega, by go_num, fun j hj hjk => ?_, HBQB.out⟩
            rcases Nat.lt_or_ge j q with h | h
            · exact HNQ.out j hj h
            · obtain rfl : j = q := by omega
              rw [ht.out]; exact HBAD.out
          case measure => simp [intOf]; omega
        | false =>
          have hbad : badCall p t.s = true := by unfold badCall; rw [HK4.out, hFB.out]; rfl
          have hans : arityAt p = (6, t.s.id) := by
            obtain ⟨hq2, hq3⟩ := List.getElem?_eq_some_iff.1 HIDX.out
            rw [← hq3]
            exact arity_bad hq2 HPRE.out (by rw [hq3]; exact hbad)
          have HANS := Lib.hid hans
          clear hbad hans
          go_wp2_with fail
          refine (fault_any (6) (t.s.id) _).mono ?_
          rintro e wz ⟨rfl, hbz⟩
          have HRz := Lib.hid (HRB.out.next hbz)
          have HFz := Lib.hid (HFB.out.next hRB hbz)
          have HBz := Lib.hid (HBB.out.trans (hbz.mono HBB.out.size))
          clear hbz
          have r0 := HRz.out 0 _ rfl
          have r1 := HRz.out 1 _ rfl
          have f0 := HFz.out 0
          have f1 := HFz.out 1
          go_wp2_with fail
          have hq := box2 (x0 := .int .i64 6) (x1 := .int .i64 t.s.id) HRz.out
          have q0 := hq 0 _ rfl
          have q1 := hq 1 _ rfl
          refine bodyPost_ret (v := .agg #[.int .i64 6, .int .i64 t.s.id]) (by simp [results, Try.results68, go_sem, q0, q1]) rfl ?_
          exact ⟨by rw [← hRR.out, HANS.out], below2 HBz.out (by omega)⟩
    · have hlq' : ¬ (q : Int) < (PT.length : Int) := by omega
      have hans : arityAt p = (0, 0) := arity_ok fun j hj => by
        have hlen : (allSts p).length = PT.length := by rw [← HPART.out, List.length_map]
        have h4 := HNQ.out j (by omega) (by omega)
        have h5 : (allSts p)[j]? = some PT[j].s := by rw [← HPART.out, List.getElem?_map, List.getElem?_eq_getElem (by omega)]; rfl
        obtain ⟨h6, h7⟩ := List.getElem?_eq_some_iff.1 h5
        rw [h7]; exact h4
      have HANS := Lib.hid hans
      clear hans
      have r0 := HR9.out 0 _ rfl
      have r1 := HR9.out 1 _ rfl
      have f0 := HF9.out 0
      have f1 := HF9.out 1
      go_wp2_with fail
      have hq := box2 (x0 := .int .i64 0) (x1 := .int .i64 0) HR9.out
      have q0 := hq 0 _ rfl
      have q1 := hq 1 _ rfl
      refine bodyPost_ret (v := .agg #[.int .i64 0, .int .i64 0]) (by simp [results, Try.results68, go_sem, q0, q1]) rfl ?_
      exact ⟨by rw [← hRR.out, HANS.out], below2 HB9.out (by omega)⟩
set_option maxHeartbeats 4000000 in
set_option maxRecDepth 100000 in
theorem rArity_any (d : Nat) (p : Pr) (gv pv : Value) (w : World) (hp : PrC (cw w) d gv pv p) (hroom : RoomP p) :
    Calls Try.prog 19 #[.agg #[gv, pv]] w (FaultIs (arityP p) w) := by
  have HROOM := Lib.hid hroom
  clear hroom
  obtain ⟨ga, gc, rfl, hgl1, hgl2⟩ := hp.1.form
  obtain ⟨pa, pc, rfl, hl1, hl2⟩ := hp.2.form
  have hpl : p.procs.length ≤ 9223372036854775807 := Nat.le_trans hl1 hl2
  have HP := Lib.hid hp
  clear hp hl1 hl2 hgl1 hgl2
  obtain ⟨RR, hRR⟩ : ∃ r, Hid (arityP p = r) := ⟨_, Lib.hid rfl⟩
  rw [hRR.out]
  go_enter Try.func19, Try.ntmps19
  go_upto_region 1 with fail
  refine cut_world (fun wx => Below w.heap.size w wx ∧ wx.heap.size = w.heap.size + 1 + 1 ∧ BoxAt wx w.heap.size [.slice ga p.globals.length gc, .slice pa p.procs.length pc] ∧ BoxAt wx (w.heap.size + 1) [.int .i64 0, .int .i64 0] ∧ Free wx (w.heap.size + 1)) ⟨(boxed w _).alloc (by simp) _, by simp, (box_new w #[.slice ga p.globals.length gc, .slice pa p.procs.length pc] 25).next (boxed _ _), box_two w _ #[.int .i64 0, .int .i64 0] 30, free_two w _ _ _⟩ ?_
  rintro w1 ⟨hb1, hz1', hx1, hr1, hf1⟩
  obtain ⟨R, hR⟩ : ∃ R, R = w.heap.size + 1 := ⟨_, rfl⟩
  rw [← hR] at hr1 hf1
  try rw [← hR]
  have hRw : w.heap.size < R := by omega
  have hR1 : R < w1.heap.size := by omega
  have HB1 := Lib.hid hb1
  have HX1 := Lib.hid hx1
  have HR1 := Lib.hid hr1
  have HF1 := Lib.hid hf1
  have HP1 := Lib.hid (PrC.mono (cw_next hb1) HP.out)
  clear hb1 hx1 hr1 hf1 hz1' hR
  have x0 := HX1.out 0 _ rfl
  have x1 := HX1.out 1 _ rfl
  go_wp2_with fail
  refine (rscope_any d p _ _ _ HP1.out HROOM.out).mono ?_
  rintro e w2 ⟨rfl, hb2⟩
  obtain ⟨SC, hSC⟩ : ∃ r, Hid ((scopeP p).1 = r) := ⟨_, Lib.hid rfl⟩
  obtain ⟨SI, hSI⟩ : ∃ r, Hid ((scopeP p).2 = r) := ⟨_, Lib.hid rfl⟩
  rw [hSC.out, hSI.out]
  have hfd := run_code SC SI
  have HX2 := Lib.hid (HX1.out.next hb2)
  have HR2 := Lib.hid (HR1.out.next hb2)
  have HF2 := Lib.hid (HF1.out.next hR1 hb2)
  have HP2 := Lib.hid (PrC.mono (cw_next hb2) HP1.out)
  have HB2 := Lib.hid (HB1.out.trans (hb2.mono HB1.out.size))
  have hR2 : R < w2.heap.size := by have := hb2.size; omega
  clear hb2 x0 x1
  by_cases hz : SC = 0
  · have hz1 : (SC == 0) = true := by simpa using hz
    have HWELL := Lib.hid (hSC.out.trans hz)
    have hyes : arityP p = arityAt p := by unfold arityP; rw [if_pos HWELL.out]
    have HYES := Lib.hid hyes
    clear hz hyes
    have x0 := HX2.out 0 _ rfl
    have x1 := HX2.out 1 _ rfl
    go_wp2_with fail
    refine (rarity_any d p _ _ _ HP2.out HROOM.out (scope_code HWELL.out).1).mono ?_
    rintro e w3 ⟨rfl, hb3⟩
    obtain ⟨A1, hA1⟩ : ∃ r, Hid ((arityAt p).1 = r) := ⟨_, Lib.hid rfl⟩
    obtain ⟨A2, hA2⟩ : ∃ r, Hid ((arityAt p).2 = r) := ⟨_, Lib.hid rfl⟩
    rw [hA1.out, hA2.out]
    have HR3 := Lib.hid (HR2.out.next hb3)
    have HF3 := Lib.hid (HF2.out.next hR2 hb3)
    have HB3 := Lib.hid (HB2.out.trans (hb3.mono HB2.out.size))
    have hR3 : R < w3.heap.size := by have := hb3.size; omega
    clear hb3 x0 x1
    have r0 := HR3.out 0 _ rfl
    have r1 := HR3.out 1 _ rfl
    have f0 := HF3.out 0
    have f1 := HF3.out 1
    go_wp2_with fail
    have hq := box2 (x0 := .int .i64 A1) (x1 := .int .i64 A2) HR3.out
    have q0 := hq 0 _ rfl
    have q1 := hq 1 _ rfl
    refine bodyPost_ret (v := .agg #[.int .i64 A1, .int .i64 A2]) (by simp [results, Try.results19, go_sem, q0, q1]) rfl ?_
    exact ⟨by rw [← hRR.out, HYES.out, ← hA1.out, ← hA2.out], below2 HB3.out (by omega)⟩
  · have hz1 : (SC == 0) = false := by simpa using hz
    have hno : arityP p = (1, 0) := by unfold arityP; rw [hSC.out, if_neg hz]
    have HNO := Lib.hid hno
    clear hz hno
    go_wp2_with fail
    refine (fault_any (1) (0) _).mono ?_
    rintro e wz ⟨rfl, hbz⟩
    have HRz := Lib.hid (HR2.out.next hbz)
    have HFz := Lib.hid (HF2.out.next hR2 hbz)
    have HBz := Lib.hid (HB2.out.trans (hbz.mono HB2.out.size))
    clear hbz
    have r0 := HRz.out 0 _ rfl
    have r1 := HRz.out 1 _ rfl
    have f0 := HFz.out 0
    have f1 := HFz.out 1
    go_wp2_with fail
    have hq := box2 (x0 := .int .i64 1) (x1 := .int .i64 0) HRz.out
    have q0 := hq 0 _ rfl
    have q1 := hq 1 _ rfl
    refine bodyPost_ret (v := .agg #[.int .i64 1, .int .i64 0]) (by simp [results, Try.results19, go_sem, q0, q1]) rfl ?_
    exact ⟨by rw [← hRR.out, HNO.out], below2 HBz.out (by omega)⟩
end Go.Proofs.Ytghlmengcidmdaa.Tr
end
section
/- What Mod of the reference computes: the rest, never below 0. Conditions: the divisor is at least 1 and at most 1000000. -/
namespace Go.Proofs.Ytghlmengcidmdaa.Tr
open Go.RowKit
theorem ret_i64 {a b : Int} (h : a = b) : Ending.returned (.int .i64 a) = .returned (.int .i64 b) := by rw [h]
theorem mod_any (n k r : Int) (w : World) (hn1 : -9223372036854775808 ≤ n) (hn2 : n ≤ 9223372036854775807) (hk1 : 1 ≤ k) (hk2 : k ≤ 1000000) (hr : n % k = r) :
    Calls Try.prog 28 #[.int .i64 n, .int .i64 k] w fun e w' => e = .returned (.int .i64 r) ∧ w = w' := by
  have h0 := Int.emod_nonneg n (b := k) (by omega)
  have h1 := Int.emod_lt_of_pos n (b := k) (by omega)
  have hk : ¬ k < 1 := by omega
  have HR := Lib.hid hr
  clear hr
  by_cases hneg : 0 ≤ n
  · have hr0 : decide (n % k < 0) = false := by simpa using h0
    go_enter Try.func28, Try.ntmps28
    go_wp2
    go_ret
    exact ⟨ret_i64 HR.out, rfl⟩
  · have ht := Int.tmod_eq_emod (a := n) (b := k)
    by_cases hz : n % k = 0
    · have hd : k ∣ n := Int.dvd_of_emod_eq_zero hz
      rw [if_pos (.inr hd), hz] at ht
      have HT : Hid (n.tmod k = 0) := Lib.hid (by omega)
      have hr0 : decide (n.tmod k < 0) = false := by rw [HT.out]; rfl
      have HZ := Lib.hid hz
      clear ht hd hz h0 h1
      go_enter Try.func28, Try.ntmps28
      go_wp2
      go_ret
      exact ⟨ret_i64 (by rw [HT.out, ← HR.out, HZ.out]), rfl⟩
    · have hd : ¬ k ∣ n := fun h => hz (Int.emod_eq_zero_of_dvd h)
      rw [if_neg (by simp; omega)] at ht
      have b1 : -1000000 ≤ n.tmod k := by omega
      have b2 : n.tmod k < 0 := by omega
      have b3 : n.tmod k + k = r := by have := HR.out; omega
      have HB := Lib.hid b3
      have hr0 : decide (n.tmod k < 0) = true := by simpa using b2
      have hsum : wrap64 (n.tmod k + k) = n.tmod k + k := IntWalk.wrap64_in _ (by omega)
      have HS := Lib.hid hsum
      clear ht hd hz h0 h1 b3 hsum
      go_enter Try.func28, Try.ntmps28
      go_wp2
      go_ret
      exact ⟨ret_i64 (by first | exact HB.out | (rw [HS.out]; exact HB.out)), rfl⟩
end Go.Proofs.Ytghlmengcidmdaa.Tr
end
