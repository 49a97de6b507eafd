/- Parts of ArityW, TMod, IdsW, FaultEq: walks and plain laws that later texts use. Conditions: as each statement says. -/
import Derived.Test.YtghlmengcidmdaaTa0
import Derived.Test.YtghlmengcidmdaaTa1
import Derived.Test.YtghlmengcidmdaaTa2
import Derived.Test.YtghlmengcidmdaaTa3
import Derived.Test.YtghlmengcidmdaaTa4
import Derived.Test.YtghlmengcidmdaaTa5
import Derived.Test.YtghlmengcidmdaaTa6
import Derived.Test.YtghlmengcidmdaaTa7
import Derived.Test.YtghlmengcidmdaaTa8
import Derived.Test.YtghlmengcidmdaaTa9
import Derived.Test.YtghlmengcidmdaaTa10
import Derived.Test.YtghlmengcidmdaaTa11
import Derived.Test.YtghlmengcidmdaaTa12
import Derived.Test.YtghlmengcidmdaaTa13
import Derived.Test.YtghlmengcidmdaaTa14
import Derived.Test.YtghlmengcidmdaaTa15
import Derived.Test.YtghlmengcidmdaaTa16
import Derived.Test.YtghlmengcidmdaaTa17
import Derived.Deep.DeepCutAuto
import Derived.Deep.RegionHeld3
import Derived.Deep.RegionLaw
import Derived.Deep.AppendLies
import Derived.RegionTactic
import Derived.Deep.QuietTactic
import Derived.BigQuiet
import Derived.Deep.CutBlock
import Derived.IntWalk
import Derived.StillTailTactics
import Derived.WalkKit
import Derived.Test.YtghlmengcidmdaaRows
import Derived.WalkSpells
import Derived.Lib.Hide
import Derived.Below
import Derived.WalkSmall
import Derived.Deep.RegionWith
import Derived.Laws.Cover3
import Derived.Laws.BitsAllLaws
import Derived.Maps.Range
import Derived.Outline
import Derived.Lib.SmallJoins
import Derived.Deep.Upon
import Derived.Maps.AppendAt
import Derived.Laws.OwnMore
import Derived.Deep.MidRow
import Derived.OwnWalk
import Derived.OneCell
import Derived.Laws.StructEq
import Derived.OrdersHeld
import Derived.Deep.Slices
import Derived.Deep.Fields
import Derived.SliceStrings
import Derived.ChangeSlices
section
/- What Fits and Check of arity, CallFits, arity and Arity of the reference tell. Conditions: what they are handed lies in memory, and there is room. -/
namespace Go.Proofs.Ytghlmengcidmdaa.Tr
open Go.RowKit Go.Proofs.Ytghlmengcidmdaa.Lx Go.Proofs.Ytghlmengcidmdaa.Wd
set_option linter.unusedSimpArgs false
theorem all_its_l : ∀ (l : List Pc) (out : List It), mayPs out.length l = true → out.length + cntP l ≤ 200 → allPs l out = out ++ (l.map itsOf).flatten := by
  intro l
  induction l with
  | nil => intro out _ _; simp [allPs]
  | cons f r ih =>
    intro out h hl
    rw [mayPs, Bool.and_eq_true] at h
    have hc : cntP (f :: r) = cntL f.body + cntP r := by unfold cntP; simp
    have h2 := mayPc_rows h.1
    have hf : flatOf f = itsOf f := by
      unfold flatOf itsOf
      rw [flatL_pre f.body 1 0 _ false [] h2 (by simp; omega), List.nil_append]
    have hfl : (itsOf f).length = cntL f.body := by unfold itsOf; exact preL_len _ _ _ _
    have hlen : (out ++ flatOf f).length = out.length + cntL f.body := by rw [List.length_append, hf, hfl]
    rw [allPs_cons, hlen, if_neg (by omega), ih _ (by rw [hlen]; have := h.2; push_cast; exact this) (by rw [hlen]; omega), hf, List.map_cons, List.flatten_cons, List.append_assoc]
set_option maxHeartbeats 2000000 in
set_option maxRecDepth 100000 in
theorem sFits_any (d : Nat) (p : Pr) (gv pv : Value) (s : St) (la ka aa ta ea : Option Addr) (lc kc ac tc ec : Nat) (w : World) (hp : PrC (cw w) d gv pv p) (hh : Hang d w s (.slice la s.labels.length lc) (.slice ka s.x.ks.length kc) (.slice aa s.args.length ac) (.slice ta s.thn.length tc) (.slice ea s.els.length ec)) (hroom : RoomP p) :
    Calls Try.prog 24 #[.agg #[gv, pv], .agg #[.int .i64 s.id, .int .i64 s.kind, .slice la s.labels.length lc, .string s.nm, .string s.proc, .int .i64 s.x.op, .int .i64 s.x.n, .string s.x.nm, .slice ka s.x.ks.length kc, .bool s.has, .slice aa s.args.length ac, .slice ta s.thn.length tc, .slice ea s.els.length ec]] w fun e w' => e = .returned (.bool (decide ((scopeP p).1 = 0) && fitsP p s)) ∧ Below w.heap.size w w' := by
  have HH := Lib.hid hh
  have HROOM := Lib.hid hroom
  clear hh hroom
  obtain ⟨ga, gc, rfl, hgl1, hgl2⟩ := hp.1.form
  obtain ⟨pa, pc, rfl, hl1, hl2⟩ := hp.2.form
  have hpl : p.procs.length ≤ 9223372036854775807 := Nat.le_trans hl1 hl2
  have HP := Lib.hid hp
  clear hp hl1 hl2 hgl1 hgl2
  obtain ⟨RES, hRES⟩ : ∃ b, Hid ((decide ((scopeP p).1 = 0) && fitsP p s) = b) := ⟨_, Lib.hid rfl⟩
  rw [hRES.out]
  go_enter Try.func24, Try.ntmps24
  go_upto_region 1 with fail
  refine cut_world (fun wx => Below w.heap.size w wx ∧ BoxAt wx w.heap.size [.slice ga p.globals.length gc, .slice pa p.procs.length pc] ∧ BoxAt wx (w.heap.size + 1) [.int .i64 s.id, .int .i64 s.kind, .slice la s.labels.length lc, .string s.nm, .string s.proc, .int .i64 s.x.op, .int .i64 s.x.n, .string s.x.nm, .slice ka s.x.ks.length kc, .bool s.has, .slice aa s.args.length ac, .slice ta s.thn.length tc, .slice ea s.els.length ec]) ⟨(boxed w _).alloc (by simp) _, (box_new w #[.slice ga p.globals.length gc, .slice pa p.procs.length pc] 25).next (boxed _ _), box_two w _ #[.int .i64 s.id, .int .i64 s.kind, .slice la s.labels.length lc, .string s.nm, .string s.proc, .int .i64 s.x.op, .int .i64 s.x.n, .string s.x.nm, .slice ka s.x.ks.length kc, .bool s.has, .slice aa s.args.length ac, .slice ta s.thn.length tc, .slice ea s.els.length ec] 41⟩ ?_
  rintro w1 ⟨hb1, hx1, hs1⟩
  have HB1 := Lib.hid hb1
  have HX1 := Lib.hid hx1
  have HS1 := Lib.hid hs1
  have HP1 := Lib.hid (PrC.mono (cw_next hb1) HP.out)
  have HH1 := Lib.hid (HH.out.next hb1)
  clear hb1 hx1 hs1
  have x0 := HX1.out 0 _ rfl
  have x1 := HX1.out 1 _ rfl
  go_wp2_with fail
  refine (scheck_any d p _ _ _ HP1.out HROOM.out).mono ?_
  rintro e w2 ⟨rfl, hb2⟩
  obtain ⟨SC, hSC⟩ : ∃ r, Hid ((scopeP p).1 = r) := ⟨_, Lib.hid rfl⟩
  obtain ⟨SI, hSI⟩ : ∃ r, Hid ((scopeP p).2 = r) := ⟨_, Lib.hid rfl⟩
  rw [hSC.out, hSI.out]
  have hfd := run_code SC SI
  have HB2 := Lib.hid (HB1.out.trans (hb2.mono HB1.out.size))
  have HX2 := Lib.hid (HX1.out.next hb2)
  have HS2 := Lib.hid (HS1.out.next hb2)
  have HP2 := Lib.hid (PrC.mono (cw_next hb2) HP1.out)
  have HH2 := Lib.hid (HH1.out.next hb2)
  clear hb2 x0 x1
  by_cases hz : SC = 0
  · have hz1 : (SC == 0) = true := by simpa using hz
    have hre : fitsP p s = RES := by rw [← hRES.out, hSC.out, decide_eq_true hz, Bool.true_and]
    have HRE := Lib.hid hre
    clear hz hre
    have x0 := HX2.out 0 _ rfl
    have x1 := HX2.out 1 _ rfl
    have s0 := HS2.out 0 _ rfl
    have s1 := HS2.out 1 _ rfl
    have s2 := HS2.out 2 _ rfl
    have s3 := HS2.out 3 _ rfl
    have s4 := HS2.out 4 _ rfl
    have s5 := HS2.out 5 _ rfl
    have s6 := HS2.out 6 _ rfl
    have s7 := HS2.out 7 _ rfl
    have s8 := HS2.out 8 _ rfl
    have s9 := HS2.out 9 _ rfl
    have s10 := HS2.out 10 _ rfl
    have s11 := HS2.out 11 _ rfl
    have s12 := HS2.out 12 _ rfl
    go_wp2_with fail
    refine (sfits_any d p _ _ s la ka aa ta ea lc kc ac tc ec _ HP2.out HH2.out).mono ?_
    rintro e w3 ⟨rfl, hb3⟩
    rw [HRE.out]
    have HB3 := Lib.hid (HB2.out.trans (hb3.mono HB2.out.size))
    clear hb3 x0 x1 s0 s1 s2 s3 s4 s5 s6 s7 s8 s9 s10 s11 s12
    go_wp2_with fail
    go_ret
    exact ⟨rfl, HB3.out⟩
  · have hz1 : (SC == 0) = false := by simpa using hz
    have hre : RES = false := by rw [← hRES.out, hSC.out, decide_eq_false hz, Bool.false_and]
    subst hre
    clear hz
    go_wp2_with fail
    go_ret
    exact ⟨rfl, HB2.out⟩
set_option maxHeartbeats 4000000 in
set_option maxRecDepth 100000 in
theorem scheckA_any (d : Nat) (p : Pr) (gv pv : Value) (w : World) (hp : PrC (cw w) d gv pv p) (hroom : RoomP p) :
    Calls Try.prog 18 #[.agg #[gv, pv]] w (FaultIs (arityP p) w) := by
  have HROOM := Lib.hid hroom
  clear hroom
  obtain ⟨ga, gc, rfl, hgl1, hgl2⟩ := hp.1.form
  obtain ⟨pa, pc, rfl, hl1, hl2⟩ := hp.2.form
  have hpl : p.procs.length ≤ 9223372036854775807 := Nat.le_trans hl1 hl2
  have HP := Lib.hid hp
  clear hp hl1 hl2 hgl1 hgl2
  obtain ⟨RR, hRR⟩ : ∃ r, Hid (arityP p = r) := ⟨_, Lib.hid rfl⟩
  rw [hRR.out]
  go_enter Try.func18, Try.ntmps18
  go_upto_region 1 with fail
  refine cut_world (fun wx => Below w.heap.size w wx ∧ wx.heap.size = w.heap.size + 1 + 1 ∧ BoxAt wx w.heap.size [.slice ga p.globals.length gc, .slice pa p.procs.length pc] ∧ BoxAt wx (w.heap.size + 1) [.int .i64 0, .int .i64 0] ∧ Free wx (w.heap.size + 1)) ⟨(boxed w _).alloc (by simp) _, by simp, (box_new w #[.slice ga p.globals.length gc, .slice pa p.procs.length pc] 25).next (boxed _ _), box_two w _ #[.int .i64 0, .int .i64 0] 30, free_two w _ _ _⟩ ?_
  rintro w1 ⟨hb1, hz1', hx1, hr1, hf1⟩
  obtain ⟨R, hR⟩ : ∃ R, R = w.heap.size + 1 := ⟨_, rfl⟩
  rw [← hR] at hr1 hf1
  try rw [← hR]
  have hRw : w.heap.size < R := by omega
  have hR1 : R < w1.heap.size := by omega
  have HB1 := Lib.hid hb1
  have HX1 := Lib.hid hx1
  have HR1 := Lib.hid hr1
  have HF1 := Lib.hid hf1
  have HP1 := Lib.hid (PrC.mono (cw_next hb1) HP.out)
  clear hb1 hx1 hr1 hf1 hz1' hR
  have x0 := HX1.out 0 _ rfl
  have x1 := HX1.out 1 _ rfl
  go_wp2_with fail
  refine (scheck_any d p _ _ _ HP1.out HROOM.out).mono ?_
  rintro e w2 ⟨rfl, hb2⟩
  obtain ⟨SC, hSC⟩ : ∃ r, Hid ((scopeP p).1 = r) := ⟨_, Lib.hid rfl⟩
  obtain ⟨SI, hSI⟩ : ∃ r, Hid ((scopeP p).2 = r) := ⟨_, Lib.hid rfl⟩
  rw [hSC.out, hSI.out]
  have hfd := run_code SC SI
  have HX2 := Lib.hid (HX1.out.next hb2)
  have HR2 := Lib.hid (HR1.out.next hb2)
  have HF2 := Lib.hid (HF1.out.next hR1 hb2)
  have HP2 := Lib.hid (PrC.mono (cw_next hb2) HP1.out)
  have HB2 := Lib.hid (HB1.out.trans (hb2.mono HB1.out.size))
  have hR2 : R < w2.heap.size := by have := hb2.size; omega
  clear hb2 x0 x1
  by_cases hz : SC = 0
  · have hz1 : (SC == 0) = true := by simpa using hz
    have HWELL := Lib.hid (hSC.out.trans hz)
    have hyes : arityP p = arityAt p := by unfold arityP; rw [if_pos HWELL.out]
    have HYES := Lib.hid hyes
    clear hz hyes
    have x0 := HX2.out 0 _ rfl
    have x1 := HX2.out 1 _ rfl
    go_wp2_with fail
    refine (new_any d p _ _ _ HP2.out HROOM.out.cnt HROOM.out.procs).mono ?_
    rintro e wK ⟨Y, lov, hiv, sv, rows, rfl, hsh, hbK⟩
    have hsl := hsh.sh.row.sl
    have y2 := hsh.sh.box 2 _ rfl
    obtain ⟨PT, hPT⟩ : ∃ L, Hid (sheetOf p = L) := ⟨_, Lib.hid rfl⟩
    have hpts : PT.map Fi.s = allSts p := by rw [← hPT.out]; exact sheet_sts p
    have HPART := Lib.hid hpts
    rw [hPT.out] at hsl
    obtain ⟨ia, ic, rfl, hil1, hil2⟩ := hsl.form
    have hil : PT.length ≤ 9223372036854775807 := Nat.le_trans hil1 hil2
    have HLK := Lib.hid hsl
    have HXK := Lib.hid (HX2.out.next hbK)
    have HRK := Lib.hid (HR2.out.next hbK)
    have HFK := Lib.hid (HF2.out.next hR2 hbK)
    have HPK := Lib.hid (PrC.mono (cw_next hbK) HP2.out)
    have HBK := Lib.hid (HB2.out.trans (hbK.mono HB2.out.size))
    have hRK : R < wK.heap.size := by have := hbK.size; omega
    clear hsl hsh hbK x0 x1 hil1 hil2 hpts
    go_wp2_with fail
    clear y2
    obtain ⟨WK, hWK⟩ : ∃ x : World, x = wK := ⟨_, rfl⟩
    subst hWK
    go_loopw [16] (fun i wr => ∃ q : Nat, q ≤ PT.length ∧ i = .int .i64 q ∧ (∀ j (hj : j < PT.length), j < q → badCall p PT[j].s = false) ∧ Below WK.heap.size WK wr) (fun i _ => (PT.length - intOf i).toNat)
    case atStart => exact ⟨0, by omega, rfl, fun j _ h => absurd h (by omega), Below.refl _ _⟩
    case round =>
      obtain ⟨q, hq, rfl, hnq, hbq⟩ := hrel
      obtain ⟨w9, hw9⟩ : ∃ x : World, x = wr := ⟨_, rfl⟩
      subst hw9
      have HNQ := Lib.hid hnq
      have HBQ9 := Lib.hid hbq
      have HX9 := Lib.hid (HXK.out.next hbq)
      have HR9 := Lib.hid (HRK.out.next hbq)
      have HF9 := Lib.hid (HFK.out.next hRK hbq)
      have HP9 := Lib.hid (PrC.mono (cw_next hbq) HPK.out)
      have HB9 := Lib.hid (HBK.out.trans (hbq.mono HBK.out.size))
      have hR9 : R < w9.heap.size := by have := hbq.size; omega
      have HL9 := Lib.hid (SlAt.imp HLK.out fun _ _ _ _ => FiAt.mono (cw_next hbq))
      clear hnq hbq
      by_cases hlq : q < PT.length
      · have hlq' : (q : Int) < (PT.length : Int) := by omega
        have h0q : (0 : Int) ≤ (q : Int) := by omega
        obtain ⟨gi, oi, hvi, hfi⟩ := its_at HL9.out hlq
        cases hvi
        obtain ⟨t, ht⟩ : ∃ t, Hid (PT[q] = t) := ⟨_, Lib.hid rfl⟩
        rw [ht.out] at hfi
        obtain ⟨la, ka, aa, ta, ea, lc, kc, ac, tc, ec, hrest⟩ := fi_open hfi
        have hce := hrest.1
        have hha := hrest.2.1
        have HCE := Lib.hid hce
        have HHA := Lib.hid hha
        clear hfi hce hha hrest
        have HI0 : Hid (BoxAt (w9.alloc (.cells #[.int .i64 0, .int .i64 0, .slice none 0 0, .string ⟨#[]⟩, .string ⟨#[]⟩, .int .i64 0, .int .i64 0, .string ⟨#[]⟩, .slice none 0 0, .bool false, .slice none 0 0, .slice none 0 0, .slice none 0 0, .int .i64 0, .int .i64 0, .int .i64 0, .int .i64 0] 95)) w9.heap.size [.int .i64 0, .int .i64 0, .slice none 0 0, .string ⟨#[]⟩, .string ⟨#[]⟩, .int .i64 0, .int .i64 0, .string ⟨#[]⟩, .slice none 0 0, .bool false, .slice none 0 0, .slice none 0 0, .slice none 0 0, .int .i64 0, .int .i64 0, .int .i64 0, .int .i64 0]) := Lib.hid (box_new w9 #[.int .i64 0, .int .i64 0, .slice none 0 0, .string ⟨#[]⟩, .string ⟨#[]⟩, .int .i64 0, .int .i64 0, .string ⟨#[]⟩, .slice none 0 0, .bool false, .slice none 0 0, .slice none 0 0, .slice none 0 0, .int .i64 0, .int .i64 0, .int .i64 0, .int .i64 0] 95)
        have HF0 : Hid (Free (w9.alloc (.cells #[.int .i64 0, .int .i64 0, .slice none 0 0, .string ⟨#[]⟩, .string ⟨#[]⟩, .int .i64 0, .int .i64 0, .string ⟨#[]⟩, .slice none 0 0, .bool false, .slice none 0 0, .slice none 0 0, .slice none 0 0, .int .i64 0, .int .i64 0, .int .i64 0, .int .i64 0] 95)) w9.heap.size) := Lib.hid (fun j => by simp [go_sem])
        have hzi := World.size_alloc w9 (.cells #[.int .i64 0, .int .i64 0, .slice none 0 0, .string ⟨#[]⟩, .string ⟨#[]⟩, .int .i64 0, .int .i64 0, .string ⟨#[]⟩, .slice none 0 0, .bool false, .slice none 0 0, .slice none 0 0, .slice none 0 0, .int .i64 0, .int .i64 0, .int .i64 0, .int .i64 0] 95)
        go_upto_region 6 with (first | refine wpList_load_mid rfl 95 (.tmp 18) rfl gi (oi + q * 17) rfl [.int .i64 t.s.id, .int .i64 t.s.kind, .slice la t.s.labels.length lc, .string t.s.nm, .string t.s.proc, .int .i64 t.s.x.op, .int .i64 t.s.x.n, .string t.s.x.nm, .slice ka t.s.x.ks.length kc, .bool t.s.has, .slice aa t.s.args.length ac, .slice ta t.s.thn.length tc, .slice ea t.s.els.length ec, .int .i64 t.proc, .int .i64 t.up, .int .i64 t.next, .int .i64 t.loop] _ (fun j v hv => HCE.out j v hv) Try.underlying95 rfl (by kernel_rfl) ?_ | refine wpList_store_mid rfl 95 (.tmp 4) (.tmp 19) rfl w9.heap.size 0 #[.int .i64 t.s.id, .int .i64 t.s.kind, .slice la t.s.labels.length lc, .string t.s.nm, .string t.s.proc, .int .i64 t.s.x.op, .int .i64 t.s.x.n, .string t.s.x.nm, .slice ka t.s.x.ks.length kc, .bool t.s.has, .slice aa t.s.args.length ac, .slice ta t.s.thn.length tc, .slice ea t.s.els.length ec, .int .i64 t.proc, .int .i64 t.up, .int .i64 t.next, .int .i64 t.loop] rfl rfl (box_there (n := 17) HI0.out HF0.out (by simp)) (by kernel_rfl) (by simp [Value.oneCell']) ?_)
        refine cut_world (fun wx => Below w9.heap.size w9 wx ∧ BoxAt wx w9.heap.size [.int .i64 t.s.id, .int .i64 t.s.kind, .slice la t.s.labels.length lc, .string t.s.nm, .string t.s.proc, .int .i64 t.s.x.op, .int .i64 t.s.x.n, .string t.s.x.nm, .slice ka t.s.x.ks.length kc, .bool t.s.has, .slice aa t.s.args.length ac, .slice ta t.s.thn.length tc, .slice ea t.s.els.length ec, .int .i64 t.proc, .int .i64 t.up, .int .i64 t.next, .int .i64 t.loop]) ⟨setCells_below _ _ (boxed w9 _) (Nat.le_refl _), box_over (old := [.int .i64 0, .int .i64 0, .slice none 0 0, .string ⟨#[]⟩, .string ⟨#[]⟩, .int .i64 0, .int .i64 0, .string ⟨#[]⟩, .slice none 0 0, .bool false, .slice none 0 0, .slice none 0 0, .slice none 0 0, .int .i64 0, .int .i64 0, .int .i64 0, .int .i64 0]) (xs := [.int .i64 t.s.id, .int .i64 t.s.kind, .slice la t.s.labels.length lc, .string t.s.nm, .string t.s.proc, .int .i64 t.s.x.op, .int .i64 t.s.x.n, .string t.s.x.nm, .slice ka t.s.x.ks.length kc, .bool t.s.has, .slice aa t.s.args.length ac, .slice ta t.s.thn.length tc, .slice ea t.s.els.length ec, .int .i64 t.proc, .int .i64 t.up, .int .i64 t.next, .int .i64 t.loop]) (rest := []) HI0.out HF0.out rfl⟩ ?_
        clear hzi HI0 HF0
        rintro wa ⟨hba, hta⟩
        have HTA := Lib.hid hta
        have HXA := Lib.hid (HX9.out.next hba)
        have HRA := Lib.hid (HR9.out.next hba)
        have HFA := Lib.hid (HF9.out.next hR9 hba)
        have HPA := Lib.hid (PrC.mono (cw_next hba) HP9.out)
        have HBA := Lib.hid (HB9.out.trans (hba.mono HB9.out.size))
        have hRA : R < wa.heap.size := by have := hba.size; omega
        have HBQA := Lib.hid (HBQ9.out.trans (hba.mono HBQ9.out.size))
        have HHAA := Lib.hid (HHA.out wa (cw_next hba))
        clear hba hta
        have t0 := HTA.out 0 _ rfl
        have t1 := HTA.out 1 _ rfl
        have hidx : (allSts p)[q]? = some t.s := by rw [← HPART.out, List.getElem?_map, List.getElem?_eq_getElem hlq, ht.out]; rfl
        have HIDX := Lib.hid hidx
        have hpre : ∀ j (hj : j < (allSts p).length), j < q → badCall p (allSts p)[j] = false := fun j hj hjq => by
          have h4 := HNQ.out j (by omega) hjq
          have h5 : (allSts p)[j]? = some PT[j].s := by rw [← HPART.out, List.getElem?_map, List.getElem?_eq_getElem (by omega)]; rfl
          obtain ⟨h6, h7⟩ := List.getElem?_eq_some_iff.1 h5
          rw [h7]; exact h4
        have HPRE := Lib.hid hpre
        clear hidx hpre
        cases hk4 : (t.s.kind == 4) with
        | false =>
          have hbad : badCall p t.s = false := by unfold badCall; rw [hk4, Bool.false_and]
          have HBAD := Lib.hid hbad
          clear hbad
          go_wp2_with fail
          go_roundw
          case rel =>
            refine ⟨q + 1, by omega, by go_num, fun j hj hjk => ?_, HBQA.out⟩
            rcases Nat.lt_or_ge j q with h | h
            · exact HNQ.out j hj h
            · obtain rfl : j = q := by omega
              rw [ht.out]; exact HBAD.out
          case measure => simp [intOf]; omega
        | true =>
          have HK4 := Lib.hid hk4
          have x0 := HXA.out 0 _ rfl
          have x1 := HXA.out 1 _ rfl
          have t2 := HTA.out 2 _ rfl
          have t3 := HTA.out 3 _ rfl
          have t4 := HTA.out 4 _ rfl
          have t5 := HTA.out 5 _ rfl
          have t6 := HTA.out 6 _ rfl
          have t7 := HTA.out 7 _ rfl
          have t8 := HTA.out 8 _ rfl
          have t9 := HTA.out 9 _ rfl
          have t10 := HTA.out 10 _ rfl
          have t11 := HTA.out 11 _ rfl
          have t12 := HTA.out 12 _ rfl
          go_wp2_with fail
          refine (sfits_any d p _ _ t.s la ka aa ta ea lc kc ac tc ec _ HPA.out HHAA.out).mono ?_
          rintro e wb ⟨rfl, hbb⟩
          obtain ⟨FB, hFB⟩ : ∃ b, Hid (fitsP p t.s = b) := ⟨_, Lib.hid rfl⟩
          rw [hFB.out]
          clear x0 x1 t0 t1 hk4 t2 t3 t4 t5 t6 t7 t8 t9 t10 t11 t12
          have HRB := Lib.hid (HRA.out.next hbb)
          have HFB := Lib.hid (HFA.out.next hRA hbb)
          have HBB := Lib.hid (HBA.out.trans (hbb.mono HBA.out.size))
          have hRB : R < wb.heap.size := by have := hbb.size; omega
          have HBQB := Lib.hid (HBQA.out.trans (hbb.mono HBQA.out.size))
          have t0 := HTA.out.next hbb 0 _ rfl
          clear hbb
          cases FB with
          | true =>
            have hbad : badCall p t.s = false := by unfold badCall; rw [hFB.out]; simp
            have HBAD := Lib.hid hbad
            clear hbad
            go_wp2_with fail
            go_roundw
            case rel =>
              refine ⟨q + 1, by omega, by go_num, fun j hj hjk => ?_, HBQB.out⟩
              rcases Nat.lt_or_ge j q with h | h
              · exact HNQ.out j hj h
              · obtain rfl : j = q := by omega
                rw [ht.out]; exact HBAD.out
            case measure => simp [intOf]; omega
          | false =>
            have hbad : badCall p t.s = true := by unfold badCall; rw [HK4.out, hFB.out]; rfl
            have hans : arityAt p = (6, t.s.id) := by
              obtain ⟨hq2, hq3⟩ := List.getElem?_eq_some_iff.1 HIDX.out
              rw [← hq3]
              exact arity_bad hq2 HPRE.out (by rw [hq3]; exact hbad)
            have HANS := Lib.hid hans
            clear hbad hans
            have r0 := HRB.out 0 _ rfl
            have r1 := HRB.out 1 _ rfl
            have f0 := HFB.out 0
            have f1 := HFB.out 1
            go_wp2_with fail
            have hq := box2 (x0 := .int .i64 6) (x1 := .int .i64 t.s.id) HRB.out
            have q0 := hq 0 _ rfl
            have q1 := hq 1 _ rfl
            refine bodyPost_ret (v := .agg #[.int .i64 6, .int .i64 t.s.id]) (by simp [results, Try.results18, go_sem, q0, q1]) rfl ?_
            exact ⟨by rw [← hRR.out, HYES.out, HANS.out], below2 HBB.out (by omega)⟩
      · have hlq' : ¬ (q : Int) < (PT.length : Int) := by omega
        have hans : arityAt p = (0, 0) := arity_ok fun j hj => by
          have hlen : (allSts p).length = PT.length := by rw [← HPART.out, List.length_map]
          have h4 := HNQ.out j (by omega) (by omega)
          have h5 : (allSts p)[j]? = some PT[j].s := by rw [← HPART.out, List.getElem?_map, List.getElem?_eq_getElem (by omega)]; rfl
          obtain ⟨h6, h7⟩ := List.getElem?_eq_some_iff.1 h5
          rw [h7]; exact h4
        have HANS := Lib.hid hans
        clear hans
        have r0 := HR9.out 0 _ rfl
        have r1 := HR9.out 1 _ rfl
        have f0 := HF9.out 0
        have f1 := HF9.out 1
        go_wp2_with fail
        have hq := box2 (x0 := .int .i64 0) (x1 := .int .i64 0) HR9.out
        have q0 := hq 0 _ rfl
        have q1 := hq 1 _ rfl
        refine bodyPost_ret (v := .agg #[.int .i64 0, .int .i64 0]) (by simp [results, Try.results18, go_sem, q0, q1]) rfl ?_
        exact ⟨by rw [← hRR.out, HYES.out, HANS.out], below2 HB9.out (by omega)⟩
  · have hz1 : (SC == 0) = false := by simpa using hz
    have hno : arityP p = (1, 0) := by unfold arityP; rw [hSC.out, if_neg hz]
    have HNO := Lib.hid hno
    clear hz hno
    have r0 := HR2.out 0 _ rfl
    have r1 := HR2.out 1 _ rfl
    have f0 := HF2.out 0
    have f1 := HF2.out 1
    go_wp2_with fail
    have hq := box2 (x0 := .int .i64 1) (x1 := .int .i64 0) HR2.out
    have q0 := hq 0 _ rfl
    have q1 := hq 1 _ rfl
    refine bodyPost_ret (v := .agg #[.int .i64 1, .int .i64 0]) (by simp [results, Try.results18, go_sem, q0, q1]) rfl ?_
    exact ⟨by rw [← hRR.out, HNO.out], below2 HB2.out (by omega)⟩
end Go.Proofs.Ytghlmengcidmdaa.Tr
end
section
/- What Mod of the reference computes: the rest, never below 0. Conditions: the divisor is at least 1 and at most 1000000. -/
namespace Go.Proofs.Ytghlmengcidmdaa.Tr
open Go.RowKit
theorem ret_i64 {a b : Int} (h : a = b) : Ending.returned (.int .i64 a) = .returned (.int .i64 b) := by rw [h]
theorem mod_any (n k r : Int) (w : World) (hn1 : -9223372036854775808 ≤ n) (hn2 : n ≤ 9223372036854775807) (hk1 : 1 ≤ k) (hk2 : k ≤ 1000000) (hr : n % k = r) :
    Calls Try.prog 28 #[.int .i64 n, .int .i64 k] w fun e w' => e = .returned (.int .i64 r) ∧ w = w' := by
  have h0 := Int.emod_nonneg n (b := k) (by omega)
  have h1 := Int.emod_lt_of_pos n (b := k) (by omega)
  have hk : ¬ k < 1 := by omega
  have HR := Lib.hid hr
  clear hr
  by_cases hneg : 0 ≤ n
  · have hr0 : decide (n % k < 0) = false := by simpa using h0
    go_enter Try.func28, Try.ntmps28
    go_wp2
    go_ret
    exact ⟨ret_i64 HR.out, rfl⟩
  · have ht := Int.tmod_eq_emod (a := n) (b := k)
    by_cases hz : n % k = 0
    · have hd : k ∣ n := Int.dvd_of_emod_eq_zero hz
      rw [if_pos (.inr hd), hz] at ht
      have HT : Hid (n.tmod k = 0) := Lib.hid (by omega)
      have hr0 : decide (n.tmod k < 0) = false := by rw [HT.out]; rfl
      have HZ := Lib.hid hz
      clear ht hd hz h0 h1
      go_enter Try.func28, Try.ntmps28
      go_wp2
      go_ret
      exact ⟨ret_i64 (by rw [HT.out, ← HR.out, HZ.out]), rfl⟩
    · have hd : ¬ k ∣ n := fun h => hz (Int.emod_eq_zero_of_dvd h)
      rw [if_neg (by simp; omega)] at ht
      have b1 : -1000000 ≤ n.tmod k := by omega
      have b2 : n.tmod k < 0 := by omega
      have b3 : n.tmod k + k = r := by have := HR.out; omega
      have HB := Lib.hid b3
      have hr0 : decide (n.tmod k < 0) = true := by simpa using b2
      have hsum : wrap64 (n.tmod k + k) = n.tmod k + k := IntWalk.wrap64_in _ (by omega)
      have HS := Lib.hid hsum
      clear ht hd hz h0 h1 b3 hsum
      go_enter Try.func28, Try.ntmps28
      go_wp2
      go_ret
      exact ⟨ret_i64 (by first | exact HB.out | (rw [HS.out]; exact HB.out)), rfl⟩
end Go.Proofs.Ytghlmengcidmdaa.Tr
end
section
/- What Stmt, ProcOf, Ids and Pick of the reference tell. Conditions: what they are handed lies in memory. -/
namespace Go.Proofs.Ytghlmengcidmdaa.Tr
open Go.RowKit Go.Proofs.Ytghlmengcidmdaa.Lx Go.Proofs.Ytghlmengcidmdaa.Wd
set_option linter.unusedSimpArgs false
theorem PrC.le6 {C : Cs} {d e : Nat} {gv pv : Value} {p : Pr} (hde : d ≤ e) (h : PrC C d gv pv p) : PrC C e gv pv p := ⟨h.1, SlAt.imp h.2 fun _ _ _ _ q => PcAt.le q hde⟩
theorem box_part {w : World} {g : Nat} {xs rest : List Value} (h : BoxAt w g (xs ++ rest)) : BoxAt w g xs := fun j u hu => h j u (by rw [List.getElem?_append_left (List.getElem?_eq_some_iff.1 hu).1]; exact hu)
/-- No statement. -/
def zIt : It := ⟨zSt, 0, 0, false⟩
/-- The item, the procedure's name, the statement of an id. -/
def it6 (p : Pr) (id : Int) : It := ((find6 id p.procs).map Prod.fst).getD zIt
def nm6 (p : Pr) (id : Int) : ByteArray := ((find6 id p.procs).map Prod.snd).getD ⟨#[]⟩
def has6 (p : Pr) (id : Int) : Bool := (find6 id p.procs).isSome
theorem zHang (d : Nat) (w : World) : Hang (d + 1) w zSt (.slice none 0 0) (.slice none 0 0) (.slice none 0 0) (.slice none 0 0) (.slice none 0 0) := ⟨StrC.none _, ExC.none _ _, SlAt.nil, SlAt.nil, SlAt.nil⟩
theorem inI0 : InI 0 := by constructor <;> decide
theorem zOk : OkE zSt.x := ⟨inI0, inI0, by decide⟩
def Found7 (B d : Nat) (t : It) (nm : ByteArray) (b : Bool) (w : World) (e : Ending) (w' : World) : Prop := ∃ (la ka aa ta ea : Option Addr) (lc kc ac tc ec : Nat), e = .returned (.tuple #[.agg #[.int .i64 t.s.id, .int .i64 t.s.kind, .slice la t.s.labels.length lc, .string t.s.nm, .string t.s.proc, .int .i64 t.s.x.op, .int .i64 t.s.x.n, .string t.s.x.nm, .slice ka t.s.x.ks.length kc, .bool t.s.has, .slice aa t.s.args.length ac, .slice ta t.s.thn.length tc, .slice ea t.s.els.length ec, .int .i64 t.deep, .int .i64 t.inn, .bool t.els], .string nm, .bool b]) ∧ (∀ w2, Cs.le (lowC B w') (cw w2) → Hang d w2 t.s (.slice la t.s.labels.length lc) (.slice ka t.s.x.ks.length kc) (.slice aa t.s.args.length ac) (.slice ta t.s.thn.length tc) (.slice ea t.s.els.length ec)) ∧ OkE t.s.x ∧ InI t.s.id ∧ InI t.s.kind ∧ t.s.nm.size ≤ 9223372036854775807 ∧ t.s.proc.size ≤ 9223372036854775807 ∧ InI t.deep ∧ InI t.inn ∧ Below w.heap.size w w'
theorem find7_any (B d : Nat) (p : Pr) (gv pv : Value) (id : Int) (w : World) (hBw : B ≤ w.heap.size) (hp : PrC (lowC B w) (d + 1) gv pv p) :
    Calls Try.prog 56 #[.agg #[gv, pv], .int .i64 id] w (Found7 B (d + 1) (it6 p id) (nm6 p id) (has6 p id) w) := by
  refine (find6_any B (d + 1) p gv pv id w hBw hp).mono ?_
  intro e w' h
  unfold it6 nm6 has6
  cases hf : find6 id p.procs with
  | some q =>
    obtain ⟨t, nm⟩ := q
    rw [hf] at h
    exact h
  | none =>
    rw [hf] at h
    obtain ⟨rfl, hb⟩ := h
    exact ⟨none, none, none, none, none, 0, 0, 0, 0, 0, rfl, fun w2 _ => zHang d w2, zOk, inI0, inI0, by decide, by decide, inI0, inI0, hb⟩
/-- A statement that is told. -/
def StTold (d : Nat) (s : St) (w : World) (e : Ending) (w' : World) : Prop := ∃ (la ka aa ta ea : Option Addr) (lc kc ac tc ec : Nat), e = .returned (.agg #[.int .i64 s.id, .int .i64 s.kind, .slice la s.labels.length lc, .string s.nm, .string s.proc, .int .i64 s.x.op, .int .i64 s.x.n, .string s.x.nm, .slice ka s.x.ks.length kc, .bool s.has, .slice aa s.args.length ac, .slice ta s.thn.length tc, .slice ea s.els.length ec]) ∧ Hang d w' s (.slice la s.labels.length lc) (.slice ka s.x.ks.length kc) (.slice aa s.args.length ac) (.slice ta s.thn.length tc) (.slice ea s.els.length ec) ∧ OkE s.x ∧ InI s.id ∧ InI s.kind ∧ s.nm.size ≤ 9223372036854775807 ∧ s.proc.size ≤ 9223372036854775807 ∧ Below w.heap.size w w'
set_option maxHeartbeats 4000000 in
set_option maxRecDepth 100000 in
theorem stmt6_any (d : Nat) (p : Pr) (gv pv : Value) (id : Int) (w : World) (hp : PrC (cw w) (d + 1) gv pv p) :
    Calls Try.prog 23 #[.agg #[gv, pv], .int .i64 id] w (StTold (d + 1) (it6 p id).s w) := by
  obtain ⟨ga, gc, rfl, hgl1, hgl2⟩ := hp.1.form
  obtain ⟨pa, pc, rfl, hl1, hl2⟩ := hp.2.form
  have hpl : p.procs.length ≤ 9223372036854775807 := Nat.le_trans hl1 hl2
  have HP := Lib.hid hp
  clear hp hl1 hl2 hgl1 hgl2
  obtain ⟨t, ht⟩ : ∃ t, Hid (it6 p id = t) := ⟨_, Lib.hid rfl⟩
  obtain ⟨NM, hNM⟩ : ∃ t, Hid (nm6 p id = t) := ⟨_, Lib.hid rfl⟩
  obtain ⟨HS, hHS⟩ : ∃ t, Hid (has6 p id = t) := ⟨_, Lib.hid rfl⟩
  rw [ht.out]
  go_enter Try.func23, Try.ntmps23
  go_upto_region 1 with fail
  refine cut_world (fun wx => Below w.heap.size w wx ∧ wx.heap.size = w.heap.size + 1 + 1 ∧ BoxAt wx w.heap.size [.slice ga p.globals.length gc, .slice pa p.procs.length pc] ∧ BoxAt wx (w.heap.size + 1) [.int .i64 0, .int .i64 0, .slice none 0 0, .string ⟨#[]⟩, .string ⟨#[]⟩, .int .i64 0, .int .i64 0, .string ⟨#[]⟩, .slice none 0 0, .bool false, .slice none 0 0, .slice none 0 0, .slice none 0 0] ∧ Free wx (w.heap.size + 1)) ⟨(boxed w _).alloc (by simp) _, by simp, (box_new w #[.slice ga p.globals.length gc, .slice pa p.procs.length pc] 25).next (boxed _ _), box_two w _ #[.int .i64 0, .int .i64 0, .slice none 0 0, .string ⟨#[]⟩, .string ⟨#[]⟩, .int .i64 0, .int .i64 0, .string ⟨#[]⟩, .slice none 0 0, .bool false, .slice none 0 0, .slice none 0 0, .slice none 0 0] 41, free_two w _ _ _⟩ ?_
  rintro w1 ⟨hb1, hz1', hx1, hr1, hf1⟩
  obtain ⟨R, hR⟩ : ∃ R, R = w.heap.size + 1 := ⟨_, rfl⟩
  rw [← hR] at hr1 hf1
  try rw [← hR]
  have hRw : w.heap.size < R := by omega
  have hR1 : R < w1.heap.size := by omega
  have HB1 := Lib.hid hb1
  have HX1 := Lib.hid hx1
  have HR1 := Lib.hid hr1
  have HF1 := Lib.hid hf1
  have HP1 := Lib.hid (PrC.mono (low_next hb1) (PrC.mono low_all HP.out))
  clear hb1 hx1 hr1 hf1 hz1' hR
  have x0 := HX1.out 0 _ rfl
  have x1 := HX1.out 1 _ rfl
  go_wp2_with fail
  refine (find7_any w.heap.size d p _ _ id _ HB1.out.size HP1.out).mono ?_
  rw [ht.out, hNM.out, hHS.out]
  rintro e w2 ⟨la, ka, aa, ta, ea, lc, kc, ac, tc, ec, rfl, hh2, hok2, i1, i2, i3, i4, i5, i6, hb2⟩
  have HH2 := Lib.hid hh2
  have HOK2 := Lib.hid hok2
  have HJ2 := Lib.hid (And.intro i1 (And.intro i2 (And.intro i3 i4)))
  clear hh2 hok2 i1 i2 i3 i4 i5 i6 x0 x1
  have HR2 := Lib.hid (HR1.out.next hb2)
  have HF2 := Lib.hid (HF1.out.next hR1 hb2)
  have HB2 := Lib.hid (HB1.out.trans (hb2.mono HB1.out.size))
  have hR2 : R < w2.heap.size := by have := hb2.size; omega
  clear hb2
  go_upto_region 2 with fail
  refine cut_world (fun wx => Below w2.heap.size w2 wx ∧ BoxAt wx w2.heap.size [.int .i64 t.s.id, .int .i64 t.s.kind, .slice la t.s.labels.length lc, .string t.s.nm, .string t.s.proc, .int .i64 t.s.x.op, .int .i64 t.s.x.n, .string t.s.x.nm, .slice ka t.s.x.ks.length kc, .bool t.s.has, .slice aa t.s.args.length ac, .slice ta t.s.thn.length tc, .slice ea t.s.els.length ec, .int .i64 t.deep, .int .i64 t.inn, .bool t.els]) ⟨boxed w2 _, box_new w2 #[.int .i64 t.s.id, .int .i64 t.s.kind, .slice la t.s.labels.length lc, .string t.s.nm, .string t.s.proc, .int .i64 t.s.x.op, .int .i64 t.s.x.n, .string t.s.x.nm, .slice ka t.s.x.ks.length kc, .bool t.s.has, .slice aa t.s.args.length ac, .slice ta t.s.thn.length tc, .slice ea t.s.els.length ec, .int .i64 t.deep, .int .i64 t.inn, .bool t.els] 76⟩ ?_
  rintro w3 ⟨hb3, ht3⟩
  have HT3 := Lib.hid ht3
  have HLE3 := Lib.hid (low_next (B := w.heap.size) hb3)
  have HR3 := Lib.hid (HR2.out.next hb3)
  have HF3 := Lib.hid (HF2.out.next hR2 hb3)
  have HB3 := Lib.hid (HB2.out.trans (hb3.mono HB2.out.size))
  have hR3 : R < w3.heap.size := by have := hb3.size; omega
  have hne : R ≠ w2.heap.size := by omega
  clear hb3 ht3
  have hok : Below w.heap.size w (w3.setCells R 0 [.int .i64 t.s.id, .int .i64 t.s.kind, .slice la t.s.labels.length lc, .string t.s.nm, .string t.s.proc, .int .i64 t.s.x.op, .int .i64 t.s.x.n, .string t.s.x.nm, .slice ka t.s.x.ks.length kc, .bool t.s.has, .slice aa t.s.args.length ac, .slice ta t.s.thn.length tc, .slice ea t.s.els.length ec]) := setCells_below _ _ HB3.out (Nat.le_of_lt hRw)
  have hq : BoxAt (w3.setCells R 0 [.int .i64 t.s.id, .int .i64 t.s.kind, .slice la t.s.labels.length lc, .string t.s.nm, .string t.s.proc, .int .i64 t.s.x.op, .int .i64 t.s.x.n, .string t.s.x.nm, .slice ka t.s.x.ks.length kc, .bool t.s.has, .slice aa t.s.args.length ac, .slice ta t.s.thn.length tc, .slice ea t.s.els.length ec]) R [.int .i64 t.s.id, .int .i64 t.s.kind, .slice la t.s.labels.length lc, .string t.s.nm, .string t.s.proc, .int .i64 t.s.x.op, .int .i64 t.s.x.n, .string t.s.x.nm, .slice ka t.s.x.ks.length kc, .bool t.s.has, .slice aa t.s.args.length ac, .slice ta t.s.thn.length tc, .slice ea t.s.els.length ec] := box_over (old := [.int .i64 0, .int .i64 0, .slice none 0 0, .string ⟨#[]⟩, .string ⟨#[]⟩, .int .i64 0, .int .i64 0, .string ⟨#[]⟩, .slice none 0 0, .bool false, .slice none 0 0, .slice none 0 0, .slice none 0 0]) (xs := [.int .i64 t.s.id, .int .i64 t.s.kind, .slice la t.s.labels.length lc, .string t.s.nm, .string t.s.proc, .int .i64 t.s.x.op, .int .i64 t.s.x.n, .string t.s.x.nm, .slice ka t.s.x.ks.length kc, .bool t.s.has, .slice aa t.s.args.length ac, .slice ta t.s.thn.length tc, .slice ea t.s.els.length ec]) (rest := []) HR3.out HF3.out rfl
  have hth : w3.there R 0 13 := box_there (n := 13) HR3.out HF3.out (by simp)
  have HHZ : Hid (Hang (d + 1) (w3.setCells R 0 [.int .i64 t.s.id, .int .i64 t.s.kind, .slice la t.s.labels.length lc, .string t.s.nm, .string t.s.proc, .int .i64 t.s.x.op, .int .i64 t.s.x.n, .string t.s.x.nm, .slice ka t.s.x.ks.length kc, .bool t.s.has, .slice aa t.s.args.length ac, .slice ta t.s.thn.length tc, .slice ea t.s.els.length ec]) t.s (.slice la t.s.labels.length lc) (.slice ka t.s.x.ks.length kc) (.slice aa t.s.args.length ac) (.slice ta t.s.thn.length tc) (.slice ea t.s.els.length ec)) := Lib.hid (HH2.out _ (Cs.le_trans HLE3.out (fun g j u ⟨hg, hu⟩ => setCells_cell hu (by omega))))
  have q0 := hq 0 _ rfl
  have q1 := hq 1 _ rfl
  have q2 := hq 2 _ rfl
  have q3 := hq 3 _ rfl
  have q4 := hq 4 _ rfl
  have q5 := hq 5 _ rfl
  have q6 := hq 6 _ rfl
  have q7 := hq 7 _ rfl
  have q8 := hq 8 _ rfl
  have q9 := hq 9 _ rfl
  have q10 := hq 10 _ rfl
  have q11 := hq 11 _ rfl
  have q12 := hq 12 _ rfl
  go_wp2_with (first | refine wpList_load_mid rfl 41 (.tmp 15) rfl w2.heap.size 0 rfl [.int .i64 t.s.id, .int .i64 t.s.kind, .slice la t.s.labels.length lc, .string t.s.nm, .string t.s.proc, .int .i64 t.s.x.op, .int .i64 t.s.x.n, .string t.s.x.nm, .slice ka t.s.x.ks.length kc, .bool t.s.has, .slice aa t.s.args.length ac, .slice ta t.s.thn.length tc, .slice ea t.s.els.length ec] _ (fun j v hv => by rw [Nat.zero_add]; exact box_part (xs := [.int .i64 t.s.id, .int .i64 t.s.kind, .slice la t.s.labels.length lc, .string t.s.nm, .string t.s.proc, .int .i64 t.s.x.op, .int .i64 t.s.x.n, .string t.s.x.nm, .slice ka t.s.x.ks.length kc, .bool t.s.has, .slice aa t.s.args.length ac, .slice ta t.s.thn.length tc, .slice ea t.s.els.length ec]) (rest := [.int .i64 t.deep, .int .i64 t.inn, .bool t.els]) HT3.out j v hv) Try.underlying41 rfl (by kernel_rfl) ?_ | refine wpList_store_mid rfl 41 (.tmp 4) (.tmp 16) rfl R 0 #[.int .i64 t.s.id, .int .i64 t.s.kind, .slice la t.s.labels.length lc, .string t.s.nm, .string t.s.proc, .int .i64 t.s.x.op, .int .i64 t.s.x.n, .string t.s.x.nm, .slice ka t.s.x.ks.length kc, .bool t.s.has, .slice aa t.s.args.length ac, .slice ta t.s.thn.length tc, .slice ea t.s.els.length ec] rfl rfl hth (by kernel_rfl) (by simp [Value.oneCell']) ?_)
  refine bodyPost_ret (v := .agg #[.int .i64 t.s.id, .int .i64 t.s.kind, .slice la t.s.labels.length lc, .string t.s.nm, .string t.s.proc, .int .i64 t.s.x.op, .int .i64 t.s.x.n, .string t.s.x.nm, .slice ka t.s.x.ks.length kc, .bool t.s.has, .slice aa t.s.args.length ac, .slice ta t.s.thn.length tc, .slice ea t.s.els.length ec]) (by simp [results, Try.results23, go_sem, q0, q1, q2, q3, q4, q5, q6, q7, q8, q9, q10, q11, q12]) rfl ?_
  obtain ⟨i1, i2, i3, i4⟩ := HJ2.out
  exact ⟨la, ka, aa, ta, ea, lc, kc, ac, tc, ec, rfl, HHZ.out, HOK2.out, i1, i2, i3, i4, hok⟩
set_option maxHeartbeats 4000000 in
set_option maxRecDepth 100000 in
theorem procOf6_any (d : Nat) (p : Pr) (gv pv : Value) (id : Int) (w : World) (hp : PrC (cw w) (d + 1) gv pv p) :
    Calls Try.prog 27 #[.agg #[gv, pv], .int .i64 id] w (fun e w' => e = .returned (.string (nm6 p id)) ∧ Below w.heap.size w w') := by
  obtain ⟨ga, gc, rfl, hgl1, hgl2⟩ := hp.1.form
  obtain ⟨pa, pc, rfl, hl1, hl2⟩ := hp.2.form
  have hpl : p.procs.length ≤ 9223372036854775807 := Nat.le_trans hl1 hl2
  have HP := Lib.hid hp
  clear hp hl1 hl2 hgl1 hgl2
  obtain ⟨t, ht⟩ : ∃ t, Hid (it6 p id = t) := ⟨_, Lib.hid rfl⟩
  obtain ⟨NM, hNM⟩ : ∃ t, Hid (nm6 p id = t) := ⟨_, Lib.hid rfl⟩
  obtain ⟨HS, hHS⟩ : ∃ t, Hid (has6 p id = t) := ⟨_, Lib.hid rfl⟩
  rw [hNM.out]
  go_enter Try.func27, Try.ntmps27
  go_upto_region 1 with fail
  refine cut_world (fun wx => Below w.heap.size w wx ∧ BoxAt wx w.heap.size [.slice ga p.globals.length gc, .slice pa p.procs.length pc]) ⟨boxed _ _, box_new w #[.slice ga p.globals.length gc, .slice pa p.procs.length pc] 25⟩ ?_
  rintro w1 ⟨hb1, hx1⟩
  have HB1 := Lib.hid hb1
  have HX1 := Lib.hid hx1
  have HP1 := Lib.hid (PrC.mono (low_next hb1) (PrC.mono low_all HP.out))
  clear hb1 hx1
  have x0 := HX1.out 0 _ rfl
  have x1 := HX1.out 1 _ rfl
  go_wp2_with fail
  refine (find7_any w.heap.size d p _ _ id _ HB1.out.size HP1.out).mono ?_
  rw [ht.out, hNM.out, hHS.out]
  rintro e w2 ⟨la, ka, aa, ta, ea, lc, kc, ac, tc, ec, rfl, hh2, hok2, i1, i2, i3, i4, i5, i6, hb2⟩
  have HH2 := Lib.hid hh2
  have HOK2 := Lib.hid hok2
  have HJ2 := Lib.hid (And.intro i1 (And.intro i2 (And.intro i3 i4)))
  clear hh2 hok2 i1 i2 i3 i4 i5 i6 x0 x1
  have HB2 := Lib.hid (HB1.out.trans (hb2.mono HB1.out.size))
  clear hb2
  go_upto_region 2 with fail
  refine cut_world (fun wx => Below w2.heap.size w2 wx) (boxed w2 _) ?_
  intro w3 hb3
  have HB3 := Lib.hid (HB2.out.trans (hb3.mono HB2.out.size))
  clear hb3
  go_wp2_with fail
  go_ret
  exact ⟨rfl, HB3.out⟩
theorem RowN.nil (B : Nat) (w : World) : RowN B w (.slice none 0 0) [] := World.ownsRow_nil _ _ _ _
theorem RowN.next {B : Nat} {w w' : World} {v : Value} {l : List Int} (h : RowN B w v l) (hb : Below w.heap.size w w') : RowN B w' v l := ownsBelow h hb
theorem RowN.lt {B : Nat} {w : World} {v : Value} {l : List Int} (h : RowN B w v l) : ∀ g, v.ownBlock = some g → B ≤ g ∧ g < w.heap.size := World.ownsRow.lt h
theorem RowN.mono {B B' : Nat} {w : World} {v : Value} {l : List Int} (h : RowN B w v l) (hb : B' ≤ B) : RowN B' w v l := Go.Joins.ownsRow_le h hb
theorem RowN.one {B : Nat} {w : World} {v : Value} {l : List Int} {n : Int} (h : w.ownsRow B 3 1 v (l.length + 1) (l.map (Value.int .i64) ++ [.int .i64 n])) : RowN B w v (l ++ [n]) := by
  unfold RowN; simpa using h
theorem RowN.at {B n c : Nat} {w : World} {a : Option Addr} {l : List Int} (h : RowN B w (.slice a n c) l) {k : Nat} (hk : k < l.length) : ∃ g off, a = some ⟨g, off, none⟩ ∧ w.cell? ⟨g, off + k, none⟩ = some (.int .i64 l[k]) := by
  have hown := h
  unfold RowN at hown
  rcases hown.2 with ⟨hv, hn⟩ | ⟨g, cap, cur, hv, h1, h2, h3, h4, h5, h6⟩
  · omega
  · injection hv with e1 e2 e3
    refine ⟨g, 0, e1, ?_⟩
    have := hown.cells (g := g) (by rw [e1]; rfl) k (.int .i64 l[k]) (by rw [List.getElem?_map, List.getElem?_eq_getElem hk]; rfl)
    rw [Addr.add_lit, Nat.zero_add] at this
    rw [Nat.zero_add]
    exact this
theorem one_num (w : World) (s : Int) (T : TypeId) : ∀ (j : Nat) u, ([.int .i64 s] : List Value)[j]? = some u → (w.alloc (.cells #[.int .i64 s] T)).cell? ((⟨w.heap.size, 0, none⟩ : Addr).add j) = some u := by
  intro j u h
  match j, h with
  | 0, h => cases h; rw [Addr.add_lit]; simp [go_sem]
theorem int_cells {s : Int} : ∀ u ∈ [Value.int .i64 s], u.oneCell' = true := by
  intro u hu
  simp at hu
  subst hu; rfl
/-- The ids of the statements of a kind. -/
def isKind (kind : Int) (s : St) : Bool := kind == 0 || s.kind == kind
def idsK (kind : Int) (l : List It) : List Int := (l.filter fun t => isKind kind t.s).map fun t => t.s.id
def idsP (p : Pr) (kind : Int) : List Int := idsK kind (allOf p)
theorem idsK_len (kind : Int) (l : List It) : (idsK kind l).length ≤ l.length := by unfold idsK; rw [List.length_map]; exact List.length_filter_le _ _
theorem idsK_yes {kind : Int} {l : List It} {k : Nat} (hk : k < l.length) (h : isKind kind l[k].s = true) : idsK kind (l.take (k + 1)) = idsK kind (l.take k) ++ [l[k].s.id] := by
  unfold idsK
  rw [List.take_succ_eq_append_getElem hk, List.filter_append, List.map_append, List.filter_cons, if_pos h]
  rfl
theorem idsK_no {kind : Int} {l : List It} {k : Nat} (hk : k < l.length) (h : isKind kind l[k].s = false) : idsK kind (l.take (k + 1)) = idsK kind (l.take k) := by
  unfold idsK
  rw [List.take_succ_eq_append_getElem hk, List.filter_append, List.map_append, List.filter_cons, if_neg (by rw [h]; exact Bool.false_ne_true)]
  simp
def IdsMade (l : List Int) (w : World) (e : Ending) (w' : World) : Prop := ∃ v, e = .returned v ∧ RowN w.heap.size w' v l ∧ Below w.heap.size w w'
set_option maxHeartbeats 4000000 in
set_option maxRecDepth 100000 in
theorem ids_any (d : Nat) (p : Pr) (gv pv : Value) (kind : Int) (w : World) (hp : PrC (cw w) d gv pv p) :
    Calls Try.prog 22 #[.agg #[gv, pv], .int .i64 kind] w (IdsMade (idsP p kind) w) := by
  obtain ⟨i0, hi, hz0, hz1, hz2⟩ := info_parts infoInt
  obtain ⟨ga, gc, rfl, hgl1, hgl2⟩ := hp.1.form
  obtain ⟨pa, pc, rfl, hl1, hl2⟩ := hp.2.form
  have hpl : p.procs.length ≤ 9223372036854775807 := Nat.le_trans hl1 hl2
  have HP := Lib.hid hp
  clear hp hl1 hl2 hgl1 hgl2
  obtain ⟨KK, hKK⟩ : ∃ L, Hid (idsP p kind = L) := ⟨_, Lib.hid rfl⟩
  rw [hKK.out]
  go_enter Try.func22, Try.ntmps22
  go_upto_region 1 with fail
  refine cut_world (fun wx => Below w.heap.size w wx ∧ BoxAt wx w.heap.size [.slice ga p.globals.length gc, .slice pa p.procs.length pc]) ⟨boxed _ _, box_new w #[.slice ga p.globals.length gc, .slice pa p.procs.length pc] 25⟩ ?_
  rintro w1 ⟨hb1, hx1⟩
  have HB1 := Lib.hid hb1
  have HX1 := Lib.hid hx1
  have HP1 := Lib.hid (PrC.mono (cw_next hb1) HP.out)
  clear hb1 hx1
  have x0 := HX1.out 0 _ rfl
  have x1 := HX1.out 1 _ rfl
  go_wp2_with fail
  refine (allOf_any d p _ _ _ HP1.out).mono ?_
  rintro e wK ⟨v, rows, rfl, hrow, hbK⟩
  have hsl := hrow.sl
  have hlen := allOf_len p
  obtain ⟨PT, hPT⟩ : ∃ L, Hid (allOf p = L) := ⟨_, Lib.hid rfl⟩
  have hkk : idsK kind PT = KK := by rw [← hPT.out]; exact hKK.out
  have HKKK := Lib.hid hkk
  clear hkk
  rw [hPT.out] at hsl hlen
  obtain ⟨ia, ic, rfl, hil1, hil2⟩ := hsl.form
  have hil : PT.length ≤ 9223372036854775807 := Nat.le_trans hil1 hil2
  have HLK := Lib.hid hsl
  have HLEN := Lib.hid hlen
  have HBK := Lib.hid (HB1.out.trans (hbK.mono HB1.out.size))
  clear hsl hrow hbK x0 x1 hil1 hil2 hlen
  go_wp2_with fail
  obtain ⟨WK, hWK⟩ : ∃ x : World, x = wK := ⟨_, rfl⟩
  subst hWK
  have hBW : w.heap.size ≤ WK.heap.size := HBK.out.size
  go_loopw [11, 5] (fun i v wr => ∃ (q : Nat) (v0 : Value), q ≤ PT.length ∧ i = .int .i64 q ∧ v = v0 ∧ RowN WK.heap.size wr v0 (idsK kind (PT.take q)) ∧ Below WK.heap.size WK wr) (fun i _ _ => (PT.length - intOf i).toNat)
  case atStart => exact ⟨0, _, by omega, rfl, rfl, RowN.nil _ _, Below.refl _ _⟩
  case round =>
    obtain ⟨q, v0, hq, rfl, rfl, hr9, hbq⟩ := hrel
    obtain ⟨w9, hw9⟩ : ∃ x : World, x = wr := ⟨_, rfl⟩
    subst hw9
    have HBQ9 := Lib.hid hbq
    have HR9 := Lib.hid hr9
    have HL9 := Lib.hid (SlAt.imp HLK.out fun _ _ _ _ => ItAt.mono (cw_next hbq))
    obtain ⟨va, vc, rfl⟩ := ownsForm hr9
    clear hr9 hbq
    by_cases hlq : q < PT.length
    · have hlq' : (q : Int) < (PT.length : Int) := by omega
      have h0q : (0 : Int) ≤ (q : Int) := by omega
      obtain ⟨gi, oi, hvi, hfi⟩ := its6_at HL9.out hlq
      cases hvi
      have hyes := idsK_yes (kind := kind) hlq
      have hno := idsK_no (kind := kind) hlq
      have hlk : (idsK kind (PT.take q)).length ≤ 401 := Nat.le_trans (idsK_len _ _) (by rw [List.length_take]; have := HLEN.out; omega)
      obtain ⟨LK, hLK⟩ : ∃ L, Hid (idsK kind (PT.take q) = L) := ⟨_, Lib.hid rfl⟩
      obtain ⟨t, ht⟩ : ∃ t, Hid (PT[q] = t) := ⟨_, Lib.hid rfl⟩
      rw [ht.out] at hfi
      rw [hLK.out] at hlk
      rw [ht.out, hLK.out] at hyes hno
      have HYES := Lib.hid hyes
      have HNO := Lib.hid hno
      have HRL : Hid (RowN WK.heap.size w9 (.slice va (idsK kind (PT.take q)).length vc) LK) := Lib.hid (by rw [← hLK.out]; exact HR9.out)
      rw [hLK.out] at HRL
      try rw [hLK.out]
      clear HR9 hyes hno
      obtain ⟨la, ka, aa, ta, ea, lc, kc, ac, tc, ec, hrest⟩ := it_open hfi
      have hce := hrest.1
      have HCE := Lib.hid hce
      clear hfi hce hrest
      have HI0 : Hid (BoxAt (w9.alloc (.cells #[.int .i64 0, .int .i64 0, .slice none 0 0, .string ⟨#[]⟩, .string ⟨#[]⟩, .int .i64 0, .int .i64 0, .string ⟨#[]⟩, .slice none 0 0, .bool false, .slice none 0 0, .slice none 0 0, .slice none 0 0, .int .i64 0, .int .i64 0, .bool false] 76)) w9.heap.size [.int .i64 0, .int .i64 0, .slice none 0 0, .string ⟨#[]⟩, .string ⟨#[]⟩, .int .i64 0, .int .i64 0, .string ⟨#[]⟩, .slice none 0 0, .bool false, .slice none 0 0, .slice none 0 0, .slice none 0 0, .int .i64 0, .int .i64 0, .bool false]) := Lib.hid (box_new w9 #[.int .i64 0, .int .i64 0, .slice none 0 0, .string ⟨#[]⟩, .string ⟨#[]⟩, .int .i64 0, .int .i64 0, .string ⟨#[]⟩, .slice none 0 0, .bool false, .slice none 0 0, .slice none 0 0, .slice none 0 0, .int .i64 0, .int .i64 0, .bool false] 76)
      have HF0 : Hid (Free (w9.alloc (.cells #[.int .i64 0, .int .i64 0, .slice none 0 0, .string ⟨#[]⟩, .string ⟨#[]⟩, .int .i64 0, .int .i64 0, .string ⟨#[]⟩, .slice none 0 0, .bool false, .slice none 0 0, .slice none 0 0, .slice none 0 0, .int .i64 0, .int .i64 0, .bool false] 76)) w9.heap.size) := Lib.hid (fun j => by simp [go_sem])
      have hzi := World.size_alloc w9 (.cells #[.int .i64 0, .int .i64 0, .slice none 0 0, .string ⟨#[]⟩, .string ⟨#[]⟩, .int .i64 0, .int .i64 0, .string ⟨#[]⟩, .slice none 0 0, .bool false, .slice none 0 0, .slice none 0 0, .slice none 0 0, .int .i64 0, .int .i64 0, .bool false] 76)
      go_upto_region 5 with (first | refine wpList_load_mid rfl 76 (.tmp 13) rfl gi (oi + q * 16) rfl [.int .i64 t.s.id, .int .i64 t.s.kind, .slice la t.s.labels.length lc, .string t.s.nm, .string t.s.proc, .int .i64 t.s.x.op, .int .i64 t.s.x.n, .string t.s.x.nm, .slice ka t.s.x.ks.length kc, .bool t.s.has, .slice aa t.s.args.length ac, .slice ta t.s.thn.length tc, .slice ea t.s.els.length ec, .int .i64 t.deep, .int .i64 t.inn, .bool t.els] _ (fun j v hv => HCE.out j v hv) Try.underlying76 rfl (by kernel_rfl) ?_ | refine wpList_store_mid rfl 76 (.tmp 7) (.tmp 14) rfl w9.heap.size 0 #[.int .i64 t.s.id, .int .i64 t.s.kind, .slice la t.s.labels.length lc, .string t.s.nm, .string t.s.proc, .int .i64 t.s.x.op, .int .i64 t.s.x.n, .string t.s.x.nm, .slice ka t.s.x.ks.length kc, .bool t.s.has, .slice aa t.s.args.length ac, .slice ta t.s.thn.length tc, .slice ea t.s.els.length ec, .int .i64 t.deep, .int .i64 t.inn, .bool t.els] rfl rfl (box_there (n := 16) HI0.out HF0.out (by simp)) (by kernel_rfl) (by simp [Value.oneCell']) ?_)
      refine cut_world (fun wx => Below w9.heap.size w9 wx ∧ BoxAt wx w9.heap.size [.int .i64 t.s.id, .int .i64 t.s.kind, .slice la t.s.labels.length lc, .string t.s.nm, .string t.s.proc, .int .i64 t.s.x.op, .int .i64 t.s.x.n, .string t.s.x.nm, .slice ka t.s.x.ks.length kc, .bool t.s.has, .slice aa t.s.args.length ac, .slice ta t.s.thn.length tc, .slice ea t.s.els.length ec, .int .i64 t.deep, .int .i64 t.inn, .bool t.els]) ⟨setCells_below _ _ (boxed w9 _) (Nat.le_refl _), box_over (old := [.int .i64 0, .int .i64 0, .slice none 0 0, .string ⟨#[]⟩, .string ⟨#[]⟩, .int .i64 0, .int .i64 0, .string ⟨#[]⟩, .slice none 0 0, .bool false, .slice none 0 0, .slice none 0 0, .slice none 0 0, .int .i64 0, .int .i64 0, .bool false]) (xs := [.int .i64 t.s.id, .int .i64 t.s.kind, .slice la t.s.labels.length lc, .string t.s.nm, .string t.s.proc, .int .i64 t.s.x.op, .int .i64 t.s.x.n, .string t.s.x.nm, .slice ka t.s.x.ks.length kc, .bool t.s.has, .slice aa t.s.args.length ac, .slice ta t.s.thn.length tc, .slice ea t.s.els.length ec, .int .i64 t.deep, .int .i64 t.inn, .bool t.els]) (rest := []) HI0.out HF0.out rfl⟩ ?_
      clear hzi HI0 HF0
      rintro wa ⟨hba, hta⟩
      have t0 := hta 0 _ rfl
      have t1 := hta 1 _ rfl
      have HTA := Lib.hid hta
      have HRA := Lib.hid (HRL.out.next hba)
      have HBA := Lib.hid (HBQ9.out.trans (hba.mono HBQ9.out.size))
      have hWa : WK.heap.size ≤ wa.heap.size := HBA.out.size
      clear hba hta
      cases hk : isKind kind t.s with
      | true =>
        have HST := Lib.hid (HYES.out hk)
        have HKK : Hid ((kind == 0) = true ∨ (kind == 0) = false ∧ (t.s.kind == kind) = true) := Lib.hid (by unfold isKind at hk; cases h : (kind == 0) <;> rw [h] at hk <;> simp_all)
        clear hk
        refine HKK.out.elim (fun hk0 => ?_) (fun hk0 => ?_)
        · go_wp2_with (at_builtin; refine wpList_append_lies _ rfl (.tmp 24) (.tmp 28) 33 rfl WK.heap.size 3 i0 (.int .i64 0) 1 8 Try.underlying33 hi hz0 hz1 hz2 rfl (by decide) _ _ _ rfl ((HRA.out.next (boxed _ _))) ⟨_, 0, none⟩ 1 1 [.int .i64 t.s.id] rfl rfl ?c1 int_cells (by decide) ?c3 ?c4 ?c5 _ rfl ?_)
          case c1 => exact one_num _ _ _
          case c3 => unfold maxLen; omega
          case c4 => omega
          case c5 => first | omega | (simp; omega)
          intro g4 cap4 w4 hown4 hg4 hat4 hlt4
          have hgg := (grown_of (boxed wa _) _).trans hg4
          have HR4 := Lib.hid (RowN.one hown4)
          have HG4 := Lib.hid hgg
          clear hown4 hg4 hat4 hlt4 hgg
          go_wp2_with fail
          go_roundw
          case rel =>
            refine ⟨q + 1, _, by omega, by go_num, rfl, ?_, HBA.out.grown HG4.out HBA.out.size fun q hq => ?_⟩
            · rw [HST.out]; exact HR4.out
            · have := (HRA.out.lt q hq).1; omega
          case measure => simp [intOf]; omega
        · obtain ⟨hk0, hk1⟩ := hk0
          go_wp2_with (at_builtin; refine wpList_append_lies _ rfl (.tmp 24) (.tmp 28) 33 rfl WK.heap.size 3 i0 (.int .i64 0) 1 8 Try.underlying33 hi hz0 hz1 hz2 rfl (by decide) _ _ _ rfl ((HRA.out.next (boxed _ _))) ⟨_, 0, none⟩ 1 1 [.int .i64 t.s.id] rfl rfl ?c1 int_cells (by decide) ?c3 ?c4 ?c5 _ rfl ?_)
          case c1 => exact one_num _ _ _
          case c3 => unfold maxLen; omega
          case c4 => omega
          case c5 => first | omega | (simp; omega)
          intro g4 cap4 w4 hown4 hg4 hat4 hlt4
          have hgg := (grown_of (boxed wa _) _).trans hg4
          have HR4 := Lib.hid (RowN.one hown4)
          have HG4 := Lib.hid hgg
          clear hown4 hg4 hat4 hlt4 hgg
          go_wp2_with fail
          go_roundw
          case rel =>
            refine ⟨q + 1, _, by omega, by go_num, rfl, ?_, HBA.out.grown HG4.out HBA.out.size fun q hq => ?_⟩
            · rw [HST.out]; exact HR4.out
            · have := (HRA.out.lt q hq).1; omega
          case measure => simp [intOf]; omega
      | false =>
        have HST := Lib.hid (HNO.out hk)
        have hkk : (kind == 0) = false ∧ (t.s.kind == kind) = false := by unfold isKind at hk; rw [Bool.or_eq_false_iff] at hk; exact hk
        obtain ⟨hk0, hk1⟩ := hkk
        clear hk
        go_wp2_with fail
        go_roundw
        case rel => exact ⟨q + 1, _, by omega, by go_num, rfl, by rw [HST.out]; exact HRA.out, HBA.out⟩
        case measure => simp [intOf]; omega
    · have hlq' : ¬ (q : Int) < (PT.length : Int) := by omega
      have hall : idsK kind (PT.take q) = KK := by rw [List.take_of_length_le (by omega)]; exact HKKK.out
      have hz9 : RowN w.heap.size w9 (.slice va (idsK kind (PT.take q)).length vc) KK := by rw [← hall]; exact HR9.out.mono hBW
      have HZ9 := Lib.hid hz9
      clear hall hz9
      go_wp2_with fail
      go_ret
      exact ⟨_, rfl, HZ9.out, HBK.out.trans (HBQ9.out.mono HBK.out.size)⟩
/-- One of some numbers, by a number. -/
def pickP (l : List Int) (n : Int) : Int := (l[(n % (l.length : Int)).toNat]?).getD 0
theorem pick_some {l : List Int} {n : Int} (hk : 0 < l.length) : pickP l n = l[(n % (l.length : Int)).toNat]'(mod_at hk).1 := by
  unfold pickP
  rw [List.getElem?_eq_getElem (mod_at hk).1]
  rfl
theorem pick_none {l : List Int} {n : Int} (hk : l.length = 0) : pickP l n = 0 := by
  unfold pickP
  rw [List.getElem?_eq_none (by omega)]
  rfl
set_option maxHeartbeats 2000000 in
set_option maxRecDepth 100000 in
theorem pick_any (B : Nat) (l : List Int) (v : Value) (n : Int) (w : World) (hr : RowN B w v l) (hn1 : -9223372036854775808 ≤ n) (hn2 : n ≤ 9223372036854775807) (hm : l.length ≤ 1000000) :
    Calls Try.prog 21 #[v, .int .i64 n] w fun e w' => e = .returned (.int .i64 (pickP l n)) ∧ Below w.heap.size w w' := by
  obtain ⟨a, c, rfl⟩ := ownsForm hr
  have HR := Lib.hid hr
  clear hr
  obtain ⟨KK, hKK⟩ : ∃ s, Hid (pickP l n = s) := ⟨_, Lib.hid rfl⟩
  rw [hKK.out]
  go_enter Try.func21, Try.ntmps21
  by_cases hz : l.length = 0
  · have hs : KK = 0 := by rw [← hKK.out]; exact pick_none hz
    have hz1 : ((l.length : Int) == 0) = true := by rw [hz]; rfl
    have HZ := Lib.hid hz
    subst hs
    clear hz
    go_wp2_with fail
    go_ret
    exact ⟨rfl, Below.refl _ _⟩
  · have hz1 : ((l.length : Int) == 0) = false := by simpa using hz
    have hpos : 0 < l.length := by omega
    obtain ⟨m, hmm⟩ : ∃ m, m = (n % (l.length : Int)).toNat := ⟨_, rfl⟩
    have hlt : m < l.length := by rw [hmm]; exact (mod_at hpos).1
    have hmi : n % (l.length : Int) = (m : Int) := by rw [hmm]; exact (mod_at hpos).2
    have hs : KK = l[m] := by rw [← hKK.out, pick_some hpos]; subst hmm; rfl
    have hlt' : (m : Int) < (l.length : Int) := by omega
    have h0m : (0 : Int) ≤ (m : Int) := by omega
    have hk1 : (1 : Int) ≤ (l.length : Int) := by omega
    have hk2 : (l.length : Int) ≤ 1000000 := by omega
    have HS := Lib.hid hs
    have HMI := Lib.hid hmi
    obtain ⟨g, off, hvp, e0⟩ := HR.out.at hlt
    cases hvp
    clear hs hmi hmm hz
    go_wp2_with fail
    refine (mod_any n (l.length : Int) (m : Int) _ hn1 hn2 hk1 hk2 HMI.out).mono ?_
    rintro e w2 ⟨rfl, rfl⟩
    go_wp2_with fail
    go_ret
    exact ⟨by rw [HS.out]; rfl, Below.refl _ _⟩
end Go.Proofs.Ytghlmengcidmdaa.Tr
end
section
/- Two faults compared. No program's code. Conditions: none. -/
namespace Go.Proofs.Ytghlmengcidmdaa.Tr
open Go.RowKit
theorem fault_eq (a b c d : Int) (w : World) : (binOp .eql 30 (.agg #[.int .i64 a, .int .i64 b]) (.agg #[.int .i64 c, .int .i64 d])).run Try.prog w = .ok (.bool (a == c && b == d)) w := by
  simp only [go_sem]
  by_cases h1 : a = c <;> by_cases h2 : b = d <;> simp [go_sem, h1, h2]
theorem fault_same (a b : Int) (w : World) : (binOp .eql 30 (.agg #[.int .i64 a, .int .i64 b]) (.agg #[.int .i64 a, .int .i64 b])).run Try.prog w = .ok (.bool true) w := by
  rw [fault_eq]; simp
end Go.Proofs.Ytghlmengcidmdaa.Tr
end
