/- Parts of RScopeW: walks and plain laws that later texts use. Conditions: as each statement says. -/
import Derived.Test.YtghlmengcidmdaaJa0
import Derived.Test.YtghlmengcidmdaaJa1
import Derived.Test.YtghlmengcidmdaaJa2
import Derived.Test.YtghlmengcidmdaaJa3
import Derived.Test.YtghlmengcidmdaaJa4
import Derived.Test.YtghlmengcidmdaaJa5
import Derived.Test.YtghlmengcidmdaaJa6
import Derived.Test.YtghlmengcidmdaaJa7
import Derived.Test.YtghlmengcidmdaaJa8
import Derived.Test.YtghlmengcidmdaaJa9
import Derived.Test.YtghlmengcidmdaaJa10
import Derived.Test.YtghlmengcidmdaaJa11
import Derived.Test.YtghlmengcidmdaaJa12
import Derived.Test.YtghlmengcidmdaaJa13
import Derived.Test.YtghlmengcidmdaaJa14
import Derived.Test.YtghlmengcidmdaaJa15
import Derived.Test.YtghlmengcidmdaaJa16
import Derived.Deep.QuietTactic
import Derived.BigQuiet
import Derived.Deep.DeepCutAuto
import Derived.Deep.CutBlock
import Derived.Deep.RegionHeld3
import Derived.IntWalk
import Derived.StillTailTactics
import Derived.Deep.RegionLaw
import Derived.WalkKit
import Derived.Test.YtghlmengcidmdaaRows
import Derived.WalkSpells
import Derived.Lib.Hide
import Derived.Below
import Derived.Laws.BitsAllLaws
import Derived.Outline
import Derived.Laws.StructEq
import Derived.Maps.Range
import Derived.Lib.SmallJoins
import Derived.Deep.Upon
import Derived.Maps.AppendAt
import Derived.Laws.OwnMore
import Derived.Deep.AppendLies
import Derived.Deep.RegionWith
import Derived.Laws.Cover3
import Derived.WalkSmall
import Derived.RegionTactic
import Derived.Deep.Slices
import Derived.Deep.Fields
import Derived.SliceStrings
import Derived.ChangeSlices
import Derived.OrdersHeld
import Derived.OwnWalk
import Derived.OneCell
import Derived.Deep.MidRow
/- What Scope of the reference tells: the first fault of a program's names. Conditions: the program lies in memory, and there is room for what is gathered of it. -/
namespace Go.Proofs.Ytghlmengcidmdaa.Tr
open Go.RowKit Go.Proofs.Ytghlmengcidmdaa.Lx Go.Proofs.Ytghlmengcidmdaa.Wd
set_option linter.unusedSimpArgs false
theorem flatOf_its {p : Pr} (h : mayP p = true) {f : Pc} (hf : f ∈ p.procs) : flatOf f = itsOf f := by
  unfold mayP at h
  simp only [Bool.and_eq_true] at h
  obtain ⟨m, h0, h1, h2⟩ := mayPs_rows p.procs 0 h.2 (by omega) (by omega) f hf
  have := rows_most f.body 1 m h2 h1
  unfold flatOf itsOf
  rw [flatL_pre f.body 1 0 m false [] h2 (by simp; omega), List.nil_append]
theorem it_open {C : Cs} {d g o : Nat} {t : It} (h : ItAt C d g o t) : ∃ (la ka aa ta ea : Option Addr) (lc kc ac tc ec : Nat),
    (∀ j u, ([.int .i64 t.s.id, .int .i64 t.s.kind, .slice la t.s.labels.length lc, .string t.s.nm, .string t.s.proc, .int .i64 t.s.x.op, .int .i64 t.s.x.n, .string t.s.x.nm, .slice ka t.s.x.ks.length kc, .bool t.s.has, .slice aa t.s.args.length ac, .slice ta t.s.thn.length tc, .slice ea t.s.els.length ec, .int .i64 t.deep, .int .i64 t.inn, .bool t.els] : List Value)[j]? = some u → C g (o + j) u)
    ∧ (∀ w, Cs.le C (cw w) → Hang d w t.s (.slice la t.s.labels.length lc) (.slice ka t.s.x.ks.length kc) (.slice aa t.s.args.length ac) (.slice ta t.s.thn.length tc) (.slice ea t.s.els.length ec)) ∧ OkE t.s.x ∧ InI t.s.id ∧ InI t.s.kind ∧ t.s.nm.size ≤ 9223372036854775807 ∧ t.s.proc.size ≤ 9223372036854775807 ∧ InI t.deep ∧ InI t.inn := by
  obtain ⟨h1, p13, p14, p15, i1, i2⟩ := h
  obtain ⟨la, ka, aa, ta, ea, lc, kc, ac, tc, ec, hc, hh, k1, k2, k3, k4, k5⟩ := st_open h1
  refine ⟨la, ka, aa, ta, ea, lc, kc, ac, tc, ec, fun j u hu => ?_, hh, k1, k2, k3, k4, k5, i1, i2⟩
  match j, hu with
  | 0, hu => cases hu; exact hc 0 _ rfl
  | 1, hu => cases hu; exact hc 1 _ rfl
  | 2, hu => cases hu; exact hc 2 _ rfl
  | 3, hu => cases hu; exact hc 3 _ rfl
  | 4, hu => cases hu; exact hc 4 _ rfl
  | 5, hu => cases hu; exact hc 5 _ rfl
  | 6, hu => cases hu; exact hc 6 _ rfl
  | 7, hu => cases hu; exact hc 7 _ rfl
  | 8, hu => cases hu; exact hc 8 _ rfl
  | 9, hu => cases hu; exact hc 9 _ rfl
  | 10, hu => cases hu; exact hc 10 _ rfl
  | 11, hu => cases hu; exact hc 11 _ rfl
  | 12, hu => cases hu; exact hc 12 _ rfl
  | 13, hu => cases hu; exact p13
  | 14, hu => cases hu; exact p14
  | 15, hu => cases hu; exact p15
set_option maxHeartbeats 1000000 in
theorem fault_any (c i : Int) (w : World) : Calls Try.prog 67 #[.int .i64 c, .int .i64 i] w fun e w' => e = .returned (.agg #[.int .i64 c, .int .i64 i]) ∧ Below w.heap.size w w' := by
  go_enter Try.func67, Try.ntmps67
  go_upto_region 1 with fail
  refine cut_world (fun wx => Below w.heap.size w wx ∧ BoxAt wx w.heap.size [.int .i64 0, .int .i64 0] ∧ Free wx w.heap.size) ⟨boxed w _, box_new w #[.int .i64 0, .int .i64 0] 30, fun j => by simp [go_sem]⟩ ?_
  rintro w1 ⟨hb1, hr1, hf1⟩
  have HR := Lib.hid hr1
  have HB := Lib.hid hb1
  have r0 := hr1 0 _ rfl
  have r1 := hr1 1 _ rfl
  have f0 := hf1 0
  have f1 := hf1 1
  clear hb1 hr1 hf1
  go_wp2_with fail
  have hq := box2 (x0 := .int .i64 c) (x1 := .int .i64 i) HR.out
  have q0 := hq 0 _ rfl
  have q1 := hq 1 _ rfl
  refine bodyPost_ret (v := .agg #[.int .i64 c, .int .i64 i]) (by simp [results, Try.results67, go_sem, q0, q1]) rfl ?_
  exact ⟨rfl, below2 HB.out (Nat.le_refl _)⟩
/-- Does each name of some stand for something? -/
theorem known_no {g procs : List ByteArray} {f : Pc} {s : St} {k : Nat} (hk : k < (saidS s).length) (h : kindP g f (saidS s)[k] = 0) : knownS g f procs s = false := by
  unfold knownS
  rw [alls_no hk (by rw [h]; rfl), Bool.false_and]
theorem known_call {g procs : List ByteArray} {f : Pc} {s : St} (h : ∀ k (hk : k < (saidS s).length), kindP g f (saidS s)[k] ≠ 0) : knownS g f procs s = !((s.kind == 4) && ((s.proc.toList == sMain.toList) || !inB s.proc procs)) := by
  unfold knownS
  rw [alls_yes fun k hk => by have := h k hk; simpa using this]
  cases (s.kind == 4) <;> cases (s.proc.toList == sMain.toList) <;> cases inB s.proc procs <;> rfl
set_option maxHeartbeats 8000000 in
set_option maxRecDepth 100000 in
theorem rscope_any (d : Nat) (p : Pr) (gv pv : Value) (w : World) (hp : PrC (cw w) d gv pv p) (hroom : RoomP p) :
    Calls Try.prog 39 #[.agg #[gv, pv]] w (FaultIs (scopeP p) w) := by
  obtain ⟨i0, hi, hz0, hz1, hz2⟩ := info_parts infoStr
  have HROOM := Lib.hid hroom
  clear hroom
  obtain ⟨ga, gc, rfl, hgl1, hgl2⟩ := hp.1.form
  obtain ⟨pa, pc, rfl, hl1, hl2⟩ := hp.2.form
  have hpl : p.procs.length ≤ 9223372036854775807 := Nat.le_trans hl1 hl2
  have HP := Lib.hid hp
  clear hp hl1 hl2 hgl1 hgl2
  obtain ⟨RR, hRR⟩ : ∃ r, Hid (scopeP p = r) := ⟨_, Lib.hid rfl⟩
  rw [hRR.out]
  go_enter Try.func39, Try.ntmps39
  go_upto_region 1 with fail
  refine cut_world (fun wx => Below w.heap.size w wx ∧ wx.heap.size = w.heap.size + 1 + 1 ∧ BoxAt wx w.heap.size [.slice ga p.globals.length gc, .slice pa p.procs.length pc] ∧ BoxAt wx (w.heap.size + 1) [.int .i64 0, .int .i64 0] ∧ Free wx (w.heap.size + 1)) ⟨(boxed w _).alloc (by simp) _, by simp, (box_new w #[.slice ga p.globals.length gc, .slice pa p.procs.length pc] 25).next (boxed _ _), box_two w _ #[.int .i64 0, .int .i64 0] 30, free_two w _ _ _⟩ ?_
  rintro w1 ⟨hb1, hz1', hx1, hr1, hf1⟩
  obtain ⟨R, hR⟩ : ∃ R, R = w.heap.size + 1 := ⟨_, rfl⟩
  rw [← hR] at hr1 hf1
  try rw [← hR]
  have hRw : w.heap.size < R := by omega
  have hR1 : R < w1.heap.size := by omega
  have HB1 := Lib.hid hb1
  have HX1 := Lib.hid hx1
  have HR1 := Lib.hid hr1
  have HF1 := Lib.hid hf1
  have HP1 := Lib.hid (PrC.mono (cw_next hb1) HP.out)
  clear hb1 hx1 hr1 hf1 hz1' hR
  have x0 := HX1.out 0 _ rfl
  have x1 := HX1.out 1 _ rfl
  go_wp2_with fail
  refine (rmayP_any d p _ _ _ HP1.out).mono ?_
  rintro e w2 ⟨rfl, hb2⟩
  obtain ⟨m1, hm1⟩ : ∃ m, Hid (mayP p = m) := ⟨_, Lib.hid rfl⟩
  rw [hm1.out]
  have HX2 := Lib.hid (HX1.out.next hb2)
  have HR2 := Lib.hid (HR1.out.next hb2)
  have HF2 := Lib.hid (HF1.out.next hR1 hb2)
  have HP2 := Lib.hid (PrC.mono (cw_next hb2) HP1.out)
  have HB2 := Lib.hid (HB1.out.trans (hb2.mono HB1.out.size))
  have hR2 : R < w2.heap.size := by have := hb2.size; omega
  clear hb2 x0 x1
  cases m1 with
  | false =>
    go_wp2_with fail
    refine (fault_any (1) (0) _).mono ?_
    rintro e wz ⟨rfl, hbz⟩
    have HRz := Lib.hid (HR2.out.next hbz)
    have HFz := Lib.hid (HF2.out.next hR2 hbz)
    have HBz := Lib.hid (HB2.out.trans (hbz.mono HB2.out.size))
    clear hbz
    have r0 := HRz.out 0 _ rfl
    have r1 := HRz.out 1 _ rfl
    have f0 := HFz.out 0
    have f1 := HFz.out 1
    go_wp2_with fail
    have hq := box2 (x0 := .int .i64 1) (x1 := .int .i64 0) HRz.out
    have q0 := hq 0 _ rfl
    have q1 := hq 1 _ rfl
    refine bodyPost_ret (v := .agg #[.int .i64 1, .int .i64 0]) (by simp [results, Try.results39, go_sem, q0, q1]) rfl ?_
    exact ⟨by rw [← hRR.out, scope_may hm1.out], below2 HBz.out (by omega)⟩
  | true =>
    have x1 := HX2.out 1 _ rfl
    go_wp2_with fail
    clear x1
    go_loopw [21, 3] (fun i v wr => ∃ (k : Nat) (v0 : Value), k ≤ p.procs.length ∧ i = .int .i64 k ∧ v = v0 ∧ RowS w2.heap.size wr v0 ((p.procs.take k).map Pc.nm) ∧ Below w2.heap.size w2 wr) (fun i _ _ => (p.procs.length - intOf i).toNat)
    case atStart => exact ⟨0, _, by omega, rfl, rfl, RowS.nil _ _, Below.refl _ _⟩
    case round =>
      obtain ⟨k, v, hk, rfl, rfl, hr2, hbw⟩ := hrel
      have HBW := Lib.hid hbw
      obtain ⟨w3, hw3⟩ : ∃ x : World, x = wr := ⟨_, rfl⟩
      subst hw3
      have HP3 := Lib.hid (PrC.mono (cw_next hbw) HP2.out)
      clear hbw
      by_cases hlt : k < p.procs.length
      · have hlt' : (k : Int) < (p.procs.length : Int) := by omega
        have h0k : (0 : Int) ≤ (k : Int) := by omega
        have hst : (p.procs.take (k + 1)).map Pc.nm = (p.procs.take k).map Pc.nm ++ [p.procs[k].nm] := by rw [List.take_succ_eq_append_getElem hlt, List.map_append]; rfl
        obtain ⟨LK, hLK⟩ : ∃ L, Hid ((p.procs.take k).map Pc.nm = L) := ⟨_, Lib.hid rfl⟩
        have hlk : LK.length = k := by rw [← hLK.out, List.length_map, List.length_take]; omega
        have hroom := HROOM.out.procs
        obtain ⟨g, off, hvp, qv, vv, bv, fv, p0, p1, p2, p3, p4, hnm, hps, hvs, hbody, hfin⟩ := procs_at HP3.out.2 hlt
        cases hvp
        obtain ⟨f, hf⟩ : ∃ f, Hid (p.procs[k] = f) := ⟨_, Lib.hid rfl⟩
        rw [hf.out] at p0 hnm hps hvs hbody hfin
        obtain ⟨a1, c1, rfl, -, -⟩ := hps.form
        obtain ⟨a2, c2, rfl, -, -⟩ := hvs.form
        obtain ⟨a3, c3, rfl, -, -⟩ := hbody.form
        obtain ⟨a4, c4, rfl, -, -⟩ := hfin.form
        have e0 : w3.cell? ⟨g, off + k * 5, none⟩ = _ := p0
        have e1 : w3.cell? ⟨g, off + k * 5 + 1, none⟩ = _ := p1
        have e2 : w3.cell? ⟨g, off + k * 5 + 2, none⟩ = _ := p2
        have e3 : w3.cell? ⟨g, off + k * 5 + 3, none⟩ = _ := p3
        have e4 : w3.cell? ⟨g, off + k * 5 + 4, none⟩ = _ := p4
        have HNM := Lib.hid hnm
        have HH1 := Lib.hid hps
        have HH2 := Lib.hid hvs
        have HH3 := Lib.hid hbody
        have HH4 := Lib.hid hfin
        clear p0 p1 p2 p3 p4 hnm hps hvs hbody hfin
        rw [hf.out] at hst
        rw [hLK.out] at hr2 hst
        have HST := Lib.hid hst
        obtain ⟨va2, vc2, rfl⟩ := ownsForm hr2.1
        have hlr : LK.length + 1 ≤ 1000001 := by omega
        have HR3 := Lib.hid hr2
        have hs2 := HBW.out.size
        clear hst hr2 hlk
        go_upto_region 7 with fail
        refine cut_world (fun wx => Below w3.heap.size w3 wx ∧ BoxAt wx w3.heap.size [.string f.nm, .slice a1 f.params.length c1, .slice a2 f.vars.length c2, .slice a3 f.body.length c3, .slice a4 f.fin.length c4]) ⟨boxed w3 _, box_new w3 #[.string f.nm, .slice a1 f.params.length c1, .slice a2 f.vars.length c2, .slice a3 f.body.length c3, .slice a4 f.fin.length c4] 55⟩ ?_
        clear e0 e1 e2 e3 e4
        rintro w4 ⟨hb4, hy4⟩
        have HB4 := Lib.hid hb4
        have HR4 := Lib.hid (HR3.out.next hb4)
        have y0 := hy4 0 _ rfl
        have hs4 := hb4.size
        clear hb4 hy4
        go_wp2_with (at_builtin; refine wpList_append_lies _ rfl (.tmp 25) (.tmp 28) 22 rfl w2.heap.size 9 i0 (.string ⟨#[]⟩) 1 16 Try.underlying22 hi hz0 hz1 hz2 rfl (by decide) _ _ _ rfl ((HR4.out.1.alloc _)) ⟨_, 0, none⟩ 1 1 [.string f.nm] rfl rfl ?c1 str_cells (by decide) ?c3 ?c4 ?c5 _ rfl ?_)
        case c1 => exact one_str _ _ _
        case c3 => unfold maxLen; omega
        case c4 => omega
        case c5 => first | omega | (simp; omega)
        intro g5 cap5 w5 hown5 hg5 hat5 hlt5
        have hgg := (grown_of (HB4.out.trans ((boxed w4 _).mono HB4.out.size)) _).trans hg5
        have HR5 := Lib.hid (RowS.one hown5 HR3.out.2 HNM.out)
        have HG5 := Lib.hid hgg
        clear hown5 hg5 hat5 hlt5 hgg
        go_wp2_with fail
        go_roundw
        case rel =>
          refine ⟨k + 1, _, by omega, by go_num, rfl, ?_, HBW.out.grown HG5.out HBW.out.size fun q hq => (HR3.out.lt q hq).1⟩
          rw [HST.out]; exact HR5.out
        case measure => simp [intOf]; omega
      · have hlt' : ¬ (k : Int) < (p.procs.length : Int) := by omega
        have hke : k = p.procs.length := by omega
        subst hke
        rw [List.take_length] at hr2
        obtain ⟨PN, hPN⟩ : ∃ L, Hid (procNs p = L) := ⟨_, Lib.hid rfl⟩
        have hr3 := hr2
        rw [show p.procs.map Pc.nm = PN from hPN.out] at hr3
        have hpnl : PN.length = p.procs.length := by rw [← hPN.out]; unfold procNs; rw [List.length_map]
        have hroom := HROOM.out.procs
        have HN3 := Lib.hid (hr3.strs (by omega))
        obtain ⟨na, nc, rfl⟩ := ownsForm hr3.1
        have HB3 := Lib.hid (HB2.out.trans (HBW.out.mono HB2.out.size))
        have HX3 := Lib.hid (HX2.out.next HBW.out)
        have HR3 := Lib.hid (HR2.out.next HBW.out)
        have HF3 := Lib.hid (HF2.out.next hR2 HBW.out)
        have hR3 : R < w3.heap.size := by have := HBW.out.size; omega
        have HG3 := Lib.hid (StrC.to HP3.out.1)
        clear hr2 hr3 hpnl HBW
        have x0 := HX3.out 0 _ rfl
        have x1 := HX3.out 1 _ rfl
        go_wp2_with fail
        refine (named_any d p _ _ sMain _ HP3.out).mono ?_
        intro e w4 hnd
        clear x0 x1
        cases hpn : pcOf p.procs sMain with
        | none =>
          rw [hpn] at hnd
          obtain ⟨rfl, hb4⟩ := hnd
          have HPNO := Lib.hid hpn
          have HX4 := Lib.hid (HX3.out.next hb4)
          have HR4 := Lib.hid (HR3.out.next hb4)
          have HF4 := Lib.hid (HF3.out.next hR3 hb4)
          have HP4 := Lib.hid (PrC.mono (cw_next hb4) HP3.out)
          have HN4 := Lib.hid (HN3.out.next hb4)
          have HG4 := Lib.hid (StrsAt.next HG3.out hb4)
          have HB4 := Lib.hid (HB3.out.trans (hb4.mono HB3.out.size))
          have hR4 : R < w4.heap.size := by have := hb4.size; omega
          clear hb4 hpn
          go_upto_region 10 with fail
          refine cut_world (fun wx => Below w4.heap.size w4 wx) (boxed w4 _) ?_
          intro w5 hb5
          have HX5 := Lib.hid (HX4.out.next hb5)
          have HR5 := Lib.hid (HR4.out.next hb5)
          have HF5 := Lib.hid (HF4.out.next hR4 hb5)
          have HP5 := Lib.hid (PrC.mono (cw_next hb5) HP4.out)
          have HN5 := Lib.hid (HN4.out.next hb5)
          have HG5 := Lib.hid (StrsAt.next HG4.out hb5)
          have HB5 := Lib.hid (HB4.out.trans (hb5.mono HB4.out.size))
          have hR5 : R < w5.heap.size := by have := hb5.size; omega
          clear hb5
          have x0 := HX5.out 0 _ rfl
          go_wp2_with fail
          refine (rtwice_any p.globals _ _ HG5.out).mono ?_
          rintro e w6 ⟨rfl, hb6⟩
          obtain ⟨T1, hT1⟩ : ∃ b, Hid (twiceB p.globals = b) := ⟨_, Lib.hid rfl⟩
          rw [hT1.out]
          have HX6 := Lib.hid (HX5.out.next hb6)
          have HR6 := Lib.hid (HR5.out.next hb6)
          have HF6 := Lib.hid (HF5.out.next hR5 hb6)
          have HP6 := Lib.hid (PrC.mono (cw_next hb6) HP5.out)
          have HN6 := Lib.hid (HN5.out.next hb6)
          have HG6 := Lib.hid (StrsAt.next HG5.out hb6)
          have HB6 := Lib.hid (HB5.out.trans (hb6.mono HB5.out.size))
          have hR6 : R < w6.heap.size := by have := hb6.size; omega
          clear hb6 x0
          cases T1 with
          | true =>
            go_wp2_with fail
            refine (fault_any (5) (0) _).mono ?_
            rintro e wz ⟨rfl, hbz⟩
            have HRz := Lib.hid (HR6.out.next hbz)
            have HFz := Lib.hid (HF6.out.next hR6 hbz)
            have HBz := Lib.hid (HB6.out.trans (hbz.mono HB6.out.size))
            clear hbz
            have r0 := HRz.out 0 _ rfl
            have r1 := HRz.out 1 _ rfl
            have f0 := HFz.out 0
            have f1 := HFz.out 1
            go_wp2_with fail
            have hq := box2 (x0 := .int .i64 5) (x1 := .int .i64 0) HRz.out
            have q0 := hq 0 _ rfl
            have q1 := hq 1 _ rfl
            refine bodyPost_ret (v := .agg #[.int .i64 5, .int .i64 0]) (by simp [results, Try.results39, go_sem, q0, q1]) rfl ?_
            exact ⟨by rw [← hRR.out, scope_head hm1.out (head_glob hT1.out)], below2 HBz.out (by omega)⟩
          | false =>
            go_wp2_with fail
            refine (rtwice_any PN _ _ HN6.out).mono ?_
            rintro e w7 ⟨rfl, hb7⟩
            obtain ⟨T2, hT2⟩ : ∃ b, Hid (twiceB PN = b) := ⟨_, Lib.hid rfl⟩
            rw [hT2.out]
            have HX7 := Lib.hid (HX6.out.next hb7)
            have HR7 := Lib.hid (HR6.out.next hb7)
            have HF7 := Lib.hid (HF6.out.next hR6 hb7)
            have HP7 := Lib.hid (PrC.mono (cw_next hb7) HP6.out)
            have HN7 := Lib.hid (HN6.out.next hb7)
            have HG7 := Lib.hid (StrsAt.next HG6.out hb7)
            have HB7 := Lib.hid (HB6.out.trans (hb7.mono HB6.out.size))
            have hR7 : R < w7.heap.size := by have := hb7.size; omega
            clear hb7
            cases T2 with
            | true =>
              go_wp2_with fail
              refine (fault_any (5) (0) _).mono ?_
              rintro e wz ⟨rfl, hbz⟩
              have HRz := Lib.hid (HR7.out.next hbz)
              have HFz := Lib.hid (HF7.out.next hR7 hbz)
              have HBz := Lib.hid (HB7.out.trans (hbz.mono HB7.out.size))
              clear hbz
              have r0 := HRz.out 0 _ rfl
              have r1 := HRz.out 1 _ rfl
              have f0 := HFz.out 0
              have f1 := HFz.out 1
              go_wp2_with fail
              have hq := box2 (x0 := .int .i64 5) (x1 := .int .i64 0) HRz.out
              have q0 := hq 0 _ rfl
              have q1 := hq 1 _ rfl
              refine bodyPost_ret (v := .agg #[.int .i64 5, .int .i64 0]) (by simp [results, Try.results39, go_sem, q0, q1]) rfl ?_
              exact ⟨by rw [← hRR.out, scope_head hm1.out (head_none HPNO.out)], below2 HBz.out (by omega)⟩
            | false =>
              go_wp2_with fail
              refine (fault_any (5) (0) _).mono ?_
              rintro e wz ⟨rfl, hbz⟩
              have HRz := Lib.hid (HR7.out.next hbz)
              have HFz := Lib.hid (HF7.out.next hR7 hbz)
              have HBz := Lib.hid (HB7.out.trans (hbz.mono HB7.out.size))
              clear hbz
              have r0 := HRz.out 0 _ rfl
              have r1 := HRz.out 1 _ rfl
              have f0 := HFz.out 0
              have f1 := HFz.out 1
              go_wp2_with fail
              have hq := box2 (x0 := .int .i64 5) (x1 := .int .i64 0) HRz.out
              have q0 := hq 0 _ rfl
              have q1 := hq 1 _ rfl
              refine bodyPost_ret (v := .agg #[.int .i64 5, .int .i64 0]) (by simp [results, Try.results39, go_sem, q0, q1]) rfl ?_
              exact ⟨by rw [← hRR.out, scope_head hm1.out (head_none HPNO.out)], below2 HBz.out (by omega)⟩
        | some fm =>
          rw [hpn] at hnd
          obtain ⟨a1m, a2m, a3m, a4m, c1m, c2m, c3m, c4m, rfl, hh, hnmm, hb4⟩ := hnd
          have HPNO := Lib.hid hpn
          have HX4 := Lib.hid (HX3.out.next hb4)
          have HR4 := Lib.hid (HR3.out.next hb4)
          have HF4 := Lib.hid (HF3.out.next hR3 hb4)
          have HP4 := Lib.hid (PrC.mono (cw_next hb4) HP3.out)
          have HN4 := Lib.hid (HN3.out.next hb4)
          have HG4 := Lib.hid (StrsAt.next HG3.out hb4)
          have HB4 := Lib.hid (HB3.out.trans (hb4.mono HB3.out.size))
          have hR4 : R < w4.heap.size := by have := hb4.size; omega
          clear hb4 hpn hh hnmm
          go_upto_region 10 with fail
          refine cut_world (fun wx => Below w4.heap.size w4 wx ∧ BoxAt wx w4.heap.size [.string fm.nm, .slice a1m fm.params.length c1m, .slice a2m fm.vars.length c2m, .slice a3m fm.body.length c3m, .slice a4m fm.fin.length c4m]) ⟨boxed w4 _, box_new w4 #[.string fm.nm, .slice a1m fm.params.length c1m, .slice a2m fm.vars.length c2m, .slice a3m fm.body.length c3m, .slice a4m fm.fin.length c4m] 55⟩ ?_
          rintro w5 ⟨hb5, hm5⟩
          have HM5 := Lib.hid hm5
          have HX5 := Lib.hid (HX4.out.next hb5)
          have HR5 := Lib.hid (HR4.out.next hb5)
          have HF5 := Lib.hid (HF4.out.next hR4 hb5)
          have HP5 := Lib.hid (PrC.mono (cw_next hb5) HP4.out)
          have HN5 := Lib.hid (HN4.out.next hb5)
          have HG5 := Lib.hid (StrsAt.next HG4.out hb5)
          have HB5 := Lib.hid (HB4.out.trans (hb5.mono HB4.out.size))
          have hR5 : R < w5.heap.size := by have := hb5.size; omega
          clear hb5 hm5
          have x0 := HX5.out 0 _ rfl
          go_wp2_with fail
          refine (rtwice_any p.globals _ _ HG5.out).mono ?_
          rintro e w6 ⟨rfl, hb6⟩
          obtain ⟨T1, hT1⟩ : ∃ b, Hid (twiceB p.globals = b) := ⟨_, Lib.hid rfl⟩
          rw [hT1.out]
          have HX6 := Lib.hid (HX5.out.next hb6)
          have HR6 := Lib.hid (HR5.out.next hb6)
          have HF6 := Lib.hid (HF5.out.next hR5 hb6)
          have HP6 := Lib.hid (PrC.mono (cw_next hb6) HP5.out)
          have HN6 := Lib.hid (HN5.out.next hb6)
          have HG6 := Lib.hid (StrsAt.next HG5.out hb6)
          have HB6 := Lib.hid (HB5.out.trans (hb6.mono HB5.out.size))
          have hR6 : R < w6.heap.size := by have := hb6.size; omega
          have HM6 := Lib.hid (HM5.out.next hb6)
          clear hb6 x0
          cases T1 with
          | true =>
            go_wp2_with fail
            refine (fault_any (5) (0) _).mono ?_
            rintro e wz ⟨rfl, hbz⟩
            have HRz := Lib.hid (HR6.out.next hbz)
            have HFz := Lib.hid (HF6.out.next hR6 hbz)
            have HBz := Lib.hid (HB6.out.trans (hbz.mono HB6.out.size))
            clear hbz
            have r0 := HRz.out 0 _ rfl
            have r1 := HRz.out 1 _ rfl
            have f0 := HFz.out 0
            have f1 := HFz.out 1
            go_wp2_with fail
            have hq := box2 (x0 := .int .i64 5) (x1 := .int .i64 0) HRz.out
            have q0 := hq 0 _ rfl
            have q1 := hq 1 _ rfl
            refine bodyPost_ret (v := .agg #[.int .i64 5, .int .i64 0]) (by simp [results, Try.results39, go_sem, q0, q1]) rfl ?_
            exact ⟨by rw [← hRR.out, scope_head hm1.out (head_glob hT1.out)], below2 HBz.out (by omega)⟩
          | false =>
            go_wp2_with fail
            refine (rtwice_any PN _ _ HN6.out).mono ?_
            rintro e w7 ⟨rfl, hb7⟩
            obtain ⟨T2, hT2⟩ : ∃ b, Hid (twiceB PN = b) := ⟨_, Lib.hid rfl⟩
            rw [hT2.out]
            have HX7 := Lib.hid (HX6.out.next hb7)
            have HR7 := Lib.hid (HR6.out.next hb7)
            have HF7 := Lib.hid (HF6.out.next hR6 hb7)
            have HP7 := Lib.hid (PrC.mono (cw_next hb7) HP6.out)
            have HN7 := Lib.hid (HN6.out.next hb7)
            have HG7 := Lib.hid (StrsAt.next HG6.out hb7)
            have HB7 := Lib.hid (HB6.out.trans (hb7.mono HB6.out.size))
            have hR7 : R < w7.heap.size := by have := hb7.size; omega
            have HM7 := Lib.hid (HM6.out.next hb7)
            clear hb7
            cases T2 with
            | true =>
              go_wp2_with fail
              refine (fault_any (5) (0) _).mono ?_
              rintro e wz ⟨rfl, hbz⟩
              have HRz := Lib.hid (HR7.out.next hbz)
              have HFz := Lib.hid (HF7.out.next hR7 hbz)
              have HBz := Lib.hid (HB7.out.trans (hbz.mono HB7.out.size))
              clear hbz
              have r0 := HRz.out 0 _ rfl
              have r1 := HRz.out 1 _ rfl
              have f0 := HFz.out 0
              have f1 := HFz.out 1
              go_wp2_with fail
              have hq := box2 (x0 := .int .i64 5) (x1 := .int .i64 0) HRz.out
              have q0 := hq 0 _ rfl
              have q1 := hq 1 _ rfl
              refine bodyPost_ret (v := .agg #[.int .i64 5, .int .i64 0]) (by simp [results, Try.results39, go_sem, q0, q1]) rfl ?_
              exact ⟨by rw [← hRR.out, scope_head hm1.out (head_procs (by rw [hPN.out]; exact hT2.out))], below2 HBz.out (by omega)⟩
            | false =>
              have HHF := Lib.hid (head_some (by rw [← hT1.out]) (by rw [hPN.out, ← hT2.out]) HPNO.out)
              obtain ⟨T4, hT4⟩ : ∃ b, Hid (decide ((0 : Int) < (fm.params.length : Int)) = b) := ⟨_, Lib.hid rfl⟩
              rw [hT4.out] at HHF
              have hT4' := hT4.out
              have hT4n : decide (0 < fm.params.length) = T4 := by rw [← hT4.out]; simp
              have hmc := HM7.out 1 _ rfl
              cases T4 with
              | true =>
                go_wp2_with fail
                refine (fault_any (5) (0) _).mono ?_
                rintro e wz ⟨rfl, hbz⟩
                have HRz := Lib.hid (HR7.out.next hbz)
                have HFz := Lib.hid (HF7.out.next hR7 hbz)
                have HBz := Lib.hid (HB7.out.trans (hbz.mono HB7.out.size))
                clear hbz
                have r0 := HRz.out 0 _ rfl
                have r1 := HRz.out 1 _ rfl
                have f0 := HFz.out 0
                have f1 := HFz.out 1
                go_wp2_with fail
                have hq := box2 (x0 := .int .i64 5) (x1 := .int .i64 0) HRz.out
                have q0 := hq 0 _ rfl
                have q1 := hq 1 _ rfl
                refine bodyPost_ret (v := .agg #[.int .i64 5, .int .i64 0]) (by simp [results, Try.results39, go_sem, q0, q1]) rfl ?_
                exact ⟨by rw [← hRR.out, scope_head hm1.out HHF.out], below2 HBz.out (by omega)⟩
              | false =>
                go_upto_region 12 with fail
                clear hT4' hT4n hmc
                have x1 := HX7.out 1 _ rfl
                go_wp2_with fail
                clear x1
                obtain ⟨W7, hW7⟩ : ∃ x : World, x = w7 := ⟨_, rfl⟩
                subst hW7
                go_loopw [57] (fun i wr => ∃ k : Nat, k ≤ p.procs.length ∧ i = .int .i64 k ∧ (∀ j (hj : j < p.procs.length), j < k → pcFault p.globals PN p.procs[j] = none) ∧ Below W7.heap.size W7 wr) (fun i _ => (p.procs.length - intOf i).toNat)
                case atStart => exact ⟨0, by omega, rfl, fun j _ h => absurd h (by omega), Below.refl _ _⟩
                case round =>
                  obtain ⟨k, hk, rfl, hno, hbr⟩ := hrel
                  obtain ⟨w8, hw8⟩ : ∃ x : World, x = wr := ⟨_, rfl⟩
                  subst hw8
                  have HNO := Lib.hid hno
                  have HBR8 := Lib.hid hbr
                  have HX8 := Lib.hid (HX7.out.next hbr)
                  have HR8 := Lib.hid (HR7.out.next hbr)
                  have HF8 := Lib.hid (HF7.out.next hR7 hbr)
                  have HP8 := Lib.hid (PrC.mono (cw_next hbr) HP7.out)
                  have HN8 := Lib.hid (HN7.out.next hbr)
                  have HG8 := Lib.hid (StrsAt.next HG7.out hbr)
                  have HB8 := Lib.hid (HB7.out.trans (hbr.mono HB7.out.size))
                  have hR8 : R < w8.heap.size := by have := hbr.size; omega
                  clear hno hbr
                  by_cases hlt : k < p.procs.length
                  · have hlt' : (k : Int) < (p.procs.length : Int) := by omega
                    have h0k : (0 : Int) ≤ (k : Int) := by omega
                    have hro := HROOM.out.own _ (List.getElem_mem hlt)
                    have HRS := Lib.hid (HROOM.out.said _ (List.getElem_mem hlt))
                    have HITS := Lib.hid (flatOf_its hm1.out (List.getElem_mem hlt))
                    have hrg := HROOM.out.glob
                    obtain ⟨g1, off1, hvp, qv, vv, bv, fv, p0, p1, p2, p3, p4, hnm, hps, hvs, hbody, hfin⟩ := procs_at HP8.out.2 hlt
                    cases hvp
                    obtain ⟨f1, hf1⟩ : ∃ f, Hid (p.procs[k] = f) := ⟨_, Lib.hid rfl⟩
                    rw [hf1.out] at p0 hnm hps hvs hbody hfin
                    obtain ⟨a11, c11, rfl, -, -⟩ := hps.form
                    obtain ⟨a21, c21, rfl, -, -⟩ := hvs.form
                    obtain ⟨a31, c31, rfl, -, -⟩ := hbody.form
                    obtain ⟨a41, c41, rfl, -, -⟩ := hfin.form
                    have e01 : w8.cell? ⟨g1, off1 + k * 5, none⟩ = _ := p0
                    have e11 : w8.cell? ⟨g1, off1 + k * 5 + 1, none⟩ = _ := p1
                    have e21 : w8.cell? ⟨g1, off1 + k * 5 + 2, none⟩ = _ := p2
                    have e31 : w8.cell? ⟨g1, off1 + k * 5 + 3, none⟩ = _ := p3
                    have e41 : w8.cell? ⟨g1, off1 + k * 5 + 4, none⟩ = _ := p4
                    have HNM1 := Lib.hid hnm
                    have HH11 := Lib.hid hps
                    have HH21 := Lib.hid hvs
                    have HH31 := Lib.hid hbody
                    have HH41 := Lib.hid hfin
                    clear p0 p1 p2 p3 p4 hnm hps hvs hbody hfin
                    rw [hf1.out] at hro HRS HITS
                    go_upto_region 15 with fail
                    refine cut_world (fun wx => Below w8.heap.size w8 wx ∧ BoxAt wx w8.heap.size [.string f1.nm, .slice a11 f1.params.length c11, .slice a21 f1.vars.length c21, .slice a31 f1.body.length c31, .slice a41 f1.fin.length c41]) ⟨boxed w8 _, box_new w8 #[.string f1.nm, .slice a11 f1.params.length c11, .slice a21 f1.vars.length c21, .slice a31 f1.body.length c31, .slice a41 f1.fin.length c41] 55⟩ ?_
                    clear e01 e11 e21 e31 e41
                    rintro w9 ⟨hb9, hy9⟩
                    have HY9 := Lib.hid hy9
                    have HX9 := Lib.hid (HX8.out.next hb9)
                    have HR9 := Lib.hid (HR8.out.next hb9)
                    have HF9 := Lib.hid (HF8.out.next hR8 hb9)
                    have HP9 := Lib.hid (PrC.mono (cw_next hb9) HP8.out)
                    have HN9 := Lib.hid (HN8.out.next hb9)
                    have HG9 := Lib.hid (StrsAt.next HG8.out hb9)
                    have HB9 := Lib.hid (HB8.out.trans (hb9.mono HB8.out.size))
                    have hR9 : R < w9.heap.size := by have := hb9.size; omega
                    have HBR9 := Lib.hid (HBR8.out.trans (hb9.mono HBR8.out.size))
                    have HQ9 := Lib.hid (SlAt.imp HH11.out fun _ _ _ _ => PaAt.mono (cw_next hb9))
                    have HV9 := Lib.hid (StrsAt.next (StrC.to HH21.out) hb9)
                    have HC9 := Lib.hid (StC.mono (cw_next hb9) HH31.out)
                    have X0 := Lib.hid (HX9.out 0 _ rfl)
                    clear hb9 hy9
                    go_wp2_with fail
                    have hq : Below w9.heap.size w9 w9.drew := (Below.refl _ _).drew
                    have HGG := Lib.hid (StrsAt.next HG9.out hq)
                    have HVV := Lib.hid (StrsAt.next HV9.out hq)
                    obtain ⟨OL, hOL⟩ : ∃ L, Hid (f1.params.map Pa.nm = L) := ⟨_, Lib.hid rfl⟩
                    have hoL : OL.length ≤ f1.params.length := by rw [← hOL.out, List.length_map]; exact Nat.le_refl _
                    refine wp_region_z (fun w' => w'.cell? ⟨w.heap.size, 0, none⟩ = some (.slice ga p.globals.length gc) ∧ BoxAt w' w8.heap.size [.string f1.nm, .slice a11 f1.params.length c11, .slice a21 f1.vars.length c21, .slice a31 f1.body.length c31, .slice a41 f1.fin.length c41]) 11 (by kernel_rfl) ⟨cell_next hq X0.out, HY9.out.next hq⟩ (fun hS => ?_)
                    refine' wpAnyN_take (i := 1) (oi := _) (v := _) rfl (by kernel_rfl) (by kernel_rfl) (by kernel_rfl) (by kernel_rfl) (fun _ _ _ h => h) (Or.inl ⟨by rfl, ?hy1⟩) hS ?rest1
                    case hy1 => (intro w hSw; have c0 := hSw.1; clear hSw; go_simp; (try with_reducible rfl))
                    try simp only [Act.put, List.setIfInBounds_toArray, List.set_cons_zero, List.set_cons_succ]
                    refine' wpAnyN_take (i := 2) (oi := _) (v := _) rfl (by kernel_rfl) (by kernel_rfl) (by kernel_rfl) (by kernel_rfl) (fun _ _ _ h => h) (Or.inl ⟨by rfl, ?hy2⟩) hS ?rest2
                    case hy2 => (intro w hSw; have c0 := hSw.1; clear hSw; go_simp; (try with_reducible rfl))
                    try simp only [Act.put, List.setIfInBounds_toArray, List.set_cons_zero, List.set_cons_succ]
                    refine' wpAnyN_take (i := 4) (oi := _) (v := _) rfl (by kernel_rfl) (by kernel_rfl) (by kernel_rfl) (by kernel_rfl) (fun _ _ _ h => h) (Or.inl ⟨by rfl, ?hy4⟩) hS ?rest4
                    case hy4 => (intro w hSw; have d0 := hSw.2 0 _ rfl; have d1 := hSw.2 1 _ rfl; have d2 := hSw.2 2 _ rfl; have d3 := hSw.2 3 _ rfl; have d4 := hSw.2 4 _ rfl; clear hSw; go_simp; (try with_reducible rfl))
                    try simp only [Act.put, List.setIfInBounds_toArray, List.set_cons_zero, List.set_cons_succ]
                    refine' wpAnyN_take (i := 7) (oi := _) (v := _) rfl (by kernel_rfl) (by kernel_rfl) (by kernel_rfl) (by kernel_rfl) (fun _ _ _ h => h) (Or.inl ⟨by rfl, ?hy7⟩) hS ?rest7
                    case hy7 => (intro w hSw; have d2 := hSw.2 2 _ rfl; clear hSw; go_simp; (try with_reducible rfl))
                    try simp only [Act.put, List.setIfInBounds_toArray, List.set_cons_zero, List.set_cons_succ]
                    refine' wpAnyN_take (i := 8) (oi := _) (v := _) rfl (by kernel_rfl) (by kernel_rfl) (by kernel_rfl) (by kernel_rfl) (fun _ _ _ h => h) (Or.inl ⟨by rfl, ?hy8⟩) hS ?rest8
                    case hy8 => (intro w hSw; have d2 := hSw.2 2 _ rfl; clear hSw; go_simp; (try with_reducible rfl))
                    try simp only [Act.put, List.setIfInBounds_toArray, List.set_cons_zero, List.set_cons_succ]
                    have hlit : (w9.drew.alloc (.cells #[] 9)).ownsRow w9.heap.size 9 1 (.slice (some ⟨w9.drew.heap.size, 0, none⟩) 0 0) 0 [] := World.ownsRow_lit w9.drew #[] 0 (by simp) (by decide) rfl
                    have HLIT := Lib.hid hlit
                    have HBL := Lib.hid (below_then (boxed w9.drew (.cells #[] 9)) hq)
                    have HGL := Lib.hid (StrsAt.next HGG.out (boxed w9.drew (.cells #[] 9)))
                    clear hlit
                    have hszL := HBL.out.size
                    refine' wpAnyZ_step (i := 0) (o := _) rfl (by kernel_rfl) (fun K hK => ?_)
                    go_simp
                    refine hK _ _ (fun _ => ⟨cell_next HBL.out X0.out, HY9.out.next HBL.out⟩) ?_
                    clear hK K
                    try simp only [Act.put, List.setIfInBounds_toArray, List.set_cons_zero, List.set_cons_succ]
                    refine' wpAnyZ_step (i := 3) (o := _) rfl (by kernel_rfl) (fun K hK => ?_)
                    refine step_append_sl _ (by rfl) (.tmp 61) (.tmp 63) 22 (by rfl) w9.heap.size 9 i0 (.string ⟨#[]⟩) 1 16 Try.underlying22 hi hz0 hz1 hz2 rfl (by decide) _ 0 ([]) (by rfl) HLIT.out ga p.globals.length gc (p.globals.map Value.string) (by rfl) HGL.out.news.2.1 (by rw [List.length_map, Nat.mul_one]) HGL.out.news.2.2 (str_all _) (by unfold maxLen; omega) (by omega) (by first | omega | (simp; done) | (simp; omega)) ?_
                    intro va13 vc13 w13 hown13 hg13 hat13
                    have hbo13 := fun q (hq' : (Value.slice (some ⟨w9.drew.heap.size, 0, none⟩) 0 0).ownBlock = some q) => (HLIT.out.lt q hq').1
                    have HB13 := Lib.hid ((HBL.out).grown hg13 HBL.out.size hbo13)
                    rw [List.nil_append, Nat.zero_add] at hown13
                    try rw [Nat.zero_add]
                    have HR13 : Hid (RowS w9.heap.size w13 (.slice va13 p.globals.length vc13) p.globals) := Lib.hid ⟨hown13, HGG.out.all⟩
                    have hsz13 := HB13.out.size
                    have HQ13 := Lib.hid (SlAt.imp HQ9.out fun _ _ _ _ => PaAt.mono (cw_next HB13.out))
                    have HV13 := Lib.hid (StrsAt.next HV9.out HB13.out)
                    refine hK _ _ (fun _ => ⟨cell_next HB13.out X0.out, HY9.out.next HB13.out⟩) ?_
                    clear hK K hown13 hg13 hat13 hbo13
                    try simp only [Act.put, List.setIfInBounds_toArray, List.set_cons_zero, List.set_cons_succ]
                    refine' wpAnyZ_step (i := 5) (o := _) rfl (by kernel_rfl) (fun K hK => ?_)
                    go_simp
                    go_at_call 81
                    refine (rparams_any f1 a11 a21 a31 a41 c11 c21 c31 c41 _ HQ13.out HV13.out (by omega)).mono ?_
                    rintro e w15 ⟨v15, rfl, hr15, hb15⟩
                    rw [hOL.out] at hr15
                    obtain ⟨a15, c15, rfl⟩ := ownsForm hr15.1
                    have HB15 := Lib.hid (HB13.out.trans (hb15.mono HB13.out.size))
                    have HR15 := Lib.hid (HR13.out.next hb15)
                    have hsz15 := HB15.out.size
                    have HF15 := Lib.hid HR13.out.2
                    have HF16 := Lib.hid hr15.2
                    have HS15 := Lib.hid (hr15.strs (by omega))
                    refine hK _ _ (fun _ => ⟨cell_next HB15.out X0.out, HY9.out.next HB15.out⟩) ?_
                    clear hK K hr15 hb15
                    try simp only [Act.put, List.setIfInBounds_toArray, List.set_cons_zero, List.set_cons_succ]
                    refine' wpAnyZ_step (i := 6) (o := _) rfl (by kernel_rfl) (fun K hK => ?_)
                    refine step_append_sl _ (by rfl) (.tmp 64) (.tmp 66) 22 (by rfl) w9.heap.size 9 i0 (.string ⟨#[]⟩) 1 16 Try.underlying22 hi hz0 hz1 hz2 rfl (by decide) _ p.globals.length (p.globals.map Value.string) (by rfl) HR15.out.1 a15 OL.length c15 (OL.map Value.string) (by rfl) HS15.out.news.2.1 (by rw [List.length_map, Nat.mul_one]) HS15.out.news.2.2 (str_all _) (by unfold maxLen; omega) (by omega) (by first | omega | (simp; done) | (simp; omega)) ?_
                    intro va16 vc16 w16 hown16 hg16 hat16
                    have hbo16 : ∀ q, (Value.slice va13 p.globals.length vc13).ownBlock = some q → w9.heap.size ≤ q := fun q hq' => (HR15.out.lt q hq').1
                    have HB16 := Lib.hid ((HB15.out).grown hg16 HB15.out.size hbo16)
                    have HR16 := Lib.hid (RowS.cat (l := p.globals) (m := OL) hown16 HF15.out HF16.out)
                    have hgo : (p.globals ++ OL).length = p.globals.length + OL.length := List.length_append
                    rw [← hgo]
                    have hgo' : (p.globals ++ OL).length ≤ p.globals.length + OL.length := by omega
                    rw [← hgo] at HR16
                    clear hgo
                    obtain ⟨GO, hGO⟩ : ∃ L, Hid (p.globals ++ OL = L) := ⟨_, Lib.hid rfl⟩
                    rw [hGO.out] at HR16 hgo'
                    rw [hGO.out]
                    have hsz16 := HB16.out.size
                    have HV16 := Lib.hid (StrsAt.next HV9.out HB16.out)
                    have HF17 := Lib.hid HR16.out.2
                    refine hK _ _ (fun _ => ⟨cell_next HB16.out X0.out, HY9.out.next HB16.out⟩) ?_
                    clear hK K hown16 hg16 hat16 hbo16
                    try simp only [Act.put, List.setIfInBounds_toArray, List.set_cons_zero, List.set_cons_succ]
                    refine' wpAnyZ_step (i := 9) (o := _) rfl (by kernel_rfl) (fun K hK => ?_)
                    refine step_append_sl _ (by rfl) (.tmp 67) (.tmp 69) 22 (by rfl) w9.heap.size 9 i0 (.string ⟨#[]⟩) 1 16 Try.underlying22 hi hz0 hz1 hz2 rfl (by decide) _ GO.length (GO.map Value.string) (by rfl) HR16.out.1 a21 f1.vars.length c21 (f1.vars.map Value.string) (by rfl) HV16.out.news.2.1 (by rw [List.length_map, Nat.mul_one]) HV16.out.news.2.2 (str_all _) (by unfold maxLen; omega) (by omega) (by first | omega | (simp; done) | (simp; omega)) ?_
                    intro va19 vc19 w19 hown19 hg19 hat19
                    have hbo19 : ∀ q, (Value.slice va16 GO.length vc16).ownBlock = some q → w9.heap.size ≤ q := fun q hq' => (HR16.out.lt q hq').1
                    have HB19 := Lib.hid ((HB16.out).grown hg19 HB16.out.size hbo19)
                    have HR19 := Lib.hid (RowS.cat (l := GO) (m := f1.vars) hown19 HF17.out HVV.out.all)
                    have hsz19 := HB19.out.size
                    refine hK _ _ (fun _ => ⟨cell_next HB19.out X0.out, HY9.out.next HB19.out⟩) ?_
                    clear hK K hown19 hg19 hat19 hbo19
                    try simp only [Act.put, List.setIfInBounds_toArray, List.set_cons_zero, List.set_cons_succ]
                    have HRS19 := Lib.hid (HR19.out.strs (by rw [List.length_append]; omega))
                    obtain ⟨GV, hGV⟩ : ∃ L, Hid (GO ++ f1.vars = L) := ⟨_, Lib.hid rfl⟩
                    have htw : twiceB GV = (twiceB (ownNs f1) || (ownNs f1).any fun n => inB n p.globals) := by
                      rw [← hGV.out, ← hGO.out, List.append_assoc, ← hOL.out]
                      exact twice_all hT1.out
                    have HTW := Lib.hid htw
                    have hgvl : (GO ++ f1.vars).length = GO.length + f1.vars.length := List.length_append
                    rw [← hgvl]
                    rw [← hgvl] at HRS19
                    clear htw hgvl
                    rw [hGV.out]
                    rw [hGV.out] at HRS19
                    refine' wpAnyZ_step (i := 10) (o := _) rfl (by kernel_rfl) (fun K hK => ?_)
                    go_simp
                    go_at_call 91
                    refine (rtwice_any GV _ _ HRS19.out).mono ?_
                    rintro e wa ⟨rfl, hba⟩
                    have HB9A := Lib.hid (HB19.out.trans (hba.mono HB19.out.size))
                    refine hK _ _ (fun _ => ⟨cell_next HB9A.out X0.out, HY9.out.next HB9A.out⟩) ?_
                    clear hK K hba
                    try simp only [Act.put, List.setIfInBounds_toArray, List.set_cons_zero, List.set_cons_succ]
                    refine wpAnyZ_done (by kernel_rfl) ?_ _
                    clear hS hq HGG HVV HLIT HBL HGL hszL HB13 HR13 hsz13 HQ13 HV13 HB15 HR15 hsz15 HF15 HF16 HS15 HB16 HR16 hgo' hsz16 HV16 HF17 HB19 HR19 hsz19 HRS19 hoL
                    have hba := HB9A.out
                    have HXA := Lib.hid (HX9.out.next hba)
                    have HRA := Lib.hid (HR9.out.next hba)
                    have HFA := Lib.hid (HF9.out.next hR9 hba)
                    have HNA := Lib.hid (HN9.out.next hba)
                    have HGA := Lib.hid (StrsAt.next HG9.out hba)
                    have HYA := Lib.hid (HY9.out.next hba)
                    have HQA := Lib.hid (SlAt.imp HQ9.out fun _ _ _ _ => PaAt.mono (cw_next hba))
                    have HVA := Lib.hid (StrsAt.next HV9.out hba)
                    have HBA := Lib.hid (HB9.out.trans (hba.mono HB9.out.size))
                    have HBRA := Lib.hid (HBR9.out.trans (hba.mono HBR9.out.size))
                    have hRA : R < wa.heap.size := by have := hba.size; omega
                    have HCA := Lib.hid (StC.mono (cw_next hba) HC9.out)
                    clear hba HB9A
                    obtain ⟨T5, hT5⟩ : ∃ b, Hid (twiceB GV = b) := ⟨_, Lib.hid rfl⟩
                    rw [hT5.out]
                    rw [hT5.out] at HTW
                    cases T5 with
                    | true =>
                      have hpc : pcFault p.globals PN f1 = some 0 := by
                        unfold pcFault
                        rw [← HTW.out]
                        rfl
                      have HPC := Lib.hid hpc
                      clear hpc
                      go_wp2_with fail
                      refine (fault_any (5) (0) _).mono ?_
                      rintro e wz ⟨rfl, hbz⟩
                      have HRz := Lib.hid (HRA.out.next hbz)
                      have HFz := Lib.hid (HFA.out.next hRA hbz)
                      have HBz := Lib.hid (HBA.out.trans (hbz.mono HBA.out.size))
                      clear hbz
                      have r0 := HRz.out 0 _ rfl
                      have r1 := HRz.out 1 _ rfl
                      have f0 := HFz.out 0
                      have f1 := HFz.out 1
                      go_wp2_with fail
                      have hq := box2 (x0 := .int .i64 5) (x1 := .int .i64 0) HRz.out
                      have q0 := hq 0 _ rfl
                      have q1 := hq 1 _ rfl
                      refine bodyPost_ret (v := .agg #[.int .i64 5, .int .i64 0]) (by simp [results, Try.results39, go_sem, q0, q1]) rfl ?_
                      exact ⟨by rw [← hRR.out, scope_at hm1.out HHF.out hlt (fun j hj hjk => by rw [hPN.out]; exact HNO.out j hj hjk) (by rw [hf1.out, hPN.out]; exact HPC.out)], below2 HBz.out (by omega)⟩
                    | false =>
                      have hno2 := HTW.out.symm
                      rw [Bool.or_eq_false_iff] at hno2
                      have HOWN1 := Lib.hid hno2.1
                      have HOWN2 := Lib.hid hno2.2
                      clear hno2
                      have y0 := HYA.out 0 _ rfl
                      have y1 := HYA.out 1 _ rfl
                      have y2 := HYA.out 2 _ rfl
                      have y3 := HYA.out 3 _ rfl
                      have y4 := HYA.out 4 _ rfl
                      go_wp2_with fail
                      refine (flatOf_any d f1 _ _ _ _ _ HCA.out).mono ?_
                      rintro e wb ⟨pvb, rfl, hib, hbb⟩
                      obtain ⟨ia, ic, rfl, hil1, hil2⟩ := hib.form
                      have hil : (flatOf f1).length ≤ 9223372036854775807 := Nat.le_trans hil1 hil2
                      obtain ⟨PT, hPT⟩ : ∃ L, Hid (flatOf f1 = L) := ⟨_, Lib.hid rfl⟩
                      have hpts : PT.map It.s = stsOf f1 := by rw [← hPT.out, HITS.out]; rfl
                      have HPART := Lib.hid hpts
                      rw [hPT.out] at hib hil
                      rw [hPT.out]
                      have HIB := Lib.hid hib
                      have HXB := Lib.hid (HXA.out.next hbb)
                      have HRB := Lib.hid (HRA.out.next hbb)
                      have HFB := Lib.hid (HFA.out.next hRA hbb)
                      have HNB := Lib.hid (HNA.out.next hbb)
                      have HGB := Lib.hid (StrsAt.next HGA.out hbb)
                      have HYB := Lib.hid (HYA.out.next hbb)
                      have HQB := Lib.hid (SlAt.imp HQA.out fun _ _ _ _ => PaAt.mono (cw_next hbb))
                      have HVB := Lib.hid (StrsAt.next HVA.out hbb)
                      have HBB := Lib.hid (HBA.out.trans (hbb.mono HBA.out.size))
                      have HBRB := Lib.hid (HBRA.out.trans (hbb.mono HBRA.out.size))
                      have hRB : R < wb.heap.size := by have := hbb.size; omega
                      clear hib hbb hil1 hil2 hpts y0 y1 y2 y3 y4
                      go_wp2_with fail
                      obtain ⟨WB, hWB⟩ : ∃ x : World, x = wb := ⟨_, rfl⟩
                      subst hWB
                      go_loopw [76] (fun i wr => ∃ q : Nat, q ≤ PT.length ∧ i = .int .i64 q ∧ (∀ j (hj : j < PT.length), j < q → knownS p.globals f1 PN PT[j].s = true) ∧ Below WB.heap.size WB wr) (fun i _ => (PT.length - intOf i).toNat)
                      case atStart => exact ⟨0, by omega, rfl, fun j _ h => absurd h (by omega), Below.refl _ _⟩
                      case round =>
                        obtain ⟨q, hq, rfl, hnq, hbq⟩ := hrel
                        obtain ⟨wc', hwc'⟩ : ∃ x : World, x = wr := ⟨_, rfl⟩
                        subst hwc'
                        have HNQ := Lib.hid hnq
                        have HBQC := Lib.hid hbq
                        have HXC := Lib.hid (HXB.out.next hbq)
                        have HRC := Lib.hid (HRB.out.next hbq)
                        have HFC := Lib.hid (HFB.out.next hRB hbq)
                        have HNC := Lib.hid (HNB.out.next hbq)
                        have HGC := Lib.hid (StrsAt.next HGB.out hbq)
                        have HYC := Lib.hid (HYB.out.next hbq)
                        have HQC := Lib.hid (SlAt.imp HQB.out fun _ _ _ _ => PaAt.mono (cw_next hbq))
                        have HVC := Lib.hid (StrsAt.next HVB.out hbq)
                        have HBC := Lib.hid (HBB.out.trans (hbq.mono HBB.out.size))
                        have HBRC := Lib.hid (HBRB.out.trans (hbq.mono HBRB.out.size))
                        have hRC : R < wc'.heap.size := by have := hbq.size; omega
                        have HIC := Lib.hid (SlAt.imp HIB.out fun _ _ _ _ => ItAt.mono (cw_next hbq))
                        clear hnq hbq
                        by_cases hlq : q < PT.length
                        · have hlq' : (q : Int) < (PT.length : Int) := by omega
                          have h0q : (0 : Int) ≤ (q : Int) := by omega
                          obtain ⟨gi, oi, hvi, hfi⟩ := its6_at HIC.out hlq
                          cases hvi
                          have hsd : (saidS PT[q].s).length ≤ 1000000 := by
                            have h1 : PT[q].s ∈ stsOf f1 := by rw [← HPART.out]; exact List.mem_map.2 ⟨_, List.getElem_mem hlq, rfl⟩
                            have := HRS.out _ h1
                            omega
                          obtain ⟨t, ht⟩ : ∃ t, Hid (PT[q] = t) := ⟨_, Lib.hid rfl⟩
                          rw [ht.out] at hfi hsd
                          obtain ⟨la, ka, aa, ta, ea, lc, kc, ac, tc, ec, hce, hha, hok, j1, j2, j3, j4, j5, j6⟩ := it_open hfi
                          have HCE := Lib.hid hce
                          have HHA := Lib.hid hha
                          have HSD := Lib.hid hsd
                          have HOK := Lib.hid hok
                          clear hfi hce hha hsd hok j1 j2 j4 j5 j6
                          have HIN := Lib.hid (World.size_alloc wc' (.cells #[.int .i64 0, .int .i64 0, .slice none 0 0, .string ⟨#[]⟩, .string ⟨#[]⟩, .int .i64 0, .int .i64 0, .string ⟨#[]⟩, .slice none 0 0, .bool false, .slice none 0 0, .slice none 0 0, .slice none 0 0, .int .i64 0, .int .i64 0, .bool false] 76))
                          have HI0 : Hid (BoxAt (wc'.alloc (.cells #[.int .i64 0, .int .i64 0, .slice none 0 0, .string ⟨#[]⟩, .string ⟨#[]⟩, .int .i64 0, .int .i64 0, .string ⟨#[]⟩, .slice none 0 0, .bool false, .slice none 0 0, .slice none 0 0, .slice none 0 0, .int .i64 0, .int .i64 0, .bool false] 76)) wc'.heap.size [.int .i64 0, .int .i64 0, .slice none 0 0, .string ⟨#[]⟩, .string ⟨#[]⟩, .int .i64 0, .int .i64 0, .string ⟨#[]⟩, .slice none 0 0, .bool false, .slice none 0 0, .slice none 0 0, .slice none 0 0, .int .i64 0, .int .i64 0, .bool false]) := Lib.hid (box_new wc' #[.int .i64 0, .int .i64 0, .slice none 0 0, .string ⟨#[]⟩, .string ⟨#[]⟩, .int .i64 0, .int .i64 0, .string ⟨#[]⟩, .slice none 0 0, .bool false, .slice none 0 0, .slice none 0 0, .slice none 0 0, .int .i64 0, .int .i64 0, .bool false] 76)
                          have HF0 : Hid (Free (wc'.alloc (.cells #[.int .i64 0, .int .i64 0, .slice none 0 0, .string ⟨#[]⟩, .string ⟨#[]⟩, .int .i64 0, .int .i64 0, .string ⟨#[]⟩, .slice none 0 0, .bool false, .slice none 0 0, .slice none 0 0, .slice none 0 0, .int .i64 0, .int .i64 0, .bool false] 76)) wc'.heap.size) := Lib.hid (fun j => by simp [go_sem])
                          have hzi := HIN.out
                          go_upto_region 20 with (first | refine wpList_load_mid rfl 76 (.tmp 78) rfl gi (oi + q * 16) rfl [.int .i64 t.s.id, .int .i64 t.s.kind, .slice la t.s.labels.length lc, .string t.s.nm, .string t.s.proc, .int .i64 t.s.x.op, .int .i64 t.s.x.n, .string t.s.x.nm, .slice ka t.s.x.ks.length kc, .bool t.s.has, .slice aa t.s.args.length ac, .slice ta t.s.thn.length tc, .slice ea t.s.els.length ec, .int .i64 t.deep, .int .i64 t.inn, .bool t.els] _ (fun j v hv => HCE.out j v hv) Try.underlying76 rfl (by kernel_rfl) ?_ | refine wpList_store_mid rfl 76 (.tmp 11) (.tmp 79) rfl wc'.heap.size 0 #[.int .i64 t.s.id, .int .i64 t.s.kind, .slice la t.s.labels.length lc, .string t.s.nm, .string t.s.proc, .int .i64 t.s.x.op, .int .i64 t.s.x.n, .string t.s.x.nm, .slice ka t.s.x.ks.length kc, .bool t.s.has, .slice aa t.s.args.length ac, .slice ta t.s.thn.length tc, .slice ea t.s.els.length ec, .int .i64 t.deep, .int .i64 t.inn, .bool t.els] rfl rfl (box_there (n := 16) HI0.out HF0.out (by simp)) (by kernel_rfl) (by simp [Value.oneCell']) ?_)
                          refine cut_world (fun wx => Below wc'.heap.size wc' wx ∧ BoxAt wx wc'.heap.size [.int .i64 t.s.id, .int .i64 t.s.kind, .slice la t.s.labels.length lc, .string t.s.nm, .string t.s.proc, .int .i64 t.s.x.op, .int .i64 t.s.x.n, .string t.s.x.nm, .slice ka t.s.x.ks.length kc, .bool t.s.has, .slice aa t.s.args.length ac, .slice ta t.s.thn.length tc, .slice ea t.s.els.length ec, .int .i64 t.deep, .int .i64 t.inn, .bool t.els]) ⟨setCells_below _ _ (boxed wc' _) (Nat.le_refl _), box_over (old := [.int .i64 0, .int .i64 0, .slice none 0 0, .string ⟨#[]⟩, .string ⟨#[]⟩, .int .i64 0, .int .i64 0, .string ⟨#[]⟩, .slice none 0 0, .bool false, .slice none 0 0, .slice none 0 0, .slice none 0 0, .int .i64 0, .int .i64 0, .bool false]) (xs := [.int .i64 t.s.id, .int .i64 t.s.kind, .slice la t.s.labels.length lc, .string t.s.nm, .string t.s.proc, .int .i64 t.s.x.op, .int .i64 t.s.x.n, .string t.s.x.nm, .slice ka t.s.x.ks.length kc, .bool t.s.has, .slice aa t.s.args.length ac, .slice ta t.s.thn.length tc, .slice ea t.s.els.length ec, .int .i64 t.deep, .int .i64 t.inn, .bool t.els]) (rest := []) HI0.out HF0.out rfl⟩ ?_
                          clear hzi HIN HI0 HF0
                          rintro wd ⟨hbd, htd⟩
                          have HTD := Lib.hid htd
                          have HXD := Lib.hid (HXC.out.next hbd)
                          have HRD := Lib.hid (HRC.out.next hbd)
                          have HFD := Lib.hid (HFC.out.next hRC hbd)
                          have HND := Lib.hid (HNC.out.next hbd)
                          have HGD := Lib.hid (StrsAt.next HGC.out hbd)
                          have HYD := Lib.hid (HYC.out.next hbd)
                          have HQD := Lib.hid (SlAt.imp HQC.out fun _ _ _ _ => PaAt.mono (cw_next hbd))
                          have HVD := Lib.hid (StrsAt.next HVC.out hbd)
                          have HBD := Lib.hid (HBC.out.trans (hbd.mono HBC.out.size))
                          have HBRD := Lib.hid (HBRC.out.trans (hbd.mono HBRC.out.size))
                          have hRD : R < wd.heap.size := by have := hbd.size; omega
                          have HBQD := Lib.hid (HBQC.out.trans (hbd.mono HBQC.out.size))
                          have HHD := Lib.hid (HHA.out wd (cw_next hbd))
                          clear hbd htd
                          go_wp2_with (refine wpList_load_mid rfl 41 (.tmp 80) rfl wc'.heap.size 0 rfl [.int .i64 t.s.id, .int .i64 t.s.kind, .slice la t.s.labels.length lc, .string t.s.nm, .string t.s.proc, .int .i64 t.s.x.op, .int .i64 t.s.x.n, .string t.s.x.nm, .slice ka t.s.x.ks.length kc, .bool t.s.has, .slice aa t.s.args.length ac, .slice ta t.s.thn.length tc, .slice ea t.s.els.length ec] _ (fun j v hv => by rw [Nat.zero_add]; exact HTD.out j v (by rw [← hv]; exact List.getElem?_append_left (l₁ := ([.int .i64 t.s.id, .int .i64 t.s.kind, .slice la t.s.labels.length lc, .string t.s.nm, .string t.s.proc, .int .i64 t.s.x.op, .int .i64 t.s.x.n, .string t.s.x.nm, .slice ka t.s.x.ks.length kc, .bool t.s.has, .slice aa t.s.args.length ac, .slice ta t.s.thn.length tc, .slice ea t.s.els.length ec] : List Value)) (l₂ := [.int .i64 t.deep, .int .i64 t.inn, .bool t.els]) (List.getElem?_eq_some_iff.1 hv).1)) Try.underlying41 rfl (by kernel_rfl) ?_)
                          refine (rsaid_any d t.s la ka aa ta ea lc kc ac tc ec _ HHD.out HOK.out j3 HSD.out).mono ?_
                          rintro e we ⟨nv, rfl, hse, hbe⟩
                          obtain ⟨LS, hLS⟩ : ∃ L, Hid (saidS t.s = L) := ⟨_, Lib.hid rfl⟩
                          rw [hLS.out] at hse HSD
                          have hsdl := HSD.out
                          have HSE := Lib.hid (hse.strs (by omega))
                          obtain ⟨sa, sc, rfl⟩ := ownsForm hse.1
                          have HXE := Lib.hid (HXD.out.next hbe)
                          have HRE := Lib.hid (HRD.out.next hbe)
                          have HFE := Lib.hid (HFD.out.next hRD hbe)
                          have HNE := Lib.hid (HND.out.next hbe)
                          have HGE := Lib.hid (StrsAt.next HGD.out hbe)
                          have HYE := Lib.hid (HYD.out.next hbe)
                          have HQE := Lib.hid (SlAt.imp HQD.out fun _ _ _ _ => PaAt.mono (cw_next hbe))
                          have HVE := Lib.hid (StrsAt.next HVD.out hbe)
                          have HBE := Lib.hid (HBD.out.trans (hbe.mono HBD.out.size))
                          have HBRE := Lib.hid (HBRD.out.trans (hbe.mono HBRD.out.size))
                          have hRE : R < we.heap.size := by have := hbe.size; omega
                          have HBQE := Lib.hid (HBQD.out.trans (hbe.mono HBQD.out.size))
                          have HTE := Lib.hid (HTD.out.next hbe)
                          clear hse hbe
                          go_wp2_with fail
                          obtain ⟨WE, hWE⟩ : ∃ x : World, x = we := ⟨_, rfl⟩
                          subst hWE
                          go_loopw [84] (fun i wr => ∃ r : Nat, r ≤ LS.length ∧ i = .int .i64 r ∧ (∀ j (hj : j < LS.length), j < r → kindP p.globals f1 LS[j] ≠ 0) ∧ Below WE.heap.size WE wr) (fun i _ => (LS.length - intOf i).toNat)
                          case atStart => exact ⟨0, by omega, rfl, fun j _ h => absurd h (by omega), Below.refl _ _⟩
                          case round =>
                            obtain ⟨r, hr, rfl, hnr, hbr⟩ := hrel
                            obtain ⟨wg, hwg⟩ : ∃ x : World, x = wr := ⟨_, rfl⟩
                            subst hwg
                            have HNR := Lib.hid hnr
                            have HSG := Lib.hid (HSE.out.next hbr)
                            have HBRG := Lib.hid hbr
                            have HXG := Lib.hid (HXE.out.next hbr)
                            have HRG := Lib.hid (HRE.out.next hbr)
                            have HFG := Lib.hid (HFE.out.next hRE hbr)
                            have HNG := Lib.hid (HNE.out.next hbr)
                            have HGG := Lib.hid (StrsAt.next HGE.out hbr)
                            have HYG := Lib.hid (HYE.out.next hbr)
                            have HQG := Lib.hid (SlAt.imp HQE.out fun _ _ _ _ => PaAt.mono (cw_next hbr))
                            have HVG := Lib.hid (StrsAt.next HVE.out hbr)
                            have HBG := Lib.hid (HBE.out.trans (hbr.mono HBE.out.size))
                            have hRG : R < wg.heap.size := by have := hbr.size; omega
                            have HBQG := Lib.hid (HBQE.out.trans (hbr.mono HBQE.out.size))
                            have HTG := Lib.hid (HTE.out.next hbr)
                            clear hnr hbr
                            by_cases hlr : r < LS.length
                            · have hlr' : (r : Int) < (LS.length : Int) := by omega
                              have h0r : (0 : Int) ≤ (r : Int) := by omega
                              have hne : LS ≠ [] := by intro h; rw [h] at hlr; simp at hlr
                              obtain ⟨gs, os, caps, hvs, hcs⟩ := HSG.out.cells hne
                              simp only [Value.slice.injEq] at hvs
                              obtain ⟨rfl, -, rfl⟩ := hvs
                              obtain ⟨-, c0⟩ := hcs r hlr
                              clear hcs hne
                              obtain ⟨n, hn⟩ : ∃ n, Hid (LS[r] = n) := ⟨_, Lib.hid rfl⟩
                              rw [hn.out] at c0
                              have x0 := HXG.out 0 _ rfl
                              have x1 := HXG.out 1 _ rfl
                              have y0 := HYG.out 0 _ rfl
                              have y1 := HYG.out 1 _ rfl
                              have y2 := HYG.out 2 _ rfl
                              have y3 := HYG.out 3 _ rfl
                              have y4 := HYG.out 4 _ rfl
                              go_wp2_with fail
                              refine (rkind_any p.globals f1 n _ _ a11 a21 a31 a41 c11 c21 c31 c41 _ HGG.out HQG.out HVG.out).mono ?_
                              rintro e wh ⟨rfl, hbh⟩
                              obtain ⟨KI, hKI⟩ : ∃ k, Hid (kindP p.globals f1 n = k) := ⟨_, Lib.hid rfl⟩
                              rw [hKI.out]
                              clear x0 x1 y0 y1 y2 y3 y4 c0
                              have HRH := Lib.hid (HRG.out.next hbh)
                              have HFH := Lib.hid (HFG.out.next hRG hbh)
                              have HBH := Lib.hid (HBG.out.trans (hbh.mono HBG.out.size))
                              have hRH : R < wh.heap.size := by have := hbh.size; omega
                              have HBQH := Lib.hid (HBQG.out.trans (hbh.mono HBQG.out.size))
                              have HTH := Lib.hid (HTG.out.next hbh)
                              have HBRH := Lib.hid (HBRG.out.trans (hbh.mono HBRG.out.size))
                              clear hbh
                              by_cases hki : KI = 0
                              · have hkb : (KI == 0) = true := by simpa using hki
                                have hsl : r < (saidS t.s).length := by rw [hLS.out]; exact hlr
                                have e1 : (saidS t.s)[r] = LS[r] := by simp only [hLS.out]
                                have hkn : knownS p.globals f1 PN t.s = false := known_no hsl (by rw [e1, hn.out, hKI.out]; exact hki)
                                clear e1
                                have hsts : (stsOf f1)[q]? = some t.s := by rw [← HPART.out, List.getElem?_map, List.getElem?_eq_getElem hlq, ht.out]; rfl
                                obtain ⟨hq2, hq3⟩ := List.getElem?_eq_some_iff.1 hsts
                                have hpc : pcFault p.globals PN f1 = some t.s.id := by
                                  rw [← hq3]
                                  refine pc_st HOWN1.out HOWN2.out hq2 (fun j hj hjq => ?_) (by rw [hq3]; exact hkn)
                                  have h4 := HNQ.out j (by omega) hjq
                                  have h5 : (stsOf f1)[j]? = some PT[j].s := by rw [← HPART.out, List.getElem?_map, List.getElem?_eq_getElem (by omega)]; rfl
                                  obtain ⟨h6, h7⟩ := List.getElem?_eq_some_iff.1 h5
                                  rw [h7]; exact h4
                                have HPC := Lib.hid hpc
                                clear hsts hq2 hq3 hpc
                                clear hki hkn hsl
                                have ht0 := HTH.out 0 _ rfl
                                go_wp2_with fail
                                refine (fault_any (5) (t.s.id) _).mono ?_
                                rintro e wz ⟨rfl, hbz⟩
                                have HRz := Lib.hid (HRH.out.next hbz)
                                have HFz := Lib.hid (HFH.out.next hRH hbz)
                                have HBz := Lib.hid (HBH.out.trans (hbz.mono HBH.out.size))
                                clear hbz
                                have r0 := HRz.out 0 _ rfl
                                have r1 := HRz.out 1 _ rfl
                                have f0 := HFz.out 0
                                have f1 := HFz.out 1
                                go_wp2_with fail
                                have hq := box2 (x0 := .int .i64 5) (x1 := .int .i64 t.s.id) HRz.out
                                have q0 := hq 0 _ rfl
                                have q1 := hq 1 _ rfl
                                refine bodyPost_ret (v := .agg #[.int .i64 5, .int .i64 t.s.id]) (by simp [results, Try.results39, go_sem, q0, q1]) rfl ?_
                                exact ⟨by rw [← hRR.out, scope_at hm1.out HHF.out hlt (fun j hj hjk => by rw [hPN.out]; exact HNO.out j hj hjk) (by rw [hf1.out, hPN.out]; exact HPC.out)], below2 HBz.out (by omega)⟩
                              · have hkb : (KI == 0) = false := by simpa using hki
                                have HKI0 := Lib.hid hki
                                clear hki
                                go_wp2_with fail
                                go_roundw
                                case rel =>
                                  refine ⟨r + 1, by omega, by go_num, fun j hj hjk => ?_, HBRH.out⟩
                                  rcases Nat.lt_or_ge j r with h | h
                                  · exact HNR.out j hj h
                                  · obtain rfl : j = r := by omega
                                    rw [hn.out, hKI.out]; exact HKI0.out
                                case measure => simp [intOf]; omega
                            · have hlr' : ¬ (r : Int) < (LS.length : Int) := by omega
                              have hke : ∀ k (hk : k < (saidS t.s).length), kindP p.globals f1 (saidS t.s)[k] ≠ 0 := by simp only [hLS.out]; exact fun k hk => HNR.out k hk (by omega)
                              have hkc := known_call (g := p.globals) (procs := PN) (f := f1) (s := t.s) hke
                              clear hke
                              have HKC := Lib.hid hkc
                              obtain ⟨B1, hB1⟩ : ∃ b, Hid ((t.s.kind == 4) = b) := ⟨_, Lib.hid rfl⟩
                              obtain ⟨B2, hB2⟩ : ∃ b, Hid ((t.s.proc.toList == sMain.toList) = b) := ⟨_, Lib.hid rfl⟩
                              obtain ⟨B3, hB3⟩ : ∃ b, Hid (inB t.s.proc PN = b) := ⟨_, Lib.hid rfl⟩
                              rw [hB1.out, hB2.out, hB3.out] at HKC
                              have ht0 := HTG.out 0 _ rfl
                              have ht1 := HTG.out 1 _ rfl
                              have ht4 := HTG.out 4 _ rfl
                              have hb1 := hB1.out
                              have hb2 : (t.s.proc.toList == [109, 97, 105, 110]) = B2 := by rw [← main_list]; exact hB2.out
                              clear hkc
                              cases B1 with
                              | false =>
                                go_wp2_with fail
                                go_roundw
                                case rel =>
                                  refine ⟨q + 1, by omega, by go_num, fun j hj hjk => ?_, HBQG.out⟩
                                  rcases Nat.lt_or_ge j q with h | h
                                  · exact HNQ.out j hj h
                                  · obtain rfl : j = q := by omega
                                    rw [ht.out]; exact HKC.out
                                case measure => simp [intOf]; omega
                              | true =>
                                cases B2 with
                                | true =>
                                  have hkn : knownS p.globals f1 PN t.s = false := HKC.out
                                  have hsts : (stsOf f1)[q]? = some t.s := by rw [← HPART.out, List.getElem?_map, List.getElem?_eq_getElem hlq, ht.out]; rfl
                                  obtain ⟨hq2, hq3⟩ := List.getElem?_eq_some_iff.1 hsts
                                  have hpc : pcFault p.globals PN f1 = some t.s.id := by
                                    rw [← hq3]
                                    refine pc_st HOWN1.out HOWN2.out hq2 (fun j hj hjq => ?_) (by rw [hq3]; exact hkn)
                                    have h4 := HNQ.out j (by omega) hjq
                                    have h5 : (stsOf f1)[j]? = some PT[j].s := by rw [← HPART.out, List.getElem?_map, List.getElem?_eq_getElem (by omega)]; rfl
                                    obtain ⟨h6, h7⟩ := List.getElem?_eq_some_iff.1 h5
                                    rw [h7]; exact h4
                                  have HPC := Lib.hid hpc
                                  clear hsts hq2 hq3 hpc
                                  clear hkn
                                  go_wp2_with fail
                                  refine (fault_any (5) (t.s.id) _).mono ?_
                                  rintro e wz ⟨rfl, hbz⟩
                                  have HRz := Lib.hid (HRG.out.next hbz)
                                  have HFz := Lib.hid (HFG.out.next hRG hbz)
                                  have HBz := Lib.hid (HBG.out.trans (hbz.mono HBG.out.size))
                                  clear hbz
                                  have r0 := HRz.out 0 _ rfl
                                  have r1 := HRz.out 1 _ rfl
                                  have f0 := HFz.out 0
                                  have f1 := HFz.out 1
                                  go_wp2_with fail
                                  have hq := box2 (x0 := .int .i64 5) (x1 := .int .i64 t.s.id) HRz.out
                                  have q0 := hq 0 _ rfl
                                  have q1 := hq 1 _ rfl
                                  refine bodyPost_ret (v := .agg #[.int .i64 5, .int .i64 t.s.id]) (by simp [results, Try.results39, go_sem, q0, q1]) rfl ?_
                                  exact ⟨by rw [← hRR.out, scope_at hm1.out HHF.out hlt (fun j hj hjk => by rw [hPN.out]; exact HNO.out j hj hjk) (by rw [hf1.out, hPN.out]; exact HPC.out)], below2 HBz.out (by omega)⟩
                                | false =>
                                  go_wp2_with fail
                                  refine (in_any PN _ t.s.proc _ HNG.out).mono ?_
                                  rintro e w' ⟨rfl, rfl⟩
                                  rw [show (at_ t.s.proc PN).isSome = B3 from hB3.out]
                                  cases B3 with
                                  | true =>
                                    go_wp2_with fail
                                    go_roundw
                                    case rel =>
                                      refine ⟨q + 1, by omega, by go_num, fun j hj hjk => ?_, HBQG.out⟩
                                      rcases Nat.lt_or_ge j q with h | h
                                      · exact HNQ.out j hj h
                                      · obtain rfl : j = q := by omega
                                        rw [ht.out]; exact HKC.out
                                    case measure => simp [intOf]; omega
                                  | false =>
                                    have hkn : knownS p.globals f1 PN t.s = false := HKC.out
                                    have hsts : (stsOf f1)[q]? = some t.s := by rw [← HPART.out, List.getElem?_map, List.getElem?_eq_getElem hlq, ht.out]; rfl
                                    obtain ⟨hq2, hq3⟩ := List.getElem?_eq_some_iff.1 hsts
                                    have hpc : pcFault p.globals PN f1 = some t.s.id := by
                                      rw [← hq3]
                                      refine pc_st HOWN1.out HOWN2.out hq2 (fun j hj hjq => ?_) (by rw [hq3]; exact hkn)
                                      have h4 := HNQ.out j (by omega) hjq
                                      have h5 : (stsOf f1)[j]? = some PT[j].s := by rw [← HPART.out, List.getElem?_map, List.getElem?_eq_getElem (by omega)]; rfl
                                      obtain ⟨h6, h7⟩ := List.getElem?_eq_some_iff.1 h5
                                      rw [h7]; exact h4
                                    have HPC := Lib.hid hpc
                                    clear hsts hq2 hq3 hpc
                                    clear hkn
                                    go_wp2_with fail
                                    refine (fault_any (5) (t.s.id) _).mono ?_
                                    rintro e wz ⟨rfl, hbz⟩
                                    have HRz := Lib.hid (HRG.out.next hbz)
                                    have HFz := Lib.hid (HFG.out.next hRG hbz)
                                    have HBz := Lib.hid (HBG.out.trans (hbz.mono HBG.out.size))
                                    clear hbz
                                    have r0 := HRz.out 0 _ rfl
                                    have r1 := HRz.out 1 _ rfl
                                    have f0 := HFz.out 0
                                    have f1 := HFz.out 1
                                    go_wp2_with fail
                                    have hq := box2 (x0 := .int .i64 5) (x1 := .int .i64 t.s.id) HRz.out
                                    have q0 := hq 0 _ rfl
                                    have q1 := hq 1 _ rfl
                                    refine bodyPost_ret (v := .agg #[.int .i64 5, .int .i64 t.s.id]) (by simp [results, Try.results39, go_sem, q0, q1]) rfl ?_
                                    exact ⟨by rw [← hRR.out, scope_at hm1.out HHF.out hlt (fun j hj hjk => by rw [hPN.out]; exact HNO.out j hj hjk) (by rw [hf1.out, hPN.out]; exact HPC.out)], below2 HBz.out (by omega)⟩
                        · have hlq' : ¬ (q : Int) < (PT.length : Int) := by omega
                          have hpc : pcFault p.globals PN f1 = none := by
                            refine pc_ok HOWN1.out HOWN2.out fun j hj => ?_
                            have hlen : (stsOf f1).length = PT.length := by rw [← HPART.out, List.length_map]
                            have h4 := HNQ.out j (by omega) (by omega)
                            have h5 : (stsOf f1)[j]? = some PT[j].s := by rw [← HPART.out, List.getElem?_map, List.getElem?_eq_getElem (by omega)]; rfl
                            obtain ⟨h6, h7⟩ := List.getElem?_eq_some_iff.1 h5
                            rw [h7]; exact h4
                          have HPC := Lib.hid hpc
                          clear hpc
                          go_wp2_with fail
                          go_roundw
                          case rel =>
                            refine ⟨k + 1, by omega, by go_num, fun j hj hjk => ?_, HBRC.out⟩
                            rcases Nat.lt_or_ge j k with h | h
                            · exact HNO.out j hj h
                            · obtain rfl : j = k := by omega
                              rw [hf1.out]; exact HPC.out
                          case measure => simp [intOf]; omega
                  · have hlt' : ¬ (k : Int) < (p.procs.length : Int) := by omega
                    have hok : scopeP p = (0, 0) := scope_ok hm1.out HHF.out (fun j hj => by rw [hPN.out]; exact HNO.out j hj (by omega))
                    have HOK := Lib.hid hok
                    clear hok
                    have r0 := HR8.out 0 _ rfl
                    have r1 := HR8.out 1 _ rfl
                    have f0 := HF8.out 0
                    have f1 := HF8.out 1
                    go_wp2_with fail
                    have hq := box2 (x0 := .int .i64 0) (x1 := .int .i64 0) HR8.out
                    have q0 := hq 0 _ rfl
                    have q1 := hq 1 _ rfl
                    refine bodyPost_ret (v := .agg #[.int .i64 0, .int .i64 0]) (by simp [results, Try.results39, go_sem, q0, q1]) rfl ?_
                    exact ⟨by rw [← hRR.out, HOK.out], below2 HB8.out (by omega)⟩
end Go.Proofs.Ytghlmengcidmdaa.Tr
