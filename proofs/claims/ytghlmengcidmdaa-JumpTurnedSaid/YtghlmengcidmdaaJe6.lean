/- Parts of JumpTurnedW: walks and plain laws that later texts use. Conditions: as each statement says. -/
import Derived.Test.YtghlmengcidmdaaJa0
import Derived.Test.YtghlmengcidmdaaJa1
import Derived.Test.YtghlmengcidmdaaJa10
import Derived.Test.YtghlmengcidmdaaJa11
import Derived.Test.YtghlmengcidmdaaJa12
import Derived.Test.YtghlmengcidmdaaJa13
import Derived.Test.YtghlmengcidmdaaJa14
import Derived.Test.YtghlmengcidmdaaJa15
import Derived.Test.YtghlmengcidmdaaJa16
import Derived.Test.YtghlmengcidmdaaJa17
import Derived.Test.YtghlmengcidmdaaJa18
import Derived.Test.YtghlmengcidmdaaJa19
import Derived.Test.YtghlmengcidmdaaJa2
import Derived.Test.YtghlmengcidmdaaJa20
import Derived.Test.YtghlmengcidmdaaJa21
import Derived.Test.YtghlmengcidmdaaJa3
import Derived.Test.YtghlmengcidmdaaJa4
import Derived.Test.YtghlmengcidmdaaJa5
import Derived.Test.YtghlmengcidmdaaJa6
import Derived.Test.YtghlmengcidmdaaJa7
import Derived.Test.YtghlmengcidmdaaJa8
import Derived.Test.YtghlmengcidmdaaJa9
import Derived.Test.YtghlmengcidmdaaJe0
import Derived.Test.YtghlmengcidmdaaJe1
import Derived.Test.YtghlmengcidmdaaJe2
import Derived.Test.YtghlmengcidmdaaJe3
import Derived.Test.YtghlmengcidmdaaJe4
import Derived.Test.YtghlmengcidmdaaJe5
import Derived.Deep.DeepCutAuto
import Derived.Maps.Range
import Derived.Outline
import Derived.Lib.SmallJoins
import Derived.Deep.Upon
import Derived.Maps.AppendAt
import Derived.Laws.OwnMore
import Derived.Deep.QuietTactic
import Derived.BigQuiet
import Derived.RegionTactic
import Derived.Laws.StructEq
import Derived.Deep.RegionLaw
import Derived.Deep.RegionHeld3
import Derived.Deep.Slices
import Derived.Deep.Fields
import Derived.SliceStrings
import Derived.ChangeSlices
import Derived.IntWalk
import Derived.Deep.MidRow
import Derived.Deep.RegionWith
import Derived.Laws.Cover3
import Derived.Deep.AppendLies
import Derived.WalkKit
import Derived.Test.YtghlmengcidmdaaRows
import Derived.WalkSpells
import Derived.Lib.Hide
import Derived.Below
import Derived.WalkSmall
import Derived.OwnWalk
import Derived.OneCell
import Derived.Deep.CutBlock
import Derived.Laws.BitsAllLaws
import Derived.OrdersHeld
import Derived.StillTailTactics
/- The law JumpTurned, walked: it returns true. Conditions: the arguments lie in memory. -/
namespace Go.Proofs.Ytghlmengcidmdaa.Tr
open Go.RowKit Go.Proofs.Ytghlmengcidmdaa.Lx Go.Proofs.Ytghlmengcidmdaa.Wd
set_option linter.unusedSimpArgs false
/-- A statement's box at TB, what hangs on it. -/
def TurnedAt (d TB : Nat) (w wx : World) (t : St) : Prop := ∃ (la ka aa ta ea : Option Addr) (lc kc ac tc ec : Nat), BoxAt wx TB [.int .i64 t.id, .int .i64 t.kind, .slice la t.labels.length lc, .string t.nm, .string t.proc, .int .i64 t.x.op, .int .i64 t.x.n, .string t.x.nm, .slice ka t.x.ks.length kc, .bool t.has, .slice aa t.args.length ac, .slice ta t.thn.length tc, .slice ea t.els.length ec] ∧ Hang (d + 1) wx t (.slice la t.labels.length lc) (.slice ka t.x.ks.length kc) (.slice aa t.args.length ac) (.slice ta t.thn.length tc) (.slice ea t.els.length ec) ∧ Below w.heap.size w wx
theorem turnJ_ok {m : Int} {name : ByteArray} {s : St} (hok : OkE s.x) (h1 : InI s.id) (h2 : InI s.kind) (h3 : s.nm.size ≤ 9223372036854775807) (h4 : s.proc.size ≤ 9223372036854775807) (hn : name.size ≤ 9223372036854775807) :
    OkE (turnJ m name s).x ∧ InI (turnJ m name s).id ∧ InI (turnJ m name s).kind ∧ (turnJ m name s).nm.size ≤ 9223372036854775807 ∧ (turnJ m name s).proc.size ≤ 9223372036854775807 := by
  have h0 : noT.size ≤ 9223372036854775807 := by decide
  unfold turnJ
  split
  · refine ⟨zOk, h1, ?_, h0, h0⟩
    show -9223372036854775808 ≤ 7 + s.kind % 2 ∧ 7 + s.kind % 2 ≤ 9223372036854775807
    omega
  · split
    · exact ⟨hok, h1, h2, h3, h4⟩
    · exact ⟨zOk, h1, (by decide : (-9223372036854775808 : Int) ≤ 10 ∧ (10 : Int) ≤ 9223372036854775807), hn, h0⟩
theorem put8_any (D : Nat) (t : St) (hok : OkE t.x) (h1 : InI t.id) (h2 : InI t.kind) (h3 : t.nm.size ≤ 9223372036854775807) (h4 : t.proc.size ≤ 9223372036854775807) (hl : LightS t) (la ka aa ta ea : Option Addr) (lc kc ac tc ec : Nat)
    (d : Nat) (p : Pr) (gv pv : Value) (w : World) (hp : PrC (cw w) d gv pv p) (hwp : wtPr p ≤ 20000) (hh : Hang D w t (.slice la t.labels.length lc) (.slice ka t.x.ks.length kc) (.slice aa t.args.length ac) (.slice ta t.thn.length tc) (.slice ea t.els.length ec)) :
    Calls Try.prog 29 #[.agg #[gv, pv], .agg #[.int .i64 t.id, .int .i64 t.kind, .slice la t.labels.length lc, .string t.nm, .string t.proc, .int .i64 t.x.op, .int .i64 t.x.n, .string t.x.nm, .slice ka t.x.ks.length kc, .bool t.has, .slice aa t.args.length ac, .slice ta t.thn.length tc, .slice ea t.els.length ec]] w (ProgMade (d + D) (putPr t p) w) := putP_any D t hok h1 h2 h3 h4 hl ka la aa ta ea kc lc ac tc ec d p gv pv w hp hwp hh
set_option maxHeartbeats 8000000 in
set_option maxRecDepth 100000 in
theorem law_jumpTurned {w : World} (d : Nat) (p : Pr) (gv pv : Value) (hp : PrC (cw w) d gv pv p) (n : Int) (hn0 : (Lit.int .i64 n).wf = true) (k : Int) (hk0 : (Lit.int .i64 k).wf = true) (name : ByteArray) (hs0 : name.size ≤ 9223372036854775807) :
    Calls Try.prog 13 #[.agg #[gv, pv], .int .i64 n, .int .i64 k, .string name] w fun e w' => e = .returned (.bool true) ∧ Below w.heap.size w w' := by
  obtain ⟨ga, gc, rfl, -, -⟩ := hp.1.form
  obtain ⟨pa, pc, rfl, hpl1, hpl2⟩ := hp.2.form
  have hpl : p.procs.length ≤ 9223372036854775807 := Nat.le_trans hpl1 hpl2
  have HP := Lib.hid hp
  clear hp hpl1 hpl2
  have hn : InI n := wf_in hn0
  have HKI := Lib.hid (wf_in hk0)
  have HSN := Lib.hid hs0
  clear hn0 hk0 hs0
  go_enter Try.func13, Try.ntmps13
  go_upto_region 1 with fail
  refine cut_world (fun wx => Below w.heap.size w wx ∧ BoxAt wx w.heap.size [.slice ga p.globals.length gc, .slice pa p.procs.length pc]) ⟨boxed _ _, box_new w #[.slice ga p.globals.length gc, .slice pa p.procs.length pc] 25⟩ ?_
  rintro w1 ⟨hb1, hx1⟩
  have HB1 := Lib.hid hb1
  have HX1 := Lib.hid hx1
  have HP1 := Lib.hid (PrC.mono (cw_next hb1) HP.out)
  clear hb1 hx1
  have p0 := HX1.out 0 _ rfl
  have p1 := HX1.out 1 _ rfl
  go_wp2_with fail
  refine (jumping_any _).mono ?_
  rintro e w2 ⟨rfl, hb2⟩
  have HX2 := Lib.hid (HX1.out.next hb2)
  have HP2 := Lib.hid (PrC.mono (cw_next hb2) HP1.out)
  have HB2 := Lib.hid (HB1.out.trans (hb2.mono HB1.out.size))
  clear hb2
  clear p0 p1
  have p0 := HX2.out 0 _ rfl
  have p1 := HX2.out 1 _ rfl
  go_wp2_with fail
  refine (fits_any d p _ _ _ HP2.out).mono ?_
  rintro e w3 ⟨b1, hf1, rfl, hb3⟩
  have HF1 := Lib.hid hf1
  clear hf1
  have HX3 := Lib.hid (HX2.out.next hb3)
  have HP3 := Lib.hid (PrC.mono (cw_next hb3) HP2.out)
  have HB3 := Lib.hid (HB2.out.trans (hb3.mono HB2.out.size))
  clear hb3
  clear p0 p1
  cases b1 with
  | false =>
    have p0 := HX3.out 0 _ rfl
    have p1 := HX3.out 1 _ rfl
    go_wp2_with fail
    go_ret
    exact ⟨rfl, HB3.out⟩
  | true =>
    have HWP := Lib.hid (HF1.out (by simp))
    have HROOM := Lib.hid (RoomP.of (Nat.le_trans HWP.out (by decide)))
    clear HF1
    have p0 := HX3.out 0 _ rfl
    have p1 := HX3.out 1 _ rfl
    go_wp2_with fail
    refine (scheck_any d p _ _ _ HP3.out HROOM.out).mono ?_
    rintro e w4 ⟨rfl, hb4⟩
    obtain ⟨SC, hSC⟩ : ∃ r, Hid ((scopeP p).1 = r) := ⟨_, Lib.hid rfl⟩
    obtain ⟨SI, hSI⟩ : ∃ r, Hid ((scopeP p).2 = r) := ⟨_, Lib.hid rfl⟩
    rw [hSC.out, hSI.out]
    have HX4 := Lib.hid (HX3.out.next hb4)
    have HP4 := Lib.hid (PrC.mono (cw_next hb4) HP3.out)
    have HB4 := Lib.hid (HB3.out.trans (hb4.mono HB3.out.size))
    clear hb4
    clear p0 p1
    have hfd := run_code SC SI
    by_cases hz : SC = 0
    · have hz1 : (SC == 0) = true := by simpa using hz
      have hz2 : (SC != 0) = false := by rw [bne, hz1]; rfl
      have HWELL := Lib.hid (hSC.out.trans hz)
      have HMAY := Lib.hid (scope_code HWELL.out).1
      clear hz
      have p0 := HX4.out 0 _ rfl
      have p1 := HX4.out 1 _ rfl
      go_wp2_with fail
      refine (jcheck_any d p _ _ _ HP4.out HROOM.out).mono ?_
      rintro e w5 ⟨rfl, hb5⟩
      obtain ⟨JC, hJC⟩ : ∃ r, Hid ((jumpP p).1 = r) := ⟨_, Lib.hid rfl⟩
      obtain ⟨JI, hJI⟩ : ∃ r, Hid ((jumpP p).2 = r) := ⟨_, Lib.hid rfl⟩
      rw [hJC.out, hJI.out]
      have hfj := run_code JC JI
      have HX5 := Lib.hid (HX4.out.next hb5)
      have HP5 := Lib.hid (PrC.mono (cw_next hb5) HP4.out)
      have HB5 := Lib.hid (HB4.out.trans (hb5.mono HB4.out.size))
      clear hb5 p0 p1 hz1 hz2 hfd
      by_cases hj : JC = 0
      · have hj1 : (JC == 0) = true := by simpa using hj
        have hj2 : (JC != 0) = false := by rw [bne, hj1]; rfl
        have HJW := Lib.hid (hJC.out.trans hj)
        clear hj
        go_wp2_with fail
        refine (show Calls Try.prog 57 #[.agg #[.int .i64 2, .int .i64 0, .string name, .slice none 0 0]] _ _ from mayExpr_any 1 (eName name) (.slice none 0 0) _ (okName name HSN.out) (ExK.none 0 _)).mono ?_
        rintro e w6 ⟨rfl, hb6⟩
        rw [name_may]
        have HX6 := Lib.hid (HX5.out.next hb6)
        have HP6 := Lib.hid (PrC.mono (cw_next hb6) HP5.out)
        have HB6 := Lib.hid (HB5.out.trans (hb6.mono HB5.out.size))
        clear hb6 hj1 hj2 hfj
        cases hnm : isName (bl name) with
        | true =>
          have HNM := Lib.hid hnm
          clear hnm
          go_upto_region 7 with fail
          have HP6 := Lib.hid (PrC.le6 (show d ≤ d + 1 by omega) HP6.out)
          have p0 := HX6.out 0 _ rfl
          have p1 := HX6.out 1 _ rfl
          go_wp2_with fail
          refine (ids_any (d + 1) p _ _ 0 _ HP6.out).mono ?_
          rintro e w7 ⟨v7, rfl, hr7, hb7⟩
          have HR7 := Lib.hid hr7
          have hlen : (idsP p 0).length ≤ 1000000 := Nat.le_trans (idsK_len _ _) (Nat.le_trans (allOf_len p) (by omega))
          clear hr7
          have HX7 := Lib.hid (HX6.out.next hb7)
          have HP7 := Lib.hid (PrC.mono (cw_next hb7) HP6.out)
          have HB7 := Lib.hid (HB6.out.trans (hb7.mono HB6.out.size))
          clear hb7
          clear p0 p1
          go_wp2_with fail
          refine (pick_any _ (idsP p 0) _ n _ HR7.out hn.1 hn.2 hlen).mono ?_
          rintro e w8 ⟨rfl, hb8⟩
          obtain ⟨ID, hID⟩ : ∃ k, Hid (pickP (idsP p 0) n = k) := ⟨_, Lib.hid rfl⟩
          rw [hID.out]
          have HX8 := Lib.hid (HX7.out.next hb8)
          have HP8 := Lib.hid (PrC.mono (cw_next hb8) HP7.out)
          have HB8 := Lib.hid (HB7.out.trans (hb8.mono HB7.out.size))
          clear hb8 hlen
          by_cases hz : ID = 0
          · have hz1 : (ID == 0) = true := by simpa using hz
            clear hz
            go_wp2_with fail
            go_ret
            exact ⟨rfl, HB8.out⟩
          · have hz1 : (ID == 0) = false := by simpa using hz
            obtain ⟨s, kp, hpk, -⟩ := picked HMAY.out (kind := 0) (n := n) (by rw [hID.out]; exact hz)
            rw [hID.out] at hpk
            have HPK := Lib.hid hpk
            clear hz hpk
            go_upto_region 10 with fail
            have p0 := HX8.out 0 _ rfl
            have p1 := HX8.out 1 _ rfl
            go_wp2_with fail
            refine (stmt6_any d p _ _ ID _ HP8.out).mono ?_
            rintro e w9 ⟨la, ka, aa, ta, ea, lc, kc, ac, tc, ec, rfl, hh9, hok9, i1, i2, i3, i4, hb9⟩
            rw [HPK.out.it.1] at hh9 hok9 i1 i2 i3 i4
            rw [HPK.out.it.1]
            have HH9 := Lib.hid hh9
            have HOK := Lib.hid hok9
            have HJ := Lib.hid (And.intro i1 (And.intro i2 (And.intro i3 i4)))
            have HIID : Hid (InI ID) := Lib.hid (by have h := i1; rwa [HPK.out.id] at h)
            clear hh9 hok9 i1 i2 i3 i4
            have HX9 := Lib.hid (HX8.out.next hb9)
            have HP9 := Lib.hid (PrC.mono (cw_next hb9) HP8.out)
            have HB9 := Lib.hid (HB8.out.trans (hb9.mono HB8.out.size))
            clear hb9
            clear p0 p1
            go_upto_region 11 with fail
            refine cut_world (fun wx => Below w9.heap.size w9 wx ∧ BoxAt wx w9.heap.size [.int .i64 s.id, .int .i64 s.kind, .slice la s.labels.length lc, .string s.nm, .string s.proc, .int .i64 s.x.op, .int .i64 s.x.n, .string s.x.nm, .slice ka s.x.ks.length kc, .bool s.has, .slice aa s.args.length ac, .slice ta s.thn.length tc, .slice ea s.els.length ec] ∧ Free wx w9.heap.size) ⟨boxed w9 _, box_new w9 #[.int .i64 s.id, .int .i64 s.kind, .slice la s.labels.length lc, .string s.nm, .string s.proc, .int .i64 s.x.op, .int .i64 s.x.n, .string s.x.nm, .slice ka s.x.ks.length kc, .bool s.has, .slice aa s.args.length ac, .slice ta s.thn.length tc, .slice ea s.els.length ec] 41, fun j => by simp [go_sem]⟩ ?_
            rintro w10 ⟨hb10, ht10, hf10⟩
            obtain ⟨SB, hSB⟩ : ∃ b, Hid (w9.heap.size = b) := ⟨_, Lib.hid rfl⟩
            rw [hSB.out] at ht10 hf10
            try rw [hSB.out]
            have hsw : w.heap.size < SB := by rw [← hSB.out]; exact (cell_lt (HX9.out 0 _ rfl))
            have hs10 : SB < w10.heap.size := cell_lt (ht10 0 _ rfl)
            have HT10 := Lib.hid ht10
            have HF10 := Lib.hid hf10
            have HH10 := Lib.hid (HH9.out.next hb10)
            have HX10 := Lib.hid (HX9.out.next hb10)
            have HP10 := Lib.hid (PrC.mono (cw_next hb10) HP9.out)
            have HB10 := Lib.hid (HB9.out.trans (hb10.mono HB9.out.size))
            clear hb10 ht10 hf10
            have p0 := HX10.out 0 _ rfl
            have p1 := HX10.out 1 _ rfl
            go_wp2_with fail
            refine (procOf6_any d p _ _ ID _ HP10.out).mono ?_
            rintro e w11 ⟨rfl, hb11⟩
            have HT11 := Lib.hid (HT10.out.next hb11)
            have HH11 := Lib.hid (HH10.out.next hb11)
            obtain ⟨NM, hNM⟩ : ∃ k, Hid (nm6 p ID = k) := ⟨_, Lib.hid rfl⟩
            rw [hNM.out]
            have HX11 := Lib.hid (HX10.out.next hb11)
            have HP11 := Lib.hid (PrC.mono (cw_next hb11) HP10.out)
            have HB11 := Lib.hid (HB10.out.trans (hb11.mono HB10.out.size))
            clear hb11
            clear p0 p1
            have p0 := HX11.out 0 _ rfl
            have p1 := HX11.out 1 _ rfl
            go_wp2_with fail
            refine (jat_any (d + 1) p _ _ NM name _ HP11.out HROOM.out).mono ?_
            rintro e w12 ⟨rfl, hb12⟩
            have HT12 := Lib.hid (HT11.out.next hb12)
            have HH12 := Lib.hid (HH11.out.next hb12)
            obtain ⟨A1, hA1⟩ : ∃ k, Hid ((jatP p NM name).1 = k) := ⟨_, Lib.hid rfl⟩
            obtain ⟨A2, hA2⟩ : ∃ k, Hid ((jatP p NM name).2 = k) := ⟨_, Lib.hid rfl⟩
            rw [hA1.out, hA2.out]
            have HX12 := Lib.hid (HX11.out.next hb12)
            have HP12 := Lib.hid (PrC.mono (cw_next hb12) HP11.out)
            have HB12 := Lib.hid (HB11.out.trans (hb12.mono HB11.out.size))
            clear hb12
            clear p0 p1
            have p0 := HX12.out 0 _ rfl
            have p1 := HX12.out 1 _ rfl
            go_wp2_with fail
            refine (jloop_any (d + 1) p _ _ ID _ HP12.out HROOM.out HIID.out).mono ?_
            rintro e w13 ⟨rfl, hb13⟩
            have HT13 := Lib.hid (HT12.out.next hb13)
            have HH13 := Lib.hid (HH12.out.next hb13)
            obtain ⟨LP, hLP⟩ : ∃ k, Hid (jloopP p ID = k) := ⟨_, Lib.hid rfl⟩
            rw [hLP.out]
            have HX13 := Lib.hid (HX12.out.next hb13)
            have HP13 := Lib.hid (PrC.mono (cw_next hb13) HP12.out)
            have HB13 := Lib.hid (HB12.out.trans (hb13.mono HB12.out.size))
            clear hb13
            clear p0 p1
            have t2 := HT13.out 2 _ rfl
            go_upto_region 15 with fail
            refine cut_world (fun wx => Below w13.heap.size w13 wx ∧ BoxAt wx w13.heap.size [.int .i64 ID, .int .i64 10, .slice la s.labels.length lc, .string name, .string ⟨#[]⟩, .int .i64 0, .int .i64 0, .string ⟨#[]⟩, .slice none 0 0, .bool false, .slice none 0 0, .slice none 0 0, .slice none 0 0] ∧ Free wx w13.heap.size) ⟨boxed w13 _, box_new w13 #[.int .i64 ID, .int .i64 10, .slice la s.labels.length lc, .string name, .string ⟨#[]⟩, .int .i64 0, .int .i64 0, .string ⟨#[]⟩, .slice none 0 0, .bool false, .slice none 0 0, .slice none 0 0, .slice none 0 0] 41, fun j => by simp [go_sem]⟩ ?_
            rintro w14 ⟨hb14, hu14, hf14⟩
            obtain ⟨TB, hTB⟩ : ∃ b, Hid (w13.heap.size = b) := ⟨_, Lib.hid rfl⟩
            rw [hTB.out] at hu14 hf14
            try rw [hTB.out]
            have hst : SB < TB := by rw [← hTB.out]; exact (cell_lt (HT13.out 0 _ rfl))
            have hs14 : TB < w14.heap.size := cell_lt (hu14 0 _ rfl)
            have HU14 := Lib.hid hu14
            have HW14 := Lib.hid hb14
            have HV14 := Lib.hid hf14
            have HT14 := Lib.hid (HT13.out.next hb14)
            have HH14 := Lib.hid (HH13.out.next hb14)
            have HX14 := Lib.hid (HX13.out.next hb14)
            have HP14 := Lib.hid (PrC.mono (cw_next hb14) HP13.out)
            have HB14 := Lib.hid (HB13.out.trans (hb14.mono HB13.out.size))
            clear hb14 hu14 hf14 t2
            obtain ⟨K3, hK3⟩ : ∃ r, Hid (k % 3 = r) := ⟨_, Lib.hid rfl⟩
            have hk30 : 0 ≤ K3 := by rw [← hK3.out]; omega
            have hk33 : K3 < 3 := by rw [← hK3.out]; omega
            have HM := Lib.hid (fun w => mod_any k 3 K3 w HKI.out.1 HKI.out.2 (by omega) (by omega) hK3.out)
            go_upto_block 0 with (refine (HM.out _).mono ?_; rintro e w' ⟨rfl, rfl⟩)
            have HSID := Lib.hid HPK.out.id
            go_cut [13] (fun v wx => v = .bool (thereJ p K3 name s) ∧ TurnedAt d TB w13 wx (turnJ K3 name s))
            case first =>
              have hq : Below w14.heap.size w14 w14.drew := (Below.refl _ _).drew
              have hne : TB ≠ SB := by omega
              have HUD := Lib.hid (HU14.out.next hq)
              have HVD := Lib.hid (HV14.out.next hs14 hq)
              have HTD := Lib.hid (HT14.out.next hq)
              have HWD := Lib.hid (HW14.out.drew)
              by_cases hk1 : K3 = 1
              · have hk1' : (K3 == 1) = true := by simpa using hk1
                obtain ⟨K2, hK2⟩ : ∃ r, Hid (s.kind % 2 = r) := ⟨_, Lib.hid rfl⟩
                have hk20 : 0 ≤ K2 := by rw [← hK2.out]; omega
                have hk21 : K2 < 2 := by rw [← hK2.out]; omega
                have HM2 := Lib.hid (fun w => mod_any s.kind 2 K2 w HJ.out.2.1.1 HJ.out.2.1.2 (by omega) (by omega) hK2.out)
                have hadd : IntKind.i64.wrap (7 + K2) = 7 + K2 := IntWalk.i64_in _ (by omega)
                have hth : thereJ p K3 name s = !(LP == 0) := by
                  unfold thereJ
                  rw [if_pos hk1, HSID.out, hLP.out]
                have htj : turnJ K3 name s = .mk s.id (7 + K2) s.labels noT noT eNone false [] [] [] := by
                  unfold turnJ
                  rw [if_pos hk1, hK2.out]
                have HTH := Lib.hid hth
                have HTJ := Lib.hid htj
                clear hk1 hth htj
                go_upto_region 17 with fail
                refine wp_region_z (fun w' => BoxAt w' SB [.int .i64 s.id, .int .i64 s.kind, .slice la s.labels.length lc, .string s.nm, .string s.proc, .int .i64 s.x.op, .int .i64 s.x.n, .string s.x.nm, .slice ka s.x.ks.length kc, .bool s.has, .slice aa s.args.length ac, .slice ta s.thn.length tc, .slice ea s.els.length ec]) 10 (by kernel_rfl) HTD.out (fun hS => ?_)
                show wpAnyZ _ _ _ _ _ _ 11 #[false, false, false, false, false, false, false, false, false, false, false] _ _
                refine' wpAnyZ_take (i := 0) (oi := _) (v := _) rfl (by kernel_rfl) (by kernel_rfl) (by kernel_rfl) (by kernel_rfl) (fun _ _ _ h => h) (Or.inl ⟨by rfl, ?hye0⟩) hS ?reste0
                case hye0 => (intro w hSw; clear hSw; go_simp; (try with_reducible rfl))
                try simp only [Act.put, List.getElem_toArray, List.getElem_cons_succ, List.getElem_cons_zero, List.setIfInBounds_toArray, List.set_cons_zero, List.set_cons_succ]
                refine' wpAnyZ_take (i := 1) (oi := _) (v := _) rfl (by kernel_rfl) (by kernel_rfl) (by kernel_rfl) (by kernel_rfl) (fun _ _ _ h => h) (Or.inl ⟨by rfl, ?hye1⟩) hS ?reste1
                case hye1 => (intro w hSw; clear hSw; go_simp; (try with_reducible rfl))
                try simp only [Act.put, List.getElem_toArray, List.getElem_cons_succ, List.getElem_cons_zero, List.setIfInBounds_toArray, List.set_cons_zero, List.set_cons_succ]
                refine' wpAnyZ_take (i := 2) (oi := _) (v := _) rfl (by kernel_rfl) (by kernel_rfl) (by kernel_rfl) (by kernel_rfl) (fun _ _ _ h => h) (Or.inl ⟨by rfl, ?hye2⟩) hS ?reste2
                case hye2 => (intro w hSw; have c1 := hSw 1 _ rfl; clear hSw; go_simp; (try with_reducible rfl))
                try simp only [Act.put, List.getElem_toArray, List.getElem_cons_succ, List.getElem_cons_zero, List.setIfInBounds_toArray, List.set_cons_zero, List.set_cons_succ]
                refine' wpAnyZ_take (i := 5) (oi := _) (v := _) rfl (by kernel_rfl) (by kernel_rfl) (by kernel_rfl) (by kernel_rfl) (fun _ _ _ h => h) (Or.inl ⟨by rfl, ?hye5⟩) hS ?reste5
                case hye5 => (intro w hSw; clear hSw; go_simp; (try with_reducible rfl))
                try simp only [Act.put, List.getElem_toArray, List.getElem_cons_succ, List.getElem_cons_zero, List.setIfInBounds_toArray, List.set_cons_zero, List.set_cons_succ]
                refine' wpAnyZ_take (i := 6) (oi := _) (v := _) rfl (by kernel_rfl) (by kernel_rfl) (by kernel_rfl) (by kernel_rfl) (fun _ _ _ h => h) (Or.inl ⟨by rfl, ?hye6⟩) hS ?reste6
                case hye6 => (intro w hSw; have c2 := hSw 2 _ rfl; clear hSw; go_simp; (try with_reducible rfl))
                try simp only [Act.put, List.getElem_toArray, List.getElem_cons_succ, List.getElem_cons_zero, List.setIfInBounds_toArray, List.set_cons_zero, List.set_cons_succ]
                refine' wpAnyZ_take (i := 8) (oi := _) (v := _) rfl (by kernel_rfl) (by kernel_rfl) (by kernel_rfl) (by kernel_rfl) (fun _ _ _ h => h) (Or.inl ⟨by rfl, ?hye8⟩) hS ?reste8
                case hye8 => (intro w hSw; clear hSw; go_simp; (try with_reducible rfl))
                try simp only [Act.put, List.getElem_toArray, List.getElem_cons_succ, List.getElem_cons_zero, List.setIfInBounds_toArray, List.set_cons_zero, List.set_cons_succ]
                refine' wpAnyZ_step (i := 3) (o := _) rfl (by kernel_rfl) (fun K hK => ?_)
                go_simp
                go_at_call 28
                refine (HM2.out _).mono ?_
                rintro e w' ⟨rfl, rfl⟩
                refine hK _ _ (fun _ => hS) ?_
                clear hK K
                try simp only [Act.put, List.getElem_toArray, List.getElem_cons_succ, List.getElem_cons_zero, List.setIfInBounds_toArray, List.set_cons_zero, List.set_cons_succ]
                refine' wpAnyZ_take (i := 4) (oi := _) (v := _) rfl (by kernel_rfl) (by kernel_rfl) (by kernel_rfl) (by kernel_rfl) (fun _ _ _ h => h) (Or.inl ⟨by rfl, ?hye4⟩) hS ?reste4
                case hye4 => (intro w hSw; clear hSw; go_simp; (try with_reducible rfl))
                try simp only [Act.put, List.getElem_toArray, List.getElem_cons_succ, List.getElem_cons_zero, List.setIfInBounds_toArray, List.set_cons_zero, List.set_cons_succ]
                refine' wpAnyZ_take (i := 7) (oi := _) (v := .agg #[.int .i64 ID, .int .i64 (7 + K2), .slice la s.labels.length lc, .string ⟨#[]⟩, .string ⟨#[]⟩, .int .i64 0, .int .i64 0, .string ⟨#[]⟩, .slice none 0 0, .bool false, .slice none 0 0, .slice none 0 0, .slice none 0 0]) rfl (by kernel_rfl) (by kernel_rfl) (by kernel_rfl) (by kernel_rfl) (fun _ _ _ h => h) (Or.inl ⟨by rfl, ?hye7⟩) hS ?reste7
                case hye7 => (intro w hSw; clear hSw; go_simp; (try with_reducible rfl))
                try simp only [Act.put, List.getElem_toArray, List.getElem_cons_succ, List.getElem_cons_zero, List.setIfInBounds_toArray, List.set_cons_zero, List.set_cons_succ]
                refine' wpAnyZ_step (i := 9) (o := _) rfl (by kernel_rfl) (fun K hK => ?_)
                rw [if_pos (by rfl)]
                refine wp_store_mid 41 (.tmp 16) (.tmp 80) rfl TB 0 #[.int .i64 ID, .int .i64 (7 + K2), .slice la s.labels.length lc, .string ⟨#[]⟩, .string ⟨#[]⟩, .int .i64 0, .int .i64 0, .string ⟨#[]⟩, .slice none 0 0, .bool false, .slice none 0 0, .slice none 0 0, .slice none 0 0] rfl rfl (box_there (n := 13) HUD.out HVD.out (by simp)) (by kernel_rfl) (by simp [Value.oneCell']) ?_
                have hS8 : BoxAt (World.setCells w14.drew TB 0 [.int .i64 ID, .int .i64 (7 + K2), .slice la s.labels.length lc, .string ⟨#[]⟩, .string ⟨#[]⟩, .int .i64 0, .int .i64 0, .string ⟨#[]⟩, .slice none 0 0, .bool false, .slice none 0 0, .slice none 0 0, .slice none 0 0]) SB [.int .i64 s.id, .int .i64 s.kind, .slice la s.labels.length lc, .string s.nm, .string s.proc, .int .i64 s.x.op, .int .i64 s.x.n, .string s.x.nm, .slice ka s.x.ks.length kc, .bool s.has, .slice aa s.args.length ac, .slice ta s.thn.length tc, .slice ea s.els.length ec] := setCells_box HTD.out hne
                refine hK _ _ (fun _ => hS8) ?_
                clear hK K
                try simp only [Act.put, List.getElem_toArray, List.getElem_cons_succ, List.getElem_cons_zero, List.setIfInBounds_toArray, List.set_cons_zero, List.set_cons_succ]
                refine' wpAnyZ_step (i := 10) (o := _) rfl (by kernel_rfl) (fun K hK => ?_)
                go_simp
                refine hK _ _ (fun h => absurd rfl h) ?_
                clear hK K
                try simp only [Act.put, List.getElem_toArray, List.getElem_cons_succ, List.getElem_cons_zero, List.setIfInBounds_toArray, List.set_cons_zero, List.set_cons_succ]
                refine wpAnyZ_done (by kernel_rfl) ?_ _
                have HBX : Hid (BoxAt (World.setCells w14.drew TB 0 [.int .i64 ID, .int .i64 (7 + K2), .slice la s.labels.length lc, .string ⟨#[]⟩, .string ⟨#[]⟩, .int .i64 0, .int .i64 0, .string ⟨#[]⟩, .slice none 0 0, .bool false, .slice none 0 0, .slice none 0 0, .slice none 0 0]) TB [.int .i64 ID, .int .i64 (7 + K2), .slice la s.labels.length lc, .string ⟨#[]⟩, .string ⟨#[]⟩, .int .i64 0, .int .i64 0, .string ⟨#[]⟩, .slice none 0 0, .bool false, .slice none 0 0, .slice none 0 0, .slice none 0 0]) := Lib.hid (box_over (old := [.int .i64 ID, .int .i64 10, .slice la s.labels.length lc, .string name, .string ⟨#[]⟩, .int .i64 0, .int .i64 0, .string ⟨#[]⟩, .slice none 0 0, .bool false, .slice none 0 0, .slice none 0 0, .slice none 0 0]) (xs := [.int .i64 ID, .int .i64 (7 + K2), .slice la s.labels.length lc, .string ⟨#[]⟩, .string ⟨#[]⟩, .int .i64 0, .int .i64 0, .string ⟨#[]⟩, .slice none 0 0, .bool false, .slice none 0 0, .slice none 0 0, .slice none 0 0]) (rest := []) HUD.out HVD.out rfl)
                have HBW := Lib.hid (setCells_below (g := TB) [.int .i64 ID, .int .i64 (7 + K2), .slice la s.labels.length lc, .string ⟨#[]⟩, .string ⟨#[]⟩, .int .i64 0, .int .i64 0, .string ⟨#[]⟩, .slice none 0 0, .bool false, .slice none 0 0, .slice none 0 0, .slice none 0 0] 0 HWD.out (by rw [hTB.out]; exact Nat.le_refl _))
                clear hS hS8 hadd
                go_wp2_with fail
                go_meet
                rw [HTJ.out]
                refine ⟨by rw [HTH.out], la, none, none, none, none, lc, 0, 0, 0, 0, ?_, ?_, HBW.out⟩
                · show BoxAt _ TB [.int .i64 s.id, .int .i64 (7 + K2), .slice la s.labels.length lc, .string ⟨#[]⟩, .string ⟨#[]⟩, .int .i64 0, .int .i64 0, .string ⟨#[]⟩, .slice none 0 0, .bool false, .slice none 0 0, .slice none 0 0, .slice none 0 0]
                  rw [HSID.out]
                  exact HBX.out
                · exact ⟨(HH13.out.next HBW.out).lab, ExC.none _ _, SlAt.nil, SlAt.nil, SlAt.nil⟩
              · have hk1' : (K3 == 1) = false := by simpa using hk1
                by_cases hk2 : K3 = 2
                · have hk2' : (K3 == 2) = true := by simpa using hk2
                  obtain ⟨i0, hi, hz0, hz1, hz2⟩ := info_parts infoStr
                  have hth : thereJ p K3 name s = decide (s.labels.length = 0) := by
                    unfold thereJ
                    rw [if_neg hk1, if_pos hk2]
                  have hln : ((s.labels.length : Int) == 0) = decide (s.labels.length = 0) := by
                    by_cases h : s.labels.length = 0 <;> simp [h]
                  have hlm : s.labels.length ≤ 20000 := by have h1 := wtTs_len s.labels; have h3 := picked_wt HWP.out HPK.out; rw [wtS_eq] at h3; omega
                  have htj : turnJ K3 name s = .mk s.id s.kind (s.labels ++ s.labels) s.nm s.proc s.x s.has s.args s.thn s.els := by
                    unfold turnJ
                    rw [if_neg hk1, if_pos hk2]
                  have HTH := Lib.hid hth
                  have HTJ := Lib.hid htj
                  obtain ⟨LZ, hLZ⟩ : ∃ b, Hid (decide (s.labels.length = 0) = b) := ⟨_, Lib.hid rfl⟩
                  rw [hLZ.out] at hln
                  clear hk1 hk2 hth htj
                  go_upto_region 19 with fail
                  refine wp_region_z (fun w' => BoxAt w' SB [.int .i64 s.id, .int .i64 s.kind, .slice la s.labels.length lc, .string s.nm, .string s.proc, .int .i64 s.x.op, .int .i64 s.x.n, .string s.x.nm, .slice ka s.x.ks.length kc, .bool s.has, .slice aa s.args.length ac, .slice ta s.thn.length tc, .slice ea s.els.length ec]) 6 (by kernel_rfl) HTD.out (fun hS => ?_)
                  show wpAnyZ _ _ _ _ _ _ 7 #[false, false, false, false, false, false, false] _ _
                  refine' wpAnyZ_take (i := 0) (oi := _) (v := .agg #[.int .i64 s.id, .int .i64 s.kind, .slice la s.labels.length lc, .string s.nm, .string s.proc, .int .i64 s.x.op, .int .i64 s.x.n, .string s.x.nm, .slice ka s.x.ks.length kc, .bool s.has, .slice aa s.args.length ac, .slice ta s.thn.length tc, .slice ea s.els.length ec]) rfl (by kernel_rfl) (by kernel_rfl) (by kernel_rfl) (by kernel_rfl) (fun _ _ _ h => h) (yieldsIf_load_mid (by rfl) 41 (.tmp 10) rfl SB 0 (by rfl) [.int .i64 s.id, .int .i64 s.kind, .slice la s.labels.length lc, .string s.nm, .string s.proc, .int .i64 s.x.op, .int .i64 s.x.n, .string s.x.nm, .slice ka s.x.ks.length kc, .bool s.has, .slice aa s.args.length ac, .slice ta s.thn.length tc, .slice ea s.els.length ec] _ (fun w' hSw j v hv => by rw [Nat.zero_add]; exact hSw j v hv) Try.underlying41 rfl (by kernel_rfl)) hS ?restf0
                  try simp only [Act.put, List.getElem_toArray, List.getElem_cons_succ, List.getElem_cons_zero, List.setIfInBounds_toArray, List.set_cons_zero, List.set_cons_succ]
                  refine' wpAnyZ_take (i := 1) (oi := _) (v := _) rfl (by kernel_rfl) (by kernel_rfl) (by kernel_rfl) (by kernel_rfl) (fun _ _ _ h => h) (Or.inl ⟨by rfl, ?hyf1⟩) hS ?restf1
                  case hyf1 => (intro w hSw; clear hSw; go_simp; (try with_reducible rfl))
                  try simp only [Act.put, List.getElem_toArray, List.getElem_cons_succ, List.getElem_cons_zero, List.setIfInBounds_toArray, List.set_cons_zero, List.set_cons_succ]
                  refine' wpAnyZ_take (i := 2) (oi := _) (v := _) rfl (by kernel_rfl) (by kernel_rfl) (by kernel_rfl) (by kernel_rfl) (fun _ _ _ h => h) (Or.inl ⟨by rfl, ?hyf2⟩) hS ?restf2
                  case hyf2 => (intro w hSw; have c2 := hSw 2 _ rfl; clear hSw; go_simp; (try with_reducible rfl))
                  try simp only [Act.put, List.getElem_toArray, List.getElem_cons_succ, List.getElem_cons_zero, List.setIfInBounds_toArray, List.set_cons_zero, List.set_cons_succ]
                  refine' wpAnyZ_take (i := 3) (oi := _) (v := _) rfl (by kernel_rfl) (by kernel_rfl) (by kernel_rfl) (by kernel_rfl) (fun _ _ _ h => h) (Or.inl ⟨by rfl, ?hyf3⟩) hS ?restf3
                  case hyf3 => (intro w hSw; clear hSw; go_simp; (try with_reducible rfl))
                  try simp only [Act.put, List.getElem_toArray, List.getElem_cons_succ, List.getElem_cons_zero, List.setIfInBounds_toArray, List.set_cons_zero, List.set_cons_succ]
                  refine' wpAnyZ_take (i := 4) (oi := _) (v := _) rfl (by kernel_rfl) (by kernel_rfl) (by kernel_rfl) (by kernel_rfl) (fun _ _ _ h => h) (Or.inl ⟨by rfl, ?hyf4⟩) hS ?restf4
                  case hyf4 => (intro w hSw; clear hSw; go_simp; (try with_reducible rfl))
                  try simp only [Act.put, List.getElem_toArray, List.getElem_cons_succ, List.getElem_cons_zero, List.setIfInBounds_toArray, List.set_cons_zero, List.set_cons_succ]
                  refine' wpAnyZ_step (i := 5) (o := _) rfl (by kernel_rfl) (fun K hK => ?_)
                  rw [if_pos (by rfl)]
                  refine wp_store_mid 41 (.tmp 16) (.tmp 84) rfl TB 0 #[.int .i64 s.id, .int .i64 s.kind, .slice la s.labels.length lc, .string s.nm, .string s.proc, .int .i64 s.x.op, .int .i64 s.x.n, .string s.x.nm, .slice ka s.x.ks.length kc, .bool s.has, .slice aa s.args.length ac, .slice ta s.thn.length tc, .slice ea s.els.length ec] rfl rfl (box_there (n := 13) HUD.out HVD.out (by simp)) (by kernel_rfl) (by simp [Value.oneCell']) ?_
                  have hS8 : BoxAt (World.setCells w14.drew TB 0 [.int .i64 s.id, .int .i64 s.kind, .slice la s.labels.length lc, .string s.nm, .string s.proc, .int .i64 s.x.op, .int .i64 s.x.n, .string s.x.nm, .slice ka s.x.ks.length kc, .bool s.has, .slice aa s.args.length ac, .slice ta s.thn.length tc, .slice ea s.els.length ec]) SB [.int .i64 s.id, .int .i64 s.kind, .slice la s.labels.length lc, .string s.nm, .string s.proc, .int .i64 s.x.op, .int .i64 s.x.n, .string s.x.nm, .slice ka s.x.ks.length kc, .bool s.has, .slice aa s.args.length ac, .slice ta s.thn.length tc, .slice ea s.els.length ec] := setCells_box HTD.out hne
                  refine hK _ _ (fun _ => hS8) ?_
                  clear hK K
                  try simp only [Act.put, List.getElem_toArray, List.getElem_cons_succ, List.getElem_cons_zero, List.setIfInBounds_toArray, List.set_cons_zero, List.set_cons_succ]
                  refine' wpAnyZ_step (i := 6) (o := _) rfl (by kernel_rfl) (fun K hK => ?_)
                  go_simp
                  refine hK _ _ (fun h => absurd rfl h) ?_
                  clear hK K
                  try simp only [Act.put, List.getElem_toArray, List.getElem_cons_succ, List.getElem_cons_zero, List.setIfInBounds_toArray, List.set_cons_zero, List.set_cons_succ]
                  refine wpAnyZ_done (by kernel_rfl) ?_ _
                  clear hln
                  go_upto_region 20 with fail
                  have e1 : Below w13.heap.size w13 (World.setCells w14.drew TB 0 [.int .i64 s.id, .int .i64 s.kind, .slice la s.labels.length lc, .string s.nm, .string s.proc, .int .i64 s.x.op, .int .i64 s.x.n, .string s.x.nm, .slice ka s.x.ks.length kc, .bool s.has, .slice aa s.args.length ac, .slice ta s.thn.length tc, .slice ea s.els.length ec]) := setCells_below (g := TB) [.int .i64 s.id, .int .i64 s.kind, .slice la s.labels.length lc, .string s.nm, .string s.proc, .int .i64 s.x.op, .int .i64 s.x.n, .string s.x.nm, .slice ka s.x.ks.length kc, .bool s.has, .slice aa s.args.length ac, .slice ta s.thn.length tc, .slice ea s.els.length ec] 0 HWD.out (by rw [hTB.out]; exact Nat.le_refl _)
                  have e2 : BoxAt (World.setCells w14.drew TB 0 [.int .i64 s.id, .int .i64 s.kind, .slice la s.labels.length lc, .string s.nm, .string s.proc, .int .i64 s.x.op, .int .i64 s.x.n, .string s.x.nm, .slice ka s.x.ks.length kc, .bool s.has, .slice aa s.args.length ac, .slice ta s.thn.length tc, .slice ea s.els.length ec]) TB [.int .i64 s.id, .int .i64 s.kind, .slice la s.labels.length lc, .string s.nm, .string s.proc, .int .i64 s.x.op, .int .i64 s.x.n, .string s.x.nm, .slice ka s.x.ks.length kc, .bool s.has, .slice aa s.args.length ac, .slice ta s.thn.length tc, .slice ea s.els.length ec] := box_over (old := [.int .i64 ID, .int .i64 10, .slice la s.labels.length lc, .string name, .string ⟨#[]⟩, .int .i64 0, .int .i64 0, .string ⟨#[]⟩, .slice none 0 0, .bool false, .slice none 0 0, .slice none 0 0, .slice none 0 0]) (xs := [.int .i64 s.id, .int .i64 s.kind, .slice la s.labels.length lc, .string s.nm, .string s.proc, .int .i64 s.x.op, .int .i64 s.x.n, .string s.x.nm, .slice ka s.x.ks.length kc, .bool s.has, .slice aa s.args.length ac, .slice ta s.thn.length tc, .slice ea s.els.length ec]) (rest := []) HUD.out HVD.out rfl
                  have e3 : Free (World.setCells w14.drew TB 0 [.int .i64 s.id, .int .i64 s.kind, .slice la s.labels.length lc, .string s.nm, .string s.proc, .int .i64 s.x.op, .int .i64 s.x.n, .string s.x.nm, .slice ka s.x.ks.length kc, .bool s.has, .slice aa s.args.length ac, .slice ta s.thn.length tc, .slice ea s.els.length ec]) TB := setCells_free HVD.out
                  have e4 : TB < (World.setCells w14.drew TB 0 [.int .i64 s.id, .int .i64 s.kind, .slice la s.labels.length lc, .string s.nm, .string s.proc, .int .i64 s.x.op, .int .i64 s.x.n, .string s.x.nm, .slice ka s.x.ks.length kc, .bool s.has, .slice aa s.args.length ac, .slice ta s.thn.length tc, .slice ea s.els.length ec]).heap.size := by rw [setCells_size]; exact Nat.lt_of_lt_of_le hs14 hq.size
                  generalize hw15 : World.setCells w14.drew TB 0 [.int .i64 s.id, .int .i64 s.kind, .slice la s.labels.length lc, .string s.nm, .string s.proc, .int .i64 s.x.op, .int .i64 s.x.n, .string s.x.nm, .slice ka s.x.ks.length kc, .bool s.has, .slice aa s.args.length ac, .slice ta s.thn.length tc, .slice ea s.els.length ec] = w15 at e1 e2 e3 e4 hS8 ⊢
                  have hb15 := e1
                  have hs15 := hS8
                  have hu15 := e2
                  have hv15 := e3
                  have hl15 := e4
                  clear e1 e2 e3 e4 hw15
                  have HW15 := Lib.hid hb15
                  have HU15 := Lib.hid hu15
                  have HV15 := Lib.hid hv15
                  have hq5 : Below w15.heap.size w15 w15.drew := (Below.refl _ _).drew
                  have HBL := Lib.hid (below_then (boxed w15.drew (.cells #[] 9)) hq5)
                  have HSL := Lib.hid (hs15.next HBL.out)
                  have HN0 := Lib.hid (StrsAt.news (StrC.to ((HH13.out.next hb15).next HBL.out).lab))
                  have HFI := Lib.hid (StrsAt.all (StrC.to HH13.out.lab))
                  have hs15' := hs15.next hq5
                  have HS15 := Lib.hid hs15
                  clear hS hS8 hb15 hu15 hv15 hs15 HTD HUD HVD HWD hq
                  refine wp_region_z (fun w' => BoxAt w' SB [.int .i64 s.id, .int .i64 s.kind, .slice la s.labels.length lc, .string s.nm, .string s.proc, .int .i64 s.x.op, .int .i64 s.x.n, .string s.x.nm, .slice ka s.x.ks.length kc, .bool s.has, .slice aa s.args.length ac, .slice ta s.thn.length tc, .slice ea s.els.length ec]) 8 (by kernel_rfl) hs15' (fun hS => ?_)
                  show wpAnyZ _ _ _ _ _ _ 9 #[false, false, false, false, false, false, false, false, false] _ _
                  refine' wpAnyZ_take (i := 1) (oi := _) (v := _) rfl (by kernel_rfl) (by kernel_rfl) (by kernel_rfl) (by kernel_rfl) (fun _ _ _ h => h) (Or.inl ⟨by rfl, ?hyg1⟩) hS ?restg1
                  case hyg1 => (intro w hSw; clear hSw; go_simp; (try with_reducible rfl))
                  try simp only [Act.put, List.getElem_toArray, List.getElem_cons_succ, List.getElem_cons_zero, List.setIfInBounds_toArray, List.set_cons_zero, List.set_cons_succ]
                  refine' wpAnyZ_take (i := 2) (oi := _) (v := _) rfl (by kernel_rfl) (by kernel_rfl) (by kernel_rfl) (by kernel_rfl) (fun _ _ _ h => h) (Or.inl ⟨by rfl, ?hyg2⟩) hS ?restg2
                  case hyg2 => (intro w hSw; have c2 := hSw 2 _ rfl; clear hSw; go_simp; (try with_reducible rfl))
                  try simp only [Act.put, List.getElem_toArray, List.getElem_cons_succ, List.getElem_cons_zero, List.setIfInBounds_toArray, List.set_cons_zero, List.set_cons_succ]
                  refine' wpAnyZ_take (i := 4) (oi := _) (v := _) rfl (by kernel_rfl) (by kernel_rfl) (by kernel_rfl) (by kernel_rfl) (fun _ _ _ h => h) (Or.inl ⟨by rfl, ?hyg4⟩) hS ?restg4
                  case hyg4 => (intro w hSw; clear hSw; go_simp; (try with_reducible rfl))
                  try simp only [Act.put, List.getElem_toArray, List.getElem_cons_succ, List.getElem_cons_zero, List.setIfInBounds_toArray, List.set_cons_zero, List.set_cons_succ]
                  refine' wpAnyZ_take (i := 5) (oi := _) (v := _) rfl (by kernel_rfl) (by kernel_rfl) (by kernel_rfl) (by kernel_rfl) (fun _ _ _ h => h) (Or.inl ⟨by rfl, ?hyg5⟩) hS ?restg5
                  case hyg5 => (intro w hSw; have c2 := hSw 2 _ rfl; clear hSw; go_simp; (try with_reducible rfl))
                  try simp only [Act.put, List.getElem_toArray, List.getElem_cons_succ, List.getElem_cons_zero, List.setIfInBounds_toArray, List.set_cons_zero, List.set_cons_succ]
                  have hlit : (w15.drew.alloc (.cells #[] 9)).ownsRow w15.heap.size 9 1 (.slice (some ⟨w15.drew.heap.size, 0, none⟩) 0 0) 0 [] := World.ownsRow_lit w15.drew #[] 0 (by simp) (by decide) rfl
                  have HLIT := Lib.hid hlit
                  clear hlit
                  have hszL := HBL.out.size
                  refine' wpAnyZ_step (i := 0) (o := _) rfl (by kernel_rfl) (fun K hK => ?_)
                  go_simp
                  refine hK _ _ (fun _ => HSL.out) ?_
                  clear hK K
                  try simp only [Act.put, List.getElem_toArray, List.getElem_cons_succ, List.getElem_cons_zero, List.setIfInBounds_toArray, List.set_cons_zero, List.set_cons_succ]
                  refine' wpAnyZ_step (i := 3) (o := _) rfl (by kernel_rfl) (fun K hK => ?_)
                  refine step_append_sl _ (by rfl) (.tmp 89) (.tmp 91) 22 (by rfl) w15.heap.size 9 i0 (.string ⟨#[]⟩) 1 16 Try.underlying22 hi hz0 hz1 hz2 rfl (by decide) _ 0 ([]) (by rfl) HLIT.out la s.labels.length lc (s.labels.map Value.string) (by rfl) HN0.out.2.1 (by rw [List.length_map, Nat.mul_one]) HN0.out.2.2 (str_all _) (by unfold maxLen; omega) (by omega) (by first | omega | (simp; done) | (simp; omega)) ?_
                  intro va16 vc16 w16 hown16 hg16 hat16
                  have HB16 := Lib.hid (HBL.out.grown hg16 HBL.out.size (fun x hx => (HLIT.out.lt x hx).1))
                  rw [List.nil_append, Nat.zero_add] at hown16
                  try rw [Nat.zero_add]
                  have HR16 : Hid (RowS w15.heap.size w16 (.slice va16 s.labels.length vc16) s.labels) := Lib.hid ⟨hown16, HFI.out⟩
                  have hsz16 := HB16.out.size
                  have HS16 := Lib.hid (HS15.out.next HB16.out)
                  have HN1 := Lib.hid (StrsAt.news (StrC.to (((HH13.out.next HW15.out).next HB16.out)).lab))
                  refine hK _ _ (fun _ => HS16.out) ?_
                  clear hK K hown16 hg16 hat16
                  try simp only [Act.put, List.getElem_toArray, List.getElem_cons_succ, List.getElem_cons_zero, List.setIfInBounds_toArray, List.set_cons_zero, List.set_cons_succ]
                  refine' wpAnyZ_step (i := 6) (o := _) rfl (by kernel_rfl) (fun K hK => ?_)
                  refine step_append_sl _ (by rfl) (.tmp 92) (.tmp 94) 22 (by rfl) w15.heap.size 9 i0 (.string ⟨#[]⟩) 1 16 Try.underlying22 hi hz0 hz1 hz2 rfl (by decide) _ s.labels.length (s.labels.map Value.string) (by rfl) HR16.out.1 la s.labels.length lc (s.labels.map Value.string) (by rfl) HN1.out.2.1 (by rw [List.length_map, Nat.mul_one]) HN1.out.2.2 (str_all _) (by unfold maxLen; omega) (by omega) (by first | omega | (simp; done) | (simp; omega)) ?_
                  intro va17 vc17 w17 hown17 hg17 hat17
                  have HB17 := Lib.hid (HB16.out.grown hg17 HB16.out.size (fun x hx => (HR16.out.lt x hx).1))
                  have HR17 := Lib.hid (RowS.cat (l := s.labels) (m := s.labels) hown17 HFI.out HFI.out)
                  have HS17 := Lib.hid (HS15.out.next HB17.out)
                  refine hK _ _ (fun _ => HS17.out) ?_
                  clear hK K hown17 hg17 hat17
                  try simp only [Act.put, List.getElem_toArray, List.getElem_cons_succ, List.getElem_cons_zero, List.setIfInBounds_toArray, List.set_cons_zero, List.set_cons_succ]
                  refine' wpAnyZ_take (i := 7) (oi := _) (v := _) rfl (by kernel_rfl) (by kernel_rfl) (by kernel_rfl) (by kernel_rfl) (fun _ _ _ h => h) (Or.inl ⟨by rfl, ?hyg7⟩) HS17.out ?restg7
                  case hyg7 => (intro w hSw; clear hSw; go_simp; (try with_reducible rfl))
                  try simp only [Act.put, List.getElem_toArray, List.getElem_cons_succ, List.getElem_cons_zero, List.setIfInBounds_toArray, List.set_cons_zero, List.set_cons_succ]
                  have HU17 := Lib.hid (HU15.out.next HB17.out)
                  have HV17 := Lib.hid (HV15.out.next hl15 HB17.out)
                  have t2 := HU17.out 2 _ rfl
                  have f2 := HV17.out 2
                  have hsz17 := HB17.out.size
                  refine' wpAnyZ_step (i := 8) (o := _) rfl (by kernel_rfl) (fun K hK => ?_)
                  go_simp
                  refine hK _ _ (fun h => absurd rfl h) ?_
                  clear hK K
                  try simp only [Act.put, List.getElem_toArray, List.getElem_cons_succ, List.getElem_cons_zero, List.setIfInBounds_toArray, List.set_cons_zero, List.set_cons_succ]
                  refine wpAnyZ_done (by kernel_rfl) ?_ _
                  have hgo : s.labels.length + s.labels.length = (s.labels ++ s.labels).length := List.length_append.symm
                  have HBX : Hid (BoxAt (w17.setCell ⟨TB, 2, none⟩ (.slice va17 (s.labels.length + s.labels.length) vc17)) TB [.int .i64 s.id, .int .i64 s.kind, .slice va17 (s.labels.length + s.labels.length) vc17, .string s.nm, .string s.proc, .int .i64 s.x.op, .int .i64 s.x.n, .string s.x.nm, .slice ka s.x.ks.length kc, .bool s.has, .slice aa s.args.length ac, .slice ta s.thn.length tc, .slice ea s.els.length ec]) := Lib.hid (HU17.out.put (j := 2) (by simp))
                  have HBW := Lib.hid ((HW15.out.trans (HB17.out.mono HW15.out.size)).setCell (p := ⟨TB, 2, none⟩) (by rw [hTB.out]; exact Nat.le_refl _) (.slice va17 (s.labels.length + s.labels.length) vc17))
                  have HLS : Hid (StrC (cw (w17.setCell ⟨TB, 2, none⟩ (.slice va17 (s.labels.length + s.labels.length) vc17))) (.slice va17 (s.labels.length + s.labels.length) vc17) (s.labels ++ s.labels)) := Lib.hid (StrC.mono only_out (StrC.mono (only_set (b := TB) (by simp; omega)) (strs_owned HR17.out.1 rfl (by rw [List.length_append]; omega) HR17.out.2)))
                  have HHX := Lib.hid (HH13.out.next HBW.out)
                  clear hS t2 f2
                  go_wp2_with fail
                  go_meet
                  rw [HTJ.out]
                  refine ⟨by rw [HTH.out, hLZ.out], va17, ka, aa, ta, ea, vc17, kc, ac, tc, ec, ?_, ?_, HBW.out⟩
                  · show BoxAt _ TB [.int .i64 s.id, .int .i64 s.kind, .slice va17 (s.labels ++ s.labels).length vc17, .string s.nm, .string s.proc, .int .i64 s.x.op, .int .i64 s.x.n, .string s.x.nm, .slice ka s.x.ks.length kc, .bool s.has, .slice aa s.args.length ac, .slice ta s.thn.length tc, .slice ea s.els.length ec]
                    rw [← hgo]
                    exact HBX.out
                  · refine ⟨?_, HHX.out.kid, HHX.out.arg, HHX.out.thn, HHX.out.els⟩
                    show StrC _ (.slice va17 (s.labels ++ s.labels).length vc17) (s.labels ++ s.labels)
                    rw [← hgo]
                    exact HLS.out
                · have hk2' : (K3 == 2) = false := by simpa using hk2
                  have hth : thereJ p K3 name s = A2 := by
                    unfold thereJ
                    rw [if_neg hk1, if_neg hk2, HSID.out, hNM.out, hA2.out]
                  have htj : turnJ K3 name s = .mk s.id 10 s.labels name noT eNone false [] [] [] := by
                    unfold turnJ
                    rw [if_neg hk1, if_neg hk2]
                  have HTH := Lib.hid hth
                  have HTJ := Lib.hid htj
                  clear hk1 hk2 hth htj
                  go_wp2_with fail
                  go_meet
                  rw [HTJ.out]
                  refine ⟨by rw [HTH.out], la, none, none, none, none, lc, 0, 0, 0, 0, ?_, ?_, ?_⟩
                  · rw [← HSID.out] at HU14
                    exact HU14.out
                  · exact ⟨HH14.out.lab, ExC.none _ _, SlAt.nil, SlAt.nil, SlAt.nil⟩
                  · exact HW14.out
            case rest =>
              obtain ⟨hv13, hta⟩ := hcut
              subst hv13
              obtain ⟨TH, hTH⟩ : ∃ b, Hid (thereJ p K3 name s = b) := ⟨_, Lib.hid rfl⟩
              rw [hTH.out]
              obtain ⟨TJ, hTJ⟩ : ∃ t, Hid (turnJ K3 name s = t) := ⟨_, Lib.hid rfl⟩
              rw [hTJ.out] at hta
              obtain ⟨lb, kb, ab, tb, eb, ld, kd, ad, td, ed, hbx, hhg, hbw⟩ := hta
              have HTC := Lib.hid hbx
              have HHC := Lib.hid hhg
              have HSB := Lib.hid (HT13.out.next hbw)
              have HXC := Lib.hid (HX13.out.next hbw)
              have HPC := Lib.hid (PrC.mono (cw_next hbw) HP13.out)
              have HBC := Lib.hid (HB13.out.trans (hbw.mono HB13.out.size))
              clear hbx hhg hbw
              have y11 := HSB.out 11 _ rfl
              have y12 := HSB.out 12 _ rfl
              obtain ⟨LT, hLT⟩ : ∃ n, Hid (s.thn.length = n) := ⟨_, Lib.hid rfl⟩
              obtain ⟨LE, hLE⟩ : ∃ n, Hid (s.els.length = n) := ⟨_, Lib.hid rfl⟩
              rw [hLT.out] at y11
              rw [hLE.out] at y12
              by_cases h1 : 0 < LT
              · go_wp2_with fail
                go_ret
                exact ⟨rfl, HBC.out⟩
              · by_cases h2 : 0 < LE
                · go_wp2_with fail
                  go_ret
                  exact ⟨rfl, HBC.out⟩
                · have h1' : LT = 0 := by omega
                  have h2' : LE = 0 := by omega
                  subst h1' h2'
                  clear h1 h2
                  go_upto_region 23 with fail
                  have hnil : s.thn = [] ∧ s.els = [] := ⟨List.eq_nil_of_length_eq_zero hLT.out, List.eq_nil_of_length_eq_zero hLE.out⟩
                  clear y11 y12
                  have hwt := picked_wt HWP.out HPK.out
                  obtain ⟨-, hjp⟩ := turnJ_put HJW.out HPK.out hnil (m := K3) (name := name) HNM.out
                  rw [hTJ.out, hTH.out] at hjp
                  have hli : LightS TJ := by rw [← hTJ.out]; exact turnJ_light hwt
                  have hok := turnJ_ok (m := K3) (name := name) HOK.out HJ.out.1 HJ.out.2.1 HJ.out.2.2.1 HJ.out.2.2.2 HSN.out
                  have hrm := turnJ_room (m := K3) (name := name) HMAY.out HWP.out hwt
                  rw [hTJ.out] at hok hrm
                  have HOKT := Lib.hid hok
                  have HJP := Lib.hid hjp
                  have HLI := Lib.hid hli
                  have HRM := Lib.hid hrm
                  clear hjp hli hok hrm hwt hnil
                  have p0 := HXC.out 0 _ rfl
                  have p1 := HXC.out 1 _ rfl
                  go_wp2_with (refine wpList_load_mid rfl 41 (.tmp 16) rfl TB 0 rfl [.int .i64 TJ.id, .int .i64 TJ.kind, .slice lb TJ.labels.length ld, .string TJ.nm, .string TJ.proc, .int .i64 TJ.x.op, .int .i64 TJ.x.n, .string TJ.x.nm, .slice kb TJ.x.ks.length kd, .bool TJ.has, .slice ab TJ.args.length ad, .slice tb TJ.thn.length td, .slice eb TJ.els.length ed] _ (fun j v hv => by rw [Nat.zero_add]; exact HTC.out j v hv) Try.underlying41 rfl (by kernel_rfl) ?_)
                  refine (put8_any (d + 1) TJ HOKT.out.1 HOKT.out.2.1 HOKT.out.2.2.1 HOKT.out.2.2.2.1 HOKT.out.2.2.2.2 HLI.out lb kb ab tb eb ld kd ad td ed (d + 1) p _ _ _ HPC.out HWP.out HHC.out).mono ?_
                  rintro e we ⟨gq, pq, rfl, hpq, hbe⟩
                  obtain ⟨gqa, gqc, rfl, -, -⟩ := hpq.1.form
                  obtain ⟨pqa, pqc, rfl, -, -⟩ := hpq.2.form
                  have HPQ := Lib.hid (PrC.mono only_out hpq)
                  have HBE := Lib.hid (HBC.out.trans (hbe.mono HBC.out.size))
                  clear hbe hpq p0 p1
                  go_wp2_with fail
                  refine (jcheck_any (d + 1 + (d + 1)) (putPr TJ p) _ _ _ HPQ.out HRM.out).mono ?_
                  cases TH with
                  | true =>
                    rw [HJP.out, if_pos rfl]
                    rintro e wf ⟨rfl, hbf⟩
                    have HBF := Lib.hid (HBE.out.trans (hbf.mono HBE.out.size))
                    clear hbf
                    have hfc := run_code 0 0
                    go_wp2_with fail
                    go_ret
                    exact ⟨rfl, HBF.out.trans ((boxed wf _).mono HBF.out.size)⟩
                  | false =>
                    rw [HJP.out, if_neg (by simp)]
                    rintro e wf ⟨rfl, hbf⟩
                    have HBF := Lib.hid (HBE.out.trans (hbf.mono HBE.out.size))
                    clear hbf
                    have heq := fault_same 7 ID
                    go_wp2_with fail
                    go_ret
                    exact ⟨rfl, HBF.out.trans ((boxed wf _).mono HBF.out.size)⟩
        | false =>
          clear hnm
          go_wp2_with fail
          go_ret
          exact ⟨rfl, HB6.out⟩
      · have hj1 : (JC == 0) = false := by simpa using hj
        have hj2 : (JC != 0) = true := by rw [bne, hj1]; rfl
        have HJ0 := Lib.hid hj
        clear hj
        go_wp2_with fail
        go_ret
        exact ⟨rfl, HB5.out⟩
    · have hz1 : (SC == 0) = false := by simpa using hz
      have hz2 : (SC != 0) = true := by rw [bne, hz1]; rfl
      have HZ := Lib.hid hz
      clear hz
      have p0 := HX4.out 0 _ rfl
      have p1 := HX4.out 1 _ rfl
      go_wp2_with fail
      go_ret
      exact ⟨rfl, HB4.out⟩
end Go.Proofs.Ytghlmengcidmdaa.Tr
