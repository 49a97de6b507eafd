/- Parts of SizeW: walks and plain laws that later texts use. Conditions: as each statement says. -/
import Derived.Test.YtghlmengcidmdaaSa0
import Derived.Test.YtghlmengcidmdaaSa1
import Derived.Test.YtghlmengcidmdaaSa2
import Derived.Test.YtghlmengcidmdaaSa3
import Derived.Test.YtghlmengcidmdaaSa4
import Derived.Test.YtghlmengcidmdaaSa5
import Derived.Test.YtghlmengcidmdaaSa6
import Derived.Test.YtghlmengcidmdaaSa7
import Derived.Test.YtghlmengcidmdaaSa8
import Derived.Test.YtghlmengcidmdaaSa9
import Derived.Test.YtghlmengcidmdaaSa10
import Derived.Test.YtghlmengcidmdaaSa11
import Derived.Test.YtghlmengcidmdaaSa12
import Derived.Test.YtghlmengcidmdaaSa13
import Derived.Test.YtghlmengcidmdaaSa14
import Derived.Test.YtghlmengcidmdaaSa15
import Derived.Test.YtghlmengcidmdaaSa16
import Derived.Test.YtghlmengcidmdaaSa30
import Derived.RegionTactic
import Derived.IntWalk
import Derived.Deep.QuietTactic
import Derived.BigQuiet
import Derived.StillTailTactics
import Derived.Deep.RegionHeld3
import Derived.Deep.DeepCutAuto
import Derived.Laws.StructEq
import Derived.Deep.RegionLaw
import Derived.Deep.RegionWith
import Derived.Laws.Cover3
import Derived.WalkKit
import Derived.Test.YtghlmengcidmdaaRows
import Derived.WalkSpells
import Derived.Lib.Hide
import Derived.Below
import Derived.Laws.BitsAllLaws
import Derived.Maps.Range
import Derived.Outline
import Derived.Lib.SmallJoins
import Derived.Deep.Upon
import Derived.Maps.AppendAt
import Derived.Laws.OwnMore
import Derived.OwnWalk
import Derived.OneCell
import Derived.Deep.AppendLies
import Derived.Deep.CutBlock
import Derived.Deep.Slices
import Derived.Deep.Fields
import Derived.SliceStrings
import Derived.ChangeSlices
import Derived.WalkSmall
/- What size of flat tells: how many statements a statement is. Conditions: it lies in memory. -/
namespace Go.Proofs.Ytghlmengcidmdaa.Tr
open Go.RowKit Go.Proofs.Ytghlmengcidmdaa.Lx Go.Proofs.Ytghlmengcidmdaa.Wd
theorem cnt_take {l : List St} {k : Nat} (h : k < l.length) : cntL (l.take (k + 1)) = cntL (l.take k) + cntS l[k] := by
  rw [List.take_succ_eq_append_getElem h, cntL_append, cntL, cntL]
  omega
theorem cnt_le {l : List St} {k : Nat} (h : k < l.length) : cntL (l.take k) + cntS l[k] ≤ cntL l := by
  have h1 := cnt_take h
  have h2 : cntL l = cntL (l.take (k + 1)) + cntL (l.drop (k + 1)) := by
    conv => lhs; rw [← List.take_append_drop (k + 1) l]
    rw [cntL_append]
  omega
theorem cntS_parts (s : St) : cntS s = 1 + cntL s.thn + cntL s.els := by cases s; rw [cntS]; rfl
theorem cntS_pos (s : St) : 1 ≤ cntS s := by rw [cntS_parts]; omega
theorem cntL_len (l : List St) : l.length ≤ cntL l := by
  induction l with
  | nil => simp
  | cons s r ih => rw [cntL, List.length_cons]; have := cntS_pos s; omega
set_option maxHeartbeats 4000000 in
set_option maxRecDepth 100000 in
theorem size_any : ∀ (d : Nat) (s : St) (la ka aa ta ea : Option Addr) (lc kc ac tc ec : Nat) (w : World), Hang d w s (.slice la s.labels.length lc) (.slice ka s.x.ks.length kc) (.slice aa s.args.length ac) (.slice ta s.thn.length tc) (.slice ea s.els.length ec) → cntS s ≤ 1000000 →
    Calls Try.prog 135 #[.agg #[.int .i64 s.id, .int .i64 s.kind, .slice la s.labels.length lc, .string s.nm, .string s.proc, .int .i64 s.x.op, .int .i64 s.x.n, .string s.x.nm, .slice ka s.x.ks.length kc, .bool s.has, .slice aa s.args.length ac, .slice ta s.thn.length tc, .slice ea s.els.length ec]] w fun e w' => e = .returned (.int .i64 (cntS s : Nat)) ∧ Below w.heap.size w w' := by
  intro d
  induction d with
  | zero => intro s la ka aa ta ea lc kc ac tc ec w hh; exact hh.thn.elim
  | succ d ih =>
    intro s la ka aa ta ea lc kc ac tc ec w hh hcs
    have IH := Lib.hid ih
    rw [cntS_parts] at hcs ⊢
    have hct : cntL s.thn ≤ 1000000 := by omega
    have hce : cntL s.els ≤ 1000000 := by omega
    have hlt' := cntL_len s.thn
    have hle' := cntL_len s.els
    have HTH := Lib.hid hh.thn
    have HEL := Lib.hid hh.els
    clear ih hh
    go_enter Try.func135, Try.ntmps135
    go_upto_region 1 with fail
    refine cut_world (fun wx => Below w.heap.size w wx ∧ BoxAt wx w.heap.size [.int .i64 s.id, .int .i64 s.kind, .slice la s.labels.length lc, .string s.nm, .string s.proc, .int .i64 s.x.op, .int .i64 s.x.n, .string s.x.nm, .slice ka s.x.ks.length kc, .bool s.has, .slice aa s.args.length ac, .slice ta s.thn.length tc, .slice ea s.els.length ec]) ⟨boxed w _, box_new w #[.int .i64 s.id, .int .i64 s.kind, .slice la s.labels.length lc, .string s.nm, .string s.proc, .int .i64 s.x.op, .int .i64 s.x.n, .string s.x.nm, .slice ka s.x.ks.length kc, .bool s.has, .slice aa s.args.length ac, .slice ta s.thn.length tc, .slice ea s.els.length ec] 41⟩ ?_
    rintro w1 ⟨hb1, hx1⟩
    have HB1 := Lib.hid hb1
    have HX1 := Lib.hid hx1
    have x8 := hx1 11 _ rfl
    clear hb1 hx1
    go_wp2_with fail
    clear x8
    go_loopw [11, 3] (fun i nn wr => ∃ k : Nat, k ≤ s.thn.length ∧ i = .int .i64 k ∧ nn = .int .i64 ((1 + cntL (s.thn.take k) : Nat) : Int) ∧ Below w.heap.size w wr ∧ Below w1.heap.size w1 wr) (fun i _ _ => (s.thn.length - intOf i).toNat)
    case atStart => exact ⟨0, by omega, rfl, by simp [cntL], HB1.out, Below.refl _ _⟩
    case round =>
      obtain ⟨k, hk, rfl, rfl, hbel, hb1r⟩ := hrel
      obtain ⟨w0, hw0⟩ : ∃ x : World, x = wr := ⟨_, rfl⟩
      subst hw0
      have HBEL := Lib.hid hbel
      have HB1R := Lib.hid hb1r
      clear hb1r
      by_cases hlt : k < s.thn.length
      · have hlt' : (k : Int) < (s.thn.length : Int) := by omega
        have h0k : (0 : Int) ≤ (k : Int) := by omega
        have hc1 := cnt_take hlt
        have hc2 := cnt_le hlt
        have hnez : s.thn ≠ [] := by intro h; rw [h] at hlt; simp at hlt
        obtain ⟨g, off, capg, hvg, _, hcellsg⟩ := SlAt.cells (StC.next HTH.out hbel) hnez
        simp only [Value.slice.injEq] at hvg
        obtain ⟨rfl, -, rfl⟩ := hvg
        have hstt := hcellsg k hlt
        obtain ⟨t, ht⟩ : ∃ z, Hid (s.thn[k] = z) := ⟨_, Lib.hid rfl⟩
        rw [ht.out] at hstt
        obtain ⟨lv, av, tv, ev, p0, p1, p2, p3, p4, ⟨kv, p5, p6, p7, p8, hok, hk1⟩, p9, p10, p11, p12, j1, j2, j3, j4, hl1, ha1, ht1, he1⟩ := hstt
        obtain ⟨la2, lc2, rfl, bl1, bl2⟩ := hl1.form
        obtain ⟨aa2, ac2, rfl, ba1, ba2⟩ := ha1.form
        obtain ⟨ta2, tc2, rfl, bt1, bt2⟩ := ht1.form
        obtain ⟨ea2, ec2, rfl, be1, be2⟩ := he1.form
        have HML2 := Lib.hid (Nat.le_trans bl1 bl2)
        have HMA2 := Lib.hid (Nat.le_trans ba1 ba2)
        have HMT2 := Lib.hid (Nat.le_trans bt1 bt2)
        have HME2 := Lib.hid (Nat.le_trans be1 be2)
        clear bl1 bl2 ba1 ba2 bt1 bt2 be1 be2
        obtain ⟨ka2, kc2, rfl, -, -⟩ := hk1.form
        have e0 : w0.cell? ⟨g, off + k * 13, none⟩ = _ := p0
        have e1 : w0.cell? ⟨g, off + k * 13 + 1, none⟩ = _ := p1
        have e2 : w0.cell? ⟨g, off + k * 13 + 2, none⟩ = _ := p2
        have e3 : w0.cell? ⟨g, off + k * 13 + 3, none⟩ = _ := p3
        have e4 : w0.cell? ⟨g, off + k * 13 + 4, none⟩ = _ := p4
        have e5 : w0.cell? ⟨g, off + k * 13 + 5, none⟩ = _ := p5
        have e6 : w0.cell? ⟨g, off + k * 13 + 6, none⟩ = _ := p6
        have e7 : w0.cell? ⟨g, off + k * 13 + 7, none⟩ = _ := p7
        have e8 : w0.cell? ⟨g, off + k * 13 + 8, none⟩ = _ := p8
        have e9 : w0.cell? ⟨g, off + k * 13 + 9, none⟩ = _ := p9
        have e10 : w0.cell? ⟨g, off + k * 13 + 10, none⟩ = _ := p10
        have e11 : w0.cell? ⟨g, off + k * 13 + 11, none⟩ = _ := p11
        have e12 : w0.cell? ⟨g, off + k * 13 + 12, none⟩ = _ := p12
        have HLB2 := Lib.hid hl1
        have HKB2 := Lib.hid hk1
        have HAB2 := Lib.hid ha1
        have HTB2 := Lib.hid ht1
        have HEB2 := Lib.hid he1
        have HOK2 := Lib.hid hok
        have HJ12 := Lib.hid j1
        have HJ22 := Lib.hid j2
        have HJ32 := Lib.hid j3
        have HJ42 := Lib.hid j4
        clear hcellsg hnez p0 p1 p2 p3 p4 p5 p6 p7 p8 p9 p10 p11 p12 hok hk1 hl1 ha1 ht1 he1 j1 j2 j3 j4
        rw [ht.out] at hc1 hc2
        obtain ⟨CT, hCT⟩ : ∃ n, Hid (cntS t = n) := ⟨_, Lib.hid rfl⟩
        obtain ⟨CK, hCK⟩ : ∃ n, Hid (cntL (s.thn.take k) = n) := ⟨_, Lib.hid rfl⟩
        rw [hCT.out, hCK.out] at hc1 hc2
        rw [hCK.out]
        have hct2 : cntS t ≤ 1000000 := by rw [hCT.out]; omega
        have HC1 := Lib.hid hc1
        have HHT := Lib.hid (Hang.mk (s := t) HLB2.out HKB2.out HAB2.out HTB2.out HEB2.out)
        clear hbel hc1
        go_upto_region 5 with fail
        refine cut_world (fun wx => Below w0.heap.size w0 wx ∧ BoxAt wx w0.heap.size (stCells t (.slice ka2 t.x.ks.length kc2) (.slice la2 t.labels.length lc2) (.slice aa2 t.args.length ac2) (.slice ta2 t.thn.length tc2) (.slice ea2 t.els.length ec2))) ⟨boxed w0 _, box_new w0 #[.int .i64 t.id, .int .i64 t.kind, .slice la2 t.labels.length lc2, .string t.nm, .string t.proc, .int .i64 t.x.op, .int .i64 t.x.n, .string t.x.nm, .slice ka2 t.x.ks.length kc2, .bool t.has, .slice aa2 t.args.length ac2, .slice ta2 t.thn.length tc2, .slice ea2 t.els.length ec2] 41⟩ ?_
        clear e0 e1 e2 e3 e4 e5 e6 e7 e8 e9 e10 e11 e12
        rintro w3 ⟨hb3, hx3⟩
        have HB3 := Lib.hid hb3
        have m0 := hx3 0 _ rfl
        have m1 := hx3 1 _ rfl
        have m2 := hx3 2 _ rfl
        have m3 := hx3 3 _ rfl
        have m4 := hx3 4 _ rfl
        have m5 := hx3 5 _ rfl
        have m6 := hx3 6 _ rfl
        have m7 := hx3 7 _ rfl
        have m8 := hx3 8 _ rfl
        have m9 := hx3 9 _ rfl
        have m10 := hx3 10 _ rfl
        have m11 := hx3 11 _ rfl
        have m12 := hx3 12 _ rfl
        clear hx3 hb3
        go_wp2_with fail
        refine (IH.out t la2 ka2 aa2 ta2 ea2 lc2 kc2 ac2 tc2 ec2 _ (HHT.out.next HB3.out) hct2).mono ?_
        rintro e w4 ⟨rfl, hb4⟩
        rw [hCT.out]
        have HB4 := Lib.hid (HB3.out.trans (hb4.mono HB3.out.size))
        clear hb4 m0 m1 m2 m3 m4 m5 m6 m7 m8 m9 m10 m11 m12
        have hsum : IntKind.i64.wrap ((1 + CK : Nat) + (CT : Int)) = ((1 + CK + CT : Nat) : Int) := by rw [IntWalk.i64_in _ (by push_cast; omega)]; push_cast; rfl
        go_wp2_with fail
        go_roundw
        case rel =>
          refine ⟨k + 1, by omega, by go_num, ?_, HBEL.out.trans (HB4.out.mono HBEL.out.size), HB1R.out.trans (HB4.out.mono HB1R.out.size)⟩
          rw [HC1.out]
          congr 2
          push_cast
          omega
        case measure => simp [intOf]; omega
      · have hlt' : ¬ (k : Int) < (s.thn.length : Int) := by omega
        have hke : k = s.thn.length := by omega
        subst hke
        rw [List.take_length]
        have x9 := HX1.out.next HB1R.out 12 _ rfl
        clear hbel
        go_wp2_with fail
        go_loopw [23, 3] (fun i nn wr => ∃ k : Nat, k ≤ s.els.length ∧ i = .int .i64 k ∧ nn = .int .i64 ((1 + cntL s.thn + cntL (s.els.take k) : Nat) : Int) ∧ Below w.heap.size w wr ∧ Below w1.heap.size w1 wr) (fun i _ _ => (s.els.length - intOf i).toNat)
        case atStart => exact ⟨0, by omega, rfl, by simp [cntL], HBEL.out, HB1R.out⟩
        case round =>
          obtain ⟨k, hk, rfl, rfl, hbel, hb1r⟩ := hrel
          obtain ⟨w0, hw0⟩ : ∃ x : World, x = wr := ⟨_, rfl⟩
          subst hw0
          have HBEL := Lib.hid hbel
          have HB1R := Lib.hid hb1r
          clear hb1r
          by_cases hlt : k < s.els.length
          · have hlt' : (k : Int) < (s.els.length : Int) := by omega
            have h0k : (0 : Int) ≤ (k : Int) := by omega
            have hc1 := cnt_take hlt
            have hc2 := cnt_le hlt
            have hnez : s.els ≠ [] := by intro h; rw [h] at hlt; simp at hlt
            obtain ⟨g, off, capg, hvg, _, hcellsg⟩ := SlAt.cells (StC.next HEL.out hbel) hnez
            simp only [Value.slice.injEq] at hvg
            obtain ⟨rfl, -, rfl⟩ := hvg
            have hstt := hcellsg k hlt
            obtain ⟨t, ht⟩ : ∃ z, Hid (s.els[k] = z) := ⟨_, Lib.hid rfl⟩
            rw [ht.out] at hstt
            obtain ⟨lv, av, tv, ev, p0, p1, p2, p3, p4, ⟨kv, p5, p6, p7, p8, hok, hk1⟩, p9, p10, p11, p12, j1, j2, j3, j4, hl1, ha1, ht1, he1⟩ := hstt
            obtain ⟨la2, lc2, rfl, bl1, bl2⟩ := hl1.form
            obtain ⟨aa2, ac2, rfl, ba1, ba2⟩ := ha1.form
            obtain ⟨ta2, tc2, rfl, bt1, bt2⟩ := ht1.form
            obtain ⟨ea2, ec2, rfl, be1, be2⟩ := he1.form
            have HML2 := Lib.hid (Nat.le_trans bl1 bl2)
            have HMA2 := Lib.hid (Nat.le_trans ba1 ba2)
            have HMT2 := Lib.hid (Nat.le_trans bt1 bt2)
            have HME2 := Lib.hid (Nat.le_trans be1 be2)
            clear bl1 bl2 ba1 ba2 bt1 bt2 be1 be2
            obtain ⟨ka2, kc2, rfl, -, -⟩ := hk1.form
            have e0 : w0.cell? ⟨g, off + k * 13, none⟩ = _ := p0
            have e1 : w0.cell? ⟨g, off + k * 13 + 1, none⟩ = _ := p1
            have e2 : w0.cell? ⟨g, off + k * 13 + 2, none⟩ = _ := p2
            have e3 : w0.cell? ⟨g, off + k * 13 + 3, none⟩ = _ := p3
            have e4 : w0.cell? ⟨g, off + k * 13 + 4, none⟩ = _ := p4
            have e5 : w0.cell? ⟨g, off + k * 13 + 5, none⟩ = _ := p5
            have e6 : w0.cell? ⟨g, off + k * 13 + 6, none⟩ = _ := p6
            have e7 : w0.cell? ⟨g, off + k * 13 + 7, none⟩ = _ := p7
            have e8 : w0.cell? ⟨g, off + k * 13 + 8, none⟩ = _ := p8
            have e9 : w0.cell? ⟨g, off + k * 13 + 9, none⟩ = _ := p9
            have e10 : w0.cell? ⟨g, off + k * 13 + 10, none⟩ = _ := p10
            have e11 : w0.cell? ⟨g, off + k * 13 + 11, none⟩ = _ := p11
            have e12 : w0.cell? ⟨g, off + k * 13 + 12, none⟩ = _ := p12
            have HLB2 := Lib.hid hl1
            have HKB2 := Lib.hid hk1
            have HAB2 := Lib.hid ha1
            have HTB2 := Lib.hid ht1
            have HEB2 := Lib.hid he1
            have HOK2 := Lib.hid hok
            have HJ12 := Lib.hid j1
            have HJ22 := Lib.hid j2
            have HJ32 := Lib.hid j3
            have HJ42 := Lib.hid j4
            clear hcellsg hnez p0 p1 p2 p3 p4 p5 p6 p7 p8 p9 p10 p11 p12 hok hk1 hl1 ha1 ht1 he1 j1 j2 j3 j4
            rw [ht.out] at hc1 hc2
            obtain ⟨CT, hCT⟩ : ∃ n, Hid (cntS t = n) := ⟨_, Lib.hid rfl⟩
            obtain ⟨CK, hCK⟩ : ∃ n, Hid (cntL (s.els.take k) = n) := ⟨_, Lib.hid rfl⟩
            rw [hCT.out, hCK.out] at hc1 hc2
            rw [hCK.out]
            have hct2 : cntS t ≤ 1000000 := by rw [hCT.out]; omega
            have HC1 := Lib.hid hc1
            have HHT := Lib.hid (Hang.mk (s := t) HLB2.out HKB2.out HAB2.out HTB2.out HEB2.out)
            clear hbel hc1
            go_upto_region 10 with fail
            refine cut_world (fun wx => Below w0.heap.size w0 wx ∧ BoxAt wx w0.heap.size (stCells t (.slice ka2 t.x.ks.length kc2) (.slice la2 t.labels.length lc2) (.slice aa2 t.args.length ac2) (.slice ta2 t.thn.length tc2) (.slice ea2 t.els.length ec2))) ⟨boxed w0 _, box_new w0 #[.int .i64 t.id, .int .i64 t.kind, .slice la2 t.labels.length lc2, .string t.nm, .string t.proc, .int .i64 t.x.op, .int .i64 t.x.n, .string t.x.nm, .slice ka2 t.x.ks.length kc2, .bool t.has, .slice aa2 t.args.length ac2, .slice ta2 t.thn.length tc2, .slice ea2 t.els.length ec2] 41⟩ ?_
            clear e0 e1 e2 e3 e4 e5 e6 e7 e8 e9 e10 e11 e12
            rintro w3 ⟨hb3, hx3⟩
            have HB3 := Lib.hid hb3
            have m0 := hx3 0 _ rfl
            have m1 := hx3 1 _ rfl
            have m2 := hx3 2 _ rfl
            have m3 := hx3 3 _ rfl
            have m4 := hx3 4 _ rfl
            have m5 := hx3 5 _ rfl
            have m6 := hx3 6 _ rfl
            have m7 := hx3 7 _ rfl
            have m8 := hx3 8 _ rfl
            have m9 := hx3 9 _ rfl
            have m10 := hx3 10 _ rfl
            have m11 := hx3 11 _ rfl
            have m12 := hx3 12 _ rfl
            clear hx3 hb3
            go_wp2_with fail
            refine (IH.out t la2 ka2 aa2 ta2 ea2 lc2 kc2 ac2 tc2 ec2 _ (HHT.out.next HB3.out) hct2).mono ?_
            rintro e w4 ⟨rfl, hb4⟩
            rw [hCT.out]
            have HB4 := Lib.hid (HB3.out.trans (hb4.mono HB3.out.size))
            clear hb4 m0 m1 m2 m3 m4 m5 m6 m7 m8 m9 m10 m11 m12
            have hsum : IntKind.i64.wrap ((1 + cntL s.thn + CK : Nat) + (CT : Int)) = ((1 + cntL s.thn + CK + CT : Nat) : Int) := by rw [IntWalk.i64_in _ (by push_cast; omega)]; push_cast; rfl
            go_wp2_with fail
            go_roundw
            case rel =>
              refine ⟨k + 1, by omega, by go_num, ?_, HBEL.out.trans (HB4.out.mono HBEL.out.size), HB1R.out.trans (HB4.out.mono HB1R.out.size)⟩
              rw [HC1.out]
              congr 2
              push_cast
              omega
            case measure => simp [intOf]; omega
          · have hlt' : ¬ (k : Int) < (s.els.length : Int) := by omega
            have hke : k = s.els.length := by omega
            subst hke
            rw [List.take_length]
            go_wp2_with fail
            go_ret
            exact ⟨rfl, HBEL.out⟩
end Go.Proofs.Ytghlmengcidmdaa.Tr
