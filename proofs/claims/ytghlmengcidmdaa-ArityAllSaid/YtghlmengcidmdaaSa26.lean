/- Parts of OneW: walks and plain laws that later texts use. Conditions: as each statement says. -/
import Derived.Test.YtghlmengcidmdaaSa0
import Derived.Test.YtghlmengcidmdaaSa1
import Derived.Test.YtghlmengcidmdaaSa2
import Derived.Test.YtghlmengcidmdaaSa3
import Derived.Test.YtghlmengcidmdaaSa4
import Derived.Test.YtghlmengcidmdaaSa5
import Derived.Test.YtghlmengcidmdaaSa6
import Derived.Test.YtghlmengcidmdaaSa7
import Derived.Test.YtghlmengcidmdaaSa8
import Derived.Test.YtghlmengcidmdaaSa9
import Derived.Test.YtghlmengcidmdaaSa10
import Derived.Test.YtghlmengcidmdaaSa11
import Derived.Test.YtghlmengcidmdaaSa14
import Derived.Test.YtghlmengcidmdaaSa15
import Derived.IntWalk
import Derived.Deep.QuietTactic
import Derived.BigQuiet
import Derived.StillTailTactics
import Derived.Deep.RegionHeld3
import Derived.Deep.DeepCutAuto
import Derived.Laws.StructEq
import Derived.Deep.RegionLaw
import Derived.Deep.RegionWith
import Derived.Laws.Cover3
import Derived.WalkKit
import Derived.Test.YtghlmengcidmdaaRows
import Derived.WalkSpells
import Derived.Lib.Hide
import Derived.Below
import Derived.Laws.BitsAllLaws
import Derived.RegionTactic
import Derived.Maps.Range
import Derived.Outline
import Derived.Lib.SmallJoins
import Derived.Deep.Upon
import Derived.Maps.AppendAt
import Derived.Laws.OwnMore
import Derived.OwnWalk
import Derived.OneCell
import Derived.Deep.AppendLies
import Derived.Deep.CutBlock
import Derived.Deep.Slices
import Derived.Deep.Fields
import Derived.SliceStrings
import Derived.ChangeSlices
import Derived.WalkSmall
/- What names, none, arg, one of the reference compute. Conditions: the arguments lie in memory. -/
namespace Go.Proofs.Ytghlmengcidmdaa.Tr
open Go.RowKit Go.Proofs.Ytghlmengcidmdaa.Lx Go.Proofs.Ytghlmengcidmdaa.Wd
set_option linter.unusedSimpArgs false
set_option maxHeartbeats 1000000 in
theorem rnames1_any (l : List ByteArray) (v : Value) (w : World) (hl : StrsAt w v l) :
    Calls Try.prog 121 #[v] w fun e w' => e = .returned (.bool (namesB l)) ∧ Below w.heap.size w w' := by
  obtain ⟨a, cap, rfl, hc1, hc2⟩ := hl.form
  have HL := Lib.hid hl
  clear hl
  go_enter Try.func121, Try.ntmps121
  go_wp2_with fail
  go_loopw [7] (fun i wr => ∃ k : Nat, k ≤ l.length ∧ i = .int .i64 k ∧ Below w.heap.size w wr ∧ (l.take k).all (fun s => isName (bl s)) = true) (fun i _ => (l.length - intOf i).toNat)
  case atStart => exact ⟨0, by omega, rfl, Below.refl _ _, rfl⟩
  case round =>
    obtain ⟨k, hk, rfl, hbel, hall⟩ := hrel
    have HBEL := Lib.hid hbel
    have HALL := Lib.hid hall
    by_cases hlt : k < l.length
    · have hlt' : (k : Int) < (l.length : Int) := by omega
      have hne : l ≠ [] := by intro h; rw [h] at hlt; simp at hlt
      obtain ⟨g, off, cap', hv, hcells⟩ := (HL.out.next hbel).cells hne
      simp only [Value.slice.injEq] at hv
      obtain ⟨rfl, -, rfl⟩ := hv
      obtain ⟨hs, c0⟩ := hcells k hlt
      obtain ⟨s, hs2⟩ : ∃ s, Hid (l[k] = s) := ⟨_, Lib.hid rfl⟩
      rw [hs2.out] at c0 hs
      clear hcells hne hall hbel
      obtain ⟨b, hb⟩ : ∃ b, Hid (isName (bl s) = b) := ⟨_, Lib.hid rfl⟩
      go_wp2_with fail
      refine (rname_any s _ hs).mono ?_
      rintro e w' ⟨rfl, hb2⟩
      have HB2 := Lib.hid (HBEL.out.trans (hb2.mono HBEL.out.size))
      clear hb2
      rw [hb.out]
      cases b with
      | true =>
        go_wp2_with fail
        go_roundw
        case rel => exact ⟨k + 1, by omega, by go_num, HB2.out, all_take _ _ hlt HALL.out (by rw [hs2.out]; exact hb.out)⟩
        case measure => simp [intOf]; omega
      | false =>
        have he : namesB l = false := all_no _ _ hlt (by rw [hs2.out]; exact hb.out)
        have HE := Lib.hid he
        clear he
        go_wp2_with fail
        go_ret
        rw [HE.out]
        exact ⟨rfl, HB2.out⟩
    · have hlt' : ¬ (k : Int) < (l.length : Int) := by omega
      have he : namesB l = true := by
        have := HALL.out
        rwa [List.take_of_length_le (by omega)] at this
      have HE := Lib.hid he
      clear he hall hbel
      go_wp2_with fail
      go_ret
      rw [HE.out]
      exact ⟨rfl, HBEL.out⟩
theorem rnone_any (x : Ex) (a : Option Addr) (cap : Nat) (w : World) :
    Calls Try.prog 143 #[exV x (.slice a x.ks.length cap)] w fun e w' => e = .returned (.bool (noneE x)) ∧ Below w.heap.size w w' := by
  have HB := Lib.hid (boxed w (.cells #[.int .i64 x.op, .int .i64 x.n, .string x.nm, .slice a x.ks.length cap] 37))
  unfold exV noneE
  cases h1 : (x.op == 0) with
  | false =>
    go_enter Try.func143, Try.ntmps143
    go_wp2_with fail
    go_ret
    exact ⟨rfl, HB.out⟩
  | true =>
    cases h2 : (x.n == 0) with
    | false =>
      go_enter Try.func143, Try.ntmps143
      go_wp2_with fail
      go_ret
      exact ⟨rfl, HB.out⟩
    | true =>
      cases hm : noName x.nm with
      | false =>
        obtain ⟨n1, n2⟩ := bool_toList.2 hm
        clear hm
        go_enter Try.func143, Try.ntmps143
        go_wp2_with fail
        go_ret
        exact ⟨rfl, HB.out⟩
      | true =>
        obtain ⟨-, n1, n2⟩ := bool_toList.1 hm
        clear hm
        cases h4 : x.ks.isEmpty with
        | false =>
          have b4 : ((x.ks.length : Int) == 0) = false := by
            cases hq : x.ks with
            | nil => rw [hq] at h4; cases h4
            | cons a b => simp; omega
          clear h4
          go_enter Try.func143, Try.ntmps143
          go_wp2_with fail
          go_ret
          exact ⟨rfl, HB.out⟩
        | true =>
          have b4 : ((x.ks.length : Int) == 0) = true := by
            cases hq : x.ks with
            | nil => rfl
            | cons a b => rw [hq] at h4; cases h4
          clear h4
          go_enter Try.func143, Try.ntmps143
          go_wp2_with fail
          go_ret
          exact ⟨rfl, HB.out⟩
set_option maxHeartbeats 2000000 in
theorem arg_any (d : Nat) (ar : Ar) (xa : Option Addr) (xc : Nat) (w : World) (hok : OkE ar.x) (hk : ExK d w (.slice xa ar.x.ks.length xc) ar.x.ks) (hn : ar.nm.size ≤ 9223372036854775807) :
    Calls Try.prog 144 #[.agg #[.bool ar.ref, .string ar.nm, .int .i64 ar.x.op, .int .i64 ar.x.n, .string ar.x.nm, .slice xa ar.x.ks.length xc]] w fun e w' => e = .returned (.bool (namedB ar.nm ar.ref && worthB ar.x (!ar.ref))) ∧ Below w.heap.size w w' := by
  have hbx := boxed w (.cells #[.bool ar.ref, .string ar.nm, .int .i64 ar.x.op, .int .i64 ar.x.n, .string ar.x.nm, .slice xa ar.x.ks.length xc] 49)
  have HBX := Lib.hid hbx
  have HBOX := Lib.hid (box_new w #[.bool ar.ref, .string ar.nm, .int .i64 ar.x.op, .int .i64 ar.x.n, .string ar.x.nm, .slice xa ar.x.ks.length xc] 49)
  have HK := Lib.hid (hk.next hbx)
  have HOK := Lib.hid hok
  clear hbx hk hok
  obtain ⟨R, hR⟩ : ∃ R, Hid ((namedB ar.nm ar.ref && worthB ar.x (!ar.ref)) = R) := ⟨_, Lib.hid rfl⟩
  rw [hR.out]
  cases hr : ar.ref with
  | true =>
    go_enter Try.func144, Try.ntmps144
    rw [hr] at HBX HBOX HK
    go_wp2_with fail
    refine (rname_any ar.nm _ hn).mono ?_
    rintro e w2 ⟨rfl, hb2⟩
    have HB2 := Lib.hid (HBX.out.trans (hb2.mono HBX.out.size))
    have HK2 := Lib.hid (HK.out.next hb2)
    obtain ⟨b1, hb1⟩ : ∃ b, Hid (isName (bl ar.nm) = b) := ⟨_, Lib.hid rfl⟩
    rw [hb1.out]
    have e2 := (HBOX.out.next hb2) 2 _ rfl
    have e3 := (HBOX.out.next hb2) 3 _ rfl
    have e4 := (HBOX.out.next hb2) 4 _ rfl
    have e5 := (HBOX.out.next hb2) 5 _ rfl
    clear hb2
    cases b1 with
    | false =>
      go_wp2_with fail
      go_ret
      rw [← hR.out, hr]
      simp only [namedB, if_true, hb1.out, Bool.false_and]
      exact ⟨by simp, HB2.out⟩
    | true =>
      go_wp2_with fail
      refine (rnone_any ar.x xa xc _).mono ?_
      rintro e w3 ⟨rfl, hb3⟩
      have HB3 := Lib.hid (HB2.out.trans (hb3.mono HB2.out.size))
      obtain ⟨b2, hbb⟩ : ∃ b, Hid (noneE ar.x = b) := ⟨_, Lib.hid rfl⟩
      rw [hbb.out]
      clear hb3
      go_wp2_with fail
      go_ret
      rw [← hR.out, hr]
      simp only [namedB, worthB, if_true, hb1.out, Bool.true_and, Bool.not_true, hbb.out]
      exact ⟨by simp, HB3.out⟩
  | false =>
    go_enter Try.func144, Try.ntmps144
    rw [hr] at HBX HBOX HK
    cases hm : noName ar.nm with
    | true =>
      obtain ⟨-, n1, n2⟩ := bool_toList.1 hm
      have HM := Lib.hid hm
      clear hm
      go_wp2_with fail
      refine (rmayExpr_any d ar.x _ _ HOK.out HK.out).mono ?_
      rintro e w3 ⟨rfl, hb3⟩
      have HB3 := Lib.hid (HBX.out.trans (hb3.mono HBX.out.size))
      obtain ⟨b2, hbb⟩ : ∃ b, Hid (mayE 20 ar.x = b) := ⟨_, Lib.hid rfl⟩
      rw [hbb.out]
      clear hb3
      go_wp2_with fail
      go_ret
      rw [← hR.out, hr]
      simp only [namedB, worthB, HM.out, Bool.true_and, Bool.not_false, if_true, hbb.out]
      exact ⟨by simp, HB3.out⟩
    | false =>
      obtain ⟨n1, n2⟩ := bool_toList.2 hm
      have HM := Lib.hid hm
      clear hm
      go_wp2_with fail
      go_ret
      rw [← hR.out, hr]
      simp only [namedB, HM.out]
      exact ⟨by simp, HBX.out⟩
theorem fields_no {s : St} (h : okK s = false ∨ moreI s = true ∨ namedB s.nm (nameI s) = false ∨ namedB s.proc (procI s) = false ∨ worthB s.x (xI s) = false ∨ handedB s.args = false) : fieldsB s = false := by
  unfold fieldsB
  rcases h with h | h | h | h | h | h <;> simp [h]
theorem noName_not {s : ByteArray} (h : noName s = true) : isName (bl s) = false := by
  cases hb : isName (bl s) with
  | false => rfl
  | true => have := name_some hb; rw [h] at this; cases this
theorem fields_last {s : St} (h1 : namesB s.labels = true) (h2 : okK s = true) (h3 : worthB s.x (xI s) = true) (h4 : hasI s = false) (h5 : namedB s.nm (nameI s) = true) (h6 : namedB s.proc (procI s) = true) (h7 : (s.kind == 4) = true ∨ s.args = []) (h8 : handedB s.args = true) :
    (namesB s.labels && fieldsB s) = ((thenI s || decide (s.thn.length = 0)) && (otherI s || decide (s.els.length = 0))) := by
  have h9 : (!procI s && decide (0 < s.args.length)) = false := by
    rcases h7 with h7 | h7
    · unfold procI; rw [h7]; rfl
    · rw [h7]; simp
  unfold fieldsB moreI
  rw [h1, h2, h3, h4, h5, h6, h8, h9]
  have e1 : decide (0 < s.thn.length) = !decide (s.thn.length = 0) := by cases s.thn <;> simp
  have e2 : decide (0 < s.els.length) = !decide (s.els.length = 0) := by cases s.els <;> simp
  rw [e1, e2]
  cases thenI s <;> cases otherI s <;> cases decide (s.thn.length = 0) <;> cases decide (s.els.length = 0) <;> rfl
def hasNm (s : St) : Bool := s.kind == 1 || s.kind == 2 || s.kind == 10
set_option maxHeartbeats 4000000 in
set_option maxRecDepth 100000 in
theorem one_any (d : Nat) (s : St) (la aa ta ea ka : Option Addr) (lc ac tc ec kc : Nat) (w : World) (hok : OkE s.x) (hn : s.nm.size ≤ 9223372036854775807) (hp : s.proc.size ≤ 9223372036854775807)
    (hh : Hang d w s (.slice la s.labels.length lc) (.slice ka s.x.ks.length kc) (.slice aa s.args.length ac) (.slice ta s.thn.length tc) (.slice ea s.els.length ec)) :
    Calls Try.prog 123 #[.agg #[.int .i64 s.id, .int .i64 s.kind, .slice la s.labels.length lc, .string s.nm, .string s.proc, .int .i64 s.x.op, .int .i64 s.x.n, .string s.x.nm, .slice ka s.x.ks.length kc, .bool s.has, .slice aa s.args.length ac, .slice ta s.thn.length tc, .slice ea s.els.length ec]] w fun e w' => e = .returned (.bool (namesB s.labels && fieldsB s)) ∧ Below w.heap.size w w' := by
  have hbx := boxed w (.cells #[.int .i64 s.id, .int .i64 s.kind, .slice la s.labels.length lc, .string s.nm, .string s.proc, .int .i64 s.x.op, .int .i64 s.x.n, .string s.x.nm, .slice ka s.x.ks.length kc, .bool s.has, .slice aa s.args.length ac, .slice ta s.thn.length tc, .slice ea s.els.length ec] 41)
  have HBX := Lib.hid hbx
  have HBOX := Lib.hid (box_new w #[.int .i64 s.id, .int .i64 s.kind, .slice la s.labels.length lc, .string s.nm, .string s.proc, .int .i64 s.x.op, .int .i64 s.x.n, .string s.x.nm, .slice ka s.x.ks.length kc, .bool s.has, .slice aa s.args.length ac, .slice ta s.thn.length tc, .slice ea s.els.length ec] 41)
  have HH := Lib.hid (hh.next hbx)
  have HOK := Lib.hid hok
  have HLA := Lib.hid hh.arg.form
  have HLT := Lib.hid hh.thn.form
  obtain ⟨R, hR⟩ : ∃ R, Hid ((namesB s.labels && fieldsB s) = R) := ⟨_, Lib.hid rfl⟩
  rw [hR.out]
  clear hbx hh hok
  go_enter Try.func123, Try.ntmps123
  go_upto_region 1 with fail
  refine cut_world (fun wx => Below w.heap.size w wx ∧ BoxAt wx w.heap.size [.int .i64 s.id, .int .i64 s.kind, .slice la s.labels.length lc, .string s.nm, .string s.proc, .int .i64 s.x.op, .int .i64 s.x.n, .string s.x.nm, .slice ka s.x.ks.length kc, .bool s.has, .slice aa s.args.length ac, .slice ta s.thn.length tc, .slice ea s.els.length ec] ∧ Hang d wx s (.slice la s.labels.length lc) (.slice ka s.x.ks.length kc) (.slice aa s.args.length ac) (.slice ta s.thn.length tc) (.slice ea s.els.length ec)) ⟨HBX.out, HBOX.out, HH.out⟩ ?_
  clear HBX HBOX HH
  rintro w1 ⟨hb1, hbox1, hh1⟩
  have HB1 := Lib.hid hb1
  have HBOX1 := Lib.hid hbox1
  have HH1 := Lib.hid hh1
  have e1 := hbox1 1 _ rfl
  have e2 := hbox1 2 _ rfl
  have e9 := hbox1 9 _ rfl
  clear hb1 hbox1 hh1
  go_cut [3] (fun x3 wx => x3 = .bool (xI s) ∧ w1 = wx)
  case first => as_aux_lemma =>
    cases h1 : (s.kind == 1) with
    | true =>
      go_wp2_with fail
      go_meet
      exact ⟨by simp [xI, h1], rfl⟩
    | false =>
      cases h3 : (s.kind == 3) with
      | true =>
        go_wp2_with fail
        go_meet
        exact ⟨by simp [xI, h1, h3], rfl⟩
      | false =>
        cases h5 : (s.kind == 5) with
        | true =>
          go_wp2_with fail
          go_meet
          exact ⟨by simp [xI, h1, h3, h5], rfl⟩
        | false =>
          cases h6 : (s.kind == 6) with
          | true =>
            go_wp2_with fail
            go_meet
            exact ⟨by simp [xI, h1, h3, h5, h6], rfl⟩
          | false =>
            cases h9 : (s.kind == 9) with
            | true =>
              obtain ⟨bh, hbh⟩ : ∃ b, Hid (s.has = b) := ⟨_, Lib.hid rfl⟩
              rw [hbh.out] at e9
              cases bh with
              | true =>
                go_wp2_with fail
                go_meet
                exact ⟨by simp [xI, h1, h3, h5, h6, h9, hbh.out], rfl⟩
              | false =>
                go_wp2_with fail
                go_meet
                exact ⟨by simp [xI, h1, h3, h5, h6, h9, hbh.out], rfl⟩
            | false =>
              go_wp2_with fail
              go_meet
              exact ⟨by simp [xI, h1, h3, h5, h6, h9], rfl⟩
  case rest =>
  obtain ⟨rfl, rfl⟩ := hcut
  obtain ⟨bx, hbx⟩ : ∃ b, Hid (xI s = b) := ⟨_, Lib.hid rfl⟩
  rw [hbx.out]
  go_upto_region 2 with fail
  go_cut [4] (fun x4 wx => x4 = .bool (hasNm s) ∧ w1 = wx)
  case first => as_aux_lemma =>
    cases h1 : (s.kind == 1) with
    | true =>
      go_wp2_with fail
      go_meet
      exact ⟨by simp [hasNm, h1], rfl⟩
    | false =>
      cases h2 : (s.kind == 2) with
      | true =>
        go_wp2_with fail
        go_meet
        exact ⟨by simp [hasNm, h1, h2], rfl⟩
      | false =>
        cases h10 : (s.kind == 10) with
        | true =>
          go_wp2_with fail
          go_meet
          exact ⟨by simp [hasNm, h1, h2, h10], rfl⟩
        | false =>
          go_wp2_with fail
          go_meet
          exact ⟨by simp [hasNm, h1, h2, h10], rfl⟩
  case rest =>
  obtain ⟨rfl, rfl⟩ := hcut
  obtain ⟨bn, hbn⟩ : ∃ b, Hid (hasNm s = b) := ⟨_, Lib.hid rfl⟩
  rw [hbn.out]
  go_upto_region 3 with fail
  go_cut [5] (fun x5 wx => x5 = .bool (s.kind == 4) ∧ w1 = wx)
  case first => as_aux_lemma =>
    go_wp2_with fail
    go_meet
    exact ⟨rfl, rfl⟩
  case rest =>
  obtain ⟨rfl, rfl⟩ := hcut
  obtain ⟨bc, hbc⟩ : ∃ b, Hid ((s.kind == 4) = b) := ⟨_, Lib.hid rfl⟩
  rw [hbc.out]
  go_upto_region 4 with fail
  go_cut [92] (fun x92 wx => ∃ c : Bool, x92 = .bool c ∧ (c = true → R = false) ∧ (c = false → namesB s.labels = true ∧ okK s = true ∧ worthB s.x (xI s) = true ∧ hasI s = false) ∧ Below w1.heap.size w1 wx)
  case first => as_aux_lemma =>
    have hlab := HH1.out.lab
    cases hk0 : okK s with
    | false =>
      have hne : R = false := by rw [← hR.out, fields_no (.inl hk0), Bool.and_false]
      have hk' : s.kind < 1 ∨ 10 < s.kind := by
        unfold okK at hk0
        simp only [Bool.and_eq_false_iff, decide_eq_false_iff_not] at hk0
        omega
      have HNE := Lib.hid hne
      clear hk0 hne hR
      rcases hk' with hk' | hk'
      · have q1 : decide (s.kind < 1) = true := by simpa using hk'
        clear hk'
        go_wp2_with fail
        go_meet
        exact ⟨true, rfl, fun _ => HNE.out, fun h => (by cases h), Below.refl _ _⟩
      · have q1 : decide (s.kind < 1) = false := by simp; omega
        have q2 : decide (10 < s.kind) = true := by simpa using hk'
        clear hk'
        go_wp2_with fail
        go_meet
        exact ⟨true, rfl, fun _ => HNE.out, fun h => (by cases h), Below.refl _ _⟩
    | true =>
      have q1 : decide (s.kind < 1) = false := by unfold okK at hk0; simp at hk0 ⊢; omega
      have q2 : decide (10 < s.kind) = false := by unfold okK at hk0; simp at hk0 ⊢; omega
      have HK0 := Lib.hid hk0
      clear hk0
      go_wp2_with fail
      refine (rnames1_any s.labels _ _ (StrC.to hlab)).mono ?_
      rintro e w2 ⟨rfl, hb2⟩
      obtain ⟨b1, hb1⟩ : ∃ b, Hid (namesB s.labels = b) := ⟨_, Lib.hid rfl⟩
      rw [hb1.out]
      have HB2 := Lib.hid hb2
      have e1 := (HBOX1.out.next hb2) 1 _ rfl
      have e5 := (HBOX1.out.next hb2) 5 _ rfl
      have e6 := (HBOX1.out.next hb2) 6 _ rfl
      have e7 := (HBOX1.out.next hb2) 7 _ rfl
      have e8 := (HBOX1.out.next hb2) 8 _ rfl
      have e9 := (HBOX1.out.next hb2) 9 _ rfl
      clear hb2 hlab
      cases b1 with
      | false =>
        have HNE : Hid (R = false) := Lib.hid (by rw [← hR.out, hb1.out, Bool.false_and])
        clear hR
        go_wp2_with fail
        go_meet
        exact ⟨true, rfl, fun _ => HNE.out, fun h => (by cases h), HB2.out⟩
      | true =>
        cases bx with
        | true =>
          go_wp2_with fail
          refine (rmayExpr_any d s.x _ _ HOK.out (ExC.to HH1.out.kid |>.next HB2.out)).mono ?_
          rintro e w3 ⟨rfl, hb3⟩
          obtain ⟨b2, hb2⟩ : ∃ b, Hid (mayE 20 s.x = b) := ⟨_, Lib.hid rfl⟩
          rw [hb2.out]
          have HB3 := Lib.hid (HB2.out.trans (hb3.mono HB2.out.size))
          clear hb3
          replace e1 := (HBOX1.out.next HB3.out) 1 _ rfl
          replace e9 := (HBOX1.out.next HB3.out) 9 _ rfl
          have hw : Hid (worthB s.x (xI s) = b2) := Lib.hid (by rw [hbx.out, ← hb2.out]; rfl)
          cases b2 with
          | false =>
            have HNE : Hid (R = false) := Lib.hid (by rw [← hR.out, fields_no (.inr (.inr (.inr (.inr (.inl hw.out))))), Bool.and_false])
            clear hR
            go_wp2_with fail
            go_meet
            exact ⟨true, rfl, fun _ => HNE.out, fun h => (by cases h), HB3.out⟩
          | true =>
            obtain ⟨bh, hbh⟩ : ∃ b, Hid (s.has = b) := ⟨_, Lib.hid rfl⟩
            rw [hbh.out] at e9
            cases bh with
            | false =>
              go_wp2_with fail
              go_meet
              exact ⟨false, rfl, fun h => (by cases h), fun _ => ⟨hb1.out, HK0.out, hw.out, by simp [hasI, hbh.out]⟩, HB3.out⟩
            | true =>
              cases h9 : (s.kind == 9) with
              | true =>
                have q9 : (s.kind != 9) = false := by simpa using h9
                have H9 := Lib.hid h9
                clear h9
                go_wp2_with fail
                go_meet
                exact ⟨false, rfl, fun h => (by cases h), fun _ => ⟨hb1.out, HK0.out, hw.out, by simp [hasI, H9.out]⟩, HB3.out⟩
              | false =>
                have q9 : (s.kind != 9) = true := by simpa using h9
                have HNE : Hid (R = false) := Lib.hid (by rw [← hR.out, fields_no (.inr (.inl (by simp [moreI, hasI, hbh.out, h9]))), Bool.and_false])
                clear h9 hR
                go_wp2_with fail
                go_meet
                exact ⟨true, rfl, fun _ => HNE.out, fun h => (by cases h), HB3.out⟩
        | false =>
          go_wp2_with fail
          refine (rnone_any s.x ka kc _).mono ?_
          rintro e w3 ⟨rfl, hb3⟩
          obtain ⟨b2, hb2⟩ : ∃ b, Hid (noneE s.x = b) := ⟨_, Lib.hid rfl⟩
          rw [hb2.out]
          have HB3 := Lib.hid (HB2.out.trans (hb3.mono HB2.out.size))
          clear hb3
          replace e1 := (HBOX1.out.next HB3.out) 1 _ rfl
          replace e9 := (HBOX1.out.next HB3.out) 9 _ rfl
          have hw : Hid (worthB s.x (xI s) = b2) := Lib.hid (by rw [hbx.out, ← hb2.out]; rfl)
          cases b2 with
          | false =>
            have HNE : Hid (R = false) := Lib.hid (by rw [← hR.out, fields_no (.inr (.inr (.inr (.inr (.inl hw.out))))), Bool.and_false])
            clear hR
            go_wp2_with fail
            go_meet
            exact ⟨true, rfl, fun _ => HNE.out, fun h => (by cases h), HB3.out⟩
          | true =>
            obtain ⟨bh, hbh⟩ : ∃ b, Hid (s.has = b) := ⟨_, Lib.hid rfl⟩
            rw [hbh.out] at e9
            cases bh with
            | false =>
              go_wp2_with fail
              go_meet
              exact ⟨false, rfl, fun h => (by cases h), fun _ => ⟨hb1.out, HK0.out, hw.out, by simp [hasI, hbh.out]⟩, HB3.out⟩
            | true =>
              cases h9 : (s.kind == 9) with
              | true =>
                have q9 : (s.kind != 9) = false := by simpa using h9
                have H9 := Lib.hid h9
                clear h9
                go_wp2_with fail
                go_meet
                exact ⟨false, rfl, fun h => (by cases h), fun _ => ⟨hb1.out, HK0.out, hw.out, by simp [hasI, H9.out]⟩, HB3.out⟩
              | false =>
                have q9 : (s.kind != 9) = true := by simpa using h9
                have HNE : Hid (R = false) := Lib.hid (by rw [← hR.out, fields_no (.inr (.inl (by simp [moreI, hasI, hbh.out, h9]))), Bool.and_false])
                clear h9 hR
                go_wp2_with fail
                go_meet
                exact ⟨true, rfl, fun _ => HNE.out, fun h => (by cases h), HB3.out⟩
  case rest =>
  obtain ⟨c4, rfl, hc1, hc2, hb4⟩ := hcut
  have HB4 := Lib.hid hb4
  have HB4W := Lib.hid (HB1.out.trans (hb4.mono HB1.out.size))
  obtain ⟨w4, hw4⟩ : ∃ w4 : World, w4 = wc := ⟨_, rfl⟩
  subst hw4
  have m3 := (HBOX1.out.next hb4) 3 _ rfl
  have m4 := (HBOX1.out.next hb4) 4 _ rfl
  have m10 := (HBOX1.out.next hb4) 10 _ rfl
  have m11 := (HBOX1.out.next hb4) 11 _ rfl
  have m12 := (HBOX1.out.next hb4) 12 _ rfl
  clear hb4 e1 e2 e9
  cases c4 with
  | true =>
    have HNE := Lib.hid (hc1 rfl)
    clear hc1 hc2
    go_wp2_with fail
    go_ret
    rw [HNE.out]
    exact ⟨rfl, HB4W.out⟩
  | false =>
  obtain ⟨k1, k2, k3, k4⟩ := hc2 rfl
  have K1 := Lib.hid k1
  have K2 := Lib.hid k2
  have K3 := Lib.hid k3
  have K4 := Lib.hid k4
  clear hc1 hc2 k1 k2 k3 k4
  go_upto_region 6 with fail
  go_cut [117] (fun x117 wx => ∃ c : Bool, x117 = .bool c ∧ (c = true → R = false) ∧ (c = false → namedB s.nm (nameI s) = true) ∧ Below w4.heap.size w4 wx)
  case first => as_aux_lemma =>
    cases bn with
    | true =>
      have hnI : nameI s = true := by have := hbn.out; unfold hasNm at this; unfold nameI; rw [this]; rfl
      have HNI := Lib.hid hnI
      clear hnI
      go_wp2_with fail
      refine (rname_any s.nm _ hn).mono ?_
      rintro e w5 ⟨rfl, hb5⟩
      have HB5 := Lib.hid hb5
      obtain ⟨b1, hb1⟩ : ∃ b, Hid (isName (bl s.nm) = b) := ⟨_, Lib.hid rfl⟩
      have HN5 : Hid (namedB s.nm (nameI s) = b1) := Lib.hid (by rw [HNI.out, ← hb1.out]; rfl)
      rw [hb1.out]
      replace m3 := (HBOX1.out.next (HB4.out.trans (hb5.mono HB4.out.size))) 3 _ rfl
      clear hb5
      cases b1 with
      | true =>
        go_wp2_with fail
        go_meet
        exact ⟨false, rfl, fun h => (by cases h), fun _ => HN5.out, HB5.out⟩
      | false =>
        go_wp2_with fail
        go_meet
        exact ⟨true, rfl, fun _ => (by rw [← hR.out, fields_no (.inr (.inr (.inl HN5.out))), Bool.and_false]), fun h => (by cases h), HB5.out⟩
    | false =>
      have hnf := hbn.out
      unfold hasNm at hnf
      cases hm : noName s.nm with
      | true =>
        obtain ⟨-, n1, n2⟩ := bool_toList.1 hm
        have n3 : (s.nm.toList != []) = false := by simpa using n2
        have HN5 : Hid (namedB s.nm (nameI s) = true) := Lib.hid (by unfold nameI; rw [hnf, hm, Bool.not_true, Bool.and_false]; exact hm)
        clear hm hnf
        go_wp2_with fail
        go_meet
        exact ⟨false, rfl, fun h => (by cases h), fun _ => HN5.out, Below.refl _ _⟩
      | false =>
        obtain ⟨n1, n2⟩ := bool_toList.2 hm
        have n3 : (s.nm.toList != []) = true := by simpa using n2
        cases bc with
        | false =>
          have HN5 : Hid (namedB s.nm (nameI s) = false) := Lib.hid (by unfold nameI; rw [hnf, hm, hbc.out]; exact hm)
          clear hm hnf
          go_wp2_with fail
          go_meet
          exact ⟨true, rfl, fun _ => (by rw [← hR.out, fields_no (.inr (.inr (.inl HN5.out))), Bool.and_false]), fun h => (by cases h), Below.refl _ _⟩
        | true =>
          obtain ⟨b1, hb1⟩ : ∃ b, Hid (isName (bl s.nm) = b) := ⟨_, Lib.hid rfl⟩
          have HN5 : Hid (namedB s.nm (nameI s) = b1) := Lib.hid (by unfold nameI; rw [hnf, hm, hbc.out, ← hb1.out]; rfl)
          clear hm hnf
          go_wp2_with fail
          refine (rname_any s.nm _ hn).mono ?_
          rintro e w5 ⟨rfl, hb5⟩
          have HB5 := Lib.hid hb5
          rw [hb1.out]
          clear hb5
          cases b1 with
          | true =>
            go_wp2_with fail
            go_meet
            exact ⟨false, rfl, fun h => (by cases h), fun _ => HN5.out, HB5.out⟩
          | false =>
            go_wp2_with fail
            go_meet
            exact ⟨true, rfl, fun _ => (by rw [← hR.out, fields_no (.inr (.inr (.inl HN5.out))), Bool.and_false]), fun h => (by cases h), HB5.out⟩
  case rest =>
  obtain ⟨c6, rfl, hc1, hc2, hb6⟩ := hcut
  have HB6 := Lib.hid (HB4.out.trans (hb6.mono HB4.out.size))
  have HB6W := Lib.hid (HB1.out.trans (HB6.out.mono HB1.out.size))
  obtain ⟨w6, hw6⟩ : ∃ w6 : World, w6 = wc := ⟨_, rfl⟩
  subst hw6
  have p4 := (HBOX1.out.next HB6.out) 4 _ rfl
  have p10 := (HBOX1.out.next HB6.out) 10 _ rfl
  have p11 := (HBOX1.out.next HB6.out) 11 _ rfl
  have p12 := (HBOX1.out.next HB6.out) 12 _ rfl
  clear hb6 m3 HB4 HB4W
  cases c6 with
  | true =>
    have HNE := Lib.hid (hc1 rfl)
    clear hc1 hc2
    go_wp2_with fail
    go_ret
    rw [HNE.out]
    exact ⟨rfl, HB6W.out⟩
  | false =>
  have K5 := Lib.hid (hc2 rfl)
  clear hc1 hc2
  go_upto_region 8 with fail
  go_cut [141] (fun x8 wx => ∃ c : Bool, x8 = .bool c ∧ (c = true → R = false) ∧ (c = false → namedB s.proc (procI s) = true ∧ ((s.kind == 4) = true ∨ s.args = [])) ∧ Below w6.heap.size w6 wx)
  case first => as_aux_lemma =>
    cases bc with
    | true =>
      have hpI : procI s = true := hbc.out
      cases hm : noName s.proc with
      | true =>
        obtain ⟨n0, n1, n2⟩ := bool_toList.1 hm
        have n3 : (s.proc.toList != []) = false := by simpa using n2
        have HN5 : Hid (namedB s.proc (procI s) = false) := Lib.hid (by rw [hpI]; show isName (bl s.proc) = false; exact noName_not hm)
        clear hm hpI n0
        go_wp2_with fail
        go_meet
        exact ⟨true, rfl, fun _ => (by rw [← hR.out, fields_no (.inr (.inr (.inr (.inl HN5.out)))), Bool.and_false]), fun h => (by cases h), Below.refl _ _⟩
      | false =>
        obtain ⟨n1, n2⟩ := bool_toList.2 hm
        have n3 : (s.proc.toList != []) = true := by simpa using n2
        obtain ⟨b1, hb1⟩ : ∃ b, Hid (isName (bl s.proc) = b) := ⟨_, Lib.hid rfl⟩
        have HN5 : Hid (namedB s.proc (procI s) = b1) := Lib.hid (by rw [hpI, ← hb1.out]; rfl)
        clear hm hpI
        go_wp2_with fail
        refine (rname_any s.proc _ hp).mono ?_
        rintro e w5 ⟨rfl, hb5⟩
        have HB5 := Lib.hid hb5
        rw [hb1.out]
        clear hb5
        cases b1 with
        | true =>
          go_wp2_with fail
          go_meet
          exact ⟨false, rfl, fun h => (by cases h), fun _ => ⟨HN5.out, .inl hbc.out⟩, HB5.out⟩
        | false =>
          go_wp2_with fail
          go_meet
          exact ⟨true, rfl, fun _ => (by rw [← hR.out, fields_no (.inr (.inr (.inr (.inl HN5.out)))), Bool.and_false]), fun h => (by cases h), HB5.out⟩
    | false =>
      have hpI : procI s = false := hbc.out
      cases hm : noName s.proc with
      | false =>
        obtain ⟨n1, n2⟩ := bool_toList.2 hm
        have n3 : (s.proc.toList != []) = true := by simpa using n2
        have HN5 : Hid (namedB s.proc (procI s) = false) := Lib.hid (by rw [hpI]; exact hm)
        clear hm hpI
        go_wp2_with fail
        go_meet
        exact ⟨true, rfl, fun _ => (by rw [← hR.out, fields_no (.inr (.inr (.inr (.inl HN5.out)))), Bool.and_false]), fun h => (by cases h), Below.refl _ _⟩
      | true =>
        obtain ⟨n0, n1, n2⟩ := bool_toList.1 hm
        have n3 : (s.proc.toList != []) = false := by simpa using n2
        have HN5 : Hid (namedB s.proc (procI s) = true) := Lib.hid (by rw [hpI]; exact hm)
        cases hl : decide (0 < s.args.length) with
        | true =>
          have HNE : Hid (R = false) := Lib.hid (by
            rw [← hR.out, fields_no (.inr (.inl ?_)), Bool.and_false]
            have : decide (0 < s.args.length) = true := hl
            unfold moreI
            rw [hpI, this]
            simp)
          have HL := Lib.hid hl
          clear hm hpI n0 hl
          go_wp2_with fail
          go_meet
          exact ⟨true, (by rw [HL.out]), fun _ => HNE.out, fun h => (by cases h), Below.refl _ _⟩
        | false =>
          have HE : Hid (s.args = []) := Lib.hid (List.eq_nil_of_length_eq_zero (by simp at hl; simp [hl]))
          have HL := Lib.hid hl
          clear hm hpI n0 hl
          go_wp2_with fail
          go_meet
          exact ⟨false, (by rw [HL.out]), fun h => (by cases h), fun _ => ⟨HN5.out, .inr HE.out⟩, Below.refl _ _⟩
  case rest =>
  obtain ⟨c8, rfl, hc1, hc2, hb8⟩ := hcut
  have HB8 := Lib.hid (HB6.out.trans (hb8.mono HB6.out.size))
  have HB8W := Lib.hid (HB1.out.trans (HB8.out.mono HB1.out.size))
  obtain ⟨w8, hw8⟩ : ∃ w8 : World, w8 = wc := ⟨_, rfl⟩
  subst hw8
  have r1 := (HBOX1.out.next HB8.out) 1 _ rfl
  have r10 := (HBOX1.out.next HB8.out) 10 _ rfl
  have r11 := (HBOX1.out.next HB8.out) 11 _ rfl
  have r12 := (HBOX1.out.next HB8.out) 12 _ rfl
  clear hb8 p4 p10 p11 p12 HB6 HB6W
  cases c8 with
  | true =>
    have HNE := Lib.hid (hc1 rfl)
    clear hc1 hc2
    go_wp2_with fail
    go_ret
    rw [HNE.out]
    exact ⟨rfl, HB8W.out⟩
  | false =>
  obtain ⟨k6, k7⟩ := hc2 rfl
  have K6 := Lib.hid k6
  have K7 := Lib.hid k7
  clear hc1 hc2 k6 k7
  have HARG := Lib.hid ((HH1.out.next HB8.out).arg)
  obtain ⟨_, _, -, hm1, hm2⟩ := HLA.out
  have HMAX := Lib.hid (Nat.le_trans hm1 hm2)
  clear hm1 hm2 HLA HLT
  go_wp2_with fail
  go_loopw [145] (fun i wr => ∃ k : Nat, k ≤ s.args.length ∧ i = .int .i64 k ∧ Below w8.heap.size w8 wr ∧ (s.args.take k).all (fun a => namedB a.nm a.ref && worthB a.x (!a.ref)) = true) (fun i _ => (s.args.length - intOf i).toNat)
  case atStart => exact ⟨0, by omega, rfl, Below.refl _ _, rfl⟩
  case round =>
    obtain ⟨k, hk, rfl, hbel, hall⟩ := hrel
    have HALL := Lib.hid hall
    have HBEL := Lib.hid hbel
    obtain ⟨w9, hw9⟩ : ∃ w9 : World, w9 = wr := ⟨_, rfl⟩
    subst hw9
    by_cases hlt : k < s.args.length
    · have hlt' : (k : Int) < (s.args.length : Int) := by omega
      have hmx := HMAX.out
      have hne : s.args ≠ [] := by intro h; rw [h] at hlt; simp at hlt
      obtain ⟨g, off, cap', hv, _, hcells⟩ := SlAt.cells (SlAt.imp HARG.out fun _ _ _ _ => ArAt.mono (cw_next hbel)) hne
      simp only [Value.slice.injEq] at hv
      obtain ⟨rfl, -, rfl⟩ := hv
      obtain ⟨t0, t1, t2, kx, t3, t4, t5, t6, hokx, hxx⟩ := hcells k hlt
      obtain ⟨ar, har⟩ : ∃ ar, Hid (s.args[k] = ar) := ⟨_, Lib.hid rfl⟩
      rw [har.out] at t0 t1 t2 t3 t4 t5 hokx hxx
      obtain ⟨xa, xc, rfl, -, -⟩ := hxx.form
      have d0 : w9.cell? ⟨g, off + k * 6, none⟩ = _ := t0
      have d1 : w9.cell? ⟨g, off + k * 6 + 1, none⟩ = _ := t1
      have d2 : w9.cell? ⟨g, off + k * 6 + 2, none⟩ = _ := t3
      have d3 : w9.cell? ⟨g, off + k * 6 + 3, none⟩ = _ := t4
      have d4 : w9.cell? ⟨g, off + k * 6 + 4, none⟩ = _ := t5
      have d5 : w9.cell? ⟨g, off + k * 6 + 5, none⟩ = _ := t6
      have hkb := boxed w9 (.cells #[.bool ar.ref, .string ar.nm, .int .i64 ar.x.op, .int .i64 ar.x.n, .string ar.x.nm, .slice xa ar.x.ks.length xc] 49)
      have HKB := Lib.hid hkb
      have HXX := Lib.hid (ExC.to (ExC.mono (cw_next hkb) hxx))
      have HOKX := Lib.hid hokx
      have hnm := t2
      clear hcells t0 t1 t3 t4 t5 t6 hxx hokx hne hbel hkb hall
      obtain ⟨b1, hb1⟩ : ∃ b1, Hid ((namedB ar.nm ar.ref && worthB ar.x (!ar.ref)) = b1) := ⟨_, Lib.hid rfl⟩
      go_wp2_with fail
      refine (arg_any d ar xa xc _ HOKX.out HXX.out hnm).mono ?_
      rintro e w10 ⟨rfl, hb10⟩
      rw [hb1.out]
      have HB10 := Lib.hid (HBEL.out.trans ((HKB.out.trans (hb10.mono HKB.out.size)).mono HBEL.out.size))
      clear hb10
      cases b1 with
      | false =>
        have HNE : Hid (R = false) := Lib.hid (by rw [← hR.out, fields_no (.inr (.inr (.inr (.inr (.inr (all_no _ _ hlt (by rw [har.out, hb1.out]))))))), Bool.and_false])
        go_wp2_with fail
        go_ret
        rw [HNE.out]
        exact ⟨rfl, HB8W.out.trans (HB10.out.mono HB8W.out.size)⟩
      | true =>
        go_wp2_with fail
        go_roundw
        case rel => exact ⟨k + 1, by omega, by go_num, HB10.out, all_take _ _ hlt HALL.out (by rw [har.out, hb1.out])⟩
        case measure => simp [intOf]; omega
    · have hlt' : ¬ (k : Int) < (s.args.length : Int) := by omega
      have hH : handedB s.args = true := by
        have := HALL.out
        rwa [List.take_of_length_le (by omega)] at this
      have HV : Hid (R = ((thenI s || decide (s.thn.length = 0)) && (otherI s || decide (s.els.length = 0)))) := Lib.hid (by
        rw [← hR.out]
        exact fields_last K1.out K2.out K3.out K4.out K5.out K6.out K7.out hH)
      have HBF := Lib.hid (HB8W.out.trans (HBEL.out.mono HB8W.out.size))
      have z1 := (HBOX1.out.next (HB8.out.trans (hbel.mono HB8.out.size))) 1 _ rfl
      have z11 := (HBOX1.out.next (HB8.out.trans (hbel.mono HB8.out.size))) 11 _ rfl
      have z12 := (HBOX1.out.next (HB8.out.trans (hbel.mono HB8.out.size))) 12 _ rfl
      clear hH hall hbel
      obtain ⟨t1, b1⟩ : ∃ t, Hid (decide (s.thn.length = 0) = t) := ⟨_, Lib.hid rfl⟩
      obtain ⟨t2, b2⟩ : ∃ t, Hid (decide (s.els.length = 0) = t) := ⟨_, Lib.hid rfl⟩
      cases t1 with
      | true =>
        have c1 : ((s.thn.length : Int) == 0) = true := by have := of_decide_eq_true b1.out; rw [this]; rfl
        cases t2 with
        | true =>
          have c2 : ((s.els.length : Int) == 0) = true := by have := of_decide_eq_true b2.out; rw [this]; rfl
          go_wp2_with fail
          go_ret
          rw [HV.out]
          refine ⟨?_, HBF.out⟩
          unfold thenI otherI
          rw [b1.out, b2.out]
          simp
        | false =>
          have c2 : ((s.els.length : Int) == 0) = false := by have := b2.out; simp at this ⊢; omega
          cases b5 : (s.kind == 5) with
          | true =>
            go_wp2_with fail
            go_ret
            rw [HV.out]
            refine ⟨?_, HBF.out⟩
            unfold thenI otherI
            rw [b1.out, b2.out, b5]
            simp
          | false =>
            go_wp2_with fail
            go_ret
            rw [HV.out]
            refine ⟨?_, HBF.out⟩
            unfold thenI otherI
            rw [b1.out, b2.out, b5]
            simp
      | false =>
        have c1 : ((s.thn.length : Int) == 0) = false := by have := b1.out; simp at this ⊢; omega
        cases b5 : (s.kind == 5) with
        | true =>
          cases t2 with
          | true =>
            have c2 : ((s.els.length : Int) == 0) = true := by have := of_decide_eq_true b2.out; rw [this]; rfl
            go_wp2_with fail
            go_ret
            rw [HV.out]
            refine ⟨?_, HBF.out⟩
            unfold thenI otherI
            rw [b1.out, b5, b2.out]
            simp
          | false =>
            have c2 : ((s.els.length : Int) == 0) = false := by have := b2.out; simp at this ⊢; omega
            go_wp2_with fail
            go_ret
            rw [HV.out]
            refine ⟨?_, HBF.out⟩
            unfold thenI otherI
            rw [b1.out, b5, b2.out]
            simp
        | false =>
          cases b6 : (s.kind == 6) with
          | true =>
            cases t2 with
            | true =>
              have c2 : ((s.els.length : Int) == 0) = true := by have := of_decide_eq_true b2.out; rw [this]; rfl
              go_wp2_with fail
              go_ret
              rw [HV.out]
              refine ⟨?_, HBF.out⟩
              unfold thenI otherI
              rw [b1.out, b5, b6, b2.out]
              simp
            | false =>
              have c2 : ((s.els.length : Int) == 0) = false := by have := b2.out; simp at this ⊢; omega
              go_wp2_with fail
              go_ret
              rw [HV.out]
              refine ⟨?_, HBF.out⟩
              unfold thenI otherI
              rw [b1.out, b5, b6, b2.out]
              simp
          | false =>
            go_wp2_with fail
            go_ret
            rw [HV.out]
            refine ⟨?_, HBF.out⟩
            unfold thenI otherI
            rw [b1.out, b5, b6]
            simp
end Go.Proofs.Ytghlmengcidmdaa.Tr
