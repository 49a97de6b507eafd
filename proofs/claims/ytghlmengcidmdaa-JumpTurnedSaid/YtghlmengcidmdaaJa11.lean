/- Parts of OneW, RMayW, TurnP: walks and plain laws that later texts use. Conditions: as each statement says. -/
import Derived.Test.YtghlmengcidmdaaJa0
import Derived.Test.YtghlmengcidmdaaJa1
import Derived.Test.YtghlmengcidmdaaJa2
import Derived.Test.YtghlmengcidmdaaJa3
import Derived.Test.YtghlmengcidmdaaJa4
import Derived.Test.YtghlmengcidmdaaJa5
import Derived.Test.YtghlmengcidmdaaJa6
import Derived.Test.YtghlmengcidmdaaJa7
import Derived.Test.YtghlmengcidmdaaJa9
import Derived.Test.YtghlmengcidmdaaJa10
import Derived.Deep.RegionHeld3
import Derived.Deep.QuietTactic
import Derived.BigQuiet
import Derived.Deep.DeepCutAuto
import Derived.Deep.CutBlock
import Derived.WalkKit
import Derived.Test.YtghlmengcidmdaaRows
import Derived.WalkSpells
import Derived.Lib.Hide
import Derived.Below
import Derived.WalkSmall
import Derived.IntWalk
import Derived.StillTailTactics
import Derived.Deep.RegionLaw
import Derived.RegionTactic
import Derived.Laws.BitsAllLaws
import Derived.Outline
import Derived.Laws.StructEq
import Derived.OwnWalk
import Derived.OneCell
import Derived.Deep.AppendLies
import Derived.Maps.Range
import Derived.Lib.SmallJoins
import Derived.Deep.Upon
import Derived.Maps.AppendAt
import Derived.Laws.OwnMore
import Derived.Deep.RegionWith
import Derived.Laws.Cover3
import Derived.Deep.Slices
import Derived.Deep.Fields
import Derived.SliceStrings
import Derived.ChangeSlices
import Derived.OrdersHeld
section
/- What names, none, arg, one of the reference compute. Conditions: the arguments lie in memory. -/
namespace Go.Proofs.Ytghlmengcidmdaa.Tr
open Go.RowKit Go.Proofs.Ytghlmengcidmdaa.Lx Go.Proofs.Ytghlmengcidmdaa.Wd
set_option linter.unusedSimpArgs false
set_option maxHeartbeats 1000000 in
theorem rnames1_any (l : List ByteArray) (v : Value) (w : World) (hl : StrsAt w v l) :
    Calls Try.prog 121 #[v] w fun e w' => e = .returned (.bool (namesB l)) ∧ Below w.heap.size w w' := by
  obtain ⟨a, cap, rfl, hc1, hc2⟩ := hl.form
  have HL := Lib.hid hl
  clear hl
  go_enter Try.func121, Try.ntmps121
  go_wp2_with fail
  go_loopw [7] (fun i wr => ∃ k : Nat, k ≤ l.length ∧ i = .int .i64 k ∧ Below w.heap.size w wr ∧ (l.take k).all (fun s => isName (bl s)) = true) (fun i _ => (l.length - intOf i).toNat)
  case atStart => exact ⟨0, by omega, rfl, Below.refl _ _, rfl⟩
  case round =>
    obtain ⟨k, hk, rfl, hbel, hall⟩ := hrel
    have HBEL := Lib.hid hbel
    have HALL := Lib.hid hall
    by_cases hlt : k < l.length
    · have hlt' : (k : Int) < (l.length : Int) := by omega
      have hne : l ≠ [] := by intro h; rw [h] at hlt; simp at hlt
      obtain ⟨g, off, cap', hv, hcells⟩ := (HL.out.next hbel).cells hne
      simp only [Value.slice.injEq] at hv
      obtain ⟨rfl, -, rfl⟩ := hv
      obtain ⟨hs, c0⟩ := hcells k hlt
      obtain ⟨s, hs2⟩ : ∃ s, Hid (l[k] = s) := ⟨_, Lib.hid rfl⟩
      rw [hs2.out] at c0 hs
      clear hcells hne hall hbel
      obtain ⟨b, hb⟩ : ∃ b, Hid (isName (bl s) = b) := ⟨_, Lib.hid rfl⟩
      go_wp2_with fail
      refine (rname_any s _ hs).mono ?_
      rintro e w' ⟨rfl, hb2⟩
      have HB2 := Lib.hid (HBEL.out.trans (hb2.mono HBEL.out.size))
      clear hb2
      rw [hb.out]
      cases b with
      | true =>
        go_wp2_with fail
        go_roundw
        case rel => exact ⟨k + 1, by omega, by go_num, HB2.out, all_take _ _ hlt HALL.out (by rw [hs2.out]; exact hb.out)⟩
        case measure => simp [intOf]; omega
      | false =>
        have he : namesB l = false := all_no _ _ hlt (by rw [hs2.out]; exact hb.out)
        have HE := Lib.hid he
        clear he
        go_wp2_with fail
        go_ret
        rw [HE.out]
        exact ⟨rfl, HB2.out⟩
    · have hlt' : ¬ (k : Int) < (l.length : Int) := by omega
      have he : namesB l = true := by
        have := HALL.out
        rwa [List.take_of_length_le (by omega)] at this
      have HE := Lib.hid he
      clear he hall hbel
      go_wp2_with fail
      go_ret
      rw [HE.out]
      exact ⟨rfl, HBEL.out⟩
theorem rnone_any (x : Ex) (a : Option Addr) (cap : Nat) (w : World) :
    Calls Try.prog 143 #[exV x (.slice a x.ks.length cap)] w fun e w' => e = .returned (.bool (noneE x)) ∧ Below w.heap.size w w' := by
  have HB := Lib.hid (boxed w (.cells #[.int .i64 x.op, .int .i64 x.n, .string x.nm, .slice a x.ks.length cap] 37))
  unfold exV noneE
  cases h1 : (x.op == 0) with
  | false =>
    go_enter Try.func143, Try.ntmps143
    go_wp2_with fail
    go_ret
    exact ⟨rfl, HB.out⟩
  | true =>
    cases h2 : (x.n == 0) with
    | false =>
      go_enter Try.func143, Try.ntmps143
      go_wp2_with fail
      go_ret
      exact ⟨rfl, HB.out⟩
    | true =>
      cases hm : noName x.nm with
      | false =>
        obtain ⟨n1, n2⟩ := bool_toList.2 hm
        clear hm
        go_enter Try.func143, Try.ntmps143
        go_wp2_with fail
        go_ret
        exact ⟨rfl, HB.out⟩
      | true =>
        obtain ⟨-, n1, n2⟩ := bool_toList.1 hm
        clear hm
        cases h4 : x.ks.isEmpty with
        | false =>
          have b4 : ((x.ks.length : Int) == 0) = false := by
            cases hq : x.ks with
            | nil => rw [hq] at h4; cases h4
            | cons a b => simp; omega
          clear h4
          go_enter Try.func143, Try.ntmps143
          go_wp2_with fail
          go_ret
          exact ⟨rfl, HB.out⟩
        | true =>
          have b4 : ((x.ks.length : Int) == 0) = true := by
            cases hq : x.ks with
            | nil => rfl
            | cons a b => rw [hq] at h4; cases h4
          clear h4
          go_enter Try.func143, Try.ntmps143
          go_wp2_with fail
          go_ret
          exact ⟨rfl, HB.out⟩
set_option maxHeartbeats 2000000 in
theorem arg_any (d : Nat) (ar : Ar) (xa : Option Addr) (xc : Nat) (w : World) (hok : OkE ar.x) (hk : ExK d w (.slice xa ar.x.ks.length xc) ar.x.ks) (hn : ar.nm.size ≤ 9223372036854775807) :
    Calls Try.prog 144 #[.agg #[.bool ar.ref, .string ar.nm, .int .i64 ar.x.op, .int .i64 ar.x.n, .string ar.x.nm, .slice xa ar.x.ks.length xc]] w fun e w' => e = .returned (.bool (namedB ar.nm ar.ref && worthB ar.x (!ar.ref))) ∧ Below w.heap.size w w' := by
  have hbx := boxed w (.cells #[.bool ar.ref, .string ar.nm, .int .i64 ar.x.op, .int .i64 ar.x.n, .string ar.x.nm, .slice xa ar.x.ks.length xc] 49)
  have HBX := Lib.hid hbx
  have HBOX := Lib.hid (box_new w #[.bool ar.ref, .string ar.nm, .int .i64 ar.x.op, .int .i64 ar.x.n, .string ar.x.nm, .slice xa ar.x.ks.length xc] 49)
  have HK := Lib.hid (hk.next hbx)
  have HOK := Lib.hid hok
  clear hbx hk hok
  obtain ⟨R, hR⟩ : ∃ R, Hid ((namedB ar.nm ar.ref && worthB ar.x (!ar.ref)) = R) := ⟨_, Lib.hid rfl⟩
  rw [hR.out]
  cases hr : ar.ref with
  | true =>
    go_enter Try.func144, Try.ntmps144
    rw [hr] at HBX HBOX HK
    go_wp2_with fail
    refine (rname_any ar.nm _ hn).mono ?_
    rintro e w2 ⟨rfl, hb2⟩
    have HB2 := Lib.hid (HBX.out.trans (hb2.mono HBX.out.size))
    have HK2 := Lib.hid (HK.out.next hb2)
    obtain ⟨b1, hb1⟩ : ∃ b, Hid (isName (bl ar.nm) = b) := ⟨_, Lib.hid rfl⟩
    rw [hb1.out]
    have e2 := (HBOX.out.next hb2) 2 _ rfl
    have e3 := (HBOX.out.next hb2) 3 _ rfl
    have e4 := (HBOX.out.next hb2) 4 _ rfl
    have e5 := (HBOX.out.next hb2) 5 _ rfl
    clear hb2
    cases b1 with
    | false =>
      go_wp2_with fail
      go_ret
      rw [← hR.out, hr]
      simp only [namedB, if_true, hb1.out, Bool.false_and]
      exact ⟨by simp, HB2.out⟩
    | true =>
      go_wp2_with fail
      refine (rnone_any ar.x xa xc _).mono ?_
      rintro e w3 ⟨rfl, hb3⟩
      have HB3 := Lib.hid (HB2.out.trans (hb3.mono HB2.out.size))
      obtain ⟨b2, hbb⟩ : ∃ b, Hid (noneE ar.x = b) := ⟨_, Lib.hid rfl⟩
      rw [hbb.out]
      clear hb3
      go_wp2_with fail
      go_ret
      rw [← hR.out, hr]
      simp only [namedB, worthB, if_true, hb1.out, Bool.true_and, Bool.not_true, hbb.out]
      exact ⟨by simp, HB3.out⟩
  | false =>
    go_enter Try.func144, Try.ntmps144
    rw [hr] at HBX HBOX HK
    cases hm : noName ar.nm with
    | true =>
      obtain ⟨-, n1, n2⟩ := bool_toList.1 hm
      have HM := Lib.hid hm
      clear hm
      go_wp2_with fail
      refine (rmayExpr_any d ar.x _ _ HOK.out HK.out).mono ?_
      rintro e w3 ⟨rfl, hb3⟩
      have HB3 := Lib.hid (HBX.out.trans (hb3.mono HBX.out.size))
      obtain ⟨b2, hbb⟩ : ∃ b, Hid (mayE 20 ar.x = b) := ⟨_, Lib.hid rfl⟩
      rw [hbb.out]
      clear hb3
      go_wp2_with fail
      go_ret
      rw [← hR.out, hr]
      simp only [namedB, worthB, HM.out, Bool.true_and, Bool.not_false, if_true, hbb.out]
      exact ⟨by simp, HB3.out⟩
    | false =>
      obtain ⟨n1, n2⟩ := bool_toList.2 hm
      have HM := Lib.hid hm
      clear hm
      go_wp2_with fail
      go_ret
      rw [← hR.out, hr]
      simp only [namedB, HM.out]
      exact ⟨by simp, HBX.out⟩
theorem fields_no {s : St} (h : okK s = false ∨ moreI s = true ∨ namedB s.nm (nameI s) = false ∨ namedB s.proc (procI s) = false ∨ worthB s.x (xI s) = false ∨ handedB s.args = false) : fieldsB s = false := by
  unfold fieldsB
  rcases h with h | h | h | h | h | h <;> simp [h]
theorem noName_not {s : ByteArray} (h : noName s = true) : isName (bl s) = false := by
  cases hb : isName (bl s) with
  | false => rfl
  | true => have := name_some hb; rw [h] at this; cases this
theorem fields_last {s : St} (h1 : namesB s.labels = true) (h2 : okK s = true) (h3 : worthB s.x (xI s) = true) (h4 : hasI s = false) (h5 : namedB s.nm (nameI s) = true) (h6 : namedB s.proc (procI s) = true) (h7 : (s.kind == 4) = true ∨ s.args = []) (h8 : handedB s.args = true) :
    (namesB s.labels && fieldsB s) = ((thenI s || decide (s.thn.length = 0)) && (otherI s || decide (s.els.length = 0))) := by
  have h9 : (!procI s && decide (0 < s.args.length)) = false := by
    rcases h7 with h7 | h7
    · unfold procI; rw [h7]; rfl
    · rw [h7]; simp
  unfold fieldsB moreI
  rw [h1, h2, h3, h4, h5, h6, h8, h9]
  have e1 : decide (0 < s.thn.length) = !decide (s.thn.length = 0) := by cases s.thn <;> simp
  have e2 : decide (0 < s.els.length) = !decide (s.els.length = 0) := by cases s.els <;> simp
  rw [e1, e2]
  cases thenI s <;> cases otherI s <;> cases decide (s.thn.length = 0) <;> cases decide (s.els.length = 0) <;> rfl
def hasNm (s : St) : Bool := s.kind == 1 || s.kind == 2 || s.kind == 10
set_option maxHeartbeats 4000000 in
set_option maxRecDepth 100000 in
theorem one_any (d : Nat) (s : St) (la aa ta ea ka : Option Addr) (lc ac tc ec kc : Nat) (w : World) (hok : OkE s.x) (hn : s.nm.size ≤ 9223372036854775807) (hp : s.proc.size ≤ 9223372036854775807)
    (hh : Hang d w s (.slice la s.labels.length lc) (.slice ka s.x.ks.length kc) (.slice aa s.args.length ac) (.slice ta s.thn.length tc) (.slice ea s.els.length ec)) :
    Calls Try.prog 123 #[.agg #[.int .i64 s.id, .int .i64 s.kind, .slice la s.labels.length lc, .string s.nm, .string s.proc, .int .i64 s.x.op, .int .i64 s.x.n, .string s.x.nm, .slice ka s.x.ks.length kc, .bool s.has, .slice aa s.args.length ac, .slice ta s.thn.length tc, .slice ea s.els.length ec]] w fun e w' => e = .returned (.bool (namesB s.labels && fieldsB s)) ∧ Below w.heap.size w w' := by
  have hbx := boxed w (.cells #[.int .i64 s.id, .int .i64 s.kind, .slice la s.labels.length lc, .string s.nm, .string s.proc, .int .i64 s.x.op, .int .i64 s.x.n, .string s.x.nm, .slice ka s.x.ks.length kc, .bool s.has, .slice aa s.args.length ac, .slice ta s.thn.length tc, .slice ea s.els.length ec] 41)
  have HBX := Lib.hid hbx
  have HBOX := Lib.hid (box_new w #[.int .i64 s.id, .int .i64 s.kind, .slice la s.labels.length lc, .string s.nm, .string s.proc, .int .i64 s.x.op, .int .i64 s.x.n, .string s.x.nm, .slice ka s.x.ks.length kc, .bool s.has, .slice aa s.args.length ac, .slice ta s.thn.length tc, .slice ea s.els.length ec] 41)
  have HH := Lib.hid (hh.next hbx)
  have HOK := Lib.hid hok
  have HLA := Lib.hid hh.arg.form
  have HLT := Lib.hid hh.thn.form
  obtain ⟨R, hR⟩ : ∃ R, Hid ((namesB s.labels && fieldsB s) = R) := ⟨_, Lib.hid rfl⟩
  rw [hR.out]
  clear hbx hh hok
  go_enter Try.func123, Try.ntmps123
  go_upto_region 1 with fail
  refine cut_world (fun wx => Below w.heap.size w wx ∧ BoxAt wx w.heap.size [.int .i64 s.id, .int .i64 s.kind, .slice la s.labels.length lc, .string s.nm, .string s.proc, .int .i64 s.x.op, .int .i64 s.x.n, .string s.x.nm, .slice ka s.x.ks.length kc, .bool s.has, .slice aa s.args.length ac, .slice ta s.thn.length tc, .slice ea s.els.length ec] ∧ Hang d wx s (.slice la s.labels.length lc) (.slice ka s.x.ks.length kc) (.slice aa s.args.length ac) (.slice ta s.thn.length tc) (.slice ea s.els.length ec)) ⟨HBX.out, HBOX.out, HH.out⟩ ?_
  clear HBX HBOX HH
  rintro w1 ⟨hb1, hbox1, hh1⟩
  have HB1 := Lib.hid hb1
  have HBOX1 := Lib.hid hbox1
  have HH1 := Lib.hid hh1
  have e1 := hbox1 1 _ rfl
  have e2 := hbox1 2 _ rfl
  have e9 := hbox1 9 _ rfl
  clear hb1 hbox1 hh1
  go_cut [3] (fun x3 wx => x3 = .bool (xI s) ∧ w1 = wx)
  case first => as_aux_lemma =>
    cases h1 : (s.kind == 1) with
    | true =>
      go_wp2_with fail
      go_meet
      exact ⟨by simp [xI, h1], rfl⟩
    | false =>
      cases h3 : (s.kind == 3) with
      | true =>
        go_wp2_with fail
        go_meet
        exact ⟨by simp [xI, h1, h3], rfl⟩
      | false =>
        cases h5 : (s.kind == 5) with
        | true =>
          go_wp2_with fail
          go_meet
          exact ⟨by simp [xI, h1, h3, h5], rfl⟩
        | false =>
          cases h6 : (s.kind == 6) with
          | true =>
            go_wp2_with fail
            go_meet
            exact ⟨by simp [xI, h1, h3, h5, h6], rfl⟩
          | false =>
            cases h9 : (s.kind == 9) with
            | true =>
              obtain ⟨bh, hbh⟩ : ∃ b, Hid (s.has = b) := ⟨_, Lib.hid rfl⟩
              rw [hbh.out] at e9
              cases bh with
              | true =>
                go_wp2_with fail
                go_meet
                exact ⟨by simp [xI, h1, h3, h5, h6, h9, hbh.out], rfl⟩
              | false =>
                go_wp2_with fail
                go_meet
                exact ⟨by simp [xI, h1, h3, h5, h6, h9, hbh.out], rfl⟩
            | false =>
              go_wp2_with fail
              go_meet
              exact ⟨by simp [xI, h1, h3, h5, h6, h9], rfl⟩
  case rest =>
  obtain ⟨rfl, rfl⟩ := hcut
  obtain ⟨bx, hbx⟩ : ∃ b, Hid (xI s = b) := ⟨_, Lib.hid rfl⟩
  rw [hbx.out]
  go_upto_region 2 with fail
  go_cut [4] (fun x4 wx => x4 = .bool (hasNm s) ∧ w1 = wx)
  case first => as_aux_lemma =>
    cases h1 : (s.kind == 1) with
    | true =>
      go_wp2_with fail
      go_meet
      exact ⟨by simp [hasNm, h1], rfl⟩
    | false =>
      cases h2 : (s.kind == 2) with
      | true =>
        go_wp2_with fail
        go_meet
        exact ⟨by simp [hasNm, h1, h2], rfl⟩
      | false =>
        cases h10 : (s.kind == 10) with
        | true =>
          go_wp2_with fail
          go_meet
          exact ⟨by simp [hasNm, h1, h2, h10], rfl⟩
        | false =>
          go_wp2_with fail
          go_meet
          exact ⟨by simp [hasNm, h1, h2, h10], rfl⟩
  case rest =>
  obtain ⟨rfl, rfl⟩ := hcut
  obtain ⟨bn, hbn⟩ : ∃ b, Hid (hasNm s = b) := ⟨_, Lib.hid rfl⟩
  rw [hbn.out]
  go_upto_region 3 with fail
  go_cut [5] (fun x5 wx => x5 = .bool (s.kind == 4) ∧ w1 = wx)
  case first => as_aux_lemma =>
    go_wp2_with fail
    go_meet
    exact ⟨rfl, rfl⟩
  case rest =>
  obtain ⟨rfl, rfl⟩ := hcut
  obtain ⟨bc, hbc⟩ : ∃ b, Hid ((s.kind == 4) = b) := ⟨_, Lib.hid rfl⟩
  rw [hbc.out]
  go_upto_region 4 with fail
  go_cut [92] (fun x92 wx => ∃ c : Bool, x92 = .bool c ∧ (c = true → R = false) ∧ (c = false → namesB s.labels = true ∧ okK s = true ∧ worthB s.x (xI s) = true ∧ hasI s = false) ∧ Below w1.heap.size w1 wx)
  case first => as_aux_lemma =>
    have hlab := HH1.out.lab
    cases hk0 : okK s with
    | false =>
      have hne : R = false := by rw [← hR.out, fields_no (.inl hk0), Bool.and_false]
      have hk' : s.kind < 1 ∨ 10 < s.kind := by
        unfold okK at hk0
        simp only [Bool.and_eq_false_iff, decide_eq_false_iff_not] at hk0
        omega
      have HNE := Lib.hid hne
      clear hk0 hne hR
      rcases hk' with hk' | hk'
      · have q1 : decide (s.kind < 1) = true := by simpa using hk'
        clear hk'
        go_wp2_with fail
        go_meet
        exact ⟨true, rfl, fun _ => HNE.out, fun h => (by cases h), Below.refl _ _⟩
      · have q1 : decide (s.kind < 1) = false := by simp; omega
        have q2 : decide (10 < s.kind) = true := by simpa using hk'
        clear hk'
        go_wp2_with fail
        go_meet
        exact ⟨true, rfl, fun _ => HNE.out, fun h => (by cases h), Below.refl _ _⟩
    | true =>
      have q1 : decide (s.kind < 1) = false := by unfold okK at hk0; simp at hk0 ⊢; omega
      have q2 : decide (10 < s.kind) = false := by unfold okK at hk0; simp at hk0 ⊢; omega
      have HK0 := Lib.hid hk0
      clear hk0
      go_wp2_with fail
      refine (rnames1_any s.labels _ _ (StrC.to hlab)).mono ?_
      rintro e w2 ⟨rfl, hb2⟩
      obtain ⟨b1, hb1⟩ : ∃ b, Hid (namesB s.labels = b) := ⟨_, Lib.hid rfl⟩
      rw [hb1.out]
      have HB2 := Lib.hid hb2
      have e1 := (HBOX1.out.next hb2) 1 _ rfl
      have e5 := (HBOX1.out.next hb2) 5 _ rfl
      have e6 := (HBOX1.out.next hb2) 6 _ rfl
      have e7 := (HBOX1.out.next hb2) 7 _ rfl
      have e8 := (HBOX1.out.next hb2) 8 _ rfl
      have e9 := (HBOX1.out.next hb2) 9 _ rfl
      clear hb2 hlab
      cases b1 with
      | false =>
        have HNE : Hid (R = false) := Lib.hid (by rw [← hR.out, hb1.out, Bool.false_and])
        clear hR
        go_wp2_with fail
        go_meet
        exact ⟨true, rfl, fun _ => HNE.out, fun h => (by cases h), HB2.out⟩
      | true =>
        cases bx with
        | true =>
          go_wp2_with fail
          refine (rmayExpr_any d s.x _ _ HOK.out (ExC.to HH1.out.kid |>.next HB2.out)).mono ?_
          rintro e w3 ⟨rfl, hb3⟩
          obtain ⟨b2, hb2⟩ : ∃ b, Hid (mayE 20 s.x = b) := ⟨_, Lib.hid rfl⟩
          rw [hb2.out]
          have HB3 := Lib.hid (HB2.out.trans (hb3.mono HB2.out.size))
          clear hb3
          replace e1 := (HBOX1.out.next HB3.out) 1 _ rfl
          replace e9 := (HBOX1.out.next HB3.out) 9 _ rfl
          have hw : Hid (worthB s.x (xI s) = b2) := Lib.hid (by rw [hbx.out, ← hb2.out]; rfl)
          cases b2 with
          | false =>
            have HNE : Hid (R = false) := Lib.hid (by rw [← hR.out, fields_no (.inr (.inr (.inr (.inr (.inl hw.out))))), Bool.and_false])
            clear hR
            go_wp2_with fail
            go_meet
            exact ⟨true, rfl, fun _ => HNE.out, fun h => (by cases h), HB3.out⟩
          | true =>
            obtain ⟨bh, hbh⟩ : ∃ b, Hid (s.has = b) := ⟨_, Lib.hid rfl⟩
            rw [hbh.out] at e9
            cases bh with
            | false =>
              go_wp2_with fail
              go_meet
              exact ⟨false, rfl, fun h => (by cases h), fun _ => ⟨hb1.out, HK0.out, hw.out, by simp [hasI, hbh.out]⟩, HB3.out⟩
            | true =>
              cases h9 : (s.kind == 9) with
              | true =>
                have q9 : (s.kind != 9) = false := by simpa using h9
                have H9 := Lib.hid h9
                clear h9
                go_wp2_with fail
                go_meet
                exact ⟨false, rfl, fun h => (by cases h), fun _ => ⟨hb1.out, HK0.out, hw.out, by simp [hasI, H9.out]⟩, HB3.out⟩
              | false =>
                have q9 : (s.kind != 9) = true := by simpa using h9
                have HNE : Hid (R = false) := Lib.hid (by rw [← hR.out, fields_no (.inr (.inl (by simp [moreI, hasI, hbh.out, h9]))), Bool.and_false])
                clear h9 hR
                go_wp2_with fail
                go_meet
                exact ⟨true, rfl, fun _ => HNE.out, fun h => (by cases h), HB3.out⟩
        | false =>
          go_wp2_with fail
          refine (rnone_any s.x ka kc _).mono ?_
          rintro e w3 ⟨rfl, hb3⟩
          obtain ⟨b2, hb2⟩ : ∃ b, Hid (noneE s.x = b) := ⟨_, Lib.hid rfl⟩
          rw [hb2.out]
          have HB3 := Lib.hid (HB2.out.trans (hb3.mono HB2.out.size))
          clear hb3
          replace e1 := (HBOX1.out.next HB3.out) 1 _ rfl
          replace e9 := (HBOX1.out.next HB3.out) 9 _ rfl
          have hw : Hid (worthB s.x (xI s) = b2) := Lib.hid (by rw [hbx.out, ← hb2.out]; rfl)
          cases b2 with
          | false =>
            have HNE : Hid (R = false) := Lib.hid (by rw [← hR.out, fields_no (.inr (.inr (.inr (.inr (.inl hw.out))))), Bool.and_false])
            clear hR
            go_wp2_with fail
            go_meet
            exact ⟨true, rfl, fun _ => HNE.out, fun h => (by cases h), HB3.out⟩
          | true =>
            obtain ⟨bh, hbh⟩ : ∃ b, Hid (s.has = b) := ⟨_, Lib.hid rfl⟩
            rw [hbh.out] at e9
            cases bh with
            | false =>
              go_wp2_with fail
              go_meet
              exact ⟨false, rfl, fun h => (by cases h), fun _ => ⟨hb1.out, HK0.out, hw.out, by simp [hasI, hbh.out]⟩, HB3.out⟩
            | true =>
              cases h9 : (s.kind == 9) with
              | true =>
                have q9 : (s.kind != 9) = false := by simpa using h9
                have H9 := Lib.hid h9
                clear h9
                go_wp2_with fail
                go_meet
                exact ⟨false, rfl, fun h => (by cases h), fun _ => ⟨hb1.out, HK0.out, hw.out, by simp [hasI, H9.out]⟩, HB3.out⟩
              | false =>
                have q9 : (s.kind != 9) = true := by simpa using h9
                have HNE : Hid (R = false) := Lib.hid (by rw [← hR.out, fields_no (.inr (.inl (by simp [moreI, hasI, hbh.out, h9]))), Bool.and_false])
                clear h9 hR
                go_wp2_with fail
                go_meet
                exact ⟨true, rfl, fun _ => HNE.out, fun h => (by cases h), HB3.out⟩
  case rest =>
  obtain ⟨c4, rfl, hc1, hc2, hb4⟩ := hcut
  have HB4 := Lib.hid hb4
  have HB4W := Lib.hid (HB1.out.trans (hb4.mono HB1.out.size))
  obtain ⟨w4, hw4⟩ : ∃ w4 : World, w4 = wc := ⟨_, rfl⟩
  subst hw4
  have m3 := (HBOX1.out.next hb4) 3 _ rfl
  have m4 := (HBOX1.out.next hb4) 4 _ rfl
  have m10 := (HBOX1.out.next hb4) 10 _ rfl
  have m11 := (HBOX1.out.next hb4) 11 _ rfl
  have m12 := (HBOX1.out.next hb4) 12 _ rfl
  clear hb4 e1 e2 e9
  cases c4 with
  | true =>
    have HNE := Lib.hid (hc1 rfl)
    clear hc1 hc2
    go_wp2_with fail
    go_ret
    rw [HNE.out]
    exact ⟨rfl, HB4W.out⟩
  | false =>
  obtain ⟨k1, k2, k3, k4⟩ := hc2 rfl
  have K1 := Lib.hid k1
  have K2 := Lib.hid k2
  have K3 := Lib.hid k3
  have K4 := Lib.hid k4
  clear hc1 hc2 k1 k2 k3 k4
  go_upto_region 6 with fail
  go_cut [117] (fun x117 wx => ∃ c : Bool, x117 = .bool c ∧ (c = true → R = false) ∧ (c = false → namedB s.nm (nameI s) = true) ∧ Below w4.heap.size w4 wx)
  case first => as_aux_lemma =>
    cases bn with
    | true =>
      have hnI : nameI s = true := by have := hbn.out; unfold hasNm at this; unfold nameI; rw [this]; rfl
      have HNI := Lib.hid hnI
      clear hnI
      go_wp2_with fail
      refine (rname_any s.nm _ hn).mono ?_
      rintro e w5 ⟨rfl, hb5⟩
      have HB5 := Lib.hid hb5
      obtain ⟨b1, hb1⟩ : ∃ b, Hid (isName (bl s.nm) = b) := ⟨_, Lib.hid rfl⟩
      have HN5 : Hid (namedB s.nm (nameI s) = b1) := Lib.hid (by rw [HNI.out, ← hb1.out]; rfl)
      rw [hb1.out]
      replace m3 := (HBOX1.out.next (HB4.out.trans (hb5.mono HB4.out.size))) 3 _ rfl
      clear hb5
      cases b1 with
      | true =>
        go_wp2_with fail
        go_meet
        exact ⟨false, rfl, fun h => (by cases h), fun _ => HN5.out, HB5.out⟩
      | false =>
        go_wp2_with fail
        go_meet
        exact ⟨true, rfl, fun _ => (by rw [← hR.out, fields_no (.inr (.inr (.inl HN5.out))), Bool.and_false]), fun h => (by cases h), HB5.out⟩
    | false =>
      have hnf := hbn.out
      unfold hasNm at hnf
      cases hm : noName s.nm with
      | true =>
        obtain ⟨-, n1, n2⟩ := bool_toList.1 hm
        have n3 : (s.nm.toList != []) = false := by simpa using n2
        have HN5 : Hid (namedB s.nm (nameI s) = true) := Lib.hid (by unfold nameI; rw [hnf, hm, Bool.not_true, Bool.and_false]; exact hm)
        clear hm hnf
        go_wp2_with fail
        go_meet
        exact ⟨false, rfl, fun h => (by cases h), fun _ => HN5.out, Below.refl _ _⟩
      | false =>
        obtain ⟨n1, n2⟩ := bool_toList.2 hm
        have n3 : (s.nm.toList != []) = true := by simpa using n2
        cases bc with
        | false =>
          have HN5 : Hid (namedB s.nm (nameI s) = false) := Lib.hid (by unfold nameI; rw [hnf, hm, hbc.out]; exact hm)
          clear hm hnf
          go_wp2_with fail
          go_meet
          exact ⟨true, rfl, fun _ => (by rw [← hR.out, fields_no (.inr (.inr (.inl HN5.out))), Bool.and_false]), fun h => (by cases h), Below.refl _ _⟩
        | true =>
          obtain ⟨b1, hb1⟩ : ∃ b, Hid (isName (bl s.nm) = b) := ⟨_, Lib.hid rfl⟩
          have HN5 : Hid (namedB s.nm (nameI s) = b1) := Lib.hid (by unfold nameI; rw [hnf, hm, hbc.out, ← hb1.out]; rfl)
          clear hm hnf
          go_wp2_with fail
          refine (rname_any s.nm _ hn).mono ?_
          rintro e w5 ⟨rfl, hb5⟩
          have HB5 := Lib.hid hb5
          rw [hb1.out]
          clear hb5
          cases b1 with
          | true =>
            go_wp2_with fail
            go_meet
            exact ⟨false, rfl, fun h => (by cases h), fun _ => HN5.out, HB5.out⟩
          | false =>
            go_wp2_with fail
            go_meet
            exact ⟨true, rfl, fun _ => (by rw [← hR.out, fields_no (.inr (.inr (.inl HN5.out))), Bool.and_false]), fun h => (by cases h), HB5.out⟩
  case rest =>
  obtain ⟨c6, rfl, hc1, hc2, hb6⟩ := hcut
  have HB6 := Lib.hid (HB4.out.trans (hb6.mono HB4.out.size))
  have HB6W := Lib.hid (HB1.out.trans (HB6.out.mono HB1.out.size))
  obtain ⟨w6, hw6⟩ : ∃ w6 : World, w6 = wc := ⟨_, rfl⟩
  subst hw6
  have p4 := (HBOX1.out.next HB6.out) 4 _ rfl
  have p10 := (HBOX1.out.next HB6.out) 10 _ rfl
  have p11 := (HBOX1.out.next HB6.out) 11 _ rfl
  have p12 := (HBOX1.out.next HB6.out) 12 _ rfl
  clear hb6 m3 HB4 HB4W
  cases c6 with
  | true =>
    have HNE := Lib.hid (hc1 rfl)
    clear hc1 hc2
    go_wp2_with fail
    go_ret
    rw [HNE.out]
    exact ⟨rfl, HB6W.out⟩
  | false =>
  have K5 := Lib.hid (hc2 rfl)
  clear hc1 hc2
  go_upto_region 8 with fail
  go_cut [141] (fun x8 wx => ∃ c : Bool, x8 = .bool c ∧ (c = true → R = false) ∧ (c = false → namedB s.proc (procI s) = true ∧ ((s.kind == 4) = true ∨ s.args = [])) ∧ Below w6.heap.size w6 wx)
  case first => as_aux_lemma =>
    cases bc with
    | true =>
      have hpI : procI s = true := hbc.out
      cases hm : noName s.proc with
      | true =>
        obtain ⟨n0, n1, n2⟩ := bool_toList.1 hm
        have n3 : (s.proc.toList != []) = false := by simpa using n2
        have HN5 : Hid (namedB s.proc (procI s) = false) := Lib.hid (by rw [hpI]; show isName (bl s.proc) = false; exact noName_not hm)
        clear hm hpI n0
        go_wp2_with fail
        go_meet
        exact ⟨true, rfl, fun _ => (by rw [← hR.out, fields_no (.inr (.inr (.inr (.inl HN5.out)))), Bool.and_false]), fun h => (by cases h), Below.refl _ _⟩
      | false =>
        obtain ⟨n1, n2⟩ := bool_toList.2 hm
        have n3 : (s.proc.toList != []) = true := by simpa using n2
        obtain ⟨b1, hb1⟩ : ∃ b, Hid (isName (bl s.proc) = b) := ⟨_, Lib.hid rfl⟩
        have HN5 : Hid (namedB s.proc (procI s) = b1) := Lib.hid (by rw [hpI, ← hb1.out]; rfl)
        clear hm hpI
        go_wp2_with fail
        refine (rname_any s.proc _ hp).mono ?_
        rintro e w5 ⟨rfl, hb5⟩
        have HB5 := Lib.hid hb5
        rw [hb1.out]
        clear hb5
        cases b1 with
        | true =>
          go_wp2_with fail
          go_meet
          exact ⟨false, rfl, fun h => (by cases h), fun _ => ⟨HN5.out, .inl hbc.out⟩, HB5.out⟩
        | false =>
          go_wp2_with fail
          go_meet
          exact ⟨true, rfl, fun _ => (by rw [← hR.out, fields_no (.inr (.inr (.inr (.inl HN5.out)))), Bool.and_false]), fun h => (by cases h), HB5.out⟩
    | false =>
      have hpI : procI s = false := hbc.out
      cases hm : noName s.proc with
      | false =>
        obtain ⟨n1, n2⟩ := bool_toList.2 hm
        have n3 : (s.proc.toList != []) = true := by simpa using n2
        have HN5 : Hid (namedB s.proc (procI s) = false) := Lib.hid (by rw [hpI]; exact hm)
        clear hm hpI
        go_wp2_with fail
        go_meet
        exact ⟨true, rfl, fun _ => (by rw [← hR.out, fields_no (.inr (.inr (.inr (.inl HN5.out)))), Bool.and_false]), fun h => (by cases h), Below.refl _ _⟩
      | true =>
        obtain ⟨n0, n1, n2⟩ := bool_toList.1 hm
        have n3 : (s.proc.toList != []) = false := by simpa using n2
        have HN5 : Hid (namedB s.proc (procI s) = true) := Lib.hid (by rw [hpI]; exact hm)
        cases hl : decide (0 < s.args.length) with
        | true =>
          have HNE : Hid (R = false) := Lib.hid (by
            rw [← hR.out, fields_no (.inr (.inl ?_)), Bool.and_false]
            have : decide (0 < s.args.length) = true := hl
            unfold moreI
            rw [hpI, this]
            simp)
          have HL := Lib.hid hl
          clear hm hpI n0 hl
          go_wp2_with fail
          go_meet
          exact ⟨true, (by rw [HL.out]), fun _ => HNE.out, fun h => (by cases h), Below.refl _ _⟩
        | false =>
          have HE : Hid (s.args = []) := Lib.hid (List.eq_nil_of_length_eq_zero (by simp at hl; simp [hl]))
          have HL := Lib.hid hl
          clear hm hpI n0 hl
          go_wp2_with fail
          go_meet
          exact ⟨false, (by rw [HL.out]), fun h => (by cases h), fun _ => ⟨HN5.out, .inr HE.out⟩, Below.refl _ _⟩
  case rest =>
  obtain ⟨c8, rfl, hc1, hc2, hb8⟩ := hcut
  have HB8 := Lib.hid (HB6.out.trans (hb8.mono HB6.out.size))
  have HB8W := Lib.hid (HB1.out.trans (HB8.out.mono HB1.out.size))
  obtain ⟨w8, hw8⟩ : ∃ w8 : World, w8 = wc := ⟨_, rfl⟩
  subst hw8
  have r1 := (HBOX1.out.next HB8.out) 1 _ rfl
  have r10 := (HBOX1.out.next HB8.out) 10 _ rfl
  have r11 := (HBOX1.out.next HB8.out) 11 _ rfl
  have r12 := (HBOX1.out.next HB8.out) 12 _ rfl
  clear hb8 p4 p10 p11 p12 HB6 HB6W
  cases c8 with
  | true =>
    have HNE := Lib.hid (hc1 rfl)
    clear hc1 hc2
    go_wp2_with fail
    go_ret
    rw [HNE.out]
    exact ⟨rfl, HB8W.out⟩
  | false =>
  obtain ⟨k6, k7⟩ := hc2 rfl
  have K6 := Lib.hid k6
  have K7 := Lib.hid k7
  clear hc1 hc2 k6 k7
  have HARG := Lib.hid ((HH1.out.next HB8.out).arg)
  obtain ⟨_, _, -, hm1, hm2⟩ := HLA.out
  have HMAX := Lib.hid (Nat.le_trans hm1 hm2)
  clear hm1 hm2 HLA HLT
  go_wp2_with fail
  go_loopw [145] (fun i wr => ∃ k : Nat, k ≤ s.args.length ∧ i = .int .i64 k ∧ Below w8.heap.size w8 wr ∧ (s.args.take k).all (fun a => namedB a.nm a.ref && worthB a.x (!a.ref)) = true) (fun i _ => (s.args.length - intOf i).toNat)
  case atStart => exact ⟨0, by omega, rfl, Below.refl _ _, rfl⟩
  case round =>
    obtain ⟨k, hk, rfl, hbel, hall⟩ := hrel
    have HALL := Lib.hid hall
    have HBEL := Lib.hid hbel
    obtain ⟨w9, hw9⟩ : ∃ w9 : World, w9 = wr := ⟨_, rfl⟩
    subst hw9
    by_cases hlt : k < s.args.length
    · have hlt' : (k : Int) < (s.args.length : Int) := by omega
      have hmx := HMAX.out
      have hne : s.args ≠ [] := by intro h; rw [h] at hlt; simp at hlt
      obtain ⟨g, off, cap', hv, _, hcells⟩ := SlAt.cells (SlAt.imp HARG.out fun _ _ _ _ => ArAt.mono (cw_next hbel)) hne
      simp only [Value.slice.injEq] at hv
      obtain ⟨rfl, -, rfl⟩ := hv
      obtain ⟨t0, t1, t2, kx, t3, t4, t5, t6, hokx, hxx⟩ := hcells k hlt
      obtain ⟨ar, har⟩ : ∃ ar, Hid (s.args[k] = ar) := ⟨_, Lib.hid rfl⟩
      rw [har.out] at t0 t1 t2 t3 t4 t5 hokx hxx
      obtain ⟨xa, xc, rfl, -, -⟩ := hxx.form
      have d0 : w9.cell? ⟨g, off + k * 6, none⟩ = _ := t0
      have d1 : w9.cell? ⟨g, off + k * 6 + 1, none⟩ = _ := t1
      have d2 : w9.cell? ⟨g, off + k * 6 + 2, none⟩ = _ := t3
      have d3 : w9.cell? ⟨g, off + k * 6 + 3, none⟩ = _ := t4
      have d4 : w9.cell? ⟨g, off + k * 6 + 4, none⟩ = _ := t5
      have d5 : w9.cell? ⟨g, off + k * 6 + 5, none⟩ = _ := t6
      have hkb := boxed w9 (.cells #[.bool ar.ref, .string ar.nm, .int .i64 ar.x.op, .int .i64 ar.x.n, .string ar.x.nm, .slice xa ar.x.ks.length xc] 49)
      have HKB := Lib.hid hkb
      have HXX := Lib.hid (ExC.to (ExC.mono (cw_next hkb) hxx))
      have HOKX := Lib.hid hokx
      have hnm := t2
      clear hcells t0 t1 t3 t4 t5 t6 hxx hokx hne hbel hkb hall
      obtain ⟨b1, hb1⟩ : ∃ b1, Hid ((namedB ar.nm ar.ref && worthB ar.x (!ar.ref)) = b1) := ⟨_, Lib.hid rfl⟩
      go_wp2_with fail
      refine (arg_any d ar xa xc _ HOKX.out HXX.out hnm).mono ?_
      rintro e w10 ⟨rfl, hb10⟩
      rw [hb1.out]
      have HB10 := Lib.hid (HBEL.out.trans ((HKB.out.trans (hb10.mono HKB.out.size)).mono HBEL.out.size))
      clear hb10
      cases b1 with
      | false =>
        have HNE : Hid (R = false) := Lib.hid (by rw [← hR.out, fields_no (.inr (.inr (.inr (.inr (.inr (all_no _ _ hlt (by rw [har.out, hb1.out]))))))), Bool.and_false])
        go_wp2_with fail
        go_ret
        rw [HNE.out]
        exact ⟨rfl, HB8W.out.trans (HB10.out.mono HB8W.out.size)⟩
      | true =>
        go_wp2_with fail
        go_roundw
        case rel => exact ⟨k + 1, by omega, by go_num, HB10.out, all_take _ _ hlt HALL.out (by rw [har.out, hb1.out])⟩
        case measure => simp [intOf]; omega
    · have hlt' : ¬ (k : Int) < (s.args.length : Int) := by omega
      have hH : handedB s.args = true := by
        have := HALL.out
        rwa [List.take_of_length_le (by omega)] at this
      have HV : Hid (R = ((thenI s || decide (s.thn.length = 0)) && (otherI s || decide (s.els.length = 0)))) := Lib.hid (by
        rw [← hR.out]
        exact fields_last K1.out K2.out K3.out K4.out K5.out K6.out K7.out hH)
      have HBF := Lib.hid (HB8W.out.trans (HBEL.out.mono HB8W.out.size))
      have z1 := (HBOX1.out.next (HB8.out.trans (hbel.mono HB8.out.size))) 1 _ rfl
      have z11 := (HBOX1.out.next (HB8.out.trans (hbel.mono HB8.out.size))) 11 _ rfl
      have z12 := (HBOX1.out.next (HB8.out.trans (hbel.mono HB8.out.size))) 12 _ rfl
      clear hH hall hbel
      obtain ⟨t1, b1⟩ : ∃ t, Hid (decide (s.thn.length = 0) = t) := ⟨_, Lib.hid rfl⟩
      obtain ⟨t2, b2⟩ : ∃ t, Hid (decide (s.els.length = 0) = t) := ⟨_, Lib.hid rfl⟩
      cases t1 with
      | true =>
        have c1 : ((s.thn.length : Int) == 0) = true := by have := of_decide_eq_true b1.out; rw [this]; rfl
        cases t2 with
        | true =>
          have c2 : ((s.els.length : Int) == 0) = true := by have := of_decide_eq_true b2.out; rw [this]; rfl
          go_wp2_with fail
          go_ret
          rw [HV.out]
          refine ⟨?_, HBF.out⟩
          unfold thenI otherI
          rw [b1.out, b2.out]
          simp
        | false =>
          have c2 : ((s.els.length : Int) == 0) = false := by have := b2.out; simp at this ⊢; omega
          cases b5 : (s.kind == 5) with
          | true =>
            go_wp2_with fail
            go_ret
            rw [HV.out]
            refine ⟨?_, HBF.out⟩
            unfold thenI otherI
            rw [b1.out, b2.out, b5]
            simp
          | false =>
            go_wp2_with fail
            go_ret
            rw [HV.out]
            refine ⟨?_, HBF.out⟩
            unfold thenI otherI
            rw [b1.out, b2.out, b5]
            simp
      | false =>
        have c1 : ((s.thn.length : Int) == 0) = false := by have := b1.out; simp at this ⊢; omega
        cases b5 : (s.kind == 5) with
        | true =>
          cases t2 with
          | true =>
            have c2 : ((s.els.length : Int) == 0) = true := by have := of_decide_eq_true b2.out; rw [this]; rfl
            go_wp2_with fail
            go_ret
            rw [HV.out]
            refine ⟨?_, HBF.out⟩
            unfold thenI otherI
            rw [b1.out, b5, b2.out]
            simp
          | false =>
            have c2 : ((s.els.length : Int) == 0) = false := by have := b2.out; simp at this ⊢; omega
            go_wp2_with fail
            go_ret
            rw [HV.out]
            refine ⟨?_, HBF.out⟩
            unfold thenI otherI
            rw [b1.out, b5, b2.out]
            simp
        | false =>
          cases b6 : (s.kind == 6) with
          | true =>
            cases t2 with
            | true =>
              have c2 : ((s.els.length : Int) == 0) = true := by have := of_decide_eq_true b2.out; rw [this]; rfl
              go_wp2_with fail
              go_ret
              rw [HV.out]
              refine ⟨?_, HBF.out⟩
              unfold thenI otherI
              rw [b1.out, b5, b6, b2.out]
              simp
            | false =>
              have c2 : ((s.els.length : Int) == 0) = false := by have := b2.out; simp at this ⊢; omega
              go_wp2_with fail
              go_ret
              rw [HV.out]
              refine ⟨?_, HBF.out⟩
              unfold thenI otherI
              rw [b1.out, b5, b6, b2.out]
              simp
          | false =>
            go_wp2_with fail
            go_ret
            rw [HV.out]
            refine ⟨?_, HBF.out⟩
            unfold thenI otherI
            rw [b1.out, b5, b6]
            simp
end Go.Proofs.Ytghlmengcidmdaa.Tr
end
section
/- What May of the reference computes: what tree's May computes. Conditions: the program lies in memory. -/
namespace Go.Proofs.Ytghlmengcidmdaa.Tr
open Go.RowKit Go.Proofs.Ytghlmengcidmdaa.Lx Go.Proofs.Ytghlmengcidmdaa.Wd
theorem ItAt.hang {w : World} {d g o : Nat} {i : It} (h : ItAt (cw w) d g o i) : ∃ lv kv av tv ev, (∀ j u, (itCells i kv lv av tv ev)[j]? = some u → w.cell? ⟨g, o + j, none⟩ = some u) ∧ Hang d w i.s lv kv av tv ev ∧ OkE i.s.x ∧ InI i.s.id ∧ InI i.s.kind ∧ i.s.nm.size ≤ 9223372036854775807 ∧ i.s.proc.size ≤ 9223372036854775807 ∧ InI i.deep ∧ InI i.inn := by
  obtain ⟨⟨lv, av, tv, ev, p0, p1, p2, p3, p4, ⟨kv, p5, p6, p7, p8, hok, hk1⟩, p9, p10, p11, p12, j1, j2, j3, j4, hl1, ha1, ht1, he1⟩, p13, p14, p15, j5, j6⟩ := h
  refine ⟨lv, kv, av, tv, ev, fun j u hu => ?_, ⟨hl1, hk1, ha1, ht1, he1⟩, hok, j1, j2, j3, j4, j5, j6⟩
  have hj : j < 16 := (List.getElem?_eq_some_iff.1 hu).1
  rcases j with _ | _ | _ | _ | _ | _ | _ | _ | _ | _ | _ | _ | _ | _ | _ | _ | j
  all_goals (first | (cases hu; assumption) | omega)
set_option maxHeartbeats 8000000 in
set_option maxRecDepth 100000 in
theorem rmayP_any (d : Nat) (p : Pr) (gv pv : Value) (w : World) (hp : PrC (cw w) d gv pv p) :
    Calls Try.prog 79 #[.agg #[gv, pv]] w fun e w' => e = .returned (.bool (mayP p)) ∧ Below w.heap.size w w' := by
  obtain ⟨ga, gc, rfl, -, -⟩ := hp.1.form
  obtain ⟨pa, pc, rfl, hc1, hc2⟩ := hp.2.form
  have hplen : p.procs.length ≤ 9223372036854775807 := Nat.le_trans hc1 hc2
  have HP := Lib.hid hp
  obtain ⟨B, hB⟩ : ∃ B, Hid (rmayP p = B) := ⟨_, Lib.hid rfl⟩
  rw [← rmay_same, hB.out]
  clear hp hc1 hc2
  go_enter Try.func79, Try.ntmps79
  go_upto_region 1 with fail
  refine cut_world (fun wx => Below w.heap.size w wx ∧ BoxAt wx w.heap.size [.slice ga p.globals.length gc, .slice pa p.procs.length pc]) ⟨boxed _ _, box_new w #[.slice ga p.globals.length gc, .slice pa p.procs.length pc] 25⟩ ?_
  rintro w1 ⟨hb1, hx1⟩
  have HB1 := Lib.hid hb1
  have HX1 := Lib.hid hx1
  have HP1 := Lib.hid (PrC.mono (cw_next hb1) HP.out)
  have x0 := hx1 0 _ rfl
  have x1 := hx1 1 _ rfl
  clear hb1 hx1
  obtain ⟨c1, hcc1⟩ : ∃ c, Hid (namesB p.globals = c) := ⟨_, Lib.hid rfl⟩
  by_cases h1 : p.globals.length ≤ 16
  case neg =>
    have b1 : ((16 : Int) < (p.globals.length : Int)) = True := eq_true (by omega)
    have hz : B = false := by
      rw [← hB.out]; unfold rmayP
      rw [decide_eq_false h1]; simp
    have HZ := Lib.hid hz
    clear hz
    go_wp2_with fail
    go_ret
    rw [HZ.out]
    exact ⟨rfl, HB1.out⟩
  have b1 : ((16 : Int) < (p.globals.length : Int)) = False := eq_false (by omega)
  by_cases h2 : p.procs.length ≤ 16
  case neg =>
    have b2 : ((16 : Int) < (p.procs.length : Int)) = True := eq_true (by omega)
    have hz : B = false := by
      rw [← hB.out]; unfold rmayP
      rw [decide_eq_false h2]; simp
    have HZ := Lib.hid hz
    clear hz
    go_wp2_with fail
    go_ret
    rw [HZ.out]
    exact ⟨rfl, HB1.out⟩
  have b2 : ((16 : Int) < (p.procs.length : Int)) = False := eq_false (by omega)
  go_wp2_with fail
  refine (rnames1_any p.globals _ _ (StrC.to HP1.out.1)).mono ?_
  rintro e w2 ⟨rfl, hbg⟩
  rw [hcc1.out]
  have HBG := Lib.hid (HB1.out.trans (hbg.mono HB1.out.size))
  have HXG := Lib.hid (HX1.out.next hbg)
  have HPG := Lib.hid (PrC.mono (cw_next hbg) HP1.out)
  clear hbg x0 x1
  obtain ⟨w1', hw1'⟩ : ∃ w1' : World, w1' = w1 := ⟨_, rfl⟩
  clear hw1'
  cases c1 with
  | false =>
    have hz : B = false := by
      rw [← hB.out]; unfold rmayP
      rw [hcc1.out]; simp
    have HZ := Lib.hid hz
    clear hz
    go_wp2_with fail
    go_ret
    rw [HZ.out]
    exact ⟨rfl, HBG.out⟩
  | true =>
    clear HB1 HX1 HP1
    have HB1 := HBG
    have HX1 := HXG
    have HP1 := HPG
    clear HBG HXG HPG
    have x0 := HX1.out 0 _ rfl
    have x1 := HX1.out 1 _ rfl
    obtain ⟨w1, hw1⟩ : ∃ w1 : World, w1 = w2 := ⟨_, rfl⟩
    subst hw1
    go_wp2_with fail
    go_loopw [28] (fun i wr => ∃ k : Nat, k ≤ p.procs.length ∧ i = .int .i64 k ∧ Below w1.heap.size w1 wr ∧ (p.procs.take k).all headQ = true) (fun i _ => (p.procs.length - intOf i).toNat)
    case atStart => exact ⟨0, by omega, rfl, Below.refl _ _, rfl⟩
    case round =>
      obtain ⟨w0, hw0⟩ : ∃ w0 : World, w0 = wr := ⟨_, rfl⟩
      subst hw0
      obtain ⟨k, hk, rfl, hbel, hal⟩ := hrel
      have HBEL := Lib.hid hbel
      have HAL := Lib.hid hal
      by_cases hlt : k < p.procs.length
      · have hlt' : (k : Int) < (p.procs.length : Int) := by omega
        have h0k : (0 : Int) ≤ (k : Int) := by omega
        have hne : p.procs ≠ [] := by intro h; rw [h] at hlt; simp at hlt
        obtain ⟨g, off, cap', hv, _, hcells⟩ := SlAt.cells (PrC.mono (cw_next hbel) HP1.out).2 hne
        simp only [Value.slice.injEq] at hv
        obtain ⟨rfl, -, rfl⟩ := hv
        obtain ⟨qv1, vv1, bv1, fv1, p0, p1, p2, p3, p4, hnm, hq1, hv1, hb1, hf1⟩ := hcells k hlt
        obtain ⟨f, hf⟩ : ∃ f, Hid (p.procs[k] = f) := ⟨_, Lib.hid rfl⟩
        rw [hf.out] at p0 hnm hq1 hv1 hb1 hf1
        obtain ⟨qa1, qc1, rfl, -, -⟩ := hq1.form
        obtain ⟨va1, vc1, rfl, -, -⟩ := hv1.form
        obtain ⟨ba1, bc1, rfl, -, -⟩ := hb1.form
        obtain ⟨fa1, fc1, rfl, -, -⟩ := hf1.form
        have e0 : w0.cell? ⟨g, off + k * 5, none⟩ = _ := p0
        have e1 : w0.cell? ⟨g, off + k * 5 + 1, none⟩ = _ := p1
        have e2 : w0.cell? ⟨g, off + k * 5 + 2, none⟩ = _ := p2
        have e3 : w0.cell? ⟨g, off + k * 5 + 3, none⟩ = _ := p3
        have e4 : w0.cell? ⟨g, off + k * 5 + 4, none⟩ = _ := p4
        have HQ0 := Lib.hid hq1
        have HV0 := Lib.hid hv1
        have HF0 := Lib.hid hf1
        have hnot : Hid (headQ f = false → B = false) := Lib.hid (fun ho => by
          rw [← hB.out]
          unfold rmayP
          rw [all_no headQ _ hlt (by rw [hf.out]; exact ho)]
          simp)
        clear hcells p0 p1 p2 p3 p4 hq1 hv1 hb1 hf1 hne hal
        go_upto_region 6 with fail
        refine cut_world (fun wx => Below w0.heap.size w0 wx ∧ BoxAt wx w0.heap.size [.string f.nm, .slice qa1 f.params.length qc1, .slice va1 f.vars.length vc1, .slice ba1 f.body.length bc1, .slice fa1 f.fin.length fc1]) ⟨boxed _ _, box_new w0 #[.string f.nm, .slice qa1 f.params.length qc1, .slice va1 f.vars.length vc1, .slice ba1 f.body.length bc1, .slice fa1 f.fin.length fc1] 55⟩ ?_
        clear e0 e1 e2 e3 e4
        rintro w2 ⟨hb2, hx2⟩
        have HB2 := Lib.hid hb2
        have HX2 := Lib.hid hx2
        have f0 := hx2 0 _ rfl
        have f1 := hx2 1 _ rfl
        have f2 := hx2 2 _ rfl
        have f3 := hx2 3 _ rfl
        have f4 := hx2 4 _ rfl
        have HQ2 := Lib.hid (SlAt.imp HQ0.out fun _ _ _ _ => PaAt.mono (cw_next hb2))
        have HV2 := Lib.hid (StrC.to (StrC.mono (cw_next hb2) HV0.out))
        have HF2 := Lib.hid (StrC.to (StrC.mono (cw_next hb2) HF0.out))
        have HW0 := Lib.hid (HB1.out.trans (HBEL.out.mono HB1.out.size))
        clear hb2 hx2 HQ0 HV0 HF0
        obtain ⟨c2, hc2'⟩ : ∃ c, Hid (isName (bl f.nm) = c) := ⟨_, Lib.hid rfl⟩
        obtain ⟨c3, hc3⟩ : ∃ c, Hid (namesB f.vars = c) := ⟨_, Lib.hid rfl⟩
        obtain ⟨c4, hc4⟩ : ∃ c, Hid (namesB f.fin = c) := ⟨_, Lib.hid rfl⟩
        go_wp2_with fail
        refine (rname_any f.nm _ hnm).mono ?_
        rintro e w3 ⟨rfl, hb3⟩
        rw [hc2'.out]
        have HB3' := Lib.hid (HB2.out.trans (hb3.mono HB2.out.size))
        have HX3 := Lib.hid (HX2.out.next hb3)
        have HQ3 := Lib.hid (SlAt.imp HQ2.out fun _ _ _ _ => PaAt.mono (cw_next hb3))
        have HV3 := Lib.hid (HV2.out.next hb3)
        have HF3 := Lib.hid (HF2.out.next hb3)
        clear hb3 f0 f1 f2 f3 f4
        have f1 := HX3.out 1 _ rfl
        have f2 := HX3.out 2 _ rfl
        have f4 := HX3.out 4 _ rfl
        cases c2 with
        | false =>
          have hz : B = false := by
            refine hnot.out ?_
            unfold headQ headPc
            simp [hc2'.out]
          have HZ := Lib.hid hz
          clear hz
          go_wp2_with fail
          go_ret
          rw [HZ.out]
          exact ⟨rfl, HW0.out.trans (HB3'.out.mono HW0.out.size)⟩
        | true =>
          by_cases t1 : f.params.length ≤ 8
          case neg =>
            have b3 : ((8 : Int) < (f.params.length : Int)) = True := eq_true (by omega)
            have hz : B = false := by
              refine hnot.out ?_
              unfold headQ headPc
              simp [t1]
            have HZ := Lib.hid hz
            clear hz
            go_wp2_with fail
            go_ret
            rw [HZ.out]
            exact ⟨rfl, HW0.out.trans (HB3'.out.mono HW0.out.size)⟩
          have b3 : ((8 : Int) < (f.params.length : Int)) = False := eq_false (by omega)
          by_cases t2 : f.vars.length ≤ 16
          case neg =>
            have b4 : ((16 : Int) < (f.vars.length : Int)) = True := eq_true (by omega)
            have hz : B = false := by
              refine hnot.out ?_
              unfold headQ headPc
              simp [t2]
            have HZ := Lib.hid hz
            clear hz
            go_wp2_with fail
            go_ret
            rw [HZ.out]
            exact ⟨rfl, HW0.out.trans (HB3'.out.mono HW0.out.size)⟩
          have b4 : ((16 : Int) < (f.vars.length : Int)) = False := eq_false (by omega)
          go_wp2_with fail
          refine (rnames1_any f.vars _ _ HV3.out).mono ?_
          rintro e w5 ⟨rfl, hb5⟩
          rw [hc3.out]
          have HB5 := Lib.hid (HB3'.out.trans (hb5.mono HB3'.out.size))
          have HX5 := Lib.hid (HX3.out.next hb5)
          have HQ5 := Lib.hid (SlAt.imp HQ3.out fun _ _ _ _ => PaAt.mono (cw_next hb5))
          have HF5 := Lib.hid (HF3.out.next hb5)
          clear hb5 f1 f2 f4
          have f1 := HX5.out 1 _ rfl
          have f4 := HX5.out 4 _ rfl
          cases c3 with
          | false =>
            have hz : B = false := by
              refine hnot.out ?_
              unfold headQ headPc
              simp [hc3.out]
            have HZ := Lib.hid hz
            clear hz
            go_wp2_with fail
            go_ret
            rw [HZ.out]
            exact ⟨rfl, HW0.out.trans (HB5.out.mono HW0.out.size)⟩
          | true =>
            go_wp2_with fail
            refine (rnames1_any f.fin _ _ HF5.out).mono ?_
            rintro e w4 ⟨rfl, hb4⟩
            rw [hc4.out]
            have HBF := Lib.hid (HB5.out.trans (hb4.mono HB5.out.size))
            have HX4 := Lib.hid (HX5.out.next hb4)
            have HQ := Lib.hid (SlAt.imp HQ5.out fun _ _ _ _ => PaAt.mono (cw_next hb4))
            have HB4 := Lib.hid (HW0.out.trans (HBF.out.mono HW0.out.size))
            clear hb4 f1 f4
            have f1 := HX4.out 1 _ rfl
            cases c4 with
            | false =>
              have hz : B = false := by
                refine hnot.out ?_
                unfold headQ headPc
                simp [hc4.out]
              have HZ := Lib.hid hz
              clear hz
              go_wp2_with fail
              go_ret
              rw [HZ.out]
              exact ⟨rfl, HB4.out⟩
            | true =>
              go_wp2_with fail
              go_loopw [63] (fun i wr => ∃ q : Nat, q ≤ f.params.length ∧ i = .int .i64 q ∧ Below w4.heap.size w4 wr ∧ (f.params.take q).all (fun a => isName (bl a.nm)) = true) (fun i _ => (f.params.length - intOf i).toNat)
              case atStart => exact ⟨0, by omega, rfl, Below.refl _ _, rfl⟩
              case round =>
                obtain ⟨q, hq, rfl, hbi, hal⟩ := hrel
                have HBI := Lib.hid hbi
                have HALP := Lib.hid hal
                by_cases hqt : q < f.params.length
                · have hqt' : (q : Int) < (f.params.length : Int) := by omega
                  have hne2 : f.params ≠ [] := by intro h; rw [h] at hqt; simp at hqt
                  obtain ⟨g2, off2, cap2, hv2, _, hcells2⟩ := SlAt.cells (SlAt.imp HQ.out fun _ _ _ _ => PaAt.mono (cw_next hbi)) hne2
                  simp only [Value.slice.injEq] at hv2
                  obtain ⟨rfl, -, rfl⟩ := hv2
                  obtain ⟨r0, r1, hsz2⟩ := hcells2 q hqt
                  obtain ⟨pr, hpr⟩ : ∃ pr, Hid (f.params[q] = pr) := ⟨_, Lib.hid rfl⟩
                  rw [hpr.out] at r0 r1 hsz2
                  have d0 : wr.cell? ⟨g2, off2 + q * 2, none⟩ = _ := r0
                  have d1 : wr.cell? ⟨g2, off2 + q * 2 + 1, none⟩ = _ := r1
                  clear hcells2 r0 r1 hne2 hbi hal
                  obtain ⟨c5, hc5⟩ : ∃ c, Hid (isName (bl pr.nm) = c) := ⟨_, Lib.hid rfl⟩
                  have HPB := Lib.hid (HBI.out.trans ((boxed wr (.cells #[.string pr.nm, .bool pr.ref] 62)).mono HBI.out.size))
                  go_wp2_with fail
                  refine (rname_any pr.nm _ hsz2).mono ?_
                  rintro e w' ⟨rfl, hb'⟩
                  rw [hc5.out]
                  have HPC := Lib.hid (HPB.out.trans (hb'.mono HPB.out.size))
                  clear hb'
                  cases c5 with
                  | false =>
                    have hz : B = false := by
                      refine hnot.out ?_
                      unfold headQ
                      rw [all_no (fun a : Pa => isName (bl a.nm)) _ hqt (by rw [hpr.out]; exact hc5.out), Bool.and_false]
                    have HZ := Lib.hid hz
                    clear hz
                    go_wp2_with fail
                    go_ret
                    rw [HZ.out]
                    exact ⟨rfl, HB4.out.trans (HPC.out.mono HB4.out.size)⟩
                  | true =>
                    go_wp2_with fail
                    go_roundw
                    case rel => exact ⟨q + 1, by omega, by go_num, HPC.out, all_take _ _ hqt HALP.out (by rw [hpr.out]; exact hc5.out)⟩
                    case measure => simp [intOf]; omega
                · have hqt' : ¬ (q : Int) < (f.params.length : Int) := by omega
                  have hallp : f.params.all (fun a => isName (bl a.nm)) = true := by have := HALP.out; rwa [List.take_of_length_le (by omega)] at this
                  have HALLP := Lib.hid hallp
                  have hw1 : Below w1.heap.size w1 wr := HBEL.out.trans ((HBF.out.trans (HBI.out.mono HBF.out.size)).mono HBEL.out.size)
                  have HW1 := Lib.hid hw1
                  clear hbi hal hallp hw1
                  go_wp2_with fail
                  go_roundw
                  case rel =>
                    refine ⟨k + 1, by omega, by go_num, HW1.out, all_take _ _ hlt HAL.out ?_⟩
                    rw [hf.out]
                    unfold headQ headPc
                    rw [decide_eq_true t1, decide_eq_true t2, hc2'.out, hc3.out, hc4.out, HALLP.out]
                    rfl
                  case measure => simp [intOf]; omega
      · clear hal hbel
        have hlt' : ¬ (k : Int) < (p.procs.length : Int) := by omega
        have hall : p.procs.all headQ = true := by have := HAL.out; rwa [List.take_of_length_le (by omega)] at this
        have HHEAD := Lib.hid hall
        have y0 := HX1.out.next HBEL.out 0 _ rfl
        have y1 := HX1.out.next HBEL.out 1 _ rfl
        have HB2 := Lib.hid (HB1.out.trans (HBEL.out.mono HB1.out.size))
        have HP2 := Lib.hid (PrC.mono (cw_next HBEL.out) HP1.out)
        clear hall x0 x1
        go_wp2_with fail
        refine (allOf_any d p _ _ _ HP2.out).mono ?_
        rintro e w3 ⟨v3, rows3, rfl, hr3, hb3⟩
        obtain ⟨its, hits⟩ : ∃ its, Hid (allOf p = its) := ⟨_, Lib.hid rfl⟩
        have HIT := hits
        rw [hits.out] at hr3
        have HB3 := Lib.hid (HB2.out.trans (hb3.mono HB2.out.size))
        have HIS := Lib.hid hr3.sl
        obtain ⟨va3, vc3, rfl⟩ := ownsForm hr3.own
        clear hr3 hb3 y0 y1
        have h401 : its.length ≤ 401 := by rw [← hits.out]; exact allOf_len p
        by_cases h200 : its.length ≤ 200
        case neg =>
          have b200 : ((200 : Int) < (its.length : Int)) = True := eq_true (by omega)
          have hz : B = false := by
            rw [← hB.out]; unfold rmayP
            rw [HIT.out, tk_many (by omega)]; simp
          have HZ := Lib.hid hz
          clear hz
          go_wp2_with fail
          go_ret
          rw [HZ.out]
          exact ⟨rfl, HB3.out⟩
        have b200 : ((200 : Int) < (its.length : Int)) = False := eq_false (by omega)
        have e1 : (its.length : Int) ≤ 401 := by omega
        go_wp2_with fail
        go_loopw [80] (fun i wr => ∃ k : Nat, k ≤ its.length ∧ i = .int .i64 k ∧ Below w3.heap.size w3 wr ∧ oksA 0 (its.take k) = true) (fun i _ => (its.length - intOf i).toNat)
        case atStart => exact ⟨0, by omega, rfl, Below.refl _ _, rfl⟩
        case round =>
          obtain ⟨k, hk, rfl, hbel, hoks⟩ := hrel
          have HBEL := Lib.hid hbel
          have HOKS := Lib.hid hoks
          obtain ⟨w0, hw0⟩ : ∃ w0 : World, w0 = wr := ⟨_, rfl⟩
          subst hw0
          clear hoks
          by_cases hlt : k < its.length
          · have hlt' : (k : Int) < (its.length : Int) := by omega
            have h0k : (0 : Int) ≤ (k : Int) := by omega
            have hk1 : ((k : Int) + 1) ≤ 402 := by omega
            have hne : its ≠ [] := by intro h; rw [h] at hlt; simp at hlt
            obtain ⟨g, off, cap', hv, _, hcells⟩ := SlAt.cells (SlAt.imp HIS.out fun _ _ _ _ => ItAt.mono (cw_next hbel)) hne
            simp only [Value.slice.injEq] at hv
            obtain ⟨rfl, -, rfl⟩ := hv
            have hit := hcells k hlt
            obtain ⟨it, hit0⟩ : ∃ it, Hid (its[k] = it) := ⟨_, Lib.hid rfl⟩
            rw [hit0.out] at hit
            obtain ⟨lv, kv, av, tv, ev, hce, hh, hok, j1, j2, j3, j4, j5, j6⟩ := hit.hang
            obtain ⟨la, lc, rfl, -, -⟩ := hh.lab.form
            obtain ⟨ka, kc, rfl, -, -⟩ := hh.kid.form
            obtain ⟨aa, ac, rfl, -, -⟩ := hh.arg.form
            obtain ⟨ta, tc, rfl, -, -⟩ := hh.thn.form
            obtain ⟨ea, ec, rfl, -, -⟩ := hh.els.form
            have e0 : w0.cell? ⟨g, off + k * 16, none⟩ = _ := hce 0 _ rfl
            have e1 : w0.cell? ⟨g, off + k * 16 + 1, none⟩ = _ := hce 1 _ rfl
            have e2 : w0.cell? ⟨g, off + k * 16 + 2, none⟩ = _ := hce 2 _ rfl
            have e3 : w0.cell? ⟨g, off + k * 16 + 3, none⟩ = _ := hce 3 _ rfl
            have e4 : w0.cell? ⟨g, off + k * 16 + 4, none⟩ = _ := hce 4 _ rfl
            have e5 : w0.cell? ⟨g, off + k * 16 + 5, none⟩ = _ := hce 5 _ rfl
            have e6 : w0.cell? ⟨g, off + k * 16 + 6, none⟩ = _ := hce 6 _ rfl
            have e7 : w0.cell? ⟨g, off + k * 16 + 7, none⟩ = _ := hce 7 _ rfl
            have e8 : w0.cell? ⟨g, off + k * 16 + 8, none⟩ = _ := hce 8 _ rfl
            have e9 : w0.cell? ⟨g, off + k * 16 + 9, none⟩ = _ := hce 9 _ rfl
            have e10 : w0.cell? ⟨g, off + k * 16 + 10, none⟩ = _ := hce 10 _ rfl
            have e11 : w0.cell? ⟨g, off + k * 16 + 11, none⟩ = _ := hce 11 _ rfl
            have e12 : w0.cell? ⟨g, off + k * 16 + 12, none⟩ = _ := hce 12 _ rfl
            have e13 : w0.cell? ⟨g, off + k * 16 + 13, none⟩ = _ := hce 13 _ rfl
            have HH := Lib.hid hh
            have HOK := Lib.hid hok
            have HJ3 := Lib.hid j3
            have HJ4 := Lib.hid j4
            have HWR := Lib.hid (HB3.out.trans (hbel.mono HB3.out.size))
            obtain ⟨wb, hwb⟩ : ∃ wb, Hid ((namesB it.s.labels && fieldsB it.s) = wb) := ⟨_, Lib.hid rfl⟩
            have hnot : Hid (okAt k it = false → B = false) := Lib.hid (fun ho => by
              rw [← hB.out]
              unfold rmayP
              rw [HIT.out]
              unfold tk
              rw [oksA_no hlt (by rw [hit0.out, Int.zero_add]; exact ho)]
              simp)
            clear hcells hne hit hce hh hok j3 j4 hbel
            obtain ⟨c9, hc9⟩ : ∃ c, c = (it.s.id == (k : Int) + 1) := ⟨_, rfl⟩
            have hc9' : (it.s.id != (k : Int) + 1) = !c9 := by rw [hc9]; rfl
            have HC9 := Lib.hid hc9
            cases c9 with
            | false =>
              have q9 : (it.s.id == (k : Int) + 1) = false := hc9.symm
              clear hc9
              simp only [Bool.not_false] at hc9'
              have hz : B = false := by
                refine hnot.out ?_
                unfold okAt
                rw [← HC9.out]; rfl
              have HZ := Lib.hid hz
              clear hz
              go_wp2_with fail
              go_ret
              rw [HZ.out]
              exact ⟨rfl, HWR.out⟩
            | true =>
              have q9 : (it.s.id == (k : Int) + 1) = true := hc9.symm
              clear hc9
              simp only [Bool.not_true] at hc9'
              by_cases hd : it.deep ≤ 12
              case neg =>
                have hd1 : (12 : Int) < it.deep := by omega
                have hz : B = false := by
                  refine hnot.out ?_
                  unfold okAt
                  rw [decide_eq_false hd, Bool.and_false, Bool.false_and]
                have HZ := Lib.hid hz
                clear hz
                go_wp2_with fail
                go_ret
                rw [HZ.out]
                exact ⟨rfl, HWR.out⟩
              have hd1 : ¬ (12 : Int) < it.deep := by omega
              go_wp2_with fail
              refine (one_any d it.s la aa ta ea ka lc ac tc ec kc _ HOK.out HJ3.out HJ4.out HH.out).mono ?_
              rintro e w5 ⟨rfl, hb5⟩
              rw [hwb.out]
              have HB5 := Lib.hid (HBEL.out.trans (hb5.mono HBEL.out.size))
              clear hb5
              cases wb with
              | false =>
                have hz : B = false := by
                  refine hnot.out ?_
                  unfold okAt
                  rw [hwb.out, Bool.and_false]
                have HZ := Lib.hid hz
                clear hz
                go_wp2_with fail
                go_ret
                rw [HZ.out]
                exact ⟨rfl, HB3.out.trans (HB5.out.mono HB3.out.size)⟩
              | true =>
                go_wp2_with fail
                go_roundw
                case rel => exact ⟨k + 1, by omega, by go_num, HB5.out, oksA_yes hlt HOKS.out (by rw [hit0.out, Int.zero_add]; unfold okAt; rw [← HC9.out, decide_eq_true hd, hwb.out]; rfl)⟩
                case measure => simp [intOf]; omega
          · have hlt' : ¬ (k : Int) < (its.length : Int) := by omega
            have he : B = true := by
              rw [← hB.out]
              unfold rmayP
              have h9 := HOKS.out
              rw [List.take_of_length_le (by omega)] at h9
              rw [HIT.out, decide_eq_true h1, decide_eq_true h2, hcc1.out, HHEAD.out]
              unfold tk
              rw [h9, decide_eq_true (by omega)]
              rfl
            have HE := Lib.hid he
            clear he
            go_wp2_with fail
            go_ret
            rw [HE.out]
            exact ⟨rfl, HB3.out.trans (HBEL.out.mono HB3.out.size)⟩
end Go.Proofs.Ytghlmengcidmdaa.Tr
end
section
/- What turns when one statement of a program is put for another one. No program. Conditions: the program may be. -/
namespace Go.Proofs.Ytghlmengcidmdaa.Tr
open Go.RowKit Go.Proofs.Ytghlmengcidmdaa.Lx Go.Proofs.Ytghlmengcidmdaa.Wd
theorem mayPc_rows {n : Int} {f : Pc} (h : mayPc n f = true) : rowsL 200 12 1 n f.body = true := by unfold mayPc at h; rw [Bool.and_eq_true] at h; exact h.2
theorem mayP_procs {p : Pr} (h : mayP p = true) : mayPs 0 p.procs = true := by unfold mayP at h; simp only [Bool.and_eq_true] at h; exact h.2
theorem mayP_cnt {p : Pr} (h : mayP p = true) : cntP p.procs ≤ 200 := by have := mayPs_most _ _ (mayP_procs h) (by omega); omega
end Go.Proofs.Ytghlmengcidmdaa.Tr
end
