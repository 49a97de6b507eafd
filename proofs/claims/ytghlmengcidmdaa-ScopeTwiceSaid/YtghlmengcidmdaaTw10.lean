/- Parts of BRows: walks and plain laws that later texts use. Conditions: as each statement says. -/
import Derived.Test.YtghlmengcidmdaaTw0
import Derived.Test.YtghlmengcidmdaaTw1
import Derived.Test.YtghlmengcidmdaaTw2
import Derived.Test.YtghlmengcidmdaaTw3
import Derived.Test.YtghlmengcidmdaaTw4
import Derived.Test.YtghlmengcidmdaaTw5
import Derived.Test.YtghlmengcidmdaaTw7
import Derived.IntWalk
import Derived.Deep.QuietTactic
import Derived.BigQuiet
import Derived.StillTailTactics
import Derived.Deep.RegionHeld3
import Derived.Deep.DeepCutAuto
import Derived.Laws.StructEq
import Derived.RegionTactic
import Derived.Deep.Slices
import Derived.Deep.Fields
import Derived.Lib.SmallJoins
import Derived.SliceStrings
import Derived.ChangeSlices
import Derived.Maps.Range
import Derived.Outline
import Derived.Deep.Upon
import Derived.Maps.AppendAt
import Derived.Laws.OwnMore
import Derived.Deep.RegionLaw
import Derived.WalkKit
import Derived.Test.YtghlmengcidmdaaRows
import Derived.WalkSpells
import Derived.Lib.Hide
import Derived.Below
import Derived.WalkSmall
import Derived.Deep.CutBlock
import Derived.Laws.BitsAllLaws
import Derived.OwnWalk
import Derived.OneCell
import Derived.Deep.AppendLies
import Derived.Deep.RegionWith
import Derived.Laws.Cover3
/- What tree.fields computes: has a statement just what its kind has? Conditions: the statement lies in memory.
   Plain: may statements stand so, numbered on? A counter's block is written, all else stays. Conditions: none.
   What (*looker).rows of tree computes. Conditions: the row lies in memory, not in the counter's block. -/
section
namespace Go.Proofs.Ytghlmengcidmdaa.Tr
open Go.RowKit Go.Proofs.Ytghlmengcidmdaa.Lx Go.Proofs.Ytghlmengcidmdaa.Wd
def nameI (s : St) : Bool := s.kind == 1 || s.kind == 2 || s.kind == 10 || (s.kind == 4 && !noName s.nm)
def procI (s : St) : Bool := s.kind == 4
def xI (s : St) : Bool := s.kind == 1 || s.kind == 3 || s.kind == 5 || s.kind == 6 || (s.kind == 9 && s.has)
def hasI (s : St) : Bool := s.has && !(s.kind == 9)
def thenI (s : St) : Bool := s.kind == 5 || s.kind == 6
def otherI (s : St) : Bool := s.kind == 5
def okK (s : St) : Bool := decide (1 ≤ s.kind) && decide (s.kind ≤ 10)
def moreI (s : St) : Bool := hasI s || (!thenI s && decide (0 < s.thn.length)) || (!otherI s && decide (0 < s.els.length)) || (!procI s && decide (0 < s.args.length))
/-- Has a statement just what its kind has? -/
def fieldsB (s : St) : Bool := okK s && !moreI s && namedB s.nm (nameI s) && namedB s.proc (procI s) && worthB s.x (xI s) && handedB s.args
theorem kinds (k : Int) : k = 1 ∨ k = 2 ∨ k = 3 ∨ k = 4 ∨ k = 5 ∨ k = 6 ∨ k = 7 ∨ k = 8 ∨ k = 9 ∨ k = 10 ∨ (k < 1 ∨ 10 < k) := by omega
set_option maxHeartbeats 4000000 in
set_option maxRecDepth 100000 in
theorem fields_any (d : Nat) (s : St) (la1 aa1 ka1 ta1 ea1 : Option Addr) (lc1 ac1 kc1 tc1 ec1 : Nat) (w : World) (hok : OkE s.x) (hn : s.nm.size ≤ 9223372036854775807) (hp : s.proc.size ≤ 9223372036854775807)
    (hs : Hang d w s (.slice la1 s.labels.length lc1) (.slice ka1 s.x.ks.length kc1) (.slice aa1 s.args.length ac1) (.slice ta1 s.thn.length tc1) (.slice ea1 s.els.length ec1)) :
    Calls Try.prog 118 #[.agg #[.int .i64 s.id, .int .i64 s.kind, .slice la1 s.labels.length lc1, .string s.nm, .string s.proc, .int .i64 s.x.op, .int .i64 s.x.n, .string s.x.nm, .slice ka1 s.x.ks.length kc1, .bool s.has, .slice aa1 s.args.length ac1, .slice ta1 s.thn.length tc1, .slice ea1 s.els.length ec1]] w fun e w' => e = .returned (.bool (fieldsB s)) ∧ Below w.heap.size w w' := by
  have hbox := boxed w (.cells #[.int .i64 s.id, .int .i64 s.kind, .slice la1 s.labels.length lc1, .string s.nm, .string s.proc, .int .i64 s.x.op, .int .i64 s.x.n, .string s.x.nm, .slice ka1 s.x.ks.length kc1, .bool s.has, .slice aa1 s.args.length ac1, .slice ta1 s.thn.length tc1, .slice ea1 s.els.length ec1] 41)
  have hS : BoxAt (w.alloc (.cells #[.int .i64 s.id, .int .i64 s.kind, .slice la1 s.labels.length lc1, .string s.nm, .string s.proc, .int .i64 s.x.op, .int .i64 s.x.n, .string s.x.nm, .slice ka1 s.x.ks.length kc1, .bool s.has, .slice aa1 s.args.length ac1, .slice ta1 s.thn.length tc1, .slice ea1 s.els.length ec1] 41)) w.heap.size (#[.int .i64 s.id, .int .i64 s.kind, .slice la1 s.labels.length lc1, .string s.nm, .string s.proc, .int .i64 s.x.op, .int .i64 s.x.n, .string s.x.nm, .slice ka1 s.x.ks.length kc1, .bool s.has, .slice aa1 s.args.length ac1, .slice ta1 s.thn.length tc1, .slice ea1 s.els.length ec1] : Array Value).toList := box_new w _ _
  have HB := Lib.hid hbox
  have HS := Lib.hid hS
  have HHS := Lib.hid (hs.next hbox)
  have HOK := Lib.hid hok
  obtain ⟨fb, hfb⟩ : ∃ fb, Hid (fieldsB s = fb) := ⟨_, Lib.hid rfl⟩
  rw [hfb.out]
  clear hbox hS hs hok
  go_enter Try.func118, Try.ntmps118
  go_wp2_with fail
  go_quiet (fail)
  go_upto_block 0 with fail
  go_cut [3, 4, 5, 6, 7, 8, 9] (fun x3 x4 x5 x6 x7 x8 x9 wx => okK s = true ∧ x3 = .bool (nameI s) ∧ x4 = .bool (procI s) ∧ x5 = .bool (xI s) ∧ x6 = .bool (hasI s) ∧ x7 = .bool (thenI s) ∧ x8 = .bool (otherI s) ∧ x9 = .bool (procI s) ∧ wx = (w.alloc (.cells #[.int .i64 s.id, .int .i64 s.kind, .slice la1 s.labels.length lc1, .string s.nm, .string s.proc, .int .i64 s.x.op, .int .i64 s.x.n, .string s.x.nm, .slice ka1 s.x.ks.length kc1, .bool s.has, .slice aa1 s.args.length ac1, .slice ta1 s.thn.length tc1, .slice ea1 s.els.length ec1] 41)).drewN nq)
  case first =>
    rcases kinds s.kind with hk | hk | hk | hk | hk | hk | hk | hk | hk | hk | hk
    · go_wp2_with fail
      go_meet
      refine ⟨?_, ?_, ?_, ?_, ?_, ?_, ?_, ?_, ?_⟩ <;> simp [nameI, procI, xI, hasI, thenI, otherI, okK, hk]
    · go_wp2_with fail
      go_meet
      refine ⟨?_, ?_, ?_, ?_, ?_, ?_, ?_, ?_, ?_⟩ <;> simp [nameI, procI, xI, hasI, thenI, otherI, okK, hk]
    · go_wp2_with fail
      go_meet
      refine ⟨?_, ?_, ?_, ?_, ?_, ?_, ?_, ?_, ?_⟩ <;> simp [nameI, procI, xI, hasI, thenI, otherI, okK, hk]
    · cases hm : noName s.nm with
      | true =>
        obtain ⟨-, n1, n2⟩ := bool_toList.1 hm
        have n3 : (s.nm.toList != []) = false := by simpa using n2
        have HM := Lib.hid hm
        clear hm
        go_wp2_with fail
        go_meet
        refine ⟨?_, ?_, ?_, ?_, ?_, ?_, ?_, ?_, ?_⟩ <;> simp [nameI, procI, xI, hasI, thenI, otherI, okK, hk, HM.out]
      | false =>
        obtain ⟨n1, n2⟩ := bool_toList.2 hm
        have n3 : (s.nm.toList != []) = true := by simpa using n2
        have HM := Lib.hid hm
        clear hm
        go_wp2_with fail
        go_meet
        refine ⟨?_, ?_, ?_, ?_, ?_, ?_, ?_, ?_, ?_⟩ <;> simp [nameI, procI, xI, hasI, thenI, otherI, okK, hk, HM.out]
    · go_wp2_with fail
      go_meet
      refine ⟨?_, ?_, ?_, ?_, ?_, ?_, ?_, ?_, ?_⟩ <;> simp [nameI, procI, xI, hasI, thenI, otherI, okK, hk]
    · go_wp2_with fail
      go_meet
      refine ⟨?_, ?_, ?_, ?_, ?_, ?_, ?_, ?_, ?_⟩ <;> simp [nameI, procI, xI, hasI, thenI, otherI, okK, hk]
    · go_wp2_with fail
      go_meet
      refine ⟨?_, ?_, ?_, ?_, ?_, ?_, ?_, ?_, ?_⟩ <;> simp [nameI, procI, xI, hasI, thenI, otherI, okK, hk]
    · go_wp2_with fail
      go_meet
      refine ⟨?_, ?_, ?_, ?_, ?_, ?_, ?_, ?_, ?_⟩ <;> simp [nameI, procI, xI, hasI, thenI, otherI, okK, hk]
    · go_wp2_with fail
      go_meet
      refine ⟨?_, ?_, ?_, ?_, ?_, ?_, ?_, ?_, ?_⟩ <;> simp [nameI, procI, xI, hasI, thenI, otherI, okK, hk]
    · go_wp2_with fail
      go_meet
      refine ⟨?_, ?_, ?_, ?_, ?_, ?_, ?_, ?_, ?_⟩ <;> simp [nameI, procI, xI, hasI, thenI, otherI, okK, hk]
    · have hz : fb = false := by
        rw [← hfb.out]
        have : okK s = false := by unfold okK; simp; omega
        unfold fieldsB
        rw [this]
        rfl
      have HZ := Lib.hid hz
      have z1 : (s.kind == 1) = false := by simp; omega
      have z2 : (s.kind == 2) = false := by simp; omega
      have z3 : (s.kind == 3) = false := by simp; omega
      have z4 : (s.kind == 4) = false := by simp; omega
      have z5 : (s.kind == 5) = false := by simp; omega
      have z6 : (s.kind == 6) = false := by simp; omega
      have z7 : (s.kind == 7) = false := by simp; omega
      have z8 : (s.kind == 8) = false := by simp; omega
      have z9 : (s.kind == 9) = false := by simp; omega
      have z10 : (s.kind == 10) = false := by simp; omega
      clear hz
      go_wp2_with fail
      go_ret
      rw [HZ.out]
      exact ⟨rfl, below_drewN HB.out nq⟩
  case rest =>
    obtain ⟨hokk, rfl, rfl, rfl, rfl, rfl, rfl, rfl, rfl⟩ := hcut
    have hbn := below_drewN (Below.refl (w.alloc (.cells #[.int .i64 s.id, .int .i64 s.kind, .slice la1 s.labels.length lc1, .string s.nm, .string s.proc, .int .i64 s.x.op, .int .i64 s.x.n, .string s.x.nm, .slice ka1 s.x.ks.length kc1, .bool s.has, .slice aa1 s.args.length ac1, .slice ta1 s.thn.length tc1, .slice ea1 s.els.length ec1] 41)).heap.size (w.alloc (.cells #[.int .i64 s.id, .int .i64 s.kind, .slice la1 s.labels.length lc1, .string s.nm, .string s.proc, .int .i64 s.x.op, .int .i64 s.x.n, .string s.x.nm, .slice ka1 s.x.ks.length kc1, .bool s.has, .slice aa1 s.args.length ac1, .slice ta1 s.thn.length tc1, .slice ea1 s.els.length ec1] 41))) nq
    have HHN := Lib.hid (HHS.out.next hbn)
    have HSN := Lib.hid (HS.out.next hbn)
    have HBN := Lib.hid (HB.out.trans (hbn.mono HB.out.size))
    clear hbn HHS HS HB
    generalize (w.alloc (.cells #[.int .i64 s.id, .int .i64 s.kind, .slice la1 s.labels.length lc1, .string s.nm, .string s.proc, .int .i64 s.x.op, .int .i64 s.x.n, .string s.x.nm, .slice ka1 s.x.ks.length kc1, .bool s.has, .slice aa1 s.args.length ac1, .slice ta1 s.thn.length tc1, .slice ea1 s.els.length ec1] 41)).drewN nq = w1 at *
    have s3 := HSN.out 3 _ rfl
    have s10 := HSN.out 10 _ rfl
    have s11 := HSN.out 11 _ rfl
    have s12 := HSN.out 12 _ rfl
    obtain ⟨b1, hb1⟩ : ∃ b, Hid (hasI s = b) := ⟨_, Lib.hid rfl⟩
    obtain ⟨b2, hb2⟩ : ∃ b, Hid (thenI s = b) := ⟨_, Lib.hid rfl⟩
    obtain ⟨b3, hb3⟩ : ∃ b, Hid (otherI s = b) := ⟨_, Lib.hid rfl⟩
    obtain ⟨b4, hb4⟩ : ∃ b, Hid (procI s = b) := ⟨_, Lib.hid rfl⟩
    obtain ⟨b5, hb5⟩ : ∃ b, Hid (nameI s = b) := ⟨_, Lib.hid rfl⟩
    obtain ⟨b6, hb6⟩ : ∃ b, Hid (xI s = b) := ⟨_, Lib.hid rfl⟩
    rw [hb1.out, hb2.out, hb3.out, hb4.out, hb5.out, hb6.out]
    obtain ⟨c1, hc1⟩ : ∃ b, Hid (namedB s.nm b5 = b) := ⟨_, Lib.hid rfl⟩
    obtain ⟨c2, hc2⟩ : ∃ b, Hid (namedB s.proc b4 = b) := ⟨_, Lib.hid rfl⟩
    obtain ⟨c3, hc3⟩ : ∃ b, Hid (worthB s.x b6 = b) := ⟨_, Lib.hid rfl⟩
    obtain ⟨c4, hc4⟩ : ∃ b, Hid (handedB s.args = b) := ⟨_, Lib.hid rfl⟩
    have hfe : fieldsB s = (!(b1 || (!b2 && decide (0 < s.thn.length)) || (!b3 && decide (0 < s.els.length)) || (!b4 && decide (0 < s.args.length))) && c1 && c2 && c3 && c4) := by
      unfold fieldsB moreI
      rw [hokk, hb1.out, hb2.out, hb3.out, hb4.out, hb5.out, hb6.out, hc1.out, hc2.out, hc3.out, hc4.out, Bool.true_and]
    rw [hfb.out] at hfe
    have HFE := Lib.hid hfe
    have s5 := HSN.out 5 _ rfl
    have s6 := HSN.out 6 _ rfl
    have s7 := HSN.out 7 _ rfl
    have s8 := HSN.out 8 _ rfl
    have s4 := HSN.out 4 _ rfl
    clear hfe hokk
    cases b1 with
    | true =>
      have hz : fb = false := by rw [HFE.out]; simp
      have HZ := Lib.hid hz
      clear hz
      go_wp2_with fail
      go_ret
      rw [HZ.out]
      exact ⟨rfl, HBN.out⟩
    | false =>
      cases b2 with
      | true =>
        cases b3 with
        | true =>
          cases b4 with
          | true =>
            go_wp2_with fail
            refine (tnamed_any s.nm b5 _ hn).mono ?_
            rintro e w2 ⟨rfl, rfl⟩
            rw [hc1.out]
            cases c1 with
            | false =>
              have hz : fb = false := by rw [HFE.out]; simp
              have HZ := Lib.hid hz
              clear hz
              go_wp2_with fail
              go_ret
              rw [HZ.out]
              exact ⟨rfl, HBN.out⟩
            | true =>
              go_wp2_with fail
              refine (tnamed_any s.proc _ _ hp).mono ?_
              rintro e w2 ⟨rfl, rfl⟩
              rw [hc2.out]
              cases c2 with
              | false =>
                have hz : fb = false := by rw [HFE.out]; simp
                have HZ := Lib.hid hz
                clear hz
                go_wp2_with fail
                go_ret
                rw [HZ.out]
                exact ⟨rfl, HBN.out⟩
              | true =>
                go_wp2_with fail
                refine (worth_any' d s.x _ b6 _ HOK.out HHN.out.kid.to).mono ?_
                rintro e w2 ⟨rfl, hbe⟩
                rw [hc3.out]
                have HBN := Lib.hid (HBN.out.trans (hbe.mono HBN.out.size))
                have HHN := Lib.hid (HHN.out.next hbe)
                have s10 := HSN.out.next hbe 10 _ rfl
                clear hbe
                cases c3 with
                | false =>
                  have hz : fb = false := by rw [HFE.out]; simp
                  have HZ := Lib.hid hz
                  clear hz
                  go_wp2_with fail
                  go_ret
                  rw [HZ.out]
                  exact ⟨rfl, HBN.out⟩
                | true =>
                  go_wp2_with fail
                  refine (handed_any d s.args _ _ HHN.out.arg).mono ?_
                  rintro e w3 ⟨rfl, hbe⟩
                  rw [hc4.out]
                  have HBN := Lib.hid (HBN.out.trans (hbe.mono HBN.out.size))
                  have hz : fb = c4 := by rw [HFE.out]; simp
                  have HZ := Lib.hid hz
                  clear hz hbe
                  go_wp2_with fail
                  go_ret
                  rw [HZ.out]
                  exact ⟨rfl, HBN.out⟩
          | false =>
            by_cases t4 : 0 < s.args.length
            · have t4i : (0 : Int) < (s.args.length : Int) := by omega
              have hz : fb = false := by rw [HFE.out]; simp [t4]
              have HZ := Lib.hid hz
              clear hz
              go_wp2_with fail
              go_ret
              rw [HZ.out]
              exact ⟨rfl, HBN.out⟩
            · have t4j : ((0 : Int) < (s.args.length : Int)) = False := eq_false (by omega)
              have t4k : decide (0 < s.args.length) = false := decide_eq_false t4
              have t4H := Lib.hid t4k
              clear t4k
              go_wp2_with fail
              refine (tnamed_any s.nm b5 _ hn).mono ?_
              rintro e w2 ⟨rfl, rfl⟩
              rw [hc1.out]
              cases c1 with
              | false =>
                have hz : fb = false := by rw [HFE.out]; simp
                have HZ := Lib.hid hz
                clear hz
                go_wp2_with fail
                go_ret
                rw [HZ.out]
                exact ⟨rfl, HBN.out⟩
              | true =>
                go_wp2_with fail
                refine (tnamed_any s.proc _ _ hp).mono ?_
                rintro e w2 ⟨rfl, rfl⟩
                rw [hc2.out]
                cases c2 with
                | false =>
                  have hz : fb = false := by rw [HFE.out]; simp
                  have HZ := Lib.hid hz
                  clear hz
                  go_wp2_with fail
                  go_ret
                  rw [HZ.out]
                  exact ⟨rfl, HBN.out⟩
                | true =>
                  go_wp2_with fail
                  refine (worth_any' d s.x _ b6 _ HOK.out HHN.out.kid.to).mono ?_
                  rintro e w2 ⟨rfl, hbe⟩
                  rw [hc3.out]
                  have HBN := Lib.hid (HBN.out.trans (hbe.mono HBN.out.size))
                  have HHN := Lib.hid (HHN.out.next hbe)
                  have s10 := HSN.out.next hbe 10 _ rfl
                  clear hbe
                  cases c3 with
                  | false =>
                    have hz : fb = false := by rw [HFE.out]; simp
                    have HZ := Lib.hid hz
                    clear hz
                    go_wp2_with fail
                    go_ret
                    rw [HZ.out]
                    exact ⟨rfl, HBN.out⟩
                  | true =>
                    go_wp2_with fail
                    refine (handed_any d s.args _ _ HHN.out.arg).mono ?_
                    rintro e w3 ⟨rfl, hbe⟩
                    rw [hc4.out]
                    have HBN := Lib.hid (HBN.out.trans (hbe.mono HBN.out.size))
                    have hz : fb = c4 := by rw [HFE.out]; simp [t4H.out]
                    have HZ := Lib.hid hz
                    clear hz hbe
                    go_wp2_with fail
                    go_ret
                    rw [HZ.out]
                    exact ⟨rfl, HBN.out⟩
        | false =>
          by_cases t3 : 0 < s.els.length
          · have t3i : (0 : Int) < (s.els.length : Int) := by omega
            have hz : fb = false := by rw [HFE.out]; simp [t3]
            have HZ := Lib.hid hz
            clear hz
            go_wp2_with fail
            go_ret
            rw [HZ.out]
            exact ⟨rfl, HBN.out⟩
          · have t3j : ((0 : Int) < (s.els.length : Int)) = False := eq_false (by omega)
            have t3k : decide (0 < s.els.length) = false := decide_eq_false t3
            have t3H := Lib.hid t3k
            clear t3k
            cases b4 with
            | true =>
              go_wp2_with fail
              refine (tnamed_any s.nm b5 _ hn).mono ?_
              rintro e w2 ⟨rfl, rfl⟩
              rw [hc1.out]
              cases c1 with
              | false =>
                have hz : fb = false := by rw [HFE.out]; simp
                have HZ := Lib.hid hz
                clear hz
                go_wp2_with fail
                go_ret
                rw [HZ.out]
                exact ⟨rfl, HBN.out⟩
              | true =>
                go_wp2_with fail
                refine (tnamed_any s.proc _ _ hp).mono ?_
                rintro e w2 ⟨rfl, rfl⟩
                rw [hc2.out]
                cases c2 with
                | false =>
                  have hz : fb = false := by rw [HFE.out]; simp
                  have HZ := Lib.hid hz
                  clear hz
                  go_wp2_with fail
                  go_ret
                  rw [HZ.out]
                  exact ⟨rfl, HBN.out⟩
                | true =>
                  go_wp2_with fail
                  refine (worth_any' d s.x _ b6 _ HOK.out HHN.out.kid.to).mono ?_
                  rintro e w2 ⟨rfl, hbe⟩
                  rw [hc3.out]
                  have HBN := Lib.hid (HBN.out.trans (hbe.mono HBN.out.size))
                  have HHN := Lib.hid (HHN.out.next hbe)
                  have s10 := HSN.out.next hbe 10 _ rfl
                  clear hbe
                  cases c3 with
                  | false =>
                    have hz : fb = false := by rw [HFE.out]; simp
                    have HZ := Lib.hid hz
                    clear hz
                    go_wp2_with fail
                    go_ret
                    rw [HZ.out]
                    exact ⟨rfl, HBN.out⟩
                  | true =>
                    go_wp2_with fail
                    refine (handed_any d s.args _ _ HHN.out.arg).mono ?_
                    rintro e w3 ⟨rfl, hbe⟩
                    rw [hc4.out]
                    have HBN := Lib.hid (HBN.out.trans (hbe.mono HBN.out.size))
                    have hz : fb = c4 := by rw [HFE.out]; simp [t3H.out]
                    have HZ := Lib.hid hz
                    clear hz hbe
                    go_wp2_with fail
                    go_ret
                    rw [HZ.out]
                    exact ⟨rfl, HBN.out⟩
            | false =>
              by_cases t4 : 0 < s.args.length
              · have t4i : (0 : Int) < (s.args.length : Int) := by omega
                have hz : fb = false := by rw [HFE.out]; simp [t3H.out, t4]
                have HZ := Lib.hid hz
                clear hz
                go_wp2_with fail
                go_ret
                rw [HZ.out]
                exact ⟨rfl, HBN.out⟩
              · have t4j : ((0 : Int) < (s.args.length : Int)) = False := eq_false (by omega)
                have t4k : decide (0 < s.args.length) = false := decide_eq_false t4
                have t4H := Lib.hid t4k
                clear t4k
                go_wp2_with fail
                refine (tnamed_any s.nm b5 _ hn).mono ?_
                rintro e w2 ⟨rfl, rfl⟩
                rw [hc1.out]
                cases c1 with
                | false =>
                  have hz : fb = false := by rw [HFE.out]; simp
                  have HZ := Lib.hid hz
                  clear hz
                  go_wp2_with fail
                  go_ret
                  rw [HZ.out]
                  exact ⟨rfl, HBN.out⟩
                | true =>
                  go_wp2_with fail
                  refine (tnamed_any s.proc _ _ hp).mono ?_
                  rintro e w2 ⟨rfl, rfl⟩
                  rw [hc2.out]
                  cases c2 with
                  | false =>
                    have hz : fb = false := by rw [HFE.out]; simp
                    have HZ := Lib.hid hz
                    clear hz
                    go_wp2_with fail
                    go_ret
                    rw [HZ.out]
                    exact ⟨rfl, HBN.out⟩
                  | true =>
                    go_wp2_with fail
                    refine (worth_any' d s.x _ b6 _ HOK.out HHN.out.kid.to).mono ?_
                    rintro e w2 ⟨rfl, hbe⟩
                    rw [hc3.out]
                    have HBN := Lib.hid (HBN.out.trans (hbe.mono HBN.out.size))
                    have HHN := Lib.hid (HHN.out.next hbe)
                    have s10 := HSN.out.next hbe 10 _ rfl
                    clear hbe
                    cases c3 with
                    | false =>
                      have hz : fb = false := by rw [HFE.out]; simp
                      have HZ := Lib.hid hz
                      clear hz
                      go_wp2_with fail
                      go_ret
                      rw [HZ.out]
                      exact ⟨rfl, HBN.out⟩
                    | true =>
                      go_wp2_with fail
                      refine (handed_any d s.args _ _ HHN.out.arg).mono ?_
                      rintro e w3 ⟨rfl, hbe⟩
                      rw [hc4.out]
                      have HBN := Lib.hid (HBN.out.trans (hbe.mono HBN.out.size))
                      have hz : fb = c4 := by rw [HFE.out]; simp [t3H.out, t4H.out]
                      have HZ := Lib.hid hz
                      clear hz hbe
                      go_wp2_with fail
                      go_ret
                      rw [HZ.out]
                      exact ⟨rfl, HBN.out⟩
      | false =>
        by_cases t2 : 0 < s.thn.length
        · have t2i : (0 : Int) < (s.thn.length : Int) := by omega
          have hz : fb = false := by rw [HFE.out]; simp [t2]
          have HZ := Lib.hid hz
          clear hz
          go_wp2_with fail
          go_ret
          rw [HZ.out]
          exact ⟨rfl, HBN.out⟩
        · have t2j : ((0 : Int) < (s.thn.length : Int)) = False := eq_false (by omega)
          have t2k : decide (0 < s.thn.length) = false := decide_eq_false t2
          have t2H := Lib.hid t2k
          clear t2k
          cases b3 with
          | true =>
            cases b4 with
            | true =>
              go_wp2_with fail
              refine (tnamed_any s.nm b5 _ hn).mono ?_
              rintro e w2 ⟨rfl, rfl⟩
              rw [hc1.out]
              cases c1 with
              | false =>
                have hz : fb = false := by rw [HFE.out]; simp
                have HZ := Lib.hid hz
                clear hz
                go_wp2_with fail
                go_ret
                rw [HZ.out]
                exact ⟨rfl, HBN.out⟩
              | true =>
                go_wp2_with fail
                refine (tnamed_any s.proc _ _ hp).mono ?_
                rintro e w2 ⟨rfl, rfl⟩
                rw [hc2.out]
                cases c2 with
                | false =>
                  have hz : fb = false := by rw [HFE.out]; simp
                  have HZ := Lib.hid hz
                  clear hz
                  go_wp2_with fail
                  go_ret
                  rw [HZ.out]
                  exact ⟨rfl, HBN.out⟩
                | true =>
                  go_wp2_with fail
                  refine (worth_any' d s.x _ b6 _ HOK.out HHN.out.kid.to).mono ?_
                  rintro e w2 ⟨rfl, hbe⟩
                  rw [hc3.out]
                  have HBN := Lib.hid (HBN.out.trans (hbe.mono HBN.out.size))
                  have HHN := Lib.hid (HHN.out.next hbe)
                  have s10 := HSN.out.next hbe 10 _ rfl
                  clear hbe
                  cases c3 with
                  | false =>
                    have hz : fb = false := by rw [HFE.out]; simp
                    have HZ := Lib.hid hz
                    clear hz
                    go_wp2_with fail
                    go_ret
                    rw [HZ.out]
                    exact ⟨rfl, HBN.out⟩
                  | true =>
                    go_wp2_with fail
                    refine (handed_any d s.args _ _ HHN.out.arg).mono ?_
                    rintro e w3 ⟨rfl, hbe⟩
                    rw [hc4.out]
                    have HBN := Lib.hid (HBN.out.trans (hbe.mono HBN.out.size))
                    have hz : fb = c4 := by rw [HFE.out]; simp [t2H.out]
                    have HZ := Lib.hid hz
                    clear hz hbe
                    go_wp2_with fail
                    go_ret
                    rw [HZ.out]
                    exact ⟨rfl, HBN.out⟩
            | false =>
              by_cases t4 : 0 < s.args.length
              · have t4i : (0 : Int) < (s.args.length : Int) := by omega
                have hz : fb = false := by rw [HFE.out]; simp [t2H.out, t4]
                have HZ := Lib.hid hz
                clear hz
                go_wp2_with fail
                go_ret
                rw [HZ.out]
                exact ⟨rfl, HBN.out⟩
              · have t4j : ((0 : Int) < (s.args.length : Int)) = False := eq_false (by omega)
                have t4k : decide (0 < s.args.length) = false := decide_eq_false t4
                have t4H := Lib.hid t4k
                clear t4k
                go_wp2_with fail
                refine (tnamed_any s.nm b5 _ hn).mono ?_
                rintro e w2 ⟨rfl, rfl⟩
                rw [hc1.out]
                cases c1 with
                | false =>
                  have hz : fb = false := by rw [HFE.out]; simp
                  have HZ := Lib.hid hz
                  clear hz
                  go_wp2_with fail
                  go_ret
                  rw [HZ.out]
                  exact ⟨rfl, HBN.out⟩
                | true =>
                  go_wp2_with fail
                  refine (tnamed_any s.proc _ _ hp).mono ?_
                  rintro e w2 ⟨rfl, rfl⟩
                  rw [hc2.out]
                  cases c2 with
                  | false =>
                    have hz : fb = false := by rw [HFE.out]; simp
                    have HZ := Lib.hid hz
                    clear hz
                    go_wp2_with fail
                    go_ret
                    rw [HZ.out]
                    exact ⟨rfl, HBN.out⟩
                  | true =>
                    go_wp2_with fail
                    refine (worth_any' d s.x _ b6 _ HOK.out HHN.out.kid.to).mono ?_
                    rintro e w2 ⟨rfl, hbe⟩
                    rw [hc3.out]
                    have HBN := Lib.hid (HBN.out.trans (hbe.mono HBN.out.size))
                    have HHN := Lib.hid (HHN.out.next hbe)
                    have s10 := HSN.out.next hbe 10 _ rfl
                    clear hbe
                    cases c3 with
                    | false =>
                      have hz : fb = false := by rw [HFE.out]; simp
                      have HZ := Lib.hid hz
                      clear hz
                      go_wp2_with fail
                      go_ret
                      rw [HZ.out]
                      exact ⟨rfl, HBN.out⟩
                    | true =>
                      go_wp2_with fail
                      refine (handed_any d s.args _ _ HHN.out.arg).mono ?_
                      rintro e w3 ⟨rfl, hbe⟩
                      rw [hc4.out]
                      have HBN := Lib.hid (HBN.out.trans (hbe.mono HBN.out.size))
                      have hz : fb = c4 := by rw [HFE.out]; simp [t2H.out, t4H.out]
                      have HZ := Lib.hid hz
                      clear hz hbe
                      go_wp2_with fail
                      go_ret
                      rw [HZ.out]
                      exact ⟨rfl, HBN.out⟩
          | false =>
            by_cases t3 : 0 < s.els.length
            · have t3i : (0 : Int) < (s.els.length : Int) := by omega
              have hz : fb = false := by rw [HFE.out]; simp [t2H.out, t3]
              have HZ := Lib.hid hz
              clear hz
              go_wp2_with fail
              go_ret
              rw [HZ.out]
              exact ⟨rfl, HBN.out⟩
            · have t3j : ((0 : Int) < (s.els.length : Int)) = False := eq_false (by omega)
              have t3k : decide (0 < s.els.length) = false := decide_eq_false t3
              have t3H := Lib.hid t3k
              clear t3k
              cases b4 with
              | true =>
                go_wp2_with fail
                refine (tnamed_any s.nm b5 _ hn).mono ?_
                rintro e w2 ⟨rfl, rfl⟩
                rw [hc1.out]
                cases c1 with
                | false =>
                  have hz : fb = false := by rw [HFE.out]; simp
                  have HZ := Lib.hid hz
                  clear hz
                  go_wp2_with fail
                  go_ret
                  rw [HZ.out]
                  exact ⟨rfl, HBN.out⟩
                | true =>
                  go_wp2_with fail
                  refine (tnamed_any s.proc _ _ hp).mono ?_
                  rintro e w2 ⟨rfl, rfl⟩
                  rw [hc2.out]
                  cases c2 with
                  | false =>
                    have hz : fb = false := by rw [HFE.out]; simp
                    have HZ := Lib.hid hz
                    clear hz
                    go_wp2_with fail
                    go_ret
                    rw [HZ.out]
                    exact ⟨rfl, HBN.out⟩
                  | true =>
                    go_wp2_with fail
                    refine (worth_any' d s.x _ b6 _ HOK.out HHN.out.kid.to).mono ?_
                    rintro e w2 ⟨rfl, hbe⟩
                    rw [hc3.out]
                    have HBN := Lib.hid (HBN.out.trans (hbe.mono HBN.out.size))
                    have HHN := Lib.hid (HHN.out.next hbe)
                    have s10 := HSN.out.next hbe 10 _ rfl
                    clear hbe
                    cases c3 with
                    | false =>
                      have hz : fb = false := by rw [HFE.out]; simp
                      have HZ := Lib.hid hz
                      clear hz
                      go_wp2_with fail
                      go_ret
                      rw [HZ.out]
                      exact ⟨rfl, HBN.out⟩
                    | true =>
                      go_wp2_with fail
                      refine (handed_any d s.args _ _ HHN.out.arg).mono ?_
                      rintro e w3 ⟨rfl, hbe⟩
                      rw [hc4.out]
                      have HBN := Lib.hid (HBN.out.trans (hbe.mono HBN.out.size))
                      have hz : fb = c4 := by rw [HFE.out]; simp [t2H.out, t3H.out]
                      have HZ := Lib.hid hz
                      clear hz hbe
                      go_wp2_with fail
                      go_ret
                      rw [HZ.out]
                      exact ⟨rfl, HBN.out⟩
              | false =>
                by_cases t4 : 0 < s.args.length
                · have t4i : (0 : Int) < (s.args.length : Int) := by omega
                  have hz : fb = false := by rw [HFE.out]; simp [t2H.out, t3H.out, t4]
                  have HZ := Lib.hid hz
                  clear hz
                  go_wp2_with fail
                  go_ret
                  rw [HZ.out]
                  exact ⟨rfl, HBN.out⟩
                · have t4j : ((0 : Int) < (s.args.length : Int)) = False := eq_false (by omega)
                  have t4k : decide (0 < s.args.length) = false := decide_eq_false t4
                  have t4H := Lib.hid t4k
                  clear t4k
                  go_wp2_with fail
                  refine (tnamed_any s.nm b5 _ hn).mono ?_
                  rintro e w2 ⟨rfl, rfl⟩
                  rw [hc1.out]
                  cases c1 with
                  | false =>
                    have hz : fb = false := by rw [HFE.out]; simp
                    have HZ := Lib.hid hz
                    clear hz
                    go_wp2_with fail
                    go_ret
                    rw [HZ.out]
                    exact ⟨rfl, HBN.out⟩
                  | true =>
                    go_wp2_with fail
                    refine (tnamed_any s.proc _ _ hp).mono ?_
                    rintro e w2 ⟨rfl, rfl⟩
                    rw [hc2.out]
                    cases c2 with
                    | false =>
                      have hz : fb = false := by rw [HFE.out]; simp
                      have HZ := Lib.hid hz
                      clear hz
                      go_wp2_with fail
                      go_ret
                      rw [HZ.out]
                      exact ⟨rfl, HBN.out⟩
                    | true =>
                      go_wp2_with fail
                      refine (worth_any' d s.x _ b6 _ HOK.out HHN.out.kid.to).mono ?_
                      rintro e w2 ⟨rfl, hbe⟩
                      rw [hc3.out]
                      have HBN := Lib.hid (HBN.out.trans (hbe.mono HBN.out.size))
                      have HHN := Lib.hid (HHN.out.next hbe)
                      have s10 := HSN.out.next hbe 10 _ rfl
                      clear hbe
                      cases c3 with
                      | false =>
                        have hz : fb = false := by rw [HFE.out]; simp
                        have HZ := Lib.hid hz
                        clear hz
                        go_wp2_with fail
                        go_ret
                        rw [HZ.out]
                        exact ⟨rfl, HBN.out⟩
                      | true =>
                        go_wp2_with fail
                        refine (handed_any d s.args _ _ HHN.out.arg).mono ?_
                        rintro e w3 ⟨rfl, hbe⟩
                        rw [hc4.out]
                        have HBN := Lib.hid (HBN.out.trans (hbe.mono HBN.out.size))
                        have hz : fb = c4 := by rw [HFE.out]; simp [t2H.out, t3H.out, t4H.out]
                        have HZ := Lib.hid hz
                        clear hz hbe
                        go_wp2_with fail
                        go_ret
                        rw [HZ.out]
                        exact ⟨rfl, HBN.out⟩
end Go.Proofs.Ytghlmengcidmdaa.Tr
end
section
namespace Go.Proofs.Ytghlmengcidmdaa.Tr
open Go.RowKit Go.Proofs.Ytghlmengcidmdaa.Lx Go.Proofs.Ytghlmengcidmdaa.Wd
mutual
/-- May a statement stand so, so deep, behind so many? (most: how many there may be; deep: how deep.) -/
def rowS (most deep nest : Int) (n : Int) : St → Bool
  | .mk i k ls nm pr x h ar t e => decide (n + 1 ≤ most) && (i == n + 1) && namesB ls && fieldsB (.mk i k ls nm pr x h ar t e) && rowsL most deep (nest + 1) (n + 1) t && rowsL most deep (nest + 1) (n + 1 + cntL t) e
def rowsL (most deep nest : Int) (n : Int) : List St → Bool
  | [] => true
  | s :: r => decide (nest ≤ deep) && rowS most deep nest n s && rowsL most deep nest (n + cntS s) r
end
theorem rowS_eq (most deep nest n : Int) (s : St) : rowS most deep nest n s = (decide (n + 1 ≤ most) && (s.id == n + 1) && namesB s.labels && fieldsB s && rowsL most deep (nest + 1) (n + 1) s.thn && rowsL most deep (nest + 1) (n + 1 + cntL s.thn) s.els) := by
  cases s
  simp only [rowS, St.id, St.labels, St.thn, St.els]
theorem rowsL_cons (most deep nest n : Int) (s : St) (r : List St) : rowsL most deep nest n (s :: r) = (decide (nest ≤ deep) && rowS most deep nest n s && rowsL most deep nest (n + cntS s) r) := by simp only [rowsL]
theorem rowsL_append (most deep nest : Int) : ∀ (l m : List St) (n : Int), rowsL most deep nest n (l ++ m) = (rowsL most deep nest n l && rowsL most deep nest (n + cntL l) m) := by
  intro l
  induction l with
  | nil => intro m n; simp [rowsL, cntL]
  | cons s r ih =>
    intro m n
    have e : n + ((cntS s + cntL r : Nat) : Int) = n + cntS s + cntL r := by push_cast; omega
    rw [List.cons_append, rowsL_cons, rowsL_cons, ih, cntL_cons, e]
    simp only [Bool.and_assoc]
/-- A counter's block L is written, new blocks are made; nothing else is turned. -/
theorem count_set {w : World} {L j : Nat} {v : Value} : w.grownBy (w.setCell ⟨L, j, none⟩ v) (some L) :=
  ⟨rfl, rfl, rfl, by rw [World.size_setCell]; exact Nat.le_refl _, fun k _ hk => Below.heap_setCell w _ _ k (fun e => hk (by rw [e]))⟩
theorem but_grown {L : Nat} {w w' : World} (hg : w.grownBy w' (some L)) : Cs.le (but L w) (but L w') := fun g j u ⟨h1, h2⟩ => by
  refine ⟨h1, ?_⟩
  show w'.cell? ⟨g, j, none⟩ = some u
  rw [hg.cell_far ⟨g, j, none⟩ (cell_lt h2) (fun e => h1 (Option.some.inj e))]
  exact h2
end Go.Proofs.Ytghlmengcidmdaa.Tr
end
section
namespace Go.Proofs.Ytghlmengcidmdaa.Tr
open Go.RowKit Go.Proofs.Ytghlmengcidmdaa.Lx Go.Proofs.Ytghlmengcidmdaa.Wd
def RowsDone (L : Nat) (b : Bool) (n : Int) (w : World) (e : Ending) (w' : World) : Prop :=
  e = .returned (.bool b) ∧ w.grownBy w' (some L) ∧ Free w' L ∧ (b = true → w'.cell? ⟨L, 0, none⟩ = some (.int .i64 n))
mutual
theorem rowS_most : ∀ (s : St) (nest n : Int), rowS 200 12 nest n s = true → n + cntS s ≤ 200
  | .mk i k ls nm pr x h ar t e, nest, n, hr => by
    rw [rowS_eq] at hr
    simp only [Bool.and_eq_true, decide_eq_true_eq, St.thn, St.els] at hr
    have h1 := rows_most t (nest + 1) (n + 1) hr.1.2 hr.1.1.1.1.1
    have h2 := rows_most e (nest + 1) (n + 1 + cntL t) hr.2 h1
    simp only [cntS]
    push_cast
    omega
theorem rows_most : ∀ (l : List St) (nest n : Int), rowsL 200 12 nest n l = true → n ≤ 200 → n + cntL l ≤ 200
  | [], nest, n, _, hn => by simp only [cntL]; simpa using hn
  | s :: r, nest, n, hr, hn => by
    rw [rowsL_cons] at hr
    simp only [Bool.and_eq_true, decide_eq_true_eq] at hr
    have h1 := rowS_most s nest n hr.1.2
    have h2 := rows_most r nest (n + cntS s) hr.2 h1
    simp only [cntL]
    push_cast
    omega
end
theorem rows_no {l : List St} {k : Nat} (hk : k < l.length) {nest n : Int} (h : rowS 200 12 nest (n + cntL (l.take k)) l[k] = false) : rowsL 200 12 nest n l = false := by
  have e : l = l.take k ++ l[k] :: l.drop (k + 1) := by rw [← List.drop_eq_getElem_cons hk, List.take_append_drop]
  rw [e, rowsL_append, rowsL_cons, h, Bool.and_false, Bool.false_and, Bool.and_false]
theorem rows_yes {l : List St} {k : Nat} (hk : k < l.length) {nest n : Int} (h0 : rowsL 200 12 nest n (l.take k) = true) (hn : nest ≤ 12) (h : rowS 200 12 nest (n + cntL (l.take k)) l[k] = true) : rowsL 200 12 nest n (l.take (k + 1)) = true := by
  rw [List.take_succ_eq_append_getElem hk, rowsL_append, h0, rowsL_cons, h]
  simp [rowsL, hn]
set_option maxHeartbeats 8000000 in
set_option maxRecDepth 100000 in
theorem rows_any (L : Nat) : ∀ (d : Nat) (l : List St) (v : Value) (nest n : Int) (w : World), StC (but L w) d v l → w.cell? ⟨L, 0, none⟩ = some (.int .i64 n) → Free w L → 0 ≤ n → n ≤ 200 → 1 ≤ nest → nest ≤ 13 →
    Calls Try.prog 70 #[.pointer (some ⟨L, 0, none⟩), v, .int .i64 nest] w (RowsDone L (rowsL 200 12 nest n l) (n + cntL l) w) := by
  intro d
  induction d with
  | zero => intro l v nest n w h; exact h.elim
  | succ d ih =>
    intro l v nest n w hl hc hf hn0 hn1 hn2 hn3
    have IH := Lib.hid ih
    obtain ⟨a, cap, rfl, hc1, hc2⟩ := hl.form
    have HL := Lib.hid hl
    have HF := Lib.hid hf
    have HC := Lib.hid hc
    obtain ⟨B, hB⟩ : ∃ B, Hid (rowsL 200 12 nest n l = B) := ⟨_, Lib.hid rfl⟩
    rw [hB.out]
    clear ih hl hf
    go_enter Try.func70, Try.ntmps70
    by_cases hnest : nest ≤ 12
    · have hg : ¬ (12 : Int) < nest := by omega
      go_wp2_with fail
      go_loopw [18] (fun i wr => ∃ k : Nat, k ≤ l.length ∧ i = .int .i64 k ∧ w.grownBy wr (some L) ∧ Free wr L ∧ wr.cell? ⟨L, 0, none⟩ = some (.int .i64 (n + cntL (l.take k))) ∧ rowsL 200 12 nest n (l.take k) = true) (fun i _ => (l.length - intOf i).toNat)
      case atStart => exact ⟨0, by omega, rfl, World.grownBy.refl _ _, HF.out, by simpa [cntL] using hc, by simp [rowsL]⟩
      case round =>
        obtain ⟨k, hk, rfl, hgr, hfr, hcl, hro⟩ := hrel
        have HGR := Lib.hid hgr
        have HFR := Lib.hid hfr
        have HCL := Lib.hid hcl
        have HRO := Lib.hid hro
        have hN200 := rows_most _ _ _ hro hn1
        obtain ⟨N, hN⟩ : ∃ N, Hid (n + (cntL (l.take k) : Int) = N) := ⟨_, Lib.hid rfl⟩
        have hN0 : 0 ≤ n + (cntL (l.take k) : Int) := by omega
        rw [hN.out] at hcl hN200 hN0
        by_cases hlt : k < l.length
        · have hlt' : (k : Int) < (l.length : Int) := by omega
          have h0k : (0 : Int) ≤ (k : Int) := by omega
          have hne : l ≠ [] := by intro h; rw [h] at hlt; simp at hlt
          obtain ⟨g, off, cap', hv, _, hcells⟩ := SlAt.cells (StC.mono (but_grown hgr) HL.out) hne
          simp only [Value.slice.injEq] at hv
          obtain ⟨rfl, -, rfl⟩ := hv
          have hst := hcells k hlt
          obtain ⟨s, hs⟩ : ∃ s, Hid (l[k] = s) := ⟨_, Lib.hid rfl⟩
          rw [hs.out] at hst
          obtain ⟨lv1, av1, tv1, ev1, p0, p1, p2, p3, p4, ⟨kv1, p5, p6, p7, p8, hok, hk1⟩, p9, p10, p11, p12, j1, j2, j3, j4, hl1, ha1, ht1, he1⟩ := hst
          obtain ⟨la1, lc1, rfl, -, -⟩ := hl1.form
          obtain ⟨aa1, ac1, rfl, -, -⟩ := ha1.form
          obtain ⟨ta1, tc1, rfl, -, -⟩ := ht1.form
          obtain ⟨ea1, ec1, rfl, -, -⟩ := he1.form
          obtain ⟨ka1, kc1, rfl, -, -⟩ := hk1.form
          have e0 : wr.cell? ⟨g, off + k * 13, none⟩ = _ := p0.2
          have e1 : wr.cell? ⟨g, off + k * 13 + 1, none⟩ = _ := p1.2
          have e2 : wr.cell? ⟨g, off + k * 13 + 2, none⟩ = _ := p2.2
          have e3 : wr.cell? ⟨g, off + k * 13 + 3, none⟩ = _ := p3.2
          have e4 : wr.cell? ⟨g, off + k * 13 + 4, none⟩ = _ := p4.2
          have e5 : wr.cell? ⟨g, off + k * 13 + 5, none⟩ = _ := p5.2
          have e6 : wr.cell? ⟨g, off + k * 13 + 6, none⟩ = _ := p6.2
          have e7 : wr.cell? ⟨g, off + k * 13 + 7, none⟩ = _ := p7.2
          have e8 : wr.cell? ⟨g, off + k * 13 + 8, none⟩ = _ := p8.2
          have e9 : wr.cell? ⟨g, off + k * 13 + 9, none⟩ = _ := p9.2
          have e10 : wr.cell? ⟨g, off + k * 13 + 10, none⟩ = _ := p10.2
          have e11 : wr.cell? ⟨g, off + k * 13 + 11, none⟩ = _ := p11.2
          have e12 : wr.cell? ⟨g, off + k * 13 + 12, none⟩ = _ := p12.2
          have HLB := Lib.hid hl1
          have HKB := Lib.hid hk1
          have HAB := Lib.hid ha1
          have HTB := Lib.hid ht1
          have HEB := Lib.hid he1
          have HOK := Lib.hid hok
          have HJ3 := Lib.hid j3
          have HJ4 := Lib.hid j4
          have hLw := cell_lt hcl
          have hfL := hfr 0
          have hw1 : wrap64 (N + 1) = N + 1 := by unfold wrap64; omega
          clear hcells p0 p1 p2 p3 p4 p5 p6 p7 p8 p9 p10 p11 p12 hok hk1 hl1 ha1 ht1 he1 j1 j2 j3 j4 hne hgr hfr hro
          go_upto_region 7 with fail
          refine cut_world (fun wx => wr.grownBy wx (some L) ∧ wr.heap.size + 1 ≤ wx.heap.size ∧ wx.cell? ⟨L, 0, none⟩ = some (.int .i64 (N + 1)) ∧ Free wx L ∧ BoxAt wx wr.heap.size [.int .i64 s.id, .int .i64 s.kind, .slice la1 s.labels.length lc1, .string s.nm, .string s.proc, .int .i64 s.x.op, .int .i64 s.x.n, .string s.x.nm, .slice ka1 s.x.ks.length kc1, .bool s.has, .slice aa1 s.args.length ac1, .slice ta1 s.thn.length tc1, .slice ea1 s.els.length ec1] ∧ Hang d wx s (.slice la1 s.labels.length lc1) (.slice ka1 s.x.ks.length kc1) (.slice aa1 s.args.length ac1) (.slice ta1 s.thn.length tc1) (.slice ea1 s.els.length ec1) ∧ StC (but L wx) d (.slice ta1 s.thn.length tc1) s.thn ∧ StC (but L wx) d (.slice ea1 s.els.length ec1) s.els) ⟨?_, ?_, ?_, ?_, ?_, ?_, ?_, ?_⟩ ?_
          · exact count_set.trans (grown_of (boxed _ _) _)
          · simp
          · exact cell_next (boxed _ _) (cell_set hcl)
          · exact (HFR.out.set).next (by rw [World.size_setCell]; exact hLw) (boxed _ _)
          · have := box_new (wr.setCell ⟨L, 0, none⟩ (.int .i64 (N + 1))) #[.int .i64 s.id, .int .i64 s.kind, .slice la1 s.labels.length lc1, .string s.nm, .string s.proc, .int .i64 s.x.op, .int .i64 s.x.n, .string s.x.nm, .slice ka1 s.x.ks.length kc1, .bool s.has, .slice aa1 s.args.length ac1, .slice ta1 s.thn.length tc1, .slice ea1 s.els.length ec1] 41
            rw [World.size_setCell] at this
            exact this
          · have le := Cs.le_trans (Cs.le_trans (but_grown (count_set (w := wr) (L := L) (j := 0) (v := .int .i64 (N + 1)))) (but_next (boxed _ (.cells #[.int .i64 s.id, .int .i64 s.kind, .slice la1 s.labels.length lc1, .string s.nm, .string s.proc, .int .i64 s.x.op, .int .i64 s.x.n, .string s.x.nm, .slice ka1 s.x.ks.length kc1, .bool s.has, .slice aa1 s.args.length ac1, .slice ta1 s.thn.length tc1, .slice ea1 s.els.length ec1] 41)))) only_out
            exact ⟨StrC.mono le HLB.out, ExC.mono le HKB.out, SlAt.imp HAB.out (fun _ _ _ _ => ArAt.mono le), StC.mono le HTB.out, StC.mono le HEB.out⟩
          · exact StC.mono (Cs.le_trans (but_grown (count_set (w := wr) (L := L) (j := 0) (v := .int .i64 (N + 1)))) (but_next (boxed _ (.cells #[.int .i64 s.id, .int .i64 s.kind, .slice la1 s.labels.length lc1, .string s.nm, .string s.proc, .int .i64 s.x.op, .int .i64 s.x.n, .string s.x.nm, .slice ka1 s.x.ks.length kc1, .bool s.has, .slice aa1 s.args.length ac1, .slice ta1 s.thn.length tc1, .slice ea1 s.els.length ec1] 41)))) HTB.out
          · exact StC.mono (Cs.le_trans (but_grown (count_set (w := wr) (L := L) (j := 0) (v := .int .i64 (N + 1)))) (but_next (boxed _ (.cells #[.int .i64 s.id, .int .i64 s.kind, .slice la1 s.labels.length lc1, .string s.nm, .string s.proc, .int .i64 s.x.op, .int .i64 s.x.n, .string s.x.nm, .slice ka1 s.x.ks.length kc1, .bool s.has, .slice aa1 s.args.length ac1, .slice ta1 s.thn.length tc1, .slice ea1 s.els.length ec1] 41)))) HEB.out
          rintro w1 ⟨hg1, hz1, hc1', hf1, hbx1, hh1, ht1, he1⟩
          have HG1 := Lib.hid hg1
          have HF1 := Lib.hid hf1
          have HBX1 := Lib.hid hbx1
          have HH1 := Lib.hid hh1
          have HT1 := Lib.hid ht1
          have HE1 := Lib.hid he1
          have hLz := cell_lt hc1'
          have m0 := hbx1 0 _ rfl
          have m1 := hbx1 1 _ rfl
          have m2 := hbx1 2 _ rfl
          have m3 := hbx1 3 _ rfl
          have m4 := hbx1 4 _ rfl
          have m5 := hbx1 5 _ rfl
          have m6 := hbx1 6 _ rfl
          have m7 := hbx1 7 _ rfl
          have m8 := hbx1 8 _ rfl
          have m9 := hbx1 9 _ rfl
          have m10 := hbx1 10 _ rfl
          have m11 := hbx1 11 _ rfl
          have m12 := hbx1 12 _ rfl
          obtain ⟨c1, hcc1⟩ : ∃ c, Hid (namesB s.labels = c) := ⟨_, Lib.hid rfl⟩
          obtain ⟨c2, hcc2⟩ : ∃ c, Hid (fieldsB s = c) := ⟨_, Lib.hid rfl⟩
          clear hg1 hf1 hbx1 hh1 ht1 he1 e0 e1 e2 e3 e4 e5 e6 e7 e8 e9 e10 e11 e12 hcl
          by_cases h200 : N + 1 ≤ 200
          · have b200 : ((200 : Int) < N + 1) = False := eq_false (by omega)
            cases hid : (s.id == N + 1) with
            | false =>
              have nid : (s.id != N + 1) = true := by unfold bne; rw [hid]; rfl
              have HID := Lib.hid hid
              go_quiet (fail)
              have hz : B = false := by
                rw [← hB.out]
                refine rows_no hlt ?_
                rw [hN.out, hs.out, rowS_eq, HID.out]
                simp
              have HZ := Lib.hid hz
              clear hz
              go_wp2_with fail
              go_ret
              rw [HZ.out]
              exact ⟨rfl, HGR.out.trans (HG1.out.trans (grown_of (below_drewN (Below.refl _ _) nq) _)), HF1.out.next hLz (below_drewN (Below.refl _ _) nq), fun h => by cases h⟩
            | true =>
              have nid : (s.id != N + 1) = false := by unfold bne; rw [hid]; rfl
              cases c1 with
              | false =>
                have HID := Lib.hid hid
                go_quiet ((go_at_call 69; exact Calls.quiet_of_same ((hcc1.out ▸ tnames_any s.labels _ _ (StrC.to (HH1.out.next (below_drewN (Below.refl _ _) _)).lab)).mono fun e w' h => ⟨h.1, h.2.symm⟩)))
                have hz : B = false := by
                  rw [← hB.out]
                  refine rows_no hlt ?_
                  rw [hN.out, hs.out, rowS_eq, HID.out, hcc1.out]
                  simp
                have HZ := Lib.hid hz
                clear hz
                go_wp2_with fail
                go_ret
                rw [HZ.out]
                exact ⟨rfl, HGR.out.trans (HG1.out.trans (grown_of (below_drewN (Below.refl _ _) nq) _)), HF1.out.next hLz (below_drewN (Below.refl _ _) nq), fun h => by cases h⟩
              | true =>
                go_region_held3 (fun w' => w'.cell? ⟨L, 0, none⟩ = some (.int .i64 (N + 1)) ∧ w'.cell? ⟨wr.heap.size, 0, none⟩ = some (.int .i64 s.id) ∧ w'.cell? ⟨wr.heap.size, 1, none⟩ = some (.int .i64 s.kind) ∧ w'.cell? ⟨wr.heap.size, 2, none⟩ = some (.slice la1 s.labels.length lc1) ∧ w'.cell? ⟨wr.heap.size, 3, none⟩ = some (.string s.nm) ∧ w'.cell? ⟨wr.heap.size, 4, none⟩ = some (.string s.proc) ∧ w'.cell? ⟨wr.heap.size, 5, none⟩ = some (.int .i64 s.x.op) ∧ w'.cell? ⟨wr.heap.size, 6, none⟩ = some (.int .i64 s.x.n) ∧ w'.cell? ⟨wr.heap.size, 7, none⟩ = some (.string s.x.nm) ∧ w'.cell? ⟨wr.heap.size, 8, none⟩ = some (.slice ka1 s.x.ks.length kc1) ∧ w'.cell? ⟨wr.heap.size, 9, none⟩ = some (.bool s.has) ∧ w'.cell? ⟨wr.heap.size, 10, none⟩ = some (.slice aa1 s.args.length ac1) ∧ w'.cell? ⟨wr.heap.size, 11, none⟩ = some (.slice ta1 s.thn.length tc1) ∧ w'.cell? ⟨wr.heap.size, 12, none⟩ = some (.slice ea1 s.els.length ec1))
                  (first
                    | go_keep
                    | (go_split_ands
                       refine ⟨?_, ?_, ?_, ?_, ?_, ?_, ?_, ?_, ?_, ?_, ?_, ?_, ?_, ?_⟩ <;> exact cell_next hb3 (by assumption)))
                  (first
                    | (go_at_call 69
                       refine (tnames_any s.labels _ _ (StrC.to (HH1.out.next (below_drewN (Below.refl _ _) 1)).lab)).mono ?_
                       rintro e w2 ⟨rfl, rfl⟩
                       rw [hcc1.out])
                    | (go_at_call 118
                       refine (fields_any d s _ _ _ _ _ _ _ _ _ _ _ HOK.out HJ3.out HJ4.out (HH1.out.next (below_drewN (Below.refl _ _) 1))).mono ?_
                       rintro e w3 ⟨rfl, hb3⟩
                       rw [hcc2.out]))
                have HID := Lib.hid hid
                have hbd : Below w1.heap.size w1 w3 := (below_drewN (Below.refl _ _) 1).trans hb3
                have HG3 := Lib.hid (HG1.out.trans (grown_of hbd _))
                have HF3 := Lib.hid (HF1.out.next hLz hbd)
                have hc3 := cell_next hbd hc1'
                have HT3 := Lib.hid (StC.mono (but_next hbd) HT1.out)
                have HE3 := Lib.hid (StC.mono (but_next hbd) HE1.out)
                have HBX3 := Lib.hid (HBX1.out.next hbd)
                have hLz3 := cell_lt hc3
                have q11 := HBX3.out 11 _ rfl
                clear hbd hb3 m0 m1 m2 m3 m4 m5 m6 m7 m8 m9 m10 m11 m12
                cases c2 with
                | false =>
                  have hz : B = false := by
                    rw [← hB.out]
                    refine rows_no hlt ?_
                    rw [hN.out, hs.out, rowS_eq, HID.out, hcc1.out, hcc2.out]
                    simp
                  have HZ := Lib.hid hz
                  clear hz
                  go_wp2_with fail
                  go_ret
                  rw [HZ.out]
                  exact ⟨rfl, HGR.out.trans (HG3.out), HF3.out, fun h => by cases h⟩
                | true =>
                  have hnw : wrap64 (nest + 1) = nest + 1 := by unfold wrap64; omega
                  obtain ⟨r1, hr1⟩ : ∃ r, Hid (rowsL 200 12 (nest + 1) (N + 1) s.thn = r) := ⟨_, Lib.hid rfl⟩
                  obtain ⟨r2, hr2⟩ : ∃ r, Hid (rowsL 200 12 (nest + 1) (N + 1 + cntL s.thn) s.els = r) := ⟨_, Lib.hid rfl⟩
                  go_wp2_with fail
                  refine (IH.out s.thn _ (nest + 1) (N + 1) _ HT3.out hc3 HF3.out (by omega) h200 (by omega) (by omega)).mono ?_
                  rintro e w4 ⟨rfl, hg4, hf4, hc4⟩
                  rw [hr1.out] at hc4 ⊢
                  have HG4 := Lib.hid (HG3.out.trans hg4)
                  have HF4 := Lib.hid hf4
                  have q12 := (hg4.cell_far ⟨wr.heap.size, 12, none⟩ (cell_lt (HBX3.out 12 _ rfl)) (fun e => by have := Option.some.inj e; simp only at this; omega)).trans (HBX3.out 12 _ rfl)
                  have HE4 := Lib.hid (StC.mono (but_grown hg4) HE3.out)
                  clear hg4 hf4 q11
                  cases r1 with
                  | false =>
                    have hz : B = false := by
                      rw [← hB.out]
                      refine rows_no hlt ?_
                      rw [hN.out, hs.out, rowS_eq, HID.out, hcc1.out, hcc2.out, hr1.out]
                      simp
                    have HZ := Lib.hid hz
                    clear hz
                    go_wp2_with fail
                    go_ret
                    rw [HZ.out]
                    exact ⟨rfl, HGR.out.trans (HG4.out), HF4.out, fun h => by cases h⟩
                  | true =>
                    have hcell := hc4 rfl
                    have hbnd := rows_most s.thn (nest + 1) (N + 1) hr1.out h200
                    clear hc4 hc3
                    go_wp2_with fail
                    refine (IH.out s.els _ (nest + 1) (N + 1 + cntL s.thn) _ HE4.out hcell HF4.out (by omega) hbnd (by omega) (by omega)).mono ?_
                    rintro e w5 ⟨rfl, hg5, hf5, hc5⟩
                    rw [hr2.out] at hc5 ⊢
                    have HG5 := Lib.hid (HG4.out.trans hg5)
                    have HF5 := Lib.hid hf5
                    clear hg5 hf5
                    cases r2 with
                    | false =>
                      have hz : B = false := by
                        rw [← hB.out]
                        refine rows_no hlt ?_
                        rw [hN.out, hs.out, rowS_eq, HID.out, hcc1.out, hcc2.out, hr1.out, hr2.out]
                        simp
                      have HZ := Lib.hid hz
                      clear hz
                      go_wp2_with fail
                      go_ret
                      rw [HZ.out]
                      exact ⟨rfl, HGR.out.trans (HG5.out), HF5.out, fun h => by cases h⟩
                    | true =>
                      have HC5 := Lib.hid (hc5 rfl)
                      clear hc5 hcell
                      go_wp2_with fail
                      go_roundw
                      case rel =>
                        refine ⟨k + 1, by omega, by go_num, HGR.out.trans HG5.out, HF5.out, ?_, rows_yes hlt HRO.out hnest ?_⟩
                        · have e : n + (cntL (l.take (k + 1)) : Int) = N + 1 + cntL s.thn + cntL s.els := by
                            rw [List.take_succ_eq_append_getElem hlt, cntL_append, hs.out, ← hN.out, cntL_cons, cntS_eq]
                            have : cntL ([] : List St) = 0 := by simp [cntL]
                            rw [this]
                            push_cast
                            omega
                          rw [e]
                          exact HC5.out
                        · rw [hN.out, hs.out, rowS_eq, HID.out, hcc1.out, hcc2.out, hr1.out, hr2.out]
                          simpa using h200
                      case measure => simp [intOf]; omega
          · have b200 : ((200 : Int) < N + 1) = True := eq_true (by omega)
            go_quiet (fail)
            have hz : B = false := by
              rw [← hB.out]
              refine rows_no hlt ?_
              rw [hN.out, hs.out, rowS_eq, decide_eq_false h200]
              simp
            have HZ := Lib.hid hz
            clear hz
            go_wp2_with fail
            go_ret
            rw [HZ.out]
            exact ⟨rfl, HGR.out.trans (HG1.out.trans (grown_of (below_drewN (Below.refl _ _) nq) _)), HF1.out.next hLz (below_drewN (Below.refl _ _) nq), fun h => by cases h⟩
        · have hlt' : ¬ (k : Int) < (l.length : Int) := by omega
          have hke : k = l.length := by omega
          subst hke
          have hz : B = true := by rw [← hB.out]; have := HRO.out; rwa [List.take_length] at this
          have HZ := Lib.hid hz
          clear hz hgr hfr hcl hro
          go_wp2_with fail
          go_ret
          rw [HZ.out]
          refine ⟨rfl, HGR.out, HFR.out, fun _ => ?_⟩
          have := HCL.out
          rwa [List.take_length] at this
    · have hg : (12 : Int) < nest := by omega
      by_cases hne : l = []
      · subst hne
        have hz : B = true := by rw [← hB.out]; simp [rowsL]
        have HZ := Lib.hid hz
        clear hz
        go_wp2_with fail
        go_loopw [18] (fun i wr => i = .int .i64 0 ∧ wr = w) (fun _ _ => 0)
        case atStart => exact ⟨rfl, rfl⟩
        case round =>
          obtain ⟨rfl, rfl⟩ := hrel
          go_wp2_with fail
          go_ret
          rw [HZ.out]
          exact ⟨rfl, World.grownBy.refl _ _, HF.out, fun _ => by simpa [cntL] using HC.out⟩
      · have hpos : 0 < l.length := Nat.pos_of_ne_zero (fun h => hne (List.eq_nil_of_length_eq_zero h))
        have hpi : (0 : Int) < (l.length : Int) := by omega
        have hz : B = false := by
          rw [← hB.out]
          cases l with
          | nil => exact absurd rfl hne
          | cons s r => rw [rowsL_cons, decide_eq_false hnest, Bool.false_and, Bool.false_and]
        have HZ := Lib.hid hz
        clear hz
        go_wp2_with fail
        go_ret
        rw [HZ.out]
        exact ⟨rfl, World.grownBy.refl _ _, HF.out, fun h => by cases h⟩
end Go.Proofs.Ytghlmengcidmdaa.Tr
end
