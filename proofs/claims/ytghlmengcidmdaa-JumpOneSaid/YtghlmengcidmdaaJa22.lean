/- Parts of JumpR, JumpA: walks and plain laws that later texts use. Conditions: as each statement says. -/
import Derived.Test.YtghlmengcidmdaaJa0
import Derived.Test.YtghlmengcidmdaaJa1
import Derived.Test.YtghlmengcidmdaaJa2
import Derived.Test.YtghlmengcidmdaaJa3
import Derived.Test.YtghlmengcidmdaaJa4
import Derived.Test.YtghlmengcidmdaaJa5
import Derived.Test.YtghlmengcidmdaaJa6
import Derived.Test.YtghlmengcidmdaaJa7
import Derived.Test.YtghlmengcidmdaaJa8
import Derived.Test.YtghlmengcidmdaaJa9
import Derived.Test.YtghlmengcidmdaaJa10
import Derived.Test.YtghlmengcidmdaaJa11
import Derived.Test.YtghlmengcidmdaaJa12
import Derived.Test.YtghlmengcidmdaaJa13
import Derived.Test.YtghlmengcidmdaaJa14
import Derived.Test.YtghlmengcidmdaaJa15
import Derived.Test.YtghlmengcidmdaaJa16
import Derived.Test.YtghlmengcidmdaaJa17
import Derived.Test.YtghlmengcidmdaaJa18
import Derived.Test.YtghlmengcidmdaaJa19
import Derived.Test.YtghlmengcidmdaaJa20
import Derived.Outline
import Derived.IntWalk
import Derived.Deep.QuietTactic
import Derived.BigQuiet
import Derived.Deep.RegionWith
import Derived.Deep.DeepCutAuto
import Derived.Laws.Cover3
import Derived.Deep.RegionHeld3
import Derived.OwnWalk
import Derived.OneCell
import Derived.Deep.AppendLies
import Derived.Deep.RegionLaw
import Derived.Deep.CutBlock
import Derived.StillTailTactics
import Derived.WalkKit
import Derived.Test.YtghlmengcidmdaaRows
import Derived.WalkSpells
import Derived.Lib.Hide
import Derived.Below
import Derived.Laws.BitsAllLaws
import Derived.Laws.StructEq
import Derived.Maps.Range
import Derived.Lib.SmallJoins
import Derived.Deep.Upon
import Derived.Maps.AppendAt
import Derived.Laws.OwnMore
import Derived.WalkSmall
import Derived.RegionTactic
import Derived.Deep.Slices
import Derived.Deep.Fields
import Derived.SliceStrings
import Derived.ChangeSlices
import Derived.OrdersHeld
import Derived.Deep.MidRow
section
/- What labels, Labels, Bears, At, Around and Loop of the reference tell. Conditions: what they are handed lies in memory, and there is room. -/
namespace Go.Proofs.Ytghlmengcidmdaa.Tr
open Go.RowKit Go.Proofs.Ytghlmengcidmdaa.Lx Go.Proofs.Ytghlmengcidmdaa.Wd
set_option linter.unusedSimpArgs false
theorem lab_step {f : Pc} {PT : List It} (hp : PT.map It.s = stsOf f) {q : Nat} (hq : q < PT.length) : (stsOf f)[q]? = some PT[q].s ∧ labLs ((stsOf f).take (q + 1)) = labLs ((stsOf f).take q) ++ PT[q].s.labels := by
  have hidx : (stsOf f)[q]? = some PT[q].s := by rw [← hp, List.getElem?_map, List.getElem?_eq_getElem hq]; rfl
  refine ⟨hidx, ?_⟩
  obtain ⟨h1, h2⟩ := List.getElem?_eq_some_iff.1 hidx
  rw [List.take_succ_eq_append_getElem h1, labLs_append, h2]
  congr 1
  unfold labLs; simp
theorem lab_tot {f : Pc} (h : (labsOf f).length ≤ 300000) (k : Nat) : (labLs ((stsOf f).take k)).length ≤ 300000 ∧ (labLs (stsOf f)).length + f.fin.length ≤ 300000 := by
  unfold labsOf at h
  rw [List.length_append] at h
  have h2 : (labLs (stsOf f)).length = (labLs ((stsOf f).take k)).length + (labLs ((stsOf f).drop k)).length := by
    rw [← List.length_append, ← labLs_append, List.take_append_drop]
  omega
set_option maxHeartbeats 4000000 in
set_option maxRecDepth 100000 in
theorem rlabels_any (d : Nat) (f : Pc) (a1 a2 a3 a4 : Option Addr) (c1 c2 c3 c4 : Nat) (w : World) (hb : StC (cw w) d (.slice a3 f.body.length c3) f.body) (he : StrsAt w (.slice a4 f.fin.length c4) f.fin) (hfl : flatOf f = itsOf f) (hm : (labsOf f).length ≤ 300000) :
    Calls Try.prog 106 #[.agg #[.string f.nm, .slice a1 f.params.length c1, .slice a2 f.vars.length c2, .slice a3 f.body.length c3, .slice a4 f.fin.length c4]] w (NamesMade (labsOf f) w) := by
  obtain ⟨i0, hi0, hz0, hz1, hz2⟩ := info_parts infoStr
  have HC := Lib.hid hb
  have HE := Lib.hid he
  have HFL := Lib.hid hfl
  have HM := Lib.hid hm
  clear hb he hfl hm
  go_enter Try.func106, Try.ntmps106
  go_upto_region 1 with fail
  refine cut_world (fun wx => Below w.heap.size w wx ∧ BoxAt wx w.heap.size [.string f.nm, .slice a1 f.params.length c1, .slice a2 f.vars.length c2, .slice a3 f.body.length c3, .slice a4 f.fin.length c4]) ⟨boxed w _, box_new w #[.string f.nm, .slice a1 f.params.length c1, .slice a2 f.vars.length c2, .slice a3 f.body.length c3, .slice a4 f.fin.length c4] 55⟩ ?_
  rintro w1 ⟨hb1, hx1⟩
  have HB1 := Lib.hid hb1
  have HY1 := Lib.hid hx1
  have HC1 := Lib.hid (StC.mono (cw_next hb1) HC.out)
  have HE1 := Lib.hid (HE.out.next hb1)
  clear hb1 hx1
  have y0 := HY1.out 0 _ rfl
  have y1 := HY1.out 1 _ rfl
  have y2 := HY1.out 2 _ rfl
  have y3 := HY1.out 3 _ rfl
  have y4 := HY1.out 4 _ rfl
  go_wp2_with fail
  refine (flatOf_any d f _ _ _ _ _ HC1.out).mono ?_
  rintro e w5 ⟨v5, rfl, hs5, hb5⟩
  rw [HFL.out] at hs5
  obtain ⟨PT, hPT⟩ : ∃ L, Hid (itsOf f = L) := ⟨_, Lib.hid rfl⟩
  have hpart : PT.map It.s = stsOf f := by rw [← hPT.out]; rfl
  have HPART := Lib.hid hpart
  rw [hPT.out] at hs5
  obtain ⟨ia, ic, rfl, hil1, hil2⟩ := hs5.form
  have hil : PT.length ≤ 9223372036854775807 := Nat.le_trans hil1 hil2
  have HL5 := Lib.hid hs5
  have HB5 := Lib.hid (HB1.out.trans (hb5.mono HB1.out.size))
  have HY5 := Lib.hid (HY1.out.next hb5)
  have HE5 := Lib.hid (HE1.out.next hb5)
  clear hs5 hb5 hil1 hil2 hpart y0 y1 y2 y3 y4
  go_wp2_with fail
  obtain ⟨W5, hW5⟩ : ∃ x : World, x = w5 := ⟨_, rfl⟩
  subst hW5
  go_loopw [9, 3] (fun i v wr => ∃ (q : Nat) (v0 : Value), q ≤ PT.length ∧ i = .int .i64 q ∧ v = v0 ∧ RowS W5.heap.size wr v0 (labLs ((stsOf f).take q)) ∧ Below W5.heap.size W5 wr) (fun i _ _ => (PT.length - intOf i).toNat)
  case atStart => exact ⟨0, _, by omega, rfl, rfl, RowS.nil _ _, Below.refl _ _⟩
  case round =>
    obtain ⟨q, v0, hq, rfl, rfl, hrq, hbq⟩ := hrel
    obtain ⟨w6, hw6⟩ : ∃ x : World, x = wr := ⟨_, rfl⟩
    subst hw6
    have HR6 := Lib.hid hrq
    have HBR6 := Lib.hid hbq
    have HY6 := Lib.hid (HY5.out.next hbq)
    have HE6 := Lib.hid (HE5.out.next hbq)
    have hWs : W5.heap.size ≤ w6.heap.size := hbq.size
    have HL6 := Lib.hid (SlAt.imp HL5.out fun _ _ _ _ => ItAt.mono (cw_next hbq))
    obtain ⟨va6, vc6, rfl⟩ := ownsForm hrq.1
    clear hrq hbq
    by_cases hlq : q < PT.length
    · have hlq' : (q : Int) < (PT.length : Int) := by omega
      have h0q : (0 : Int) ≤ (q : Int) := by omega
      obtain ⟨-, hst⟩ := lab_step HPART.out hlq
      have hl1 := (lab_tot HM.out (q + 1)).1
      rw [hst, List.length_append] at hl1
      obtain ⟨gi, oi, hvi, hfi⟩ := its6_at HL6.out hlq
      cases hvi
      obtain ⟨t, ht⟩ : ∃ t, Hid (PT[q] = t) := ⟨_, Lib.hid rfl⟩
      rw [ht.out] at hfi hst hl1
      obtain ⟨LK, hLK⟩ : ∃ L, Hid (labLs ((stsOf f).take q) = L) := ⟨_, Lib.hid rfl⟩
      rw [hLK.out] at hst hl1 HR6
      try rw [hLK.out]
      have HST := Lib.hid hst
      clear hst
      obtain ⟨la, ka, aa, ta, ea, lc, kc, ac, tc, ec, hrest⟩ := it_open hfi
      have HCE := Lib.hid hrest.1
      have HHA := Lib.hid hrest.2.1
      clear hfi hrest
      have HI0 : Hid (BoxAt (w6.alloc (.cells #[.int .i64 0, .int .i64 0, .slice none 0 0, .string ⟨#[]⟩, .string ⟨#[]⟩, .int .i64 0, .int .i64 0, .string ⟨#[]⟩, .slice none 0 0, .bool false, .slice none 0 0, .slice none 0 0, .slice none 0 0, .int .i64 0, .int .i64 0, .bool false] 76)) w6.heap.size [.int .i64 0, .int .i64 0, .slice none 0 0, .string ⟨#[]⟩, .string ⟨#[]⟩, .int .i64 0, .int .i64 0, .string ⟨#[]⟩, .slice none 0 0, .bool false, .slice none 0 0, .slice none 0 0, .slice none 0 0, .int .i64 0, .int .i64 0, .bool false]) := Lib.hid (box_new w6 #[.int .i64 0, .int .i64 0, .slice none 0 0, .string ⟨#[]⟩, .string ⟨#[]⟩, .int .i64 0, .int .i64 0, .string ⟨#[]⟩, .slice none 0 0, .bool false, .slice none 0 0, .slice none 0 0, .slice none 0 0, .int .i64 0, .int .i64 0, .bool false] 76)
      have HF0 : Hid (Free (w6.alloc (.cells #[.int .i64 0, .int .i64 0, .slice none 0 0, .string ⟨#[]⟩, .string ⟨#[]⟩, .int .i64 0, .int .i64 0, .string ⟨#[]⟩, .slice none 0 0, .bool false, .slice none 0 0, .slice none 0 0, .slice none 0 0, .int .i64 0, .int .i64 0, .bool false] 76)) w6.heap.size) := Lib.hid (fun j => by simp [go_sem])
      have hzi := World.size_alloc w6 (.cells #[.int .i64 0, .int .i64 0, .slice none 0 0, .string ⟨#[]⟩, .string ⟨#[]⟩, .int .i64 0, .int .i64 0, .string ⟨#[]⟩, .slice none 0 0, .bool false, .slice none 0 0, .slice none 0 0, .slice none 0 0, .int .i64 0, .int .i64 0, .bool false] 76)
      go_upto_region 5 with (first | refine wpList_load_mid rfl 76 (.tmp 11) rfl gi (oi + q * 16) rfl [.int .i64 t.s.id, .int .i64 t.s.kind, .slice la t.s.labels.length lc, .string t.s.nm, .string t.s.proc, .int .i64 t.s.x.op, .int .i64 t.s.x.n, .string t.s.x.nm, .slice ka t.s.x.ks.length kc, .bool t.s.has, .slice aa t.s.args.length ac, .slice ta t.s.thn.length tc, .slice ea t.s.els.length ec, .int .i64 t.deep, .int .i64 t.inn, .bool t.els] _ (fun j v hv => HCE.out j v hv) Try.underlying76 rfl (by kernel_rfl) ?_ | refine wpList_store_mid rfl 76 (.tmp 5) (.tmp 12) rfl w6.heap.size 0 #[.int .i64 t.s.id, .int .i64 t.s.kind, .slice la t.s.labels.length lc, .string t.s.nm, .string t.s.proc, .int .i64 t.s.x.op, .int .i64 t.s.x.n, .string t.s.x.nm, .slice ka t.s.x.ks.length kc, .bool t.s.has, .slice aa t.s.args.length ac, .slice ta t.s.thn.length tc, .slice ea t.s.els.length ec, .int .i64 t.deep, .int .i64 t.inn, .bool t.els] rfl rfl (box_there (n := 16) HI0.out HF0.out (by simp)) (by kernel_rfl) (by simp [Value.oneCell']) ?_)
      refine cut_world (fun wx => Below w6.heap.size w6 wx ∧ BoxAt wx w6.heap.size [.int .i64 t.s.id, .int .i64 t.s.kind, .slice la t.s.labels.length lc, .string t.s.nm, .string t.s.proc, .int .i64 t.s.x.op, .int .i64 t.s.x.n, .string t.s.x.nm, .slice ka t.s.x.ks.length kc, .bool t.s.has, .slice aa t.s.args.length ac, .slice ta t.s.thn.length tc, .slice ea t.s.els.length ec, .int .i64 t.deep, .int .i64 t.inn, .bool t.els]) ⟨setCells_below _ _ (boxed w6 _) (Nat.le_refl _), box_over (old := [.int .i64 0, .int .i64 0, .slice none 0 0, .string ⟨#[]⟩, .string ⟨#[]⟩, .int .i64 0, .int .i64 0, .string ⟨#[]⟩, .slice none 0 0, .bool false, .slice none 0 0, .slice none 0 0, .slice none 0 0, .int .i64 0, .int .i64 0, .bool false]) (xs := [.int .i64 t.s.id, .int .i64 t.s.kind, .slice la t.s.labels.length lc, .string t.s.nm, .string t.s.proc, .int .i64 t.s.x.op, .int .i64 t.s.x.n, .string t.s.x.nm, .slice ka t.s.x.ks.length kc, .bool t.s.has, .slice aa t.s.args.length ac, .slice ta t.s.thn.length tc, .slice ea t.s.els.length ec, .int .i64 t.deep, .int .i64 t.inn, .bool t.els]) (rest := []) HI0.out HF0.out rfl⟩ ?_
      clear hzi HI0 HF0
      rintro wa ⟨hba, hta⟩
      have t2 := hta 2 _ rfl
      have HRA := Lib.hid (HR6.out.next hba)
      have HLA := Lib.hid (StrC.to (HHA.out wa (cw_next hba)).lab)
      have HBA := Lib.hid (HBR6.out.trans (hba.mono HBR6.out.size))
      have hWa : W5.heap.size ≤ wa.heap.size := HBA.out.size
      clear hba hta
      go_wp2_with (at_builtin; refine wpList_append_sl _ rfl (.tmp 13) (.tmp 16) 22 rfl W5.heap.size 9 i0 (.string ⟨#[]⟩) 1 16 Try.underlying22 hi0 hz0 hz1 hz2 rfl (by decide) _ LK.length (LK.map Value.string) rfl HRA.out.1 la t.s.labels.length lc (t.s.labels.map Value.string) rfl HLA.out.news.2.1 (by rw [List.length_map, Nat.mul_one]) HLA.out.news.2.2 (str_all _) (by unfold maxLen; omega) (by omega) (by omega) ?_)
      intro v4 w4 hown4 hg4 hat4
      have HR4 := Lib.hid (RowS.cat (l := LK) (m := t.s.labels) hown4 HRA.out.2 HLA.out.all)
      have HB4 := Lib.hid (HBA.out.grown hg4 HBA.out.size (fun x hx => (HRA.out.lt x hx).1))
      clear hown4 hg4 hat4
      go_wp2_with fail
      go_roundw
      case rel => exact ⟨q + 1, _, by omega, by go_num, rfl, by rw [HST.out]; exact HR4.out, HB4.out⟩
      case measure => simp [intOf]; omega
    · have hlq' : ¬ (q : Int) < (PT.length : Int) := by omega
      have hlen : (stsOf f).length = PT.length := by rw [← HPART.out, List.length_map]
      have hall : (stsOf f).take q = stsOf f := List.take_of_length_le (by omega)
      have hl1 := (lab_tot HM.out q).2
      have hlab : labsOf f = labLs ((stsOf f).take q) ++ f.fin := by rw [hall]; rfl
      have hle : (labLs ((stsOf f).take q)).length + f.fin.length ≤ 300000 := by rw [hall]; exact hl1
      obtain ⟨LL, hLL⟩ : ∃ L, Hid (labLs ((stsOf f).take q) = L) := ⟨_, Lib.hid rfl⟩
      rw [hLL.out] at hlab hle HR6
      try rw [hLL.out]
      have HLAB := Lib.hid hlab
      have y4 := HY6.out 4 _ rfl
      clear hall hlen hlab hl1
      go_wp2_with (at_builtin; refine wpList_append_sl _ rfl (.tmp 19) (.tmp 21) 22 rfl W5.heap.size 9 i0 (.string ⟨#[]⟩) 1 16 Try.underlying22 hi0 hz0 hz1 hz2 rfl (by decide) _ LL.length (LL.map Value.string) rfl HR6.out.1 a4 f.fin.length c4 (f.fin.map Value.string) rfl HE6.out.news.2.1 (by rw [List.length_map, Nat.mul_one]) HE6.out.news.2.2 (str_all _) (by unfold maxLen; omega) (by omega) (by omega) ?_)
      intro v4 w4 hown4 hg4 hat4
      have HR4 := Lib.hid (RowS.cat (l := LL) (m := f.fin) hown4 HR6.out.2 HE6.out.all)
      have HB4 := Lib.hid (HBR6.out.grown hg4 HBR6.out.size (fun x hx => (HR6.out.lt x hx).1))
      clear hown4 hg4 hat4 y4
      go_wp2_with fail
      go_ret
      refine ⟨_, rfl, ?_, HB5.out.trans (HB4.out.mono HB5.out.size)⟩
      rw [HLAB.out]
      exact HR4.out.mono HB5.out.size
set_option maxHeartbeats 4000000 in
set_option maxRecDepth 100000 in
theorem bears_any (d : Nat) (f : Pc) (PT : List It) (lv ev : Value) (s : ByteArray) (w : World) (hl : SlAt 16 (ItAt (cw w) d) lv PT) (hpart : PT.map It.s = stsOf f) (he : StrsAt w ev f.fin) :
    Calls Try.prog 100 #[lv, ev, .string s] w fun e w' => e = .returned (.tuple #[.int .i64 (bearP f s).1, .bool (bearP f s).2]) ∧ Below w.heap.size w w' := by
  obtain ⟨ia, ic, rfl, hil1, hil2⟩ := hl.form
  have hil : PT.length ≤ 9223372036854775807 := Nat.le_trans hil1 hil2
  obtain ⟨ea0, ec0, rfl, -, -⟩ := he.form
  have HL := Lib.hid hl
  have HPART := Lib.hid hpart
  have HE := Lib.hid he
  obtain ⟨R1, hR1⟩ : ∃ x, Hid ((bearP f s).1 = x) := ⟨_, Lib.hid rfl⟩
  obtain ⟨R2, hR2⟩ : ∃ x, Hid ((bearP f s).2 = x) := ⟨_, Lib.hid rfl⟩
  rw [hR1.out, hR2.out]
  clear hl hpart he hil1 hil2
  go_enter Try.func100, Try.ntmps100
  go_wp2_with fail
  go_loopw [12] (fun i wr => ∃ q : Nat, q ≤ PT.length ∧ i = .int .i64 q ∧ (∀ j (hj : j < PT.length), j < q → inB s PT[j].s.labels = false) ∧ Below w.heap.size w wr) (fun i _ => (PT.length - intOf i).toNat)
  case atStart => exact ⟨0, by omega, rfl, fun j _ h => absurd h (by omega), Below.refl _ _⟩
  case round =>
    obtain ⟨q, hq, rfl, hnq, hbq⟩ := hrel
    obtain ⟨w6, hw6⟩ : ∃ x : World, x = wr := ⟨_, rfl⟩
    subst hw6
    have HNQ := Lib.hid hnq
    have HBQ := Lib.hid hbq
    have HE6 := Lib.hid (HE.out.next hbq)
    have HL6 := Lib.hid (SlAt.imp HL.out fun _ _ _ _ => ItAt.mono (cw_next hbq))
    clear hnq hbq
    by_cases hlq : q < PT.length
    · have hlq' : (q : Int) < (PT.length : Int) := by omega
      have h0q : (0 : Int) ≤ (q : Int) := by omega
      obtain ⟨gi, oi, hvi, hfi⟩ := its6_at HL6.out hlq
      cases hvi
      obtain ⟨t, ht⟩ : ∃ t, Hid (PT[q] = t) := ⟨_, Lib.hid rfl⟩
      rw [ht.out] at hfi
      obtain ⟨la, ka, aa, ta, ea, lc, kc, ac, tc, ec, hrest⟩ := it_open hfi
      have HCE := Lib.hid hrest.1
      have HHA := Lib.hid hrest.2.1
      clear hfi hrest
      have HI0 : Hid (BoxAt (w6.alloc (.cells #[.int .i64 0, .int .i64 0, .slice none 0 0, .string ⟨#[]⟩, .string ⟨#[]⟩, .int .i64 0, .int .i64 0, .string ⟨#[]⟩, .slice none 0 0, .bool false, .slice none 0 0, .slice none 0 0, .slice none 0 0, .int .i64 0, .int .i64 0, .bool false] 76)) w6.heap.size [.int .i64 0, .int .i64 0, .slice none 0 0, .string ⟨#[]⟩, .string ⟨#[]⟩, .int .i64 0, .int .i64 0, .string ⟨#[]⟩, .slice none 0 0, .bool false, .slice none 0 0, .slice none 0 0, .slice none 0 0, .int .i64 0, .int .i64 0, .bool false]) := Lib.hid (box_new w6 #[.int .i64 0, .int .i64 0, .slice none 0 0, .string ⟨#[]⟩, .string ⟨#[]⟩, .int .i64 0, .int .i64 0, .string ⟨#[]⟩, .slice none 0 0, .bool false, .slice none 0 0, .slice none 0 0, .slice none 0 0, .int .i64 0, .int .i64 0, .bool false] 76)
      have HF0 : Hid (Free (w6.alloc (.cells #[.int .i64 0, .int .i64 0, .slice none 0 0, .string ⟨#[]⟩, .string ⟨#[]⟩, .int .i64 0, .int .i64 0, .string ⟨#[]⟩, .slice none 0 0, .bool false, .slice none 0 0, .slice none 0 0, .slice none 0 0, .int .i64 0, .int .i64 0, .bool false] 76)) w6.heap.size) := Lib.hid (fun j => by simp [go_sem])
      have hzi := World.size_alloc w6 (.cells #[.int .i64 0, .int .i64 0, .slice none 0 0, .string ⟨#[]⟩, .string ⟨#[]⟩, .int .i64 0, .int .i64 0, .string ⟨#[]⟩, .slice none 0 0, .bool false, .slice none 0 0, .slice none 0 0, .slice none 0 0, .int .i64 0, .int .i64 0, .bool false] 76)
      go_upto_region 4 with (first | refine wpList_load_mid rfl 76 (.tmp 14) rfl gi (oi + q * 16) rfl [.int .i64 t.s.id, .int .i64 t.s.kind, .slice la t.s.labels.length lc, .string t.s.nm, .string t.s.proc, .int .i64 t.s.x.op, .int .i64 t.s.x.n, .string t.s.x.nm, .slice ka t.s.x.ks.length kc, .bool t.s.has, .slice aa t.s.args.length ac, .slice ta t.s.thn.length tc, .slice ea t.s.els.length ec, .int .i64 t.deep, .int .i64 t.inn, .bool t.els] _ (fun j v hv => HCE.out j v hv) Try.underlying76 rfl (by kernel_rfl) ?_ | refine wpList_store_mid rfl 76 (.tmp 9) (.tmp 15) rfl w6.heap.size 0 #[.int .i64 t.s.id, .int .i64 t.s.kind, .slice la t.s.labels.length lc, .string t.s.nm, .string t.s.proc, .int .i64 t.s.x.op, .int .i64 t.s.x.n, .string t.s.x.nm, .slice ka t.s.x.ks.length kc, .bool t.s.has, .slice aa t.s.args.length ac, .slice ta t.s.thn.length tc, .slice ea t.s.els.length ec, .int .i64 t.deep, .int .i64 t.inn, .bool t.els] rfl rfl (box_there (n := 16) HI0.out HF0.out (by simp)) (by kernel_rfl) (by simp [Value.oneCell']) ?_)
      refine cut_world (fun wx => Below w6.heap.size w6 wx ∧ BoxAt wx w6.heap.size [.int .i64 t.s.id, .int .i64 t.s.kind, .slice la t.s.labels.length lc, .string t.s.nm, .string t.s.proc, .int .i64 t.s.x.op, .int .i64 t.s.x.n, .string t.s.x.nm, .slice ka t.s.x.ks.length kc, .bool t.s.has, .slice aa t.s.args.length ac, .slice ta t.s.thn.length tc, .slice ea t.s.els.length ec, .int .i64 t.deep, .int .i64 t.inn, .bool t.els]) ⟨setCells_below _ _ (boxed w6 _) (Nat.le_refl _), box_over (old := [.int .i64 0, .int .i64 0, .slice none 0 0, .string ⟨#[]⟩, .string ⟨#[]⟩, .int .i64 0, .int .i64 0, .string ⟨#[]⟩, .slice none 0 0, .bool false, .slice none 0 0, .slice none 0 0, .slice none 0 0, .int .i64 0, .int .i64 0, .bool false]) (xs := [.int .i64 t.s.id, .int .i64 t.s.kind, .slice la t.s.labels.length lc, .string t.s.nm, .string t.s.proc, .int .i64 t.s.x.op, .int .i64 t.s.x.n, .string t.s.x.nm, .slice ka t.s.x.ks.length kc, .bool t.s.has, .slice aa t.s.args.length ac, .slice ta t.s.thn.length tc, .slice ea t.s.els.length ec, .int .i64 t.deep, .int .i64 t.inn, .bool t.els]) (rest := []) HI0.out HF0.out rfl⟩ ?_
      clear hzi HI0 HF0
      rintro wa ⟨hba, hta⟩
      have t0 := hta 0 _ rfl
      have t2 := hta 2 _ rfl
      have HHH := Lib.hid (HHA.out wa (cw_next hba))
      have HBA := Lib.hid (HBQ.out.trans (hba.mono HBQ.out.size))
      clear hba hta
      go_wp2_with fail
      refine (in_any t.s.labels _ s _ (StrC.to HHH.out.lab)).mono ?_
      rintro e w' ⟨rfl, rfl⟩
      obtain ⟨LB, hLB⟩ : ∃ b, Hid ((at_ s t.s.labels).isSome = b) := ⟨_, Lib.hid rfl⟩
      rw [hLB.out]
      cases LB with
      | true =>
        have hans : bearP f s = (t.s.id, true) := by
          have hidx : (stsOf f)[q]? = some t.s := by rw [← HPART.out, List.getElem?_map, List.getElem?_eq_getElem hlq, ht.out]; rfl
          obtain ⟨h1, h2⟩ := List.getElem?_eq_some_iff.1 hidx
          rw [← h2]
          refine bear_at h1 (fun j hj hjq => ?_) (by rw [h2]; exact hLB.out)
          have h5 : (stsOf f)[j]? = some PT[j].s := by rw [← HPART.out, List.getElem?_map, List.getElem?_eq_getElem (by omega)]; rfl
          obtain ⟨h6, h7⟩ := List.getElem?_eq_some_iff.1 h5
          rw [h7]; exact HNQ.out j (by omega) hjq
        have h1 : R1 = t.s.id := by rw [← hR1.out, hans]
        have h2 : R2 = true := by rw [← hR2.out, hans]
        subst h1 h2
        clear hans
        go_wp2_with fail
        refine bodyPost_ret (v := .tuple #[.int .i64 t.s.id, .bool true]) (by simp [results, Try.results100, go_sem]) rfl ?_
        exact ⟨rfl, HBA.out⟩
      | false =>
        clear t0 t2
        go_wp2_with fail
        go_roundw
        case rel =>
          refine ⟨q + 1, by omega, by go_num, fun j hj hjk => ?_, HBA.out⟩
          rcases Nat.lt_or_ge j q with h | h
          · exact HNQ.out j hj h
          · obtain rfl : j = q := by omega
            rw [ht.out]; exact hLB.out
        case measure => simp [intOf]; omega
    · have hlq' : ¬ (q : Int) < (PT.length : Int) := by omega
      have hans : bearP f s = if inB s f.fin then (-1, true) else (0, false) := bear_no fun j hj => by
        have hlen : (stsOf f).length = PT.length := by rw [← HPART.out, List.length_map]
        have h5 : (stsOf f)[j]? = some PT[j].s := by rw [← HPART.out, List.getElem?_map, List.getElem?_eq_getElem (by omega)]; rfl
        obtain ⟨h6, h7⟩ := List.getElem?_eq_some_iff.1 h5
        rw [h7]; exact HNQ.out j (by omega) (by omega)
      have HANS := Lib.hid hans
      clear hans
      go_wp2_with fail
      refine (in_any f.fin _ s _ HE6.out).mono ?_
      rintro e w' ⟨rfl, rfl⟩
      obtain ⟨LB, hLB⟩ : ∃ b, Hid ((at_ s f.fin).isSome = b) := ⟨_, Lib.hid rfl⟩
      have hLB2 : inB s f.fin = LB := hLB.out
      have HLB2 := Lib.hid hLB2
      rw [hLB.out]
      clear hLB2
      cases LB with
      | true =>
        have h1 : R1 = -1 := by rw [← hR1.out, HANS.out, HLB2.out]; rfl
        have h2 : R2 = true := by rw [← hR2.out, HANS.out, HLB2.out]; rfl
        subst h1 h2
        go_wp2_with fail
        refine bodyPost_ret (v := .tuple #[.int .i64 (-1), .bool true]) (by simp [results, Try.results100, go_sem]) rfl ?_
        exact ⟨rfl, HBQ.out⟩
      | false =>
        have h1 : R1 = 0 := by rw [← hR1.out, HANS.out, HLB2.out]; rfl
        have h2 : R2 = false := by rw [← hR2.out, HANS.out, HLB2.out]; rfl
        subst h1 h2
        go_wp2_with fail
        refine bodyPost_ret (v := .tuple #[.int .i64 0, .bool false]) (by simp [results, Try.results100, go_sem]) rfl ?_
        exact ⟨rfl, HBQ.out⟩
set_option maxHeartbeats 4000000 in
set_option maxRecDepth 100000 in
theorem rLabels_any (d : Nat) (p : Pr) (gv pv : Value) (s : ByteArray) (w : World) (hp : PrC (cw w) d gv pv p) (hroom : RoomP p) :
    Calls Try.prog 55 #[.agg #[gv, pv], .string s] w (NamesMade (jlabsP p s) w) := by
  obtain ⟨RR, hRR⟩ : ∃ b, Hid (jlabsP p s = b) := ⟨_, Lib.hid rfl⟩
  rw [hRR.out]
  have HROOM := Lib.hid hroom
  clear hroom
  obtain ⟨ga, gc, rfl, hgl1, hgl2⟩ := hp.1.form
  obtain ⟨pa, pc, rfl, hl1, hl2⟩ := hp.2.form
  have hpl : p.procs.length ≤ 9223372036854775807 := Nat.le_trans hl1 hl2
  have HP := Lib.hid hp
  clear hp hl1 hl2 hgl1 hgl2
  go_enter Try.func55, Try.ntmps55
  go_upto_region 1 with fail
  refine cut_world (fun wx => Below w.heap.size w wx ∧ BoxAt wx w.heap.size [.slice ga p.globals.length gc, .slice pa p.procs.length pc]) ⟨boxed _ _, box_new w #[.slice ga p.globals.length gc, .slice pa p.procs.length pc] 25⟩ ?_
  rintro w1 ⟨hb1, hx1⟩
  have HB1 := Lib.hid hb1
  have HX1 := Lib.hid hx1
  have HP1 := Lib.hid (PrC.mono (cw_next hb1) HP.out)
  clear hb1 hx1
  have x0 := HX1.out 0 _ rfl
  have x1 := HX1.out 1 _ rfl
  go_wp2_with fail
  refine (rproc_any d p _ _ s _ HP1.out).mono ?_
  intro e w2 hm
  cases hpi : pcIn p s with
  | none =>
    rw [hpi] at hm
    obtain ⟨rfl, hb2⟩ := hm
    have hw : wellPc p s = none := by
      unfold wellPc
      split
      · rename_i hz
        unfold pcIn at hpi
        rwa [if_pos (scope_code hz).1] at hpi
      · rfl
    have HW := Lib.hid hw
    have HB2 := Lib.hid (HB1.out.trans (hb2.mono HB1.out.size))
    clear hb2 x0 x1 hpi hw
    go_upto_region 2 with fail
    refine cut_world (fun wx => Below w2.heap.size w2 wx) (boxed w2 _) ?_
    intro w3 hb3
    have HB3 := Lib.hid (HB2.out.trans (hb3.mono HB2.out.size))
    clear hb3
    have hr : RR = [] := by rw [← hRR.out]; unfold jlabsP; rw [HW.out]
    subst hr
    go_wp2_with fail
    go_ret
    exact ⟨_, rfl, RowS.nil _ _, HB3.out⟩
  | some f =>
    rw [hpi] at hm
    obtain ⟨a1, a2, a3, a4, c1, c2, c3, c4, rfl, hh2, hnm2, hb2⟩ := hm
    have HPI := Lib.hid hpi
    have HH2 := Lib.hid hh2
    have HX2 := Lib.hid (HX1.out.next hb2)
    have HP2 := Lib.hid (PrC.mono (cw_next hb2) HP1.out)
    have HB2 := Lib.hid (HB1.out.trans (hb2.mono HB1.out.size))
    clear hb2 hh2 hnm2 x0 x1 hpi
    go_upto_region 2 with fail
    refine cut_world (fun wx => Below w2.heap.size w2 wx ∧ BoxAt wx w2.heap.size [.string f.nm, .slice a1 f.params.length c1, .slice a2 f.vars.length c2, .slice a3 f.body.length c3, .slice a4 f.fin.length c4]) ⟨boxed w2 _, box_new w2 #[.string f.nm, .slice a1 f.params.length c1, .slice a2 f.vars.length c2, .slice a3 f.body.length c3, .slice a4 f.fin.length c4] 55⟩ ?_
    rintro w3 ⟨hb3, hy3⟩
    have HY3 := Lib.hid hy3
    have HH3 := Lib.hid (HH2.out.next hb3)
    have HX3 := Lib.hid (HX2.out.next hb3)
    have HP3 := Lib.hid (PrC.mono (cw_next hb3) HP2.out)
    have HB3 := Lib.hid (HB2.out.trans (hb3.mono HB2.out.size))
    clear hb3 hy3
    have x0 := HX3.out 0 _ rfl
    have x1 := HX3.out 1 _ rfl
    go_wp2_with fail
    refine (rscope_any d p _ _ _ HP3.out HROOM.out).mono ?_
    rintro e w4 ⟨rfl, hb4⟩
    obtain ⟨SC, hSC⟩ : ∃ r, Hid ((scopeP p).1 = r) := ⟨_, Lib.hid rfl⟩
    obtain ⟨SI, hSI⟩ : ∃ r, Hid ((scopeP p).2 = r) := ⟨_, Lib.hid rfl⟩
    rw [hSC.out, hSI.out]
    have hfd := run_code SC SI
    have HY4 := Lib.hid (HY3.out.next hb4)
    have HH4 := Lib.hid (HH3.out.next hb4)
    have HX4 := Lib.hid (HX3.out.next hb4)
    have HP4 := Lib.hid (PrC.mono (cw_next hb4) HP3.out)
    have HB4 := Lib.hid (HB3.out.trans (hb4.mono HB3.out.size))
    clear hb4 x0 x1
    by_cases hz : SC = 0
    · have hz1 : (SC == 0) = true := by simpa using hz
      have hz2 : (SC != 0) = false := by rw [bne, hz1]; rfl
      have hwell : (scopeP p).1 = 0 := hSC.out.trans hz
      have hw : wellPc p s = some f := by
        unfold wellPc
        rw [if_pos hwell]
        have := HPI.out
        unfold pcIn at this
        rwa [if_pos (scope_code hwell).1] at this
      have hmem : f ∈ p.procs := by
        unfold wellPc at hw
        rw [if_pos hwell] at hw
        exact List.mem_of_find?_eq_some hw
      have HW := Lib.hid hw
      have HFL := Lib.hid (flat_its (scope_code hwell).1 hmem)
      have HMEM := Lib.hid hmem
      clear hz hw hmem hwell
      have hr : RR = labsOf f := by rw [← hRR.out]; unfold jlabsP; rw [HW.out]
      subst hr
      have y0 := HY4.out 0 _ rfl
      have y1 := HY4.out 1 _ rfl
      have y2 := HY4.out 2 _ rfl
      have y3 := HY4.out 3 _ rfl
      have y4 := HY4.out 4 _ rfl
      go_wp2_with fail
      refine (rlabels_any d f a1 a2 a3 a4 c1 c2 c3 c4 _ HH4.out.body (StrC.to HH4.out.fin) HFL.out (HROOM.out.labs f HMEM.out)).mono ?_
      rintro e w5 ⟨v5, rfl, hr5, hb5⟩
      have HR5 := Lib.hid hr5
      have HB5 := Lib.hid (HB4.out.trans (hb5.mono HB4.out.size))
      clear hr5 hb5 y0 y1 y2 y3 y4
      go_wp2_with fail
      go_ret
      exact ⟨_, rfl, HR5.out.mono HB4.out.size, HB5.out⟩
    · have hz1 : (SC == 0) = false := by simpa using hz
      have hz2 : (SC != 0) = true := by rw [bne, hz1]; rfl
      have hw : wellPc p s = none := by unfold wellPc; rw [if_neg (by rw [hSC.out]; exact hz)]
      have HW := Lib.hid hw
      clear hz hw
      have hr : RR = [] := by rw [← hRR.out]; unfold jlabsP; rw [HW.out]
      subst hr
      go_wp2_with fail
      go_ret
      exact ⟨_, rfl, RowS.nil _ _, HB4.out⟩
set_option maxHeartbeats 4000000 in
set_option maxRecDepth 100000 in
theorem rAt_any (d : Nat) (p : Pr) (gv pv : Value) (s label : ByteArray) (w : World) (hp : PrC (cw w) d gv pv p) (hroom : RoomP p) :
    Calls Try.prog 49 #[.agg #[gv, pv], .string s, .string label] w fun e w' => e = .returned (.tuple #[.int .i64 (jatP p s label).1, .bool (jatP p s label).2]) ∧ Below w.heap.size w w' := by
  obtain ⟨R1, hR1⟩ : ∃ b, Hid ((jatP p s label).1 = b) := ⟨_, Lib.hid rfl⟩
  obtain ⟨R2, hR2⟩ : ∃ b, Hid ((jatP p s label).2 = b) := ⟨_, Lib.hid rfl⟩
  rw [hR1.out, hR2.out]
  have HROOM := Lib.hid hroom
  clear hroom
  obtain ⟨ga, gc, rfl, hgl1, hgl2⟩ := hp.1.form
  obtain ⟨pa, pc, rfl, hl1, hl2⟩ := hp.2.form
  have hpl : p.procs.length ≤ 9223372036854775807 := Nat.le_trans hl1 hl2
  have HP := Lib.hid hp
  clear hp hl1 hl2 hgl1 hgl2
  go_enter Try.func49, Try.ntmps49
  go_upto_region 1 with fail
  refine cut_world (fun wx => Below w.heap.size w wx ∧ BoxAt wx w.heap.size [.slice ga p.globals.length gc, .slice pa p.procs.length pc]) ⟨boxed _ _, box_new w #[.slice ga p.globals.length gc, .slice pa p.procs.length pc] 25⟩ ?_
  rintro w1 ⟨hb1, hx1⟩
  have HB1 := Lib.hid hb1
  have HX1 := Lib.hid hx1
  have HP1 := Lib.hid (PrC.mono (cw_next hb1) HP.out)
  clear hb1 hx1
  have x0 := HX1.out 0 _ rfl
  have x1 := HX1.out 1 _ rfl
  go_wp2_with fail
  refine (rproc_any d p _ _ s _ HP1.out).mono ?_
  intro e w2 hm
  cases hpi : pcIn p s with
  | none =>
    rw [hpi] at hm
    obtain ⟨rfl, hb2⟩ := hm
    have hw : wellPc p s = none := by
      unfold wellPc
      split
      · rename_i hz
        unfold pcIn at hpi
        rwa [if_pos (scope_code hz).1] at hpi
      · rfl
    have HW := Lib.hid hw
    have HB2 := Lib.hid (HB1.out.trans (hb2.mono HB1.out.size))
    clear hb2 x0 x1 hpi hw
    go_upto_region 2 with fail
    refine cut_world (fun wx => Below w2.heap.size w2 wx) (boxed w2 _) ?_
    intro w3 hb3
    have HB3 := Lib.hid (HB2.out.trans (hb3.mono HB2.out.size))
    clear hb3
    have hr : jatP p s label = (0, false) := by unfold jatP; rw [HW.out]
    have h1 : R1 = 0 := by rw [← hR1.out, hr]
    have h2 : R2 = false := by rw [← hR2.out, hr]
    subst h1 h2
    clear hr
    go_wp2_with fail
    refine bodyPost_ret (v := .tuple #[.int .i64 0, .bool false]) (by simp [results, Try.results49, go_sem]) rfl ?_
    exact ⟨rfl, HB3.out⟩
  | some f =>
    rw [hpi] at hm
    obtain ⟨a1, a2, a3, a4, c1, c2, c3, c4, rfl, hh2, hnm2, hb2⟩ := hm
    have HPI := Lib.hid hpi
    have HH2 := Lib.hid hh2
    have HX2 := Lib.hid (HX1.out.next hb2)
    have HP2 := Lib.hid (PrC.mono (cw_next hb2) HP1.out)
    have HB2 := Lib.hid (HB1.out.trans (hb2.mono HB1.out.size))
    clear hb2 hh2 hnm2 x0 x1 hpi
    go_upto_region 2 with fail
    refine cut_world (fun wx => Below w2.heap.size w2 wx ∧ BoxAt wx w2.heap.size [.string f.nm, .slice a1 f.params.length c1, .slice a2 f.vars.length c2, .slice a3 f.body.length c3, .slice a4 f.fin.length c4]) ⟨boxed w2 _, box_new w2 #[.string f.nm, .slice a1 f.params.length c1, .slice a2 f.vars.length c2, .slice a3 f.body.length c3, .slice a4 f.fin.length c4] 55⟩ ?_
    rintro w3 ⟨hb3, hy3⟩
    have HY3 := Lib.hid hy3
    have HH3 := Lib.hid (HH2.out.next hb3)
    have HX3 := Lib.hid (HX2.out.next hb3)
    have HP3 := Lib.hid (PrC.mono (cw_next hb3) HP2.out)
    have HB3 := Lib.hid (HB2.out.trans (hb3.mono HB2.out.size))
    clear hb3 hy3
    have x0 := HX3.out 0 _ rfl
    have x1 := HX3.out 1 _ rfl
    go_wp2_with fail
    refine (rscope_any d p _ _ _ HP3.out HROOM.out).mono ?_
    rintro e w4 ⟨rfl, hb4⟩
    obtain ⟨SC, hSC⟩ : ∃ r, Hid ((scopeP p).1 = r) := ⟨_, Lib.hid rfl⟩
    obtain ⟨SI, hSI⟩ : ∃ r, Hid ((scopeP p).2 = r) := ⟨_, Lib.hid rfl⟩
    rw [hSC.out, hSI.out]
    have hfd := run_code SC SI
    have HY4 := Lib.hid (HY3.out.next hb4)
    have HH4 := Lib.hid (HH3.out.next hb4)
    have HX4 := Lib.hid (HX3.out.next hb4)
    have HP4 := Lib.hid (PrC.mono (cw_next hb4) HP3.out)
    have HB4 := Lib.hid (HB3.out.trans (hb4.mono HB3.out.size))
    clear hb4 x0 x1
    by_cases hz : SC = 0
    · have hz1 : (SC == 0) = true := by simpa using hz
      have hz2 : (SC != 0) = false := by rw [bne, hz1]; rfl
      have hwell : (scopeP p).1 = 0 := hSC.out.trans hz
      have hw : wellPc p s = some f := by
        unfold wellPc
        rw [if_pos hwell]
        have := HPI.out
        unfold pcIn at this
        rwa [if_pos (scope_code hwell).1] at this
      have hmem : f ∈ p.procs := by
        unfold wellPc at hw
        rw [if_pos hwell] at hw
        exact List.mem_of_find?_eq_some hw
      have HW := Lib.hid hw
      have HFL := Lib.hid (flat_its (scope_code hwell).1 hmem)
      have HMEM := Lib.hid hmem
      clear hz hw hmem hwell
      have hr : jatP p s label = bearP f label := by unfold jatP; rw [HW.out]
      have HB0 : Hid ((bearP f label).1 = R1) := Lib.hid (by rw [← hr, hR1.out])
      have HB1' : Hid ((bearP f label).2 = R2) := Lib.hid (by rw [← hr, hR2.out])
      clear hr
      go_upto_region 4 with fail
      have hq : Below w4.heap.size w4 w4.drew := (Below.refl _ _).drew
      refine wp_region_z (fun w' => BoxAt w' w2.heap.size [.string f.nm, .slice a1 f.params.length c1, .slice a2 f.vars.length c2, .slice a3 f.body.length c3, .slice a4 f.fin.length c4]) 9 (by kernel_rfl) (HY4.out.next hq) (fun hS => ?_)
      show wpAnyZ _ _ _ _ _ _ 10 #[false, false, false, false, false, false, false, false, false, false] _ _
      refine' wpAnyZ_take (i := 0) (oi := _) (v := _) rfl (by kernel_rfl) (by kernel_rfl) (by kernel_rfl) (by kernel_rfl) (fun _ _ _ h => h) (Or.inl ⟨by rfl, ?hy0⟩) hS ?rest0
      case hy0 => (intro w hSw; have c0 := hSw 0 _ rfl; have c1 := hSw 1 _ rfl; have c2 := hSw 2 _ rfl; have c3 := hSw 3 _ rfl; have c4 := hSw 4 _ rfl; clear hSw; go_simp; (try with_reducible rfl))
      try simp only [Act.put, List.getElem_toArray, List.getElem_cons_succ, List.getElem_cons_zero, List.setIfInBounds_toArray, List.set_cons_zero, List.set_cons_succ]
      refine' wpAnyZ_take (i := 2) (oi := _) (v := _) rfl (by kernel_rfl) (by kernel_rfl) (by kernel_rfl) (by kernel_rfl) (fun _ _ _ h => h) (Or.inl ⟨by rfl, ?hy2⟩) hS ?rest2
      case hy2 => (intro w hSw; clear hSw; go_simp; (try with_reducible rfl))
      try simp only [Act.put, List.getElem_toArray, List.getElem_cons_succ, List.getElem_cons_zero, List.setIfInBounds_toArray, List.set_cons_zero, List.set_cons_succ]
      refine' wpAnyZ_take (i := 3) (oi := _) (v := _) rfl (by kernel_rfl) (by kernel_rfl) (by kernel_rfl) (by kernel_rfl) (fun _ _ _ h => h) (Or.inl ⟨by rfl, ?hy3⟩) hS ?rest3
      case hy3 => (intro w hSw; have c0 := hSw 0 _ rfl; have c1 := hSw 1 _ rfl; have c2 := hSw 2 _ rfl; have c3 := hSw 3 _ rfl; have c4 := hSw 4 _ rfl; clear hSw; go_simp; (try with_reducible rfl))
      try simp only [Act.put, List.getElem_toArray, List.getElem_cons_succ, List.getElem_cons_zero, List.setIfInBounds_toArray, List.set_cons_zero, List.set_cons_succ]
      refine' wpAnyZ_take (i := 4) (oi := _) (v := _) rfl (by kernel_rfl) (by kernel_rfl) (by kernel_rfl) (by kernel_rfl) (fun _ _ _ h => h) (Or.inl ⟨by rfl, ?hy4⟩) hS ?rest4
      case hy4 => (intro w hSw; clear hSw; go_simp; (try with_reducible rfl))
      try simp only [Act.put, List.getElem_toArray, List.getElem_cons_succ, List.getElem_cons_zero, List.setIfInBounds_toArray, List.set_cons_zero, List.set_cons_succ]
      refine' wpAnyZ_step (i := 1) (o := _) rfl (by kernel_rfl) (fun K hK => ?_)
      go_simp
      go_at_call 60
      refine (flatOf_any d f _ _ _ _ _ (StC.mono (cw_next hq) HH4.out.body)).mono ?_
      rintro e w5 ⟨v5, rfl, hs5, hb5⟩
      have Q5 := Lib.hid (below_then hb5 hq)
      rw [HFL.out] at hs5
      have HL5 := Lib.hid hs5
      obtain ⟨ia, ic, rfl, -, -⟩ := hs5.form
      clear hb5 hs5
      refine hK _ _ (fun _ => HY4.out.next Q5.out) ?_
      clear hK K
      try simp only [Act.put, List.getElem_toArray, List.getElem_cons_succ, List.getElem_cons_zero, List.setIfInBounds_toArray, List.set_cons_zero, List.set_cons_succ]
      refine' wpAnyZ_step (i := 5) (o := _) rfl (by kernel_rfl) (fun K hK => ?_)
      go_simp
      go_at_call 100
      refine (bears_any d f (itsOf f) _ _ label _ HL5.out rfl (StrsAt.next (StrC.to HH4.out.fin) Q5.out)).mono ?_
      rintro e w6 ⟨rfl, hb6⟩
      rw [HB0.out, HB1'.out]
      have Q6 := Lib.hid (Q5.out.trans (hb6.mono Q5.out.size))
      have hS6 : BoxAt w6 w2.heap.size [.string f.nm, .slice a1 f.params.length c1, .slice a2 f.vars.length c2, .slice a3 f.body.length c3, .slice a4 f.fin.length c4] := HY4.out.next Q6.out
      clear hb6
      refine hK _ _ (fun _ => HY4.out.next Q6.out) ?_
      clear hK K
      try simp only [Act.put, List.getElem_toArray, List.getElem_cons_succ, List.getElem_cons_zero, List.setIfInBounds_toArray, List.set_cons_zero, List.set_cons_succ]
      refine' wpAnyZ_take (i := 6) (oi := _) (v := _) rfl (by kernel_rfl) (by kernel_rfl) (by kernel_rfl) (by kernel_rfl) (fun _ _ _ h => h) (Or.inl ⟨by rfl, ?hy6⟩) hS6 ?rest6
      case hy6 => (intro w hSw; clear hSw; go_simp; (try with_reducible rfl))
      try simp only [Act.put, List.getElem_toArray, List.getElem_cons_succ, List.getElem_cons_zero, List.setIfInBounds_toArray, List.set_cons_zero, List.set_cons_succ]
      refine' wpAnyZ_take (i := 7) (oi := _) (v := _) rfl (by kernel_rfl) (by kernel_rfl) (by kernel_rfl) (by kernel_rfl) (fun _ _ _ h => h) (Or.inl ⟨by rfl, ?hy7⟩) hS6 ?rest7
      case hy7 => (intro w hSw; clear hSw; go_simp; (try with_reducible rfl))
      try simp only [Act.put, List.getElem_toArray, List.getElem_cons_succ, List.getElem_cons_zero, List.setIfInBounds_toArray, List.set_cons_zero, List.set_cons_succ]
      refine' wpAnyZ_step (i := 8) (o := _) rfl (by kernel_rfl) (fun K hK => ?_)
      go_simp
      refine hK _ _ (fun _ => HY4.out.next Q6.out) ?_
      clear hK K
      try simp only [Act.put, List.getElem_toArray, List.getElem_cons_succ, List.getElem_cons_zero, List.setIfInBounds_toArray, List.set_cons_zero, List.set_cons_succ]
      refine' wpAnyZ_step (i := 9) (o := _) rfl (by kernel_rfl) (fun K hK => ?_)
      go_simp
      refine hK _ _ (fun h => absurd rfl h) ?_
      clear hK K
      try simp only [Act.put, List.getElem_toArray, List.getElem_cons_succ, List.getElem_cons_zero, List.setIfInBounds_toArray, List.set_cons_zero, List.set_cons_succ]
      refine wpAnyZ_done (by kernel_rfl) ?_ _
      have HBZ := Lib.hid (HB4.out.trans (Q6.out.mono HB4.out.size))
      clear hS hq hS6
      go_wp2_with fail
      refine bodyPost_ret (v := .tuple #[.int .i64 R1, .bool R2]) (by simp [results, Try.results49, go_sem]) rfl ?_
      exact ⟨rfl, HBZ.out⟩
    · have hz1 : (SC == 0) = false := by simpa using hz
      have hz2 : (SC != 0) = true := by rw [bne, hz1]; rfl
      have hw : wellPc p s = none := by unfold wellPc; rw [if_neg (by rw [hSC.out]; exact hz)]
      have HW := Lib.hid hw
      clear hz hw
      have hr : jatP p s label = (0, false) := by unfold jatP; rw [HW.out]
      have h1 : R1 = 0 := by rw [← hR1.out, hr]
      have h2 : R2 = false := by rw [← hR2.out, hr]
      subst h1 h2
      clear hr
      go_wp2_with fail
      refine bodyPost_ret (v := .tuple #[.int .i64 0, .bool false]) (by simp [results, Try.results49, go_sem]) rfl ?_
      exact ⟨rfl, HB4.out⟩
end Go.Proofs.Ytghlmengcidmdaa.Tr
end
section
/- What Around and Loop of the reference tell. Conditions: what they are handed lies in memory, and there is room. -/
namespace Go.Proofs.Ytghlmengcidmdaa.Tr
open Go.RowKit Go.Proofs.Ytghlmengcidmdaa.Lx Go.Proofs.Ytghlmengcidmdaa.Wd
set_option linter.unusedSimpArgs false
theorem around_succ {L : List It} {id : Int} {j : Nat} (hj : j < L.length) : aroundG L id (j + 1) = if L[j].s.id ≠ id then aroundG L id j else if climb L j L[j].inn ≠ 0 then climb L j L[j].inn else aroundG L id j := by
  simp only [aroundG]
  rw [List.getElem?_eq_getElem hj]
theorem climb_succ {L : List It} {n : Int} {j : Nat} (hj : j < L.length) (hn : n ≠ 0) : climb L (j + 1) n = if L[j].s.id ≠ n then climb L j n else if L[j].s.kind = 6 then n else climb L j L[j].inn := by
  simp only [climb]
  rw [if_neg hn, List.getElem?_eq_getElem hj]
/-- The cells of an item that a walk up reads. -/
theorem it_three {C : Cs} {d g o : Nat} {t : It} (h : ItAt C d g o t) : C g o (.int .i64 t.s.id) ∧ C g (o + 1) (.int .i64 t.s.kind) ∧ C g (o + 14) (.int .i64 t.inn) := by
  obtain ⟨la, ka, aa, ta, ea, lc, kc, ac, tc, ec, hc, -⟩ := it_open h
  exact ⟨hc 0 _ rfl, hc 1 _ rfl, hc 14 _ rfl⟩
set_option maxHeartbeats 4000000 in
set_option maxRecDepth 100000 in
theorem around_any (d : Nat) (L : List It) (lv : Value) (id : Int) (w : World) (hl : SlAt 16 (ItAt (cw w) d) lv L) (hm : L.length ≤ 1000000) :
    Calls Try.prog 102 #[lv, .int .i64 id] w fun e w' => e = .returned (.tuple #[.int .i64 (aroundG L id L.length), .bool (!(aroundG L id L.length == 0))]) ∧ w = w' := by
  obtain ⟨ia, ic, rfl, hil1, hil2⟩ := hl.form
  have HL := Lib.hid hl
  obtain ⟨RR, hRR⟩ : ∃ b, Hid (aroundG L id L.length = b) := ⟨_, Lib.hid rfl⟩
  rw [hRR.out]
  clear hl hil1 hil2
  go_enter Try.func102, Try.ntmps102
  have hsub0 : IntKind.i64.wrap ((L.length : Int) - 1) = (L.length : Int) - 1 := IntWalk.i64_in _ (by omega)
  go_wp2_with fail
  clear hsub0
  go_loop [6] (fun i => ∃ (k : Nat) (n : Int), k ≤ L.length ∧ n = (k : Int) - 1 ∧ i = .int .i64 n ∧ RR = aroundG L id k) (fun i => (intOf i + 1).toNat)
  case atStart => exact ⟨L.length, _, Nat.le_refl _, rfl, rfl, hRR.out.symm⟩
  case round =>
    obtain ⟨k, n, hk, hn, rfl, hr⟩ := hrel
    have HR := Lib.hid hr
    clear hr
    cases k with
    | zero =>
      have hn' : n = -1 := by omega
      subst hn'
      have hr0 : RR = 0 := HR.out
      subst hr0
      clear hn
      go_wp2_with fail
      refine bodyPost_ret (v := .tuple #[.int .i64 0, .bool false]) (by simp [results, Try.results102, go_sem]) rfl ?_
      exact ⟨rfl, rfl⟩
    | succ j =>
      have hnj : n = (j : Int) := by omega
      subst hnj
      have hjl : j < L.length := by omega
      have h0j : (0 : Int) ≤ (j : Int) := by omega
      have hji : (j : Int) < (L.length : Int) := by omega
      have hsubj : IntKind.i64.wrap ((j : Int) - 1) = (j : Int) - 1 := IntWalk.i64_in _ (by omega)
      have hst := HR.out
      rw [around_succ hjl] at hst
      obtain ⟨g, off, hvi, hfi⟩ := its6_at HL.out hjl
      cases hvi
      obtain ⟨t, ht⟩ : ∃ t, Hid (L[j] = t) := ⟨_, Lib.hid rfl⟩
      rw [ht.out] at hfi hst
      obtain ⟨c0, c1, c14⟩ := it_three hfi
      have d0 : w.cell? ⟨g, off + j * 16, none⟩ = _ := c0
      have d14 : w.cell? ⟨g, off + j * 16 + 14, none⟩ = _ := c14
      have HST := Lib.hid hst
      clear hfi c0 c1 c14 hst hn
      cases hid : (t.s.id == id) with
      | false =>
        have hne : (t.s.id != id) = true := by rw [bne, hid]; rfl
        have hnx : RR = aroundG L id j := by rw [HST.out, if_pos (by simpa using hid)]
        have HNX := Lib.hid hnx
        clear hnx
        go_wp2_with fail
        go_round
        case rel => exact ⟨j, _, by omega, by first | rfl | omega, by first | rfl | go_num, HNX.out⟩
        case measure => first | (simp [intOf]; done) | (simp [intOf]; omega)
      | true =>
        have hne : (t.s.id != id) = false := by rw [bne, hid]; rfl
        have hnx : RR = if climb L j t.inn ≠ 0 then climb L j t.inn else aroundG L id j := by rw [HST.out, if_neg (by simpa using hid)]
        have HNX := Lib.hid hnx
        clear hnx
        go_wp2_with fail
        go_loop [8, 7] (fun x y => ∃ (k2 : Nat) (n2 nn : Int), k2 ≤ j ∧ n2 = (k2 : Int) - 1 ∧ x = .int .i64 n2 ∧ y = .int .i64 nn ∧ climb L j t.inn = climb L k2 nn) (fun x _ => (intOf x + 1).toNat)
        case atStart => exact ⟨j, _, _, Nat.le_refl _, rfl, rfl, rfl, rfl⟩
        case round =>
          obtain ⟨k2, n2, nn, hk2, hn2, rfl, rfl, hc⟩ := hrel
          have HC := Lib.hid hc
          clear hc
          by_cases hstop : k2 = 0 ∨ nn = 0
          · have hcz : climb L j t.inn = 0 := by
              rw [HC.out]
              rcases hstop with h | h
              · subst h; rfl
              · subst h; exact climb_zero L k2
            have hnx2 : RR = aroundG L id j := by rw [HNX.out, if_neg (by simpa using hcz)]
            have HNX2 := Lib.hid hnx2
            have hd : (decide ((0 : Int) ≤ n2) && !(nn == 0)) = false := by
              rw [Bool.and_eq_false_iff]
              rcases hstop with h | h
              · left; rw [decide_eq_false_iff_not]; omega
              · right; rw [h]; rfl
            clear hcz hnx2
            by_cases hge : (0 : Int) ≤ n2
            · have hnz : nn = 0 := by rcases hstop with h | h; · omega
                                      · exact h
              have hb1 : (nn == 0) = true := by rw [hnz]; rfl
              have hb2 : (nn != 0) = false := by rw [bne, hb1]; rfl
              clear hnz hstop hd hn2
              go_wp2_with fail
              go_round
              case rel => exact ⟨j, _, by omega, by first | rfl | omega, by first | rfl | go_num, HNX2.out⟩
              case measure => first | (simp [intOf]; done) | (simp [intOf]; omega)
            · have hlt2 : n2 < 0 := by omega
              clear hstop hd hn2
              go_wp2_with fail
              go_round
              case rel => exact ⟨j, _, by omega, by first | rfl | omega, by first | rfl | go_num, HNX2.out⟩
              case measure => first | (simp [intOf]; done) | (simp [intOf]; omega)
          · obtain ⟨m, hm2⟩ : ∃ m, k2 = m + 1 := ⟨k2 - 1, by omega⟩
            subst hm2
            have hnm : n2 = (m : Int) := by omega
            subst hnm
            have hnn : nn ≠ 0 := fun h => hstop (.inr h)
            have hb1 : (nn == 0) = false := by simpa using hnn
            have hb2 : (nn != 0) = true := by rw [bne, hb1]; rfl
            have hml : m < L.length := by omega
            have h0m : (0 : Int) ≤ (m : Int) := by omega
            have hmi : (m : Int) < (L.length : Int) := by omega
            have hsubm : IntKind.i64.wrap ((m : Int) - 1) = (m : Int) - 1 := IntWalk.i64_in _ (by omega)
            have hst := HC.out
            rw [climb_succ hml hnn] at hst
            obtain ⟨g2, off2, hvi, hfi⟩ := its6_at HL.out hml
            cases hvi
            obtain ⟨u, hu⟩ : ∃ u, Hid (L[m] = u) := ⟨_, Lib.hid rfl⟩
            rw [hu.out] at hfi hst
            obtain ⟨c0, c1, c14⟩ := it_three hfi
            have e0 : w.cell? ⟨g, off + m * 16, none⟩ = _ := c0
            have e1 : w.cell? ⟨g, off + m * 16 + 1, none⟩ = _ := c1
            have e14 : w.cell? ⟨g, off + m * 16 + 14, none⟩ = _ := c14
            have HST2 := Lib.hid hst
            have HNN := Lib.hid hnn
            clear hfi c0 c1 c14 hst hn2 hstop hnn
            cases hid2 : (u.s.id == nn) with
            | false =>
              have hne2 : (u.s.id != nn) = true := by rw [bne, hid2]; rfl
              have hnx3 : climb L j t.inn = climb L m nn := by rw [HST2.out, if_pos (by simpa using hid2)]
              have HNX3 := Lib.hid hnx3
              clear hnx3
              go_wp2_with fail
              go_round
              case rel => exact ⟨m, _, nn, by omega, by first | rfl | omega, by first | rfl | go_num, rfl, HNX3.out⟩
              case measure => first | (simp [intOf]; done) | (simp [intOf]; omega)
            | true =>
              have hne2 : (u.s.id != nn) = false := by rw [bne, hid2]; rfl
              have hnx3 : climb L j t.inn = if u.s.kind = 6 then nn else climb L m u.inn := by rw [HST2.out, if_neg (by simpa using hid2)]
              have HNX3 := Lib.hid hnx3
              clear hnx3
              cases hkd : (u.s.kind == 6) with
              | true =>
                have hans : RR = nn := by
                  have h1 : climb L j t.inn = nn := by rw [HNX3.out, if_pos (by simpa using hkd)]
                  rw [HNX.out, h1, if_pos HNN.out]
                subst hans
                go_wp2_with fail
                refine bodyPost_ret (v := .tuple #[.int .i64 RR, .bool true]) (by simp [results, Try.results102, go_sem]) rfl ?_
                exact ⟨rfl, rfl⟩
              | false =>
                have hnx4 : climb L j t.inn = climb L m u.inn := by rw [HNX3.out, if_neg (by simpa using hkd)]
                have HNX4 := Lib.hid hnx4
                clear hnx4
                go_wp2_with fail
                go_round
                case rel => exact ⟨m, _, u.inn, by omega, by first | rfl | omega, by first | rfl | go_num, rfl, HNX4.out⟩
                case measure => first | (simp [intOf]; done) | (simp [intOf]; omega)
set_option maxHeartbeats 4000000 in
set_option maxRecDepth 100000 in
theorem rLoop_any (d : Nat) (p : Pr) (gv pv : Value) (id : Int) (w : World) (hp : PrC (cw w) (d + 1) gv pv p) (hroom : RoomP p) :
    Calls Try.prog 51 #[.agg #[gv, pv], .int .i64 id] w fun e w' => e = .returned (.tuple #[.int .i64 (jloopP p id), .bool (!(jloopP p id == 0))]) ∧ Below w.heap.size w w' := by
  obtain ⟨RR, hRR⟩ : ∃ b, Hid (jloopP p id = b) := ⟨_, Lib.hid rfl⟩
  rw [hRR.out]
  have HROOM := Lib.hid hroom
  clear hroom
  obtain ⟨ga, gc, rfl, hgl1, hgl2⟩ := hp.1.form
  obtain ⟨pa, pc, rfl, hl1, hl2⟩ := hp.2.form
  have hpl : p.procs.length ≤ 9223372036854775807 := Nat.le_trans hl1 hl2
  have HP := Lib.hid hp
  clear hp hl1 hl2 hgl1 hgl2
  go_enter Try.func51, Try.ntmps51
  go_upto_region 1 with fail
  refine cut_world (fun wx => Below w.heap.size w wx ∧ BoxAt wx w.heap.size [.slice ga p.globals.length gc, .slice pa p.procs.length pc]) ⟨boxed _ _, box_new w #[.slice ga p.globals.length gc, .slice pa p.procs.length pc] 25⟩ ?_
  rintro w1 ⟨hb1, hx1⟩
  have HB1 := Lib.hid hb1
  have HX1 := Lib.hid hx1
  have HP1 := Lib.hid (PrC.mono (cw_next hb1) HP.out)
  clear hb1 hx1
  have x0 := HX1.out 0 _ rfl
  have x1 := HX1.out 1 _ rfl
  go_wp2_with fail
  refine (find7_any w1.heap.size d p _ _ id _ (Nat.le_refl _) (PrC.mono low_all HP1.out)).mono ?_
  obtain ⟨t, ht⟩ : ∃ t, Hid (it6 p id = t) := ⟨_, Lib.hid rfl⟩
  obtain ⟨NM, hNM⟩ : ∃ t, Hid (nm6 p id = t) := ⟨_, Lib.hid rfl⟩
  obtain ⟨HS, hHS⟩ : ∃ t, Hid (has6 p id = t) := ⟨_, Lib.hid rfl⟩
  rw [ht.out, hNM.out, hHS.out]
  rintro e w2 ⟨la, ka, aa, ta, ea, lc, kc, ac, tc, ec, rfl, -, -, -, -, -, -, -, -, hb2⟩
  have HX2 := Lib.hid (HX1.out.next hb2)
  have HP2 := Lib.hid (PrC.mono (cw_next hb2) HP1.out)
  have HB2 := Lib.hid (HB1.out.trans (hb2.mono HB1.out.size))
  clear hb2 x0 x1
  go_upto_region 2 with fail
  refine cut_world (fun wx => Below w2.heap.size w2 wx) (boxed w2 _) ?_
  intro w3 hb3
  have HX3 := Lib.hid (HX2.out.next hb3)
  have HP3 := Lib.hid (PrC.mono (cw_next hb3) HP2.out)
  have HB3 := Lib.hid (HB2.out.trans (hb3.mono HB2.out.size))
  clear hb3
  cases HS with
  | false =>
    have hr0 : jloopP p id = 0 := by
      unfold jloopP
      split
      · rename_i hz
        refine find6_out (scope_code hz).1 ?_
        have := hHS.out
        unfold has6 at this
        cases hf : find6 id p.procs with
        | none => rfl
        | some q => rw [hf] at this; cases this
      · rfl
    have hr : jloopP p id = 0 := hr0
    have h1 : RR = 0 := by rw [← hRR.out, hr]
    subst h1
    clear hr hr0
    go_wp2_with fail
    refine bodyPost_ret (v := .tuple #[.int .i64 0, .bool false]) (by simp [results, Try.results51, go_sem]) rfl ?_
    exact ⟨rfl, HB3.out⟩
  | true =>
    have x0 := HX3.out 0 _ rfl
    have x1 := HX3.out 1 _ rfl
    go_wp2_with fail
    refine (rscope_any (d + 1) p _ _ _ HP3.out HROOM.out).mono ?_
    rintro e w4 ⟨rfl, hb4⟩
    obtain ⟨SC, hSC⟩ : ∃ r, Hid ((scopeP p).1 = r) := ⟨_, Lib.hid rfl⟩
    obtain ⟨SI, hSI⟩ : ∃ r, Hid ((scopeP p).2 = r) := ⟨_, Lib.hid rfl⟩
    rw [hSC.out, hSI.out]
    have hfd := run_code SC SI
    have HX4 := Lib.hid (HX3.out.next hb4)
    have HP4 := Lib.hid (PrC.mono (cw_next hb4) HP3.out)
    have HB4 := Lib.hid (HB3.out.trans (hb4.mono HB3.out.size))
    clear hb4 x0 x1
    by_cases hz : SC = 0
    · have hz1 : (SC == 0) = true := by simpa using hz
      have hz2 : (SC != 0) = false := by rw [bne, hz1]; rfl
      have hwell : (scopeP p).1 = 0 := hSC.out.trans hz
      have hmay := (scope_code hwell).1
      obtain ⟨k, hk, hmem, hnm, hid⟩ : ∃ k, ∃ hk : k < p.procs.length, t ∈ itsOf p.procs[k] ∧ NM = p.procs[k].nm ∧ t.s.id = id := by
        have h1 := hHS.out
        unfold has6 at h1
        cases hf : find6 id p.procs with
        | none => rw [hf] at h1; cases h1
        | some q =>
          obtain ⟨t', nm'⟩ := q
          have e1 : t' = t := by rw [← ht.out]; unfold it6; rw [hf]; rfl
          have e2 : nm' = NM := by rw [← hNM.out]; unfold nm6; rw [hf]; rfl
          subst e1 e2
          exact find6_in hmay hf
      obtain ⟨f, hf⟩ : ∃ f, p.procs[k] = f := ⟨_, rfl⟩
      have hpc : pcOf p.procs NM = some f := by
        have h1 := well_pc (List.getElem_mem hk) hwell
        unfold pcIn at h1
        rw [if_pos hmay, ← hnm, hf] at h1
        exact h1
      have hfl : flatOf f = itsOf f := flat_its hmay (by rw [← hf]; exact List.getElem_mem hk)
      have har : RR = aroundG (itsOf f) id (itsOf f).length := by
        obtain ⟨q, hq, he⟩ := List.getElem_of_mem hmem
        have h1 := loop_its hmay hk hq
        rw [he, hid, hf] at h1
        rw [← hRR.out]
        unfold jloopP
        rw [if_pos hwell, h1]
      have hil : (itsOf f).length ≤ 1000000 := by
        rw [its_len, ← hf]
        have h1 := cntP_take hk
        have h2 := cntP_le p.procs (k + 1)
        have h3 := mayP_cnt hmay
        omega
      have HPC := Lib.hid hpc
      have HFL := Lib.hid hfl
      have HAR := Lib.hid har
      have HIL := Lib.hid hil
      clear hz hwell hmay hmem hnm hid hpc hfl har hf hil
      have x0 := HX4.out 0 _ rfl
      have x1 := HX4.out 1 _ rfl
      go_wp2_with fail
      refine (named_any (d + 1) p _ _ NM _ HP4.out).mono ?_
      rw [HPC.out]
      rintro e w5 ⟨a1, a2, a3, a4, c1, c2, c3, c4, rfl, hh5, hnm5, hb5⟩
      have HH5 := Lib.hid hh5
      have HB5 := Lib.hid (HB4.out.trans (hb5.mono HB4.out.size))
      clear hh5 hnm5 hb5 x0 x1
      go_upto_region 5 with fail
      refine cut_world (fun wx => Below w5.heap.size w5 wx ∧ BoxAt wx w5.heap.size [.string f.nm, .slice a1 f.params.length c1, .slice a2 f.vars.length c2, .slice a3 f.body.length c3, .slice a4 f.fin.length c4]) ⟨boxed w5 _, box_new w5 #[.string f.nm, .slice a1 f.params.length c1, .slice a2 f.vars.length c2, .slice a3 f.body.length c3, .slice a4 f.fin.length c4] 55⟩ ?_
      rintro w6 ⟨hb6, hy6⟩
      have HB6 := Lib.hid (HB5.out.trans (hb6.mono HB5.out.size))
      have HC6 := Lib.hid (StC.mono (cw_next hb6) HH5.out.body)
      have y0 := hy6 0 _ rfl
      have y1 := hy6 1 _ rfl
      have y2 := hy6 2 _ rfl
      have y3 := hy6 3 _ rfl
      have y4 := hy6 4 _ rfl
      clear hb6 hy6
      go_wp2_with fail
      refine (flatOf_any (d + 1) f _ _ _ _ _ HC6.out).mono ?_
      rintro e w7 ⟨v7, rfl, hs7, hb7⟩
      rw [HFL.out] at hs7
      have HL7 := Lib.hid hs7
      obtain ⟨ia, ic, rfl, -, -⟩ := hs7.form
      have HB7 := Lib.hid (HB6.out.trans (hb7.mono HB6.out.size))
      clear hs7 hb7 y0 y1 y2 y3 y4
      go_wp2_with fail
      refine (around_any (d + 1) (itsOf f) _ id _ HL7.out HIL.out).mono ?_
      rw [← HAR.out]
      rintro e w' ⟨rfl, rfl⟩
      go_wp2_with fail
      refine bodyPost_ret (v := .tuple #[.int .i64 RR, .bool (!(RR == 0))]) (by simp [results, Try.results51, go_sem]) rfl ?_
      exact ⟨rfl, HB7.out⟩
    · have hz1 : (SC == 0) = false := by simpa using hz
      have hz2 : (SC != 0) = true := by rw [bne, hz1]; rfl
      have hr0 : jloopP p id = 0 := by unfold jloopP; rw [if_neg (by rw [hSC.out]; exact hz)]
      have hz0 := Lib.hid hz
      clear hz
      have hr : jloopP p id = 0 := hr0
      have h1 : RR = 0 := by rw [← hRR.out, hr]
      subst h1
      clear hr hr0
      go_wp2_with fail
      refine bodyPost_ret (v := .tuple #[.int .i64 0, .bool false]) (by simp [results, Try.results51, go_sem]) rfl ?_
      exact ⟨rfl, HB4.out⟩
end Go.Proofs.Ytghlmengcidmdaa.Tr
end
