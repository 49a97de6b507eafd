/- Parts of PutW: walks and plain laws that later texts use. Conditions: as each statement says. -/
import Derived.Test.YtghlmengcidmdaaTw0
import Derived.Test.YtghlmengcidmdaaTw1
import Derived.Test.YtghlmengcidmdaaTw2
import Derived.Test.YtghlmengcidmdaaTw3
import Derived.Test.YtghlmengcidmdaaTw4
import Derived.Test.YtghlmengcidmdaaTw5
import Derived.Test.YtghlmengcidmdaaTw6
import Derived.Test.YtghlmengcidmdaaTw7
import Derived.Deep.RegionHeld3
import Derived.Deep.DeepCutAuto
import Derived.IntWalk
import Derived.Deep.QuietTactic
import Derived.BigQuiet
import Derived.StillTailTactics
import Derived.Deep.RegionLaw
import Derived.Deep.AppendLies
import Derived.Laws.StructEq
import Derived.RegionTactic
import Derived.Deep.Slices
import Derived.Deep.Fields
import Derived.Lib.SmallJoins
import Derived.SliceStrings
import Derived.ChangeSlices
import Derived.Maps.Range
import Derived.Outline
import Derived.Deep.Upon
import Derived.Maps.AppendAt
import Derived.Laws.OwnMore
import Derived.OrdersHeld
import Derived.WalkKit
import Derived.Test.YtghlmengcidmdaaRows
import Derived.WalkSpells
import Derived.Lib.Hide
import Derived.Below
import Derived.WalkSmall
import Derived.Laws.BitsAllLaws
import Derived.OwnWalk
import Derived.OneCell
import Derived.Deep.RegionWith
import Derived.Laws.Cover3
/- What texts, copyOne of the reference make: a list of texts, a statement anew. Conditions: they lie in memory; the statement is light. -/
namespace Go.Proofs.Ytghlmengcidmdaa.Tr
open Go.RowKit Go.Proofs.Ytghlmengcidmdaa.Lx Go.Proofs.Ytghlmengcidmdaa.Wd
set_option linter.unusedSimpArgs false
theorem pfar13 {w : World} {b g j : Nat} {x0 x1 x2 x3 x4 x5 x6 x7 x8 x9 x10 x11 x12 u : Value} (hne : b ≠ g) (h : w.cell? ⟨g, j, none⟩ = some u) : (((((((((((((w.setCell ⟨b, 0, none⟩ x0).setCell ⟨b, 1, none⟩ x1).setCell ⟨b, 2, none⟩ x2).setCell ⟨b, 3, none⟩ x3).setCell ⟨b, 4, none⟩ x4).setCell ⟨b, 5, none⟩ x5).setCell ⟨b, 6, none⟩ x6).setCell ⟨b, 7, none⟩ x7).setCell ⟨b, 8, none⟩ x8).setCell ⟨b, 9, none⟩ x9).setCell ⟨b, 10, none⟩ x10).setCell ⟨b, 11, none⟩ x11).setCell ⟨b, 12, none⟩ x12).cell? ⟨g, j, none⟩ = some u := by
  have ne : ∀ i, (⟨b, i, none⟩ : Addr) ≠ ⟨g, j, none⟩ := fun i e => hne (congrArg Addr.block e)
  iterate 13 rw [World.cell?_setCell_other _ _ _ _ (ne _)]
  exact h
theorem pbox13 {w : World} {b : Nat} {c0 c1 c2 c3 c4 c5 c6 c7 c8 c9 c10 c11 c12 x0 x1 x2 x3 x4 x5 x6 x7 x8 x9 x10 x11 x12 : Value} (h : BoxAt w b [c0, c1, c2, c3, c4, c5, c6, c7, c8, c9, c10, c11, c12]) : BoxAt (((((((((((((w.setCell ⟨b, 0, none⟩ x0).setCell ⟨b, 1, none⟩ x1).setCell ⟨b, 2, none⟩ x2).setCell ⟨b, 3, none⟩ x3).setCell ⟨b, 4, none⟩ x4).setCell ⟨b, 5, none⟩ x5).setCell ⟨b, 6, none⟩ x6).setCell ⟨b, 7, none⟩ x7).setCell ⟨b, 8, none⟩ x8).setCell ⟨b, 9, none⟩ x9).setCell ⟨b, 10, none⟩ x10).setCell ⟨b, 11, none⟩ x11).setCell ⟨b, 12, none⟩ x12) b [x0, x1, x2, x3, x4, x5, x6, x7, x8, x9, x10, x11, x12] := (((((((((((((h.put (j := 0) (x := x0) (by simp)).put (j := 1) (x := x1) (by simp)).put (j := 2) (x := x2) (by simp)).put (j := 3) (x := x3) (by simp)).put (j := 4) (x := x4) (by simp)).put (j := 5) (x := x5) (by simp)).put (j := 6) (x := x6) (by simp)).put (j := 7) (x := x7) (by simp)).put (j := 8) (x := x8) (by simp)).put (j := 9) (x := x9) (by simp)).put (j := 10) (x := x10) (by simp)).put (j := 11) (x := x11) (by simp)).put (j := 12) (x := x12) (by simp))
theorem free13 {w : World} {b : Nat} {x0 x1 x2 x3 x4 x5 x6 x7 x8 x9 x10 x11 x12 : Value} (h : Free w b) : Free (((((((((((((w.setCell ⟨b, 0, none⟩ x0).setCell ⟨b, 1, none⟩ x1).setCell ⟨b, 2, none⟩ x2).setCell ⟨b, 3, none⟩ x3).setCell ⟨b, 4, none⟩ x4).setCell ⟨b, 5, none⟩ x5).setCell ⟨b, 6, none⟩ x6).setCell ⟨b, 7, none⟩ x7).setCell ⟨b, 8, none⟩ x8).setCell ⟨b, 9, none⟩ x9).setCell ⟨b, 10, none⟩ x10).setCell ⟨b, 11, none⟩ x11).setCell ⟨b, 12, none⟩ x12) b := (((((((((((((h.set).set).set).set).set).set).set).set).set).set).set).set).set)
theorem size13 {w : World} {b : Nat} {x0 x1 x2 x3 x4 x5 x6 x7 x8 x9 x10 x11 x12 : Value} : (((((((((((((w.setCell ⟨b, 0, none⟩ x0).setCell ⟨b, 1, none⟩ x1).setCell ⟨b, 2, none⟩ x2).setCell ⟨b, 3, none⟩ x3).setCell ⟨b, 4, none⟩ x4).setCell ⟨b, 5, none⟩ x5).setCell ⟨b, 6, none⟩ x6).setCell ⟨b, 7, none⟩ x7).setCell ⟨b, 8, none⟩ x8).setCell ⟨b, 9, none⟩ x9).setCell ⟨b, 10, none⟩ x10).setCell ⟨b, 11, none⟩ x11).setCell ⟨b, 12, none⟩ x12).heap.size = w.heap.size := by simp only [World.size_setCell]
theorem below13 {v w : World} {n b : Nat} {x0 x1 x2 x3 x4 x5 x6 x7 x8 x9 x10 x11 x12 : Value} (h : Below n v w) (hb : n ≤ b) : Below n v (((((((((((((w.setCell ⟨b, 0, none⟩ x0).setCell ⟨b, 1, none⟩ x1).setCell ⟨b, 2, none⟩ x2).setCell ⟨b, 3, none⟩ x3).setCell ⟨b, 4, none⟩ x4).setCell ⟨b, 5, none⟩ x5).setCell ⟨b, 6, none⟩ x6).setCell ⟨b, 7, none⟩ x7).setCell ⟨b, 8, none⟩ x8).setCell ⟨b, 9, none⟩ x9).setCell ⟨b, 10, none⟩ x10).setCell ⟨b, 11, none⟩ x11).setCell ⟨b, 12, none⟩ x12) := (((((((((((((h.setCell (p := ⟨b, 0, none⟩) hb _).setCell (p := ⟨b, 1, none⟩) hb _).setCell (p := ⟨b, 2, none⟩) hb _).setCell (p := ⟨b, 3, none⟩) hb _).setCell (p := ⟨b, 4, none⟩) hb _).setCell (p := ⟨b, 5, none⟩) hb _).setCell (p := ⟨b, 6, none⟩) hb _).setCell (p := ⟨b, 7, none⟩) hb _).setCell (p := ⟨b, 8, none⟩) hb _).setCell (p := ⟨b, 9, none⟩) hb _).setCell (p := ⟨b, 10, none⟩) hb _).setCell (p := ⟨b, 11, none⟩) hb _).setCell (p := ⟨b, 12, none⟩) hb _)
theorem only13 {S : Nat → Prop} {w : World} {b : Nat} {x0 x1 x2 x3 x4 x5 x6 x7 x8 x9 x10 x11 x12 : Value} (h : ¬ S b) : Cs.le (only S (cw w)) (only S (cw (((((((((((((w.setCell ⟨b, 0, none⟩ x0).setCell ⟨b, 1, none⟩ x1).setCell ⟨b, 2, none⟩ x2).setCell ⟨b, 3, none⟩ x3).setCell ⟨b, 4, none⟩ x4).setCell ⟨b, 5, none⟩ x5).setCell ⟨b, 6, none⟩ x6).setCell ⟨b, 7, none⟩ x7).setCell ⟨b, 8, none⟩ x8).setCell ⟨b, 9, none⟩ x9).setCell ⟨b, 10, none⟩ x10).setCell ⟨b, 11, none⟩ x11).setCell ⟨b, 12, none⟩ x12))) := Cs.le_trans (only_set h) (Cs.le_trans (only_set h) (Cs.le_trans (only_set h) (Cs.le_trans (only_set h) (Cs.le_trans (only_set h) (Cs.le_trans (only_set h) (Cs.le_trans (only_set h) (Cs.le_trans (only_set h) (Cs.le_trans (only_set h) (Cs.le_trans (only_set h) (Cs.le_trans (only_set h) (Cs.le_trans (only_set h) (only_set h))))))))))))
theorem le_ne {w w' : World} {B B' Y : Nat} (hb : Below w.heap.size w w') (hB : B' ≤ B) (hY : Y < B ∨ w.heap.size ≤ Y) : Cs.le (only (fun g => B ≤ g) (cw w)) (only (fun g => B' ≤ g ∧ g ≠ Y) (cw w')) := fun g j u ⟨h1, h2⟩ => by
  have := cell_lt h2
  exact ⟨⟨by omega, by omega⟩, cell_next hb h2⟩
set_option maxHeartbeats 1000000 in
theorem texts_any (l : List ByteArray) (v : Value) (w : World) (hl : StrsAt w v l) (hm : l.length ≤ 1000000) : Calls Try.prog 75 #[v] w (TextsMade l w) := by
  obtain ⟨i0, hi, hz0, hz1, hz2⟩ := info_parts infoStr
  obtain ⟨a, cap, rfl, hc1, hc2⟩ := hl.form
  have HL := Lib.hid hl
  have HALL := Lib.hid hl.all
  clear hl
  go_enter Try.func75, Try.ntmps75
  go_wp2_with (at_builtin; refine wpList_append_sl _ rfl (.tmp 4) (.tmp 5) 22 rfl w.heap.size 9 i0 (.string ⟨#[]⟩) 1 16 Try.underlying22 hi hz0 hz1 hz2 rfl (by decide) _ 0 [] rfl ?oa1 a l.length cap (l.map Value.string) rfl ?oz1 ?ob1 ?oc1 (str_all _) ?od1 ?oe1 ?of1 ?_)
  case oa1 => exact World.ownsRow_nil _ _ _ _
  case oz1 => exact HL.out.news.2.1
  case ob1 => rw [List.length_map, Nat.mul_one]
  case oc1 => exact HL.out.news.2.2
  case od1 => unfold maxLen; omega
  case oe1 => omega
  case of1 => exact Nat.le_refl _
  intro v4 w4 hown4 hg4 hat4
  obtain ⟨la4, lc4, rfl⟩ := ownsForm hown4
  have hb4 : Below w.heap.size w w4 := (Below.refl _ _).grown hg4 (Nat.le_refl _) fun q hq => by cases hq
  have HB4 := Lib.hid hb4
  have HOWN4 := Lib.hid hown4
  clear hown4 hg4 hat4 hb4
  go_wp2_with fail
  go_ret
  exact ⟨_, rfl, strs_owned (by simpa using HOWN4.out) (by omega) (by omega) HALL.out, HB4.out⟩
/-- A statement is light: so much as a copier can copy (its names as long as they will). -/
def LightS (s : St) : Prop := wt s.x ≤ 20000 ∧ s.labels.length ≤ 1000000 ∧ s.args.length ≤ 1000000 ∧ ∀ a ∈ s.args, wt a.x ≤ 20000
theorem LightS.of {s : St} (h : wtS s ≤ 20000) : LightS s := by
  rw [wtS_eq] at h
  have h1 := wtTs_len s.labels
  have h2 := wtAr_len s.args
  exact ⟨by omega, by omega, by omega, fun a ha => by have := wtAr_mem ha; omega⟩
/-- What a copier of a statement leaves. -/
def OneMade (d : Nat) (s : St) (w : World) (e : Ending) (w' : World) : Prop :=
  ∃ ka kc la lc aa ac, e = .returned (.agg (stCells s (.slice ka s.x.ks.length kc) (.slice la s.labels.length lc) (.slice aa s.args.length ac) (.slice none 0 0) (.slice none 0 0)).toArray) ∧
    ExC (nwC w.heap.size w') d (.slice ka s.x.ks.length kc) s.x.ks ∧ StrC (nwC w.heap.size w') (.slice la s.labels.length lc) s.labels ∧ SlAt 6 (ArAt (nwC w.heap.size w') d) (.slice aa s.args.length ac) s.args ∧ Below w.heap.size w w'
set_option maxHeartbeats 4000000 in
set_option maxRecDepth 100000 in
theorem copyOne_any (d : Nat) (s : St) (ka la aa ta ea : Option Addr) (kc lc ac tc ec : Nat) (w : World) (hok : OkE s.x) (h3 : s.nm.size ≤ 9223372036854775807) (h4 : s.proc.size ≤ 9223372036854775807)
    (hh : Hang d w s (.slice la s.labels.length lc) (.slice ka s.x.ks.length kc) (.slice aa s.args.length ac) (.slice ta s.thn.length tc) (.slice ea s.els.length ec)) (hwt : LightS s) :
    Calls Try.prog 119 #[.agg (stCells s (.slice ka s.x.ks.length kc) (.slice la s.labels.length lc) (.slice aa s.args.length ac) (.slice ta s.thn.length tc) (.slice ea s.els.length ec)).toArray] w (OneMade d s w) := by
  obtain ⟨i1, hi', hz0', hz1', hz2'⟩ := info_parts infoAr
  have hbox : Below w.heap.size w (w.alloc (.cells (stCells s (.slice ka s.x.ks.length kc) (.slice la s.labels.length lc) (.slice aa s.args.length ac) (.slice ta s.thn.length tc) (.slice ea s.els.length ec)).toArray 41)) := boxed w _
  have hS : BoxAt (w.alloc (.cells (stCells s (.slice ka s.x.ks.length kc) (.slice la s.labels.length lc) (.slice aa s.args.length ac) (.slice ta s.thn.length tc) (.slice ea s.els.length ec)).toArray 41)) w.heap.size (stCells s (.slice ka s.x.ks.length kc) (.slice la s.labels.length lc) (.slice aa s.args.length ac) (.slice ta s.thn.length tc) (.slice ea s.els.length ec)) := box_new w _ _
  have HB := Lib.hid hbox
  have HS := Lib.hid hS
  have HH := Lib.hid (hh.next hbox)
  have HH0 := Lib.hid hh
  have HARG0 := Lib.hid hh.arg
  have HWT := Lib.hid hwt
  have HOK := Lib.hid hok
  have HI3 := Lib.hid h3
  have HI4 := Lib.hid h4
  clear hbox hS hh hwt hok h3 h4
  unfold stCells at *
  go_enter Try.func119, Try.ntmps119
  go_wp2_with fail
  refine cut_world (fun wx => Below w.heap.size w wx ∧ wx.heap.size = w.heap.size + 1 + 1 ∧ BoxAt wx w.heap.size (stCells s (.slice ka s.x.ks.length kc) (.slice la s.labels.length lc) (.slice aa s.args.length ac) (.slice ta s.thn.length tc) (.slice ea s.els.length ec)) ∧ BoxAt wx (w.heap.size + 1) [.int .i64 0, .int .i64 0, .slice none 0 0, .string ⟨#[]⟩, .string ⟨#[]⟩, .int .i64 0, .int .i64 0, .string ⟨#[]⟩, .slice none 0 0, .bool false, .slice none 0 0, .slice none 0 0, .slice none 0 0] ∧ Free wx (w.heap.size + 1)) ⟨HB.out.alloc (by simp) _, by simp, HS.out.next (boxed _ _), ?_, ?_⟩ ?_
  · have := box_new (w.alloc (.cells (stCells s (.slice ka s.x.ks.length kc) (.slice la s.labels.length lc) (.slice aa s.args.length ac) (.slice ta s.thn.length tc) (.slice ea s.els.length ec)).toArray 41)) #[.int .i64 0, .int .i64 0, .slice none 0 0, .string ⟨#[]⟩, .string ⟨#[]⟩, .int .i64 0, .int .i64 0, .string ⟨#[]⟩, .slice none 0 0, .bool false, .slice none 0 0, .slice none 0 0, .slice none 0 0] 41
    rwa [World.size_alloc] at this
  · exact fun j => by simp [go_sem]
  rintro w1 ⟨hb, hz1, hS, hR, hRF⟩
  have HB1 := Lib.hid hb
  have HS1 := Lib.hid hS
  have HR1 := Lib.hid hR
  have HRF1 := Lib.hid hRF
  have HH1 : Hid (Hang d w1 s (.slice la s.labels.length lc) (.slice ka s.x.ks.length kc) (.slice aa s.args.length ac) (.slice ta s.thn.length tc) (.slice ea s.els.length ec)) := Lib.hid (HH0.out.next hb)
  have hlab : s.labels.length ≤ 1000000 := HWT.out.2.1
  have HLIM := Lib.hid (lim_ex (x := s.x) HWT.out.1 d)
  clear hb hS hR hRF HB HS HH HH0
  have hq : Below w1.heap.size w1 w1.drew := (Below.refl _ _).drew
  go_cut [3] (fun a wx => ∃ (Y : Nat) (la2 ka2 : Option Addr) (lc2 kc2 : Nat), a = .pointer (some ⟨Y, 0, none⟩) ∧ w.heap.size + 1 + 1 ≤ Y ∧ Y < wx.heap.size ∧ Below w1.heap.size w1 wx ∧
    BoxAt wx Y (stCells s (.slice ka2 s.x.ks.length kc2) (.slice la2 s.labels.length lc2) (.slice none 0 0) (.slice none 0 0) (.slice none 0 0)) ∧ Free wx Y ∧
    StrC (only (fun g => w.heap.size + 1 + 1 ≤ g ∧ g ≠ Y) (cw wx)) (.slice la2 s.labels.length lc2) s.labels ∧ ExC (only (fun g => w.heap.size + 1 + 1 ≤ g ∧ g ≠ Y) (cw wx)) d (.slice ka2 s.x.ks.length kc2) s.x.ks)
  case first =>
    have hqA : Below w1.heap.size w1 (w1.alloc (.cells #[.int .i64 0, .int .i64 0, .slice none 0 0, .string ⟨#[]⟩, .string ⟨#[]⟩, .int .i64 0, .int .i64 0, .string ⟨#[]⟩, .slice none 0 0, .bool false, .slice none 0 0, .slice none 0 0, .slice none 0 0] 41)).drew := (boxed w1 _).drew
    have HYA := Lib.hid ((box_new w1 #[.int .i64 0, .int .i64 0, .slice none 0 0, .string ⟨#[]⟩, .string ⟨#[]⟩, .int .i64 0, .int .i64 0, .string ⟨#[]⟩, .slice none 0 0, .bool false, .slice none 0 0, .slice none 0 0, .slice none 0 0] 41).next ((Below.refl _ _).drew))
    have HYFA : Hid (Free (w1.alloc (.cells #[.int .i64 0, .int .i64 0, .slice none 0 0, .string ⟨#[]⟩, .string ⟨#[]⟩, .int .i64 0, .int .i64 0, .string ⟨#[]⟩, .slice none 0 0, .bool false, .slice none 0 0, .slice none 0 0, .slice none 0 0] 41)).drew w1.heap.size) := Lib.hid (Free.next (fun j => by simp [go_sem]) (by simp) ((Below.refl _ _).drew))
    have KD0 := Lib.hid (cell_next hqA (HS1.out 0 _ rfl))
    have KD1 := Lib.hid (cell_next hqA (HS1.out 1 _ rfl))
    have KD2 := Lib.hid (cell_next hqA (HS1.out 2 _ rfl))
    have KD3 := Lib.hid (cell_next hqA (HS1.out 3 _ rfl))
    have KD4 := Lib.hid (cell_next hqA (HS1.out 4 _ rfl))
    have KD5 := Lib.hid (cell_next hqA (HS1.out 5 _ rfl))
    have KD6 := Lib.hid (cell_next hqA (HS1.out 6 _ rfl))
    have KD7 := Lib.hid (cell_next hqA (HS1.out 7 _ rfl))
    have KD8 := Lib.hid (cell_next hqA (HS1.out 8 _ rfl))
    have KD9 := Lib.hid (cell_next hqA (HS1.out 9 _ rfl))
    have hne1 : w1.heap.size ≠ w.heap.size := by omega
    have HZ1 := Lib.hid hz1
    clear hz1
    have K0 := Lib.hid (cell_next hq (HS1.out 0 _ rfl))
    have K1 := Lib.hid (cell_next hq (HS1.out 1 _ rfl))
    have K2 := Lib.hid (cell_next hq (HS1.out 2 _ rfl))
    have K3 := Lib.hid (cell_next hq (HS1.out 3 _ rfl))
    have K4 := Lib.hid (cell_next hq (HS1.out 4 _ rfl))
    have K5 := Lib.hid (cell_next hq (HS1.out 5 _ rfl))
    have K6 := Lib.hid (cell_next hq (HS1.out 6 _ rfl))
    have K7 := Lib.hid (cell_next hq (HS1.out 7 _ rfl))
    have K8 := Lib.hid (cell_next hq (HS1.out 8 _ rfl))
    have K9 := Lib.hid (cell_next hq (HS1.out 9 _ rfl))
    go_region_held3 (fun w' => w'.cell? ⟨w.heap.size, 0, none⟩ = some (.int .i64 s.id) ∧ w'.cell? ⟨w.heap.size, 1, none⟩ = some (.int .i64 s.kind) ∧ w'.cell? ⟨w.heap.size, 2, none⟩ = some (.slice la s.labels.length lc) ∧ w'.cell? ⟨w.heap.size, 3, none⟩ = some (.string s.nm) ∧ w'.cell? ⟨w.heap.size, 4, none⟩ = some (.string s.proc) ∧ w'.cell? ⟨w.heap.size, 5, none⟩ = some (.int .i64 s.x.op) ∧ w'.cell? ⟨w.heap.size, 6, none⟩ = some (.int .i64 s.x.n) ∧ w'.cell? ⟨w.heap.size, 7, none⟩ = some (.string s.x.nm) ∧ w'.cell? ⟨w.heap.size, 8, none⟩ = some (.slice ka s.x.ks.length kc) ∧ w'.cell? ⟨w.heap.size, 9, none⟩ = some (.bool s.has))
      (first
        | with_reducible exact ⟨K0.out, K1.out, K2.out, K3.out, K4.out, K5.out, K6.out, K7.out, K8.out, K9.out⟩
        | with_reducible exact ⟨KD0.out, KD1.out, KD2.out, KD3.out, KD4.out, KD5.out, KD6.out, KD7.out, KD8.out, KD9.out⟩
        | with_reducible exact ⟨KB0.out, KB1.out, KB2.out, KB3.out, KB4.out, KB5.out, KB6.out, KB7.out, KB8.out, KB9.out⟩
        | with_reducible exact ⟨KC0.out, KC1.out, KC2.out, KC3.out, KC4.out, KC5.out, KC6.out, KC7.out, KC8.out, KC9.out⟩
        | with_reducible exact ⟨pfar13 hne1 KC0.out, pfar13 hne1 KC1.out, pfar13 hne1 KC2.out, pfar13 hne1 KC3.out, pfar13 hne1 KC4.out, pfar13 hne1 KC5.out, pfar13 hne1 KC6.out, pfar13 hne1 KC7.out, pfar13 hne1 KC8.out, pfar13 hne1 KC9.out⟩
        | with_reducible exact ⟨pfar13 hne2 KC0.out, pfar13 hne2 KC1.out, pfar13 hne2 KC2.out, pfar13 hne2 KC3.out, pfar13 hne2 KC4.out, pfar13 hne2 KC5.out, pfar13 hne2 KC6.out, pfar13 hne2 KC7.out, pfar13 hne2 KC8.out, pfar13 hne2 KC9.out⟩
        | with_reducible exact ⟨KE0.out, KE1.out, KE2.out, KE3.out, KE4.out, KE5.out, KE6.out, KE7.out, KE8.out, KE9.out⟩
        | with_reducible exact ⟨KF0.out, KF1.out, KF2.out, KF3.out, KF4.out, KF5.out, KF6.out, KF7.out, KF8.out, KF9.out⟩
        | with_reducible exact ⟨KG0.out, KG1.out, KG2.out, KG3.out, KG4.out, KG5.out, KG6.out, KG7.out, KG8.out, KG9.out⟩)
      (first
        | (go_at_call 75
           refine (texts_any s.labels _ _ (StrsAt.next (StrC.to HH1.out.lab) (by first | with_reducible exact hq | with_reducible exact hqA)) hlab).mono ?_
           rintro e w2 ⟨lv2, rfl, hlv2, hb2⟩
           obtain ⟨la2, lc2, rfl, -, -⟩ := hlv2.form
           have HLV2 := Lib.hid hlv2
           have hs2 : w1.heap.size ≤ w2.heap.size := by { have h := hb2.size; simp at h; omega }
           first
             | ((with_reducible have hY := HYA.out.next hb2)
                have hYF : Free w2 w1.heap.size := Free.next HYFA.out (by simp) hb2)
             | (with_reducible have hcheck := below_then hb2 hq)
           have hq2 := below_then hb2 (by first | with_reducible exact hq | with_reducible exact hqA)
           have HYB := Lib.hid (box_new w2 #[.int .i64 0, .int .i64 0, .slice none 0 0, .string ⟨#[]⟩, .string ⟨#[]⟩, .int .i64 0, .int .i64 0, .string ⟨#[]⟩, .slice none 0 0, .bool false, .slice none 0 0, .slice none 0 0, .slice none 0 0] 41)
           have hq2A := hq2.alloc hs2 (.cells #[.int .i64 0, .int .i64 0, .slice none 0 0, .string ⟨#[]⟩, .string ⟨#[]⟩, .int .i64 0, .int .i64 0, .string ⟨#[]⟩, .slice none 0 0, .bool false, .slice none 0 0, .slice none 0 0, .slice none 0 0] 41)
           have KE0 := Lib.hid (cell_next hq2A (HS1.out 0 _ rfl))
           have KE1 := Lib.hid (cell_next hq2A (HS1.out 1 _ rfl))
           have KE2 := Lib.hid (cell_next hq2A (HS1.out 2 _ rfl))
           have KE3 := Lib.hid (cell_next hq2A (HS1.out 3 _ rfl))
           have KE4 := Lib.hid (cell_next hq2A (HS1.out 4 _ rfl))
           have KE5 := Lib.hid (cell_next hq2A (HS1.out 5 _ rfl))
           have KE6 := Lib.hid (cell_next hq2A (HS1.out 6 _ rfl))
           have KE7 := Lib.hid (cell_next hq2A (HS1.out 7 _ rfl))
           have KE8 := Lib.hid (cell_next hq2A (HS1.out 8 _ rfl))
           have KE9 := Lib.hid (cell_next hq2A (HS1.out 9 _ rfl))
           have hne2 : w2.heap.size ≠ w.heap.size := by have := HZ1.out; omega
           have KB0 := Lib.hid (cell_next hq2 (HS1.out 0 _ rfl))
           have KB1 := Lib.hid (cell_next hq2 (HS1.out 1 _ rfl))
           have KB2 := Lib.hid (cell_next hq2 (HS1.out 2 _ rfl))
           have KB3 := Lib.hid (cell_next hq2 (HS1.out 3 _ rfl))
           have KB4 := Lib.hid (cell_next hq2 (HS1.out 4 _ rfl))
           have KB5 := Lib.hid (cell_next hq2 (HS1.out 5 _ rfl))
           have KB6 := Lib.hid (cell_next hq2 (HS1.out 6 _ rfl))
           have KB7 := Lib.hid (cell_next hq2 (HS1.out 7 _ rfl))
           have KB8 := Lib.hid (cell_next hq2 (HS1.out 8 _ rfl))
           have KB9 := Lib.hid (cell_next hq2 (HS1.out 9 _ rfl)))
        | (go_at_call 139
           refine (copyExpr_any d s.x _ _ HOK.out ((HH1.out.kid.to).next (by first | with_reducible exact hq2 | with_reducible exact hq2A)) HLIM.out).mono ?_
           rintro e w3 ⟨kv3, rfl, hok3, hkv3, hb3⟩
           obtain ⟨ka3, kc3, rfl, -, -⟩ := hkv3.form
           unfold exV
           have HKV3 := Lib.hid hkv3
           have hs3 : w2.heap.size ≤ w3.heap.size := by { have h := hb3.size; first | exact h | (simp at h; omega) }
           have hq3 := below_then hb3 (by first | with_reducible exact hq2 | with_reducible exact hq2A)
           have KC0 := Lib.hid (cell_next hq3 (HS1.out 0 _ rfl))
           have KC1 := Lib.hid (cell_next hq3 (HS1.out 1 _ rfl))
           have KC2 := Lib.hid (cell_next hq3 (HS1.out 2 _ rfl))
           have KC3 := Lib.hid (cell_next hq3 (HS1.out 3 _ rfl))
           have KC4 := Lib.hid (cell_next hq3 (HS1.out 4 _ rfl))
           have KC5 := Lib.hid (cell_next hq3 (HS1.out 5 _ rfl))
           have KC6 := Lib.hid (cell_next hq3 (HS1.out 6 _ rfl))
           have KC7 := Lib.hid (cell_next hq3 (HS1.out 7 _ rfl))
           have KC8 := Lib.hid (cell_next hq3 (HS1.out 8 _ rfl))
           have KC9 := Lib.hid (cell_next hq3 (HS1.out 9 _ rfl))
           have KF0 := Lib.hid (cell_next (boxed w3 (.cells #[.int .i64 0, .int .i64 0, .slice none 0 0, .string ⟨#[]⟩, .string ⟨#[]⟩, .int .i64 0, .int .i64 0, .string ⟨#[]⟩, .slice none 0 0, .bool false, .slice none 0 0, .slice none 0 0, .slice none 0 0] 41)) KC0.out)
           have KG0 := Lib.hid (cell_next (boxed w3 (.cells #[.int .i64 s.id, .int .i64 s.kind, .slice la2 s.labels.length lc2, .string s.nm, .string s.proc, .int .i64 s.x.op, .int .i64 s.x.n, .string s.x.nm, .slice ka3 s.x.ks.length kc3, .bool s.has, .slice none 0 0, .slice none 0 0, .slice none 0 0] 41)) KC0.out)
           have KF1 := Lib.hid (cell_next (boxed w3 (.cells #[.int .i64 0, .int .i64 0, .slice none 0 0, .string ⟨#[]⟩, .string ⟨#[]⟩, .int .i64 0, .int .i64 0, .string ⟨#[]⟩, .slice none 0 0, .bool false, .slice none 0 0, .slice none 0 0, .slice none 0 0] 41)) KC1.out)
           have KG1 := Lib.hid (cell_next (boxed w3 (.cells #[.int .i64 s.id, .int .i64 s.kind, .slice la2 s.labels.length lc2, .string s.nm, .string s.proc, .int .i64 s.x.op, .int .i64 s.x.n, .string s.x.nm, .slice ka3 s.x.ks.length kc3, .bool s.has, .slice none 0 0, .slice none 0 0, .slice none 0 0] 41)) KC1.out)
           have KF2 := Lib.hid (cell_next (boxed w3 (.cells #[.int .i64 0, .int .i64 0, .slice none 0 0, .string ⟨#[]⟩, .string ⟨#[]⟩, .int .i64 0, .int .i64 0, .string ⟨#[]⟩, .slice none 0 0, .bool false, .slice none 0 0, .slice none 0 0, .slice none 0 0] 41)) KC2.out)
           have KG2 := Lib.hid (cell_next (boxed w3 (.cells #[.int .i64 s.id, .int .i64 s.kind, .slice la2 s.labels.length lc2, .string s.nm, .string s.proc, .int .i64 s.x.op, .int .i64 s.x.n, .string s.x.nm, .slice ka3 s.x.ks.length kc3, .bool s.has, .slice none 0 0, .slice none 0 0, .slice none 0 0] 41)) KC2.out)
           have KF3 := Lib.hid (cell_next (boxed w3 (.cells #[.int .i64 0, .int .i64 0, .slice none 0 0, .string ⟨#[]⟩, .string ⟨#[]⟩, .int .i64 0, .int .i64 0, .string ⟨#[]⟩, .slice none 0 0, .bool false, .slice none 0 0, .slice none 0 0, .slice none 0 0] 41)) KC3.out)
           have KG3 := Lib.hid (cell_next (boxed w3 (.cells #[.int .i64 s.id, .int .i64 s.kind, .slice la2 s.labels.length lc2, .string s.nm, .string s.proc, .int .i64 s.x.op, .int .i64 s.x.n, .string s.x.nm, .slice ka3 s.x.ks.length kc3, .bool s.has, .slice none 0 0, .slice none 0 0, .slice none 0 0] 41)) KC3.out)
           have KF4 := Lib.hid (cell_next (boxed w3 (.cells #[.int .i64 0, .int .i64 0, .slice none 0 0, .string ⟨#[]⟩, .string ⟨#[]⟩, .int .i64 0, .int .i64 0, .string ⟨#[]⟩, .slice none 0 0, .bool false, .slice none 0 0, .slice none 0 0, .slice none 0 0] 41)) KC4.out)
           have KG4 := Lib.hid (cell_next (boxed w3 (.cells #[.int .i64 s.id, .int .i64 s.kind, .slice la2 s.labels.length lc2, .string s.nm, .string s.proc, .int .i64 s.x.op, .int .i64 s.x.n, .string s.x.nm, .slice ka3 s.x.ks.length kc3, .bool s.has, .slice none 0 0, .slice none 0 0, .slice none 0 0] 41)) KC4.out)
           have KF5 := Lib.hid (cell_next (boxed w3 (.cells #[.int .i64 0, .int .i64 0, .slice none 0 0, .string ⟨#[]⟩, .string ⟨#[]⟩, .int .i64 0, .int .i64 0, .string ⟨#[]⟩, .slice none 0 0, .bool false, .slice none 0 0, .slice none 0 0, .slice none 0 0] 41)) KC5.out)
           have KG5 := Lib.hid (cell_next (boxed w3 (.cells #[.int .i64 s.id, .int .i64 s.kind, .slice la2 s.labels.length lc2, .string s.nm, .string s.proc, .int .i64 s.x.op, .int .i64 s.x.n, .string s.x.nm, .slice ka3 s.x.ks.length kc3, .bool s.has, .slice none 0 0, .slice none 0 0, .slice none 0 0] 41)) KC5.out)
           have KF6 := Lib.hid (cell_next (boxed w3 (.cells #[.int .i64 0, .int .i64 0, .slice none 0 0, .string ⟨#[]⟩, .string ⟨#[]⟩, .int .i64 0, .int .i64 0, .string ⟨#[]⟩, .slice none 0 0, .bool false, .slice none 0 0, .slice none 0 0, .slice none 0 0] 41)) KC6.out)
           have KG6 := Lib.hid (cell_next (boxed w3 (.cells #[.int .i64 s.id, .int .i64 s.kind, .slice la2 s.labels.length lc2, .string s.nm, .string s.proc, .int .i64 s.x.op, .int .i64 s.x.n, .string s.x.nm, .slice ka3 s.x.ks.length kc3, .bool s.has, .slice none 0 0, .slice none 0 0, .slice none 0 0] 41)) KC6.out)
           have KF7 := Lib.hid (cell_next (boxed w3 (.cells #[.int .i64 0, .int .i64 0, .slice none 0 0, .string ⟨#[]⟩, .string ⟨#[]⟩, .int .i64 0, .int .i64 0, .string ⟨#[]⟩, .slice none 0 0, .bool false, .slice none 0 0, .slice none 0 0, .slice none 0 0] 41)) KC7.out)
           have KG7 := Lib.hid (cell_next (boxed w3 (.cells #[.int .i64 s.id, .int .i64 s.kind, .slice la2 s.labels.length lc2, .string s.nm, .string s.proc, .int .i64 s.x.op, .int .i64 s.x.n, .string s.x.nm, .slice ka3 s.x.ks.length kc3, .bool s.has, .slice none 0 0, .slice none 0 0, .slice none 0 0] 41)) KC7.out)
           have KF8 := Lib.hid (cell_next (boxed w3 (.cells #[.int .i64 0, .int .i64 0, .slice none 0 0, .string ⟨#[]⟩, .string ⟨#[]⟩, .int .i64 0, .int .i64 0, .string ⟨#[]⟩, .slice none 0 0, .bool false, .slice none 0 0, .slice none 0 0, .slice none 0 0] 41)) KC8.out)
           have KG8 := Lib.hid (cell_next (boxed w3 (.cells #[.int .i64 s.id, .int .i64 s.kind, .slice la2 s.labels.length lc2, .string s.nm, .string s.proc, .int .i64 s.x.op, .int .i64 s.x.n, .string s.x.nm, .slice ka3 s.x.ks.length kc3, .bool s.has, .slice none 0 0, .slice none 0 0, .slice none 0 0] 41)) KC8.out)
           have KF9 := Lib.hid (cell_next (boxed w3 (.cells #[.int .i64 0, .int .i64 0, .slice none 0 0, .string ⟨#[]⟩, .string ⟨#[]⟩, .int .i64 0, .int .i64 0, .string ⟨#[]⟩, .slice none 0 0, .bool false, .slice none 0 0, .slice none 0 0, .slice none 0 0] 41)) KC9.out)
           have KG9 := Lib.hid (cell_next (boxed w3 (.cells #[.int .i64 s.id, .int .i64 s.kind, .slice la2 s.labels.length lc2, .string s.nm, .string s.proc, .int .i64 s.x.op, .int .i64 s.x.n, .string s.x.nm, .slice ka3 s.x.ks.length kc3, .bool s.has, .slice none 0 0, .slice none 0 0, .slice none 0 0] 41)) KC9.out)
           first
             | ((with_reducible have hY3 := hY.next hb3)
                have hYF3 := hYF.next (cell_lt (hY 0 _ rfl)) hb3
                have y0 := hY3 0 _ rfl
                have f0 := hYF3 0
                have y1 := hY3 1 _ rfl
                have f1 := hYF3 1
                have y2 := hY3 2 _ rfl
                have f2 := hYF3 2
                have y3 := hY3 3 _ rfl
                have f3 := hYF3 3
                have y4 := hY3 4 _ rfl
                have f4 := hYF3 4
                have y5 := hY3 5 _ rfl
                have f5 := hYF3 5
                have y6 := hY3 6 _ rfl
                have f6 := hYF3 6
                have y7 := hY3 7 _ rfl
                have f7 := hYF3 7
                have y8 := hY3 8 _ rfl
                have f8 := hYF3 8
                have y9 := hY3 9 _ rfl
                have f9 := hYF3 9
                have y10 := hY3 10 _ rfl
                have f10 := hYF3 10
                have y11 := hY3 11 _ rfl
                have f11 := hYF3 11
                have y12 := hY3 12 _ rfl
                have f12 := hYF3 12)
             | ((with_reducible have hY3 := HYB.out.next hb3)
                have hYF3 : Free w3 w2.heap.size := Free.next (fun j => by simp [go_sem]) (by simp) hb3
                have y0 := hY3 0 _ rfl
                have f0 := hYF3 0
                have y1 := hY3 1 _ rfl
                have f1 := hYF3 1
                have y2 := hY3 2 _ rfl
                have f2 := hYF3 2
                have y3 := hY3 3 _ rfl
                have f3 := hYF3 3
                have y4 := hY3 4 _ rfl
                have f4 := hYF3 4
                have y5 := hY3 5 _ rfl
                have f5 := hYF3 5
                have y6 := hY3 6 _ rfl
                have f6 := hYF3 6
                have y7 := hY3 7 _ rfl
                have f7 := hYF3 7
                have y8 := hY3 8 _ rfl
                have f8 := hYF3 8
                have y9 := hY3 9 _ rfl
                have f9 := hYF3 9
                have y10 := hY3 10 _ rfl
                have f10 := hYF3 10
                have y11 := hY3 11 _ rfl
                have f11 := hYF3 11
                have y12 := hY3 12 _ rfl
                have f12 := hYF3 12)
             | skip))
    all_goals
      have hz1 := HZ1.out
      go_wp2_with fail
      go_meet
      first
        | (refine ⟨w3.heap.size, la2, ka3, lc2, kc3, (by with_reducible rfl), ?_, ?_, ?_, ?_, ?_, ?_, ?_⟩
           · omega
           · simp
           · exact hq3.alloc (by omega) _
           · exact box_new w3 #[.int .i64 s.id, .int .i64 s.kind, .slice la2 s.labels.length lc2, .string s.nm, .string s.proc, .int .i64 s.x.op, .int .i64 s.x.n, .string s.x.nm, .slice ka3 s.x.ks.length kc3, .bool s.has, .slice none 0 0, .slice none 0 0, .slice none 0 0] 41
           · exact fun j => by simp [go_sem]
           · refine StrC.mono (le_ne (below_then (boxed w3 _) hb3) ?_ ?_) HLV2.out
             · first | omega | (simp; omega)
             · right; omega
           · refine ExC.mono (le_ne (boxed w3 _) ?_ ?_) HKV3.out
             · omega
             · right; omega)
        | (refine ⟨w2.heap.size, la2, ka3, lc2, kc3, (by with_reducible rfl), ?_, ?_, ?_, ?_, ?_, ?_, ?_⟩
           · omega
           · rw [size13]; exact cell_lt (hY3 0 _ rfl)
           · exact below13 hq3 hs2
           · exact pbox13 hY3
           · exact free13 hYF3
           · refine StrC.mono (Cs.le_trans (le_ne (below_then hb3 (boxed w2 _)) ?_ ?_) (only13 ?_)) HLV2.out
             · first | omega | (simp; omega)
             · right; omega
             · simp
           · refine ExC.mono (Cs.le_trans (le_ne (Below.refl _ _) ?_ ?_) (only13 ?_)) HKV3.out
             · first | omega | (simp; omega)
             · left; simp
             · simp)
        | (refine ⟨w1.heap.size, la2, ka3, lc2, kc3, (by with_reducible rfl), ?_, ?_, ?_, ?_, ?_, ?_, ?_⟩
           · omega
           · rw [size13]; exact cell_lt (hY3 0 _ rfl)
           · exact below13 hq3 (Nat.le_refl _)
           · exact pbox13 hY3
           · exact free13 hYF3
           · refine StrC.mono (Cs.le_trans (le_ne hb3 ?_ ?_) (only13 ?_)) HLV2.out
             · first | omega | (simp; omega)
             · left; simp
             · simp
           · refine ExC.mono (Cs.le_trans (le_ne (Below.refl _ _) ?_ ?_) (only13 ?_)) HKV3.out
             · omega
             · left; exact cell_lt (hY 0 _ rfl)
             · simp)
  case rest =>
    obtain ⟨Y, la2, ka2, lc2, kc2, rfl, hY0, hY1, hbc, hT, hTF, hlv, hkv⟩ := hcut
    have HBC := Lib.hid (HB1.out.trans (hbc.mono (by omega)))
    have HT := Lib.hid hT
    have HTF := Lib.hid hTF
    have HLV := Lib.hid hlv
    have HKV := Lib.hid hkv
    have HR := Lib.hid (HR1.out.next hbc)
    have HRF := Lib.hid (HRF1.out.next (by omega) hbc)
    have hszc := hbc.size
    have s10 := HS1.out.next hbc 10 _ rfl
    have hargs : s.args.length ≤ 1000000 := HWT.out.2.2.1
    clear hbc hT hTF hlv hkv HB1 HS1 HR1 HRF1 HH1 hlab HLIM hq
    go_wp2_with fail
    go_loopw [26] (fun i wr => ∃ (q : Nat) (v5 : Value) (rows5 : List (List Value)), q ≤ s.args.length ∧ i = .int .i64 q ∧ Below w.heap.size w wr ∧ wc.heap.size ≤ wr.heap.size ∧ Cs.le (only (fun g => g < wc.heap.size ∧ g ≠ Y) (cw wc)) (cw wr) ∧
      Grow (ArQ d) 49 6 wc.heap.size Y (w.heap.size + 1) 13 (stCells s (.slice ka2 s.x.ks.length kc2) (.slice la2 s.labels.length lc2) (.slice none 0 0) (.slice none 0 0) (.slice none 0 0)) 10 (s.args.take q) wr v5 rows5) (fun i _ => (s.args.length - intOf i).toNat)
    case atStart =>
      exact ⟨0, .slice none 0 0, [], by omega, rfl, HBC.out, Nat.le_refl _, only_out, by omega, by omega, by omega, by omega, HT.out, HTF.out, fun j hj => ⟨_, HR.out j _ (List.getElem?_eq_getElem (by simpa using hj))⟩, HRF.out, Acc.nil _ _ _ _ _, Nat.le_refl _⟩
    case round =>
      obtain ⟨q, v5, rows5, hq, rfl, hbel5, hz5, hkeep, hG⟩ := hrel
      have HBEL5 := Lib.hid hbel5
      have HKEEP := Lib.hid hkeep
      have HG := Lib.hid hG
      obtain ⟨va5, vc5, hv5⟩ := ownsForm hG.acc.own
      have hqa : (s.args.take q).length = q := by rw [List.length_take]; omega
      rw [hqa] at hv5
      subst hv5
      have HQA := Lib.hid hqa
      obtain ⟨w5, hw5⟩ : ∃ w5 : World, w5 = wr := ⟨_, rfl⟩
      subst hw5
      clear hqa s10
      by_cases hqt : q < s.args.length
      · have hqt' : (q : Int) < (s.args.length : Int) := by omega
        have h0q : (0 : Int) ≤ (q : Int) := by omega
        have hne2 : s.args ≠ [] := by intro h; rw [h] at hqt; simp at hqt
        obtain ⟨g2, off2, cap2, hv2, _, hcells2⟩ := SlAt.cells (SlAt.imp HARG0.out fun _ _ _ _ => ArAt.mono (cw_next hbel5)) hne2
        simp only [Value.slice.injEq] at hv2
        obtain ⟨rfl, -, rfl⟩ := hv2
        obtain ⟨r0, r1, r2, kx, r3, r4, r5, r6, hokx, hxx⟩ := hcells2 q hqt
        obtain ⟨ar, har⟩ : ∃ ar, Hid (s.args[q] = ar) := ⟨_, Lib.hid rfl⟩
        have hwa := HWT.out.2.2.2 _ (List.getElem_mem hqt)
        rw [har.out] at r0 r1 r2 r3 r4 r5 hokx hxx hwa
        obtain ⟨xa, xc, rfl, -, -⟩ := hxx.form
        have d0 : w5.cell? ⟨g2, off2 + q * 6, none⟩ = _ := r0
        have d1 : w5.cell? ⟨g2, off2 + q * 6 + 1, none⟩ = _ := r1
        have d2 : w5.cell? ⟨g2, off2 + q * 6 + 2, none⟩ = _ := r3
        have d3 : w5.cell? ⟨g2, off2 + q * 6 + 3, none⟩ = _ := r4
        have d4 : w5.cell? ⟨g2, off2 + q * 6 + 4, none⟩ = _ := r5
        have d5 : w5.cell? ⟨g2, off2 + q * 6 + 5, none⟩ = _ := r6
        have HXX := Lib.hid hxx
        have HOKX := Lib.hid hokx
        have HNMX := Lib.hid r2
        have HLX := Lib.hid (lim_ex (x := ar.x) hwa d)
        clear hcells2 r0 r1 r2 r3 r4 r5 r6 hxx hokx hne2 hwa hbel5 hkeep hG
        go_upto_region 5 with fail
        refine cut_world (fun wx => Below w5.heap.size w5 wx ∧ w5.heap.size < wx.heap.size ∧ BoxAt wx w5.heap.size [.bool ar.ref, .string ar.nm, .int .i64 ar.x.op, .int .i64 ar.x.n, .string ar.x.nm, .slice xa ar.x.ks.length xc]) ⟨boxed _ _, by simp, box_new w5 #[.bool ar.ref, .string ar.nm, .int .i64 ar.x.op, .int .i64 ar.x.n, .string ar.x.nm, .slice xa ar.x.ks.length xc] 49⟩ ?_
        rintro w6 ⟨hb6, hz6, hA⟩
        clear d0 d1 d2 d3 d4 d5
        have HB6 := Lib.hid hb6
        have HA := Lib.hid hA
        have HXX6 := Lib.hid (ExC.to (ExC.mono (cw_next hb6) HXX.out))
        have Y10 := Lib.hid (cell_next hb6 (HG.out.y 10 _ rfl))
        have FY10 := Lib.hid (frozen_next hb6 (HG.out.y 10 _ rfl) (HG.out.fy 10))
        have hown6 := ownsBelow HG.out.acc.own hb6
        rw [HQA.out] at hown6
        have HOWN6 := Lib.hid hown6
        have hq6 : Below w6.heap.size w6 w6.drew := (Below.refl _ _).drew
        clear hb6 hA hown6
        refine wp_region_z (fun w' => w'.cell? ⟨Y, 10, none⟩ = some (.slice va5 q vc5) ∧ w'.cell? ⟨w5.heap.size, 0, none⟩ = some (.bool ar.ref) ∧ w'.cell? ⟨w5.heap.size, 1, none⟩ = some (.string ar.nm) ∧ w'.cell? ⟨w5.heap.size, 2, none⟩ = some (.int .i64 ar.x.op) ∧ w'.cell? ⟨w5.heap.size, 3, none⟩ = some (.int .i64 ar.x.n) ∧ w'.cell? ⟨w5.heap.size, 4, none⟩ = some (.string ar.x.nm) ∧ w'.cell? ⟨w5.heap.size, 5, none⟩ = some (.slice xa ar.x.ks.length xc)) 13 (by kernel_rfl) ⟨cell_next hq6 Y10.out, cell_next hq6 (HA.out 0 _ rfl), cell_next hq6 (HA.out 1 _ rfl), cell_next hq6 (HA.out 2 _ rfl), cell_next hq6 (HA.out 3 _ rfl), cell_next hq6 (HA.out 4 _ rfl), cell_next hq6 (HA.out 5 _ rfl)⟩ (fun hS => ?_)
        refine' wpAnyZ_take (i := 0) (oi := _) (v := _) rfl (by kernel_rfl) (by kernel_rfl) (by kernel_rfl) (by kernel_rfl) (fun _ _ _ h => h) (Or.inl ⟨by rfl, ?hy0⟩) hS ?rest0
        case hy0 => (intro w hSw; (try dsimp only at hSw); go_simp; (try with_reducible rfl))
        try simp only [Act.put, List.setIfInBounds_toArray, List.set_cons_zero, List.set_cons_succ]
        refine' wpAnyZ_take (i := 1) (oi := _) (v := _) rfl (by kernel_rfl) (by kernel_rfl) (by kernel_rfl) (by kernel_rfl) (fun _ _ _ h => h) (Or.inl ⟨by rfl, ?hy1⟩) hS ?rest1
        case hy1 => (intro w hSw; (try dsimp only at hSw); go_simp; (try with_reducible rfl))
        try simp only [Act.put, List.setIfInBounds_toArray, List.set_cons_zero, List.set_cons_succ]
        refine' wpAnyZ_take (i := 2) (oi := _) (v := _) rfl (by kernel_rfl) (by kernel_rfl) (by kernel_rfl) (by kernel_rfl) (fun _ _ _ h => h) (Or.inl ⟨by rfl, ?hy2⟩) hS ?rest2
        case hy2 => (intro w hSw; (try dsimp only at hSw); go_simp; (try with_reducible rfl))
        try simp only [Act.put, List.setIfInBounds_toArray, List.set_cons_zero, List.set_cons_succ]
        refine' wpAnyZ_take (i := 3) (oi := _) (v := _) rfl (by kernel_rfl) (by kernel_rfl) (by kernel_rfl) (by kernel_rfl) (fun _ _ _ h => h) (Or.inl ⟨by rfl, ?hy3⟩) hS ?rest3
        case hy3 => (intro w hSw; (try dsimp only at hSw); go_simp; (try with_reducible rfl))
        try simp only [Act.put, List.setIfInBounds_toArray, List.set_cons_zero, List.set_cons_succ]
        refine' wpAnyZ_take (i := 4) (oi := _) (v := _) rfl (by kernel_rfl) (by kernel_rfl) (by kernel_rfl) (by kernel_rfl) (fun _ _ _ h => h) (Or.inl ⟨by rfl, ?hy4⟩) hS ?rest4
        case hy4 => (intro w hSw; (try dsimp only at hSw); go_simp; (try with_reducible rfl))
        try simp only [Act.put, List.setIfInBounds_toArray, List.set_cons_zero, List.set_cons_succ]
        refine' wpAnyZ_take (i := 5) (oi := _) (v := _) rfl (by kernel_rfl) (by kernel_rfl) (by kernel_rfl) (by kernel_rfl) (fun _ _ _ h => h) (Or.inl ⟨by rfl, ?hy5⟩) hS ?rest5
        case hy5 => (intro w hSw; (try dsimp only at hSw); go_simp; (try with_reducible rfl))
        try simp only [Act.put, List.setIfInBounds_toArray, List.set_cons_zero, List.set_cons_succ]
        refine' wpAnyZ_take (i := 6) (oi := _) (v := _) rfl (by kernel_rfl) (by kernel_rfl) (by kernel_rfl) (by kernel_rfl) (fun _ _ _ h => h) (Or.inl ⟨by rfl, ?hy6⟩) hS ?rest6
        case hy6 => (intro w hSw; (try dsimp only at hSw); go_simp; (try with_reducible rfl))
        try simp only [Act.put, List.setIfInBounds_toArray, List.set_cons_zero, List.set_cons_succ]
        refine' wpAnyZ_take (i := 7) (oi := _) (v := _) rfl (by kernel_rfl) (by kernel_rfl) (by kernel_rfl) (by kernel_rfl) (fun _ _ _ h => h) (Or.inl ⟨by rfl, ?hy7⟩) hS ?rest7
        case hy7 => (intro w hSw; (try dsimp only at hSw); go_simp; (try with_reducible rfl))
        try simp only [Act.put, List.setIfInBounds_toArray, List.set_cons_zero, List.set_cons_succ]
        have L0 := Lib.hid (cell_next hq6 Y10.out)
        have L1 := Lib.hid (cell_next hq6 (HA.out 0 _ rfl))
        have L2 := Lib.hid (cell_next hq6 (HA.out 1 _ rfl))
        have L3 := Lib.hid (cell_next hq6 (HA.out 2 _ rfl))
        have L4 := Lib.hid (cell_next hq6 (HA.out 3 _ rfl))
        have L5 := Lib.hid (cell_next hq6 (HA.out 4 _ rfl))
        have L6 := Lib.hid (cell_next hq6 (HA.out 5 _ rfl))
        refine' wpAnyZ_step (i := 8) (o := _) rfl (by kernel_rfl) (fun K hK => ?_)
        go_simp
        go_at_call 139
        refine (copyExpr_any d ar.x _ _ HOKX.out (HXX6.out.next hq6) HLX.out).mono ?_
        rintro e w7 ⟨kv7, rfl, hok7, hxk7, hb7⟩
        obtain ⟨ka7, kc7, rfl, -, -⟩ := hxk7.form
        unfold exV
        have HXK7 := Lib.hid hxk7
        have HB7 := Lib.hid (below_then hb7 hq6)
        have FY7 := Lib.hid (frozen_next HB7.out Y10.out FY10.out)
        have HOWN7 := Lib.hid (ownsBelow HOWN6.out HB7.out)
        replace L0 := Lib.hid (cell_next hb7 L0.out)
        replace L1 := Lib.hid (cell_next hb7 L1.out)
        replace L2 := Lib.hid (cell_next hb7 L2.out)
        replace L3 := Lib.hid (cell_next hb7 L3.out)
        replace L4 := Lib.hid (cell_next hb7 L4.out)
        replace L5 := Lib.hid (cell_next hb7 L5.out)
        replace L6 := Lib.hid (cell_next hb7 L6.out)
        have hbw := boxed w7 (.cells #[.bool ar.ref, .string ar.nm, .int .i64 ar.x.op, .int .i64 ar.x.n, .string ar.x.nm, .slice ka7 ar.x.ks.length kc7] 49)
        have M0 := Lib.hid (cell_next hbw L0.out)
        have M1 := Lib.hid (cell_next hbw L1.out)
        have M2 := Lib.hid (cell_next hbw L2.out)
        have M3 := Lib.hid (cell_next hbw L3.out)
        have M4 := Lib.hid (cell_next hbw L4.out)
        have M5 := Lib.hid (cell_next hbw L5.out)
        have M6 := Lib.hid (cell_next hbw L6.out)
        have hs7 := HB7.out.size
        have hs6 := HB6.out.size
        have HB77 := Lib.hid hb7
        clear hxk7 hb7
        refine hK _ _ (fun _ => ⟨L0.out, L1.out, L2.out, L3.out, L4.out, L5.out, L6.out⟩) ?_
        clear hK K
        have hS : w7.cell? ⟨Y, 10, none⟩ = some (.slice va5 q vc5) ∧ w7.cell? ⟨w5.heap.size, 0, none⟩ = some (.bool ar.ref) ∧ w7.cell? ⟨w5.heap.size, 1, none⟩ = some (.string ar.nm) ∧ w7.cell? ⟨w5.heap.size, 2, none⟩ = some (.int .i64 ar.x.op) ∧ w7.cell? ⟨w5.heap.size, 3, none⟩ = some (.int .i64 ar.x.n) ∧ w7.cell? ⟨w5.heap.size, 4, none⟩ = some (.string ar.x.nm) ∧ w7.cell? ⟨w5.heap.size, 5, none⟩ = some (.slice xa ar.x.ks.length xc) := ⟨L0.out, L1.out, L2.out, L3.out, L4.out, L5.out, L6.out⟩
        try simp only [Act.put, List.setIfInBounds_toArray, List.set_cons_zero, List.set_cons_succ]
        refine' wpAnyZ_take (i := 9) (oi := _) (v := _) rfl (by kernel_rfl) (by kernel_rfl) (by kernel_rfl) (by kernel_rfl) (fun _ _ _ h => h) (Or.inl ⟨by rfl, ?hy9⟩) hS ?rest9
        case hy9 => (intro w hSw; (try dsimp only at hSw); go_simp; (try with_reducible rfl))
        try simp only [Act.put, List.setIfInBounds_toArray, List.set_cons_zero, List.set_cons_succ]
        refine' wpAnyZ_step (i := 10) (o := _) rfl (by kernel_rfl) (fun K hK => ?_)
        go_simp
        refine hK _ _ (fun _ => ⟨M0.out, M1.out, M2.out, M3.out, M4.out, M5.out, M6.out⟩) ?_
        clear hK K
        try simp only [Act.put, List.setIfInBounds_toArray, List.set_cons_zero, List.set_cons_succ]
        refine' wpAnyZ_step (i := 11) (o := _) rfl (by kernel_rfl) (fun K hK => ?_)
        refine step_append_lies _ (by rfl) (.tmp 31) (.tmp 40) _ (by rfl) wc.heap.size 49 i1 (.agg #[.bool false, .string ⟨#[]⟩, .int .i64 0, .int .i64 0, .string ⟨#[]⟩, .slice none 0 0]) 6 80 Try.underlying38 hi' hz0' hz1' hz2' rfl (by omega) (.slice va5 q vc5) q rows5.flatten (by rfl) (HOWN7.out.alloc _)
          ⟨w7.heap.size, 0, none⟩ 1 1 [.bool ar.ref, .string ar.nm, .int .i64 ar.x.op, .int .i64 ar.x.n, .string ar.x.nm, .slice ka7 ar.x.ks.length kc7] (by rfl) (by rfl) (World.news_of_block (cs := #[.bool ar.ref, .string ar.nm, .int .i64 ar.x.op, .int .i64 ar.x.n, .string ar.x.nm, .slice ka7 ar.x.ks.length kc7]) (t := 49) (fr := (0, 0)) (heap_alloc_new w7 _)) (by simp [Value.oneCell'])
          (by omega) (by unfold maxLen; omega) (by omega) (by simp; omega) (w7.heap.size + 1) (by simp) ?_
        intro g8 cap8 w8 hown8 hg8 hat8 hlt8
        have hYB : Y < wc.heap.size := hY1
        have q10 := (hg8.cell_far ⟨Y, 10, none⟩ (by simp; omega) (HG.out.own _ hYB)).trans M0.out
        have qf10 := (hg8.frozen_far ⟨Y, 10, none⟩ (by simp; omega) (HG.out.own _ hYB)).trans (frozen_next hbw L0.out FY7.out)
        have hn5 : some w5.heap.size ≠ (Value.slice va5 q vc5).ownBlock := fun e => by have h := (HG.out.acc.own.lt _ e.symm).2; omega
        have b0 := (hg8.cell_far ⟨w5.heap.size, 0, none⟩ (by simp; omega) hn5).trans M1.out
        have b1 := (hg8.cell_far ⟨w5.heap.size, 1, none⟩ (by simp; omega) hn5).trans M2.out
        have b2 := (hg8.cell_far ⟨w5.heap.size, 2, none⟩ (by simp; omega) hn5).trans M3.out
        have b3 := (hg8.cell_far ⟨w5.heap.size, 3, none⟩ (by simp; omega) hn5).trans M4.out
        have b4 := (hg8.cell_far ⟨w5.heap.size, 4, none⟩ (by simp; omega) hn5).trans M5.out
        have b5 := (hg8.cell_far ⟨w5.heap.size, 5, none⟩ (by simp; omega) hn5).trans M6.out
        refine hK _ _ (fun _ => ⟨q10, b0, b1, b2, b3, b4, b5⟩) ?_
        clear hK K
        try simp only [Act.put, List.setIfInBounds_toArray, List.set_cons_zero, List.set_cons_succ]
        refine' wpAnyZ_step (i := 12) (o := _) rfl (by kernel_rfl) (fun K hK => ?_)
        go_simp
        refine hK _ _ (fun _ => ⟨q10, b0, b1, b2, b3, b4, b5⟩) ?_
        clear hK K b0 b1 b2 b3 b4 b5
        try simp only [Act.put, List.setIfInBounds_toArray, List.set_cons_zero, List.set_cons_succ]
        refine' wpAnyZ_step (i := 13) (o := _) rfl (by kernel_rfl) (fun K hK => ?_)
        go_simp
        refine hK _ _ (fun h => absurd rfl h) ?_
        clear hK K
        try simp only [Act.put, List.setIfInBounds_toArray, List.set_cons_zero, List.set_cons_succ]
        refine wpAnyZ_done (by kernel_rfl) ?_ _
        go_wp2_with fail
        go_roundw
        case rel =>
          have hch : Below w5.heap.size w5 (w7.alloc (.cells #[.bool ar.ref, .string ar.nm, .int .i64 ar.x.op, .int .i64 ar.x.n, .string ar.x.nm, .slice ka7 ar.x.ks.length kc7] 49)) := (HB6.out.trans (HB7.out.mono HB6.out.size)).trans (hbw.mono (Nat.le_trans HB6.out.size HB7.out.size))
          refine ⟨q + 1, .slice (some ⟨g8, 0, none⟩) (q + 1) cap8, rows5 ++ [[.bool ar.ref, .string ar.nm, .int .i64 ar.x.op, .int .i64 ar.x.n, .string ar.x.nm, .slice ka7 ar.x.ks.length kc7]], by omega, by go_num, ?_, ?_, ?_, ?_⟩
          · exact Grow.below (B := wc.heap.size) (Y := Y) (slot := 10) HBEL5.out hch hg8 (by omega) (by omega) HG.out.own
          · have := hg8.size
            have := hch.size
            simp only [World.size_setCell, World.size_alloc] at *
            omega
          · refine Cs.le_trans (D := only (fun g => g < wc.heap.size ∧ g ≠ Y) (cw w5)) (fun g j u h => ⟨h.1, HKEEP.out g j u h⟩) (Cs.le_trans (grow_keep hch hg8 HG.out.own) only_out)
          · have hst8 := HG.out.step (v4 := .slice (some ⟨g8, 0, none⟩) (q + 1) cap8) (by simp [stCells]) (ArQ.mono d) (HB6.out.trans (hq6.mono HB6.out.size)) HB77.out hbw hg8 (fun z hz => by have hzz : g8 = z := by { simpa [Value.ownBlock] using hz }; subst hzz; exact hat8.imp id fun h => by omega) rfl ⟨_, rfl, HNMX.out, HOKX.out, HXK7.out⟩ (by rw [HQA.out]; exact hown8)
            rw [List.take_succ_eq_append_getElem hqt, har.out]
            exact hst8
        case measure => simp [intOf]; omega
      · have hqt' : ¬ (q : Int) < (s.args.length : Int) := by omega
        have hqe : q = s.args.length := by omega
        subst hqe
        rw [List.take_length] at HG
        have har5 := HG.out.acc.arC (by omega)
        have HAR5 := Lib.hid har5
        have hY5 : BoxAt w5 Y (stCells s (.slice ka2 s.x.ks.length kc2) (.slice la2 s.labels.length lc2) (.slice va5 s.args.length vc5) (.slice none 0 0) (.slice none 0 0)) := HG.out.y
        have y0 := hY5 0 _ rfl
        have y1 := hY5 1 _ rfl
        have y2 := hY5 2 _ rfl
        have y3 := hY5 3 _ rfl
        have y4 := hY5 4 _ rfl
        have y5 := hY5 5 _ rfl
        have y6 := hY5 6 _ rfl
        have y7 := hY5 7 _ rfl
        have y8 := hY5 8 _ rfl
        have y9 := hY5 9 _ rfl
        have y10 := hY5 10 _ rfl
        have y11 := hY5 11 _ rfl
        have y12 := hY5 12 _ rfl
        obtain ⟨r0, hr0⟩ := HG.out.r 0 (by omega)
        have f0 := HG.out.fr 0
        obtain ⟨r1, hr1⟩ := HG.out.r 1 (by omega)
        have f1 := HG.out.fr 1
        obtain ⟨r2, hr2⟩ := HG.out.r 2 (by omega)
        have f2 := HG.out.fr 2
        obtain ⟨r3, hr3⟩ := HG.out.r 3 (by omega)
        have f3 := HG.out.fr 3
        obtain ⟨r4, hr4⟩ := HG.out.r 4 (by omega)
        have f4 := HG.out.fr 4
        obtain ⟨r5, hr5⟩ := HG.out.r 5 (by omega)
        have f5 := HG.out.fr 5
        obtain ⟨r6, hr6⟩ := HG.out.r 6 (by omega)
        have f6 := HG.out.fr 6
        obtain ⟨r7, hr7⟩ := HG.out.r 7 (by omega)
        have f7 := HG.out.fr 7
        obtain ⟨r8, hr8⟩ := HG.out.r 8 (by omega)
        have f8 := HG.out.fr 8
        obtain ⟨r9, hr9⟩ := HG.out.r 9 (by omega)
        have f9 := HG.out.fr 9
        obtain ⟨r10, hr10⟩ := HG.out.r 10 (by omega)
        have f10 := HG.out.fr 10
        obtain ⟨r11, hr11⟩ := HG.out.r 11 (by omega)
        have f11 := HG.out.fr 11
        obtain ⟨r12, hr12⟩ := HG.out.r 12 (by omega)
        have f12 := HG.out.fr 12
        have hRB : BoxAt w5 (w.heap.size + 1) [r0, r1, r2, r3, r4, r5, r6, r7, r8, r9, r10, r11, r12] := fun j u hu => by
          match j, hu with
          | 0, hu => cases hu; exact hr0
          | 1, hu => cases hu; exact hr1
          | 2, hu => cases hu; exact hr2
          | 3, hu => cases hu; exact hr3
          | 4, hu => cases hu; exact hr4
          | 5, hu => cases hu; exact hr5
          | 6, hu => cases hu; exact hr6
          | 7, hu => cases hu; exact hr7
          | 8, hu => cases hu; exact hr8
          | 9, hu => cases hu; exact hr9
          | 10, hu => cases hu; exact hr10
          | 11, hu => cases hu; exact hr11
          | 12, hu => cases hu; exact hr12
        have HRB := Lib.hid hRB
        clear har5 hY5 hRB hkeep hG hbel5
        go_wp2_with fail
        have HF : BoxAt (((((((((((((w5.setCell ⟨w.heap.size + 1, 0, none⟩ (.int .i64 s.id)).setCell ⟨w.heap.size + 1, 1, none⟩ (.int .i64 s.kind)).setCell ⟨w.heap.size + 1, 2, none⟩ (.slice la2 s.labels.length lc2)).setCell ⟨w.heap.size + 1, 3, none⟩ (.string s.nm)).setCell ⟨w.heap.size + 1, 4, none⟩ (.string s.proc)).setCell ⟨w.heap.size + 1, 5, none⟩ (.int .i64 s.x.op)).setCell ⟨w.heap.size + 1, 6, none⟩ (.int .i64 s.x.n)).setCell ⟨w.heap.size + 1, 7, none⟩ (.string s.x.nm)).setCell ⟨w.heap.size + 1, 8, none⟩ (.slice ka2 s.x.ks.length kc2)).setCell ⟨w.heap.size + 1, 9, none⟩ (.bool s.has)).setCell ⟨w.heap.size + 1, 10, none⟩ (.slice va5 s.args.length vc5)).setCell ⟨w.heap.size + 1, 11, none⟩ (.slice none 0 0)).setCell ⟨w.heap.size + 1, 12, none⟩ (.slice none 0 0)) (w.heap.size + 1) [.int .i64 s.id, .int .i64 s.kind, .slice la2 s.labels.length lc2, .string s.nm, .string s.proc, .int .i64 s.x.op, .int .i64 s.x.n, .string s.x.nm, .slice ka2 s.x.ks.length kc2, .bool s.has, .slice va5 s.args.length vc5, .slice none 0 0, .slice none 0 0] := pbox13 HRB.out
        have q0 := HF 0 _ rfl
        have q1 := HF 1 _ rfl
        have q2 := HF 2 _ rfl
        have q3 := HF 3 _ rfl
        have q4 := HF 4 _ rfl
        have q5 := HF 5 _ rfl
        have q6 := HF 6 _ rfl
        have q7 := HF 7 _ rfl
        have q8 := HF 8 _ rfl
        have q9 := HF 9 _ rfl
        have q10 := HF 10 _ rfl
        have q11 := HF 11 _ rfl
        have q12 := HF 12 _ rfl
        have hle : Cs.le (only (fun g => w.heap.size + 1 + 1 ≤ g) (cw w5)) (nwC w.heap.size (((((((((((((w5.setCell ⟨w.heap.size + 1, 0, none⟩ (.int .i64 s.id)).setCell ⟨w.heap.size + 1, 1, none⟩ (.int .i64 s.kind)).setCell ⟨w.heap.size + 1, 2, none⟩ (.slice la2 s.labels.length lc2)).setCell ⟨w.heap.size + 1, 3, none⟩ (.string s.nm)).setCell ⟨w.heap.size + 1, 4, none⟩ (.string s.proc)).setCell ⟨w.heap.size + 1, 5, none⟩ (.int .i64 s.x.op)).setCell ⟨w.heap.size + 1, 6, none⟩ (.int .i64 s.x.n)).setCell ⟨w.heap.size + 1, 7, none⟩ (.string s.x.nm)).setCell ⟨w.heap.size + 1, 8, none⟩ (.slice ka2 s.x.ks.length kc2)).setCell ⟨w.heap.size + 1, 9, none⟩ (.bool s.has)).setCell ⟨w.heap.size + 1, 10, none⟩ (.slice va5 s.args.length vc5)).setCell ⟨w.heap.size + 1, 11, none⟩ (.slice none 0 0)).setCell ⟨w.heap.size + 1, 12, none⟩ (.slice none 0 0))) := Cs.le_trans (only13 (by omega)) (only_le (fun g (h : w.heap.size + 1 + 1 ≤ g) => (by omega : w.heap.size ≤ g)) (fun _ _ _ h => h))
        have hold : Cs.le (only (fun g => w.heap.size + 1 + 1 ≤ g ∧ g ≠ Y) (cw wc)) (only (fun g => w.heap.size + 1 + 1 ≤ g) (cw w5)) := fun g j u h => ⟨h.1.1, HKEEP.out g j u ⟨⟨cell_lt h.2, h.1.2⟩, h.2⟩⟩
        refine bodyPost_ret (v := .agg #[.int .i64 s.id, .int .i64 s.kind, .slice la2 s.labels.length lc2, .string s.nm, .string s.proc, .int .i64 s.x.op, .int .i64 s.x.n, .string s.x.nm, .slice ka2 s.x.ks.length kc2, .bool s.has, .slice va5 s.args.length vc5, .slice none 0 0, .slice none 0 0]) (by simp [results, Try.results119, go_sem, q0, q1, q2, q3, q4, q5, q6, q7, q8, q9, q10, q11, q12]) rfl ⟨ka2, kc2, la2, lc2, va5, vc5, rfl, ExC.mono (Cs.le_trans hold hle) HKV.out, StrC.mono (Cs.le_trans hold hle) HLV.out, SlAt.imp HAR5.out (fun _ _ _ _ => ArAt.mono (Cs.le_trans (only_le (fun g (h : wc.heap.size ≤ g) => (by omega : w.heap.size + 1 + 1 ≤ g)) (fun _ _ _ h => h)) hle)), below13 HBEL5.out (by omega)⟩
end Go.Proofs.Ytghlmengcidmdaa.Tr
