/- Parts of CopyZ, RowW: walks and plain laws that later texts use. Conditions: as each statement says. -/
import Derived.Test.YtghlmengcidmdaaTw0
import Derived.Test.YtghlmengcidmdaaTw1
import Derived.Test.YtghlmengcidmdaaTw2
import Derived.Test.YtghlmengcidmdaaTw3
import Derived.Test.YtghlmengcidmdaaTw4
import Derived.Test.YtghlmengcidmdaaTw5
import Derived.Test.YtghlmengcidmdaaTw6
import Derived.Test.YtghlmengcidmdaaTw7
import Derived.Test.YtghlmengcidmdaaTw8
import Derived.Test.YtghlmengcidmdaaTw9
import Derived.Test.YtghlmengcidmdaaTw10
import Derived.Test.YtghlmengcidmdaaTw11
import Derived.Test.YtghlmengcidmdaaTw12
import Derived.Test.YtghlmengcidmdaaTw13
import Derived.Test.YtghlmengcidmdaaTw14
import Derived.Test.YtghlmengcidmdaaTw17
import Derived.Laws.StructEq
import Derived.Deep.RegionHeld3
import Derived.Deep.QuietTactic
import Derived.BigQuiet
import Derived.Deep.Slices
import Derived.Deep.Fields
import Derived.Lib.SmallJoins
import Derived.SliceStrings
import Derived.ChangeSlices
import Derived.IntWalk
import Derived.Deep.RegionLaw
import Derived.Deep.DeepCutAuto
import Derived.Deep.CutBlock
import Derived.WalkKit
import Derived.Test.YtghlmengcidmdaaRows
import Derived.WalkSpells
import Derived.Lib.Hide
import Derived.Below
import Derived.Laws.BitsAllLaws
import Derived.OwnWalk
import Derived.OneCell
import Derived.Deep.AppendLies
import Derived.Deep.RegionWith
import Derived.Laws.Cover3
import Derived.StillTailTactics
import Derived.RegionTactic
import Derived.Maps.Range
import Derived.Outline
import Derived.Deep.Upon
import Derived.Maps.AppendAt
import Derived.Laws.OwnMore
import Derived.OrdersHeld
import Derived.WalkSmall
import Derived.Deep.MidRow
section
/- What Copy of the reference makes, each row in a stretch of its own. Conditions: the program lies in memory and is light. -/
namespace Go.Proofs.Ytghlmengcidmdaa.Tr
open Go.RowKit Go.Proofs.Ytghlmengcidmdaa.Lx Go.Proofs.Ytghlmengcidmdaa.Wd
set_option maxHeartbeats 1000000 in
theorem copyZ_row (d : Nat) (p : Pr) (gv pv : Value) (w : World) (hp : PrC (cw w) d gv pv p) (hwp : wtPr p ≤ 20000) : Calls Try.prog 43 #[.agg #[gv, pv]] w (ProgZ (d + 1) (putPr tneg p) w) := by
  obtain ⟨ga, gc, rfl, -, -⟩ := hp.1.form
  obtain ⟨pa, pc, rfl, hl1, hl2⟩ := hp.2.form
  have HP := Lib.hid hp
  have HWP := Lib.hid hwp
  clear hp hwp
  go_enter Try.func43, Try.ntmps43
  go_upto_region 1 with fail
  refine cut_world (fun wx => Below w.heap.size w wx ∧ w.heap.size + 1 < wx.heap.size ∧ BoxAt wx w.heap.size [.slice ga p.globals.length gc, .slice pa p.procs.length pc] ∧ BoxAt wx (w.heap.size + 1) [.slice none 0 0, .slice none 0 0] ∧ Free wx (w.heap.size + 1)) ⟨?_, by simp, ?_, ?_, ?_⟩ ?_
  · exact (boxed w _).alloc (by simp) _
  · exact (box_new w #[.slice ga p.globals.length gc, .slice pa p.procs.length pc] 25).next (boxed _ _)
  · exact box_two w _ #[.slice none 0 0, .slice none 0 0] 25
  · exact fun j => by simp [go_sem]
  rintro w1 ⟨hb1, hz1, hx1, hr1, hf1⟩
  have HB1 := Lib.hid hb1
  have HR1 := Lib.hid hr1
  have HF1 := Lib.hid hf1
  have HP1 := Lib.hid (PrC.mono (cw_next hb1) HP.out)
  have e0 := hx1 0 _ rfl
  have e1 := hx1 1 _ rfl
  clear hb1 hx1 hr1 hf1
  go_wp2_with fail
  have hput := putZ_row 1 tneg ⟨by unfold InI; decide, by unfold InI; decide, by decide⟩ (by unfold InI; decide) (by unfold InI; decide) (by decide) (by decide) (LightS.of (by decide)) none none none none none 0 0 0 0 0 d p _ _ w1 HP1.out HWP.out ⟨StrC.none _, ExC.none _ _, SlAt.nil, SlAt.nil, SlAt.nil⟩
  unfold stCells at hput
  refine hput.mono ?_
  rintro e w2 ⟨gv, pv, B, rows, Lo, W, rfl, hB2, hg2, hgl2, hacc2, hz2, hb2⟩
  obtain ⟨ga2, gc2, rfl⟩ := ownsForm hg2.1
  obtain ⟨pa2, pc2, rfl⟩ := ownsForm hacc2.own
  generalize (putPr tneg p).globals.length = n1 at *
  generalize (putPr tneg p).procs.length = n2 at *
  have HG2 := Lib.hid hg2
  have HACC2 := Lib.hid hacc2
  have HZ2 := Lib.hid hz2
  have HGL2 := Lib.hid hgl2
  have HBB2 := Lib.hid hB2
  have HB2 := Lib.hid hb2
  have r0 := HR1.out.next hb2 0 _ rfl
  have r1 := HR1.out.next hb2 1 _ rfl
  have f0 := HF1.out.next hz1 hb2 0
  have f1 := HF1.out.next hz1 hb2 1
  clear hg2 hgl2 hz2 hacc2 hB2 hb2 hput e0 e1
  go_wp2_with fail
  have q0 : ((w2.setCell ⟨w.heap.size + 1, 0, none⟩ (.slice ga2 n1 gc2)).setCell ⟨w.heap.size + 1, 1, none⟩ (.slice pa2 n2 pc2)).cell? ⟨w.heap.size + 1, 0, none⟩ = some (.slice ga2 n1 gc2) := cell_set_ne (cell_set r0) (by decide)
  have q1 : ((w2.setCell ⟨w.heap.size + 1, 0, none⟩ (.slice ga2 n1 gc2)).setCell ⟨w.heap.size + 1, 1, none⟩ (.slice pa2 n2 pc2)).cell? ⟨w.heap.size + 1, 1, none⟩ = some (.slice pa2 n2 pc2) := cell_set (cell_set_ne r1 (by decide))
  refine bodyPost_ret (v := .agg #[.slice ga2 n1 gc2, .slice pa2 n2 pc2]) (by simp [results, Try.results43, go_sem, q0, q1]) rfl ⟨.slice ga2 n1 gc2, .slice pa2 n2 pc2, B, rows, Lo, W, rfl, ?_, ?_, HGL2.out, ?_, ?_, ?_⟩
  · have := HBB2.out; omega
  · have hs := HB1.out.size
    have hne : ∀ g, (Value.slice ga2 n1 gc2).ownBlock = some g → g ≠ w.heap.size + 1 := fun g hg => by have := (HG2.out.lt g hg).1; omega
    exact rows_same (rows_same (HG2.out.mono (by omega)) fun g hg => set_block (hne g hg)) fun g hg => set_block (hne g hg)
  · have hs := HBB2.out
    exact (HACC2.out.set (PcQ.mono _) (b := w.heap.size + 1) (by omega) _).set (PcQ.mono _) (b := w.heap.size + 1) (by omega) _
  · have hs := HBB2.out
    exact (HZ2.out.set (by omega) _).set (by omega) _
  · exact ((HB1.out.trans (HB2.out.mono HB1.out.size)).setCell (p := ⟨_, _, none⟩) (by simp) _).setCell (p := ⟨_, _, none⟩) (by simp) _
end Go.Proofs.Ytghlmengcidmdaa.Tr
end
section
/- What row of flat's Sheet does: it lays a row's statements. Conditions: they lie in memory. -/
namespace Go.Proofs.Ytghlmengcidmdaa.Tr
open Go.RowKit Go.Proofs.Ytghlmengcidmdaa.Lx Go.Proofs.Ytghlmengcidmdaa.Wd
theorem RowF.set {B d : Nat} {w : World} {v : Value} {l : List Fi} {rows : List (List Value)} (h : RowF B d w v l rows) {Y j : Nat} {u : Value} (hY : B ≤ Y) (hn : v.ownBlock ≠ some Y) : RowF B d (w.setCell ⟨Y, j, none⟩ u) v l rows :=
  ⟨h.len, ownsRow_setCell_other h.own hn u, h.wide, fun i h1 h2 => FiQ.mono (only_set (fun e => by omega)) (h.each i h1 h2)⟩
theorem setCells_below {B g : Nat} : ∀ (vs : List Value) (o : Nat) {w0 w : World}, Below B w0 w → B ≤ g → Below B w0 (w.setCells g o vs)
  | [], _, _, _, h, _ => h
  | _ :: r, o, _, _, h, hg => setCells_below r (o + 1) (h.setCell (p := ⟨g, o, none⟩) hg _) hg
theorem setCells_size {g : Nat} : ∀ (vs : List Value) (o : Nat) (w : World), (w.setCells g o vs).heap.size = w.heap.size
  | [], _, _ => rfl
  | _ :: r, o, w => by rw [World.setCells, setCells_size r, World.size_setCell]
theorem setCells_free {g b : Nat} {vs : List Value} {o : Nat} {w : World} (h : Free w g) : Free (w.setCells b o vs) g := fun j => by rw [World.frozen?_setCells]; exact h j
theorem box_there {w : World} {g n : Nat} {cs : List Value} (h : BoxAt w g cs) (hf : Free w g) (hn : n ≤ cs.length) : w.there g 0 n := fun j hj => by
  rw [Nat.zero_add]
  exact ⟨by rw [h j cs[j] (List.getElem?_eq_getElem (by omega))]; rfl, hf j⟩
theorem box_over {w : World} {g : Nat} {old xs rest : List Value} (h : BoxAt w g (old ++ rest)) (hf : Free w g) (hl : old.length = xs.length) : BoxAt (w.setCells g 0 xs) g (xs ++ rest) := fun j u hu => by
  have ht : w.there g 0 xs.length := box_there h hf (by simp; omega)
  by_cases hj : j < xs.length
  · rw [List.getElem?_append_left hj] at hu
    have := World.rangeAt_setCells_same w g 0 xs ht j u hu
    rwa [Nat.zero_add] at this
  · rw [World.cell?_setCells_out g xs 0 w ⟨g, j, none⟩ (fun _ _ => .inr (by show 0 + xs.length ≤ j; omega))]
    rw [List.getElem?_append_right (by omega)] at hu
    refine h j u ?_
    rw [List.getElem?_append_right (by omega), hl]
    exact hu
theorem free_grownF {w w' : World} {row : Option Nat} {g : Nat} (hg : w.grownBy w' row) (hlt : g < w.heap.size) (hne : some g ≠ row) (h : Free w g) : Free w' g := fun j => (hg.frozen_far ⟨g, j, none⟩ hlt hne).trans (h j)
/-- What row leaves. -/
def Rowed (B D Y : Nat) (gv pv lov hiv v : Value) (l : List Fi) (w : World) (e : Ending) (w' : World) : Prop :=
  ∃ v' rows, e = .returned (.tuple #[]) ∧ ShAt B D w' Y gv pv lov hiv v' l rows ∧ Kp Y w v w' v'
def Ar5.ok (a : Ar5) : Prop := InI a.proc ∧ InI a.up ∧ InI a.next ∧ InI a.loop
set_option linter.unusedSimpArgs false
set_option maxHeartbeats 16000000 in
set_option maxRecDepth 100000 in
theorem row_any (B D Y : Nat) (gv pv lov hiv : Value) : ∀ (d : Nat) (l : List St) (lv v : Value) (a : Ar5) (items : List Fi) (rows : List (List Value)) (w : World), d ≤ D → StC (lowC B w) d lv l → ShAt B D w Y gv pv lov hiv v items rows → a.ok → items.length + cntL l ≤ 1000000 →
    Calls Try.prog 116 #[.pointer (some ⟨Y, 0, none⟩), lv, .agg #[.int .i64 0, .int .i64 0, .slice none 0 0, .string ⟨#[]⟩, .string ⟨#[]⟩, .int .i64 0, .int .i64 0, .string ⟨#[]⟩, .slice none 0 0, .bool false, .slice none 0 0, .slice none 0 0, .slice none 0 0, .int .i64 a.proc, .int .i64 a.up, .int .i64 a.next, .int .i64 a.loop]] w (Rowed B D Y gv pv lov hiv v (shL l a items) w) := by
  intro d
  induction d with
  | zero => intro l lv v a items rows w _ h; exact h.elim
  | succ d ih =>
    intro l lv v a items rows w hdD hl hsh hak hmany
    have IH := Lib.hid ih
    obtain ⟨iF, hiF, hzF0, hzF1, hzF2⟩ := info_parts infoFi
    obtain ⟨al, cl, rfl, hl1, hl2⟩ := hl.form
    have hll : l.length ≤ 9223372036854775807 := Nat.le_trans hl1 hl2
    have HAK := Lib.hid hak
    have HMANY := Lib.hid hmany
    have hYl : Y < w.heap.size := cell_lt (hsh.box 0 _ rfl)
    have hne0 : w.heap.size ≠ Y := by omega
    have hvA : v.ownBlock ≠ some w.heap.size := fun e => by have := (hsh.row.own.lt _ e).2; omega
    have HVA := Lib.hid hvA
    have hYB := hsh.yb
    have hBW := hsh.bw
    clear ih hak hmany hl1 hl2 hvA
    go_enter Try.func116, Try.ntmps116
    go_upto_region 1 with fail
    refine cut_world (fun wx => Below w.heap.size w wx ∧ w.heap.size < wx.heap.size ∧ BoxAt wx w.heap.size [.int .i64 0, .int .i64 0, .slice none 0 0, .string ⟨#[]⟩, .string ⟨#[]⟩, .int .i64 0, .int .i64 0, .string ⟨#[]⟩, .slice none 0 0, .bool false, .slice none 0 0, .slice none 0 0, .slice none 0 0, .int .i64 a.proc, .int .i64 a.up, .int .i64 a.next, .int .i64 a.loop]) ⟨boxed w _, by simp, box_new w #[.int .i64 0, .int .i64 0, .slice none 0 0, .string ⟨#[]⟩, .string ⟨#[]⟩, .int .i64 0, .int .i64 0, .string ⟨#[]⟩, .slice none 0 0, .bool false, .slice none 0 0, .slice none 0 0, .slice none 0 0, .int .i64 a.proc, .int .i64 a.up, .int .i64 a.next, .int .i64 a.loop] 95⟩ ?_
    rintro w1 ⟨hb1, hz1, ha1⟩
    have HA1 := Lib.hid ha1
    have HSH1 := Lib.hid (hsh.next hb1)
    have HL1 := Lib.hid (StC.mono (low_next hb1) hl)
    have HB1 := Lib.hid hb1
    have HVO := Lib.hid (fun g (hg : v.ownBlock = some g) => (hsh.row.own.lt g hg))
    clear hb1 ha1 hsh hl
    go_wp2_with fail
    go_loopw [13] (fun i wr => ∃ (k : Nat) (vr : Value) (rowsr : List (List Value)), k ≤ l.length ∧ i = .int .i64 k ∧ ShAt B D wr Y gv pv lov hiv vr (shT l a k items) rowsr ∧ Kp Y w1 v wr vr) (fun i _ => (l.length - intOf i).toNat)
    case atStart => exact ⟨0, v, rows, by omega, rfl, by simp only [shT]; exact HSH1.out, Kp.refl _ _ _⟩
    case round =>
      obtain ⟨k, vr, rowsr, hk, rfl, hsh0, hk0⟩ := hrel
      obtain ⟨w0, hw0⟩ : ∃ x : World, x = wr := ⟨_, rfl⟩
      subst hw0
      have HSH0 := Lib.hid hsh0
      have HK0 := Lib.hid hk0
      have hlow0 := hk0.low hYB fun g hg => (HSH1.out.lo g hg)
      by_cases hlt : k < l.length
      · have hlt' : (k : Int) < (l.length : Int) := by omega
        have h0k : (0 : Int) ≤ (k : Int) := by omega
        obtain ⟨N, hN⟩ : ∃ n, Hid ((shT l a k items).length = n) := ⟨_, Lib.hid rfl⟩
        obtain ⟨SO, hSO⟩ : ∃ x, Hid (shT l a k items = x) := ⟨_, Lib.hid rfl⟩
        have hcnt := cnt_le hlt
        have hNl : N = items.length + cntL (l.take k) := by rw [← hN.out, shT_len]
        have hmany := HMANY.out
        obtain ⟨va, vc, hvr⟩ := ownsForm hsh0.row.own
        rw [hN.out] at hvr
        subst hvr
        have hne : l ≠ [] := by intro h; rw [h] at hlt; simp at hlt
        obtain ⟨g, off, cap', hv, _, hcells⟩ := SlAt.cells (StC.mono hlow0 HL1.out) hne
        simp only [Value.slice.injEq] at hv
        obtain ⟨rfl, -, rfl⟩ := hv
        have hst := hcells k hlt
        obtain ⟨s, hs⟩ : ∃ z, Hid (l[k] = z) := ⟨_, Lib.hid rfl⟩
        rw [hs.out] at hst hcnt
        obtain ⟨CT, hCT⟩ : ∃ n, Hid (cntS s = n) := ⟨_, Lib.hid rfl⟩
        rw [hCT.out] at hcnt
        have hNC : N + CT ≤ 1000000 := by omega
        have hct2 : cntS s ≤ 1000000 := by rw [hCT.out]; omega
        obtain ⟨lv, av, tv, ev, p0, p1, p2, p3, p4, ⟨kv, p5, p6, p7, p8, hok, hk1⟩, p9, p10, p11, p12, j1, j2, j3, j4, hl1, ha1, ht1, he1⟩ := hst
        obtain ⟨la, lc, rfl, -, -⟩ := hl1.form
        obtain ⟨aa, ac, rfl, -, -⟩ := ha1.form
        obtain ⟨ta, tc, rfl, -, -⟩ := ht1.form
        obtain ⟨ea, ec, rfl, -, -⟩ := he1.form
        obtain ⟨ka, kc, rfl, -, -⟩ := hk1.form
        have e0 : w0.cell? ⟨g, off + k * 13, none⟩ = _ := p0.2
        have e1 : w0.cell? ⟨g, off + k * 13 + 1, none⟩ = _ := p1.2
        have e2 : w0.cell? ⟨g, off + k * 13 + 2, none⟩ = _ := p2.2
        have e3 : w0.cell? ⟨g, off + k * 13 + 3, none⟩ = _ := p3.2
        have e4 : w0.cell? ⟨g, off + k * 13 + 4, none⟩ = _ := p4.2
        have e5 : w0.cell? ⟨g, off + k * 13 + 5, none⟩ = _ := p5.2
        have e6 : w0.cell? ⟨g, off + k * 13 + 6, none⟩ = _ := p6.2
        have e7 : w0.cell? ⟨g, off + k * 13 + 7, none⟩ = _ := p7.2
        have e8 : w0.cell? ⟨g, off + k * 13 + 8, none⟩ = _ := p8.2
        have e9 : w0.cell? ⟨g, off + k * 13 + 9, none⟩ = _ := p9.2
        have e10 : w0.cell? ⟨g, off + k * 13 + 10, none⟩ = _ := p10.2
        have e11 : w0.cell? ⟨g, off + k * 13 + 11, none⟩ = _ := p11.2
        have e12 : w0.cell? ⟨g, off + k * 13 + 12, none⟩ = _ := p12.2
        have HLO := Lib.hid hl1
        have HKI := Lib.hid hk1
        have HAR := Lib.hid ha1
        have HTH := Lib.hid ht1
        have HEL := Lib.hid he1
        have HOK := Lib.hid hok
        have HJ1 := Lib.hid j1
        have HJ2 := Lib.hid j2
        have HJ3 := Lib.hid j3
        have HJ4 := Lib.hid j4
        obtain ⟨LB, hLB⟩ : ∃ b, Hid (decide (k + 1 = l.length) = b) := ⟨_, Lib.hid rfl⟩
        obtain ⟨NX, hNX⟩ : ∃ n, Hid (nextOf s a LB N = n) := ⟨_, Lib.hid rfl⟩
        have hsz0 := hk0.size
        have hYl0 : Y < w0.heap.size := by omega
        have HNL := Lib.hid hNl
        rw [hSO.out] at HSH0 hN
        have HVR := Lib.hid (fun g (hg : (Value.slice va N vc).ownBlock = some g) => (HSH0.out.row.own.lt g hg))
        clear hcells p0 p1 p2 p3 p4 p5 p6 p7 p8 p9 p10 p11 p12 j1 j2 j3 j4 hl1 ha1 ht1 he1 hk1 hok hne hcnt hsh0 hk0 hlow0 hNl
        go_upto_region 4 with fail
        refine cut_world (fun wx => Below w0.heap.size w0 wx ∧ w0.heap.size < wx.heap.size ∧ BoxAt wx w0.heap.size [.int .i64 s.id, .int .i64 s.kind, .slice la s.labels.length lc, .string s.nm, .string s.proc, .int .i64 s.x.op, .int .i64 s.x.n, .string s.x.nm, .slice ka s.x.ks.length kc, .bool s.has, .slice aa s.args.length ac, .slice ta s.thn.length tc, .slice ea s.els.length ec]) ⟨boxed w0 _, by simp, box_new w0 #[.int .i64 s.id, .int .i64 s.kind, .slice la s.labels.length lc, .string s.nm, .string s.proc, .int .i64 s.x.op, .int .i64 s.x.n, .string s.x.nm, .slice ka s.x.ks.length kc, .bool s.has, .slice aa s.args.length ac, .slice ta s.thn.length tc, .slice ea s.els.length ec] 41⟩ ?_
        clear e0 e1 e2 e3 e4 e5 e6 e7 e8 e9 e10 e11 e12
        rintro w2 ⟨hb2, hz2, hS2⟩
        have HB2 := Lib.hid hb2
        have HS2 := Lib.hid hS2
        have HSH2 := Lib.hid (HSH0.out.next hb2)
        have HK2 := Lib.hid (HK0.out.trans (Kp.below hb2))
        have HA2 := Lib.hid (HK2.out.box HA1.out hne0 HVA.out)
        have y2 := HSH2.out.box 2 _ rfl
        have hsz2 := hb2.size
        have hn1 : IntKind.i64.wrap ((N : Int) + 1) = (N : Int) + 1 := IntWalk.i64_in _ (by omega)
        clear hb2 hS2
        have hzi := World.size_alloc w2 (.cells #[.int .i64 0, .int .i64 0, .slice none 0 0, .string ⟨#[]⟩, .string ⟨#[]⟩, .int .i64 0, .int .i64 0, .string ⟨#[]⟩, .slice none 0 0, .bool false, .slice none 0 0, .slice none 0 0, .slice none 0 0, .int .i64 0, .int .i64 0, .int .i64 0, .int .i64 0] 95)
        have hI0 : BoxAt (w2.alloc (.cells #[.int .i64 0, .int .i64 0, .slice none 0 0, .string ⟨#[]⟩, .string ⟨#[]⟩, .int .i64 0, .int .i64 0, .string ⟨#[]⟩, .slice none 0 0, .bool false, .slice none 0 0, .slice none 0 0, .slice none 0 0, .int .i64 0, .int .i64 0, .int .i64 0, .int .i64 0] 95)) w2.heap.size [.int .i64 0, .int .i64 0, .slice none 0 0, .string ⟨#[]⟩, .string ⟨#[]⟩, .int .i64 0, .int .i64 0, .string ⟨#[]⟩, .slice none 0 0, .bool false, .slice none 0 0, .slice none 0 0, .slice none 0 0, .int .i64 0, .int .i64 0, .int .i64 0, .int .i64 0] := box_new w2 #[.int .i64 0, .int .i64 0, .slice none 0 0, .string ⟨#[]⟩, .string ⟨#[]⟩, .int .i64 0, .int .i64 0, .string ⟨#[]⟩, .slice none 0 0, .bool false, .slice none 0 0, .slice none 0 0, .slice none 0 0, .int .i64 0, .int .i64 0, .int .i64 0, .int .i64 0] 95
        have hF0 : Free (w2.alloc (.cells #[.int .i64 0, .int .i64 0, .slice none 0 0, .string ⟨#[]⟩, .string ⟨#[]⟩, .int .i64 0, .int .i64 0, .string ⟨#[]⟩, .slice none 0 0, .bool false, .slice none 0 0, .slice none 0 0, .slice none 0 0, .int .i64 0, .int .i64 0, .int .i64 0, .int .i64 0] 95)) w2.heap.size := fun j => by simp [go_sem]
        go_upto_region 6 with (first | refine wpList_load_mid rfl 95 (.tmp 5) rfl w.heap.size 0 rfl [.int .i64 0, .int .i64 0, .slice none 0 0, .string ⟨#[]⟩, .string ⟨#[]⟩, .int .i64 0, .int .i64 0, .string ⟨#[]⟩, .slice none 0 0, .bool false, .slice none 0 0, .slice none 0 0, .slice none 0 0, .int .i64 a.proc, .int .i64 a.up, .int .i64 a.next, .int .i64 a.loop] _ (fun j v hv => by rw [Nat.zero_add]; exact HA2.out j v hv) Try.underlying95 rfl (by kernel_rfl) ?_ | refine wpList_store_mid rfl 95 (.tmp 9) (.tmp 24) rfl w2.heap.size 0 #[.int .i64 0, .int .i64 0, .slice none 0 0, .string ⟨#[]⟩, .string ⟨#[]⟩, .int .i64 0, .int .i64 0, .string ⟨#[]⟩, .slice none 0 0, .bool false, .slice none 0 0, .slice none 0 0, .slice none 0 0, .int .i64 a.proc, .int .i64 a.up, .int .i64 a.next, .int .i64 a.loop] rfl rfl (box_there (n := 17) hI0 hF0 (by simp)) (by kernel_rfl) (by simp [Value.oneCell']) ?_)
        refine cut_world (fun wx => Below w2.heap.size w2 wx ∧ BoxAt wx w2.heap.size [.int .i64 0, .int .i64 0, .slice none 0 0, .string ⟨#[]⟩, .string ⟨#[]⟩, .int .i64 0, .int .i64 0, .string ⟨#[]⟩, .slice none 0 0, .bool false, .slice none 0 0, .slice none 0 0, .slice none 0 0, .int .i64 a.proc, .int .i64 a.up, .int .i64 a.next, .int .i64 a.loop] ∧ Free wx w2.heap.size) ⟨setCells_below _ _ (boxed w2 _) (Nat.le_refl _), box_over (old := [.int .i64 0, .int .i64 0, .slice none 0 0, .string ⟨#[]⟩, .string ⟨#[]⟩, .int .i64 0, .int .i64 0, .string ⟨#[]⟩, .slice none 0 0, .bool false, .slice none 0 0, .slice none 0 0, .slice none 0 0, .int .i64 0, .int .i64 0, .int .i64 0, .int .i64 0]) (xs := [.int .i64 0, .int .i64 0, .slice none 0 0, .string ⟨#[]⟩, .string ⟨#[]⟩, .int .i64 0, .int .i64 0, .string ⟨#[]⟩, .slice none 0 0, .bool false, .slice none 0 0, .slice none 0 0, .slice none 0 0, .int .i64 a.proc, .int .i64 a.up, .int .i64 a.next, .int .i64 a.loop]) (rest := []) hI0 hF0 rfl, setCells_free hF0⟩ ?_
        clear hzi hI0 hF0
        clear y2 hn1
        rintro w3 ⟨hb3, hI3, hF3⟩
        have HB3 := Lib.hid hb3
        have HI3 := Lib.hid hI3
        have HF3 := Lib.hid hF3
        have HS3 := Lib.hid (HS2.out.next hb3)
        have hzI := cell_lt (hI3 0 _ rfl)
        clear hb3 hI3 hF3
        go_upto_region 7 with (first | refine wpList_load_mid rfl 41 (.tmp 7) rfl w0.heap.size 0 rfl [.int .i64 s.id, .int .i64 s.kind, .slice la s.labels.length lc, .string s.nm, .string s.proc, .int .i64 s.x.op, .int .i64 s.x.n, .string s.x.nm, .slice ka s.x.ks.length kc, .bool s.has, .slice aa s.args.length ac, .slice ta s.thn.length tc, .slice ea s.els.length ec] _ (fun j v hv => by rw [Nat.zero_add]; exact HS3.out j v hv) Try.underlying41 rfl (by kernel_rfl) ?_ | refine wpList_store_mid rfl 41 (.tmp 26) (.tmp 25) rfl w2.heap.size 0 #[.int .i64 s.id, .int .i64 s.kind, .slice la s.labels.length lc, .string s.nm, .string s.proc, .int .i64 s.x.op, .int .i64 s.x.n, .string s.x.nm, .slice ka s.x.ks.length kc, .bool s.has, .slice aa s.args.length ac, .slice ta s.thn.length tc, .slice ea s.els.length ec] rfl rfl (box_there (n := 13) HI3.out HF3.out (by simp)) (by kernel_rfl) (by simp [Value.oneCell']) ?_)
        refine cut_world (fun wx => Below w2.heap.size w2 wx ∧ w2.heap.size < wx.heap.size ∧ BoxAt wx w2.heap.size [.int .i64 s.id, .int .i64 s.kind, .slice la s.labels.length lc, .string s.nm, .string s.proc, .int .i64 s.x.op, .int .i64 s.x.n, .string s.x.nm, .slice ka s.x.ks.length kc, .bool s.has, .slice aa s.args.length ac, .slice ta s.thn.length tc, .slice ea s.els.length ec, .int .i64 a.proc, .int .i64 a.up, .int .i64 a.next, .int .i64 a.loop] ∧ Free wx w2.heap.size) ⟨setCells_below _ _ HB3.out (Nat.le_refl _), by rw [setCells_size]; exact hzI, ?_, setCells_free HF3.out⟩ ?_
        · exact box_over (old := [.int .i64 0, .int .i64 0, .slice none 0 0, .string ⟨#[]⟩, .string ⟨#[]⟩, .int .i64 0, .int .i64 0, .string ⟨#[]⟩, .slice none 0 0, .bool false, .slice none 0 0, .slice none 0 0, .slice none 0 0]) (xs := [.int .i64 s.id, .int .i64 s.kind, .slice la s.labels.length lc, .string s.nm, .string s.proc, .int .i64 s.x.op, .int .i64 s.x.n, .string s.x.nm, .slice ka s.x.ks.length kc, .bool s.has, .slice aa s.args.length ac, .slice ta s.thn.length tc, .slice ea s.els.length ec]) (rest := [.int .i64 a.proc, .int .i64 a.up, .int .i64 a.next, .int .i64 a.loop]) HI3.out HF3.out rfl
        clear hzI
        rintro w4 ⟨hb4, hz4, hI4, hF4⟩
        have HB4 := Lib.hid hb4
        have HI4 := Lib.hid hI4
        have HF4 := Lib.hid hF4
        clear hb4 hI4 hF4 HB3 HI3 HF3
        have hk1w : IntKind.i64.wrap ((k : Int) + 1) = (k : Int) + 1 := IntWalk.i64_in _ (by omega)
        have hkl : decide ((k : Int) + 1 < (l.length : Int)) = !LB := by
          rw [← hLB.out]
          by_cases h : k + 1 = l.length
          · rw [decide_eq_true h, decide_eq_false (by omega)]; rfl
          · rw [decide_eq_false h, decide_eq_true (by omega)]; rfl
        go_upto_if 31 with fail
        go_cut [32] (fun _ wx => Below w2.heap.size w2 wx ∧ w2.heap.size < wx.heap.size ∧ BoxAt wx w2.heap.size [.int .i64 s.id, .int .i64 s.kind, .slice la s.labels.length lc, .string s.nm, .string s.proc, .int .i64 s.x.op, .int .i64 s.x.n, .string s.x.nm, .slice ka s.x.ks.length kc, .bool s.has, .slice aa s.args.length ac, .slice ta s.thn.length tc, .slice ea s.els.length ec, .int .i64 a.proc, .int .i64 a.up, .int .i64 NX, .int .i64 a.loop] ∧ Free wx w2.heap.size)
        case first =>
          cases LB with
          | true =>
            have HNXE : Hid (NX = a.next) := Lib.hid (by rw [← hNX.out]; rfl)
            go_wp2_with fail
            go_meet
            refine ⟨HB4.out, hz4, ?_, HF4.out⟩
            rw [HNXE.out]
            exact HI4.out
          | false =>
            have HNXE : Hid (NX = (N : Int) + 1 + (CT : Int)) := Lib.hid (by rw [← hNX.out, ← hCT.out]; rfl)
            have hs4 := HS2.out.next HB4.out
            have i15 := HI4.out 15 _ rfl
            have f15 := HF4.out 15
            have HS4 := Lib.hid hs4
            have hsum : IntKind.i64.wrap ((N : Int) + 1 + (CT : Int)) = (N : Int) + 1 + (CT : Int) := IntWalk.i64_in _ (by omega)
            have hhang : Hang d w4 s (.slice la s.labels.length lc) (.slice ka s.x.ks.length kc) (.slice aa s.args.length ac) (.slice ta s.thn.length tc) (.slice ea s.els.length ec) := by
              have hle : Cs.le (lowC B w0) (cw w4) := Cs.le_trans only_out (Cs.le_trans (cw_next HB2.out) (cw_next HB4.out))
              exact ⟨StrC.mono hle HLO.out, ExC.mono hle HKI.out, SlAt.imp HAR.out (fun _ _ _ _ => ArAt.mono hle), StC.mono hle HTH.out, StC.mono hle HEL.out⟩
            have HHG := Lib.hid hhang
            clear hs4 hhang
            go_wp2_with (refine wpList_load_mid rfl 41 (.tmp 7) rfl w0.heap.size 0 rfl [.int .i64 s.id, .int .i64 s.kind, .slice la s.labels.length lc, .string s.nm, .string s.proc, .int .i64 s.x.op, .int .i64 s.x.n, .string s.x.nm, .slice ka s.x.ks.length kc, .bool s.has, .slice aa s.args.length ac, .slice ta s.thn.length tc, .slice ea s.els.length ec] _ (fun j v hv => by rw [Nat.zero_add]; exact HS4.out j v hv) Try.underlying41 rfl (by kernel_rfl) ?_)
            refine (size_any d s la ka aa ta ea lc kc ac tc ec _ HHG.out hct2).mono ?_
            rintro e w5 ⟨rfl, hb5⟩
            rw [hCT.out]
            have HB5 := Lib.hid hb5
            have HI5 := Lib.hid (HI4.out.next hb5)
            have HF5 := Lib.hid (HF4.out.next hz4 hb5)
            have hz5 := hb5.size
            clear i15 f15
            have i15 := HI5.out 15 _ rfl
            have f15 := HF5.out 15
            clear hb5
            go_wp2_with fail
            go_meet
            refine ⟨(HB4.out.trans (HB5.out.mono HB4.out.size)).setCell (p := ⟨_, _, none⟩) (by simp) _, by simp only [World.size_setCell]; omega, ?_, HF5.out.set⟩
            rw [HNXE.out]
            exact HI5.out.put (j := 15) (x := .int .i64 ((N : Int) + 1 + (CT : Int))) (by simp)
        case rest =>
          obtain ⟨hb5, hz5, hI5, hF5⟩ := hcut
          obtain ⟨w5, hw5⟩ : ∃ x : World, x = wc := ⟨_, rfl⟩
          subst hw5
          clear hkl hk1w hz4 HI4 HF4 HB4
          have HB25 := Lib.hid hb5
          have HB05 := Lib.hid (HB2.out.trans (hb5.mono HB2.out.size))
          have HSH5 := Lib.hid (HSH2.out.next hb5)
          have HK5 := Lib.hid (HK2.out.trans (Kp.below hb5))
          have HS5 := Lib.hid (HS2.out.next hb5)
          have HI5 := Lib.hid hI5
          have hNXI : InI NX := by
            rw [← hNX.out]
            unfold nextOf
            split
            · exact HAK.out.2.2.1
            · rw [hCT.out]; unfold InI; omega
          have HNXI := Lib.hid hNXI
          have HFQ : Hid (FiQ D (lowC B w5) [.int .i64 s.id, .int .i64 s.kind, .slice la s.labels.length lc, .string s.nm, .string s.proc, .int .i64 s.x.op, .int .i64 s.x.n, .string s.x.nm, .slice ka s.x.ks.length kc, .bool s.has, .slice aa s.args.length ac, .slice ta s.thn.length tc, .slice ea s.els.length ec, .int .i64 a.proc, .int .i64 a.up, .int .i64 NX, .int .i64 a.loop] (itemOf s a NX)) := Lib.hid (by
            have hle : Cs.le (lowC B w0) (lowC B w5) := low_next HB05.out
            exact ⟨.slice ka s.x.ks.length kc, .slice la s.labels.length lc, .slice aa s.args.length ac, .slice ta s.thn.length tc, .slice ea s.els.length ec, rfl, HOK.out, (ExC.mono hle HKI.out).le (by omega), HJ1.out, HJ2.out, HJ3.out, HJ4.out, StrC.mono hle HLO.out, SlAt.imp HAR.out (fun _ _ _ _ h => (ArAt.mono hle h).le (by omega)), (StC.mono hle HTH.out).le (by omega), (StC.mono hle HEL.out).le (by omega), HAK.out.1, HAK.out.2.1, HNXI.out, HAK.out.2.2.2⟩)
          have hq : Below w5.heap.size w5 w5.drew := (Below.refl _ _).drew
          have hbw := boxed w5 (.cells #[.int .i64 s.id, .int .i64 s.kind, .slice la s.labels.length lc, .string s.nm, .string s.proc, .int .i64 s.x.op, .int .i64 s.x.n, .string s.x.nm, .slice ka s.x.ks.length kc, .bool s.has, .slice aa s.args.length ac, .slice ta s.thn.length tc, .slice ea s.els.length ec, .int .i64 a.proc, .int .i64 a.up, .int .i64 NX, .int .i64 a.loop] 95)
          have hbwd : Below w5.heap.size w5 (w5.alloc (.cells #[.int .i64 s.id, .int .i64 s.kind, .slice la s.labels.length lc, .string s.nm, .string s.proc, .int .i64 s.x.op, .int .i64 s.x.n, .string s.x.nm, .slice ka s.x.ks.length kc, .bool s.has, .slice aa s.args.length ac, .slice ta s.thn.length tc, .slice ea s.els.length ec, .int .i64 a.proc, .int .i64 a.up, .int .i64 NX, .int .i64 a.loop] 95)).drew := hbw.drew
          have Y2 := Lib.hid (HSH5.out.box 2 _ rfl)
          have YF2 := Lib.hid (HSH5.out.free 2)
          have hYl5 : Y < w5.heap.size := by have := HB05.out.size; omega
          have hN2 : SO.length = N := hN.out
          have HOW5 := Lib.hid (HSH5.out.row.own)
          rw [hN2] at HOW5
          have HN2 := Lib.hid hN2
          have hBW5 := HSH5.out.bw
          clear hb5 hI5 hF5 hNXI hN2
          go_upto_region 9 with fail
          refine wp_region_z (fun w' => w'.cell? ⟨Y, 2, none⟩ = some (.slice va N vc) ∧ BoxAt w' w2.heap.size [.int .i64 s.id, .int .i64 s.kind, .slice la s.labels.length lc, .string s.nm, .string s.proc, .int .i64 s.x.op, .int .i64 s.x.n, .string s.x.nm, .slice ka s.x.ks.length kc, .bool s.has, .slice aa s.args.length ac, .slice ta s.thn.length tc, .slice ea s.els.length ec, .int .i64 a.proc, .int .i64 a.up, .int .i64 NX, .int .i64 a.loop]) 10 (by kernel_rfl) ⟨cell_next hq Y2.out, HI5.out.next hq⟩ (fun hS => ?_)
          refine' wpAnyZ_take (i := 0) (oi := _) (v := _) rfl (by kernel_rfl) (by kernel_rfl) (by kernel_rfl) (by kernel_rfl) (fun _ _ _ h => h) (Or.inl ⟨by rfl, ?hy0⟩) hS ?rest0
          case hy0 => (intro w hSw; have c2 := hSw.1; clear hSw; go_simp; (try with_reducible rfl))
          try simp only [Act.put, List.setIfInBounds_toArray, List.set_cons_zero, List.set_cons_succ]
          refine' wpAnyZ_take (i := 1) (oi := _) (v := _) rfl (by kernel_rfl) (by kernel_rfl) (by kernel_rfl) (by kernel_rfl) (fun _ _ _ h => h) (Or.inl ⟨by rfl, ?hy1⟩) hS ?rest1
          case hy1 => (intro w hSw; have c2 := hSw.1; clear hSw; go_simp; (try with_reducible rfl))
          try simp only [Act.put, List.setIfInBounds_toArray, List.set_cons_zero, List.set_cons_succ]
          refine' wpAnyZ_take (i := 2) (oi := _) (v := _) rfl (by kernel_rfl) (by kernel_rfl) (by kernel_rfl) (by kernel_rfl) (fun _ _ _ h => h) (Or.inl ⟨by rfl, ?hy2⟩) hS ?rest2
          case hy2 => (intro w hSw; have c2 := hSw.1; clear hSw; go_simp; (try with_reducible rfl))
          try simp only [Act.put, List.setIfInBounds_toArray, List.set_cons_zero, List.set_cons_succ]
          refine' wpAnyZ_take (i := 3) (oi := _) (v := _) rfl (by kernel_rfl) (by kernel_rfl) (by kernel_rfl) (by kernel_rfl) (fun _ _ _ h => h) (Or.inl ⟨by rfl, ?hy3⟩) hS ?rest3
          case hy3 => (intro w hSw; have c2 := hSw.1; clear hSw; go_simp; (try with_reducible rfl))
          try simp only [Act.put, List.setIfInBounds_toArray, List.set_cons_zero, List.set_cons_succ]
          refine' wpAnyZ_take (i := 4) (oi := _) (v := _) rfl (by kernel_rfl) (by kernel_rfl) (by kernel_rfl) (by kernel_rfl) (fun _ _ _ h => h) (Or.inl ⟨by rfl, ?hy4⟩) hS ?rest4
          case hy4 => (intro w hSw; have c2 := hSw.1; clear hSw; go_simp; (try with_reducible rfl))
          try simp only [Act.put, List.setIfInBounds_toArray, List.set_cons_zero, List.set_cons_succ]
          refine' wpAnyZ_take (i := 5) (oi := _) (v := .agg #[.int .i64 s.id, .int .i64 s.kind, .slice la s.labels.length lc, .string s.nm, .string s.proc, .int .i64 s.x.op, .int .i64 s.x.n, .string s.x.nm, .slice ka s.x.ks.length kc, .bool s.has, .slice aa s.args.length ac, .slice ta s.thn.length tc, .slice ea s.els.length ec, .int .i64 a.proc, .int .i64 a.up, .int .i64 NX, .int .i64 a.loop]) rfl (by kernel_rfl) (by kernel_rfl) (by kernel_rfl) (by kernel_rfl) (fun _ _ _ h => h) (yieldsIf_load_mid (by rfl) 95 (.tmp 9) rfl w2.heap.size 0 (by rfl) [.int .i64 s.id, .int .i64 s.kind, .slice la s.labels.length lc, .string s.nm, .string s.proc, .int .i64 s.x.op, .int .i64 s.x.n, .string s.x.nm, .slice ka s.x.ks.length kc, .bool s.has, .slice aa s.args.length ac, .slice ta s.thn.length tc, .slice ea s.els.length ec, .int .i64 a.proc, .int .i64 a.up, .int .i64 NX, .int .i64 a.loop] _ (fun w' hSw j v hv => by rw [Nat.zero_add]; exact hSw.2 j v hv) Try.underlying95 rfl (by kernel_rfl)) hS ?rest5
          try simp only [Act.put, List.setIfInBounds_toArray, List.set_cons_zero, List.set_cons_succ]
          have L0 := Lib.hid (cell_next hq Y2.out)
          refine' wpAnyZ_step (i := 6) (o := _) rfl (by kernel_rfl) (fun K hK => ?_)
          go_simp
          refine hK _ _ (fun _ => ⟨cell_next hbwd Y2.out, HI5.out.next hbwd⟩) ?_
          clear hK K
          try simp only [Act.put, List.setIfInBounds_toArray, List.set_cons_zero, List.set_cons_succ]
          refine' wpAnyZ_step (i := 7) (o := _) rfl (by kernel_rfl) (fun K hK => ?_)
          refine step_append_lies _ (by rfl) (.tmp 41) (.tmp 43) _ (by rfl) B 95 iF (.agg #[.int .i64 0, .int .i64 0, .slice none 0 0, .string ⟨#[]⟩, .string ⟨#[]⟩, .int .i64 0, .int .i64 0, .string ⟨#[]⟩, .slice none 0 0, .bool false, .slice none 0 0, .slice none 0 0, .slice none 0 0, .int .i64 0, .int .i64 0, .int .i64 0, .int .i64 0]) 17 240 Try.underlying89 hiF hzF0 hzF1 hzF2 rfl (by omega) (.slice va N vc) N rowsr.flatten (by rfl) (ownsBelow HOW5.out hbwd)
            ⟨w5.heap.size, 0, none⟩ 1 1 [.int .i64 s.id, .int .i64 s.kind, .slice la s.labels.length lc, .string s.nm, .string s.proc, .int .i64 s.x.op, .int .i64 s.x.n, .string s.x.nm, .slice ka s.x.ks.length kc, .bool s.has, .slice aa s.args.length ac, .slice ta s.thn.length tc, .slice ea s.els.length ec, .int .i64 a.proc, .int .i64 a.up, .int .i64 NX, .int .i64 a.loop] (by rfl) (by rfl) (World.news_of_block (cs := #[.int .i64 s.id, .int .i64 s.kind, .slice la s.labels.length lc, .string s.nm, .string s.proc, .int .i64 s.x.op, .int .i64 s.x.n, .string s.x.nm, .slice ka s.x.ks.length kc, .bool s.has, .slice aa s.args.length ac, .slice ta s.thn.length tc, .slice ea s.els.length ec, .int .i64 a.proc, .int .i64 a.up, .int .i64 NX, .int .i64 a.loop]) (t := 95) (fr := (0, 0)) (heap_alloc_new w5 _)) (by simp [Value.oneCell'])
            (by omega) (by unfold maxLen; omega) (by omega) (by simp; omega) (w5.heap.size + 1) (by simp) ?_
          intro g8 cap8 w8 hown8 hg8 hat8 hlt8
          have hYB2 : some Y ≠ (Value.slice va N vc).ownBlock := fun e => HSH5.out.ne e.symm
          have q10 := (hg8.cell_far ⟨Y, 2, none⟩ (by simp; omega) hYB2).trans (cell_next hbwd Y2.out)
          have qf10 := (hg8.frozen_far ⟨Y, 2, none⟩ (by simp; omega) hYB2).trans (frozen_next hbwd Y2.out YF2.out)
          have hn5 : some w2.heap.size ≠ (Value.slice va N vc).ownBlock := fun e => by have h := (HVR.out _ e.symm).2; omega
          have hkeepI : ∀ j u, w5.cell? ⟨w2.heap.size, j, none⟩ = some u → w8.cell? ⟨w2.heap.size, j, none⟩ = some u := fun j u hu => (hg8.cell_far ⟨w2.heap.size, j, none⟩ (by simp; omega) hn5).trans (cell_next hbwd hu)
          have hI8 : BoxAt w8 w2.heap.size [.int .i64 s.id, .int .i64 s.kind, .slice la s.labels.length lc, .string s.nm, .string s.proc, .int .i64 s.x.op, .int .i64 s.x.n, .string s.x.nm, .slice ka s.x.ks.length kc, .bool s.has, .slice aa s.args.length ac, .slice ta s.thn.length tc, .slice ea s.els.length ec, .int .i64 a.proc, .int .i64 a.up, .int .i64 NX, .int .i64 a.loop] := fun j u hu => hkeepI j u (HI5.out j u hu)
          refine hK _ _ (fun _ => ⟨q10, hI8⟩) ?_
          clear hK K hkeepI
          try simp only [Act.put, List.setIfInBounds_toArray, List.set_cons_zero, List.set_cons_succ]
          refine' wpAnyZ_step (i := 8) (o := _) rfl (by kernel_rfl) (fun K hK => ?_)
          go_simp
          refine hK _ _ (fun _ => ⟨q10, hI8⟩) ?_
          clear hK K
          try simp only [Act.put, List.setIfInBounds_toArray, List.set_cons_zero, List.set_cons_succ]
          refine' wpAnyZ_step (i := 9) (o := _) rfl (by kernel_rfl) (fun K hK => ?_)
          go_simp
          refine hK _ _ (fun _ => ⟨q10, hI8⟩) ?_
          clear hK K
          try simp only [Act.put, List.setIfInBounds_toArray, List.set_cons_zero, List.set_cons_succ]
          refine' wpAnyZ_step (i := 10) (o := _) rfl (by kernel_rfl) (fun K hK => ?_)
          go_simp
          refine hK _ _ (fun h => absurd rfl h) ?_
          clear hK K
          try simp only [Act.put, List.setIfInBounds_toArray, List.set_cons_zero, List.set_cons_succ]
          refine wpAnyZ_done (by kernel_rfl) ?_ _
          have HG8 := Lib.hid ((grown_of hbwd _).trans hg8)
          have HOWN8 := Lib.hid hown8
          have hatt : ∀ q, (Value.slice (some ⟨g8, 0, none⟩) (N + 1) cap8).ownBlock = some q → (Value.slice va N vc).ownBlock = some q ∨ w5.heap.size ≤ q := fun q hq => by
            have hqq : g8 = q := by simpa [Value.ownBlock] using hq
            subst hqq
            exact hat8.imp id fun h => by omega
          have HATT := Lib.hid hatt
          clear hown8 hg8 hat8 hlt8 q10 qf10 hI8 hn5 hYB2 hatt hS
          go_upto_region 10 with fail
          have hvY : (Value.slice (some ⟨g8, 0, none⟩) (N + 1) cap8).ownBlock ≠ some Y := fun e => (HATT.out Y e).elim HSH5.out.ne (by omega)
          have hrow8 : RowF B D w8 (.slice (some ⟨g8, 0, none⟩) (N + 1) cap8) (SO ++ [itemOf s a NX]) (rowsr ++ [[.int .i64 s.id, .int .i64 s.kind, .slice la s.labels.length lc, .string s.nm, .string s.proc, .int .i64 s.x.op, .int .i64 s.x.n, .string s.x.nm, .slice ka s.x.ks.length kc, .bool s.has, .slice aa s.args.length ac, .slice ta s.thn.length tc, .slice ea s.els.length ec, .int .i64 a.proc, .int .i64 a.up, .int .i64 NX, .int .i64 a.loop]]) := HSH5.out.row.more (Below.refl _ _) HG8.out HFQ.out (by rw [HN2.out]; exact HOWN8.out)
          have hkp8 : Kp Y w5 (.slice va N vc) w8 (.slice (some ⟨g8, 0, none⟩) (N + 1) cap8) := Kp.grown HG8.out HATT.out
          refine cut_world (fun wx => ShAt B D wx Y gv pv lov hiv (.slice (some ⟨g8, 0, none⟩) (N + 1) cap8) (SO ++ [itemOf s a NX]) (rowsr ++ [[.int .i64 s.id, .int .i64 s.kind, .slice la s.labels.length lc, .string s.nm, .string s.proc, .int .i64 s.x.op, .int .i64 s.x.n, .string s.x.nm, .slice ka s.x.ks.length kc, .bool s.has, .slice aa s.args.length ac, .slice ta s.thn.length tc, .slice ea s.els.length ec, .int .i64 a.proc, .int .i64 a.up, .int .i64 NX, .int .i64 a.loop]]) ∧ Kp Y w5 (.slice va N vc) wx (.slice (some ⟨g8, 0, none⟩) (N + 1) cap8)) ⟨⟨hYB, ?_, ?_, ?_, ?_, ?_⟩, ?_⟩ ?_
          · have := HG8.out.size; simp only [World.size_setCell]; omega
          · have hbY : BoxAt w8 Y [gv, pv, .slice va N vc, lov, hiv] := HSH5.out.box.grown HG8.out fun e => HSH5.out.ne e.symm
            exact hbY.put (j := 2) (x := .slice (some ⟨g8, 0, none⟩) (N + 1) cap8) (by simp)
          · exact Free.set (free_grownF HG8.out hYl5 (fun e => HSH5.out.ne e.symm) HSH5.out.free)
          · exact hrow8.set hYB hvY
          · exact hvY
          · exact hkp8.set
          rintro w6 ⟨hsh6, hkp6⟩
          have HSH6 := Lib.hid hsh6
          have HKP6 := Lib.hid hkp6
          have HK6 := Lib.hid (HK5.out.trans hkp6)
          have hnSY : w0.heap.size ≠ Y := by omega
          have hnvS : (Value.slice va N vc).ownBlock ≠ some w0.heap.size := fun e => by have := (HVR.out _ e).2; omega
          have hnIY : w2.heap.size ≠ Y := by omega
          have hnvI : (Value.slice va N vc).ownBlock ≠ some w2.heap.size := fun e => by have := (HVR.out _ e).2; omega
          have HS6 := Lib.hid (hkp6.box HS5.out hnSY hnvS)
          have HI6 := Lib.hid (hkp6.box HI5.out hnIY hnvI)
          have HA6 := Lib.hid (HK6.out.box HA1.out hne0 HVA.out)
          have a13 := HA6.out 13 _ rfl
          have a16 := HA6.out 16 _ rfl
          have i15 := HI6.out 15 _ rfl
          have hsz6 := hkp6.size
          clear hsh6 hkp6 hrow8 hkp8 hvY
          go_upto_region 11 with fail
          refine cut_world (fun wx => Below w6.heap.size w6 wx ∧ w6.heap.size < wx.heap.size ∧ BoxAt wx w6.heap.size [.int .i64 0, .int .i64 0, .slice none 0 0, .string ⟨#[]⟩, .string ⟨#[]⟩, .int .i64 0, .int .i64 0, .string ⟨#[]⟩, .slice none 0 0, .bool false, .slice none 0 0, .slice none 0 0, .slice none 0 0, .int .i64 a.proc, .int .i64 (N + 1), .int .i64 NX, .int .i64 a.loop] ∧ Free wx w6.heap.size) ⟨boxed w6 _, by simp, box_new w6 #[.int .i64 0, .int .i64 0, .slice none 0 0, .string ⟨#[]⟩, .string ⟨#[]⟩, .int .i64 0, .int .i64 0, .string ⟨#[]⟩, .slice none 0 0, .bool false, .slice none 0 0, .slice none 0 0, .slice none 0 0, .int .i64 a.proc, .int .i64 (N + 1), .int .i64 NX, .int .i64 a.loop] 95, fun j => by simp [go_sem]⟩ ?_
          clear a13 a16 i15
          rintro w7 ⟨hb7, hz7, hJ7, hF7⟩
          have HB7 := Lib.hid hb7
          have HJ7 := Lib.hid hJ7
          have HF7 := Lib.hid hF7
          obtain ⟨NI, hNI⟩ : ∃ n, Hid ((if s.kind = 6 then (N : Int) + 1 else NX) = n) := ⟨_, Lib.hid rfl⟩
          obtain ⟨LI, hLI⟩ : ∃ n, Hid ((if s.kind = 6 then (N : Int) + 1 else a.loop) = n) := ⟨_, Lib.hid rfl⟩
          obtain ⟨KB, hKB⟩ : ∃ b, Hid ((s.kind == 6) = b) := ⟨_, Lib.hid rfl⟩
          have s1 := (HS6.out.next hb7) 1 _ rfl
          have hkb := hKB.out
          clear hb7 hJ7 hF7
          go_upto_if 57 with fail
          clear hkb s1
          go_cut [58] (fun _ wx => Below w6.heap.size w6 wx ∧ w6.heap.size < wx.heap.size ∧ BoxAt wx w6.heap.size [.int .i64 0, .int .i64 0, .slice none 0 0, .string ⟨#[]⟩, .string ⟨#[]⟩, .int .i64 0, .int .i64 0, .string ⟨#[]⟩, .slice none 0 0, .bool false, .slice none 0 0, .slice none 0 0, .slice none 0 0, .int .i64 a.proc, .int .i64 (N + 1), .int .i64 NI, .int .i64 LI])
          case first =>
            cases KB with
            | true =>
              have hk6 : s.kind = 6 := by have := hKB.out; simpa using this
              have hni : NI = (N : Int) + 1 := by rw [← hNI.out, if_pos hk6]
              have hli : LI = (N : Int) + 1 := by rw [← hLI.out, if_pos hk6]
              have HNIE := Lib.hid hni
              have HLIE := Lib.hid hli
              clear hk6 hni hli
              have j15 := HJ7.out 15 _ rfl
              have j16 := HJ7.out 16 _ rfl
              have f15 := HF7.out 15
              have f16 := HF7.out 16
              go_wp2_with fail
              go_meet
              refine ⟨(HB7.out.setCell (p := ⟨_, _, none⟩) (by simp) _).setCell (p := ⟨_, _, none⟩) (by simp) _, by simp only [World.size_setCell]; exact hz7, ?_⟩
              rw [HNIE.out, HLIE.out]
              exact (HJ7.out.put (j := 15) (x := .int .i64 ((N : Int) + 1)) (by simp)).put (j := 16) (x := .int .i64 ((N : Int) + 1)) (by simp)
            | false =>
              have hk6 : s.kind ≠ 6 := by have := hKB.out; simpa using this
              have hni : NI = NX := by rw [← hNI.out, if_neg hk6]
              have hli : LI = a.loop := by rw [← hLI.out, if_neg hk6]
              have HNIE := Lib.hid hni
              have HLIE := Lib.hid hli
              clear hk6 hni hli
              go_wp2_with fail
              go_meet
              refine ⟨HB7.out, hz7, ?_⟩
              rw [HNIE.out, HLIE.out]
              exact HJ7.out
          case rest =>
            obtain ⟨hb8, hz8, hJ8⟩ := hcut
            obtain ⟨w8', hw8'⟩ : ∃ x : World, x = wc := ⟨_, rfl⟩
            subst hw8'
            clear hz7 HB7 HJ7 HF7
            have HB8 := Lib.hid hb8
            have HJ8 := Lib.hid hJ8
            have HSH8 := Lib.hid (HSH6.out.next hb8)
            have HS8 := Lib.hid (HS6.out.next hb8)
            have HK8 := Lib.hid (HK6.out.trans (Kp.below hb8))
            have HKS8 := Lib.hid (HKP6.out.trans (Kp.below hb8))
            obtain ⟨AI, hAI⟩ : ∃ x, Hid (inside s.kind ((N : Int) + 1) NX a = x) := ⟨_, Lib.hid rfl⟩
            have eAI : AI = ⟨a.proc, (N : Int) + 1, NI, LI⟩ := by rw [← hAI.out, ← hNI.out, ← hLI.out]; rfl
            have hAIok : AI.ok := by
              rw [eAI]
              refine ⟨HAK.out.1, by show InI ((N : Int) + 1); unfold InI; omega, ?_, ?_⟩
              · show InI NI
                rw [← hNI.out]
                split
                · unfold InI; omega
                · exact HNXI.out
              · show InI LI
                rw [← hLI.out]
                split
                · unfold InI; omega
                · exact HAK.out.2.2.2
            have HAIK := Lib.hid hAIok
            have HEAI := Lib.hid eAI
            have hcp := cntS_parts s
            have hSL : (SO ++ [itemOf s a NX]).length = N + 1 := by rw [List.length_append, HN2.out]; rfl
            have HSL := Lib.hid hSL
            have hCT2 := hCT.out
            have hm1 : (SO ++ [itemOf s a NX]).length + cntL s.thn ≤ 1000000 := by rw [hSL]; omega
            have hlow8 : Cs.le (lowC B w0) (lowC B w8') := Cs.le_trans (low_next HB05.out) (HKS8.out.low hYB fun g hg => (HSH5.out.lo g hg))
            have HTH8 := Lib.hid (StC.mono hlow8 HTH.out)
            have HEL8 := Lib.hid (StC.mono hlow8 HEL.out)
            have s11 := HS8.out 11 _ rfl
            have hd2 : d ≤ D := by omega
            clear hb8 hJ8 hlow8 hAIok eAI hSL hcp
            go_wp2_with (refine wpList_load_mid rfl 95 (.tmp 10) rfl w6.heap.size 0 rfl [.int .i64 0, .int .i64 0, .slice none 0 0, .string ⟨#[]⟩, .string ⟨#[]⟩, .int .i64 0, .int .i64 0, .string ⟨#[]⟩, .slice none 0 0, .bool false, .slice none 0 0, .slice none 0 0, .slice none 0 0, .int .i64 a.proc, .int .i64 (N + 1), .int .i64 NI, .int .i64 LI] _ (fun j v hv => by rw [Nat.zero_add]; exact HJ8.out j v hv) Try.underlying95 rfl (by kernel_rfl) ?_)
            have hcall := IH.out s.thn _ _ AI _ _ _ hd2 HTH8.out HSH8.out HAIK.out hm1
            rw [HEAI.out] at hcall
            refine hcall.mono ?_
            clear hcall hm1 s11
            rw [← HEAI.out]
            rintro e w9 ⟨v9, rows9, rfl, hsh9, hkp9⟩
            obtain ⟨S9, hS9⟩ : ∃ x, Hid (shL s.thn AI (SO ++ [itemOf s a NX]) = x) := ⟨_, Lib.hid rfl⟩
            rw [hS9.out] at hsh9
            have HSH9 := Lib.hid hsh9
            have HK9 := Lib.hid (HK8.out.trans hkp9)
            have HKS9 := Lib.hid (HKS8.out.trans hkp9)
            have hn8J : (Value.slice (some ⟨g8, 0, none⟩) (N + 1) cap8).ownBlock ≠ some w6.heap.size := fun e => by
              have := (HSH6.out.row.own.lt _ e).2; omega
            have hnJY : w6.heap.size ≠ Y := by omega
            have HJ9 := Lib.hid (hkp9.box HJ8.out hnJY hn8J)
            have HS9 := Lib.hid (HKS9.out.box HS5.out hnSY hnvS)
            have s12 := HS9.out 12 _ rfl
            have hlow9 : Cs.le (lowC B w8') (lowC B w9) := hkp9.low hYB fun g hg => (HSH8.out.lo g hg)
            have HEL9 := Lib.hid (StC.mono hlow9 HEL8.out)
            have hm2 : S9.length + cntL s.els ≤ 1000000 := by rw [← hS9.out, shL_len, HSL.out]; have := cntS_parts s; omega
            clear hsh9 hkp9 hlow9
            go_wp2_with (refine wpList_load_mid rfl 95 (.tmp 10) rfl w6.heap.size 0 rfl [.int .i64 0, .int .i64 0, .slice none 0 0, .string ⟨#[]⟩, .string ⟨#[]⟩, .int .i64 0, .int .i64 0, .string ⟨#[]⟩, .slice none 0 0, .bool false, .slice none 0 0, .slice none 0 0, .slice none 0 0, .int .i64 a.proc, .int .i64 (N + 1), .int .i64 NI, .int .i64 LI] _ (fun j v hv => by rw [Nat.zero_add]; exact HJ9.out j v hv) Try.underlying95 rfl (by kernel_rfl) ?_)
            have hcall := IH.out s.els _ _ AI _ _ _ hd2 HEL9.out HSH9.out HAIK.out hm2
            rw [HEAI.out] at hcall
            refine hcall.mono ?_
            clear hcall hm2 s12
            rw [← HEAI.out]
            rintro e w10 ⟨v10, rows10, rfl, hsh10, hkp10⟩
            have HSH10 := Lib.hid hsh10
            have HK10 := Lib.hid (HK9.out.trans hkp10)
            clear hsh10 hkp10
            go_wp2_with fail
            go_roundw
            case rel =>
              refine ⟨k + 1, v10, rows10, by omega, by go_num, ?_, HK10.out⟩
              rw [shT_succ l a k hlt, hs.out, hSO.out, hLB.out, shS_eq, HN2.out, hNX.out, hAI.out, hS9.out]
              exact HSH10.out
            case measure => simp [intOf]; omega
      · have hlt' : ¬ (k : Int) < (l.length : Int) := by omega
        have hke : k = l.length := by omega
        subst hke
        rw [shT_all] at HSH0
        clear hsh0 hk0 hlow0
        go_wp2_with fail
        refine bodyPost_ret (v := .tuple #[]) (by simp [results, Try.results116, go_sem]) rfl ⟨vr, rowsr, rfl, HSH0.out, (Kp.below HB1.out).trans HK0.out⟩
end Go.Proofs.Ytghlmengcidmdaa.Tr
end
