/- Parts of PutL, PutP, FlatW: walks and plain laws that later texts use. Conditions: as each statement says. -/
import Derived.Test.YtghlmengcidmdaaTw0
import Derived.Test.YtghlmengcidmdaaTw1
import Derived.Test.YtghlmengcidmdaaTw2
import Derived.Test.YtghlmengcidmdaaTw3
import Derived.Test.YtghlmengcidmdaaTw4
import Derived.Test.YtghlmengcidmdaaTw5
import Derived.Test.YtghlmengcidmdaaTw6
import Derived.Test.YtghlmengcidmdaaTw7
import Derived.Test.YtghlmengcidmdaaTw8
import Derived.Deep.RegionHeld3
import Derived.Deep.DeepCutAuto
import Derived.IntWalk
import Derived.Deep.QuietTactic
import Derived.BigQuiet
import Derived.StillTailTactics
import Derived.Deep.RegionLaw
import Derived.Deep.AppendLies
import Derived.Laws.StructEq
import Derived.RegionTactic
import Derived.Deep.Slices
import Derived.Deep.Fields
import Derived.Lib.SmallJoins
import Derived.SliceStrings
import Derived.ChangeSlices
import Derived.Maps.Range
import Derived.Outline
import Derived.Deep.Upon
import Derived.Maps.AppendAt
import Derived.Laws.OwnMore
import Derived.OrdersHeld
import Derived.WalkKit
import Derived.Test.YtghlmengcidmdaaRows
import Derived.WalkSpells
import Derived.Lib.Hide
import Derived.Below
import Derived.WalkSmall
import Derived.Laws.BitsAllLaws
import Derived.OwnWalk
import Derived.OneCell
import Derived.Deep.RegionWith
import Derived.Laws.Cover3
section
/- What put of the reference makes: a row in which the statement of that id is another one, which keeps what stands in it. Conditions: they lie in memory and are light. -/
namespace Go.Proofs.Ytghlmengcidmdaa.Tr
open Go.RowKit Go.Proofs.Ytghlmengcidmdaa.Lx Go.Proofs.Ytghlmengcidmdaa.Wd
theorem far1 {w : World} {b g i j : Nat} {x u : Value} (hne : b ≠ g) (h : w.cell? ⟨g, j, none⟩ = some u) : (w.setCell ⟨b, i, none⟩ x).cell? ⟨g, j, none⟩ = some u := by
  rw [World.cell?_setCell_other _ _ _ _ (fun e => hne (congrArg Addr.block e))]
  exact h
mutual
def putS (t : St) : St → St
  | .mk i k ls nm pr x h ar th el => if i = t.id then .mk t.id t.kind t.labels t.nm t.proc t.x t.has t.args (putL t th) (putL t el) else .mk i k ls nm pr x h ar (putL t th) (putL t el)
def putL (t : St) : List St → List St
  | [] => []
  | s :: r => putS t s :: putL t r
end
/-- Which of two is copied. -/
def pick (t s : St) : St := if s.id = t.id then t else s
def putB (b s : St) (t : St) : St := .mk b.id b.kind b.labels b.nm b.proc b.x b.has b.args (putL t s.thn) (putL t s.els)
theorem putS_eq (t s : St) : putS t s = putB (pick t s) s t := by
  cases s with
  | mk i k ls nm pr x h ar th el =>
    by_cases hi : i = t.id
    · have h2 : (St.mk i k ls nm pr x h ar th el).id = t.id := hi
      rw [putS, if_pos hi]
      unfold putB pick
      rw [if_pos h2]
      rfl
    · have h2 : ¬ (St.mk i k ls nm pr x h ar th el).id = t.id := hi
      rw [putS, if_neg hi]
      unfold putB pick
      rw [if_neg h2]
      rfl
theorem putL_map (t : St) : ∀ l : List St, putL t l = l.map (putS t) := by
  intro l
  induction l with
  | nil => simp only [putL, List.map_nil]
  | cons s r ih => simp only [putL, List.map_cons, ih]
theorem putL_snoc (t : St) (l : List St) (s : St) : putL t (l ++ [s]) = putL t l ++ [putS t s] := by rw [putL_map, putL_map, List.map_append]; rfl
/-- What put leaves. -/
def PutMade (d : Nat) (l : List St) (w : World) (e : Ending) (w' : World) : Prop := ∃ v, e = .returned v ∧ StC (nwC w.heap.size w') d v l ∧ Below w.heap.size w w'
set_option maxHeartbeats 4000000 in
set_option maxRecDepth 100000 in
theorem put_any (D : Nat) (t : St) (hokt : OkE t.x) (ht1 : InI t.id) (ht2 : InI t.kind) (ht3 : t.nm.size ≤ 9223372036854775807) (ht4 : t.proc.size ≤ 9223372036854775807) (hwt : LightS t) (kat lat aat tat eat : Option Addr) (kct lct act tct ect : Nat) :
    ∀ (d : Nat) (l : List St) (v : Value) (w : World), StC (cw w) d v l → wtL l ≤ 20000 → Hang D w t (.slice lat t.labels.length lct) (.slice kat t.x.ks.length kct) (.slice aat t.args.length act) (.slice tat t.thn.length tct) (.slice eat t.els.length ect) →
    Calls Try.prog 76 #[v, .agg (stCells t (.slice kat t.x.ks.length kct) (.slice lat t.labels.length lct) (.slice aat t.args.length act) (.slice tat t.thn.length tct) (.slice eat t.els.length ect)).toArray] w (PutMade (d + D) (putL t l) w) := by
  intro d
  induction d with
  | zero => intro l v w h; exact h.elim
  | succ d ih =>
    intro l v w hl hwl hht
    have IH := Lib.hid ih
    obtain ⟨i0, hi, hz0q, hz1, hz2⟩ := info_parts infoSt
    obtain ⟨a, cap, rfl, hc1, hc2⟩ := hl.form
    have HL := Lib.hid hl
    have HHT := Lib.hid hht
    have hlen := Nat.le_trans (wtL_len l) hwl
    have HWL := Lib.hid hwl
    have HOKT := Lib.hid hokt
    have HT1 := Lib.hid ht1
    have HT2 := Lib.hid ht2
    have HT3 := Lib.hid ht3
    have HT4 := Lib.hid ht4
    have HWT := Lib.hid hwt
    clear ih hl hht hwl
    unfold stCells
    go_enter Try.func76, Try.ntmps76
    go_wp2_with fail
    have hbx0 := boxed w (.cells #[.int .i64 t.id, .int .i64 t.kind, .slice lat t.labels.length lct, .string t.nm, .string t.proc, .int .i64 t.x.op, .int .i64 t.x.n, .string t.x.nm, .slice kat t.x.ks.length kct, .bool t.has, .slice aat t.args.length act, .slice tat t.thn.length tct, .slice eat t.els.length ect] 41)
    have hb00 := box_new w #[.int .i64 t.id, .int .i64 t.kind, .slice lat t.labels.length lct, .string t.nm, .string t.proc, .int .i64 t.x.op, .int .i64 t.x.n, .string t.x.nm, .slice kat t.x.ks.length kct, .bool t.has, .slice aat t.args.length act, .slice tat t.thn.length tct, .slice eat t.els.length ect] 41
    have HBX0 := Lib.hid hbx0
    have HTB := Lib.hid hb00
    refine cut_world (fun wx => Below w.heap.size w wx ∧ w.heap.size < wx.heap.size ∧ BoxAt wx w.heap.size [.int .i64 t.id, .int .i64 t.kind, .slice lat t.labels.length lct, .string t.nm, .string t.proc, .int .i64 t.x.op, .int .i64 t.x.n, .string t.x.nm, .slice kat t.x.ks.length kct, .bool t.has, .slice aat t.args.length act, .slice tat t.thn.length tct, .slice eat t.els.length ect]) ⟨HBX0.out, by simp, HTB.out⟩ ?_
    rintro wb ⟨hbb, hzb, htb⟩
    clear hbx0 hb00 HBX0 HTB
    have HBB := Lib.hid hbb
    have HTB := Lib.hid htb
    clear hbb htb
    go_loopw [11, 5] (fun i o wr => ∃ (k : Nat) (v : Value) (rows : List (List Value)), k ≤ l.length ∧ i = .int .i64 k ∧ o = v ∧ Acc (StQ (d + D)) wb.heap.size 41 13 wr v (putL t (l.take k)) rows ∧ Below wb.heap.size wb wr) (fun i _ _ => (l.length - intOf i).toNat)
    case atStart => exact ⟨0, _, [], by omega, rfl, rfl, by simp only [List.take_zero, putL]; exact Acc.nil _ _ _ _ _, Below.refl _ _⟩
    case round =>
      obtain ⟨k, v, rows, hk, rfl, rfl, hacc, hbel⟩ := hrel
      have hcl : (putL t (l.take k)).length = k := by rw [putL_map, List.length_map, List.length_take]; omega
      obtain ⟨va0, vc0, hv0⟩ := ownsForm hacc.own
      rw [hcl] at hv0
      subst hv0
      have HCL := Lib.hid hcl
      have HACC := Lib.hid hacc
      have HBel := Lib.hid hbel
      have hwbel := HBB.out.trans (hbel.mono HBB.out.size)
      have HWB := Lib.hid hwbel
      obtain ⟨w0, hw0⟩ : ∃ w0 : World, w0 = wr := ⟨_, rfl⟩
      subst hw0
      clear hcl hacc
      by_cases hlt : k < l.length
      · have hlt' : (k : Int) < (l.length : Int) := by omega
        have h0k : (0 : Int) ≤ (k : Int) := by omega
        have hnel : l ≠ [] := by intro h; rw [h] at hlt; simp at hlt
        obtain ⟨g, off, capg, hvg, _, hcellsg⟩ := SlAt.cells (StC.next HL.out hwbel) hnel
        simp only [Value.slice.injEq] at hvg
        obtain ⟨rfl, -, rfl⟩ := hvg
        have hsts := hcellsg k hlt
        obtain ⟨s, hs⟩ : ∃ s, Hid (l[k] = s) := ⟨_, Lib.hid rfl⟩
        rw [hs.out] at hsts
        obtain ⟨lv, av, tv, ev, p0, p1, p2, p3, p4, ⟨kv, p5, p6, p7, p8, hok, hk1⟩, p9, p10, p11, p12, j1, j2, j3, j4, hl1, ha1, ht1, he1⟩ := hsts
        obtain ⟨la, lc, rfl, bl1, bl2⟩ := hl1.form
        obtain ⟨aa, ac, rfl, ba1, ba2⟩ := ha1.form
        obtain ⟨ta, tc, rfl, bt1, bt2⟩ := ht1.form
        obtain ⟨ea, ec, rfl, be1, be2⟩ := he1.form
        have HML := Lib.hid (Nat.le_trans bl1 bl2)
        have HMA := Lib.hid (Nat.le_trans ba1 ba2)
        have HMT := Lib.hid (Nat.le_trans bt1 bt2)
        have HME := Lib.hid (Nat.le_trans be1 be2)
        clear bl1 bl2 ba1 ba2 bt1 bt2 be1 be2
        obtain ⟨ka, kc, rfl, -, -⟩ := hk1.form
        have e0 : w0.cell? ⟨g, off + k * 13, none⟩ = _ := p0
        have e1 : w0.cell? ⟨g, off + k * 13 + 1, none⟩ = _ := p1
        have e2 : w0.cell? ⟨g, off + k * 13 + 2, none⟩ = _ := p2
        have e3 : w0.cell? ⟨g, off + k * 13 + 3, none⟩ = _ := p3
        have e4 : w0.cell? ⟨g, off + k * 13 + 4, none⟩ = _ := p4
        have e5 : w0.cell? ⟨g, off + k * 13 + 5, none⟩ = _ := p5
        have e6 : w0.cell? ⟨g, off + k * 13 + 6, none⟩ = _ := p6
        have e7 : w0.cell? ⟨g, off + k * 13 + 7, none⟩ = _ := p7
        have e8 : w0.cell? ⟨g, off + k * 13 + 8, none⟩ = _ := p8
        have e9 : w0.cell? ⟨g, off + k * 13 + 9, none⟩ = _ := p9
        have e10 : w0.cell? ⟨g, off + k * 13 + 10, none⟩ = _ := p10
        have e11 : w0.cell? ⟨g, off + k * 13 + 11, none⟩ = _ := p11
        have e12 : w0.cell? ⟨g, off + k * 13 + 12, none⟩ = _ := p12
        have HLB := Lib.hid hl1
        have HKB := Lib.hid hk1
        have HAB := Lib.hid ha1
        have HTHN := Lib.hid ht1
        have HEB := Lib.hid he1
        have HOK := Lib.hid hok
        have HJ1 := Lib.hid j1
        have HJ2 := Lib.hid j2
        have HJ3 := Lib.hid j3
        have HJ4 := Lib.hid j4
        clear hcellsg hnel p0 p1 p2 p3 p4 p5 p6 p7 p8 p9 p10 p11 p12 hok hk1 hl1 ha1 ht1 he1 j1 j2 j3 j4
        clear hwbel hbel
        have hws : wtS s ≤ 20000 := Nat.le_trans (by rw [← hs.out]; exact wtL_mem (List.getElem_mem hlt)) HWL.out
        have HWS := Lib.hid hws
        clear hws
        go_upto_region 5 with fail
        refine cut_world (fun wx => Below w0.heap.size w0 wx ∧ w0.heap.size < wx.heap.size ∧ BoxAt wx w0.heap.size (stCells s (.slice ka s.x.ks.length kc) (.slice la s.labels.length lc) (.slice aa s.args.length ac) (.slice ta s.thn.length tc) (.slice ea s.els.length ec))) ⟨?_, ?_, ?_⟩ ?_
        · first | exact boxed _ _ | exact (boxed _ _).drew
        · simp
        · first | exact box_new w0 #[.int .i64 s.id, .int .i64 s.kind, .slice la s.labels.length lc, .string s.nm, .string s.proc, .int .i64 s.x.op, .int .i64 s.x.n, .string s.x.nm, .slice ka s.x.ks.length kc, .bool s.has, .slice aa s.args.length ac, .slice ta s.thn.length tc, .slice ea s.els.length ec] 41 | exact (box_new w0 #[.int .i64 s.id, .int .i64 s.kind, .slice la s.labels.length lc, .string s.nm, .string s.proc, .int .i64 s.x.op, .int .i64 s.x.n, .string s.x.nm, .slice ka s.x.ks.length kc, .bool s.has, .slice aa s.args.length ac, .slice ta s.thn.length tc, .slice ea s.els.length ec] 41).next ((Below.refl _ _).drew)
        clear e0 e1 e2 e3 e4 e5 e6 e7 e8 e9 e10 e11 e12
        rintro w1 ⟨hb, hz, hbx⟩
        have HB1 := Lib.hid hb
        have HBX := Lib.hid hbx
        have HH1 := Lib.hid (Hang.mk (d := d) (s := s) (StrC.mono (cw_next hb) HLB.out) (ExC.mono (cw_next hb) HKB.out) (SlAt.imp HAB.out (fun _ _ _ _ => ArAt.mono (cw_next hb))) (StC.next HTHN.out hb) (StC.next HEB.out hb))
        have x0 := hbx 0 _ rfl
        have x1 := hbx 1 _ rfl
        have x2 := hbx 2 _ rfl
        have x3 := hbx 3 _ rfl
        have x4 := hbx 4 _ rfl
        have x5 := hbx 5 _ rfl
        have x6 := hbx 6 _ rfl
        have x7 := hbx 7 _ rfl
        have x8 := hbx 8 _ rfl
        have x9 := hbx 9 _ rfl
        have x10 := hbx 10 _ rfl
        have x11 := hbx 11 _ rfl
        have x12 := hbx 12 _ rfl
        clear hb hbx HLB HKB HAB HEB
        go_wp2_with fail
        have hone := copyOne_any d s ka la aa ta ea kc lc ac tc ec w1 HOK.out HJ3.out HJ4.out HH1.out (LightS.of HWS.out)
        unfold stCells at hone
        refine hone.mono ?_
        clear hone
        rintro e w2 ⟨ka2, kc2, la2, lc2, aa2, ac2, rfl, hk2, hl2, ha2, hb2⟩
        unfold stCells
        have HK2 := Lib.hid hk2
        have HL2 := Lib.hid hl2
        have HA2 := Lib.hid ha2
        have HB2 := Lib.hid hb2
        have HBX2 := Lib.hid (HBX.out.next hb2)
        clear hk2 hl2 ha2 hb2 x0 x1 x2 x3 x4 x5 x6 x7 x8 x9 x10 x11 x12
        go_upto_region 6 with fail
        refine cut_world (fun wx => Below w2.heap.size w2 wx ∧ w2.heap.size < wx.heap.size ∧ BoxAt wx w2.heap.size [.int .i64 s.id, .int .i64 s.kind, .slice la2 s.labels.length lc2, .string s.nm, .string s.proc, .int .i64 s.x.op, .int .i64 s.x.n, .string s.x.nm, .slice ka2 s.x.ks.length kc2, .bool s.has, .slice aa2 s.args.length ac2, .slice none 0 0, .slice none 0 0] ∧ Free wx w2.heap.size) ⟨boxed _ _, by simp, box_new w2 #[.int .i64 s.id, .int .i64 s.kind, .slice la2 s.labels.length lc2, .string s.nm, .string s.proc, .int .i64 s.x.op, .int .i64 s.x.n, .string s.x.nm, .slice ka2 s.x.ks.length kc2, .bool s.has, .slice aa2 s.args.length ac2, .slice none 0 0, .slice none 0 0] 41, fun j => by simp [go_sem]⟩ ?_
        rintro w3 ⟨hb3, hz3, hy3, hf3⟩
        have HB3 := Lib.hid hb3
        have HY3 := Lib.hid hy3
        have HF3 := Lib.hid hf3
        have HBX3 := Lib.hid (HBX2.out.next hb3)
        have HB13 := Lib.hid ((HB1.out.trans (HB2.out.mono HB1.out.size)).trans (hb3.mono (Nat.le_trans HB1.out.size HB2.out.size)))
        have HB03 := Lib.hid HB13.out
        have HTB2 := Lib.hid (HTB.out.next (HBel.out.trans ((HB1.out.trans (HB2.out.mono HB1.out.size)).mono HBel.out.size)))
        have HT3B := Lib.hid (HTB.out.next (HBel.out.trans (HB13.out.mono HBel.out.size)))
        have x0 := HBX3.out 0 _ rfl
        have t0 := HT3B.out 0 _ rfl
        clear hb3 hy3 hf3
        cases hid : (s.id == t.id) with
        | false =>
          have hpk : Hid (pick t s = s) := Lib.hid (by unfold pick; rw [if_neg (by simpa using hid)])
          go_upto_region 8 with fail
          have hq : Below w3.heap.size w3 w3.drew := (Below.refl _ _).drew
          have hneX : w2.heap.size ≠ w0.heap.size := by have := cell_lt (HBX2.out 0 _ rfl); omega
          have hneT : w2.heap.size ≠ w.heap.size := by have := cell_lt (HTB2.out 0 _ rfl); omega
          have KA0 := Lib.hid (cell_next hq (HBX3.out 11 _ rfl))
          have KA1 := Lib.hid (cell_next hq (HBX3.out 12 _ rfl))
          have KA2 := Lib.hid (cell_next hq (HT3B.out 0 _ rfl))
          have KA3 := Lib.hid (cell_next hq (HT3B.out 1 _ rfl))
          have KA4 := Lib.hid (cell_next hq (HT3B.out 2 _ rfl))
          have KA5 := Lib.hid (cell_next hq (HT3B.out 3 _ rfl))
          have KA6 := Lib.hid (cell_next hq (HT3B.out 4 _ rfl))
          have KA7 := Lib.hid (cell_next hq (HT3B.out 5 _ rfl))
          have KA8 := Lib.hid (cell_next hq (HT3B.out 6 _ rfl))
          have KA9 := Lib.hid (cell_next hq (HT3B.out 7 _ rfl))
          have KA10 := Lib.hid (cell_next hq (HT3B.out 8 _ rfl))
          have KA11 := Lib.hid (cell_next hq (HT3B.out 9 _ rfl))
          have KA12 := Lib.hid (cell_next hq (HT3B.out 10 _ rfl))
          have KA13 := Lib.hid (cell_next hq (HT3B.out 11 _ rfl))
          have KA14 := Lib.hid (cell_next hq (HT3B.out 12 _ rfl))
          have HH3 := Lib.hid (HH1.out.next (HB2.out.trans (HB3.out.mono HB2.out.size)))
          have HHT3 := Lib.hid (HHT.out.next (HWB.out.trans (HB03.out.mono HWB.out.size)))
          obtain ⟨L4, hL4⟩ : ∃ L, Hid (putL t s.thn = L) := ⟨_, Lib.hid rfl⟩
          obtain ⟨L5, hL5⟩ : ∃ L, Hid (putL t s.els = L) := ⟨_, Lib.hid rfl⟩
          clear x0 t0
          go_region_held3 (fun w' => w'.cell? ⟨w0.heap.size, 11, none⟩ = some (.slice ta s.thn.length tc) ∧ w'.cell? ⟨w0.heap.size, 12, none⟩ = some (.slice ea s.els.length ec) ∧ w'.cell? ⟨w.heap.size, 0, none⟩ = some (.int .i64 t.id) ∧ w'.cell? ⟨w.heap.size, 1, none⟩ = some (.int .i64 t.kind) ∧ w'.cell? ⟨w.heap.size, 2, none⟩ = some (.slice lat t.labels.length lct) ∧ w'.cell? ⟨w.heap.size, 3, none⟩ = some (.string t.nm) ∧ w'.cell? ⟨w.heap.size, 4, none⟩ = some (.string t.proc) ∧ w'.cell? ⟨w.heap.size, 5, none⟩ = some (.int .i64 t.x.op) ∧ w'.cell? ⟨w.heap.size, 6, none⟩ = some (.int .i64 t.x.n) ∧ w'.cell? ⟨w.heap.size, 7, none⟩ = some (.string t.x.nm) ∧ w'.cell? ⟨w.heap.size, 8, none⟩ = some (.slice kat t.x.ks.length kct) ∧ w'.cell? ⟨w.heap.size, 9, none⟩ = some (.bool t.has) ∧ w'.cell? ⟨w.heap.size, 10, none⟩ = some (.slice aat t.args.length act) ∧ w'.cell? ⟨w.heap.size, 11, none⟩ = some (.slice tat t.thn.length tct) ∧ w'.cell? ⟨w.heap.size, 12, none⟩ = some (.slice eat t.els.length ect))
            (first
              | with_reducible exact ⟨KA0.out, KA1.out, KA2.out, KA3.out, KA4.out, KA5.out, KA6.out, KA7.out, KA8.out, KA9.out, KA10.out, KA11.out, KA12.out, KA13.out, KA14.out⟩
              | with_reducible exact ⟨KB0.out, KB1.out, KB2.out, KB3.out, KB4.out, KB5.out, KB6.out, KB7.out, KB8.out, KB9.out, KB10.out, KB11.out, KB12.out, KB13.out, KB14.out⟩
              | with_reducible exact ⟨KC0.out, KC1.out, KC2.out, KC3.out, KC4.out, KC5.out, KC6.out, KC7.out, KC8.out, KC9.out, KC10.out, KC11.out, KC12.out, KC13.out, KC14.out⟩
              | with_reducible exact ⟨far1 hneX KC0.out, far1 hneX KC1.out, far1 hneT KC2.out, far1 hneT KC3.out, far1 hneT KC4.out, far1 hneT KC5.out, far1 hneT KC6.out, far1 hneT KC7.out, far1 hneT KC8.out, far1 hneT KC9.out, far1 hneT KC10.out, far1 hneT KC11.out, far1 hneT KC12.out, far1 hneT KC13.out, far1 hneT KC14.out⟩
              | with_reducible exact ⟨far1 hneX (far1 hneX KC0.out), far1 hneX (far1 hneX KC1.out), far1 hneT (far1 hneT KC2.out), far1 hneT (far1 hneT KC3.out), far1 hneT (far1 hneT KC4.out), far1 hneT (far1 hneT KC5.out), far1 hneT (far1 hneT KC6.out), far1 hneT (far1 hneT KC7.out), far1 hneT (far1 hneT KC8.out), far1 hneT (far1 hneT KC9.out), far1 hneT (far1 hneT KC10.out), far1 hneT (far1 hneT KC11.out), far1 hneT (far1 hneT KC12.out), far1 hneT (far1 hneT KC13.out), far1 hneT (far1 hneT KC14.out)⟩)
            (first
              | (go_at_call 76
                 have hq5 := hq4
                 refine (show Calls Try.prog 76 #[.slice ea s.els.length ec, .agg #[.int .i64 t.id, .int .i64 t.kind, .slice lat t.labels.length lct, .string t.nm, .string t.proc, .int .i64 t.x.op, .int .i64 t.x.n, .string t.x.nm, .slice kat t.x.ks.length kct, .bool t.has, .slice aat t.args.length act, .slice tat t.thn.length tct, .slice eat t.els.length ect]] w4 (PutMade (d + D) (putL t s.els) w4) from IH.out s.els _ w4 (HH3.out.next hq4).els (by have := HWS.out; rw [wtS_eq] at this; omega) (HHT3.out.next hq4)).mono ?_
                 rw [hL5.out]
                 rintro e w5 ⟨v5, rfl, hst5, hb5⟩
                 obtain ⟨ea5, ec5, rfl, -, -⟩ := hst5.form
                 have HST5 := Lib.hid hst5
                 have hq5 := below_then hb5 hq4
                 have HB5 := Lib.hid hb5
                 have hy5 := HY3.out.next hq5
                 have hf5 := HF3.out.next hz3 hq5
                 have HY5 := Lib.hid hy5
                 have HF5 := Lib.hid hf5
                 have y11 := hy5 11 _ rfl
                 have y12 := hy5 12 _ rfl
                 have f11 := hf5 11
                 have f12 := hf5 12
                 have KC0 := Lib.hid (cell_next hb5 KB0.out)
                 have KC1 := Lib.hid (cell_next hb5 KB1.out)
                 have KC2 := Lib.hid (cell_next hb5 KB2.out)
                 have KC3 := Lib.hid (cell_next hb5 KB3.out)
                 have KC4 := Lib.hid (cell_next hb5 KB4.out)
                 have KC5 := Lib.hid (cell_next hb5 KB5.out)
                 have KC6 := Lib.hid (cell_next hb5 KB6.out)
                 have KC7 := Lib.hid (cell_next hb5 KB7.out)
                 have KC8 := Lib.hid (cell_next hb5 KB8.out)
                 have KC9 := Lib.hid (cell_next hb5 KB9.out)
                 have KC10 := Lib.hid (cell_next hb5 KB10.out)
                 have KC11 := Lib.hid (cell_next hb5 KB11.out)
                 have KC12 := Lib.hid (cell_next hb5 KB12.out)
                 have KC13 := Lib.hid (cell_next hb5 KB13.out)
                 have KC14 := Lib.hid (cell_next hb5 KB14.out))
              | (go_at_call 76
                 refine (show Calls Try.prog 76 #[.slice ta s.thn.length tc, .agg #[.int .i64 t.id, .int .i64 t.kind, .slice lat t.labels.length lct, .string t.nm, .string t.proc, .int .i64 t.x.op, .int .i64 t.x.n, .string t.x.nm, .slice kat t.x.ks.length kct, .bool t.has, .slice aat t.args.length act, .slice tat t.thn.length tct, .slice eat t.els.length ect]] w3.drew (PutMade (d + D) (putL t s.thn) w3.drew) from IH.out s.thn _ w3.drew (HH3.out.next hq).thn (by have := HWS.out; rw [wtS_eq] at this; omega) (HHT3.out.next hq)).mono ?_
                 rw [hL4.out]
                 rintro e w4 ⟨v4, rfl, hst4, hb4⟩
                 obtain ⟨ta4, tc4, rfl, -, -⟩ := hst4.form
                 have HST4 := Lib.hid hst4
                 have hq4 := below_then hb4 hq
                 have KB0 := Lib.hid (cell_next hb4 KA0.out)
                 have KB1 := Lib.hid (cell_next hb4 KA1.out)
                 have KB2 := Lib.hid (cell_next hb4 KA2.out)
                 have KB3 := Lib.hid (cell_next hb4 KA3.out)
                 have KB4 := Lib.hid (cell_next hb4 KA4.out)
                 have KB5 := Lib.hid (cell_next hb4 KA5.out)
                 have KB6 := Lib.hid (cell_next hb4 KA6.out)
                 have KB7 := Lib.hid (cell_next hb4 KA7.out)
                 have KB8 := Lib.hid (cell_next hb4 KA8.out)
                 have KB9 := Lib.hid (cell_next hb4 KA9.out)
                 have KB10 := Lib.hid (cell_next hb4 KA10.out)
                 have KB11 := Lib.hid (cell_next hb4 KA11.out)
                 have KB12 := Lib.hid (cell_next hb4 KA12.out)
                 have KB13 := Lib.hid (cell_next hb4 KA13.out)
                 have KB14 := Lib.hid (cell_next hb4 KA14.out)))
          all_goals
            have n1 := HB1.out.size
            have n2 := HB2.out.size
            have n4 := hq4.size
            have n5 := hq5.size
            have hb25 := HB3.out.trans (hq5.mono HB3.out.size)
            have hb05 := HB13.out.trans (hq5.mono HB13.out.size)
            go_upto_region 9 with fail
            refine cut_world (fun wx => Below w0.heap.size w0 wx ∧ w5.heap.size ≤ wx.heap.size ∧ BoxAt wx w2.heap.size [.int .i64 s.id, .int .i64 s.kind, .slice la2 s.labels.length lc2, .string s.nm, .string s.proc, .int .i64 s.x.op, .int .i64 s.x.n, .string s.x.nm, .slice ka2 s.x.ks.length kc2, .bool s.has, .slice aa2 s.args.length ac2, .slice ta4 L4.length tc4, .slice ea5 L5.length ec5] ∧ StQ (d + D) (nwC w0.heap.size wx) [.int .i64 s.id, .int .i64 s.kind, .slice la2 s.labels.length lc2, .string s.nm, .string s.proc, .int .i64 s.x.op, .int .i64 s.x.n, .string s.x.nm, .slice ka2 s.x.ks.length kc2, .bool s.has, .slice aa2 s.args.length ac2, .slice ta4 L4.length tc4, .slice ea5 L5.length ec5] (putS t s)) ⟨?_, ?_, ?_, ?_⟩ ?_
            · exact ((hb05.setCell (p := ⟨_, _, none⟩) (by simp; omega) _).setCell (p := ⟨_, _, none⟩) (by simp; omega) _)
            · simp only [World.size_setCell]; exact Nat.le_refl _
            · first
                | exact (HY5.out.put (j := 11) (x := .slice ta4 L4.length tc4) (by simp)).put (j := 12) (x := .slice ea5 L5.length ec5) (by simp)
                | exact (HY5.out.put (j := 12) (x := .slice ea5 L5.length ec5) (by simp)).put (j := 11) (x := .slice ta4 L4.length tc4) (by simp)
            · have hs3 : w2.heap.size < w3.drew.heap.size := by simp; omega
              refine ⟨.slice ka2 s.x.ks.length kc2, .slice la2 s.labels.length lc2, .slice aa2 s.args.length ac2, .slice ta4 L4.length tc4, .slice ea5 L5.length ec5, ?_, ?_, ?_, ?_, ?_, ?_, ?_, ?_, ?_, ?_, ?_⟩
              · rw [putS_eq, hpk.out]; rfl
              · rw [putS_eq, hpk.out]; exact HOK.out
              · rw [putS_eq, hpk.out]; exact ExC.mono (Cs.le_trans (le_ne (B := w1.heap.size) (B' := w0.heap.size) (Y := w2.heap.size) (w := w2) (w' := w5) hb25 (by omega) (.inr (Nat.le_refl _))) (Cs.le_trans (only_set (by simp)) (Cs.le_trans (only_set (by simp)) (only_le (fun g h => h.1) (fun _ _ _ h => h))))) (HK2.out.le (by omega))
              · rw [putS_eq, hpk.out]; exact HJ1.out
              · rw [putS_eq, hpk.out]; exact HJ2.out
              · rw [putS_eq, hpk.out]; exact HJ3.out
              · rw [putS_eq, hpk.out]; exact HJ4.out
              · rw [putS_eq, hpk.out]; exact StrC.mono (Cs.le_trans (le_ne (B := w1.heap.size) (B' := w0.heap.size) (Y := w2.heap.size) (w := w2) (w' := w5) hb25 (by omega) (.inr (Nat.le_refl _))) (Cs.le_trans (only_set (by simp)) (Cs.le_trans (only_set (by simp)) (only_le (fun g h => h.1) (fun _ _ _ h => h))))) HL2.out
              · rw [putS_eq, hpk.out]; exact SlAt.imp HA2.out (fun _ _ _ _ q => ArAt.mono (Cs.le_trans (le_ne (B := w1.heap.size) (B' := w0.heap.size) (Y := w2.heap.size) (w := w2) (w' := w5) hb25 (by omega) (.inr (Nat.le_refl _))) (Cs.le_trans (only_set (by simp)) (Cs.le_trans (only_set (by simp)) (only_le (fun g h => h.1) (fun _ _ _ h => h))))) (q.le (by omega)))
              · rw [putS_eq]; show StC _ _ _ (putL t s.thn); rw [hL4.out]; exact StC.mono (Cs.le_trans (le_ne (B' := w0.heap.size) (Y := w2.heap.size) HB5.out (by omega) (.inl hs3)) (Cs.le_trans (only_set (by simp)) (Cs.le_trans (only_set (by simp)) (only_le (fun g h => h.1) (fun _ _ _ h => h))))) HST4.out
              · rw [putS_eq]; show StC _ _ _ (putL t s.els); rw [hL5.out]; exact StC.mono (Cs.le_trans (le_ne (B' := w0.heap.size) (Y := w2.heap.size) (Below.refl _ _) (by omega) (.inl (by omega))) (Cs.le_trans (only_set (by simp)) (Cs.le_trans (only_set (by simp)) (only_le (fun g h => h.1) (fun _ _ _ h => h))))) HST5.out
            rintro w6 ⟨hb6, hz6, hy6, hq6⟩
            have HB6 := Lib.hid hb6
            have HQ6 := Lib.hid hq6
            have b0 := hy6 0 _ rfl
            have b1 := hy6 1 _ rfl
            have b2 := hy6 2 _ rfl
            have b3 := hy6 3 _ rfl
            have b4 := hy6 4 _ rfl
            have b5 := hy6 5 _ rfl
            have b6 := hy6 6 _ rfl
            have b7 := hy6 7 _ rfl
            have b8 := hy6 8 _ rfl
            have b9 := hy6 9 _ rfl
            have b10 := hy6 10 _ rfl
            have b11 := hy6 11 _ rfl
            have b12 := hy6 12 _ rfl
            have hown6 := ownsBelow HACC.out.own hb6
            rw [HCL.out] at hown6
            have HOWN6 := Lib.hid hown6
            have hz0 := HBel.out.size
            have hz6' := hb6.size
            clear hb6 hy6 hq6 hown6 y11 y12 f11 f12 hb25 hb05
            go_wp2_with (at_builtin; refine wpList_append_lies _ rfl (.tmp 34) (.tmp 36) 39 rfl wb.heap.size 41 i0 (.agg #[.int .i64 0, .int .i64 0, .slice none 0 0, .string ⟨#[]⟩, .string ⟨#[]⟩, .int .i64 0, .int .i64 0, .string ⟨#[]⟩, .slice none 0 0, .bool false, .slice none 0 0, .slice none 0 0, .slice none 0 0]) 13 208 Try.underlying39 hi hz0q hz1 hz2 rfl (by decide) _ _ _ rfl (HOWN6.out.alloc _) ⟨_, 0, none⟩ 1 1 [.int .i64 s.id, .int .i64 s.kind, .slice la2 s.labels.length lc2, .string s.nm, .string s.proc, .int .i64 s.x.op, .int .i64 s.x.n, .string s.x.nm, .slice ka2 s.x.ks.length kc2, .bool s.has, .slice aa2 s.args.length ac2, .slice ta4 L4.length tc4, .slice ea5 L5.length ec5] rfl rfl ?_ (by simp [Value.oneCell']) (by decide) ?_ ?_ ?_ _ rfl ?_)
            · intro j u h
              rw [Addr.add_lit, World.cell?_alloc_new]
              simpa using h
            · unfold maxLen; omega
            · omega
            · simp only [World.size_alloc]
              omega
            intro g10 cap10 w10 hown10 hg10 hat10 hlt10
            have HOWN10 := Lib.hid hown10
            have HG10 := Lib.hid hg10
            have HAT10 := Lib.hid hat10
            clear hown10 hg10 hat10 hlt10
            go_wp2_with fail
            go_roundw
            case rel =>
              refine ⟨k + 1, .slice (some ⟨g10, 0, none⟩) (k + 1) cap10, rows ++ [[.int .i64 s.id, .int .i64 s.kind, .slice la2 s.labels.length lc2, .string s.nm, .string s.proc, .int .i64 s.x.op, .int .i64 s.x.n, .string s.x.nm, .slice ka2 s.x.ks.length kc2, .bool s.has, .slice aa2 s.args.length ac2, .slice ta4 L4.length tc4, .slice ea5 L5.length ec5]], by omega, by go_num, rfl, ?_, ?_⟩
              · have hm := HACC.out.more (v4 := .slice (some ⟨g10, 0, none⟩) (k + 1) cap10) (c := [.int .i64 s.id, .int .i64 s.kind, .slice la2 s.labels.length lc2, .string s.nm, .string s.proc, .int .i64 s.x.op, .int .i64 s.x.n, .string s.x.nm, .slice ka2 s.x.ks.length kc2, .bool s.has, .slice aa2 s.args.length ac2, .slice ta4 L4.length tc4, .slice ea5 L5.length ec5]) (x := putS t s) (StQ.mono (d + D)) (Below.refl _ _) HBel.out.size HB6.out (boxed w6 _) HG10.out (fun z hz => by have hzz : g10 = z := by { simpa [Value.ownBlock] using hz }; subst hzz; exact HAT10.out.imp id fun h => by { (try simp only [World.size_alloc] at h); omega }) rfl HQ6.out (by rw [HCL.out]; exact HOWN10.out)
                rw [List.take_succ_eq_append_getElem hlt, hs.out, putL_snoc]
                exact hm
              · exact (HBel.out.trans ((HB6.out.trans ((boxed w6 _).mono HB6.out.size)).mono HBel.out.size)).grown HG10.out (by simp only [World.size_alloc]; omega) fun z hz => (HACC.out.own.lt z hz).1
            case measure => simp [intOf]; omega
        | true =>
          have hpk : Hid (pick t s = t) := Lib.hid (by unfold pick; rw [if_pos (by simpa using hid)])
          obtain ⟨wo, hwo⟩ : ∃ wo : World, wo = w3 := ⟨_, rfl⟩
          subst hwo
          have hzo := hz3
          have t1 := HT3B.out 1 _ rfl
          have t2 := HT3B.out 2 _ rfl
          have t3 := HT3B.out 3 _ rfl
          have t4 := HT3B.out 4 _ rfl
          have t5 := HT3B.out 5 _ rfl
          have t6 := HT3B.out 6 _ rfl
          have t7 := HT3B.out 7 _ rfl
          have t8 := HT3B.out 8 _ rfl
          have t9 := HT3B.out 9 _ rfl
          have t10 := HT3B.out 10 _ rfl
          have t11 := HT3B.out 11 _ rfl
          have t12 := HT3B.out 12 _ rfl
          have HHTo := Lib.hid (HHT.out.next (HWB.out.trans (HB13.out.mono HWB.out.size)))
          go_wp2_with fail
          have hone := copyOne_any D t kat lat aat tat eat kct lct act tct ect wo HOKT.out HT3.out HT4.out HHTo.out HWT.out
          unfold stCells at hone
          refine hone.mono ?_
          clear hone
          rintro e w4 ⟨ka3, kc3, la3, lc3, aa3, ac3, rfl, hk3, hl3, ha3, hb4⟩
          unfold stCells
          have HK3 := Lib.hid hk3
          have HL3 := Lib.hid hl3
          have HA3 := Lib.hid ha3
          have hy4 := HY3.out.next hb4
          have hf4 := HF3.out.next hz3 hb4
          have HY4 := Lib.hid hy4
          have HF4 := Lib.hid hf4
          have HB24 := Lib.hid (HB3.out.trans (hb4.mono HB3.out.size))
          have hz4 := hb4.size
          have y0 := hy4 0 _ rfl
          have f0 := hf4 0
          have y1 := hy4 1 _ rfl
          have f1 := hf4 1
          have y2 := hy4 2 _ rfl
          have f2 := hf4 2
          have y3 := hy4 3 _ rfl
          have f3 := hf4 3
          have y4 := hy4 4 _ rfl
          have f4 := hf4 4
          have y5 := hy4 5 _ rfl
          have f5 := hf4 5
          have y6 := hy4 6 _ rfl
          have f6 := hf4 6
          have y7 := hy4 7 _ rfl
          have f7 := hf4 7
          have y8 := hy4 8 _ rfl
          have f8 := hf4 8
          have y9 := hy4 9 _ rfl
          have f9 := hf4 9
          have y10 := hy4 10 _ rfl
          have f10 := hf4 10
          have y11 := hy4 11 _ rfl
          have f11 := hf4 11
          have y12 := hy4 12 _ rfl
          have f12 := hf4 12
          clear hk3 hl3 ha3 hb4 hy4 hf4 x0 t0 t1 t2 t3 t4 t5 t6 t7 t8 t9 t10 t11 t12
          go_upto_region 8 with fail
          refine cut_world (fun wx => Below w2.heap.size w2 wx ∧ w4.heap.size ≤ wx.heap.size ∧ BoxAt wx w2.heap.size [.int .i64 t.id, .int .i64 t.kind, .slice la3 t.labels.length lc3, .string t.nm, .string t.proc, .int .i64 t.x.op, .int .i64 t.x.n, .string t.x.nm, .slice ka3 t.x.ks.length kc3, .bool t.has, .slice aa3 t.args.length ac3, .slice none 0 0, .slice none 0 0] ∧ Free wx w2.heap.size ∧ ExC (nwC wo.heap.size wx) D (.slice ka3 t.x.ks.length kc3) t.x.ks ∧ StrC (nwC wo.heap.size wx) (.slice la3 t.labels.length lc3) t.labels ∧ SlAt 6 (ArAt (nwC wo.heap.size wx) D) (.slice aa3 t.args.length ac3) t.args) ⟨below13 HB24.out (Nat.le_refl _), by rw [size13]; exact Nat.le_refl _, pbox13 HY4.out, free13 HF4.out, ExC.mono (only13 (by show ¬ wo.heap.size ≤ w2.heap.size; omega)) HK3.out, StrC.mono (only13 (by show ¬ wo.heap.size ≤ w2.heap.size; omega)) HL3.out, SlAt.imp HA3.out (fun _ _ _ _ => ArAt.mono (only13 (by show ¬ wo.heap.size ≤ w2.heap.size; omega)))⟩ ?_
          clear y0 f0 y1 f1 y2 f2 y3 f3 y4 f4 y5 f5 y6 f6 y7 f7 y8 f8 y9 f9 y10 f10 y11 f11 y12 f12 HB24 HY4 HF4 HK3 HL3 HA3 HY3 HF3 HBX3 HB13 HB03 HT3B HB3 hz3
          rintro w3 ⟨hb3, hz34, hy3, hf3, hk3, hl3, ha3⟩
          have hz3 : w2.heap.size < w3.heap.size := by omega
          have HB3 := Lib.hid hb3
          have HY3 := Lib.hid hy3
          have HF3 := Lib.hid hf3
          have HK3 := Lib.hid hk3
          have HL3 := Lib.hid hl3
          have HA3 := Lib.hid ha3
          have HBX3 := Lib.hid (HBX2.out.next hb3)
          have HB13 := Lib.hid ((HB1.out.trans (HB2.out.mono HB1.out.size)).trans (hb3.mono (Nat.le_trans HB1.out.size HB2.out.size)))
          have HB03 := Lib.hid HB13.out
          have HT3B := Lib.hid (HTB.out.next (HBel.out.trans (HB13.out.mono HBel.out.size)))
          have x0 := HBX3.out 0 _ rfl
          have t0 := HT3B.out 0 _ rfl
          clear hb3 hy3 hf3 hk3 hl3 ha3
          have hq : Below w3.heap.size w3 w3.drew := (Below.refl _ _).drew
          have hneX : w2.heap.size ≠ w0.heap.size := by have := cell_lt (HBX2.out 0 _ rfl); omega
          have hneT : w2.heap.size ≠ w.heap.size := by have := cell_lt (HTB2.out 0 _ rfl); omega
          have KA0 := Lib.hid (cell_next hq (HBX3.out 11 _ rfl))
          have KA1 := Lib.hid (cell_next hq (HBX3.out 12 _ rfl))
          have KA2 := Lib.hid (cell_next hq (HT3B.out 0 _ rfl))
          have KA3 := Lib.hid (cell_next hq (HT3B.out 1 _ rfl))
          have KA4 := Lib.hid (cell_next hq (HT3B.out 2 _ rfl))
          have KA5 := Lib.hid (cell_next hq (HT3B.out 3 _ rfl))
          have KA6 := Lib.hid (cell_next hq (HT3B.out 4 _ rfl))
          have KA7 := Lib.hid (cell_next hq (HT3B.out 5 _ rfl))
          have KA8 := Lib.hid (cell_next hq (HT3B.out 6 _ rfl))
          have KA9 := Lib.hid (cell_next hq (HT3B.out 7 _ rfl))
          have KA10 := Lib.hid (cell_next hq (HT3B.out 8 _ rfl))
          have KA11 := Lib.hid (cell_next hq (HT3B.out 9 _ rfl))
          have KA12 := Lib.hid (cell_next hq (HT3B.out 10 _ rfl))
          have KA13 := Lib.hid (cell_next hq (HT3B.out 11 _ rfl))
          have KA14 := Lib.hid (cell_next hq (HT3B.out 12 _ rfl))
          have HH3 := Lib.hid (HH1.out.next (HB2.out.trans (HB3.out.mono HB2.out.size)))
          have HHT3 := Lib.hid (HHT.out.next (HWB.out.trans (HB03.out.mono HWB.out.size)))
          obtain ⟨L4, hL4⟩ : ∃ L, Hid (putL t s.thn = L) := ⟨_, Lib.hid rfl⟩
          obtain ⟨L5, hL5⟩ : ∃ L, Hid (putL t s.els = L) := ⟨_, Lib.hid rfl⟩
          clear x0 t0
          go_region_held3 (fun w' => w'.cell? ⟨w0.heap.size, 11, none⟩ = some (.slice ta s.thn.length tc) ∧ w'.cell? ⟨w0.heap.size, 12, none⟩ = some (.slice ea s.els.length ec) ∧ w'.cell? ⟨w.heap.size, 0, none⟩ = some (.int .i64 t.id) ∧ w'.cell? ⟨w.heap.size, 1, none⟩ = some (.int .i64 t.kind) ∧ w'.cell? ⟨w.heap.size, 2, none⟩ = some (.slice lat t.labels.length lct) ∧ w'.cell? ⟨w.heap.size, 3, none⟩ = some (.string t.nm) ∧ w'.cell? ⟨w.heap.size, 4, none⟩ = some (.string t.proc) ∧ w'.cell? ⟨w.heap.size, 5, none⟩ = some (.int .i64 t.x.op) ∧ w'.cell? ⟨w.heap.size, 6, none⟩ = some (.int .i64 t.x.n) ∧ w'.cell? ⟨w.heap.size, 7, none⟩ = some (.string t.x.nm) ∧ w'.cell? ⟨w.heap.size, 8, none⟩ = some (.slice kat t.x.ks.length kct) ∧ w'.cell? ⟨w.heap.size, 9, none⟩ = some (.bool t.has) ∧ w'.cell? ⟨w.heap.size, 10, none⟩ = some (.slice aat t.args.length act) ∧ w'.cell? ⟨w.heap.size, 11, none⟩ = some (.slice tat t.thn.length tct) ∧ w'.cell? ⟨w.heap.size, 12, none⟩ = some (.slice eat t.els.length ect))
            (first
              | with_reducible exact ⟨KA0.out, KA1.out, KA2.out, KA3.out, KA4.out, KA5.out, KA6.out, KA7.out, KA8.out, KA9.out, KA10.out, KA11.out, KA12.out, KA13.out, KA14.out⟩
              | with_reducible exact ⟨KB0.out, KB1.out, KB2.out, KB3.out, KB4.out, KB5.out, KB6.out, KB7.out, KB8.out, KB9.out, KB10.out, KB11.out, KB12.out, KB13.out, KB14.out⟩
              | with_reducible exact ⟨KC0.out, KC1.out, KC2.out, KC3.out, KC4.out, KC5.out, KC6.out, KC7.out, KC8.out, KC9.out, KC10.out, KC11.out, KC12.out, KC13.out, KC14.out⟩
              | with_reducible exact ⟨far1 hneX KC0.out, far1 hneX KC1.out, far1 hneT KC2.out, far1 hneT KC3.out, far1 hneT KC4.out, far1 hneT KC5.out, far1 hneT KC6.out, far1 hneT KC7.out, far1 hneT KC8.out, far1 hneT KC9.out, far1 hneT KC10.out, far1 hneT KC11.out, far1 hneT KC12.out, far1 hneT KC13.out, far1 hneT KC14.out⟩
              | with_reducible exact ⟨far1 hneX (far1 hneX KC0.out), far1 hneX (far1 hneX KC1.out), far1 hneT (far1 hneT KC2.out), far1 hneT (far1 hneT KC3.out), far1 hneT (far1 hneT KC4.out), far1 hneT (far1 hneT KC5.out), far1 hneT (far1 hneT KC6.out), far1 hneT (far1 hneT KC7.out), far1 hneT (far1 hneT KC8.out), far1 hneT (far1 hneT KC9.out), far1 hneT (far1 hneT KC10.out), far1 hneT (far1 hneT KC11.out), far1 hneT (far1 hneT KC12.out), far1 hneT (far1 hneT KC13.out), far1 hneT (far1 hneT KC14.out)⟩)
            (first
              | (go_at_call 76
                 have hq5 := hq4
                 refine (show Calls Try.prog 76 #[.slice ea s.els.length ec, .agg #[.int .i64 t.id, .int .i64 t.kind, .slice lat t.labels.length lct, .string t.nm, .string t.proc, .int .i64 t.x.op, .int .i64 t.x.n, .string t.x.nm, .slice kat t.x.ks.length kct, .bool t.has, .slice aat t.args.length act, .slice tat t.thn.length tct, .slice eat t.els.length ect]] w4 (PutMade (d + D) (putL t s.els) w4) from IH.out s.els _ w4 (HH3.out.next hq4).els (by have := HWS.out; rw [wtS_eq] at this; omega) (HHT3.out.next hq4)).mono ?_
                 rw [hL5.out]
                 rintro e w5 ⟨v5, rfl, hst5, hb5⟩
                 obtain ⟨ea5, ec5, rfl, -, -⟩ := hst5.form
                 have HST5 := Lib.hid hst5
                 have hq5 := below_then hb5 hq4
                 have HB5 := Lib.hid hb5
                 have hy5 := HY3.out.next hq5
                 have hf5 := HF3.out.next hz3 hq5
                 have HY5 := Lib.hid hy5
                 have HF5 := Lib.hid hf5
                 have y11 := hy5 11 _ rfl
                 have y12 := hy5 12 _ rfl
                 have f11 := hf5 11
                 have f12 := hf5 12
                 have KC0 := Lib.hid (cell_next hb5 KB0.out)
                 have KC1 := Lib.hid (cell_next hb5 KB1.out)
                 have KC2 := Lib.hid (cell_next hb5 KB2.out)
                 have KC3 := Lib.hid (cell_next hb5 KB3.out)
                 have KC4 := Lib.hid (cell_next hb5 KB4.out)
                 have KC5 := Lib.hid (cell_next hb5 KB5.out)
                 have KC6 := Lib.hid (cell_next hb5 KB6.out)
                 have KC7 := Lib.hid (cell_next hb5 KB7.out)
                 have KC8 := Lib.hid (cell_next hb5 KB8.out)
                 have KC9 := Lib.hid (cell_next hb5 KB9.out)
                 have KC10 := Lib.hid (cell_next hb5 KB10.out)
                 have KC11 := Lib.hid (cell_next hb5 KB11.out)
                 have KC12 := Lib.hid (cell_next hb5 KB12.out)
                 have KC13 := Lib.hid (cell_next hb5 KB13.out)
                 have KC14 := Lib.hid (cell_next hb5 KB14.out))
              | (go_at_call 76
                 refine (show Calls Try.prog 76 #[.slice ta s.thn.length tc, .agg #[.int .i64 t.id, .int .i64 t.kind, .slice lat t.labels.length lct, .string t.nm, .string t.proc, .int .i64 t.x.op, .int .i64 t.x.n, .string t.x.nm, .slice kat t.x.ks.length kct, .bool t.has, .slice aat t.args.length act, .slice tat t.thn.length tct, .slice eat t.els.length ect]] w3.drew (PutMade (d + D) (putL t s.thn) w3.drew) from IH.out s.thn _ w3.drew (HH3.out.next hq).thn (by have := HWS.out; rw [wtS_eq] at this; omega) (HHT3.out.next hq)).mono ?_
                 rw [hL4.out]
                 rintro e w4 ⟨v4, rfl, hst4, hb4⟩
                 obtain ⟨ta4, tc4, rfl, -, -⟩ := hst4.form
                 have HST4 := Lib.hid hst4
                 have hq4 := below_then hb4 hq
                 have KB0 := Lib.hid (cell_next hb4 KA0.out)
                 have KB1 := Lib.hid (cell_next hb4 KA1.out)
                 have KB2 := Lib.hid (cell_next hb4 KA2.out)
                 have KB3 := Lib.hid (cell_next hb4 KA3.out)
                 have KB4 := Lib.hid (cell_next hb4 KA4.out)
                 have KB5 := Lib.hid (cell_next hb4 KA5.out)
                 have KB6 := Lib.hid (cell_next hb4 KA6.out)
                 have KB7 := Lib.hid (cell_next hb4 KA7.out)
                 have KB8 := Lib.hid (cell_next hb4 KA8.out)
                 have KB9 := Lib.hid (cell_next hb4 KA9.out)
                 have KB10 := Lib.hid (cell_next hb4 KA10.out)
                 have KB11 := Lib.hid (cell_next hb4 KA11.out)
                 have KB12 := Lib.hid (cell_next hb4 KA12.out)
                 have KB13 := Lib.hid (cell_next hb4 KA13.out)
                 have KB14 := Lib.hid (cell_next hb4 KA14.out)))
          all_goals
            have n1 := HB1.out.size
            have n2 := HB2.out.size
            have n4 := hq4.size
            have n5 := hq5.size
            have hb25 := HB3.out.trans (hq5.mono HB3.out.size)
            have hb05 := HB13.out.trans (hq5.mono HB13.out.size)
            go_upto_region 9 with fail
            refine cut_world (fun wx => Below w0.heap.size w0 wx ∧ w5.heap.size ≤ wx.heap.size ∧ BoxAt wx w2.heap.size [.int .i64 t.id, .int .i64 t.kind, .slice la3 t.labels.length lc3, .string t.nm, .string t.proc, .int .i64 t.x.op, .int .i64 t.x.n, .string t.x.nm, .slice ka3 t.x.ks.length kc3, .bool t.has, .slice aa3 t.args.length ac3, .slice ta4 L4.length tc4, .slice ea5 L5.length ec5] ∧ StQ (d + D) (nwC w0.heap.size wx) [.int .i64 t.id, .int .i64 t.kind, .slice la3 t.labels.length lc3, .string t.nm, .string t.proc, .int .i64 t.x.op, .int .i64 t.x.n, .string t.x.nm, .slice ka3 t.x.ks.length kc3, .bool t.has, .slice aa3 t.args.length ac3, .slice ta4 L4.length tc4, .slice ea5 L5.length ec5] (putS t s)) ⟨?_, ?_, ?_, ?_⟩ ?_
            · exact ((hb05.setCell (p := ⟨_, _, none⟩) (by simp; omega) _).setCell (p := ⟨_, _, none⟩) (by simp; omega) _)
            · simp only [World.size_setCell]; exact Nat.le_refl _
            · first
                | exact (HY5.out.put (j := 11) (x := .slice ta4 L4.length tc4) (by simp)).put (j := 12) (x := .slice ea5 L5.length ec5) (by simp)
                | exact (HY5.out.put (j := 12) (x := .slice ea5 L5.length ec5) (by simp)).put (j := 11) (x := .slice ta4 L4.length tc4) (by simp)
            · have hs3 : w2.heap.size < w3.drew.heap.size := by simp; omega
              refine ⟨.slice ka3 t.x.ks.length kc3, .slice la3 t.labels.length lc3, .slice aa3 t.args.length ac3, .slice ta4 L4.length tc4, .slice ea5 L5.length ec5, ?_, ?_, ?_, ?_, ?_, ?_, ?_, ?_, ?_, ?_, ?_⟩
              · rw [putS_eq, hpk.out]; rfl
              · rw [putS_eq, hpk.out]; exact HOKT.out
              · rw [putS_eq, hpk.out]; exact ExC.mono (Cs.le_trans (le_ne (B := wo.heap.size) (B' := w0.heap.size) (Y := w2.heap.size) (w := w3) (w' := w5) hq5 (by omega) (.inl hzo)) (Cs.le_trans (only_set (by simp)) (Cs.le_trans (only_set (by simp)) (only_le (fun g h => h.1) (fun _ _ _ h => h))))) (HK3.out.le (by omega))
              · rw [putS_eq, hpk.out]; exact HT1.out
              · rw [putS_eq, hpk.out]; exact HT2.out
              · rw [putS_eq, hpk.out]; exact HT3.out
              · rw [putS_eq, hpk.out]; exact HT4.out
              · rw [putS_eq, hpk.out]; exact StrC.mono (Cs.le_trans (le_ne (B := wo.heap.size) (B' := w0.heap.size) (Y := w2.heap.size) (w := w3) (w' := w5) hq5 (by omega) (.inl hzo)) (Cs.le_trans (only_set (by simp)) (Cs.le_trans (only_set (by simp)) (only_le (fun g h => h.1) (fun _ _ _ h => h))))) HL3.out
              · rw [putS_eq, hpk.out]; exact SlAt.imp HA3.out (fun _ _ _ _ q => ArAt.mono (Cs.le_trans (le_ne (B := wo.heap.size) (B' := w0.heap.size) (Y := w2.heap.size) (w := w3) (w' := w5) hq5 (by omega) (.inl hzo)) (Cs.le_trans (only_set (by simp)) (Cs.le_trans (only_set (by simp)) (only_le (fun g h => h.1) (fun _ _ _ h => h))))) (q.le (by omega)))
              · rw [putS_eq]; show StC _ _ _ (putL t s.thn); rw [hL4.out]; exact StC.mono (Cs.le_trans (le_ne (B' := w0.heap.size) (Y := w2.heap.size) HB5.out (by omega) (.inl hs3)) (Cs.le_trans (only_set (by simp)) (Cs.le_trans (only_set (by simp)) (only_le (fun g h => h.1) (fun _ _ _ h => h))))) HST4.out
              · rw [putS_eq]; show StC _ _ _ (putL t s.els); rw [hL5.out]; exact StC.mono (Cs.le_trans (le_ne (B' := w0.heap.size) (Y := w2.heap.size) (Below.refl _ _) (by omega) (.inl (by omega))) (Cs.le_trans (only_set (by simp)) (Cs.le_trans (only_set (by simp)) (only_le (fun g h => h.1) (fun _ _ _ h => h))))) HST5.out
            rintro w6 ⟨hb6, hz6, hy6, hq6⟩
            have HB6 := Lib.hid hb6
            have HQ6 := Lib.hid hq6
            have b0 := hy6 0 _ rfl
            have b1 := hy6 1 _ rfl
            have b2 := hy6 2 _ rfl
            have b3 := hy6 3 _ rfl
            have b4 := hy6 4 _ rfl
            have b5 := hy6 5 _ rfl
            have b6 := hy6 6 _ rfl
            have b7 := hy6 7 _ rfl
            have b8 := hy6 8 _ rfl
            have b9 := hy6 9 _ rfl
            have b10 := hy6 10 _ rfl
            have b11 := hy6 11 _ rfl
            have b12 := hy6 12 _ rfl
            have hown6 := ownsBelow HACC.out.own hb6
            rw [HCL.out] at hown6
            have HOWN6 := Lib.hid hown6
            have hz0 := HBel.out.size
            have hz6' := hb6.size
            clear hb6 hy6 hq6 hown6 y11 y12 f11 f12 hb25 hb05
            go_wp2_with (at_builtin; refine wpList_append_lies _ rfl (.tmp 34) (.tmp 36) 39 rfl wb.heap.size 41 i0 (.agg #[.int .i64 0, .int .i64 0, .slice none 0 0, .string ⟨#[]⟩, .string ⟨#[]⟩, .int .i64 0, .int .i64 0, .string ⟨#[]⟩, .slice none 0 0, .bool false, .slice none 0 0, .slice none 0 0, .slice none 0 0]) 13 208 Try.underlying39 hi hz0q hz1 hz2 rfl (by decide) _ _ _ rfl (HOWN6.out.alloc _) ⟨_, 0, none⟩ 1 1 [.int .i64 t.id, .int .i64 t.kind, .slice la3 t.labels.length lc3, .string t.nm, .string t.proc, .int .i64 t.x.op, .int .i64 t.x.n, .string t.x.nm, .slice ka3 t.x.ks.length kc3, .bool t.has, .slice aa3 t.args.length ac3, .slice ta4 L4.length tc4, .slice ea5 L5.length ec5] rfl rfl ?_ (by simp [Value.oneCell']) (by decide) ?_ ?_ ?_ _ rfl ?_)
            · intro j u h
              rw [Addr.add_lit, World.cell?_alloc_new]
              simpa using h
            · unfold maxLen; omega
            · omega
            · simp only [World.size_alloc]
              omega
            intro g10 cap10 w10 hown10 hg10 hat10 hlt10
            have HOWN10 := Lib.hid hown10
            have HG10 := Lib.hid hg10
            have HAT10 := Lib.hid hat10
            clear hown10 hg10 hat10 hlt10
            go_wp2_with fail
            go_roundw
            case rel =>
              refine ⟨k + 1, .slice (some ⟨g10, 0, none⟩) (k + 1) cap10, rows ++ [[.int .i64 t.id, .int .i64 t.kind, .slice la3 t.labels.length lc3, .string t.nm, .string t.proc, .int .i64 t.x.op, .int .i64 t.x.n, .string t.x.nm, .slice ka3 t.x.ks.length kc3, .bool t.has, .slice aa3 t.args.length ac3, .slice ta4 L4.length tc4, .slice ea5 L5.length ec5]], by omega, by go_num, rfl, ?_, ?_⟩
              · have hm := HACC.out.more (v4 := .slice (some ⟨g10, 0, none⟩) (k + 1) cap10) (c := [.int .i64 t.id, .int .i64 t.kind, .slice la3 t.labels.length lc3, .string t.nm, .string t.proc, .int .i64 t.x.op, .int .i64 t.x.n, .string t.x.nm, .slice ka3 t.x.ks.length kc3, .bool t.has, .slice aa3 t.args.length ac3, .slice ta4 L4.length tc4, .slice ea5 L5.length ec5]) (x := putS t s) (StQ.mono (d + D)) (Below.refl _ _) HBel.out.size HB6.out (boxed w6 _) HG10.out (fun z hz => by have hzz : g10 = z := by { simpa [Value.ownBlock] using hz }; subst hzz; exact HAT10.out.imp id fun h => by { (try simp only [World.size_alloc] at h); omega }) rfl HQ6.out (by rw [HCL.out]; exact HOWN10.out)
                rw [List.take_succ_eq_append_getElem hlt, hs.out, putL_snoc]
                exact hm
              · exact (HBel.out.trans ((HB6.out.trans ((boxed w6 _).mono HB6.out.size)).mono HBel.out.size)).grown HG10.out (by simp only [World.size_alloc]; omega) fun z hz => (HACC.out.own.lt z hz).1
            case measure => simp [intOf]; omega
      · have hlt' : ¬ (k : Int) < (l.length : Int) := by omega
        have hke : k = l.length := by omega
        subst hke
        rw [List.take_length] at HACC
        have hzb2 := HBB.out.size
        clear hbel hwbel
        go_wp2_with fail
        go_ret
        have hst := Acc.stC HACC.out (by rw [putL_map, List.length_map]; omega)
        refine ⟨_, rfl, ?_, HWB.out⟩
        rw [show d + 1 + D = d + D + 1 by omega]
        exact StC.mono (only_le (fun g (h : wb.heap.size ≤ g) => (by omega : w.heap.size ≤ g)) (fun _ _ _ h => h)) hst
end Go.Proofs.Ytghlmengcidmdaa.Tr
end
section
/- What Put, Copy of the reference make: a program anew in which the statement of that id is another one. Conditions: they lie in memory and are light. -/
namespace Go.Proofs.Ytghlmengcidmdaa.Tr
open Go.RowKit Go.Proofs.Ytghlmengcidmdaa.Lx Go.Proofs.Ytghlmengcidmdaa.Wd
def putPc (t : St) (f : Pc) : Pc := ⟨f.nm, f.params, f.vars, putL t f.body, f.fin⟩
def putPr (t : St) (p : Pr) : Pr := ⟨p.globals, p.procs.map (putPc t)⟩
theorem wtPc_len : ∀ l : List Pc, l.length ≤ (l.map wtPc).sum := by
  intro l
  induction l with
  | nil => simp
  | cons q r ih => simp only [List.map_cons, List.sum_cons, List.length_cons]; have : 1 ≤ wtPc q := by unfold wtPc; omega
                   omega
theorem infoPc : (Try.prog.info? 55).map (fun i => (i.zero, i.size, i.bytes)) = some (some (.agg #[.string ⟨#[]⟩, .slice none 0 0, .slice none 0 0, .slice none 0 0, .slice none 0 0]), 5, 112) := by kernel_rfl
def paC (q : Pa) : List Value := [.string q.nm, .bool q.ref]
def paRows : List Pa → List Value
  | [] => []
  | q :: r => .string q.nm :: .bool q.ref :: paRows r
theorem paRows_len : ∀ l : List Pa, (paRows l).length = l.length * 2 := by
  intro l
  induction l with
  | nil => rfl
  | cons q r ih => simp only [paRows, List.length_cons, ih]; omega
theorem paRows_flat : ∀ l : List Pa, paRows l = (l.map paC).flatten := by
  intro l
  induction l with
  | nil => rfl
  | cons q r ih => simp only [paRows, paC, List.map_cons, List.flatten_cons, ih]; rfl
theorem paRows_one : ∀ l : List Pa, ∀ u ∈ paRows l, u.oneCell' = true := by
  intro l
  induction l with
  | nil => intro u h; cases h
  | cons q r ih =>
    intro u h
    simp only [paRows, List.mem_cons] at h
    rcases h with rfl | rfl | h
    · rfl
    · rfl
    · exact ih u h
theorem paRows_at {C : Cs} {g : Nat} : ∀ (l : List Pa) (o : Nat), (∀ i (h : i < l.length), PaAt C g (o + i * 2) l[i]) → ∀ j u, (paRows l)[j]? = some u → C g (o + j) u := by
  intro l
  induction l with
  | nil => intro o _ j u h; simp [paRows] at h
  | cons q r ih =>
    intro o h j u hu
    match j, hu with
    | 0, hu =>
      have h0 := (h 0 (by simp)).1
      simp only [paRows, List.getElem?_cons_zero, Option.some.injEq] at hu
      subst hu
      simpa using h0
    | 1, hu =>
      have h0 := (h 0 (by simp)).2.1
      simp only [paRows, List.getElem?_cons_succ, List.getElem?_cons_zero, Option.some.injEq] at hu
      subst hu
      simpa using h0
    | j + 2, hu =>
      have := ih (o + 2) (fun i hi => by
        have := h (i + 1) (by simpa using hi)
        rw [show o + 2 + i * 2 = o + (i + 1) * 2 by omega]
        simpa using this) j u (by simpa [paRows] using hu)
      rw [show o + (j + 2) = o + 2 + j by omega]
      exact this
theorem paNews {w : World} {a : Option Addr} {c : Nat} {l : List Pa} (h : SlAt 2 (PaAt (cw w)) (.slice a l.length c) l) : (a = none → l.length = 0) ∧ (∀ ad, a = some ad → ∀ j u, (paRows l)[j]? = some u → w.cell? (ad.add j) = some u) := by
  by_cases hne : l = []
  · subst hne
    exact ⟨fun _ => rfl, fun ad _ j u hu => by simp [paRows] at hu⟩
  · obtain ⟨g, off, cap, hv, _, hc⟩ := h.cells hne
    simp only [Value.slice.injEq] at hv
    obtain ⟨rfl, -, rfl⟩ := hv
    refine ⟨fun h => (by cases h), fun ad h j u hu => ?_⟩
    cases h
    have := paRows_at l off hc j u hu
    rw [Addr.add_lit]
    exact this
def PaQ (_ : Cs) (c : List Value) (q : Pa) : Prop := c = paC q ∧ q.nm.size ≤ 9223372036854775807
theorem pa_owned {w : World} {B n : Nat} {v : Value} {l : List Pa} (h : w.ownsRow B 62 2 v n (paRows l)) (hn : n = l.length) (hm : n ≤ 9223372036854775807) (hs : ∀ q ∈ l, q.nm.size ≤ 9223372036854775807) : SlAt 2 (PaAt (nwC B w)) v l := by
  subst hn
  rw [paRows_flat] at h
  have hacc : Acc PaQ B 62 2 w v l (l.map paC) := ⟨by simp, h, fun r hr => by
    obtain ⟨q, -, rfl⟩ := List.mem_map.1 hr
    rfl, fun i h1 h2 => ⟨by simp, hs _ (List.getElem_mem h1)⟩⟩
  exact hacc.sl (P := fun C g o x => PaAt C g o x) hm (fun _ _ _ _ _ h => h) fun C c g o x _ _ hq hc => by
    obtain ⟨rfl, h2⟩ := hq
    exact ⟨hc 0 _ rfl, hc 1 _ rfl, h2⟩
theorem PaAt.sizes {C : Cs} {v : Value} {l : List Pa} (h : SlAt 2 (PaAt C) v l) : ∀ q ∈ l, q.nm.size ≤ 9223372036854775807 := by
  intro q hq
  have hne : l ≠ [] := fun e => by subst e; cases hq
  obtain ⟨g, off, cap, _, _, hc⟩ := h.cells hne
  obtain ⟨i, hi, rfl⟩ := List.getElem_of_mem hq
  exact (hc i hi).2.2
theorem infoPa : (Try.prog.info? 62).map (fun i => (i.zero, i.size, i.bytes)) = some (some (.agg #[.string ⟨#[]⟩, .bool false]), 2, 24) := by kernel_rfl
theorem wtPa_len : ∀ l : List Pa, l.length ≤ (l.map fun x : Pa => 1 + x.nm.size).sum := by
  intro l
  induction l with
  | nil => simp
  | cons q r ih => simp only [List.map_cons, List.sum_cons, List.length_cons]; omega
theorem put_call (D : Nat) (t : St) (hokt : OkE t.x) (ht1 : InI t.id) (ht2 : InI t.kind) (ht3 : t.nm.size ≤ 9223372036854775807) (ht4 : t.proc.size ≤ 9223372036854775807) (hwt : LightS t) (kat lat aat tat eat : Option Addr) (kct lct act tct ect : Nat) (d : Nat) (l : List St) (v : Value) (w : World)
    (hl : StC (cw w) d v l) (hwl : wtL l ≤ 20000) (hh : Hang D w t (.slice lat t.labels.length lct) (.slice kat t.x.ks.length kct) (.slice aat t.args.length act) (.slice tat t.thn.length tct) (.slice eat t.els.length ect)) :
    Calls Try.prog 76 #[v, .agg #[.int .i64 t.id, .int .i64 t.kind, .slice lat t.labels.length lct, .string t.nm, .string t.proc, .int .i64 t.x.op, .int .i64 t.x.n, .string t.x.nm, .slice kat t.x.ks.length kct, .bool t.has, .slice aat t.args.length act, .slice tat t.thn.length tct, .slice eat t.els.length ect]] w (PutMade (d + D) (putL t l) w) := put_any D t hokt ht1 ht2 ht3 ht4 hwt kat lat aat tat eat kct lct act tct ect d l v w hl hwl hh
theorem far5 {w : World} {b g j : Nat} {x0 x1 x2 x3 x4 u : Value} (hne : b ≠ g) (h : w.cell? ⟨g, j, none⟩ = some u) : (((((w.setCell ⟨b, 0, none⟩ x0).setCell ⟨b, 1, none⟩ x1).setCell ⟨b, 2, none⟩ x2).setCell ⟨b, 3, none⟩ x3).setCell ⟨b, 4, none⟩ x4).cell? ⟨g, j, none⟩ = some u := far1 hne (far1 hne (far1 hne (far1 hne (far1 hne h))))
theorem box5 {w : World} {b : Nat} {c0 c1 c2 c3 c4 x0 x1 x2 x3 x4 : Value} (h : BoxAt w b [c0, c1, c2, c3, c4]) : BoxAt (((((w.setCell ⟨b, 0, none⟩ x0).setCell ⟨b, 1, none⟩ x1).setCell ⟨b, 2, none⟩ x2).setCell ⟨b, 3, none⟩ x3).setCell ⟨b, 4, none⟩ x4) b [x0, x1, x2, x3, x4] :=
  (((((h.put (j := 0) (x := x0) (by simp)).put (j := 1) (x := x1) (by simp)).put (j := 2) (x := x2) (by simp)).put (j := 3) (x := x3) (by simp)).put (j := 4) (x := x4) (by simp))
theorem free5 {w : World} {b : Nat} {x0 x1 x2 x3 x4 : Value} (h : Free w b) : Free (((((w.setCell ⟨b, 0, none⟩ x0).setCell ⟨b, 1, none⟩ x1).setCell ⟨b, 2, none⟩ x2).setCell ⟨b, 3, none⟩ x3).setCell ⟨b, 4, none⟩ x4) b := ((((h.set).set).set).set).set
theorem size5 {w : World} {b : Nat} {x0 x1 x2 x3 x4 : Value} : (((((w.setCell ⟨b, 0, none⟩ x0).setCell ⟨b, 1, none⟩ x1).setCell ⟨b, 2, none⟩ x2).setCell ⟨b, 3, none⟩ x3).setCell ⟨b, 4, none⟩ x4).heap.size = w.heap.size := by simp only [World.size_setCell]
theorem below5 {v w : World} {n b : Nat} {x0 x1 x2 x3 x4 : Value} (h : Below n v w) (hb : n ≤ b) : Below n v (((((w.setCell ⟨b, 0, none⟩ x0).setCell ⟨b, 1, none⟩ x1).setCell ⟨b, 2, none⟩ x2).setCell ⟨b, 3, none⟩ x3).setCell ⟨b, 4, none⟩ x4) :=
  ((((h.setCell (p := ⟨b, 0, none⟩) hb _).setCell (p := ⟨b, 1, none⟩) hb _).setCell (p := ⟨b, 2, none⟩) hb _).setCell (p := ⟨b, 3, none⟩) hb _).setCell (p := ⟨b, 4, none⟩) hb _
theorem only5 {S : Nat → Prop} {w : World} {b : Nat} {x0 x1 x2 x3 x4 : Value} (h : ¬ S b) : Cs.le (only S (cw w)) (only S (cw (((((w.setCell ⟨b, 0, none⟩ x0).setCell ⟨b, 1, none⟩ x1).setCell ⟨b, 2, none⟩ x2).setCell ⟨b, 3, none⟩ x3).setCell ⟨b, 4, none⟩ x4))) :=
  Cs.le_trans (only_set h) (Cs.le_trans (only_set h) (Cs.le_trans (only_set h) (Cs.le_trans (only_set h) (only_set h))))
/-- A procedure as a row of five. -/
def PcQ (d : Nat) (C : Cs) (c : List Value) (f : Pc) : Prop := ∃ pv vv bv fv, c = [.string f.nm, pv, vv, bv, fv] ∧ f.nm.size ≤ 9223372036854775807 ∧ SlAt 2 (PaAt C) pv f.params ∧ StrC C vv f.vars ∧ StC C d bv f.body ∧ StrC C fv f.fin
theorem PcQ.mono (d : Nat) : ∀ C D c x, Cs.le C D → PcQ d C c x → PcQ d D c x := fun _ _ _ _ h ⟨pv, vv, bv, fv, h1, h2, h3, h4, h5, h6⟩ => ⟨pv, vv, bv, fv, h1, h2, SlAt.imp h3 (fun _ _ _ _ => PaAt.mono h), StrC.mono h h4, StC.mono h h5, StrC.mono h h6⟩
theorem PcQ.at_ (d : Nat) : ∀ (C : Cs) (c : List Value) (g o : Nat) (f : Pc), PcQ d C c f → (∀ j u, c[j]? = some u → C g (o + j) u) → PcAt C d g o f := by
  intro C c g o f ⟨pv, vv, bv, fv, h1, h2, h3, h4, h5, h6⟩ h
  subst h1
  exact ⟨pv, vv, bv, fv, h 0 _ rfl, h 1 _ rfl, h 2 _ rfl, h 3 _ rfl, h 4 _ rfl, h2, h3, h4, h5, h6⟩
/-- What Put leaves. -/
def ProgMade (d : Nat) (p : Pr) (w : World) (e : Ending) (w' : World) : Prop := ∃ gv pv, e = .returned (.agg #[gv, pv]) ∧ PrC (nwC w.heap.size w') d gv pv p ∧ Below w.heap.size w w'
/-- What Put leaves: the row of procedures is its own. -/
def ProgRow (d : Nat) (p : Pr) (w : World) (e : Ending) (w' : World) : Prop := ∃ gv pv B rows, e = .returned (.agg #[gv, pv]) ∧ w.heap.size ≤ B ∧ StrC (only (fun g => w.heap.size ≤ g ∧ g < B) (cw w')) gv p.globals ∧ Acc (PcQ d) B 55 5 w' pv p.procs rows ∧ Below w.heap.size w w'
theorem Acc.max {α : Type} {Q : Cs → List Value → α → Prop} {B : Nat} {t : TypeId} {z : Nat} {w : World} {v : Value} {l : List α} {rows : List (List Value)} (h : Acc Q B t z w v l rows) : l.length ≤ 9223372036854775807 := by
  rcases h.own.2 with ⟨-, hn⟩ | ⟨g, cap, cur, -, -, -, h3, h4, -⟩
  · omega
  · unfold maxLen at h4; omega
theorem ProgRow.made {d : Nat} {p : Pr} {w w' : World} {e : Ending} (h : ProgRow d p w e w') : ProgMade d p w e w' := by
  obtain ⟨gv, pv, B, rows, he, hB, hg, hacc, hb⟩ := h
  have hm : SlAt 5 (PcAt (nwC B w') d) pv p.procs := hacc.sl (P := fun C g o x => PcAt C d g o x) hacc.max (PcQ.mono d) fun C c g o x _ _ hq hc => PcQ.at_ d C c g o x hq hc
  exact ⟨gv, pv, he, ⟨StrC.mono (only_le (fun g h => h.1) (fun _ _ _ h => h)) hg, SlAt.imp hm fun _ _ _ _ h => PcAt.mono (nw_le hB (Below.refl _ _)) h⟩, hb⟩
end Go.Proofs.Ytghlmengcidmdaa.Tr
end
section
/- What flat, Flat of the reference make: a row's statements one by one. Conditions: it lies in memory. -/
namespace Go.Proofs.Ytghlmengcidmdaa.Tr
open Go.RowKit Go.Proofs.Ytghlmengcidmdaa.Lx Go.Proofs.Ytghlmengcidmdaa.Wd
/-- A statement, how deep it stands, in whom, in whose Else. -/
structure It where
  s : St
  deep : Int
  inn : Int
  els : Bool
end Go.Proofs.Ytghlmengcidmdaa.Tr
end
