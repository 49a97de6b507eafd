/- Parts of CopW: walks and plain laws that later texts use. Conditions: as each statement says. -/
import Derived.Test.YtghlmengcidmdaaTw0
import Derived.Test.YtghlmengcidmdaaTw1
import Derived.Test.YtghlmengcidmdaaTw2
import Derived.Test.YtghlmengcidmdaaTw3
import Derived.Test.YtghlmengcidmdaaTw4
import Derived.Deep.DeepCutAuto
import Derived.Maps.Range
import Derived.Outline
import Derived.Lib.SmallJoins
import Derived.Deep.Upon
import Derived.Maps.AppendAt
import Derived.Laws.OwnMore
import Derived.Deep.QuietTactic
import Derived.BigQuiet
import Derived.Deep.RegionLaw
import Derived.IntWalk
import Derived.StillTailTactics
import Derived.Deep.RegionHeld3
import Derived.WalkKit
import Derived.Test.YtghlmengcidmdaaRows
import Derived.WalkSpells
import Derived.Lib.Hide
import Derived.Below
import Derived.WalkSmall
import Derived.Laws.BitsAllLaws
import Derived.OwnWalk
import Derived.OneCell
import Derived.Deep.AppendLies
import Derived.RegionTactic
import Derived.Deep.RegionWith
import Derived.Laws.Cover3
import Derived.Deep.Slices
import Derived.Deep.Fields
import Derived.SliceStrings
import Derived.ChangeSlices
/- What tree.copied makes: a row of new statements, numbered on if so. Conditions: the row lies in memory, it is light. -/
namespace Go.Proofs.Ytghlmengcidmdaa.Tr
open Go.RowKit Go.Proofs.Ytghlmengcidmdaa.Lx Go.Proofs.Ytghlmengcidmdaa.Wd
theorem infoSt : (Try.prog.info? 41).map (fun i => (i.zero, i.size, i.bytes)) = some (some (.agg #[.int .i64 0, .int .i64 0, .slice none 0 0, .string ⟨#[]⟩, .string ⟨#[]⟩, .int .i64 0, .int .i64 0, .string ⟨#[]⟩, .slice none 0 0, .bool false, .slice none 0 0, .slice none 0 0, .slice none 0 0]), 13, 208) := by kernel_rfl
theorem infoAr : (Try.prog.info? 49).map (fun i => (i.zero, i.size, i.bytes)) = some (some (.agg #[.bool false, .string ⟨#[]⟩, .int .i64 0, .int .i64 0, .string ⟨#[]⟩, .slice none 0 0]), 6, 80) := by kernel_rfl
/-- What a copier of a row leaves. -/
def CopMade (d : Nat) (l : List St) (n : Int) (w : World) (e : Ending) (w' : World) : Prop := ∃ v, e = .returned (.tuple #[v, .int .i64 n]) ∧ StC (nwC w.heap.size w') d v l ∧ Below w.heap.size w w'
/-- The cells of a box. -/
def BoxAt (w : World) (g : Nat) (cs : List Value) : Prop := ∀ j u, cs[j]? = some u → w.cell? ⟨g, j, none⟩ = some u
def Free (w : World) (g : Nat) : Prop := ∀ j, w.frozen? ⟨g, j, none⟩ = false
theorem BoxAt.next {w w' : World} {g : Nat} {cs : List Value} (h : BoxAt w g cs) (hb : Below w.heap.size w w') : BoxAt w' g cs := fun j u hu => cell_next hb (h j u hu)
theorem Free.next {w w' : World} {g : Nat} (h : Free w g) (hg : g < w.heap.size) (hb : Below w.heap.size w w') : Free w' g := fun j => (hb.frozen (p := ⟨g, j, none⟩) hg).trans (h j)
theorem box_new (w : World) (cs : Array Value) (t : TypeId) : BoxAt (w.alloc (.cells cs t)) w.heap.size cs.toList := fun j u hu => by
  rw [World.cell?_alloc_new]
  simpa using hu
theorem box_two (w : World) (o : Obj) (cs : Array Value) (t : TypeId) : BoxAt ((w.alloc o).alloc (.cells cs t)) (w.heap.size + 1) cs.toList := by
  have := box_new (w.alloc o) cs t
  rwa [World.size_alloc] at this
theorem free_two (w : World) (o : Obj) (cs : Array Value) (t : TypeId) : Free ((w.alloc o).alloc (.cells cs t)) (w.heap.size + 1) := fun j => by simp [go_sem]
theorem BoxAt.set {w : World} {g b j : Nat} {cs : List Value} {x : Value} (h : BoxAt w g cs) (hg : b ≠ g) : BoxAt (w.setCell ⟨b, j, none⟩ x) g cs := fun i u hu => by
  rw [World.cell?_setCell_other _ _ _ _ (fun e => hg (congrArg Addr.block e))]
  exact h i u hu
theorem BoxAt.put {w : World} {g j : Nat} {cs : List Value} {x : Value} (h : BoxAt w g cs) (hj : j < cs.length) : BoxAt (w.setCell ⟨g, j, none⟩ x) g (cs.set j x) := fun i u hu => by
  by_cases hi : i = j
  · subst hi
    rw [List.getElem?_set_self hj] at hu
    have : x = u := by simpa using hu
    subst this
    exact cell_set (h i cs[i] (List.getElem?_eq_getElem hj))
  · rw [List.getElem?_set_ne (by omega)] at hu
    exact cell_set_ne (h i u hu) (by omega)
theorem Free.set {w : World} {g b j : Nat} {x : Value} (h : Free w g) : Free (w.setCell ⟨b, j, none⟩ x) g := fun i => by rw [World.frozen?_setCell]; exact h i
theorem free_one (w : World) (c1 c2 : Array Value) (t1 t2 : TypeId) : Free ((w.alloc (.cells c1 t1)).alloc (.cells c2 t2)) w.heap.size := fun j => by simp [go_sem]
set_option maxHeartbeats 8000000 in
set_option maxRecDepth 100000 in
theorem copied_any (b : Bool) : ∀ (d : Nat) (l : List St) (v : Value) (n : Int) (w : World), StC (cw w) d v l → wtL l ≤ 20000 →
    Calls Try.prog 109 #[v, .int .i64 (wrap64 n), .bool b] w (CopMade d (cpL b n l) (wrap64 (n + cntL l)) w) := by
  intro d
  induction d with
  | zero => intro l v n w h; exact h.elim
  | succ d ih =>
    intro l v n w hl hwt
    have IH := Lib.hid ih
    obtain ⟨i0, hi, hz0q, hz1, hz2⟩ := info_parts infoSt
    obtain ⟨i1, hi', hz0', hz1', hz2'⟩ := info_parts infoAr
    obtain ⟨a, cap, rfl, hc1, hc2⟩ := hl.form
    have HL := Lib.hid hl
    have hlen := Nat.le_trans (wtL_len l) hwt
    have HWT := Lib.hid hwt
    clear ih hl hwt
    go_enter Try.func109, Try.ntmps109
    go_wp2_with fail
    go_loopw [16, 1, 8] (fun i nn o wr => ∃ (k : Nat) (v : Value) (rows : List (List Value)), k ≤ l.length ∧ i = .int .i64 k ∧ nn = .int .i64 (wrap64 (n + cntL (l.take k))) ∧ o = v ∧ Acc (StQ d) w.heap.size 41 13 wr v (cpL b n (l.take k)) rows ∧ Below w.heap.size w wr) (fun i _ _ _ => (l.length - intOf i).toNat)
    case atStart =>
      refine ⟨0, _, [], by omega, rfl, ?_, rfl, ?_, Below.refl _ _⟩
      · simp [cntL]
      · simp only [List.take_zero, cpL]; exact Acc.nil _ _ _ _ _
    case round =>
      obtain ⟨k, v, rows, hk, rfl, rfl, rfl, hacc, hbel⟩ := hrel
      obtain ⟨w0, hw0⟩ : ∃ w0 : World, w0 = wr := ⟨_, rfl⟩
      subst hw0
      have hcl : (cpL b n (l.take k)).length = k := by rw [cpL_len, List.length_take]; omega
      obtain ⟨va0, vc0, hv0⟩ := ownsForm hacc.own
      rw [hcl] at hv0
      subst hv0
      have HCL := Lib.hid hcl
      clear hcl
      have HACC := Lib.hid hacc
      have HBEL := Lib.hid hbel
      obtain ⟨N, hN⟩ : ∃ N, Hid (n + cntL (l.take k) = N) := ⟨_, Lib.hid rfl⟩
      rw [hN.out]
      by_cases hlt : k < l.length
      · have hlt' : (k : Int) < (l.length : Int) := by omega
        have h0k : (0 : Int) ≤ (k : Int) := by omega
        have hne : l ≠ [] := by intro h; rw [h] at hlt; simp at hlt
        obtain ⟨g, off, cap', hv, _, hcells⟩ := SlAt.cells (HL.out.next hbel) hne
        simp only [Value.slice.injEq] at hv
        obtain ⟨rfl, -, rfl⟩ := hv
        have hst := hcells k hlt
        have hws := wtL_mem (List.getElem_mem hlt)
        obtain ⟨s, hs⟩ : ∃ s, Hid (l[k] = s) := ⟨_, Lib.hid rfl⟩
        rw [hs.out] at hst hws
        have hws2 := Nat.le_trans hws HWT.out
        have HWS := Lib.hid hws2
        obtain ⟨lv, av, tv, ev, q0, q1, q2, q3, q4, ⟨kv, q5, q6, q7, q8, hok, hxk⟩, q9, q10, q11, q12, i1', i2', i3', i4', i5', i6', ht, he⟩ := hst
        have e0 : w0.cell? ⟨g, off + k * 13, none⟩ = _ := q0
        have e1 : w0.cell? ⟨g, off + k * 13 + 1, none⟩ = _ := q1
        have e2 : w0.cell? ⟨g, off + k * 13 + 2, none⟩ = _ := q2
        have e3 : w0.cell? ⟨g, off + k * 13 + 3, none⟩ = _ := q3
        have e4 : w0.cell? ⟨g, off + k * 13 + 4, none⟩ = _ := q4
        have e5 : w0.cell? ⟨g, off + k * 13 + 5, none⟩ = _ := q5
        have e6 : w0.cell? ⟨g, off + k * 13 + 6, none⟩ = _ := q6
        have e7 : w0.cell? ⟨g, off + k * 13 + 7, none⟩ = _ := q7
        have e8 : w0.cell? ⟨g, off + k * 13 + 8, none⟩ = _ := q8
        have e9 : w0.cell? ⟨g, off + k * 13 + 9, none⟩ = _ := q9
        have e10 : w0.cell? ⟨g, off + k * 13 + 10, none⟩ = _ := q10
        have e11 : w0.cell? ⟨g, off + k * 13 + 11, none⟩ = _ := q11
        have e12 : w0.cell? ⟨g, off + k * 13 + 12, none⟩ = _ := q12
        obtain ⟨la, lc, rfl, -, -⟩ := i5'.form
        obtain ⟨aa, ac, rfl, -, -⟩ := i6'.form
        obtain ⟨ta, tc, rfl, -, -⟩ := ht.form
        obtain ⟨ea, ec, rfl, -, -⟩ := he.form
        obtain ⟨ka, kc, rfl, -, -⟩ := hxk.form
        have HLAB := Lib.hid i5'
        have HARG := Lib.hid i6'
        have HT := Lib.hid ht
        have HE := Lib.hid he
        have HXK := Lib.hid hxk
        have HOK := Lib.hid hok
        have HI1 := Lib.hid i1'
        have HI2 := Lib.hid i2'
        have HI3 := Lib.hid i3'
        have HI4 := Lib.hid i4'
        clear hcells q0 q1 q2 q3 q4 q5 q6 q7 q8 q9 q10 q11 q12 i1' i2' i3' i4' i5' i6' ht he hxk hok hne hbel hacc hws hws2
        have hw1 : wrap64 (wrap64 N + 1) = wrap64 (N + 1) := by unfold wrap64; omega
        obtain ⟨ID, hID⟩ : ∃ ID, Hid ((if b then wrap64 (N + 1) else s.id) = ID) := ⟨_, Lib.hid rfl⟩
        obtain ⟨T0, hT0⟩ : ∃ T0, Hid (St.mk ID s.kind s.labels s.nm s.proc s.x s.has s.args s.thn s.els = T0) := ⟨_, Lib.hid rfl⟩
        cases b with
        | false =>
          have hID2 : _ = ID := hID.out
          subst hID2
          go_upto_region 9 with fail
          refine cut_world (fun wx => Below w0.heap.size w0 wx ∧ wx.heap.size = w0.heap.size + 1 + 1 ∧ BoxAt wx w0.heap.size (stCells s (.slice ka s.x.ks.length kc) (.slice la s.labels.length lc) (.slice aa s.args.length ac) (.slice ta s.thn.length tc) (.slice ea s.els.length ec)) ∧
            BoxAt wx (w0.heap.size + 1) (stCells T0 (.slice ka s.x.ks.length kc) (.slice la s.labels.length lc) (.slice aa s.args.length ac) (.slice ta s.thn.length tc) (.slice ea s.els.length ec)) ∧ Free wx (w0.heap.size + 1) ∧ Free wx w0.heap.size) ⟨?_, ?_, ?_, ?_, ?_, ?_⟩ ?_
          · exact (boxed w0 _).alloc (by simp) _
          · simp
          · exact (box_new w0 _ _).next (boxed _ _)
          · rw [← hT0.out]
            exact box_two w0 _ _ _
          · exact free_two w0 _ _ _
          · exact free_one w0 _ _ _ _
          rintro w1 ⟨hb1, hz1s, hS, hT, hF, hFS⟩
          have HFS := Lib.hid hFS
          have HS := Lib.hid hS
          have HTB := Lib.hid hT
          have HF := Lib.hid hF
          have HB1 := Lib.hid hb1
          have s2 := hS 2 _ rfl
          have s5 := hS 5 _ rfl
          have s6 := hS 6 _ rfl
          have s7 := hS 7 _ rfl
          have s8 := hS 8 _ rfl
          have HLAB1 := Lib.hid (StrC.to (StrC.mono (cw_next hb1) HLAB.out))
          have HXK1 := Lib.hid (ExC.to (ExC.mono (cw_next hb1) HXK.out))
          have hlab : s.labels.length ≤ 1000000 := by have := wtTs_len s.labels; have := HWS.out; rw [wtS_eq] at this; omega
          have HLIM := Lib.hid (lim_ex (x := s.x) (by have := HWS.out; rw [wtS_eq] at this; omega) d)
          have hzs : w0.heap.size < w1.heap.size := by omega
          have hzt : w0.heap.size + 1 < w1.heap.size := by omega
          clear hS hT hF hFS hb1 e0 e1 e2 e3 e4 e5 e6 e7 e8 e9 e10 e11 e12
          go_region_held3 (fun w' => w'.cell? ⟨w0.heap.size, 2, none⟩ = some (.slice la s.labels.length lc) ∧ w'.cell? ⟨w0.heap.size, 5, none⟩ = some (.int .i64 s.x.op) ∧ w'.cell? ⟨w0.heap.size, 6, none⟩ = some (.int .i64 s.x.n) ∧ w'.cell? ⟨w0.heap.size, 7, none⟩ = some (.string s.x.nm) ∧ w'.cell? ⟨w0.heap.size, 8, none⟩ = some (.slice ka s.x.ks.length kc))
            (first
              | go_keep
              | (go_split_ands
                 refine ⟨?_, ?_, ?_, ?_, ?_⟩ <;> exact cell_next hb3 (by assumption))
              | (go_split_ands
                 refine ⟨?_, ?_, ?_, ?_, ?_⟩ <;> exact cell_next hb2 (by assumption)))
            (first
              | (go_at_call 73
                 refine (cloneTexts_any s.labels _ _ (HLAB1.out.next (below_drewN (Below.refl _ _) 1)) hlab).mono ?_
                 rintro e w2 ⟨lv2, rfl, hlv2, hb2⟩
                 obtain ⟨la2, lc2, rfl, -, -⟩ := hlv2.form
                 have HLV2 := Lib.hid hlv2
                 have HB2 := Lib.hid (HB1.out.trans (((below_drewN (Below.refl _ _) 1).trans hb2).mono HB1.out.size))
                 have HXK2 := Lib.hid ((HXK1.out.next (below_drewN (Below.refl _ _) 1)).next hb2)
                 have HFS2 := Lib.hid ((HFS.out.next hzs (below_drewN (Below.refl _ _) 1)).next hzs hb2)
                 have HS2 := Lib.hid ((HS.out.next (below_drewN (Below.refl _ _) 1)).next hb2)
                 have HT2 := Lib.hid ((HTB.out.next (below_drewN (Below.refl _ _) 1)).next hb2)
                 have HF2 := Lib.hid ((HF.out.next hzt (below_drewN (Below.refl _ _) 1)).next hzt hb2))
              | (go_at_call 132
                 refine (expr_any d s.x _ _ HOK.out HXK2.out HLIM.out).mono ?_
                 rintro e w3 ⟨kv3, rfl, -, hxk3, hb3⟩
                 obtain ⟨ka3, kc3, rfl, -, -⟩ := hxk3.form
                 unfold exV
                 have HXK3 := Lib.hid hxk3
                 have HLV3 := Lib.hid (StrC.mono (nw_le (Nat.le_refl _) hb3) HLV2.out)
                 have HB3 := Lib.hid (HB2.out.trans (hb3.mono HB2.out.size))
                 have HFS3 := Lib.hid (HFS2.out.next (by have := cell_lt (HS2.out 0 _ rfl); omega) hb3)
                 have HS3 := Lib.hid (HS2.out.next hb3)
                 have HT3 := Lib.hid (HT2.out.next hb3)
                 have hz3 : w0.heap.size + 1 < w2.heap.size := cell_lt (HT2.out 0 _ rfl)
                 have HF3 := Lib.hid (HF2.out.next hz3 hb3)
                 have t2 := HT3.out 2 _ rfl
                 have t5 := HT3.out 5 _ rfl
                 have t6 := HT3.out 6 _ rfl
                 have t7 := HT3.out 7 _ rfl
                 have t8 := HT3.out 8 _ rfl
                 have t10 := HT3.out 10 _ rfl
                 have f2 := HF3.out 2
                 have f5 := HF3.out 5
                 have f6 := HF3.out 6
                 have f7 := HF3.out 7
                 have f8 := HF3.out 8
                 have f10 := HF3.out 10))
          go_upto_region 10 with fail
          refine cut_world (fun wx => Below w0.heap.size w0 wx ∧ w0.heap.size + 1 + 1 ≤ wx.heap.size ∧ BoxAt wx w0.heap.size (stCells s (.slice ka s.x.ks.length kc) (.slice la s.labels.length lc) (.slice aa s.args.length ac) (.slice ta s.thn.length tc) (.slice ea s.els.length ec)) ∧
            BoxAt wx (w0.heap.size + 1) (stCells T0 (.slice ka3 s.x.ks.length kc3) (.slice la2 s.labels.length lc2) (.slice none 0 0) (.slice ta s.thn.length tc) (.slice ea s.els.length ec)) ∧ Free wx (w0.heap.size + 1) ∧ Free wx w0.heap.size ∧
            StrC (nwC (w0.heap.size + 1 + 1) wx) (.slice la2 s.labels.length lc2) s.labels ∧ ExC (nwC (w0.heap.size + 1 + 1) wx) d (.slice ka3 s.x.ks.length kc3) s.x.ks) ⟨?_, ?_, ?_, ?_, ?_, ?_, ?_, ?_⟩ ?_
          · refine (((((HB3.out.setCell (p := ⟨_, _, none⟩) ?_ _).setCell (p := ⟨_, _, none⟩) ?_ _).setCell (p := ⟨_, _, none⟩) ?_ _).setCell (p := ⟨_, _, none⟩) ?_ _).setCell (p := ⟨_, _, none⟩) ?_ _).setCell (p := ⟨_, _, none⟩) ?_ _ <;> simp
          · have := hb3.size
            simp only [World.size_setCell]
            omega
          · exact (((((HS3.out.set (by omega)).set (by omega)).set (by omega)).set (by omega)).set (by omega)).set (by omega)
          · have e : ((((((stCells T0 (.slice ka s.x.ks.length kc) (.slice la s.labels.length lc) (.slice aa s.args.length ac) (.slice ta s.thn.length tc) (.slice ea s.els.length ec)).set 2 (.slice la2 s.labels.length lc2)).set 5 (.int .i64 s.x.op)).set 6 (.int .i64 s.x.n)).set 7 (.string s.x.nm)).set 8 (.slice ka3 s.x.ks.length kc3)).set 10 (.slice none 0 0) = stCells T0 (.slice ka3 s.x.ks.length kc3) (.slice la2 s.labels.length lc2) (.slice none 0 0) (.slice ta s.thn.length tc) (.slice ea s.els.length ec) := by rw [← hT0.out]; rfl
            rw [← e]
            exact (((((HT3.out.put (by simp [stCells])).put (by simp [stCells])).put (by simp [stCells])).put (by simp [stCells])).put (by simp [stCells])).put (by simp [stCells])
          · exact (((((HF3.out.set).set).set).set).set).set
          · exact (((((HFS3.out.set).set).set).set).set).set
          · refine StrC.mono ?_ HLV3.out
            refine Cs.le_trans (nw_le (B' := w0.heap.size + 1 + 1) ?_ (Below.refl _ _)) (Cs.le_trans (le_set (by omega)) (Cs.le_trans (le_set (by omega)) (Cs.le_trans (le_set (by omega)) (Cs.le_trans (le_set (by omega)) (Cs.le_trans (le_set (by omega)) (le_set (by omega)))))))
            simp; omega
          · refine ExC.mono ?_ HXK3.out
            refine Cs.le_trans (nw_le (B' := w0.heap.size + 1 + 1) ?_ (Below.refl _ _)) (Cs.le_trans (le_set (by omega)) (Cs.le_trans (le_set (by omega)) (Cs.le_trans (le_set (by omega)) (Cs.le_trans (le_set (by omega)) (Cs.le_trans (le_set (by omega)) (le_set (by omega)))))))
            omega
          rintro w4 ⟨hb4, hz4, hS4, hT4, hF4, hFS4, hlv4, hxk4⟩
          have HFS4 := Lib.hid hFS4
          have HB4 := Lib.hid hb4
          have HS4 := Lib.hid hS4
          have HT4 := Lib.hid hT4
          have HF4 := Lib.hid hF4
          have HLV4 := Lib.hid hlv4
          have HXK4 := Lib.hid hxk4
          have s10 := hS4 10 _ rfl
          have hargs : s.args.length ≤ 20000 := by have := wtAr_len s.args; have := HWS.out; rw [wtS_eq] at this; omega
          clear HLV2 HB2 HXK2 HT2 HF2 HS2 HXK3 HLV3 HB3 HT3 HF3 HS3 HFS HFS2 HFS3 hFS4 t2 t5 t6 t7 t8 t10 f2 f5 f6 f7 f8 f10 hz3 hb3 hb2 hlv2 hxk3 hb4 hS4 hT4 hF4 hlv4 hxk4 s2 s5 s6 s7 s8 hzs hzt hz1s HS HTB HF HB1 HLAB1 HXK1 HLIM hlab
          go_wp2_with fail
          go_loopw [38] (fun i wr => ∃ (q : Nat) (v5 : Value) (rows5 : List (List Value)), q ≤ s.args.length ∧ i = .int .i64 q ∧ Below w0.heap.size w0 wr ∧ w4.heap.size ≤ wr.heap.size ∧ Cs.le (only (fun g => g < w4.heap.size ∧ g ≠ w0.heap.size + 1) (cw w4)) (cw wr) ∧
            Grow (ArQ d) 49 6 w4.heap.size (w0.heap.size + 1) w0.heap.size 0 (stCells T0 (.slice ka3 s.x.ks.length kc3) (.slice la2 s.labels.length lc2) (.slice none 0 0) (.slice ta s.thn.length tc) (.slice ea s.els.length ec)) 10 (s.args.take q) wr v5 rows5) (fun i _ => (s.args.length - intOf i).toNat)
          case atStart =>
            refine ⟨0, .slice none 0 0, [], by omega, rfl, HB4.out, Nat.le_refl _, only_out, by omega, by omega, by omega, by omega, ?_, HF4.out, fun j hj => absurd hj (by omega), ?_, Acc.nil _ _ _ _ _, Nat.le_refl _⟩
            · exact HT4.out
            · exact HFS4.out
          case round =>
            obtain ⟨q, v5, rows5, hq, rfl, hbel5, hz5, hkeep, hG⟩ := hrel
            have HBEL5 := Lib.hid hbel5
            have HKEEP := Lib.hid hkeep
            have HG := Lib.hid hG
            obtain ⟨va5, vc5, hv5⟩ := ownsForm hG.acc.own
            have hqa : (s.args.take q).length = q := by rw [List.length_take]; omega
            rw [hqa] at hv5
            subst hv5
            have HQA := Lib.hid hqa
            clear hqa
            by_cases hqt : q < s.args.length
            · have hqt' : (q : Int) < (s.args.length : Int) := by omega
              have h0q : (0 : Int) ≤ (q : Int) := by omega
              have hne2 : s.args ≠ [] := by intro h; rw [h] at hqt; simp at hqt
              obtain ⟨g2, off2, cap2, hv2, _, hcells2⟩ := SlAt.cells (SlAt.imp HARG.out fun _ _ _ _ => ArAt.mono (cw_next hbel5)) hne2
              simp only [Value.slice.injEq] at hv2
              obtain ⟨rfl, -, rfl⟩ := hv2
              obtain ⟨r0, r1, r2, kx, r3, r4, r5, r6, hokx, hxx⟩ := hcells2 q hqt
              obtain ⟨ar, har⟩ : ∃ ar, Hid (s.args[q] = ar) := ⟨_, Lib.hid rfl⟩
              have hwa := wtAr_mem (List.getElem_mem hqt)
              rw [har.out] at r0 r1 r2 r3 r4 r5 hokx hxx hwa
              obtain ⟨xa, xc, rfl, -, -⟩ := hxx.form
              have d0 : wr.cell? ⟨g2, off2 + q * 6, none⟩ = _ := r0
              have d1 : wr.cell? ⟨g2, off2 + q * 6 + 1, none⟩ = _ := r1
              have d2 : wr.cell? ⟨g2, off2 + q * 6 + 2, none⟩ = _ := r3
              have d3 : wr.cell? ⟨g2, off2 + q * 6 + 3, none⟩ = _ := r4
              have d4 : wr.cell? ⟨g2, off2 + q * 6 + 4, none⟩ = _ := r5
              have d5 : wr.cell? ⟨g2, off2 + q * 6 + 5, none⟩ = _ := r6
              have HXX := Lib.hid (ExC.to (ExC.mono (cw_next (boxed wr (.cells #[.bool ar.ref, .string ar.nm, .int .i64 ar.x.op, .int .i64 ar.x.n, .string ar.x.nm, .slice xa ar.x.ks.length xc] 49))) hxx))
              have HOKX := Lib.hid hokx
              have HNMX := Lib.hid r2
              have HLX := Lib.hid (lim_ex (x := ar.x) (by have := HWS.out; rw [wtS_eq] at this; omega) d)
              clear hcells2 r0 r1 r2 r3 r4 r5 r6 hxx hokx hne2 hwa hbel5 hkeep hG
              go_wp2_with fail
              refine (expr_any d ar.x _ _ HOKX.out HXX.out HLX.out).mono ?_
              rintro e w6 ⟨kv6, rfl, -, hxk6, hb6⟩
              obtain ⟨ka6, kc6, rfl, -, -⟩ := hxk6.form
              unfold exV
              have hbk := boxed wr (.cells #[.bool ar.ref, .string ar.nm, .int .i64 ar.x.op, .int .i64 ar.x.n, .string ar.x.nm, .slice xa ar.x.ks.length xc] 49)
              have hb66 := hbk.trans (hb6.mono hbk.size)
              have hA : BoxAt w6 wr.heap.size [.bool ar.ref, .string ar.nm, .int .i64 ar.x.op, .int .i64 ar.x.n, .string ar.x.nm, .slice xa ar.x.ks.length xc] := (box_new wr #[.bool ar.ref, .string ar.nm, .int .i64 ar.x.op, .int .i64 ar.x.n, .string ar.x.nm, .slice xa ar.x.ks.length xc] 49).next hb6
              have hAF : Free w6 wr.heap.size := Free.next (fun j => by simp [go_sem]) (by simp) hb6
              have HA := Lib.hid hA
              have HAF := Lib.hid hAF
              have HB66 := Lib.hid hb66
              have HXK6 := Lib.hid hxk6
              have a0 := hA 0 _ rfl
              have a1 := hA 1 _ rfl
              have a2 := hA 2 _ rfl
              have a3 := hA 3 _ rfl
              have a4 := hA 4 _ rfl
              have a5 := hA 5 _ rfl
              have f2 := hAF 2
              have f3 := hAF 3
              have f4 := hAF 4
              have f5 := hAF 5
              have hz6 := cell_lt a0
              have hsz6 : wr.heap.size + 1 ≤ w6.heap.size := by omega
              clear hA hAF hb66 hxk6 hb6 hbk d0 d1 d2 d3 d4 d5
              go_upto_region 14 with fail
              refine cut_world (fun wx => Below wr.heap.size wr wx ∧ wr.heap.size < wx.heap.size ∧ BoxAt wx wr.heap.size [.bool ar.ref, .string ar.nm, .int .i64 ar.x.op, .int .i64 ar.x.n, .string ar.x.nm, .slice ka6 ar.x.ks.length kc6] ∧ ExC (nwC wr.heap.size wx) d (.slice ka6 ar.x.ks.length kc6) ar.x.ks) ⟨?_, ?_, ?_, ?_⟩ ?_
              · refine (((HB66.out.setCell (p := ⟨_, _, none⟩) ?_ _).setCell (p := ⟨_, _, none⟩) ?_ _).setCell (p := ⟨_, _, none⟩) ?_ _).setCell (p := ⟨_, _, none⟩) ?_ _ <;> simp
              · simp only [World.size_setCell]
                exact hz6
              · exact ((((HA.out.put (j := 2) (x := .int .i64 ar.x.op) (by simp)).put (j := 3) (x := .int .i64 ar.x.n) (by simp)).put (j := 4) (x := .string ar.x.nm) (by simp)).put (j := 5) (x := .slice ka6 ar.x.ks.length kc6) (by simp))
              · refine ExC.mono ?_ HXK6.out
                refine Cs.le_trans (nw_le (B' := wr.heap.size + 1) (by simp) (Below.refl _ _)) (Cs.le_trans (le_set (by omega)) (Cs.le_trans (le_set (by omega)) (Cs.le_trans (le_set (by omega)) (Cs.le_trans (le_set (by omega)) (nw_le (by omega) (Below.refl _ _))))))
              rintro w7 ⟨hb7, hz7, hA7, hx7⟩
              have HB7 := Lib.hid hb7
              have HX7 := Lib.hid hx7
              have hy10 := HG.out.y 10 _ rfl
              have hYL := cell_lt hy10
              have y10 := cell_next hb7 hy10
              have fy10 := frozen_next hb7 hy10 (HG.out.fy 10)
              have Y10 := Lib.hid y10
              have FY10 := Lib.hid fy10
              have b0 := hA7 0 _ rfl
              have b1 := hA7 1 _ rfl
              have b2 := hA7 2 _ rfl
              have b3 := hA7 3 _ rfl
              have b4 := hA7 4 _ rfl
              have b5 := hA7 5 _ rfl
              have hown5 := ownsBelow HG.out.acc.own hb7
              rw [HQA.out] at hown5
              have HOWN5 := Lib.hid hown5
              have hYB : w0.heap.size + 1 < w4.heap.size := by omega
              clear hb7 hx7 hA7 hown5 hy10 a0 a1 a2 a3 a4 a5 f2 f3 f4 f5 HA HAF HB66 HXK6
              go_wp2_with (at_builtin; refine wpList_append_lies _ rfl (.tmp 47) (.tmp 49) 38 rfl w4.heap.size 49 i1 (.agg #[.bool false, .string ⟨#[]⟩, .int .i64 0, .int .i64 0, .string ⟨#[]⟩, .slice none 0 0]) 6 80 Try.underlying38 hi' hz0' hz1' hz2' rfl (by decide) _ _ _ rfl (HOWN5.out.alloc _) ⟨_, 0, none⟩ 1 1 [.bool ar.ref, .string ar.nm, .int .i64 ar.x.op, .int .i64 ar.x.n, .string ar.x.nm, .slice ka6 ar.x.ks.length kc6] rfl rfl ?_ (by simp [Value.oneCell']) (by decide) ?_ ?_ ?_ _ rfl ?_)
              · intro j u h
                rw [Addr.add_lit, World.cell?_alloc_new]
                simpa using h
              · unfold maxLen; omega
              · omega
              · have := HB7.out.size
                simp only [World.size_alloc]
                omega
              intro g8 cap8 w8 hown8 hg8 hat8 hlt8
              have q10 := (hg8.cell_far ⟨w0.heap.size + 1, 10, none⟩ (by simp only [World.size_alloc]; omega) (HG.out.own _ hYB)).trans (cell_next (boxed w7 _) Y10.out)
              have qf10 := (hg8.frozen_far ⟨w0.heap.size + 1, 10, none⟩ (by simp only [World.size_alloc]; omega) (HG.out.own _ hYB)).trans (frozen_next (boxed w7 _) Y10.out FY10.out)
              have HOWN8 := Lib.hid hown8
              have HG8 := Lib.hid hg8
              have HAT8 := Lib.hid hat8
              have hs8 := hg8.size
              have HS8 := Lib.hid hs8
              clear hown8 hg8 hat8 hlt8 hs8
              go_wp2_with fail
              go_roundw
              case rel =>
                have hch : Below wr.heap.size wr (w7.alloc (.cells #[.bool ar.ref, .string ar.nm, .int .i64 ar.x.op, .int .i64 ar.x.n, .string ar.x.nm, .slice ka6 ar.x.ks.length kc6] 49)) := HB7.out.trans ((boxed w7 _).mono HB7.out.size)
                refine ⟨q + 1, .slice (some ⟨g8, 0, none⟩) (q + 1) cap8, rows5 ++ [[.bool ar.ref, .string ar.nm, .int .i64 ar.x.op, .int .i64 ar.x.n, .string ar.x.nm, .slice ka6 ar.x.ks.length kc6]], by omega, by go_num, ?_, ?_, ?_, ?_⟩
                · exact Grow.below (B := w4.heap.size) (Y := w0.heap.size + 1) (slot := 10) HBEL5.out hch HG8.out (by omega) (by have := HB4.out.size; omega) HG.out.own
                · have := HS8.out
                  have := HB7.out.size
                  simp only [World.size_setCell, World.size_alloc] at *
                  omega
                · refine Cs.le_trans (D := only (fun g => g < w4.heap.size ∧ g ≠ w0.heap.size + 1) (cw wr)) (fun g j u h => ⟨h.1, HKEEP.out g j u h⟩) (Cs.le_trans (grow_keep hch HG8.out HG.out.own) only_out)
                · have hst8 := HG.out.step (v4 := .slice (some ⟨g8, 0, none⟩) (q + 1) cap8) (by simp [stCells]) (ArQ.mono d) (Below.refl _ wr) HB7.out (boxed w7 _) HG8.out (fun z hz => by have hzz : g8 = z := by { simpa [Value.ownBlock] using hz }; subst hzz; exact HAT8.out.imp id fun h => by { (try simp only [World.size_alloc] at h); omega }) rfl ⟨_, rfl, HNMX.out, HOKX.out, HX7.out⟩ (by rw [HQA.out]; exact HOWN8.out)
                  rw [List.take_succ_eq_append_getElem hqt, har.out]
                  exact hst8
              case measure => simp [intOf]; omega
            · have hqt' : ¬ (q : Int) < (s.args.length : Int) := by omega
              have hqe : q = s.args.length := by omega
              subst hqe
              rw [List.take_length] at HG
              have har5 := HG.out.acc.arC (by omega)
              have hz4' := HB4.out.size
              have hS5 : BoxAt wr w0.heap.size (stCells s (.slice ka s.x.ks.length kc) (.slice la s.labels.length lc) (.slice aa s.args.length ac) (.slice ta s.thn.length tc) (.slice ea s.els.length ec)) := fun j u hu => HKEEP.out _ _ _ ⟨⟨by omega, by omega⟩, HS4.out j u hu⟩
              have hT5 : BoxAt wr (w0.heap.size + 1) (stCells T0 (.slice ka3 s.x.ks.length kc3) (.slice la2 s.labels.length lc2) (.slice va5 s.args.length vc5) (.slice ta s.thn.length tc) (.slice ea s.els.length ec)) := HG.out.y
              have hle5 : Cs.le (nwC (w0.heap.size + 1 + 1) w4) (nwC (w0.heap.size + 1 + 1) wr) := fun g j u h => ⟨h.1, HKEEP.out g j u ⟨⟨cell_lt h.2, by have := h.1; omega⟩, h.2⟩⟩
              have HD5 : Hid (StrC (nwC (w0.heap.size + 1 + 1) wr) (.slice la2 s.labels.length lc2) s.labels ∧ ExC (nwC (w0.heap.size + 1 + 1) wr) d (.slice ka3 s.x.ks.length kc3) s.x.ks ∧ SlAt 6 (ArAt (nwC (w0.heap.size + 1 + 1) wr) d) (.slice va5 s.args.length vc5) s.args) := Lib.hid ⟨StrC.mono hle5 HLV4.out, ExC.mono hle5 HXK4.out, SlAt.imp har5 fun _ _ _ _ => ArAt.mono (nw_le hz4 (Below.refl _ _))⟩
              have HS5 := Lib.hid hS5
              have HT5 := Lib.hid hT5
              have HF5 : Hid (Free wr (w0.heap.size + 1)) := Lib.hid HG.out.fy
              have s11 := hS5 11 _ rfl
              have hzT5 : w0.heap.size + 1 < wr.heap.size := by omega
              have hthn : wtL s.thn ≤ 20000 := by have := HWS.out; rw [wtS_eq] at this; omega
              have hels : wtL s.els ≤ 20000 := by have := HWS.out; rw [wtS_eq] at this; omega
              clear hS5 hT5 hle5 har5 hbel5 hkeep hG HKEEP HG HS4 HT4 HF4 HFS4 HLV4 HXK4 s10
              go_wp2_with fail
              refine (IH.out s.thn _ (N + 1) _ (HT.out.next HBEL5.out) hthn).mono ?_
              obtain ⟨L6, hL6⟩ : ∃ L6, Hid (cpL false (N + 1) s.thn = L6) := ⟨_, Lib.hid rfl⟩
              rintro e w6 ⟨v6, rfl, hst6, hb6⟩
              rw [hL6.out] at hst6
              obtain ⟨ta6, tc6, rfl, -, -⟩ := hst6.form
              have HST6 := Lib.hid hst6
              have HB6 := Lib.hid hb6
              have HT6 := Lib.hid (HT5.out.next hb6)
              have HF6 := Lib.hid (HF5.out.next hzT5 hb6)
              have HS6 := Lib.hid (HS5.out.next hb6)
              have t11 := HT6.out 11 _ rfl
              have f11 := HF6.out 11
              have hsz6 := hb6.size
              clear hst6 hb6 s11
              go_upto_region 17 with fail
              refine cut_world (fun wx => Below w0.heap.size w0 wx ∧ w6.heap.size ≤ wx.heap.size ∧ BoxAt wx w0.heap.size (stCells s (.slice ka s.x.ks.length kc) (.slice la s.labels.length lc) (.slice aa s.args.length ac) (.slice ta s.thn.length tc) (.slice ea s.els.length ec)) ∧ BoxAt wx (w0.heap.size + 1) (stCells T0 (.slice ka3 s.x.ks.length kc3) (.slice la2 s.labels.length lc2) (.slice va5 s.args.length vc5) (.slice ta6 L6.length tc6) (.slice ea s.els.length ec)) ∧ Free wx (w0.heap.size + 1) ∧ (StrC (nwC (w0.heap.size + 1 + 1) wx) (.slice la2 s.labels.length lc2) s.labels ∧ ExC (nwC (w0.heap.size + 1 + 1) wx) d (.slice ka3 s.x.ks.length kc3) s.x.ks ∧ SlAt 6 (ArAt (nwC (w0.heap.size + 1 + 1) wx) d) (.slice va5 s.args.length vc5) s.args) ∧ StC (nwC (w0.heap.size + 1 + 1) wx) d (.slice ta6 L6.length tc6) L6) ⟨?_, ?_, ?_, ?_, ?_, ?_, ?_⟩ ?_
              · exact (HBEL5.out.trans (HB6.out.mono HBEL5.out.size)).setCell (p := ⟨_, _, none⟩) (by simp) _
              · simp only [World.size_setCell]; exact Nat.le_refl _
              · exact HS6.out.set (by omega)
              · exact HT6.out.put (j := 11) (x := .slice ta6 L6.length tc6) (by simp [stCells])
              · exact HF6.out.set
              · have hle := Cs.le_trans (nw_le (Nat.le_refl (w0.heap.size + 1 + 1)) HB6.out) (le_set (R := w0.heap.size + 1) (j := 11) (x := .slice ta6 L6.length tc6) (by omega))
                exact ⟨StrC.mono hle HD5.out.1, ExC.mono hle HD5.out.2.1, SlAt.imp HD5.out.2.2 fun _ _ _ _ => ArAt.mono hle⟩
              · exact StC.mono (Cs.le_trans (nw_le (B' := w0.heap.size + 1 + 1) (by omega) (Below.refl _ _)) (le_set (by omega))) HST6.out
              rintro w7 ⟨hb7, hz7, hS7, hT7, hF7, hD7, hst7⟩
              have HB7 := Lib.hid hb7
              have HT7 := Lib.hid hT7
              have HF7 := Lib.hid hF7
              have HD7 := Lib.hid hD7
              have HST7 := Lib.hid hst7
              have s12 := hS7 12 _ rfl
              have hzT7 : w0.heap.size + 1 < w7.heap.size := by omega
              clear hb7 hS7 hT7 hF7 hD7 hst7 HD5 HS5 HT5 HF5 HST6 HB6 HT6 HF6 HS6 t11 f11
              go_wp2_with fail
              refine (IH.out s.els _ (N + 1 + cntL s.thn) _ (HE.out.next HB7.out) hels).mono ?_
              obtain ⟨L8, hL8⟩ : ∃ L8, Hid (cpL false (N + 1 + cntL s.thn) s.els = L8) := ⟨_, Lib.hid rfl⟩
              rintro e w8 ⟨v8, rfl, hst8, hb8⟩
              rw [hL8.out] at hst8
              obtain ⟨ea8, ec8, rfl, -, -⟩ := hst8.form
              have HST8 := Lib.hid hst8
              have HB8 := Lib.hid hb8
              have HT8 := Lib.hid (HT7.out.next hb8)
              have HF8 := Lib.hid (HF7.out.next hzT7 hb8)
              have t12 := HT8.out 12 _ rfl
              have f12 := HF8.out 12
              have hsz8 := hb8.size
              clear hst8 hb8 s12
              go_upto_region 18 with fail
              refine cut_world (fun wx => Below w0.heap.size w0 wx ∧ w8.heap.size ≤ wx.heap.size ∧ BoxAt wx (w0.heap.size + 1) (stCells T0 (.slice ka3 s.x.ks.length kc3) (.slice la2 s.labels.length lc2) (.slice va5 s.args.length vc5) (.slice ta6 L6.length tc6) (.slice ea8 L8.length ec8)) ∧ StQ d (nwC w0.heap.size wx) (stCells T0 (.slice ka3 s.x.ks.length kc3) (.slice la2 s.labels.length lc2) (.slice va5 s.args.length vc5) (.slice ta6 L6.length tc6) (.slice ea8 L8.length ec8)) (cpS false N s)) ⟨?_, ?_, ?_, ?_⟩ ?_
              · exact (HB7.out.trans (HB8.out.mono HB7.out.size)).setCell (p := ⟨_, _, none⟩) (by simp) _
              · simp only [World.size_setCell]; exact Nat.le_refl _
              · exact HT8.out.put (j := 12) (x := .slice ea8 L8.length ec8) (by simp [stCells])
              · have hle := Cs.le_trans (Cs.le_trans (nw_le (Nat.le_refl (w0.heap.size + 1 + 1)) HB8.out) (le_set (R := w0.heap.size + 1) (j := 12) (x := .slice ea8 L8.length ec8) (by omega))) (nw_le (B' := w0.heap.size) (by omega) (Below.refl _ _))
                have hle8 := Cs.le_trans (Cs.le_trans (nw_le (B := w7.heap.size) (B' := w0.heap.size + 1 + 1) (w := w8) (w' := w8) (by omega) (Below.refl _ _)) (le_set (R := w0.heap.size + 1) (j := 12) (x := .slice ea8 L8.length ec8) (by omega))) (nw_le (B' := w0.heap.size) (by omega) (Below.refl _ _))
                refine ⟨.slice ka3 s.x.ks.length kc3, .slice la2 s.labels.length lc2, .slice va5 s.args.length vc5, .slice ta6 L6.length tc6, .slice ea8 L8.length ec8, ?_, ?_, ?_, ?_, ?_, ?_, ?_, ?_, ?_, ?_, ?_⟩
                · rw [cpS_eq, ← hT0.out]; rfl
                · rw [cpS_eq]; exact HOK.out
                · rw [cpS_eq]; exact ExC.mono hle HD7.out.2.1
                · rw [cpS_eq]; exact HI1.out
                · rw [cpS_eq]; exact HI2.out
                · rw [cpS_eq]; exact HI3.out
                · rw [cpS_eq]; exact HI4.out
                · rw [cpS_eq]; exact StrC.mono hle HD7.out.1
                · rw [cpS_eq]; exact SlAt.imp HD7.out.2.2 fun _ _ _ _ => ArAt.mono hle
                · rw [cpS_eq]; show StC _ d _ (cpL _ _ _); rw [hL6.out]; exact StC.mono hle HST7.out
                · rw [cpS_eq]; show StC _ d _ (cpL _ _ _); rw [hL8.out]; exact StC.mono hle8 HST8.out
              rintro w9 ⟨hb9, hz9, hT9, hq9⟩
              have HB9 := Lib.hid hb9
              have HQ9 := Lib.hid hq9
              have b0 := hT9 0 _ rfl
              have b1 := hT9 1 _ rfl
              have b2 := hT9 2 _ rfl
              have b3 := hT9 3 _ rfl
              have b4 := hT9 4 _ rfl
              have b5 := hT9 5 _ rfl
              have b6 := hT9 6 _ rfl
              have b7 := hT9 7 _ rfl
              have b8 := hT9 8 _ rfl
              have b9 := hT9 9 _ rfl
              have b10 := hT9 10 _ rfl
              have b11 := hT9 11 _ rfl
              have b12 := hT9 12 _ rfl
              have hown9 := ownsBelow HACC.out.own hb9
              rw [HCL.out] at hown9
              have HOWN9 := Lib.hid hown9
              have hz0 := HBEL.out.size
              have hz9' := hb9.size
              clear hb9 hT9 hq9 hown9 HB7 HT7 HF7 HD7 HST7 HST8 HB8 HT8 HF8 t12 f12
              go_wp2_with (at_builtin; refine wpList_append_lies _ rfl (.tmp 71) (.tmp 73) 39 rfl w.heap.size 41 i0 (.agg #[.int .i64 0, .int .i64 0, .slice none 0 0, .string ⟨#[]⟩, .string ⟨#[]⟩, .int .i64 0, .int .i64 0, .string ⟨#[]⟩, .slice none 0 0, .bool false, .slice none 0 0, .slice none 0 0, .slice none 0 0]) 13 208 Try.underlying39 hi hz0q hz1 hz2 rfl (by decide) _ _ _ rfl (HOWN9.out.alloc _) ⟨_, 0, none⟩ 1 1 [.int .i64 T0.id, .int .i64 T0.kind, .slice la2 s.labels.length lc2, .string T0.nm, .string T0.proc, .int .i64 T0.x.op, .int .i64 T0.x.n, .string T0.x.nm, .slice ka3 s.x.ks.length kc3, .bool T0.has, .slice va5 s.args.length vc5, .slice ta6 L6.length tc6, .slice ea8 L8.length ec8] rfl rfl ?_ (by simp [Value.oneCell']) (by decide) ?_ ?_ ?_ _ rfl ?_)
              · intro j u h
                rw [Addr.add_lit, World.cell?_alloc_new]
                simpa using h
              · unfold maxLen; omega
              · omega
              · simp only [World.size_alloc]
                omega
              intro g10 cap10 w10 hown10 hg10 hat10 hlt10
              have HOWN10 := Lib.hid hown10
              have HG10 := Lib.hid hg10
              have HAT10 := Lib.hid hat10
              clear hown10 hg10 hat10 hlt10
              go_wp2_with fail
              go_roundw
              case rel =>
                refine ⟨k + 1, .slice (some ⟨g10, 0, none⟩) (k + 1) cap10, rows ++ [[.int .i64 T0.id, .int .i64 T0.kind, .slice la2 s.labels.length lc2, .string T0.nm, .string T0.proc, .int .i64 T0.x.op, .int .i64 T0.x.n, .string T0.x.nm, .slice ka3 s.x.ks.length kc3, .bool T0.has, .slice va5 s.args.length vc5, .slice ta6 L6.length tc6, .slice ea8 L8.length ec8]], by omega, by go_num, ?_, rfl, ?_, ?_⟩
                · congr 2
                  rw [List.take_succ_eq_append_getElem hlt, cntL_append, hs.out, ← hN.out, cntL_cons, cntS_eq]
                  have : cntL ([] : List St) = 0 := by simp [cntL]
                  rw [this]
                  push_cast
                  omega
                · have hm := HACC.out.more (v4 := .slice (some ⟨g10, 0, none⟩) (k + 1) cap10) (c := [.int .i64 T0.id, .int .i64 T0.kind, .slice la2 s.labels.length lc2, .string T0.nm, .string T0.proc, .int .i64 T0.x.op, .int .i64 T0.x.n, .string T0.x.nm, .slice ka3 s.x.ks.length kc3, .bool T0.has, .slice va5 s.args.length vc5, .slice ta6 L6.length tc6, .slice ea8 L8.length ec8]) (x := cpS false N s) (StQ.mono d) (Below.refl _ _) HBEL.out.size HB9.out (boxed w9 _) HG10.out (fun z hz => by have hzz : g10 = z := by { simpa [Value.ownBlock] using hz }; subst hzz; exact HAT10.out.imp id fun h => by { (try simp only [World.size_alloc] at h); omega }) rfl HQ9.out (by rw [HCL.out]; exact HOWN10.out)
                  rw [List.take_succ_eq_append_getElem hlt, hs.out, cpL_append, hN.out, cpL_cons]
                  have : cpL false (N + (cntS s : Int)) [] = [] := by simp only [cpL]
                  rw [this]
                  exact hm
                · exact (HBEL.out.trans ((HB9.out.trans ((boxed w9 _).mono HB9.out.size)).mono HBEL.out.size)).grown HG10.out (by simp only [World.size_alloc]; omega) fun z hz => (HACC.out.own.lt z hz).1
              case measure => simp [intOf]; omega
        | true =>
          have hID2 : _ = ID := hID.out
          subst hID2
          go_upto_region 9 with fail
          refine cut_world (fun wx => Below w0.heap.size w0 wx ∧ wx.heap.size = w0.heap.size + 1 + 1 ∧ BoxAt wx w0.heap.size (stCells s (.slice ka s.x.ks.length kc) (.slice la s.labels.length lc) (.slice aa s.args.length ac) (.slice ta s.thn.length tc) (.slice ea s.els.length ec)) ∧
            BoxAt wx (w0.heap.size + 1) (stCells T0 (.slice ka s.x.ks.length kc) (.slice la s.labels.length lc) (.slice aa s.args.length ac) (.slice ta s.thn.length tc) (.slice ea s.els.length ec)) ∧ Free wx (w0.heap.size + 1) ∧ Free wx w0.heap.size) ⟨?_, ?_, ?_, ?_, ?_, ?_⟩ ?_
          · exact (boxed w0 _).alloc (by simp) _
          · simp
          · exact (box_new w0 _ _).next (boxed _ _)
          · rw [← hT0.out]
            exact box_two w0 _ _ _
          · exact free_two w0 _ _ _
          · exact free_one w0 _ _ _ _
          rintro w1 ⟨hb1, hz1s, hS, hT, hF, hFS⟩
          have HFS := Lib.hid hFS
          have HS := Lib.hid hS
          have HTB := Lib.hid hT
          have HF := Lib.hid hF
          have HB1 := Lib.hid hb1
          have s2 := hS 2 _ rfl
          have s5 := hS 5 _ rfl
          have s6 := hS 6 _ rfl
          have s7 := hS 7 _ rfl
          have s8 := hS 8 _ rfl
          have HLAB1 := Lib.hid (StrC.to (StrC.mono (cw_next hb1) HLAB.out))
          have HXK1 := Lib.hid (ExC.to (ExC.mono (cw_next hb1) HXK.out))
          have hlab : s.labels.length ≤ 1000000 := by have := wtTs_len s.labels; have := HWS.out; rw [wtS_eq] at this; omega
          have HLIM := Lib.hid (lim_ex (x := s.x) (by have := HWS.out; rw [wtS_eq] at this; omega) d)
          have hzs : w0.heap.size < w1.heap.size := by omega
          have hzt : w0.heap.size + 1 < w1.heap.size := by omega
          clear hS hT hF hFS hb1 e0 e1 e2 e3 e4 e5 e6 e7 e8 e9 e10 e11 e12
          go_region_held3 (fun w' => w'.cell? ⟨w0.heap.size, 2, none⟩ = some (.slice la s.labels.length lc) ∧ w'.cell? ⟨w0.heap.size, 5, none⟩ = some (.int .i64 s.x.op) ∧ w'.cell? ⟨w0.heap.size, 6, none⟩ = some (.int .i64 s.x.n) ∧ w'.cell? ⟨w0.heap.size, 7, none⟩ = some (.string s.x.nm) ∧ w'.cell? ⟨w0.heap.size, 8, none⟩ = some (.slice ka s.x.ks.length kc))
            (first
              | go_keep
              | (go_split_ands
                 refine ⟨?_, ?_, ?_, ?_, ?_⟩ <;> exact cell_next hb3 (by assumption))
              | (go_split_ands
                 refine ⟨?_, ?_, ?_, ?_, ?_⟩ <;> exact cell_next hb2 (by assumption)))
            (first
              | (go_at_call 73
                 refine (cloneTexts_any s.labels _ _ (HLAB1.out.next (below_drewN (Below.refl _ _) 1)) hlab).mono ?_
                 rintro e w2 ⟨lv2, rfl, hlv2, hb2⟩
                 obtain ⟨la2, lc2, rfl, -, -⟩ := hlv2.form
                 have HLV2 := Lib.hid hlv2
                 have HB2 := Lib.hid (HB1.out.trans (((below_drewN (Below.refl _ _) 1).trans hb2).mono HB1.out.size))
                 have HXK2 := Lib.hid ((HXK1.out.next (below_drewN (Below.refl _ _) 1)).next hb2)
                 have HFS2 := Lib.hid ((HFS.out.next hzs (below_drewN (Below.refl _ _) 1)).next hzs hb2)
                 have HS2 := Lib.hid ((HS.out.next (below_drewN (Below.refl _ _) 1)).next hb2)
                 have HT2 := Lib.hid ((HTB.out.next (below_drewN (Below.refl _ _) 1)).next hb2)
                 have HF2 := Lib.hid ((HF.out.next hzt (below_drewN (Below.refl _ _) 1)).next hzt hb2))
              | (go_at_call 132
                 refine (expr_any d s.x _ _ HOK.out HXK2.out HLIM.out).mono ?_
                 rintro e w3 ⟨kv3, rfl, -, hxk3, hb3⟩
                 obtain ⟨ka3, kc3, rfl, -, -⟩ := hxk3.form
                 unfold exV
                 have HXK3 := Lib.hid hxk3
                 have HLV3 := Lib.hid (StrC.mono (nw_le (Nat.le_refl _) hb3) HLV2.out)
                 have HB3 := Lib.hid (HB2.out.trans (hb3.mono HB2.out.size))
                 have HFS3 := Lib.hid (HFS2.out.next (by have := cell_lt (HS2.out 0 _ rfl); omega) hb3)
                 have HS3 := Lib.hid (HS2.out.next hb3)
                 have HT3 := Lib.hid (HT2.out.next hb3)
                 have hz3 : w0.heap.size + 1 < w2.heap.size := cell_lt (HT2.out 0 _ rfl)
                 have HF3 := Lib.hid (HF2.out.next hz3 hb3)
                 have t2 := HT3.out 2 _ rfl
                 have t5 := HT3.out 5 _ rfl
                 have t6 := HT3.out 6 _ rfl
                 have t7 := HT3.out 7 _ rfl
                 have t8 := HT3.out 8 _ rfl
                 have t10 := HT3.out 10 _ rfl
                 have f2 := HF3.out 2
                 have f5 := HF3.out 5
                 have f6 := HF3.out 6
                 have f7 := HF3.out 7
                 have f8 := HF3.out 8
                 have f10 := HF3.out 10))
          go_upto_region 10 with fail
          refine cut_world (fun wx => Below w0.heap.size w0 wx ∧ w0.heap.size + 1 + 1 ≤ wx.heap.size ∧ BoxAt wx w0.heap.size (stCells s (.slice ka s.x.ks.length kc) (.slice la s.labels.length lc) (.slice aa s.args.length ac) (.slice ta s.thn.length tc) (.slice ea s.els.length ec)) ∧
            BoxAt wx (w0.heap.size + 1) (stCells T0 (.slice ka3 s.x.ks.length kc3) (.slice la2 s.labels.length lc2) (.slice none 0 0) (.slice ta s.thn.length tc) (.slice ea s.els.length ec)) ∧ Free wx (w0.heap.size + 1) ∧ Free wx w0.heap.size ∧
            StrC (nwC (w0.heap.size + 1 + 1) wx) (.slice la2 s.labels.length lc2) s.labels ∧ ExC (nwC (w0.heap.size + 1 + 1) wx) d (.slice ka3 s.x.ks.length kc3) s.x.ks) ⟨?_, ?_, ?_, ?_, ?_, ?_, ?_, ?_⟩ ?_
          · refine (((((HB3.out.setCell (p := ⟨_, _, none⟩) ?_ _).setCell (p := ⟨_, _, none⟩) ?_ _).setCell (p := ⟨_, _, none⟩) ?_ _).setCell (p := ⟨_, _, none⟩) ?_ _).setCell (p := ⟨_, _, none⟩) ?_ _).setCell (p := ⟨_, _, none⟩) ?_ _ <;> simp
          · have := hb3.size
            simp only [World.size_setCell]
            omega
          · exact (((((HS3.out.set (by omega)).set (by omega)).set (by omega)).set (by omega)).set (by omega)).set (by omega)
          · have e : ((((((stCells T0 (.slice ka s.x.ks.length kc) (.slice la s.labels.length lc) (.slice aa s.args.length ac) (.slice ta s.thn.length tc) (.slice ea s.els.length ec)).set 2 (.slice la2 s.labels.length lc2)).set 5 (.int .i64 s.x.op)).set 6 (.int .i64 s.x.n)).set 7 (.string s.x.nm)).set 8 (.slice ka3 s.x.ks.length kc3)).set 10 (.slice none 0 0) = stCells T0 (.slice ka3 s.x.ks.length kc3) (.slice la2 s.labels.length lc2) (.slice none 0 0) (.slice ta s.thn.length tc) (.slice ea s.els.length ec) := by rw [← hT0.out]; rfl
            rw [← e]
            exact (((((HT3.out.put (by simp [stCells])).put (by simp [stCells])).put (by simp [stCells])).put (by simp [stCells])).put (by simp [stCells])).put (by simp [stCells])
          · exact (((((HF3.out.set).set).set).set).set).set
          · exact (((((HFS3.out.set).set).set).set).set).set
          · refine StrC.mono ?_ HLV3.out
            refine Cs.le_trans (nw_le (B' := w0.heap.size + 1 + 1) ?_ (Below.refl _ _)) (Cs.le_trans (le_set (by omega)) (Cs.le_trans (le_set (by omega)) (Cs.le_trans (le_set (by omega)) (Cs.le_trans (le_set (by omega)) (Cs.le_trans (le_set (by omega)) (le_set (by omega)))))))
            simp; omega
          · refine ExC.mono ?_ HXK3.out
            refine Cs.le_trans (nw_le (B' := w0.heap.size + 1 + 1) ?_ (Below.refl _ _)) (Cs.le_trans (le_set (by omega)) (Cs.le_trans (le_set (by omega)) (Cs.le_trans (le_set (by omega)) (Cs.le_trans (le_set (by omega)) (Cs.le_trans (le_set (by omega)) (le_set (by omega)))))))
            omega
          rintro w4 ⟨hb4, hz4, hS4, hT4, hF4, hFS4, hlv4, hxk4⟩
          have HFS4 := Lib.hid hFS4
          have HB4 := Lib.hid hb4
          have HS4 := Lib.hid hS4
          have HT4 := Lib.hid hT4
          have HF4 := Lib.hid hF4
          have HLV4 := Lib.hid hlv4
          have HXK4 := Lib.hid hxk4
          have s10 := hS4 10 _ rfl
          have hargs : s.args.length ≤ 20000 := by have := wtAr_len s.args; have := HWS.out; rw [wtS_eq] at this; omega
          clear HLV2 HB2 HXK2 HT2 HF2 HS2 HXK3 HLV3 HB3 HT3 HF3 HS3 HFS HFS2 HFS3 hFS4 t2 t5 t6 t7 t8 t10 f2 f5 f6 f7 f8 f10 hz3 hb3 hb2 hlv2 hxk3 hb4 hS4 hT4 hF4 hlv4 hxk4 s2 s5 s6 s7 s8 hzs hzt hz1s HS HTB HF HB1 HLAB1 HXK1 HLIM hlab
          go_wp2_with fail
          go_loopw [38] (fun i wr => ∃ (q : Nat) (v5 : Value) (rows5 : List (List Value)), q ≤ s.args.length ∧ i = .int .i64 q ∧ Below w0.heap.size w0 wr ∧ w4.heap.size ≤ wr.heap.size ∧ Cs.le (only (fun g => g < w4.heap.size ∧ g ≠ w0.heap.size + 1) (cw w4)) (cw wr) ∧
            Grow (ArQ d) 49 6 w4.heap.size (w0.heap.size + 1) w0.heap.size 0 (stCells T0 (.slice ka3 s.x.ks.length kc3) (.slice la2 s.labels.length lc2) (.slice none 0 0) (.slice ta s.thn.length tc) (.slice ea s.els.length ec)) 10 (s.args.take q) wr v5 rows5) (fun i _ => (s.args.length - intOf i).toNat)
          case atStart =>
            refine ⟨0, .slice none 0 0, [], by omega, rfl, HB4.out, Nat.le_refl _, only_out, by omega, by omega, by omega, by omega, ?_, HF4.out, fun j hj => absurd hj (by omega), ?_, Acc.nil _ _ _ _ _, Nat.le_refl _⟩
            · exact HT4.out
            · exact HFS4.out
          case round =>
            obtain ⟨q, v5, rows5, hq, rfl, hbel5, hz5, hkeep, hG⟩ := hrel
            have HBEL5 := Lib.hid hbel5
            have HKEEP := Lib.hid hkeep
            have HG := Lib.hid hG
            obtain ⟨va5, vc5, hv5⟩ := ownsForm hG.acc.own
            have hqa : (s.args.take q).length = q := by rw [List.length_take]; omega
            rw [hqa] at hv5
            subst hv5
            have HQA := Lib.hid hqa
            clear hqa
            by_cases hqt : q < s.args.length
            · have hqt' : (q : Int) < (s.args.length : Int) := by omega
              have h0q : (0 : Int) ≤ (q : Int) := by omega
              have hne2 : s.args ≠ [] := by intro h; rw [h] at hqt; simp at hqt
              obtain ⟨g2, off2, cap2, hv2, _, hcells2⟩ := SlAt.cells (SlAt.imp HARG.out fun _ _ _ _ => ArAt.mono (cw_next hbel5)) hne2
              simp only [Value.slice.injEq] at hv2
              obtain ⟨rfl, -, rfl⟩ := hv2
              obtain ⟨r0, r1, r2, kx, r3, r4, r5, r6, hokx, hxx⟩ := hcells2 q hqt
              obtain ⟨ar, har⟩ : ∃ ar, Hid (s.args[q] = ar) := ⟨_, Lib.hid rfl⟩
              have hwa := wtAr_mem (List.getElem_mem hqt)
              rw [har.out] at r0 r1 r2 r3 r4 r5 hokx hxx hwa
              obtain ⟨xa, xc, rfl, -, -⟩ := hxx.form
              have d0 : wr.cell? ⟨g2, off2 + q * 6, none⟩ = _ := r0
              have d1 : wr.cell? ⟨g2, off2 + q * 6 + 1, none⟩ = _ := r1
              have d2 : wr.cell? ⟨g2, off2 + q * 6 + 2, none⟩ = _ := r3
              have d3 : wr.cell? ⟨g2, off2 + q * 6 + 3, none⟩ = _ := r4
              have d4 : wr.cell? ⟨g2, off2 + q * 6 + 4, none⟩ = _ := r5
              have d5 : wr.cell? ⟨g2, off2 + q * 6 + 5, none⟩ = _ := r6
              have HXX := Lib.hid (ExC.to (ExC.mono (cw_next (boxed wr (.cells #[.bool ar.ref, .string ar.nm, .int .i64 ar.x.op, .int .i64 ar.x.n, .string ar.x.nm, .slice xa ar.x.ks.length xc] 49))) hxx))
              have HOKX := Lib.hid hokx
              have HNMX := Lib.hid r2
              have HLX := Lib.hid (lim_ex (x := ar.x) (by have := HWS.out; rw [wtS_eq] at this; omega) d)
              clear hcells2 r0 r1 r2 r3 r4 r5 r6 hxx hokx hne2 hwa hbel5 hkeep hG
              go_wp2_with fail
              refine (expr_any d ar.x _ _ HOKX.out HXX.out HLX.out).mono ?_
              rintro e w6 ⟨kv6, rfl, -, hxk6, hb6⟩
              obtain ⟨ka6, kc6, rfl, -, -⟩ := hxk6.form
              unfold exV
              have hbk := boxed wr (.cells #[.bool ar.ref, .string ar.nm, .int .i64 ar.x.op, .int .i64 ar.x.n, .string ar.x.nm, .slice xa ar.x.ks.length xc] 49)
              have hb66 := hbk.trans (hb6.mono hbk.size)
              have hA : BoxAt w6 wr.heap.size [.bool ar.ref, .string ar.nm, .int .i64 ar.x.op, .int .i64 ar.x.n, .string ar.x.nm, .slice xa ar.x.ks.length xc] := (box_new wr #[.bool ar.ref, .string ar.nm, .int .i64 ar.x.op, .int .i64 ar.x.n, .string ar.x.nm, .slice xa ar.x.ks.length xc] 49).next hb6
              have hAF : Free w6 wr.heap.size := Free.next (fun j => by simp [go_sem]) (by simp) hb6
              have HA := Lib.hid hA
              have HAF := Lib.hid hAF
              have HB66 := Lib.hid hb66
              have HXK6 := Lib.hid hxk6
              have a0 := hA 0 _ rfl
              have a1 := hA 1 _ rfl
              have a2 := hA 2 _ rfl
              have a3 := hA 3 _ rfl
              have a4 := hA 4 _ rfl
              have a5 := hA 5 _ rfl
              have f2 := hAF 2
              have f3 := hAF 3
              have f4 := hAF 4
              have f5 := hAF 5
              have hz6 := cell_lt a0
              have hsz6 : wr.heap.size + 1 ≤ w6.heap.size := by omega
              clear hA hAF hb66 hxk6 hb6 hbk d0 d1 d2 d3 d4 d5
              go_upto_region 14 with fail
              refine cut_world (fun wx => Below wr.heap.size wr wx ∧ wr.heap.size < wx.heap.size ∧ BoxAt wx wr.heap.size [.bool ar.ref, .string ar.nm, .int .i64 ar.x.op, .int .i64 ar.x.n, .string ar.x.nm, .slice ka6 ar.x.ks.length kc6] ∧ ExC (nwC wr.heap.size wx) d (.slice ka6 ar.x.ks.length kc6) ar.x.ks) ⟨?_, ?_, ?_, ?_⟩ ?_
              · refine (((HB66.out.setCell (p := ⟨_, _, none⟩) ?_ _).setCell (p := ⟨_, _, none⟩) ?_ _).setCell (p := ⟨_, _, none⟩) ?_ _).setCell (p := ⟨_, _, none⟩) ?_ _ <;> simp
              · simp only [World.size_setCell]
                exact hz6
              · exact ((((HA.out.put (j := 2) (x := .int .i64 ar.x.op) (by simp)).put (j := 3) (x := .int .i64 ar.x.n) (by simp)).put (j := 4) (x := .string ar.x.nm) (by simp)).put (j := 5) (x := .slice ka6 ar.x.ks.length kc6) (by simp))
              · refine ExC.mono ?_ HXK6.out
                refine Cs.le_trans (nw_le (B' := wr.heap.size + 1) (by simp) (Below.refl _ _)) (Cs.le_trans (le_set (by omega)) (Cs.le_trans (le_set (by omega)) (Cs.le_trans (le_set (by omega)) (Cs.le_trans (le_set (by omega)) (nw_le (by omega) (Below.refl _ _))))))
              rintro w7 ⟨hb7, hz7, hA7, hx7⟩
              have HB7 := Lib.hid hb7
              have HX7 := Lib.hid hx7
              have hy10 := HG.out.y 10 _ rfl
              have hYL := cell_lt hy10
              have y10 := cell_next hb7 hy10
              have fy10 := frozen_next hb7 hy10 (HG.out.fy 10)
              have Y10 := Lib.hid y10
              have FY10 := Lib.hid fy10
              have b0 := hA7 0 _ rfl
              have b1 := hA7 1 _ rfl
              have b2 := hA7 2 _ rfl
              have b3 := hA7 3 _ rfl
              have b4 := hA7 4 _ rfl
              have b5 := hA7 5 _ rfl
              have hown5 := ownsBelow HG.out.acc.own hb7
              rw [HQA.out] at hown5
              have HOWN5 := Lib.hid hown5
              have hYB : w0.heap.size + 1 < w4.heap.size := by omega
              clear hb7 hx7 hA7 hown5 hy10 a0 a1 a2 a3 a4 a5 f2 f3 f4 f5 HA HAF HB66 HXK6
              go_wp2_with (at_builtin; refine wpList_append_lies _ rfl (.tmp 47) (.tmp 49) 38 rfl w4.heap.size 49 i1 (.agg #[.bool false, .string ⟨#[]⟩, .int .i64 0, .int .i64 0, .string ⟨#[]⟩, .slice none 0 0]) 6 80 Try.underlying38 hi' hz0' hz1' hz2' rfl (by decide) _ _ _ rfl (HOWN5.out.alloc _) ⟨_, 0, none⟩ 1 1 [.bool ar.ref, .string ar.nm, .int .i64 ar.x.op, .int .i64 ar.x.n, .string ar.x.nm, .slice ka6 ar.x.ks.length kc6] rfl rfl ?_ (by simp [Value.oneCell']) (by decide) ?_ ?_ ?_ _ rfl ?_)
              · intro j u h
                rw [Addr.add_lit, World.cell?_alloc_new]
                simpa using h
              · unfold maxLen; omega
              · omega
              · have := HB7.out.size
                simp only [World.size_alloc]
                omega
              intro g8 cap8 w8 hown8 hg8 hat8 hlt8
              have q10 := (hg8.cell_far ⟨w0.heap.size + 1, 10, none⟩ (by simp only [World.size_alloc]; omega) (HG.out.own _ hYB)).trans (cell_next (boxed w7 _) Y10.out)
              have qf10 := (hg8.frozen_far ⟨w0.heap.size + 1, 10, none⟩ (by simp only [World.size_alloc]; omega) (HG.out.own _ hYB)).trans (frozen_next (boxed w7 _) Y10.out FY10.out)
              have HOWN8 := Lib.hid hown8
              have HG8 := Lib.hid hg8
              have HAT8 := Lib.hid hat8
              have hs8 := hg8.size
              have HS8 := Lib.hid hs8
              clear hown8 hg8 hat8 hlt8 hs8
              go_wp2_with fail
              go_roundw
              case rel =>
                have hch : Below wr.heap.size wr (w7.alloc (.cells #[.bool ar.ref, .string ar.nm, .int .i64 ar.x.op, .int .i64 ar.x.n, .string ar.x.nm, .slice ka6 ar.x.ks.length kc6] 49)) := HB7.out.trans ((boxed w7 _).mono HB7.out.size)
                refine ⟨q + 1, .slice (some ⟨g8, 0, none⟩) (q + 1) cap8, rows5 ++ [[.bool ar.ref, .string ar.nm, .int .i64 ar.x.op, .int .i64 ar.x.n, .string ar.x.nm, .slice ka6 ar.x.ks.length kc6]], by omega, by go_num, ?_, ?_, ?_, ?_⟩
                · exact Grow.below (B := w4.heap.size) (Y := w0.heap.size + 1) (slot := 10) HBEL5.out hch HG8.out (by omega) (by have := HB4.out.size; omega) HG.out.own
                · have := HS8.out
                  have := HB7.out.size
                  simp only [World.size_setCell, World.size_alloc] at *
                  omega
                · refine Cs.le_trans (D := only (fun g => g < w4.heap.size ∧ g ≠ w0.heap.size + 1) (cw wr)) (fun g j u h => ⟨h.1, HKEEP.out g j u h⟩) (Cs.le_trans (grow_keep hch HG8.out HG.out.own) only_out)
                · have hst8 := HG.out.step (v4 := .slice (some ⟨g8, 0, none⟩) (q + 1) cap8) (by simp [stCells]) (ArQ.mono d) (Below.refl _ wr) HB7.out (boxed w7 _) HG8.out (fun z hz => by have hzz : g8 = z := by { simpa [Value.ownBlock] using hz }; subst hzz; exact HAT8.out.imp id fun h => by { (try simp only [World.size_alloc] at h); omega }) rfl ⟨_, rfl, HNMX.out, HOKX.out, HX7.out⟩ (by rw [HQA.out]; exact HOWN8.out)
                  rw [List.take_succ_eq_append_getElem hqt, har.out]
                  exact hst8
              case measure => simp [intOf]; omega
            · have hqt' : ¬ (q : Int) < (s.args.length : Int) := by omega
              have hqe : q = s.args.length := by omega
              subst hqe
              rw [List.take_length] at HG
              have har5 := HG.out.acc.arC (by omega)
              have hz4' := HB4.out.size
              have hS5 : BoxAt wr w0.heap.size (stCells s (.slice ka s.x.ks.length kc) (.slice la s.labels.length lc) (.slice aa s.args.length ac) (.slice ta s.thn.length tc) (.slice ea s.els.length ec)) := fun j u hu => HKEEP.out _ _ _ ⟨⟨by omega, by omega⟩, HS4.out j u hu⟩
              have hT5 : BoxAt wr (w0.heap.size + 1) (stCells T0 (.slice ka3 s.x.ks.length kc3) (.slice la2 s.labels.length lc2) (.slice va5 s.args.length vc5) (.slice ta s.thn.length tc) (.slice ea s.els.length ec)) := HG.out.y
              have hle5 : Cs.le (nwC (w0.heap.size + 1 + 1) w4) (nwC (w0.heap.size + 1 + 1) wr) := fun g j u h => ⟨h.1, HKEEP.out g j u ⟨⟨cell_lt h.2, by have := h.1; omega⟩, h.2⟩⟩
              have HD5 : Hid (StrC (nwC (w0.heap.size + 1 + 1) wr) (.slice la2 s.labels.length lc2) s.labels ∧ ExC (nwC (w0.heap.size + 1 + 1) wr) d (.slice ka3 s.x.ks.length kc3) s.x.ks ∧ SlAt 6 (ArAt (nwC (w0.heap.size + 1 + 1) wr) d) (.slice va5 s.args.length vc5) s.args) := Lib.hid ⟨StrC.mono hle5 HLV4.out, ExC.mono hle5 HXK4.out, SlAt.imp har5 fun _ _ _ _ => ArAt.mono (nw_le hz4 (Below.refl _ _))⟩
              have HS5 := Lib.hid hS5
              have HT5 := Lib.hid hT5
              have HF5 : Hid (Free wr (w0.heap.size + 1)) := Lib.hid HG.out.fy
              have s11 := hS5 11 _ rfl
              have hzT5 : w0.heap.size + 1 < wr.heap.size := by omega
              have hthn : wtL s.thn ≤ 20000 := by have := HWS.out; rw [wtS_eq] at this; omega
              have hels : wtL s.els ≤ 20000 := by have := HWS.out; rw [wtS_eq] at this; omega
              clear hS5 hT5 hle5 har5 hbel5 hkeep hG HKEEP HG HS4 HT4 HF4 HFS4 HLV4 HXK4 s10
              go_wp2_with fail
              refine (IH.out s.thn _ (N + 1) _ (HT.out.next HBEL5.out) hthn).mono ?_
              obtain ⟨L6, hL6⟩ : ∃ L6, Hid (cpL true (N + 1) s.thn = L6) := ⟨_, Lib.hid rfl⟩
              rintro e w6 ⟨v6, rfl, hst6, hb6⟩
              rw [hL6.out] at hst6
              obtain ⟨ta6, tc6, rfl, -, -⟩ := hst6.form
              have HST6 := Lib.hid hst6
              have HB6 := Lib.hid hb6
              have HT6 := Lib.hid (HT5.out.next hb6)
              have HF6 := Lib.hid (HF5.out.next hzT5 hb6)
              have HS6 := Lib.hid (HS5.out.next hb6)
              have t11 := HT6.out 11 _ rfl
              have f11 := HF6.out 11
              have hsz6 := hb6.size
              clear hst6 hb6 s11
              go_upto_region 17 with fail
              refine cut_world (fun wx => Below w0.heap.size w0 wx ∧ w6.heap.size ≤ wx.heap.size ∧ BoxAt wx w0.heap.size (stCells s (.slice ka s.x.ks.length kc) (.slice la s.labels.length lc) (.slice aa s.args.length ac) (.slice ta s.thn.length tc) (.slice ea s.els.length ec)) ∧ BoxAt wx (w0.heap.size + 1) (stCells T0 (.slice ka3 s.x.ks.length kc3) (.slice la2 s.labels.length lc2) (.slice va5 s.args.length vc5) (.slice ta6 L6.length tc6) (.slice ea s.els.length ec)) ∧ Free wx (w0.heap.size + 1) ∧ (StrC (nwC (w0.heap.size + 1 + 1) wx) (.slice la2 s.labels.length lc2) s.labels ∧ ExC (nwC (w0.heap.size + 1 + 1) wx) d (.slice ka3 s.x.ks.length kc3) s.x.ks ∧ SlAt 6 (ArAt (nwC (w0.heap.size + 1 + 1) wx) d) (.slice va5 s.args.length vc5) s.args) ∧ StC (nwC (w0.heap.size + 1 + 1) wx) d (.slice ta6 L6.length tc6) L6) ⟨?_, ?_, ?_, ?_, ?_, ?_, ?_⟩ ?_
              · exact (HBEL5.out.trans (HB6.out.mono HBEL5.out.size)).setCell (p := ⟨_, _, none⟩) (by simp) _
              · simp only [World.size_setCell]; exact Nat.le_refl _
              · exact HS6.out.set (by omega)
              · exact HT6.out.put (j := 11) (x := .slice ta6 L6.length tc6) (by simp [stCells])
              · exact HF6.out.set
              · have hle := Cs.le_trans (nw_le (Nat.le_refl (w0.heap.size + 1 + 1)) HB6.out) (le_set (R := w0.heap.size + 1) (j := 11) (x := .slice ta6 L6.length tc6) (by omega))
                exact ⟨StrC.mono hle HD5.out.1, ExC.mono hle HD5.out.2.1, SlAt.imp HD5.out.2.2 fun _ _ _ _ => ArAt.mono hle⟩
              · exact StC.mono (Cs.le_trans (nw_le (B' := w0.heap.size + 1 + 1) (by omega) (Below.refl _ _)) (le_set (by omega))) HST6.out
              rintro w7 ⟨hb7, hz7, hS7, hT7, hF7, hD7, hst7⟩
              have HB7 := Lib.hid hb7
              have HT7 := Lib.hid hT7
              have HF7 := Lib.hid hF7
              have HD7 := Lib.hid hD7
              have HST7 := Lib.hid hst7
              have s12 := hS7 12 _ rfl
              have hzT7 : w0.heap.size + 1 < w7.heap.size := by omega
              clear hb7 hS7 hT7 hF7 hD7 hst7 HD5 HS5 HT5 HF5 HST6 HB6 HT6 HF6 HS6 t11 f11
              go_wp2_with fail
              refine (IH.out s.els _ (N + 1 + cntL s.thn) _ (HE.out.next HB7.out) hels).mono ?_
              obtain ⟨L8, hL8⟩ : ∃ L8, Hid (cpL true (N + 1 + cntL s.thn) s.els = L8) := ⟨_, Lib.hid rfl⟩
              rintro e w8 ⟨v8, rfl, hst8, hb8⟩
              rw [hL8.out] at hst8
              obtain ⟨ea8, ec8, rfl, -, -⟩ := hst8.form
              have HST8 := Lib.hid hst8
              have HB8 := Lib.hid hb8
              have HT8 := Lib.hid (HT7.out.next hb8)
              have HF8 := Lib.hid (HF7.out.next hzT7 hb8)
              have t12 := HT8.out 12 _ rfl
              have f12 := HF8.out 12
              have hsz8 := hb8.size
              clear hst8 hb8 s12
              go_upto_region 18 with fail
              refine cut_world (fun wx => Below w0.heap.size w0 wx ∧ w8.heap.size ≤ wx.heap.size ∧ BoxAt wx (w0.heap.size + 1) (stCells T0 (.slice ka3 s.x.ks.length kc3) (.slice la2 s.labels.length lc2) (.slice va5 s.args.length vc5) (.slice ta6 L6.length tc6) (.slice ea8 L8.length ec8)) ∧ StQ d (nwC w0.heap.size wx) (stCells T0 (.slice ka3 s.x.ks.length kc3) (.slice la2 s.labels.length lc2) (.slice va5 s.args.length vc5) (.slice ta6 L6.length tc6) (.slice ea8 L8.length ec8)) (cpS true N s)) ⟨?_, ?_, ?_, ?_⟩ ?_
              · exact (HB7.out.trans (HB8.out.mono HB7.out.size)).setCell (p := ⟨_, _, none⟩) (by simp) _
              · simp only [World.size_setCell]; exact Nat.le_refl _
              · exact HT8.out.put (j := 12) (x := .slice ea8 L8.length ec8) (by simp [stCells])
              · have hle := Cs.le_trans (Cs.le_trans (nw_le (Nat.le_refl (w0.heap.size + 1 + 1)) HB8.out) (le_set (R := w0.heap.size + 1) (j := 12) (x := .slice ea8 L8.length ec8) (by omega))) (nw_le (B' := w0.heap.size) (by omega) (Below.refl _ _))
                have hle8 := Cs.le_trans (Cs.le_trans (nw_le (B := w7.heap.size) (B' := w0.heap.size + 1 + 1) (w := w8) (w' := w8) (by omega) (Below.refl _ _)) (le_set (R := w0.heap.size + 1) (j := 12) (x := .slice ea8 L8.length ec8) (by omega))) (nw_le (B' := w0.heap.size) (by omega) (Below.refl _ _))
                refine ⟨.slice ka3 s.x.ks.length kc3, .slice la2 s.labels.length lc2, .slice va5 s.args.length vc5, .slice ta6 L6.length tc6, .slice ea8 L8.length ec8, ?_, ?_, ?_, ?_, ?_, ?_, ?_, ?_, ?_, ?_, ?_⟩
                · rw [cpS_eq, ← hT0.out]; rfl
                · rw [cpS_eq]; exact HOK.out
                · rw [cpS_eq]; exact ExC.mono hle HD7.out.2.1
                · rw [cpS_eq]; exact wrap_bd _
                · rw [cpS_eq]; exact HI2.out
                · rw [cpS_eq]; exact HI3.out
                · rw [cpS_eq]; exact HI4.out
                · rw [cpS_eq]; exact StrC.mono hle HD7.out.1
                · rw [cpS_eq]; exact SlAt.imp HD7.out.2.2 fun _ _ _ _ => ArAt.mono hle
                · rw [cpS_eq]; show StC _ d _ (cpL _ _ _); rw [hL6.out]; exact StC.mono hle HST7.out
                · rw [cpS_eq]; show StC _ d _ (cpL _ _ _); rw [hL8.out]; exact StC.mono hle8 HST8.out
              rintro w9 ⟨hb9, hz9, hT9, hq9⟩
              have HB9 := Lib.hid hb9
              have HQ9 := Lib.hid hq9
              have b0 := hT9 0 _ rfl
              have b1 := hT9 1 _ rfl
              have b2 := hT9 2 _ rfl
              have b3 := hT9 3 _ rfl
              have b4 := hT9 4 _ rfl
              have b5 := hT9 5 _ rfl
              have b6 := hT9 6 _ rfl
              have b7 := hT9 7 _ rfl
              have b8 := hT9 8 _ rfl
              have b9 := hT9 9 _ rfl
              have b10 := hT9 10 _ rfl
              have b11 := hT9 11 _ rfl
              have b12 := hT9 12 _ rfl
              have hown9 := ownsBelow HACC.out.own hb9
              rw [HCL.out] at hown9
              have HOWN9 := Lib.hid hown9
              have hz0 := HBEL.out.size
              have hz9' := hb9.size
              clear hb9 hT9 hq9 hown9 HB7 HT7 HF7 HD7 HST7 HST8 HB8 HT8 HF8 t12 f12
              go_wp2_with (at_builtin; refine wpList_append_lies _ rfl (.tmp 71) (.tmp 73) 39 rfl w.heap.size 41 i0 (.agg #[.int .i64 0, .int .i64 0, .slice none 0 0, .string ⟨#[]⟩, .string ⟨#[]⟩, .int .i64 0, .int .i64 0, .string ⟨#[]⟩, .slice none 0 0, .bool false, .slice none 0 0, .slice none 0 0, .slice none 0 0]) 13 208 Try.underlying39 hi hz0q hz1 hz2 rfl (by decide) _ _ _ rfl (HOWN9.out.alloc _) ⟨_, 0, none⟩ 1 1 [.int .i64 T0.id, .int .i64 T0.kind, .slice la2 s.labels.length lc2, .string T0.nm, .string T0.proc, .int .i64 T0.x.op, .int .i64 T0.x.n, .string T0.x.nm, .slice ka3 s.x.ks.length kc3, .bool T0.has, .slice va5 s.args.length vc5, .slice ta6 L6.length tc6, .slice ea8 L8.length ec8] rfl rfl ?_ (by simp [Value.oneCell']) (by decide) ?_ ?_ ?_ _ rfl ?_)
              · intro j u h
                rw [Addr.add_lit, World.cell?_alloc_new]
                simpa using h
              · unfold maxLen; omega
              · omega
              · simp only [World.size_alloc]
                omega
              intro g10 cap10 w10 hown10 hg10 hat10 hlt10
              have HOWN10 := Lib.hid hown10
              have HG10 := Lib.hid hg10
              have HAT10 := Lib.hid hat10
              clear hown10 hg10 hat10 hlt10
              go_wp2_with fail
              go_roundw
              case rel =>
                refine ⟨k + 1, .slice (some ⟨g10, 0, none⟩) (k + 1) cap10, rows ++ [[.int .i64 T0.id, .int .i64 T0.kind, .slice la2 s.labels.length lc2, .string T0.nm, .string T0.proc, .int .i64 T0.x.op, .int .i64 T0.x.n, .string T0.x.nm, .slice ka3 s.x.ks.length kc3, .bool T0.has, .slice va5 s.args.length vc5, .slice ta6 L6.length tc6, .slice ea8 L8.length ec8]], by omega, by go_num, ?_, rfl, ?_, ?_⟩
                · congr 2
                  rw [List.take_succ_eq_append_getElem hlt, cntL_append, hs.out, ← hN.out, cntL_cons, cntS_eq]
                  have : cntL ([] : List St) = 0 := by simp [cntL]
                  rw [this]
                  push_cast
                  omega
                · have hm := HACC.out.more (v4 := .slice (some ⟨g10, 0, none⟩) (k + 1) cap10) (c := [.int .i64 T0.id, .int .i64 T0.kind, .slice la2 s.labels.length lc2, .string T0.nm, .string T0.proc, .int .i64 T0.x.op, .int .i64 T0.x.n, .string T0.x.nm, .slice ka3 s.x.ks.length kc3, .bool T0.has, .slice va5 s.args.length vc5, .slice ta6 L6.length tc6, .slice ea8 L8.length ec8]) (x := cpS true N s) (StQ.mono d) (Below.refl _ _) HBEL.out.size HB9.out (boxed w9 _) HG10.out (fun z hz => by have hzz : g10 = z := by { simpa [Value.ownBlock] using hz }; subst hzz; exact HAT10.out.imp id fun h => by { (try simp only [World.size_alloc] at h); omega }) rfl HQ9.out (by rw [HCL.out]; exact HOWN10.out)
                  rw [List.take_succ_eq_append_getElem hlt, hs.out, cpL_append, hN.out, cpL_cons]
                  have : cpL true (N + (cntS s : Int)) [] = [] := by simp only [cpL]
                  rw [this]
                  exact hm
                · exact (HBEL.out.trans ((HB9.out.trans ((boxed w9 _).mono HB9.out.size)).mono HBEL.out.size)).grown HG10.out (by simp only [World.size_alloc]; omega) fun z hz => (HACC.out.own.lt z hz).1
              case measure => simp [intOf]; omega
      · have hlt' : ¬ (k : Int) < (l.length : Int) := by omega
        have hke : k = l.length := by omega
        subst hke
        rw [List.take_length] at HACC hN
        clear hacc hbel
        go_wp2_with fail
        go_ret2
        rw [← hN.out]
        exact ⟨_, rfl, Acc.stC HACC.out (by rw [cpL_len]; omega), HBEL.out⟩
end Go.Proofs.Ytghlmengcidmdaa.Tr
