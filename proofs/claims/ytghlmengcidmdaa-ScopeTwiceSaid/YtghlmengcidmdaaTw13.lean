/- Parts of NumP, CopyP, TurnP, NumSame: walks and plain laws that later texts use. Conditions: as each statement says. -/
import Derived.Test.YtghlmengcidmdaaTw0
import Derived.Test.YtghlmengcidmdaaTw1
import Derived.Test.YtghlmengcidmdaaTw2
import Derived.Test.YtghlmengcidmdaaTw3
import Derived.Test.YtghlmengcidmdaaTw4
import Derived.Test.YtghlmengcidmdaaTw5
import Derived.Test.YtghlmengcidmdaaTw6
import Derived.Test.YtghlmengcidmdaaTw7
import Derived.Test.YtghlmengcidmdaaTw8
import Derived.Test.YtghlmengcidmdaaTw9
import Derived.Test.YtghlmengcidmdaaTw10
import Derived.Test.YtghlmengcidmdaaTw11
import Derived.Deep.RegionHeld3
import Derived.Deep.DeepCutAuto
import Derived.IntWalk
import Derived.Deep.QuietTactic
import Derived.BigQuiet
import Derived.StillTailTactics
import Derived.Deep.RegionLaw
import Derived.Deep.AppendLies
import Derived.Laws.StructEq
import Derived.RegionTactic
import Derived.Deep.Slices
import Derived.Deep.Fields
import Derived.Lib.SmallJoins
import Derived.SliceStrings
import Derived.ChangeSlices
import Derived.Maps.Range
import Derived.Outline
import Derived.Deep.Upon
import Derived.Maps.AppendAt
import Derived.Laws.OwnMore
import Derived.OrdersHeld
import Derived.WalkKit
import Derived.Test.YtghlmengcidmdaaRows
import Derived.WalkSpells
import Derived.Lib.Hide
import Derived.Below
import Derived.WalkSmall
import Derived.Laws.BitsAllLaws
import Derived.OwnWalk
import Derived.OneCell
import Derived.Deep.RegionWith
import Derived.Laws.Cover3
import Derived.Deep.CutBlock
section
/- What Number of tree makes: a program anew with its ids. Conditions: it lies in memory and is light. -/
namespace Go.Proofs.Ytghlmengcidmdaa.Tr
open Go.RowKit Go.Proofs.Ytghlmengcidmdaa.Lx Go.Proofs.Ytghlmengcidmdaa.Wd
theorem nilPa_yes (cap : Nat) (w : World) : (binOp .eql 53 (.slice none 0 cap) (.slice none 0 0)).run Try.prog w = .ok (.bool true) w := by
  simp [binOp, run_equal_slice_nil w _ _ _ _ _ Try.underlying53]
theorem nilPa_no (ad : Addr) (n cap : Nat) (w : World) : (binOp .eql 53 (.slice (some ad) n cap) (.slice none 0 0)).run Try.prog w = .ok (.bool false) w := by
  simp [binOp, run_equal_slice_nil w _ _ _ _ _ Try.underlying53]
def PasCopied (l : List Pa) (w : World) (e : Ending) (w' : World) : Prop := ∃ v, e = .returned v ∧ SlAt 2 (PaAt (nwC w.heap.size w')) v l ∧ Below w.heap.size w w'
set_option maxHeartbeats 1000000 in
set_option maxRecDepth 100000 in
theorem clonePas_any (l : List Pa) (v : Value) (w : World) (hl : SlAt 2 (PaAt (cw w)) v l) (hm : l.length ≤ 1000000) : Calls Try.prog 120 #[v] w (PasCopied l w) := by
  obtain ⟨i0, hi, hz0, hz1, hz2⟩ := info_parts infoPa
  obtain ⟨a, cap, rfl, hc1, hc2⟩ := hl.form
  cases a with
  | none =>
    have h0 : l = [] := List.eq_nil_of_length_eq_zero ((paNews hl).1 rfl)
    subst h0
    clear hl
    have ny := nilPa_yes cap
    go_enter Try.func120, Try.ntmps120
    go_wp2_with fail
    go_ret
    exact ⟨_, rfl, SlAt.nil, Below.refl _ _⟩
  | some ad =>
    have HL := Lib.hid hl
    have HALL := Lib.hid (PaAt.sizes hl)
    clear hl
    have ny := nilPa_no ad l.length cap
    go_enter Try.func120, Try.ntmps120
    go_wp2_with (at_builtin; refine wpList_append_sl _ rfl (.tmp 5) (.tmp 6) 53 rfl w.heap.size 62 i0 (.agg #[.string ⟨#[]⟩, .bool false]) 2 24 Try.underlying53 hi hz0 hz1 hz2 rfl (by decide) _ 0 [] rfl ?oa1 (some ad) l.length cap (paRows l) rfl ?oz1 (paRows_len _) ?oc1 (paRows_one _) ?od1 ?oe1 ?of1 ?_)
    case oa1 => exact World.ownsRow_lit w #[] 0 (Nat.le_refl _) (by decide) rfl
    case oz1 => intro h; cases h
    case oc1 => exact (paNews (SlAt.imp HL.out fun _ _ _ _ => PaAt.mono (cw_next (boxed w _)))).2
    case od1 => unfold maxLen; omega
    case oe1 => omega
    case of1 => simp
    intro v4 w4 hown4 hg4 hat4
    obtain ⟨la4, lc4, rfl⟩ := ownsForm hown4
    have hb4 : Below w.heap.size w w4 := (boxed w _).grown hg4 (by simp) fun q hq => by have hqq : w.heap.size = q := by { simpa [Value.ownBlock] using hq }; omega
    have HB4 := Lib.hid hb4
    have HOWN4 := Lib.hid hown4
    clear hown4 hg4 hat4 hb4
    go_wp2_with fail
    go_ret
    exact ⟨_, rfl, pa_owned (by simpa using HOWN4.out) (by omega) (by omega) HALL.out, HB4.out⟩
def numPc (n : Int) (f : Pc) : Pc := ⟨f.nm, f.params, f.vars, cpL true n f.body, f.fin⟩
def numPs : Int → List Pc → List Pc
  | _, [] => []
  | n, f :: r => numPc n f :: numPs (n + cntL f.body) r
def cntQ (l : List Pc) : Nat := (l.map fun f => cntL f.body).sum
theorem numPs_len : ∀ (l : List Pc) (n : Int), (numPs n l).length = l.length := by
  intro l
  induction l with
  | nil => intro n; rfl
  | cons f r ih => intro n; rw [numPs, List.length_cons, ih, List.length_cons]
theorem numPs_snoc : ∀ (l : List Pc) (f : Pc) (n : Int), numPs n (l ++ [f]) = numPs n l ++ [numPc (n + cntQ l) f] := by
  intro l
  induction l with
  | nil => intro f n; simp [numPs, cntQ]
  | cons g r ih =>
    intro f n
    rw [List.cons_append, numPs, ih, numPs, List.cons_append]
    have e : n + ((cntL g.body : Nat) : Int) + cntQ r = n + cntQ (g :: r) := by unfold cntQ; rw [List.map_cons, List.sum_cons]; push_cast; omega
    rw [e]
theorem cntQ_snoc (l : List Pc) (f : Pc) : cntQ (l ++ [f]) = cntQ l + cntL f.body := by unfold cntQ; simp
def numPr (p : Pr) : Pr := ⟨p.globals, numPs 0 p.procs⟩
set_option maxHeartbeats 4000000 in
set_option maxRecDepth 100000 in
theorem number_row (d : Nat) (p : Pr) (gv pv : Value) (w : World) (hp : PrC (cw w) d gv pv p) (hwp : wtPr p ≤ 20000) :
    Calls Try.prog 78 #[.agg #[gv, pv]] w (ProgRow d (numPr p) w) := by
  obtain ⟨ga, gc, rfl, -, -⟩ := hp.1.form
  obtain ⟨pa, pc, rfl, hl1, hl2⟩ := hp.2.form
  have HP := Lib.hid hp
  have HWP := Lib.hid hwp
  have HLIM := Lib.hid (Nat.le_trans hl1 hl2)
  clear hp hwp hl1 hl2
  go_enter Try.func78, Try.ntmps78
  go_upto_region 1 with fail
  refine cut_world (fun wx => Below w.heap.size w wx ∧ wx.heap.size = w.heap.size + 1 + 1 ∧ BoxAt wx w.heap.size [.slice ga p.globals.length gc, .slice pa p.procs.length pc] ∧ BoxAt wx (w.heap.size + 1) [.slice none 0 0, .slice none 0 0] ∧ Free wx (w.heap.size + 1)) ⟨?_, by simp, ?_, ?_, ?_⟩ ?_
  · exact (boxed w _).alloc (by simp) _
  · exact (box_new w #[.slice ga p.globals.length gc, .slice pa p.procs.length pc] 25).next (boxed _ _)
  · exact box_two w _ #[.slice none 0 0, .slice none 0 0] 25
  · exact fun j => by simp [go_sem]
  rintro w1 ⟨hb1, hz1, hp1, hr1, hrf1⟩
  have HB1 := Lib.hid hb1
  have HP1 := Lib.hid hp1
  have HR1 := Lib.hid hr1
  have HRF1 := Lib.hid hrf1
  have HPP1 := Lib.hid (PrC.mono (cw_next hb1) HP.out)
  have p0 := hp1 0 _ rfl
  have hglob : p.globals.length ≤ 1000000 := by have := HWP.out; unfold wtPr at this; have := wtTs_len p.globals; omega
  clear hb1 hp1 hr1 hrf1
  go_wp2_with fail
  refine (cloneTexts_any p.globals _ _ (StrC.to HPP1.out.1) hglob).mono ?_
  rintro e w2 ⟨gv2, rfl, hg2, hb2⟩
  obtain ⟨ga2, gc2, rfl, -, -⟩ := hg2.form
  have HG2 := Lib.hid hg2
  have HB2 := Lib.hid hb2
  have p1 := HP1.out.next hb2 1 _ rfl
  clear hg2 hb2 p0
  have zl := cell_lt p1
  have zn := World.new_ne _ _ p1
  go_wp2_with fail
  refine cut_world (fun wx => Below w.heap.size w wx ∧ w.heap.size + 1 + 1 ≤ w2.heap.size ∧ w2.heap.size < wx.heap.size ∧ BoxAt wx (w.heap.size + 1) [.slice none 0 0, .slice none 0 0] ∧ Free wx (w.heap.size + 1) ∧ BoxAt wx w2.heap.size [.slice ga2 p.globals.length gc2, .slice none 0 0] ∧ Free wx w2.heap.size ∧ StrC (only (fun g => w.heap.size + 1 + 1 ≤ g ∧ g ≠ w2.heap.size) (cw wx)) (.slice ga2 p.globals.length gc2) p.globals) ⟨?_, ?_, by simp, ?_, ?_, box_new w2 #[.slice ga2 p.globals.length gc2, .slice none 0 0] 25, fun j => by simp [go_sem], ?_⟩ ?_
  · exact (HB1.out.trans (HB2.out.mono HB1.out.size)).trans ((boxed w2 _).mono (Nat.le_trans HB1.out.size HB2.out.size))
  · have := HB2.out.size; omega
  · exact (HR1.out.next HB2.out).next (boxed _ _)
  · exact (HRF1.out.next (by omega) HB2.out).next (by have := HB2.out.size; omega) (boxed _ _)
  · exact StrC.mono (le_ne (boxed w2 _) (by omega) (.inr (Nat.le_refl _))) HG2.out
  rintro wb ⟨hbb, hn2, hnb, hrb, hrf, hqb, hqf, hgb⟩
  have HBB := Lib.hid hbb
  have HRB := Lib.hid hrb
  have HRF := Lib.hid hrf
  have HQB := Lib.hid hqb
  have HQF := Lib.hid hqf
  have HGB := Lib.hid hgb
  obtain ⟨iP, hiP, hzP0, hzP1, hzP2⟩ := info_parts infoPc
  clear hbb hrb hrf hqb hqf hgb p1 zl zn HB1 HP1 HR1 HRF1 HPP1 HG2 HB2 hglob
  go_loopw [15, 3] (fun i s3 wr => ∃ (k : Nat) (v : Value) (rows : List (List Value)), k ≤ p.procs.length ∧ i = .int .i64 k ∧ s3 = .int .i64 (wrap64 ((cntQ (p.procs.take k) : Nat) : Int)) ∧ Below w.heap.size w wr ∧ wb.heap.size ≤ wr.heap.size ∧ Cs.le (only (fun g => g < wb.heap.size ∧ g ≠ w2.heap.size) (cw wb)) (cw wr) ∧
    Grow (PcQ d) 55 5 wb.heap.size w2.heap.size (w.heap.size + 1) 2 [.slice ga2 p.globals.length gc2, .slice none 0 0] 1 (numPs 0 (p.procs.take k)) wr v rows) (fun i _ _ => (p.procs.length - intOf i).toNat)
  case atStart =>
    refine ⟨0, .slice none 0 0, [], by omega, rfl, by rw [List.take_zero]; simp [cntQ, wrap64], HBB.out, Nat.le_refl _, only_out, by omega, by omega, by omega, by omega, HQB.out, HQF.out, fun j hj => ⟨_, HRB.out j _ (List.getElem?_eq_getElem (by simpa using hj))⟩, HRF.out, ?_, Nat.le_refl _⟩
    exact Acc.nil _ _ _ _ _
  case round =>
    obtain ⟨k, v5, rows5, hk, rfl, rfl, hbel, hz5, hkeep, hG⟩ := hrel
    obtain ⟨N, hNN⟩ : ∃ N, Hid (cntQ (p.procs.take k) = N) := ⟨_, Lib.hid rfl⟩
    rw [hNN.out]
    have HBel := Lib.hid hbel
    have HKEEP := Lib.hid hkeep
    have HG := Lib.hid hG
    have hqa : (numPs 0 (p.procs.take k)).length = k := by rw [numPs_len, List.length_take]; omega
    obtain ⟨va5, vc5, hv5⟩ := ownsForm hG.acc.own
    rw [hqa] at hv5
    subst hv5
    have HQA := Lib.hid hqa
    have hlim := HLIM.out
    obtain ⟨w3, hw3⟩ : ∃ w3 : World, w3 = wr := ⟨_, rfl⟩
    subst hw3
    clear hqa hG hkeep
    by_cases hlt : k < p.procs.length
    · have hlt' : (k : Int) < (p.procs.length : Int) := by omega
      have h0k : (0 : Int) ≤ (k : Int) := by omega
      have hne : p.procs ≠ [] := by intro h; rw [h] at hlt; simp at hlt
      obtain ⟨g, off, cap', hv, _, hcells⟩ := SlAt.cells (PrC.mono (cw_next hbel) HP.out).2 hne
      simp only [Value.slice.injEq] at hv
      obtain ⟨rfl, -, rfl⟩ := hv
      have hat := hcells k hlt
      have hmem := List.getElem_mem hlt
      obtain ⟨f, hf⟩ : ∃ f, Hid (p.procs[k] = f) := ⟨_, Lib.hid rfl⟩
      rw [hf.out] at hat hmem
      have hwf : Hid (wtPc f ≤ 20000) := Lib.hid (by have h1 := sum_mem wtPc p.procs f hmem; have h2 := HWP.out; unfold wtPr at h2; omega)
      obtain ⟨pv, vv, bv, fv, p0, p1, p2, p3, p4, hnm, hps, hvs, hbody, hfin⟩ := hat
      obtain ⟨a1, c1, rfl, bp1, bp2⟩ := hps.form
      obtain ⟨a2, c2, rfl, -, -⟩ := hvs.form
      obtain ⟨a3, c3, rfl, -, -⟩ := hbody.form
      obtain ⟨a4, c4, rfl, -, -⟩ := hfin.form
      have e0 : w3.cell? ⟨g, off + k * 5, none⟩ = _ := p0
      have e1 : w3.cell? ⟨g, off + k * 5 + 1, none⟩ = _ := p1
      have e2 : w3.cell? ⟨g, off + k * 5 + 2, none⟩ = _ := p2
      have e3 : w3.cell? ⟨g, off + k * 5 + 3, none⟩ = _ := p3
      have e4 : w3.cell? ⟨g, off + k * 5 + 4, none⟩ = _ := p4
      have HH := Lib.hid (HangP.mk (f := f) hps hvs hbody hfin)
      have HNM := Lib.hid hnm
      clear hcells hne p0 p1 p2 p3 p4 hps hvs hbody hfin hbel bp1 bp2 hmem hnm
      go_upto_region 6 with fail
      refine cut_world (fun wx => Below w3.heap.size w3 wx ∧ w3.heap.size < wx.heap.size ∧ BoxAt wx w3.heap.size [.string f.nm, .slice a1 f.params.length c1, .slice a2 f.vars.length c2, .slice a3 f.body.length c3, .slice a4 f.fin.length c4]) ⟨boxed _ _, by simp, box_new w3 #[.string f.nm, .slice a1 f.params.length c1, .slice a2 f.vars.length c2, .slice a3 f.body.length c3, .slice a4 f.fin.length c4] 55⟩ ?_
      rintro w4 ⟨hb4, hz4, hx4⟩
      clear e0 e1 e2 e3 e4
      have HB4 := Lib.hid hb4
      have HX4 := Lib.hid hx4
      have HH4 := Lib.hid (HH.out.next hb4)
      have hplen : f.params.length ≤ 1000000 := by have h1 := wtPa_len f.params; have h2 := hwf.out; unfold wtPc at h2; omega
      have hvlen : f.vars.length ≤ 1000000 := by have h1 := wtTs_len f.vars; have h2 := hwf.out; unfold wtPc at h2; omega
      have hflen : f.fin.length ≤ 1000000 := by have h1 := wtTs_len f.fin; have h2 := hwf.out; unfold wtPc at h2; omega
      have hbwt : wtL f.body ≤ 20000 := by have h2 := hwf.out; unfold wtPc at h2; omega
      clear hb4 hx4
      have hq4 : Below w4.heap.size w4 w4.drew := (Below.refl _ _).drew
      have hq4A : Below w4.heap.size w4 (w4.alloc (.cells #[.string ⟨#[]⟩, .slice none 0 0, .slice none 0 0, .slice none 0 0, .slice none 0 0] 55)).drew := (boxed w4 _).drew
      have L0 : Hid (w4.cell? ⟨w3.heap.size, 0, none⟩ = some (.string f.nm)) := Lib.hid (HX4.out 0 _ rfl)
      have L1 : Hid (w4.cell? ⟨w3.heap.size, 1, none⟩ = some (.slice a1 f.params.length c1)) := Lib.hid (HX4.out 1 _ rfl)
      have L2 : Hid (w4.cell? ⟨w3.heap.size, 2, none⟩ = some (.slice a2 f.vars.length c2)) := Lib.hid (HX4.out 2 _ rfl)
      have L3 : Hid (w4.cell? ⟨w3.heap.size, 4, none⟩ = some (.slice a4 f.fin.length c4)) := Lib.hid (HX4.out 4 _ rfl)
      have KA0 := Lib.hid (cell_next hq4 L0.out)
      have KA1 := Lib.hid (cell_next hq4 L1.out)
      have KA2 := Lib.hid (cell_next hq4 L2.out)
      have KA3 := Lib.hid (cell_next hq4 L3.out)
      have KAA0 := Lib.hid (cell_next hq4A L0.out)
      have KAA1 := Lib.hid (cell_next hq4A L1.out)
      have KAA2 := Lib.hid (cell_next hq4A L2.out)
      have KAA3 := Lib.hid (cell_next hq4A L3.out)
      have hne4X : w4.heap.size ≠ w3.heap.size := by omega
      have HYA := Lib.hid ((box_new w4 #[.string ⟨#[]⟩, .slice none 0 0, .slice none 0 0, .slice none 0 0, .slice none 0 0] 55).next ((Below.refl _ _).drew))
      have HYFA : Hid (Free (w4.alloc (.cells #[.string ⟨#[]⟩, .slice none 0 0, .slice none 0 0, .slice none 0 0, .slice none 0 0] 55)).drew w4.heap.size) := Lib.hid (Free.next (fun j => by simp [go_sem]) (by simp) ((Below.refl _ _).drew))
      go_cut [7] (fun a wx => ∃ (Y : Nat) (a5 a6 a7 : Option Addr) (c5 c6 c7 : Nat), a = .pointer (some ⟨Y, 0, none⟩) ∧ w4.heap.size ≤ Y ∧ Y < wx.heap.size ∧ Below w4.heap.size w4 wx ∧ BoxAt wx Y [.string f.nm, .slice a5 f.params.length c5, .slice a6 f.vars.length c6, .slice none 0 0, .slice a7 f.fin.length c7] ∧ Free wx Y ∧
        SlAt 2 (PaAt (only (fun g => w4.heap.size ≤ g ∧ g ≠ Y) (cw wx))) (.slice a5 f.params.length c5) f.params ∧ StrC (only (fun g => w4.heap.size ≤ g ∧ g ≠ Y) (cw wx)) (.slice a6 f.vars.length c6) f.vars ∧ StrC (only (fun g => w4.heap.size ≤ g ∧ g ≠ Y) (cw wx)) (.slice a7 f.fin.length c7) f.fin)
      case first =>
        go_region_held3 (fun w' => w'.cell? ⟨w3.heap.size, 0, none⟩ = some (.string f.nm) ∧ w'.cell? ⟨w3.heap.size, 1, none⟩ = some (.slice a1 f.params.length c1) ∧ w'.cell? ⟨w3.heap.size, 2, none⟩ = some (.slice a2 f.vars.length c2) ∧ w'.cell? ⟨w3.heap.size, 4, none⟩ = some (.slice a4 f.fin.length c4))
          (first
            | with_reducible exact ⟨KA0.out, KA1.out, KA2.out, KA3.out⟩
            | with_reducible exact ⟨KAA0.out, KAA1.out, KAA2.out, KAA3.out⟩
            | with_reducible exact ⟨KB0.out, KB1.out, KB2.out, KB3.out⟩
            | with_reducible exact ⟨KC0.out, KC1.out, KC2.out, KC3.out⟩
            | with_reducible exact ⟨KD0.out, KD1.out, KD2.out, KD3.out⟩
            | with_reducible exact ⟨far5 hne4X KD0.out, far5 hne4X KD1.out, far5 hne4X KD2.out, far5 hne4X KD3.out⟩
            | with_reducible exact ⟨far5 hne5X KD0.out, far5 hne5X KD1.out, far5 hne5X KD2.out, far5 hne5X KD3.out⟩
            | with_reducible exact ⟨far5 hne6X KD0.out, far5 hne6X KD1.out, far5 hne6X KD2.out, far5 hne6X KD3.out⟩
            | with_reducible exact ⟨KBA0.out, KBA1.out, KBA2.out, KBA3.out⟩
            | with_reducible exact ⟨KCA0.out, KCA1.out, KCA2.out, KCA3.out⟩
            | with_reducible exact ⟨KDA0.out, KDA1.out, KDA2.out, KDA3.out⟩
            | with_reducible exact ⟨KDX0.out, KDX1.out, KDX2.out, KDX3.out⟩)
          (first
            | (go_at_call 73
               have hchk := hb6
               refine (cloneTexts_any f.fin _ _ (StrsAt.next (StrC.to HH4.out.fin) (by first | with_reducible exact hq6 | with_reducible exact hq6A)) hflen).mono ?_
               rintro e w7 ⟨v7, rfl, hs7, hb7⟩
               obtain ⟨a7, c7, rfl, -, -⟩ := hs7.form
               have HS7 := Lib.hid hs7
               have hq7 := below_then hb7 (by first | with_reducible exact hq6 | with_reducible exact hq6A)
               have hs7 : w4.heap.size ≤ w7.heap.size := hq7.size
               have hz7 := hb7.size
               have hq7A := hq7.alloc hs7 (.cells #[.string ⟨#[]⟩, .slice none 0 0, .slice none 0 0, .slice none 0 0, .slice none 0 0] 55)
               have hne7X : w7.heap.size ≠ w3.heap.size := by omega
               have KD0 := Lib.hid (cell_next hq7 L0.out)
               have KD1 := Lib.hid (cell_next hq7 L1.out)
               have KD2 := Lib.hid (cell_next hq7 L2.out)
               have KD3 := Lib.hid (cell_next hq7 L3.out)
               have KDA0 := Lib.hid (cell_next hq7A L0.out)
               have KDA1 := Lib.hid (cell_next hq7A L1.out)
               have KDA2 := Lib.hid (cell_next hq7A L2.out)
               have KDA3 := Lib.hid (cell_next hq7A L3.out)
               have HYB7 := Lib.hid (box_new w7 #[.string ⟨#[]⟩, .slice none 0 0, .slice none 0 0, .slice none 0 0, .slice none 0 0] 55)
               have hq7X := hq7.alloc hs7 (.cells #[.string f.nm, .slice a5 f.params.length c5, .slice a6 f.vars.length c6, .slice none 0 0, .slice a7 f.fin.length c7] 55)
               have KDX0 := Lib.hid (cell_next hq7X L0.out)
               have KDX1 := Lib.hid (cell_next hq7X L1.out)
               have KDX2 := Lib.hid (cell_next hq7X L2.out)
               have KDX3 := Lib.hid (cell_next hq7X L3.out)
               first
                 | ((with_reducible have hY7 := hY6.next hb7)
                    have hYF7 := hYF6.next (cell_lt (hY6 0 _ rfl)) hb7
                    have y0 := hY7 0 _ rfl
                    have y1 := hY7 1 _ rfl
                    have y2 := hY7 2 _ rfl
                    have y3 := hY7 3 _ rfl
                    have y4 := hY7 4 _ rfl
                    have f0 := hYF7 0
                    have f1 := hYF7 1
                    have f2 := hYF7 2
                    have f3 := hYF7 3
                    have f4 := hYF7 4)
                 | ((with_reducible have hY7 := HYB6.out.next hb7)
                    have hYF7 : Free w7 w6.heap.size := Free.next (fun j => by simp [go_sem]) (by simp) hb7
                    have y0 := hY7 0 _ rfl
                    have y1 := hY7 1 _ rfl
                    have y2 := hY7 2 _ rfl
                    have y3 := hY7 3 _ rfl
                    have y4 := hY7 4 _ rfl
                    have f0 := hYF7 0
                    have f1 := hYF7 1
                    have f2 := hYF7 2
                    have f3 := hYF7 3
                    have f4 := hYF7 4)
                 | (with_reducible have hcheck := below_then hb7 hq6))
            | (go_at_call 73
               have hchk := hb5
               refine (cloneTexts_any f.vars _ _ (StrsAt.next (StrC.to HH4.out.vars) (by first | with_reducible exact hq5 | with_reducible exact hq5A)) hvlen).mono ?_
               rintro e w6 ⟨v6, rfl, hs6, hb6⟩
               obtain ⟨a6, c6, rfl, -, -⟩ := hs6.form
               have HS6 := Lib.hid hs6
               have hq6 := below_then hb6 (by first | with_reducible exact hq5 | with_reducible exact hq5A)
               have hs6 : w4.heap.size ≤ w6.heap.size := hq6.size
               have hz6 := hb6.size
               have hq6A := hq6.alloc hs6 (.cells #[.string ⟨#[]⟩, .slice none 0 0, .slice none 0 0, .slice none 0 0, .slice none 0 0] 55)
               have hne6X : w6.heap.size ≠ w3.heap.size := by omega
               have KC0 := Lib.hid (cell_next hq6 L0.out)
               have KC1 := Lib.hid (cell_next hq6 L1.out)
               have KC2 := Lib.hid (cell_next hq6 L2.out)
               have KC3 := Lib.hid (cell_next hq6 L3.out)
               have KCA0 := Lib.hid (cell_next hq6A L0.out)
               have KCA1 := Lib.hid (cell_next hq6A L1.out)
               have KCA2 := Lib.hid (cell_next hq6A L2.out)
               have KCA3 := Lib.hid (cell_next hq6A L3.out)
               have HYB6 := Lib.hid (box_new w6 #[.string ⟨#[]⟩, .slice none 0 0, .slice none 0 0, .slice none 0 0, .slice none 0 0] 55)
               first
                 | ((with_reducible have hY6 := hY5.next hb6)
                    have hYF6 := hYF5.next (cell_lt (hY5 0 _ rfl)) hb6)
                 | ((with_reducible have hY6 := HYB5.out.next hb6)
                    have hYF6 : Free w6 w5.heap.size := Free.next (fun j => by simp [go_sem]) (by simp) hb6)
                 | (with_reducible have hcheck := below_then hb6 hq5))
            | (go_at_call 120
               refine (clonePas_any f.params _ _ (SlAt.imp HH4.out.par fun _ _ _ _ => PaAt.mono (cw_next (by first | with_reducible exact hq4 | with_reducible exact hq4A))) hplen).mono ?_
               rintro e w5 ⟨v5, rfl, hs5, hb5⟩
               obtain ⟨a5, c5, rfl, -, -⟩ := hs5.form
               have HS5 := Lib.hid hs5
               have hq5 := below_then hb5 (by first | with_reducible exact hq4 | with_reducible exact hq4A)
               have hs5 : w4.heap.size ≤ w5.heap.size := hq5.size
               have hz5 := hb5.size
               have hq5A := hq5.alloc hs5 (.cells #[.string ⟨#[]⟩, .slice none 0 0, .slice none 0 0, .slice none 0 0, .slice none 0 0] 55)
               have hne5X : w5.heap.size ≠ w3.heap.size := by omega
               have KB0 := Lib.hid (cell_next hq5 L0.out)
               have KB1 := Lib.hid (cell_next hq5 L1.out)
               have KB2 := Lib.hid (cell_next hq5 L2.out)
               have KB3 := Lib.hid (cell_next hq5 L3.out)
               have KBA0 := Lib.hid (cell_next hq5A L0.out)
               have KBA1 := Lib.hid (cell_next hq5A L1.out)
               have KBA2 := Lib.hid (cell_next hq5A L2.out)
               have KBA3 := Lib.hid (cell_next hq5A L3.out)
               have HYB5 := Lib.hid (box_new w5 #[.string ⟨#[]⟩, .slice none 0 0, .slice none 0 0, .slice none 0 0, .slice none 0 0] 55)
               first
                 | ((with_reducible have hY5 := HYA.out.next hb5)
                    have hYF5 : Free w5 w4.heap.size := Free.next HYFA.out (by simp) hb5)
                 | (with_reducible have hcheck := below_then hb5 hq4)))
        all_goals
          have b56 : Below w5.heap.size w5 w6 := by first | with_reducible exact hb6 | with_reducible exact below_then hb6 (boxed w5 _)
          have b67 : Below w6.heap.size w6 w7 := by first | with_reducible exact hb7 | with_reducible exact below_then hb7 (boxed w6 _)
          have m6 := b56.size
          have m7 := b67.size
          have k5 := hb5.size
          have k6 := hb6.size
          have k7 := hb7.size
          (try simp only [World.size_drew, World.size_alloc] at k5 k6 k7)
          go_wp2_with fail
          go_meet
          first
           | (refine ⟨w7.heap.size, a5, a6, a7, c5, c6, c7, (by with_reducible rfl), ?_, ?_, ?_, ?_, ?_, ?_, ?_, ?_⟩
              · omega
              · simp
              · exact hq7.alloc hs7 _
              · exact (box_new w7 #[.string f.nm, .slice a5 f.params.length c5, .slice a6 f.vars.length c6, .slice none 0 0, .slice a7 f.fin.length c7] 55)
              · exact fun j => by simp [go_sem]
              · refine SlAt.imp HS5.out (fun _ _ _ _ => PaAt.mono (le_ne (B' := w4.heap.size) (Y := w7.heap.size) (below_then (boxed w7 _) (b56.trans (b67.mono b56.size))) ?_ ?_))
                · first | omega | (simp; omega) | simp
                · first | (left; omega) | (right; omega) | (left; simp; omega) | (left; simp) | (right; simp; omega)
              · refine StrC.mono (le_ne (B' := w4.heap.size) (Y := w7.heap.size) (below_then (boxed w7 _) b67) ?_ ?_) HS6.out
                · first | omega | (simp; omega) | simp
                · first | (left; omega) | (right; omega) | (left; simp; omega) | (left; simp) | (right; simp; omega)
              · refine StrC.mono (le_ne (B' := w4.heap.size) (Y := w7.heap.size) (boxed w7 _) ?_ ?_) HS7.out
                · first | omega | (simp; omega) | simp
                · first | (left; omega) | (right; omega) | (left; simp; omega) | (left; simp) | (right; simp; omega))
           | (refine ⟨w6.heap.size, a5, a6, a7, c5, c6, c7, (by with_reducible rfl), ?_, ?_, ?_, ?_, ?_, ?_, ?_, ?_⟩
              · omega
              · rw [size5]; exact cell_lt (hY7 0 _ rfl)
              · exact below5 hq7 (by omega)
              · exact box5 hY7
              · exact free5 hYF7
              · refine SlAt.imp HS5.out (fun _ _ _ _ => PaAt.mono (Cs.le_trans (le_ne (B' := w4.heap.size) (Y := w6.heap.size) (b56.trans (b67.mono b56.size)) ?_ ?_) (only5 ?_)))
                · first | omega | (simp; omega) | simp
                · first | (left; omega) | (right; omega) | (left; simp; omega) | (left; simp) | (right; simp; omega)
                · simp
              · refine StrC.mono (Cs.le_trans (le_ne (B' := w4.heap.size) (Y := w6.heap.size) b67 ?_ ?_) (only5 ?_)) HS6.out
                · first | omega | (simp; omega) | simp
                · first | (left; omega) | (right; omega) | (left; simp; omega) | (left; simp) | (right; simp; omega)
                · simp
              · refine StrC.mono (Cs.le_trans (le_ne (B' := w4.heap.size) (Y := w6.heap.size) (Below.refl _ _) ?_ ?_) (only5 ?_)) HS7.out
                · first | omega | (simp; omega) | simp
                · first | (left; omega) | (right; omega) | (left; simp; omega) | (left; simp) | (right; simp; omega)
                · simp)
           | (refine ⟨w5.heap.size, a5, a6, a7, c5, c6, c7, (by with_reducible rfl), ?_, ?_, ?_, ?_, ?_, ?_, ?_, ?_⟩
              · omega
              · rw [size5]; exact cell_lt (hY7 0 _ rfl)
              · exact below5 hq7 (by omega)
              · exact box5 hY7
              · exact free5 hYF7
              · refine SlAt.imp HS5.out (fun _ _ _ _ => PaAt.mono (Cs.le_trans (le_ne (B' := w4.heap.size) (Y := w5.heap.size) (b56.trans (b67.mono b56.size)) ?_ ?_) (only5 ?_)))
                · first | omega | (simp; omega) | simp
                · first | (left; omega) | (right; omega) | (left; simp; omega) | (left; simp) | (right; simp; omega)
                · simp
              · refine StrC.mono (Cs.le_trans (le_ne (B' := w4.heap.size) (Y := w5.heap.size) b67 ?_ ?_) (only5 ?_)) HS6.out
                · first | omega | (simp; omega) | simp
                · first | (left; omega) | (right; omega) | (left; simp; omega) | (left; simp) | (right; simp; omega)
                · simp
              · refine StrC.mono (Cs.le_trans (le_ne (B' := w4.heap.size) (Y := w5.heap.size) (Below.refl _ _) ?_ ?_) (only5 ?_)) HS7.out
                · first | omega | (simp; omega) | simp
                · first | (left; omega) | (right; omega) | (left; simp; omega) | (left; simp) | (right; simp; omega)
                · simp)
           | (refine ⟨w4.heap.size, a5, a6, a7, c5, c6, c7, (by with_reducible rfl), ?_, ?_, ?_, ?_, ?_, ?_, ?_, ?_⟩
              · omega
              · rw [size5]; exact cell_lt (hY7 0 _ rfl)
              · exact below5 hq7 (by omega)
              · exact box5 hY7
              · exact free5 hYF7
              · refine SlAt.imp HS5.out (fun _ _ _ _ => PaAt.mono (Cs.le_trans (le_ne (B' := w4.heap.size) (Y := w4.heap.size) (b56.trans (b67.mono b56.size)) ?_ ?_) (only5 ?_)))
                · first | omega | (simp; omega) | simp
                · first | (left; omega) | (right; omega) | (left; simp; omega) | (left; simp) | (right; simp; omega)
                · simp
              · refine StrC.mono (Cs.le_trans (le_ne (B' := w4.heap.size) (Y := w4.heap.size) b67 ?_ ?_) (only5 ?_)) HS6.out
                · first | omega | (simp; omega) | simp
                · first | (left; omega) | (right; omega) | (left; simp; omega) | (left; simp) | (right; simp; omega)
                · simp
              · refine StrC.mono (Cs.le_trans (le_ne (B' := w4.heap.size) (Y := w4.heap.size) (Below.refl _ _) ?_ ?_) (only5 ?_)) HS7.out
                · first | omega | (simp; omega) | simp
                · first | (left; omega) | (right; omega) | (left; simp; omega) | (left; simp) | (right; simp; omega)
                · simp)
      case rest =>
        obtain ⟨Y, a5, a6, a7, c5, c6, c7, rfl, hY0, hY1, hbc, hT, hTF, h5, h6, h7⟩ := hcut
        have hs34 := HB4.out.size
        have HBC := Lib.hid hbc
        have HBC3 := Lib.hid (HB4.out.trans (hbc.mono hs34))
        have HT := Lib.hid hT
        have HTF := Lib.hid hTF
        have H5 := Lib.hid h5
        have H6 := Lib.hid h6
        have H7 := Lib.hid h7
        have HBDC := Lib.hid (HH4.out.next hbc).body
        have x3 := HX4.out.next hbc 3 _ rfl
        obtain ⟨LB, hLB⟩ : ∃ L, Hid (cpL true (N : Int) f.body = L) := ⟨_, Lib.hid rfl⟩
        obtain ⟨N2, hN2⟩ : ∃ N2 : Nat, Hid (N2 = N + cntL f.body) := ⟨_, Lib.hid rfl⟩
        have hneYX : Y ≠ w3.heap.size := by omega
        clear hbc hT hTF h5 h6 h7 HX4
        have hcop := copied_any true d f.body _ (N : Int) wc HBDC.out hbwt
        rw [hLB.out, show ((N : Int) + (cntL f.body : Nat)) = (N2 : Int) by rw [hN2.out]; push_cast; rfl] at hcop
        go_wp2_with fail
        refine hcop.mono ?_
        rintro e w10 ⟨v8, rfl, hst8, hb10⟩
        obtain ⟨a8, c8, rfl, -, -⟩ := hst8.form
        have HST8 := Lib.hid hst8
        have HB10 := Lib.hid hb10
        have hT10 := HT.out.next hb10
        have HT10 := Lib.hid hT10
        have z3 := hT10 3 _ rfl
        have zf := HTF.out.next hY1 hb10 3
        clear hst8 hb10 hT10 x3 hcop
        go_upto_region 8 with fail
        have hYc : ¬ wc.heap.size ≤ Y := by omega
        refine cut_world (fun wx => Below w3.heap.size w3 wx ∧ Below w4.heap.size w4 wx ∧ BoxAt wx Y [.string f.nm, .slice a5 f.params.length c5, .slice a6 f.vars.length c6, .slice a8 LB.length c8, .slice a7 f.fin.length c7] ∧ PcQ d (nwC w4.heap.size wx) [.string f.nm, .slice a5 f.params.length c5, .slice a6 f.vars.length c6, .slice a8 LB.length c8, .slice a7 f.fin.length c7] (numPc N f)) ⟨?_, ?_, ?_, ?_⟩ ?_
        · exact (HBC3.out.trans (HB10.out.mono HBC3.out.size)).setCell (p := ⟨Y, 3, none⟩) (by simp; omega) _
        · exact (HBC.out.trans (HB10.out.mono HBC.out.size)).setCell (p := ⟨Y, 3, none⟩) hY0 _
        · exact HT10.out.put (j := 3) (x := .slice a8 LB.length c8) (by simp)
        · have hle : Cs.le (only (fun g => w4.heap.size ≤ g ∧ g ≠ Y) (cw wc)) (nwC w4.heap.size (w10.setCell ⟨Y, 3, none⟩ (.slice a8 LB.length c8))) := Cs.le_trans (only_le (fun _ h => h) (cw_next HB10.out)) (Cs.le_trans (only_set (by simp)) (only_le (fun g h => h.1) (fun _ _ _ h => h)))
          have hle2 : Cs.le (nwC wc.heap.size w10) (nwC w4.heap.size (w10.setCell ⟨Y, 3, none⟩ (.slice a8 LB.length c8))) := Cs.le_trans (only_set hYc) (only_le (fun g h => Nat.le_trans HBC.out.size h) (fun _ _ _ h => h))
          refine ⟨_, _, _, _, rfl, HNM.out, SlAt.imp H5.out (fun _ _ _ _ => PaAt.mono hle), StrC.mono hle H6.out, ?_, StrC.mono hle H7.out⟩
          show StC _ _ _ (cpL true (N : Int) f.body)
          rw [hLB.out]
          exact StC.mono hle2 HST8.out
        rintro w11 ⟨hb11, hb411, hT11, hpq⟩
        have HB11 := Lib.hid hb11
        have HB411 := Lib.hid hb411
        have HPQ := Lib.hid hpq
        have q0 := hT11 0 _ rfl
        have q1 := hT11 1 _ rfl
        have q2 := hT11 2 _ rfl
        have q3 := hT11 3 _ rfl
        have q4 := hT11 4 _ rfl
        have g1 := cell_next hb11 (HG.out.y 1 _ rfl)
        have g1f := frozen_next hb11 (HG.out.y 1 _ rfl) (HG.out.fy 1)
        have hown := ownsBelow HG.out.acc.own hb11
        rw [HQA.out] at hown
        have HOWN := Lib.hid hown
        have hbw := HG.out.bw
        have hylt := HG.out.ylt
        have hz11 := hb11.size
        have hyb := HG.out.yb
        have HNB := Lib.hid HG.out.own
        have hplen2 : p.procs.length ≤ 20000 := by have h1 := wtPc_len p.procs; have h2 := HWP.out; unfold wtPr at h2; omega
        clear hb11 hb411 hT11 hpq hown z3 zf HT10 HST8 HB10 HT HTF H5 H6 H7
        go_wp2_with (at_builtin; refine wpList_append_lies _ rfl (.tmp 40) (.tmp 42) 23 rfl wb.heap.size 55 iP (.agg #[.string ⟨#[]⟩, .slice none 0 0, .slice none 0 0, .slice none 0 0, .slice none 0 0]) 5 112 Try.underlying23 hiP hzP0 hzP1 hzP2 rfl (by decide) _ _ _ rfl (HOWN.out.alloc _) ⟨_, 0, none⟩ 1 1 [.string f.nm, .slice a5 f.params.length c5, .slice a6 f.vars.length c6, .slice a8 LB.length c8, .slice a7 f.fin.length c7] rfl rfl ?_ (by simp [Value.oneCell']) (by decide) ?_ ?_ ?_ _ rfl ?_)
        · intro j u h
          rw [Addr.add_lit, World.cell?_alloc_new]
          simpa using h
        · unfold maxLen; omega
        · omega
        · simp only [World.size_alloc]
          omega
        intro g12 cap12 w12 hown12 hg12 hat12 hlt12
        have HOWN12 := Lib.hid hown12
        have HG12 := Lib.hid hg12
        have HAT12 := Lib.hid hat12
        have r1 := (hg12.cell_far ⟨w2.heap.size, 1, none⟩ (by simp <;> omega) (HNB.out _ (by simp <;> omega))).trans (cell_next (boxed w11 _) g1)
        have r1f := (hg12.frozen_far ⟨w2.heap.size, 1, none⟩ (by simp <;> omega) (HNB.out _ (by simp <;> omega))).trans (frozen_next (boxed w11 _) g1 g1f)
        clear hown12 hg12 hat12 hlt12
        go_wp2_with fail
        go_roundw
        case rel =>
          have hbw11 := boxed w11 (.cells #[.string f.nm, .slice a5 f.params.length c5, .slice a6 f.vars.length c6, .slice a8 LB.length c8, .slice a7 f.fin.length c7] 55)
          have hch := HB11.out.trans (hbw11.mono HB11.out.size)
          refine ⟨k + 1, .slice (some ⟨g12, 0, none⟩) (k + 1) cap12, rows5 ++ [[.string f.nm, .slice a5 f.params.length c5, .slice a6 f.vars.length c6, .slice a8 LB.length c8, .slice a7 f.fin.length c7]], by omega, by go_num, ?_, ?_, ?_, ?_, ?_⟩
          · have e : N2 = cntQ (p.procs.take (k + 1)) := by rw [hN2.out, List.take_succ_eq_append_getElem hlt, cntQ_snoc, hf.out, hNN.out]
            rw [← e]
          · exact Grow.below (B := wb.heap.size) (Y := w2.heap.size) (slot := 1) HBel.out hch HG12.out (by omega) (by omega) HG.out.own
          · have := HG12.out.size
            have := hch.size
            simp only [World.size_setCell, World.size_alloc] at *
            omega
          · exact Cs.le_trans (D := only (fun g => g < wb.heap.size ∧ g ≠ w2.heap.size) (cw w3)) (fun g j u h => ⟨h.1, HKEEP.out g j u h⟩) (Cs.le_trans (grow_keep hch HG12.out HG.out.own) only_out)
          · have hst := HG.out.step (v4 := .slice (some ⟨g12, 0, none⟩) (k + 1) cap12) (by simp) (PcQ.mono d) HB4.out HB411.out hbw11 HG12.out (fun z hz => by have hzz : g12 = z := by { simpa [Value.ownBlock] using hz }; subst hzz; exact HAT12.out.imp id fun h => by omega) rfl HPQ.out (by rw [HQA.out]; exact HOWN12.out)
            rw [List.take_succ_eq_append_getElem hlt, numPs_snoc, hf.out, Int.zero_add, hNN.out]
            exact hst
        case measure => simp [intOf]; omega
    · have hlt' : ¬ (k : Int) < (p.procs.length : Int) := by omega
      have hke : k = p.procs.length := by omega
      subst hke
      rw [List.take_length] at HG
      have y0 := HG.out.y 0 _ rfl
      have y1 := HG.out.y 1 _ rfl
      obtain ⟨r0, hr0⟩ := HG.out.r 0 (by omega)
      obtain ⟨r1, hr1⟩ := HG.out.r 1 (by omega)
      have f1 := HG.out.fr 0
      have f2 := HG.out.fr 1
      have HACC := Lib.hid HG.out.acc
      have hne1 : ∀ i j, (⟨w.heap.size + 1, i, none⟩ : Addr) ≠ ⟨w2.heap.size, j, none⟩ := fun i j e => by have := congrArg Addr.block e; simp only at this; omega
      have HGL : Hid (StrC (only (fun g => w.heap.size + 1 + 1 ≤ g ∧ g < wb.heap.size) (cw w3)) (.slice ga2 p.globals.length gc2) p.globals) := Lib.hid (StrC.mono (fun g j u h => ⟨⟨h.1.1, cell_lt h.2⟩, HKEEP.out g j u ⟨⟨cell_lt h.2, h.1.2⟩, h.2⟩⟩) HGB.out)
      clear hbel
      go_wp2_with fail
      have q0 : ((w3.setCell ⟨w.heap.size + 1, 0, none⟩ (.slice ga2 p.globals.length gc2)).setCell ⟨w.heap.size + 1, 1, none⟩ (.slice va5 p.procs.length vc5)).cell? ⟨w.heap.size + 1, 0, none⟩ = some (.slice ga2 p.globals.length gc2) := by
        rw [World.cell?_setCell_other _ _ _ _ (fun e => by have := congrArg Addr.off e; simp at this)]
        exact cell_set hr0
      have q1 : ((w3.setCell ⟨w.heap.size + 1, 0, none⟩ (.slice ga2 p.globals.length gc2)).setCell ⟨w.heap.size + 1, 1, none⟩ (.slice va5 p.procs.length vc5)).cell? ⟨w.heap.size + 1, 1, none⟩ = some (.slice va5 p.procs.length vc5) := by
        refine cell_set (y := r1) ?_
        rw [World.cell?_setCell_other _ _ _ _ (fun e => by have := congrArg Addr.off e; simp at this)]
        exact hr1
      refine bodyPost_ret (v := .agg #[.slice ga2 p.globals.length gc2, .slice va5 p.procs.length vc5]) (by simp [results, Try.results78, go_sem, q0, q1]) rfl ⟨.slice ga2 p.globals.length gc2, .slice va5 p.procs.length vc5, wb.heap.size, rows5, rfl, by omega, ?_, ?_, ?_⟩
      · have HGL2 := HGL.out
        exact StrC.mono (Cs.le_trans (only_set (by omega)) (Cs.le_trans (only_set (by omega)) (only_le (fun g (h : w.heap.size + 1 + 1 ≤ g ∧ g < wb.heap.size) => (⟨by omega, h.2⟩ : w.heap.size ≤ g ∧ g < wb.heap.size)) (fun _ _ _ h => h)))) HGL2
      · exact (HACC.out.set (PcQ.mono d) (b := w.heap.size + 1) (by omega) _).set (PcQ.mono d) (b := w.heap.size + 1) (by omega) _
      · exact (HBel.out.setCell (p := ⟨_, _, none⟩) (by simp) _).setCell (p := ⟨_, _, none⟩) (by simp) _
end Go.Proofs.Ytghlmengcidmdaa.Tr
end
section
/- What Copy of the reference makes: the same program anew, where no id is -1. Conditions: it lies in memory and is light. -/
namespace Go.Proofs.Ytghlmengcidmdaa.Tr
open Go.RowKit Go.Proofs.Ytghlmengcidmdaa.Lx Go.Proofs.Ytghlmengcidmdaa.Wd
def tneg : St := .mk (-1) 0 [] ⟨#[]⟩ ⟨#[]⟩ (.mk 0 0 ⟨#[]⟩ []) false [] [] []
mutual
theorem put_sameS : ∀ (s : St) (nest n : Int), rowS 200 12 nest n s = true → 0 ≤ n → putS tneg s = s
  | .mk i k ls nm pr x h ar th el, nest, n => fun hr h0 => by
    rw [rowS_eq] at hr
    simp only [Bool.and_eq_true, decide_eq_true_eq, beq_iff_eq, St.id, St.labels, St.thn, St.els] at hr
    have hi : i ≠ tneg.id := by have := hr.1.1.1.1.2; show i ≠ -1; omega
    rw [putS, if_neg hi, put_sameL th _ _ hr.1.2 (by omega), put_sameL el _ _ hr.2 (by omega)]
theorem put_sameL : ∀ (l : List St) (nest n : Int), rowsL 200 12 nest n l = true → 0 ≤ n → putL tneg l = l
  | [], nest, n => fun _ _ => by rw [putL]
  | s :: r, nest, n => fun hr h0 => by
    rw [rowsL_cons] at hr
    simp only [Bool.and_eq_true, decide_eq_true_eq] at hr
    rw [putL, put_sameS s _ _ hr.1.2 h0, put_sameL r _ _ hr.2 (by omega)]
end
theorem put_samePs : ∀ (l : List Pc) (n : Int), mayPs n l = true → 0 ≤ n → l.map (putPc tneg) = l := by
  intro l
  induction l with
  | nil => intro n _ _; rfl
  | cons f r ih =>
    intro n h h0
    rw [mayPs, Bool.and_eq_true] at h
    have h3 : rowsL 200 12 1 n f.body = true := by have := h.1; unfold mayPc at this; rw [Bool.and_eq_true] at this; exact this.2
    rw [List.map_cons, ih _ h.2 (by omega)]
    have : putPc tneg f = f := by unfold putPc; rw [put_sameL f.body _ _ h3 h0]
    rw [this]
theorem put_sameP {p : Pr} (h : mayP p = true) : putPr tneg p = p := by
  unfold mayP at h
  simp only [Bool.and_eq_true] at h
  unfold putPr
  rw [put_samePs p.procs 0 h.2 (by omega)]
end Go.Proofs.Ytghlmengcidmdaa.Tr
end
section
/- What turns when one statement of a program is put for another one. No program. Conditions: the program may be. -/
namespace Go.Proofs.Ytghlmengcidmdaa.Tr
open Go.RowKit Go.Proofs.Ytghlmengcidmdaa.Lx Go.Proofs.Ytghlmengcidmdaa.Wd
theorem mayPc_rows {n : Int} {f : Pc} (h : mayPc n f = true) : rowsL 200 12 1 n f.body = true := by unfold mayPc at h; rw [Bool.and_eq_true] at h; exact h.2
theorem mayP_procs {p : Pr} (h : mayP p = true) : mayPs 0 p.procs = true := by unfold mayP at h; simp only [Bool.and_eq_true] at h; exact h.2
end Go.Proofs.Ytghlmengcidmdaa.Tr
end
section
/- A program that may be has its ids already. No program. Conditions: it may be. -/
namespace Go.Proofs.Ytghlmengcidmdaa.Tr
open Go.RowKit Go.Proofs.Ytghlmengcidmdaa.Lx Go.Proofs.Ytghlmengcidmdaa.Wd
mutual
theorem num_sameS : ∀ (s : St) (nest n : Int), rowS 200 12 nest n s = true → 0 ≤ n → cpS true n s = s
  | .mk i k ls nm pr x h ar th el, nest, n => fun hr h0 => by
    rw [rowS_eq] at hr
    simp only [Bool.and_eq_true, decide_eq_true_eq, beq_iff_eq, St.id, St.labels, St.thn, St.els] at hr
    have hn := hr.1.1.1.1.2
    have hm := hr.1.1.1.1.1
    have e : wrap64 (n + 1) = i := by unfold wrap64; omega
    rw [cpS, num_sameL th _ _ hr.1.2 (by omega), num_sameL el _ _ hr.2 (by omega), if_pos rfl, e]
theorem num_sameL : ∀ (l : List St) (nest n : Int), rowsL 200 12 nest n l = true → 0 ≤ n → cpL true n l = l
  | [], nest, n => fun _ _ => by rw [cpL]
  | s :: r, nest, n => fun hr h0 => by
    rw [rowsL_cons] at hr
    simp only [Bool.and_eq_true, decide_eq_true_eq] at hr
    rw [cpL, num_sameS s _ _ hr.1.2 h0, num_sameL r _ _ hr.2 (by omega)]
end
theorem num_samePs : ∀ (l : List Pc) (n : Int), mayPs n l = true → 0 ≤ n → numPs n l = l := by
  intro l
  induction l with
  | nil => intro n _ _; rfl
  | cons f r ih =>
    intro n h h0
    rw [mayPs, Bool.and_eq_true] at h
    rw [numPs]
    have e2 : numPc n f = f := by
      unfold numPc
      rw [num_sameL f.body _ _ (mayPc_rows h.1) h0]
    rw [e2, ih _ h.2 (by omega)]
theorem num_same {p : Pr} (h : mayP p = true) : numPr p = p := by
  unfold numPr
  rw [num_samePs p.procs 0 (mayP_procs h) (by omega)]
end Go.Proofs.Ytghlmengcidmdaa.Tr
end
