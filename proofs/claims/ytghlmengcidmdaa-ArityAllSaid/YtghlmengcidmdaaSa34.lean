/- Parts of VarsW: walks and plain laws that later texts use. Conditions: as each statement says. -/
import Derived.Test.YtghlmengcidmdaaSa0
import Derived.Test.YtghlmengcidmdaaSa1
import Derived.Test.YtghlmengcidmdaaSa2
import Derived.Test.YtghlmengcidmdaaSa3
import Derived.Test.YtghlmengcidmdaaSa4
import Derived.Test.YtghlmengcidmdaaSa5
import Derived.Test.YtghlmengcidmdaaSa6
import Derived.Test.YtghlmengcidmdaaSa7
import Derived.Test.YtghlmengcidmdaaSa8
import Derived.Test.YtghlmengcidmdaaSa9
import Derived.Test.YtghlmengcidmdaaSa10
import Derived.Test.YtghlmengcidmdaaSa11
import Derived.Test.YtghlmengcidmdaaSa12
import Derived.Test.YtghlmengcidmdaaSa13
import Derived.Test.YtghlmengcidmdaaSa14
import Derived.Test.YtghlmengcidmdaaSa15
import Derived.Test.YtghlmengcidmdaaSa16
import Derived.Test.YtghlmengcidmdaaSa17
import Derived.Test.YtghlmengcidmdaaSa18
import Derived.Test.YtghlmengcidmdaaSa19
import Derived.Test.YtghlmengcidmdaaSa20
import Derived.Test.YtghlmengcidmdaaSa21
import Derived.Test.YtghlmengcidmdaaSa22
import Derived.Test.YtghlmengcidmdaaSa23
import Derived.Test.YtghlmengcidmdaaSa24
import Derived.Test.YtghlmengcidmdaaSa25
import Derived.Test.YtghlmengcidmdaaSa26
import Derived.Test.YtghlmengcidmdaaSa27
import Derived.Test.YtghlmengcidmdaaSa28
import Derived.Test.YtghlmengcidmdaaSa29
import Derived.Test.YtghlmengcidmdaaSa30
import Derived.Test.YtghlmengcidmdaaSa31
import Derived.Test.YtghlmengcidmdaaSa32
import Derived.Test.YtghlmengcidmdaaSa33
import Derived.Deep.DeepCutAuto
import Derived.Deep.RegionHeld3
import Derived.RegionTactic
import Derived.IntWalk
import Derived.Deep.QuietTactic
import Derived.BigQuiet
import Derived.StillTailTactics
import Derived.Deep.RegionLaw
import Derived.Deep.RegionWith
import Derived.Laws.Cover3
import Derived.Maps.Range
import Derived.Outline
import Derived.Lib.SmallJoins
import Derived.Deep.Upon
import Derived.Maps.AppendAt
import Derived.Laws.OwnMore
import Derived.Deep.AppendLies
import Derived.Deep.CutBlock
import Derived.Laws.StructEq
import Derived.WalkKit
import Derived.Test.YtghlmengcidmdaaRows
import Derived.WalkSpells
import Derived.Lib.Hide
import Derived.Below
import Derived.WalkSmall
import Derived.OrdersHeld
import Derived.Laws.BitsAllLaws
import Derived.OwnWalk
import Derived.OneCell
import Derived.Deep.Slices
import Derived.Deep.Fields
import Derived.SliceStrings
import Derived.ChangeSlices
/- What Vars of scope and of the reference tell: a procedure's names, the global ones first. Conditions: the program lies in memory, and there is room. -/
namespace Go.Proofs.Ytghlmengcidmdaa.Tr
open Go.RowKit Go.Proofs.Ytghlmengcidmdaa.Lx Go.Proofs.Ytghlmengcidmdaa.Wd
set_option linter.unusedSimpArgs false
/-- A procedure's names. -/
def varsIn (p : Pr) (s : ByteArray) : List ByteArray := match pcIn p s with
  | some f => p.globals ++ ownNs f
  | none => []
set_option maxHeartbeats 1000000 in
set_option maxRecDepth 100000 in
theorem cloneRow_any (l : List ByteArray) (v : Value) (w : World) (hl : StrsAt w v l) (hm : l.length ≤ 1000000) : Calls Try.prog 73 #[v] w (NamesMade l w) := by
  obtain ⟨i0, hi, hz0, hz1, hz2⟩ := info_parts infoStr
  obtain ⟨a, cap, rfl, hc1, hc2⟩ := hl.form
  cases a with
  | none =>
    obtain ⟨-, hz, -⟩ := hl.news
    have h0 : l = [] := List.eq_nil_of_length_eq_zero (hz rfl)
    subst h0
    clear hl hz
    have ny := nil_yes cap
    go_enter Try.func73, Try.ntmps73
    go_wp2_with fail
    go_ret
    exact ⟨_, rfl, RowS.nil _ _, Below.refl _ _⟩
  | some ad =>
    have HL := Lib.hid hl
    have HALL := Lib.hid hl.all
    clear hl
    have ny := nil_no ad l.length cap
    go_enter Try.func73, Try.ntmps73
    go_wp2_with (at_builtin; refine wpList_append_sl _ rfl (.tmp 5) (.tmp 6) 22 rfl w.heap.size 9 i0 (.string ⟨#[]⟩) 1 16 Try.underlying22 hi hz0 hz1 hz2 rfl (by decide) _ 0 [] rfl ?oa1 (some ad) l.length cap (l.map Value.string) rfl ?oz1 ?ob1 ?oc1 (str_all _) ?od1 ?oe1 ?of1 ?_)
    case oa1 => exact World.ownsRow_lit w #[] 0 (Nat.le_refl _) (by decide) rfl
    case oz1 => intro h; cases h
    case ob1 => rw [List.length_map, Nat.mul_one]
    case oc1 => exact (HL.out.next (boxed w _)).news.2.2
    case od1 => unfold maxLen; omega
    case oe1 => omega
    case of1 => simp
    intro v4 w4 hown4 hg4 hat4
    obtain ⟨la4, lc4, rfl⟩ := ownsForm hown4
    have hb4 : Below w.heap.size w w4 := (boxed w _).grown hg4 (by simp) fun q hq => by have hqq : w.heap.size = q := by { simpa [Value.ownBlock] using hq }; omega
    have HB4 := Lib.hid hb4
    have HOWN4 := Lib.hid hown4
    clear hown4 hg4 hat4 hb4
    go_wp2_with fail
    go_ret
    exact ⟨_, rfl, ⟨by simpa using HOWN4.out, HALL.out⟩, HB4.out⟩
set_option maxHeartbeats 4000000 in
set_option maxRecDepth 100000 in
theorem svars_any (d : Nat) (p : Pr) (gv pv : Value) (s : ByteArray) (w : World) (hp : PrC (cw w) d gv pv p) (hroom : RoomP p) :
    Calls Try.prog 26 #[.agg #[gv, pv], .string s] w (NamesMade (varsIn p s) w) := by
  obtain ⟨i0, hi, hz0, hz1, hz2⟩ := info_parts infoStr
  have HROOM := Lib.hid hroom
  clear hroom
  obtain ⟨ga, gc, rfl, hgl1, hgl2⟩ := hp.1.form
  obtain ⟨pa, pc, rfl, hl1, hl2⟩ := hp.2.form
  have hpl : p.procs.length ≤ 9223372036854775807 := Nat.le_trans hl1 hl2
  have HP := Lib.hid hp
  clear hp hl1 hl2 hgl1 hgl2
  obtain ⟨KK, hKK⟩ : ∃ n, Hid (varsIn p s = n) := ⟨_, Lib.hid rfl⟩
  rw [hKK.out]
  go_enter Try.func26, Try.ntmps26
  go_upto_region 1 with fail
  refine cut_world (fun wx => Below w.heap.size w wx ∧ BoxAt wx w.heap.size [.slice ga p.globals.length gc, .slice pa p.procs.length pc]) ⟨boxed w _, box_new w #[.slice ga p.globals.length gc, .slice pa p.procs.length pc] 25⟩ ?_
  rintro w1 ⟨hb1, hx1⟩
  have HB1 := Lib.hid hb1
  have HX1 := Lib.hid hx1
  have HP1 := Lib.hid (PrC.mono (cw_next hb1) HP.out)
  have x0 := hx1 0 _ rfl
  have x1 := hx1 1 _ rfl
  clear hb1 hx1
  go_wp2_with fail
  refine (mayP_any d p _ _ _ HP1.out).mono ?_
  rintro e w2 ⟨rfl, hb2⟩
  obtain ⟨m1, hm1⟩ : ∃ m, Hid (mayP p = m) := ⟨_, Lib.hid rfl⟩
  rw [hm1.out]
  have HB2 := Lib.hid (HB1.out.trans (hb2.mono HB1.out.size))
  have HX2 := Lib.hid (HX1.out.next hb2)
  have HP2 := Lib.hid (PrC.mono (cw_next hb2) HP1.out)
  clear hb2 x0 x1
  cases m1 with
  | false =>
    go_wp2_with fail
    go_ret
    exact ⟨_, rfl, by rw [← hKK.out]; unfold varsIn pcIn; rw [if_neg (by rw [hm1.out]; decide)]; exact RowS.nil _ _, HB2.out⟩
  | true =>
    have x1 := HX2.out 1 _ rfl
    go_wp2_with fail
    clear x1
    go_loopw [13] (fun i wr => ∃ k : Nat, k ≤ p.procs.length ∧ i = .int .i64 k ∧ (∀ j (hj : j < p.procs.length), j < k → (p.procs[j].nm.toList == s.toList) = false) ∧ Below w2.heap.size w2 wr) (fun i _ => (p.procs.length - intOf i).toNat)
    case atStart => exact ⟨0, by omega, rfl, fun j _ h => absurd h (by omega), Below.refl _ _⟩
    case round =>
      obtain ⟨k, hk, rfl, hno, hbr⟩ := hrel
      obtain ⟨wq, hwq⟩ : ∃ x : World, x = wr := ⟨_, rfl⟩
      subst hwq
      have HNO := Lib.hid hno
      have HBR := Lib.hid hbr
      have HPQ := Lib.hid (PrC.mono (cw_next hbr) HP2.out)
      have HBQ := Lib.hid (HB2.out.trans (hbr.mono HB2.out.size))
      clear hno hbr
      by_cases hlt : k < p.procs.length
      · have hlt' : (k : Int) < (p.procs.length : Int) := by omega
        have h0k : (0 : Int) ≤ (k : Int) := by omega
        have hfa := fun h => fst_at hlt (f := fun f : Pc => f.nm.toList == s.toList) (fun j hj hjk => HNO.out j hj hjk) h
        have HRO := Lib.hid (HROOM.out.own _ (List.getElem_mem hlt))
        have HRG := Lib.hid HROOM.out.glob
        obtain ⟨g, off, hvp, qv, vv, bv, fv, p0, p1, p2, p3, p4, hnm, hps, hvs, hbody, hfin⟩ := procs_at HPQ.out.2 hlt
        cases hvp
        obtain ⟨f, hf⟩ : ∃ f, Hid (p.procs[k] = f) := ⟨_, Lib.hid rfl⟩
        rw [hf.out] at p0 hnm hps hvs hbody hfin
        obtain ⟨a1, c1, rfl, -, -⟩ := hps.form
        obtain ⟨a2, c2, rfl, -, -⟩ := hvs.form
        obtain ⟨a3, c3, rfl, -, -⟩ := hbody.form
        obtain ⟨a4, c4, rfl, -, -⟩ := hfin.form
        have e0 : wq.cell? ⟨g, off + k * 5, none⟩ = _ := p0
        have e1 : wq.cell? ⟨g, off + k * 5 + 1, none⟩ = _ := p1
        have e2 : wq.cell? ⟨g, off + k * 5 + 2, none⟩ = _ := p2
        have e3 : wq.cell? ⟨g, off + k * 5 + 3, none⟩ = _ := p3
        have e4 : wq.cell? ⟨g, off + k * 5 + 4, none⟩ = _ := p4
        have HNM := Lib.hid hnm
        have HH1 := Lib.hid hps
        have HH2 := Lib.hid hvs
        have HH3 := Lib.hid hbody
        have HH4 := Lib.hid hfin
        clear p0 p1 p2 p3 p4 hnm hps hvs hbody hfin
        rw [hf.out] at hfa HRO
        have HFA := Lib.hid hfa
        clear hfa
        go_upto_region 6 with fail
        refine cut_world (fun wx => Below wq.heap.size wq wx ∧ BoxAt wx wq.heap.size [.string f.nm, .slice a1 f.params.length c1, .slice a2 f.vars.length c2, .slice a3 f.body.length c3, .slice a4 f.fin.length c4]) ⟨boxed wq _, box_new wq #[.string f.nm, .slice a1 f.params.length c1, .slice a2 f.vars.length c2, .slice a3 f.body.length c3, .slice a4 f.fin.length c4] 55⟩ ?_
        clear e0 e1 e2 e3 e4
        rintro w5 ⟨hb5, hy5⟩
        have HB5 := Lib.hid hb5
        have HY5 := Lib.hid hy5
        have HBW5 := Lib.hid (HBQ.out.trans (hb5.mono HBQ.out.size))
        have y0 := hy5 0 _ rfl
        clear hb5 hy5
        cases hc : (f.nm.toList == s.toList) with
        | true =>
          have hfa := HFA.out hc
          have hk : KK = p.globals ++ ownNs f := by
            rw [← hKK.out]
            unfold varsIn pcIn pcOf
            rw [if_pos hm1.out, hfa]
          have HK := Lib.hid hk
          clear hfa hk
          go_upto_region 7 with fail
          clear y0
          have hq : Below w5.heap.size w5 w5.drew := (Below.refl _ _).drew
          have X0 := Lib.hid ((HX2.out.next HBR.out).next HB5.out 0 _ rfl)
          have HGG := Lib.hid (StrsAt.next (StrsAt.next (StrsAt.next (StrC.to HP2.out.1) HBR.out) HB5.out) hq)
          have HQQ := Lib.hid (SlAt.imp HH1.out fun _ _ _ _ => PaAt.mono (Cs.le_trans (cw_next HB5.out) (cw_next hq)))
          have HVV := Lib.hid (StrsAt.next (StrsAt.next (StrC.to HH2.out) HB5.out) hq)
          have hro := HRO.out
          have hrg := HRG.out
          have hrow : (ownNs f).length ≤ 300000 := by unfold ownNs; rw [List.length_append, List.length_map]; exact hro
          obtain ⟨OL, hOL⟩ : ∃ L, Hid (ownNs f = L) := ⟨_, Lib.hid rfl⟩
          rw [hOL.out] at hrow
          refine wp_region_z (fun w' => w'.cell? ⟨w.heap.size, 0, none⟩ = some (.slice ga p.globals.length gc) ∧ BoxAt w' wq.heap.size [.string f.nm, .slice a1 f.params.length c1, .slice a2 f.vars.length c2, .slice a3 f.body.length c3, .slice a4 f.fin.length c4]) 6 (by kernel_rfl) ⟨cell_next hq X0.out, HY5.out.next hq⟩ (fun hS => ?_)
          refine' wpAnyZ_take (i := 0) (oi := _) (v := _) rfl (by kernel_rfl) (by kernel_rfl) (by kernel_rfl) (by kernel_rfl) (fun _ _ _ h => h) (Or.inl ⟨by rfl, ?hy0⟩) hS ?rest0
          case hy0 => (intro w hSw; have c0 := hSw.1; clear hSw; go_simp; (try with_reducible rfl))
          try simp only [Act.put, List.setIfInBounds_toArray, List.set_cons_zero, List.set_cons_succ]
          refine' wpAnyZ_take (i := 1) (oi := _) (v := _) rfl (by kernel_rfl) (by kernel_rfl) (by kernel_rfl) (by kernel_rfl) (fun _ _ _ h => h) (Or.inl ⟨by rfl, ?hy1⟩) hS ?rest1
          case hy1 => (intro w hSw; have c0 := hSw.1; clear hSw; go_simp; (try with_reducible rfl))
          try simp only [Act.put, List.setIfInBounds_toArray, List.set_cons_zero, List.set_cons_succ]
          refine' wpAnyZ_take (i := 3) (oi := _) (v := _) rfl (by kernel_rfl) (by kernel_rfl) (by kernel_rfl) (by kernel_rfl) (fun _ _ _ h => h) (Or.inl ⟨by rfl, ?hy3⟩) hS ?rest3
          case hy3 => (intro w hSw; have d0 := hSw.2 0 _ rfl; have d1 := hSw.2 1 _ rfl; have d2 := hSw.2 2 _ rfl; have d3 := hSw.2 3 _ rfl; have d4 := hSw.2 4 _ rfl; clear hSw; go_simp; (try with_reducible rfl))
          try simp only [Act.put, List.setIfInBounds_toArray, List.set_cons_zero, List.set_cons_succ]
          refine' wpAnyZ_step (i := 2) (o := _) rfl (by kernel_rfl) (fun K hK => ?_)
          go_simp
          go_at_call 73
          refine (cloneRow_any p.globals _ _ HGG.out (by omega)).mono ?_
          rintro e w6 ⟨v6, rfl, hr6, hb6⟩
          obtain ⟨a6, c6, rfl⟩ := ownsForm hr6.1
          have HR6 := Lib.hid hr6
          have HB56 := Lib.hid (below_then hb6 hq)
          have HQ6 := Lib.hid (SlAt.imp HQQ.out fun _ _ _ _ => PaAt.mono (cw_next hb6))
          have HV6 := Lib.hid (StrsAt.next HVV.out hb6)
          have hsz6 := hb6.size
          refine hK _ _ (fun _ => ⟨cell_next HB56.out X0.out, HY5.out.next HB56.out⟩) ?_
          clear hK K hr6 hb6
          try simp only [Act.put, List.setIfInBounds_toArray, List.set_cons_zero, List.set_cons_succ]
          refine' wpAnyZ_step (i := 4) (o := _) rfl (by kernel_rfl) (fun K hK => ?_)
          go_simp
          go_at_call 74
          refine (own_any f a1 a2 a3 a4 c1 c2 c3 c4 _ HQ6.out HV6.out (by omega)).mono ?_
          rintro e w7 ⟨v7, rfl, hr7, hb7⟩
          rw [hOL.out] at hr7
          obtain ⟨a7, c7, rfl⟩ := ownsForm hr7.1
          have HR7 := Lib.hid hr7
          have HB57 := Lib.hid (HB56.out.trans (hb7.mono HB56.out.size))
          have HR67 := Lib.hid (HR6.out.next hb7)
          have hsz7 := hb7.size
          have HF7 := Lib.hid HR6.out.2
          have HF8 := Lib.hid HR7.out.2
          have HS7 := Lib.hid (HR7.out.strs (by omega))
          refine hK _ _ (fun _ => ⟨cell_next HB57.out X0.out, HY5.out.next HB57.out⟩) ?_
          clear hK K hr7 hb7
          try simp only [Act.put, List.setIfInBounds_toArray, List.set_cons_zero, List.set_cons_succ]
          refine' wpAnyZ_step (i := 5) (o := _) rfl (by kernel_rfl) (fun K hK => ?_)
          refine step_append_sl _ (by rfl) (.tmp 23) (.tmp 25) 22 (by rfl) w5.drew.heap.size 9 i0 (.string ⟨#[]⟩) 1 16 Try.underlying22 hi hz0 hz1 hz2 rfl (by decide) _ p.globals.length (p.globals.map Value.string) (by rfl) HR67.out.1 a7 OL.length c7 (OL.map Value.string) (by rfl) HS7.out.news.2.1 (by rw [List.length_map, Nat.mul_one]) HS7.out.news.2.2 (str_all _) (by unfold maxLen; omega) (by omega) (by omega) ?_
          intro va8 vc8 w8 hown8 hg8 hat8
          have hbo : ∀ q, (Value.slice a6 p.globals.length c6).ownBlock = some q → w5.heap.size ≤ q := fun q hq' => by have := (HR6.out.lt q hq').1; simpa using this
          have HB8 := Lib.hid ((HB57.out).grown hg8 HB57.out.size hbo)
          have HR8 := Lib.hid (RowS.cat (l := p.globals) (m := OL) hown8 HF7.out HF8.out)
          refine hK _ _ (fun _ => ⟨cell_next HB8.out X0.out, HY5.out.next HB8.out⟩) ?_
          clear hK K hown8 hg8 hat8
          try simp only [Act.put, List.setIfInBounds_toArray, List.set_cons_zero, List.set_cons_succ]
          refine' wpAnyZ_step (i := 6) (o := _) rfl (by kernel_rfl) (fun K hK => ?_)
          go_simp
          refine hK _ _ (fun h => absurd rfl h) ?_
          clear hK K
          try simp only [Act.put, List.setIfInBounds_toArray, List.set_cons_zero, List.set_cons_succ]
          refine wpAnyZ_done (by kernel_rfl) ?_ _
          clear hS hq
          go_wp2_with fail
          go_ret
          refine ⟨_, rfl, ?_, HBW5.out.trans (HB8.out.mono HBW5.out.size)⟩
          rw [HK.out, hOL.out]
          exact HR8.out.mono (by have := HBW5.out.size; simp only [World.size_drew]; omega)
        | false =>
          have HC := Lib.hid hc
          go_wp2_with fail
          go_roundw
          case rel =>
            refine ⟨k + 1, by omega, by go_num, fun j hj hjk => ?_, HBR.out.trans (HB5.out.mono HBR.out.size)⟩
            rcases Nat.lt_or_ge j k with h | h
            · exact HNO.out j hj h
            · obtain rfl : j = k := by omega
              rw [hf.out]; exact HC.out
          case measure => simp [intOf]; omega
      · have hlt' : ¬ (k : Int) < (p.procs.length : Int) := by omega
        have hfn : p.procs.find? (fun f : Pc => f.nm.toList == s.toList) = none := fst_no fun j hj => HNO.out j hj (by omega)
        have HNON := Lib.hid hfn
        clear hfn
        go_wp2_with fail
        go_ret
        refine ⟨_, rfl, ?_, HBQ.out⟩
        rw [← hKK.out]
        unfold varsIn pcIn pcOf
        rw [if_pos hm1.out, HNON.out]
        exact RowS.nil _ _
set_option maxHeartbeats 4000000 in
set_option maxRecDepth 100000 in
theorem rvars_any (d : Nat) (p : Pr) (gv pv : Value) (s : ByteArray) (w : World) (hp : PrC (cw w) d gv pv p) (hroom : RoomP p) :
    Calls Try.prog 36 #[.agg #[gv, pv], .string s] w (NamesMade (varsIn p s) w) := by
  obtain ⟨i0, hi, hz0, hz1, hz2⟩ := info_parts infoStr
  have HROOM := Lib.hid hroom
  clear hroom
  obtain ⟨ga, gc, rfl, hgl1, hgl2⟩ := hp.1.form
  obtain ⟨pa, pc, rfl, hl1, hl2⟩ := hp.2.form
  have hpl : p.procs.length ≤ 9223372036854775807 := Nat.le_trans hl1 hl2
  have HP := Lib.hid hp
  clear hp hl1 hl2 hgl1 hgl2
  obtain ⟨KK, hKK⟩ : ∃ n, Hid (varsIn p s = n) := ⟨_, Lib.hid rfl⟩
  rw [hKK.out]
  go_enter Try.func36, Try.ntmps36
  go_upto_region 1 with fail
  refine cut_world (fun wx => Below w.heap.size w wx ∧ BoxAt wx w.heap.size [.slice ga p.globals.length gc, .slice pa p.procs.length pc]) ⟨boxed w _, box_new w #[.slice ga p.globals.length gc, .slice pa p.procs.length pc] 25⟩ ?_
  rintro w1 ⟨hb1, hx1⟩
  have HB1 := Lib.hid hb1
  have HX1 := Lib.hid hx1
  have HP1 := Lib.hid (PrC.mono (cw_next hb1) HP.out)
  have x0 := hx1 0 _ rfl
  have x1 := hx1 1 _ rfl
  clear hb1 hx1
  go_wp2_with fail
  refine (rproc_any d p _ _ s _ HP1.out).mono ?_
  intro e w2 hr
  cases hpi : pcIn p s with
  | none =>
    rw [hpi] at hr
    obtain ⟨rfl, hb2⟩ := hr
    have HB2 := Lib.hid (HB1.out.trans (hb2.mono HB1.out.size))
    clear hb2 x0 x1
    have hk : KK = [] := by rw [← hKK.out]; unfold varsIn; rw [hpi]
    subst hk
    go_wp2_with fail
    go_ret
    exact ⟨_, rfl, RowS.nil _ _, HB2.out.trans ((boxed w2 _).mono HB2.out.size)⟩
  | some f =>
    rw [hpi] at hr
    obtain ⟨a1, a2, a3, a4, c1, c2, c3, c4, rfl, hh, hnm, hb2⟩ := hr
    have hk : KK = p.globals ++ ownNs f := by rw [← hKK.out]; unfold varsIn; rw [hpi]
    have hmem : f ∈ p.procs := by
      unfold pcIn at hpi
      split at hpi
      · exact List.mem_of_find?_eq_some hpi
      · cases hpi
    have HRO := Lib.hid (HROOM.out.own f hmem)
    have HRG := Lib.hid HROOM.out.glob
    have HK := Lib.hid hk
    have HB2 := Lib.hid (HB1.out.trans (hb2.mono HB1.out.size))
    have HX2 := Lib.hid (HX1.out.next hb2)
    have HH := Lib.hid hh
    have HG2 := Lib.hid (StrsAt.next (StrC.to HP1.out.1) hb2)
    clear hb2 x0 x1 hk hh hpi hmem
    go_upto_region 2 with fail
    refine cut_world (fun wx => Below w2.heap.size w2 wx ∧ BoxAt wx w2.heap.size [.string f.nm, .slice a1 f.params.length c1, .slice a2 f.vars.length c2, .slice a3 f.body.length c3, .slice a4 f.fin.length c4]) ⟨boxed w2 _, box_new w2 #[.string f.nm, .slice a1 f.params.length c1, .slice a2 f.vars.length c2, .slice a3 f.body.length c3, .slice a4 f.fin.length c4] 55⟩ ?_
    rintro w3 ⟨hb3, hx3⟩
    have HB3 := Lib.hid hb3
    have X0 := Lib.hid (HX2.out.next hb3 0 _ rfl)
    have HY3 := Lib.hid hx3
    have HBW := Lib.hid (HB2.out.trans (hb3.mono HB2.out.size))
    have HG3 := Lib.hid (HG2.out.next hb3)
    have HQ3 := Lib.hid (SlAt.imp HH.out.par fun _ _ _ _ => PaAt.mono (cw_next hb3))
    have HV3 := Lib.hid (StrsAt.next (StrC.to HH.out.vars) hb3)
    have hro := HRO.out
    have hrg := HRG.out
    clear hb3 hx3
    go_wp2_with fail
    have hq : Below w3.heap.size w3 w3.drew := (Below.refl _ _).drew
    have HGG := Lib.hid (StrsAt.next HG3.out hq)
    have HVV := Lib.hid (StrsAt.next HV3.out hq)
    obtain ⟨OL, hOL⟩ : ∃ L, Hid (f.params.map Pa.nm = L) := ⟨_, Lib.hid rfl⟩
    have hoL : OL.length ≤ f.params.length := by rw [← hOL.out, List.length_map]; exact Nat.le_refl _
    refine wp_region_z (fun w' => w'.cell? ⟨w.heap.size, 0, none⟩ = some (.slice ga p.globals.length gc) ∧ BoxAt w' w2.heap.size [.string f.nm, .slice a1 f.params.length c1, .slice a2 f.vars.length c2, .slice a3 f.body.length c3, .slice a4 f.fin.length c4]) 10 (by kernel_rfl) ⟨cell_next hq X0.out, HY3.out.next hq⟩ (fun hS => ?_)
    refine' wpAnyZ_take (i := 1) (oi := _) (v := _) rfl (by kernel_rfl) (by kernel_rfl) (by kernel_rfl) (by kernel_rfl) (fun _ _ _ h => h) (Or.inl ⟨by rfl, ?hy1⟩) hS ?rest1
    case hy1 => (intro w hSw; have c0 := hSw.1; clear hSw; go_simp; (try with_reducible rfl))
    try simp only [Act.put, List.setIfInBounds_toArray, List.set_cons_zero, List.set_cons_succ]
    refine' wpAnyZ_take (i := 2) (oi := _) (v := _) rfl (by kernel_rfl) (by kernel_rfl) (by kernel_rfl) (by kernel_rfl) (fun _ _ _ h => h) (Or.inl ⟨by rfl, ?hy2⟩) hS ?rest2
    case hy2 => (intro w hSw; have c0 := hSw.1; clear hSw; go_simp; (try with_reducible rfl))
    try simp only [Act.put, List.setIfInBounds_toArray, List.set_cons_zero, List.set_cons_succ]
    refine' wpAnyZ_take (i := 4) (oi := _) (v := _) rfl (by kernel_rfl) (by kernel_rfl) (by kernel_rfl) (by kernel_rfl) (fun _ _ _ h => h) (Or.inl ⟨by rfl, ?hy4⟩) hS ?rest4
    case hy4 => (intro w hSw; have d0 := hSw.2 0 _ rfl; have d1 := hSw.2 1 _ rfl; have d2 := hSw.2 2 _ rfl; have d3 := hSw.2 3 _ rfl; have d4 := hSw.2 4 _ rfl; clear hSw; go_simp; (try with_reducible rfl))
    try simp only [Act.put, List.setIfInBounds_toArray, List.set_cons_zero, List.set_cons_succ]
    refine' wpAnyZ_take (i := 7) (oi := _) (v := _) rfl (by kernel_rfl) (by kernel_rfl) (by kernel_rfl) (by kernel_rfl) (fun _ _ _ h => h) (Or.inl ⟨by rfl, ?hy7⟩) hS ?rest7
    case hy7 => (intro w hSw; have d2 := hSw.2 2 _ rfl; clear hSw; go_simp; (try with_reducible rfl))
    try simp only [Act.put, List.setIfInBounds_toArray, List.set_cons_zero, List.set_cons_succ]
    refine' wpAnyZ_take (i := 8) (oi := _) (v := _) rfl (by kernel_rfl) (by kernel_rfl) (by kernel_rfl) (by kernel_rfl) (fun _ _ _ h => h) (Or.inl ⟨by rfl, ?hy8⟩) hS ?rest8
    case hy8 => (intro w hSw; have d2 := hSw.2 2 _ rfl; clear hSw; go_simp; (try with_reducible rfl))
    try simp only [Act.put, List.setIfInBounds_toArray, List.set_cons_zero, List.set_cons_succ]
    have hlit : (w3.drew.alloc (.cells #[] 9)).ownsRow w3.heap.size 9 1 (.slice (some ⟨w3.drew.heap.size, 0, none⟩) 0 0) 0 [] := World.ownsRow_lit w3.drew #[] 0 (by simp) (by decide) rfl
    have HLIT := Lib.hid hlit
    have HBL := Lib.hid (below_then (boxed w3.drew (.cells #[] 9)) hq)
    have HGL := Lib.hid (StrsAt.next HGG.out (boxed w3.drew (.cells #[] 9)))
    clear hlit
    have hszL := HBL.out.size
    refine' wpAnyZ_step (i := 0) (o := _) rfl (by kernel_rfl) (fun K hK => ?_)
    go_simp
    refine hK _ _ (fun _ => ⟨cell_next HBL.out X0.out, HY3.out.next HBL.out⟩) ?_
    clear hK K
    try simp only [Act.put, List.setIfInBounds_toArray, List.set_cons_zero, List.set_cons_succ]
    refine' wpAnyZ_step (i := 3) (o := _) rfl (by kernel_rfl) (fun K hK => ?_)
    refine step_append_sl _ (by rfl) (.tmp 15) (.tmp 17) 22 (by rfl) w3.heap.size 9 i0 (.string ⟨#[]⟩) 1 16 Try.underlying22 hi hz0 hz1 hz2 rfl (by decide) _ 0 ([]) (by rfl) HLIT.out ga p.globals.length gc (p.globals.map Value.string) (by rfl) HGL.out.news.2.1 (by rw [List.length_map, Nat.mul_one]) HGL.out.news.2.2 (str_all _) (by unfold maxLen; omega) (by omega) (by first | omega | (simp; done) | (simp; omega)) ?_
    intro va13 vc13 w13 hown13 hg13 hat13
    have hbo13 := fun q (hq' : (Value.slice (some ⟨w3.drew.heap.size, 0, none⟩) 0 0).ownBlock = some q) => (HLIT.out.lt q hq').1
    have HB13 := Lib.hid ((HBL.out).grown hg13 HBL.out.size hbo13)
    rw [List.nil_append, Nat.zero_add] at hown13
    try rw [Nat.zero_add]
    have HR13 : Hid (RowS w3.heap.size w13 (.slice va13 p.globals.length vc13) p.globals) := Lib.hid ⟨hown13, HGG.out.all⟩
    have hsz13 := HB13.out.size
    have HQ13 := Lib.hid (SlAt.imp HQ3.out fun _ _ _ _ => PaAt.mono (cw_next HB13.out))
    have HV13 := Lib.hid (StrsAt.next HV3.out HB13.out)
    refine hK _ _ (fun _ => ⟨cell_next HB13.out X0.out, HY3.out.next HB13.out⟩) ?_
    clear hK K hown13 hg13 hat13 hbo13
    try simp only [Act.put, List.setIfInBounds_toArray, List.set_cons_zero, List.set_cons_succ]
    refine' wpAnyZ_step (i := 5) (o := _) rfl (by kernel_rfl) (fun K hK => ?_)
    go_simp
    go_at_call 81
    refine (rparams_any f a1 a2 a3 a4 c1 c2 c3 c4 _ HQ13.out HV13.out (by omega)).mono ?_
    rintro e w15 ⟨v15, rfl, hr15, hb15⟩
    rw [hOL.out] at hr15
    obtain ⟨a15, c15, rfl⟩ := ownsForm hr15.1
    have HB15 := Lib.hid (HB13.out.trans (hb15.mono HB13.out.size))
    have HR15 := Lib.hid (HR13.out.next hb15)
    have hsz15 := HB15.out.size
    have HF15 := Lib.hid HR13.out.2
    have HF16 := Lib.hid hr15.2
    have HS15 := Lib.hid (hr15.strs (by omega))
    refine hK _ _ (fun _ => ⟨cell_next HB15.out X0.out, HY3.out.next HB15.out⟩) ?_
    clear hK K hr15 hb15
    try simp only [Act.put, List.setIfInBounds_toArray, List.set_cons_zero, List.set_cons_succ]
    refine' wpAnyZ_step (i := 6) (o := _) rfl (by kernel_rfl) (fun K hK => ?_)
    refine step_append_sl _ (by rfl) (.tmp 18) (.tmp 20) 22 (by rfl) w3.heap.size 9 i0 (.string ⟨#[]⟩) 1 16 Try.underlying22 hi hz0 hz1 hz2 rfl (by decide) _ p.globals.length (p.globals.map Value.string) (by rfl) HR15.out.1 a15 OL.length c15 (OL.map Value.string) (by rfl) HS15.out.news.2.1 (by rw [List.length_map, Nat.mul_one]) HS15.out.news.2.2 (str_all _) (by unfold maxLen; omega) (by omega) (by first | omega | (simp; done) | (simp; omega)) ?_
    intro va16 vc16 w16 hown16 hg16 hat16
    have hbo16 : ∀ q, (Value.slice va13 p.globals.length vc13).ownBlock = some q → w3.heap.size ≤ q := fun q hq' => (HR15.out.lt q hq').1
    have HB16 := Lib.hid ((HB15.out).grown hg16 HB15.out.size hbo16)
    have HR16 := Lib.hid (RowS.cat (l := p.globals) (m := OL) hown16 HF15.out HF16.out)
    have hgo : (p.globals ++ OL).length = p.globals.length + OL.length := List.length_append
    rw [← hgo]
    have hgo' : (p.globals ++ OL).length ≤ p.globals.length + OL.length := by omega
    rw [← hgo] at HR16
    clear hgo
    obtain ⟨GO, hGO⟩ : ∃ L, Hid (p.globals ++ OL = L) := ⟨_, Lib.hid rfl⟩
    rw [hGO.out] at HR16 hgo'
    rw [hGO.out]
    have hsz16 := HB16.out.size
    have HV16 := Lib.hid (StrsAt.next HV3.out HB16.out)
    have HF17 := Lib.hid HR16.out.2
    refine hK _ _ (fun _ => ⟨cell_next HB16.out X0.out, HY3.out.next HB16.out⟩) ?_
    clear hK K hown16 hg16 hat16 hbo16
    try simp only [Act.put, List.setIfInBounds_toArray, List.set_cons_zero, List.set_cons_succ]
    refine' wpAnyZ_step (i := 9) (o := _) rfl (by kernel_rfl) (fun K hK => ?_)
    refine step_append_sl _ (by rfl) (.tmp 21) (.tmp 23) 22 (by rfl) w3.heap.size 9 i0 (.string ⟨#[]⟩) 1 16 Try.underlying22 hi hz0 hz1 hz2 rfl (by decide) _ GO.length (GO.map Value.string) (by rfl) HR16.out.1 a2 f.vars.length c2 (f.vars.map Value.string) (by rfl) HV16.out.news.2.1 (by rw [List.length_map, Nat.mul_one]) HV16.out.news.2.2 (str_all _) (by unfold maxLen; omega) (by omega) (by first | omega | (simp; done) | (simp; omega)) ?_
    intro va19 vc19 w19 hown19 hg19 hat19
    have hbo19 : ∀ q, (Value.slice va16 GO.length vc16).ownBlock = some q → w3.heap.size ≤ q := fun q hq' => (HR16.out.lt q hq').1
    have HB19 := Lib.hid ((HB16.out).grown hg19 HB16.out.size hbo19)
    have HR19 := Lib.hid (RowS.cat (l := GO) (m := f.vars) hown19 HF17.out HVV.out.all)
    have hsz19 := HB19.out.size
    refine hK _ _ (fun _ => ⟨cell_next HB19.out X0.out, HY3.out.next HB19.out⟩) ?_
    clear hK K hown19 hg19 hat19 hbo19
    try simp only [Act.put, List.setIfInBounds_toArray, List.set_cons_zero, List.set_cons_succ]
    refine' wpAnyZ_step (i := 10) (o := _) rfl (by kernel_rfl) (fun K hK => ?_)
    go_simp
    refine hK _ _ (fun h => absurd rfl h) ?_
    clear hK K
    try simp only [Act.put, List.setIfInBounds_toArray, List.set_cons_zero, List.set_cons_succ]
    refine wpAnyZ_done (by kernel_rfl) ?_ _
    clear hS hq
    go_wp2_with fail
    go_ret
    refine ⟨_, rfl, ?_, HBW.out.trans (HB19.out.mono HBW.out.size)⟩
    rw [HK.out]
    unfold ownNs
    rw [hOL.out, ← List.append_assoc, hGO.out]
    exact HR19.out.mono (by have := HBW.out.size; omega)
end Go.Proofs.Ytghlmengcidmdaa.Tr
