/- Parts of SmallW, KnownW: walks and plain laws that later texts use. Conditions: as each statement says. -/
import Derived.Test.YtghlmengcidmdaaTw0
import Derived.Test.YtghlmengcidmdaaTw1
import Derived.Test.YtghlmengcidmdaaTw2
import Derived.Test.YtghlmengcidmdaaTw3
import Derived.Test.YtghlmengcidmdaaTw4
import Derived.Test.YtghlmengcidmdaaTw5
import Derived.Test.YtghlmengcidmdaaTw6
import Derived.Test.YtghlmengcidmdaaTw7
import Derived.Test.YtghlmengcidmdaaTw9
import Derived.Test.YtghlmengcidmdaaTw10
import Derived.Test.YtghlmengcidmdaaTw11
import Derived.IntWalk
import Derived.Deep.QuietTactic
import Derived.BigQuiet
import Derived.StillTailTactics
import Derived.Deep.RegionHeld3
import Derived.Deep.DeepCutAuto
import Derived.Laws.StructEq
import Derived.Deep.CutBlock
import Derived.RegionTactic
import Derived.Deep.Slices
import Derived.Deep.Fields
import Derived.Lib.SmallJoins
import Derived.SliceStrings
import Derived.ChangeSlices
import Derived.Maps.Range
import Derived.Outline
import Derived.Deep.Upon
import Derived.Maps.AppendAt
import Derived.Laws.OwnMore
import Derived.Deep.RegionLaw
import Derived.WalkKit
import Derived.Test.YtghlmengcidmdaaRows
import Derived.WalkSpells
import Derived.Lib.Hide
import Derived.Below
import Derived.WalkSmall
import Derived.Laws.BitsAllLaws
import Derived.OwnWalk
import Derived.OneCell
import Derived.Deep.AppendLies
import Derived.Deep.RegionWith
import Derived.Laws.Cover3
section
/- Small functions of scope and of the reference: is a text there, is one there twice, what a name stands for, a procedure's own names, a procedure by its name. Conditions: the arguments lie in memory. -/
namespace Go.Proofs.Ytghlmengcidmdaa.Tr
open Go.RowKit Go.Proofs.Ytghlmengcidmdaa.Lx Go.Proofs.Ytghlmengcidmdaa.Wd
set_option maxHeartbeats 1000000 in
theorem twice_any (ns : List ByteArray) (nv : Value) (w : World) (hn : StrsAt w nv ns) :
    Calls Try.prog 84 #[nv] w fun e w' => e = .returned (.bool (twiceB ns)) ∧ w = w' := by
  obtain ⟨a, cap, rfl, hc1, hc2⟩ := hn.form
  have HN := Lib.hid hn
  clear hn
  go_enter Try.func84, Try.ntmps84
  go_wp2_with fail
  go_loop [7] (fun i => ∃ k : Nat, k ≤ ns.length ∧ i = .int .i64 k ∧ ∀ j (hj : j < ns.length), j < k → inB ns[j] (ns.take j) = false) (fun i => (ns.length - intOf i).toNat)
  case atStart => exact ⟨0, by omega, rfl, fun j _ h => absurd h (by omega)⟩
  case round =>
    obtain ⟨k, hk, rfl, hno⟩ := hrel
    have HNO := Lib.hid hno
    clear hno
    by_cases hlt : k < ns.length
    · have hlt' : (k : Int) < (ns.length : Int) := by omega
      have h0k : (0 : Int) ≤ (k : Int) := by omega
      have hne : ns ≠ [] := by intro h; rw [h] at hlt; simp at hlt
      obtain ⟨g, off, cap', hv, hcells⟩ := HN.out.cells hne
      simp only [Value.slice.injEq] at hv
      obtain ⟨rfl, -, rfl⟩ := hv
      obtain ⟨-, c0⟩ := hcells k hlt
      clear hcells hne
      have hcut := run_cut 22 9 Try.underlying22 1 (fun _ => by kernel_rfl) (some ⟨g, off, none⟩) ns.length cap k _ rfl (by omega) hc2
      have HNK := Lib.hid (HN.out.take k hk)
      obtain ⟨b, hb⟩ : ∃ b, Hid (inB ns[k] (ns.take k) = b) := ⟨_, Lib.hid rfl⟩
      obtain ⟨m, hm⟩ : ∃ m, Hid (ns[k] = m) := ⟨_, Lib.hid rfl⟩
      rw [hm.out] at c0
      go_wp2_with fail
      refine (contains_any (ns.take k) _ m _ HNK.out).mono ?_
      rintro e w' ⟨rfl, rfl⟩
      rw [show (at_ m (ns.take k)).isSome = b by rw [← hb.out, hm.out]; rfl]
      cases b with
      | true =>
        go_wp2_with fail
        go_ret
        exact ⟨by rw [twice_yes hlt hb.out]; rfl, rfl⟩
      | false =>
        go_wp2_with fail
        go_round
        case rel =>
          refine ⟨k + 1, by omega, by go_num, fun j hj hjk => ?_⟩
          rcases Nat.lt_or_ge j k with h | h
          · exact HNO.out j hj h
          · obtain rfl : j = k := by omega
            exact hb.out
        case measure => simp [intOf]; omega
    · have hlt' : ¬ (k : Int) < (ns.length : Int) := by omega
      go_wp2_with fail
      go_ret
      exact ⟨by rw [twice_no fun j hj => HNO.out j hj (by omega)]; rfl, rfl⟩
set_option maxHeartbeats 2000000 in
set_option maxRecDepth 100000 in
theorem kind_any (g0 : List ByteArray) (f : Pc) (s : ByteArray) (gv pv : Value) (qa va ba fa : Option Addr) (qc vc bc fc : Nat) (w : World) (hg : StrsAt w gv g0) (hq : SlAt 2 (PaAt (cw w)) (.slice qa f.params.length qc) f.params) (hv : StrsAt w (.slice va f.vars.length vc) f.vars) :
    Calls Try.prog 77 #[.agg #[gv, pv], .agg #[.string f.nm, .slice qa f.params.length qc, .slice va f.vars.length vc, .slice ba f.body.length bc, .slice fa f.fin.length fc], .string s] w fun e w' => e = .returned (.int .i64 (kindP g0 f s)) ∧ Below w.heap.size w w' := by
  have HG := Lib.hid hg
  have HQ := Lib.hid hq
  have HV := Lib.hid hv
  obtain ⟨x1, x2, -, hql1, hql2⟩ := hq.form
  have hql : f.params.length ≤ 9223372036854775807 := Nat.le_trans hql1 hql2
  obtain ⟨ga, gc, rfl, -, -⟩ := hg.form
  clear hg hq hv hql1 hql2
  go_enter Try.func77, Try.ntmps77
  go_upto_region 1 with fail
  refine cut_world (fun wx => Below w.heap.size w wx ∧ BoxAt wx w.heap.size [.slice ga g0.length gc, pv] ∧ BoxAt wx (w.heap.size + 1) [.string f.nm, .slice qa f.params.length qc, .slice va f.vars.length vc, .slice ba f.body.length bc, .slice fa f.fin.length fc]) ⟨(boxed w _).alloc (by simp) _, (box_new w #[.slice ga g0.length gc, pv] 25).next (boxed _ _), box_two w _ #[.string f.nm, .slice qa f.params.length qc, .slice va f.vars.length vc, .slice ba f.body.length bc, .slice fa f.fin.length fc] 55⟩ ?_
  rintro w1 ⟨hb1, hx1, hy1⟩
  have HB1 := Lib.hid hb1
  have HX1 := Lib.hid hx1
  have HY1 := Lib.hid hy1
  have y1 := hy1 1 _ rfl
  clear hb1 hx1 hy1
  go_wp2_with fail
  clear y1
  go_loopw [12] (fun i wr => ∃ k : Nat, k ≤ f.params.length ∧ i = .int .i64 k ∧ (∀ j (hj : j < f.params.length), j < k → (f.params[j].nm.toList == s.toList) = false) ∧ Below w1.heap.size w1 wr) (fun i _ => (f.params.length - intOf i).toNat)
  case atStart => exact ⟨0, by omega, rfl, fun j _ h => absurd h (by omega), Below.refl _ _⟩
  case round =>
    obtain ⟨k, hk, rfl, hno, hb2⟩ := hrel
    have HNO := Lib.hid hno
    have HB2 := Lib.hid hb2
    have HBW := Lib.hid (HB1.out.trans (hb2.mono HB1.out.size))
    obtain ⟨w2, hw2⟩ : ∃ x : World, x = wr := ⟨_, rfl⟩
    subst hw2
    clear hno
    by_cases hlt : k < f.params.length
    · have hlt' : (k : Int) < (f.params.length : Int) := by omega
      have h0k : (0 : Int) ≤ (k : Int) := by omega
      have hne : f.params ≠ [] := by intro h; rw [h] at hlt; simp at hlt
      obtain ⟨g, off, cap', hv, _, hcells⟩ := SlAt.cells HQ.out hne
      simp only [Value.slice.injEq] at hv
      obtain ⟨rfl, -, rfl⟩ := hv
      obtain ⟨p0, p1, -⟩ := hcells k hlt
      have d0 : w2.cell? ⟨g, off + k * 2, none⟩ = _ := cell_next HBW.out p0
      have d1 : w2.cell? ⟨g, off + k * 2 + 1, none⟩ = _ := cell_next HBW.out p1
      have hpa := fun h => parK_at (s := s) hlt (fun j hj hjk => HNO.out j hj hjk) h
      obtain ⟨m, hm⟩ : ∃ m, Hid (f.params[k] = m) := ⟨_, Lib.hid rfl⟩
      rw [hm.out] at d0 d1 hpa
      have HPA := Lib.hid hpa
      clear p0 p1 hcells hne hpa hb2
      go_upto_region 4 with fail
      refine cut_world (fun wx => Below w2.heap.size w2 wx ∧ BoxAt wx w2.heap.size [.string m.nm, .bool m.ref]) ⟨boxed _ _, box_new w2 #[.string m.nm, .bool m.ref] 62⟩ ?_
      clear d0 d1
      rintro w3 ⟨hb3, hz3⟩
      have HB3 := Lib.hid (HB2.out.trans (hb3.mono HB2.out.size))
      have a0 := hz3 0 _ rfl
      have a1 := hz3 1 _ rfl
      clear hb3 hz3
      cases hq : (m.nm.toList == s.toList) with
      | true =>
        have hkd : kindP g0 f s = if m.ref then 3 else 2 := by
          unfold kindP
          rw [HPA.out hq, if_pos (by cases m.ref <;> decide)]
        have HKD := Lib.hid hkd
        clear hkd
        cases hr : m.ref with
        | true =>
          rw [hr] at a1
          go_wp2_with fail
          go_ret
          exact ⟨by rw [HKD.out, hr]; rfl, HB1.out.trans (HB3.out.mono HB1.out.size)⟩
        | false =>
          rw [hr] at a1
          go_wp2_with fail
          go_ret
          exact ⟨by rw [HKD.out, hr]; rfl, HB1.out.trans (HB3.out.mono HB1.out.size)⟩
      | false =>
        have HQQ := Lib.hid hq
        go_wp2_with fail
        go_roundw
        case rel =>
          refine ⟨k + 1, by omega, by go_num, fun j hj hjk => ?_, HB3.out⟩
          rcases Nat.lt_or_ge j k with h | h
          · exact HNO.out j hj h
          · obtain rfl : j = k := by omega
            rw [hm.out]; exact HQQ.out
        case measure => simp [intOf]; omega
    · have hlt' : ¬ (k : Int) < (f.params.length : Int) := by omega
      have hk0 : parK s f.params = 0 := parK_no fun j hj => HNO.out j hj (by omega)
      have hkd : kindP g0 f s = if inB s f.vars = true then 4 else if inB s g0 = true then 1 else 0 := by
        unfold kindP
        rw [hk0, if_neg (by simp)]
      have HKD := Lib.hid hkd
      have y2 := HY1.out.next hb2 2 _ rfl
      have HVV := Lib.hid (HV.out.next HBW.out)
      have HGG := Lib.hid (HG.out.next HBW.out)
      have x0 := HX1.out.next hb2 0 _ rfl
      obtain ⟨b1, hb1⟩ : ∃ b, Hid (inB s f.vars = b) := ⟨_, Lib.hid rfl⟩
      obtain ⟨b2, hb2'⟩ : ∃ b, Hid (inB s g0 = b) := ⟨_, Lib.hid rfl⟩
      clear hkd hk0 hb2
      go_wp2_with fail
      refine (contains_any f.vars _ s _ HVV.out).mono ?_
      rintro e w' ⟨rfl, rfl⟩
      rw [show (at_ s f.vars).isSome = b1 from hb1.out]
      cases b1 with
      | true =>
        go_wp2_with fail
        go_ret
        exact ⟨by rw [HKD.out, hb1.out]; rfl, HBW.out⟩
      | false =>
        go_wp2_with fail
        refine (contains_any g0 _ s _ HGG.out).mono ?_
        rintro e w' ⟨rfl, rfl⟩
        rw [show (at_ s g0).isSome = b2 from hb2'.out]
        cases b2 with
        | true =>
          go_wp2_with fail
          go_ret
          exact ⟨by rw [HKD.out, hb1.out, hb2'.out]; rfl, HBW.out⟩
        | false =>
          go_wp2_with fail
          go_ret
          exact ⟨by rw [HKD.out, hb1.out, hb2'.out]; rfl, HBW.out⟩
set_option maxHeartbeats 2000000 in
set_option maxRecDepth 100000 in
theorem own_any (f : Pc) (qa va ba fa : Option Addr) (qc vc bc fc : Nat) (w : World) (hq : SlAt 2 (PaAt (cw w)) (.slice qa f.params.length qc) f.params) (hv : StrsAt w (.slice va f.vars.length vc) f.vars) (hm : f.params.length + f.vars.length ≤ 1000000) :
    Calls Try.prog 74 #[.agg #[.string f.nm, .slice qa f.params.length qc, .slice va f.vars.length vc, .slice ba f.body.length bc, .slice fa f.fin.length fc]] w (NamesMade (ownNs f) w) := by
  obtain ⟨i0, hi, hz0, hz1, hz2⟩ := info_parts infoStr
  have HQ := Lib.hid hq
  have HV := Lib.hid hv
  clear hq hv
  go_enter Try.func74, Try.ntmps74
  go_upto_region 1 with fail
  refine cut_world (fun wx => Below w.heap.size w wx ∧ BoxAt wx w.heap.size [.string f.nm, .slice qa f.params.length qc, .slice va f.vars.length vc, .slice ba f.body.length bc, .slice fa f.fin.length fc]) ⟨boxed w _, box_new w #[.string f.nm, .slice qa f.params.length qc, .slice va f.vars.length vc, .slice ba f.body.length bc, .slice fa f.fin.length fc] 55⟩ ?_
  rintro w1 ⟨hb1, hy1⟩
  have HB1 := Lib.hid hb1
  have HY1 := Lib.hid hy1
  have y1 := hy1 1 _ rfl
  have hzw := cell_lt y1
  clear hb1 hy1
  go_wp2_with fail
  clear y1
  go_loopw [9, 3] (fun i v wr => ∃ (k : Nat) (v0 : Value), k ≤ f.params.length ∧ i = .int .i64 k ∧ v = v0 ∧ RowS (w.heap.size + 1) wr v0 ((f.params.take k).map Pa.nm) ∧ Below w.heap.size w wr ∧ w1.heap.size ≤ wr.heap.size ∧ BoxAt wr w.heap.size [.string f.nm, .slice qa f.params.length qc, .slice va f.vars.length vc, .slice ba f.body.length bc, .slice fa f.fin.length fc]) (fun i _ _ => (f.params.length - intOf i).toNat)
  case atStart => exact ⟨0, _, by omega, rfl, rfl, RowS.nil _ _, HB1.out, Nat.le_refl _, HY1.out⟩
  case round =>
    obtain ⟨k, v, hk, rfl, rfl, hr2, hbw, hz2', hy2⟩ := hrel
    have HBW := Lib.hid hbw
    have HY2 := Lib.hid hy2
    obtain ⟨w2, hw2⟩ : ∃ x : World, x = wr := ⟨_, rfl⟩
    subst hw2
    clear hbw hy2
    by_cases hlt : k < f.params.length
    · have hlt' : (k : Int) < (f.params.length : Int) := by omega
      have h0k : (0 : Int) ≤ (k : Int) := by omega
      have hne : f.params ≠ [] := by intro h; rw [h] at hlt; simp at hlt
      obtain ⟨g, off, cap', hv, _, hcells⟩ := SlAt.cells HQ.out hne
      simp only [Value.slice.injEq] at hv
      obtain ⟨rfl, -, rfl⟩ := hv
      obtain ⟨p0, p1, psz⟩ := hcells k hlt
      have d0 : w2.cell? ⟨g, off + k * 2, none⟩ = _ := cell_next HBW.out p0
      have d1 : w2.cell? ⟨g, off + k * 2 + 1, none⟩ = _ := cell_next HBW.out p1
      have hst : (f.params.take (k + 1)).map Pa.nm = (f.params.take k).map Pa.nm ++ [f.params[k].nm] := by rw [List.take_succ_eq_append_getElem hlt, List.map_append]; rfl
      obtain ⟨m, hm'⟩ : ∃ m, Hid (f.params[k] = m) := ⟨_, Lib.hid rfl⟩
      obtain ⟨LK, hLK⟩ : ∃ L, Hid ((f.params.take k).map Pa.nm = L) := ⟨_, Lib.hid rfl⟩
      have hlk : LK.length = k := by rw [← hLK.out, List.length_map, List.length_take]; omega
      rw [hm'.out] at d0 d1 psz hst
      rw [hLK.out] at hr2 hst
      have HST := Lib.hid hst
      have HPSZ := Lib.hid psz
      obtain ⟨va2, vc2, rfl⟩ := ownsForm hr2.1
      have hroom : LK.length + 1 ≤ 1000000 := by omega
      have HR2 := Lib.hid hr2
      have hs2 := HBW.out.size
      clear p0 p1 hcells hne psz hst hr2 hlk
      go_upto_region 5 with fail
      refine cut_world (fun wx => Below w2.heap.size w2 wx ∧ BoxAt wx w2.heap.size [.string m.nm, .bool m.ref]) ⟨boxed _ _, box_new w2 #[.string m.nm, .bool m.ref] 62⟩ ?_
      clear d0 d1
      rintro w3 ⟨hb3, hx3⟩
      have HB3 := Lib.hid hb3
      have HR3 := Lib.hid (HR2.out.next hb3)
      have a0 := hx3 0 _ rfl
      have hs3 := hb3.size
      clear hb3 hx3
      go_wp2_with (at_builtin; refine wpList_append_lies _ rfl (.tmp 13) (.tmp 16) 22 rfl (w.heap.size + 1) 9 i0 (.string ⟨#[]⟩) 1 16 Try.underlying22 hi hz0 hz1 hz2 rfl (by decide) _ _ _ rfl ((HR3.out.1.alloc _)) ⟨_, 0, none⟩ 1 1 [.string m.nm] rfl rfl ?c1 str_cells (by decide) ?c3 ?c4 ?c5 _ rfl ?_)
      case c1 => exact one_str _ _ _
      case c3 => unfold maxLen; omega
      case c4 => omega
      case c5 => first | omega | (simp; omega)
      intro g4 cap4 w4 hown4 hg4 hat4 hlt4
      have hgg := (grown_of (HB3.out.trans ((boxed w3 _).mono HB3.out.size)) _).trans hg4
      have HR4 := Lib.hid (RowS.one hown4 HR2.out.2 HPSZ.out)
      have HG4 := Lib.hid hgg
      have hs4 := hgg.size
      clear hown4 hg4 hat4 hlt4 hgg
      go_wp2_with fail
      go_roundw
      case rel =>
        refine ⟨k + 1, _, by omega, by go_num, rfl, ?_, HBW.out.grown HG4.out HBW.out.size fun q hq => ?_, by omega, HY2.out.grown HG4.out fun e => ?_⟩
        · rw [HST.out]; exact HR4.out
        · have := (HR2.out.lt q hq).1; omega
        · have := (HR2.out.lt _ e.symm).1; omega
      case measure => simp [intOf]; omega
    · have hlt' : ¬ (k : Int) < (f.params.length : Int) := by omega
      have hke : k = f.params.length := by omega
      subst hke
      rw [List.take_length] at hr2
      obtain ⟨LK, hLK⟩ : ∃ L, Hid (f.params.map Pa.nm = L) := ⟨_, Lib.hid rfl⟩
      have hlk : LK.length + f.vars.length ≤ 1000000 := by rw [← hLK.out, List.length_map]; exact hm
      rw [hLK.out] at hr2
      obtain ⟨va2, vc2, rfl⟩ := ownsForm hr2.1
      have HR2 := Lib.hid hr2
      have HR2F := Lib.hid HR2.out.2
      have HVV := Lib.hid (HV.out.next HBW.out)
      have y2 := HY2.out 2 _ rfl
      have hs2 := HBW.out.size
      clear hr2
      go_wp2_with (at_builtin; refine wpList_append_sl _ rfl (.tmp 19) (.tmp 21) 22 rfl (w.heap.size + 1) 9 i0 (.string ⟨#[]⟩) 1 16 Try.underlying22 hi hz0 hz1 hz2 rfl (by decide) _ LK.length _ rfl HR2.out.1 va f.vars.length vc (f.vars.map Value.string) rfl HVV.out.news.2.1 ?op1 HVV.out.news.2.2 str_one ?op2 ?op3 ?op4 ?_)
      case op2 => unfold maxLen; omega
      case op3 => omega
      case op4 => omega
      intro v4 w4 hown4 hg4 hat4
      have hr4 : RowS (w.heap.size + 1) w4 v4 (LK ++ f.vars) := RowS.cat hown4 HR2F.out HVV.out.all
      have hb4 : Below w.heap.size w w4 := HBW.out.grown hg4 HBW.out.size fun q hq => by have := (HR2.out.lt q hq).1; omega
      have HR4 := Lib.hid (hr4.mono (B' := w.heap.size) (by omega))
      have HB4 := Lib.hid hb4
      clear hown4 hg4 hat4 hr4 hb4
      go_wp2_with fail
      go_ret
      exact ⟨_, rfl, by unfold ownNs; rw [hLK.out]; exact HR4.out, HB4.out⟩
end Go.Proofs.Ytghlmengcidmdaa.Tr
end
section
/- Whether each name of a statement stands for something; whether a procedure's own name is a global one. Conditions: the arguments lie in memory. -/
namespace Go.Proofs.Ytghlmengcidmdaa.Tr
open Go.RowKit Go.Proofs.Ytghlmengcidmdaa.Lx Go.Proofs.Ytghlmengcidmdaa.Wd
theorem main_list : sMain.toList = [109, 97, 105, 110] := by rw [toList_bl]; rfl
theorem alls_no {α : Type} {l : List α} {p : α → Bool} {k : Nat} (hk : k < l.length) (h : p l[k] = false) : l.all p = false := by
  rw [Bool.eq_false_iff]
  intro ha
  rw [List.all_eq_true] at ha
  rw [ha _ (List.getElem_mem hk)] at h
  cases h
theorem alls_yes {α : Type} {l : List α} {p : α → Bool} (h : ∀ k (hk : k < l.length), p l[k] = true) : l.all p = true := by
  rw [List.all_eq_true]
  intro x hx
  obtain ⟨k, hk, rfl⟩ := List.getElem_of_mem hx
  exact h k hk
set_option maxHeartbeats 4000000 in
set_option maxRecDepth 100000 in
theorem known_any (g0 procs : List ByteArray) (f : Pc) (gv pv nsv : Value) (qa va ba fa : Option Addr) (qc vc bc fc : Nat) (d : Nat) (s : St) (la ka aa ta ea : Option Addr) (lc kc ac tc ec : Nat) (w : World)
    (hg : StrsAt w gv g0) (hq : SlAt 2 (PaAt (cw w)) (.slice qa f.params.length qc) f.params) (hv : StrsAt w (.slice va f.vars.length vc) f.vars) (hn : StrsAt w nsv procs)
    (hh : Hang d w s (.slice la s.labels.length lc) (.slice ka s.x.ks.length kc) (.slice aa s.args.length ac) (.slice ta s.thn.length tc) (.slice ea s.els.length ec)) (hok : OkE s.x) (hnm : s.nm.size ≤ 9223372036854775807) (hmany : (saidS s).length ≤ 1000000) :
    Calls Try.prog 89 #[.agg #[gv, pv], .agg #[.string f.nm, .slice qa f.params.length qc, .slice va f.vars.length vc, .slice ba f.body.length bc, .slice fa f.fin.length fc], nsv, .agg #[.int .i64 s.id, .int .i64 s.kind, .slice la s.labels.length lc, .string s.nm, .string s.proc, .int .i64 s.x.op, .int .i64 s.x.n, .string s.x.nm, .slice ka s.x.ks.length kc, .bool s.has, .slice aa s.args.length ac, .slice ta s.thn.length tc, .slice ea s.els.length ec]] w fun e w' => e = .returned (.bool (knownS g0 f procs s)) ∧ Below w.heap.size w w' := by
  have HG := Lib.hid hg
  have HQ := Lib.hid hq
  have HV := Lib.hid hv
  have HN := Lib.hid hn
  have HH := Lib.hid hh
  have HOK := Lib.hid hok
  have HM := Lib.hid hmany
  obtain ⟨ga, gc, rfl, -, -⟩ := hg.form
  obtain ⟨na, nc, rfl, -, -⟩ := hn.form
  clear hg hq hv hn hh hok hmany
  obtain ⟨LS, hLS⟩ : ∃ L, Hid (saidS s = L) := ⟨_, Lib.hid rfl⟩
  obtain ⟨KB, hKB⟩ : ∃ b, Hid (knownS g0 f procs s = b) := ⟨_, Lib.hid rfl⟩
  rw [hKB.out]
  go_enter Try.func89, Try.ntmps89
  go_upto_region 1 with fail
  refine cut_world (fun wx => Below w.heap.size w wx ∧ wx.heap.size = w.heap.size + 1 + 1 + 1 ∧ BoxAt wx w.heap.size [.slice ga g0.length gc, pv] ∧ BoxAt wx (w.heap.size + 1) [.string f.nm, .slice qa f.params.length qc, .slice va f.vars.length vc, .slice ba f.body.length bc, .slice fa f.fin.length fc] ∧ BoxAt wx (w.heap.size + 1 + 1) [.int .i64 s.id, .int .i64 s.kind, .slice la s.labels.length lc, .string s.nm, .string s.proc, .int .i64 s.x.op, .int .i64 s.x.n, .string s.x.nm, .slice ka s.x.ks.length kc, .bool s.has, .slice aa s.args.length ac, .slice ta s.thn.length tc, .slice ea s.els.length ec]) ⟨?_, by simp, ?_, ?_, ?_⟩ ?_
  · exact ((boxed w _).alloc (by simp) _).alloc (by simp; omega) _
  · exact ((box_new w #[.slice ga g0.length gc, pv] 25).next (boxed _ _)).next (boxed _ _)
  · exact (box_two w _ #[.string f.nm, .slice qa f.params.length qc, .slice va f.vars.length vc, .slice ba f.body.length bc, .slice fa f.fin.length fc] 55).next (boxed _ _)
  · have h := box_new ((w.alloc (.cells #[.slice ga g0.length gc, pv] 25)).alloc (.cells #[.string f.nm, .slice qa f.params.length qc, .slice va f.vars.length vc, .slice ba f.body.length bc, .slice fa f.fin.length fc] 55)) #[.int .i64 s.id, .int .i64 s.kind, .slice la s.labels.length lc, .string s.nm, .string s.proc, .int .i64 s.x.op, .int .i64 s.x.n, .string s.x.nm, .slice ka s.x.ks.length kc, .bool s.has, .slice aa s.args.length ac, .slice ta s.thn.length tc, .slice ea s.els.length ec] 41
    rwa [World.size_alloc, World.size_alloc] at h
  rintro w1 ⟨hb1, hz1, hx1, hy1, ht1⟩
  have HB1 := Lib.hid hb1
  have HX1 := Lib.hid hx1
  have HY1 := Lib.hid hy1
  have HT1 := Lib.hid ht1
  have t0 := ht1 0 _ rfl
  have t1 := ht1 1 _ rfl
  have t2 := ht1 2 _ rfl
  have t3 := ht1 3 _ rfl
  have t4 := ht1 4 _ rfl
  have t5 := ht1 5 _ rfl
  have t6 := ht1 6 _ rfl
  have t7 := ht1 7 _ rfl
  have t8 := ht1 8 _ rfl
  have t9 := ht1 9 _ rfl
  have t10 := ht1 10 _ rfl
  have t11 := ht1 11 _ rfl
  have t12 := ht1 12 _ rfl
  clear hb1 hz1 hx1 hy1 ht1
  go_wp2_with fail
  refine (fnames_any d s la ka aa ta ea lc kc ac tc ec _ (HH.out.next HB1.out) HOK.out hnm HM.out).mono ?_
  rw [hLS.out]
  rintro e w2 ⟨v2, rfl, hr2, hb2⟩
  obtain ⟨a2, c2, rfl⟩ := ownsForm hr2.1
  rw [hLS.out] at HM
  have hml := HM.out
  have HS2 := Lib.hid (hr2.strs (by omega))
  have HB2 := Lib.hid hb2
  clear hr2 hb2 t0 t1 t2 t3 t4 t5 t6 t7 t8 t9 t10 t11 t12
  go_wp2_with fail
  go_loopw [14] (fun i wr => ∃ k : Nat, k ≤ LS.length ∧ i = .int .i64 k ∧ (∀ j (hj : j < LS.length), j < k → (kindP g0 f LS[j] == 0) = false) ∧ Below w2.heap.size w2 wr) (fun i _ => (LS.length - intOf i).toNat)
  case atStart => exact ⟨0, by omega, rfl, fun j _ h => absurd h (by omega), Below.refl _ _⟩
  case round =>
    obtain ⟨k, hk, rfl, hno, hb3⟩ := hrel
    have HNO := Lib.hid hno
    have HB3 := Lib.hid (HB2.out.trans (hb3.mono HB2.out.size))
    have HB23 := Lib.hid hb3
    have HBW := Lib.hid (HB1.out.trans (HB3.out.mono HB1.out.size))
    obtain ⟨w3, hw3⟩ : ∃ x : World, x = wr := ⟨_, rfl⟩
    subst hw3
    clear hno hb3
    by_cases hlt : k < LS.length
    · have hlt' : (k : Int) < (LS.length : Int) := by omega
      have h0k : (0 : Int) ≤ (k : Int) := by omega
      have hne : LS ≠ [] := by intro h; rw [h] at hlt; simp at hlt
      obtain ⟨g, off, cap', hv, hcells⟩ := (HS2.out.next HB23.out).cells hne
      simp only [Value.slice.injEq] at hv
      obtain ⟨rfl, -, rfl⟩ := hv
      obtain ⟨-, c0⟩ := hcells k hlt
      obtain ⟨K, hK⟩ : ∃ x, Hid (kindP g0 f LS[k] = x) := ⟨_, Lib.hid rfl⟩
      obtain ⟨m, hm⟩ : ∃ m, Hid (LS[k] = m) := ⟨_, Lib.hid rfl⟩
      rw [hm.out] at c0
      have x0 := HX1.out.next HB3.out 0 _ rfl
      have x1 := HX1.out.next HB3.out 1 _ rfl
      have y0 := HY1.out.next HB3.out 0 _ rfl
      have y1 := HY1.out.next HB3.out 1 _ rfl
      have y2 := HY1.out.next HB3.out 2 _ rfl
      have y3 := HY1.out.next HB3.out 3 _ rfl
      have y4 := HY1.out.next HB3.out 4 _ rfl
      clear hcells hne
      go_wp2_with fail
      refine (kind_any g0 f m _ _ qa va ba fa qc vc bc fc _ (HG.out.next HBW.out) (SlAt.imp HQ.out fun _ _ _ _ => PaAt.mono (cw_next HBW.out)) (HV.out.next HBW.out)).mono ?_
      rintro e w4 ⟨rfl, hb4⟩
      rw [show kindP g0 f m = K by rw [← hK.out, hm.out]]
      have HB4 := Lib.hid (HB23.out.trans (hb4.mono HB23.out.size))
      clear hb4 x0 x1 y0 y1 y2 y3 y4 c0
      cases hk0 : (K == 0) with
      | true =>
        have hkb : KB = false := by
          rw [← hKB.out]
          unfold knownS
          rw [hLS.out, alls_no (k := k) hlt (by rw [hK.out, hk0]; rfl), Bool.false_and]
        subst hkb
        go_wp2_with fail
        go_ret
        exact ⟨rfl, HB1.out.trans ((HB2.out.trans (HB4.out.mono HB2.out.size)).mono HB1.out.size)⟩
      | false =>
        have HK0 := Lib.hid hk0
        go_wp2_with fail
        go_roundw
        case rel =>
          refine ⟨k + 1, by omega, by go_num, fun j hj hjk => ?_, HB4.out⟩
          rcases Nat.lt_or_ge j k with h | h
          · exact HNO.out j hj h
          · obtain rfl : j = k := by omega
            rw [hK.out]; exact HK0.out
        case measure => simp [intOf]; omega
    · have hlt' : ¬ (k : Int) < (LS.length : Int) := by omega
      have hall : LS.all (fun n => !(kindP g0 f n == 0)) = true := alls_yes fun j hj => by rw [HNO.out j hj (by omega)]; rfl
      have t1 := HT1.out.next HB3.out 1 _ rfl
      have t4 := HT1.out.next HB3.out 4 _ rfl
      have hkb : KB = (!(s.kind == 4) || (!(s.proc.toList == [109, 97, 105, 110]) && inB s.proc procs)) := by
        rw [← hKB.out]
        unfold knownS
        rw [hLS.out, hall, Bool.true_and, main_list]
      clear hall
      cases h4 : (s.kind == 4) with
      | false =>
        have nk : (s.kind != 4) = true := by unfold bne; rw [h4]; rfl
        have hkb' : KB = true := by rw [hkb, h4]; rfl
        clear h4 hkb
        subst hkb'
        go_wp2_with fail
        go_ret
        exact ⟨rfl, HBW.out⟩
      | true =>
        have nk : (s.kind != 4) = false := by unfold bne; rw [h4]; rfl
        rw [h4] at hkb
        clear h4
        cases hmn : (s.proc.toList == [109, 97, 105, 110]) with
        | true =>
          rw [hmn] at hkb
          have hkb' : KB = false := hkb
          clear hkb
          subst hkb'
          have nm : (s.proc.toList != [109, 97, 105, 110]) = false := by unfold bne; rw [hmn]; rfl
          go_wp2_with fail
          go_ret
          exact ⟨rfl, HBW.out⟩
        | false =>
          rw [hmn] at hkb
          have hkb' : KB = inB s.proc procs := hkb
          have nm : (s.proc.toList != [109, 97, 105, 110]) = true := by unfold bne; rw [hmn]; rfl
          clear hkb
          have HKB' := Lib.hid hkb'
          clear hkb'
          go_wp2_with fail
          refine (contains_any procs _ s.proc _ (HN.out.next HBW.out)).mono ?_
          rintro e w' ⟨rfl, rfl⟩
          rw [show (at_ s.proc procs).isSome = KB from HKB'.out.symm]
          go_wp2_with fail
          go_ret
          exact ⟨rfl, HBW.out⟩
set_option maxHeartbeats 1000000 in
theorem check1_any (g0 : List ByteArray) (gv : Value) (R : Nat) (s : ByteArray) (w : World) (hc : w.cell? ⟨R, 0, none⟩ = some gv) (hg : StrsAt w gv g0) :
    Calls Try.prog 86 #[.string s, .pointer (some ⟨R, 0, none⟩)] w fun e w' => e = .returned (.bool (inB s g0)) ∧ w = w' := by
  have HG := Lib.hid hg
  clear hg
  go_enter Try.func86, Try.ntmps86
  go_wp2_with fail
  refine (contains_any g0 _ s _ HG.out).mono ?_
  rintro e w' ⟨rfl, rfl⟩
  go_wp2_with fail
  go_ret
  exact ⟨rfl, rfl⟩
set_option maxHeartbeats 1000000 in
theorem ifunc_any (g0 ns : List ByteArray) (gv nv : Value) (R : Nat) (w : World) (hc : w.cell? ⟨R, 0, none⟩ = some gv) (hg : StrsAt w gv g0) (hn : StrsAt w nv ns) :
    Calls Try.prog 125 #[nv, .func (.func 86) #[] #[.pointer (some ⟨R, 0, none⟩)]] w fun e w' => (∃ n : Int, e = .returned (.int .i64 n) ∧ (decide (0 ≤ n) = ns.any fun n => inB n g0)) ∧ w = w' := by
  obtain ⟨a, cap, rfl, hc1, hc2⟩ := hn.form
  have HN := Lib.hid hn
  have HG := Lib.hid hg
  have HC := Lib.hid hc
  clear hn hg hc
  go_enter Try.func125, Try.ntmps125
  go_wp2_with fail
  go_loop [8] (fun i => ∃ k : Nat, k ≤ ns.length ∧ i = .int .i64 k ∧ ∀ j (hj : j < ns.length), j < k → inB ns[j] g0 = false) (fun i => (ns.length - intOf i).toNat)
  case atStart => exact ⟨0, by omega, rfl, fun j _ h => absurd h (by omega)⟩
  case round =>
    obtain ⟨k, hk, rfl, hno⟩ := hrel
    have HNO := Lib.hid hno
    clear hno
    by_cases hlt : k < ns.length
    · have hlt' : (k : Int) < (ns.length : Int) := by omega
      have h0k : (0 : Int) ≤ (k : Int) := by omega
      have hne : ns ≠ [] := by intro h; rw [h] at hlt; simp at hlt
      obtain ⟨g, off, cap', hv, hcells⟩ := HN.out.cells hne
      simp only [Value.slice.injEq] at hv
      obtain ⟨rfl, -, rfl⟩ := hv
      obtain ⟨-, c0⟩ := hcells k hlt
      clear hcells hne
      obtain ⟨b, hb⟩ : ∃ b, Hid (inB ns[k] g0 = b) := ⟨_, Lib.hid rfl⟩
      obtain ⟨m, hm⟩ : ∃ m, Hid (ns[k] = m) := ⟨_, Lib.hid rfl⟩
      rw [hm.out] at c0
      go_wp2_with fail
      refine (check1_any g0 _ R m _ HC.out HG.out).mono ?_
      rintro e w' ⟨rfl, rfl⟩
      rw [show inB m g0 = b by rw [← hb.out, hm.out]]
      cases b with
      | true =>
        go_wp2_with fail
        go_ret
        refine ⟨⟨k, rfl, ?_⟩, rfl⟩
        rw [decide_eq_true h0k]
        exact (List.any_eq_true.2 ⟨ns[k], List.getElem_mem hlt, hb.out⟩).symm
      | false =>
        go_wp2_with fail
        go_round
        case rel =>
          refine ⟨k + 1, by omega, by go_num, fun j hj hjk => ?_⟩
          rcases Nat.lt_or_ge j k with h | h
          · exact HNO.out j hj h
          · obtain rfl : j = k := by omega
            exact hb.out
        case measure => simp [intOf]; omega
    · have hlt' : ¬ (k : Int) < (ns.length : Int) := by omega
      go_wp2_with fail
      go_ret
      refine ⟨⟨-1, rfl, ?_⟩, rfl⟩
      have : (ns.any fun n => inB n g0) = false := by
        rw [List.any_eq_false]
        intro x hx
        obtain ⟨j, hj, rfl⟩ := List.getElem_of_mem hx
        rw [HNO.out j hj (by omega)]
        exact Bool.false_ne_true
      rw [this]
      rfl
set_option maxHeartbeats 1000000 in
theorem cfunc_any (g0 ns : List ByteArray) (gv nv : Value) (R : Nat) (w : World) (hc : w.cell? ⟨R, 0, none⟩ = some gv) (hg : StrsAt w gv g0) (hn : StrsAt w nv ns) :
    Calls Try.prog 85 #[nv, .func (.func 86) #[] #[.pointer (some ⟨R, 0, none⟩)]] w fun e w' => e = .returned (.bool (ns.any fun n => inB n g0)) ∧ w = w' := by
  have HN := Lib.hid hn
  have HG := Lib.hid hg
  have HC := Lib.hid hc
  clear hn hg hc
  go_enter Try.func85, Try.ntmps85
  go_wp2_with fail
  refine (ifunc_any g0 ns _ _ R _ HC.out HG.out HN.out).mono ?_
  rintro e w' ⟨⟨n, rfl, hd⟩, rfl⟩
  have HD := Lib.hid hd
  clear hd
  go_wp2_with fail
  go_ret
  exact ⟨by rw [← HD.out]; rfl, rfl⟩
end Go.Proofs.Ytghlmengcidmdaa.Tr
end
