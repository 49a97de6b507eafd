/- Parts of SmallW: walks and plain laws that later texts use. Conditions: as each statement says. -/
import Derived.Test.YtghlmengcidmdaaSa0
import Derived.Test.YtghlmengcidmdaaSa1
import Derived.Test.YtghlmengcidmdaaSa2
import Derived.Test.YtghlmengcidmdaaSa3
import Derived.Test.YtghlmengcidmdaaSa4
import Derived.Test.YtghlmengcidmdaaSa5
import Derived.Test.YtghlmengcidmdaaSa6
import Derived.Test.YtghlmengcidmdaaSa7
import Derived.Test.YtghlmengcidmdaaSa8
import Derived.Test.YtghlmengcidmdaaSa9
import Derived.Test.YtghlmengcidmdaaSa10
import Derived.Test.YtghlmengcidmdaaSa11
import Derived.Test.YtghlmengcidmdaaSa12
import Derived.Test.YtghlmengcidmdaaSa13
import Derived.Test.YtghlmengcidmdaaSa14
import Derived.Test.YtghlmengcidmdaaSa15
import Derived.Test.YtghlmengcidmdaaSa16
import Derived.Test.YtghlmengcidmdaaSa17
import Derived.RegionTactic
import Derived.IntWalk
import Derived.Deep.QuietTactic
import Derived.BigQuiet
import Derived.StillTailTactics
import Derived.Deep.RegionHeld3
import Derived.Deep.DeepCutAuto
import Derived.Laws.StructEq
import Derived.Deep.RegionLaw
import Derived.Deep.RegionWith
import Derived.Laws.Cover3
import Derived.WalkKit
import Derived.Test.YtghlmengcidmdaaRows
import Derived.WalkSpells
import Derived.Lib.Hide
import Derived.Below
import Derived.Laws.BitsAllLaws
import Derived.Maps.Range
import Derived.Outline
import Derived.Lib.SmallJoins
import Derived.Deep.Upon
import Derived.Maps.AppendAt
import Derived.Laws.OwnMore
import Derived.Deep.CutBlock
import Derived.OwnWalk
import Derived.OneCell
import Derived.Deep.AppendLies
import Derived.Deep.Slices
import Derived.Deep.Fields
import Derived.SliceStrings
import Derived.ChangeSlices
import Derived.WalkSmall
/- Small functions of scope and of the reference: is a text there, is one there twice, what a name stands for, a procedure's own names, a procedure by its name. Conditions: the arguments lie in memory. -/
namespace Go.Proofs.Ytghlmengcidmdaa.Tr
open Go.RowKit Go.Proofs.Ytghlmengcidmdaa.Lx Go.Proofs.Ytghlmengcidmdaa.Wd
set_option maxHeartbeats 1000000 in
theorem twice_any (ns : List ByteArray) (nv : Value) (w : World) (hn : StrsAt w nv ns) :
    Calls Try.prog 84 #[nv] w fun e w' => e = .returned (.bool (twiceB ns)) ∧ w = w' := by
  obtain ⟨a, cap, rfl, hc1, hc2⟩ := hn.form
  have HN := Lib.hid hn
  clear hn
  go_enter Try.func84, Try.ntmps84
  go_wp2_with fail
  go_loop [7] (fun i => ∃ k : Nat, k ≤ ns.length ∧ i = .int .i64 k ∧ ∀ j (hj : j < ns.length), j < k → inB ns[j] (ns.take j) = false) (fun i => (ns.length - intOf i).toNat)
  case atStart => exact ⟨0, by omega, rfl, fun j _ h => absurd h (by omega)⟩
  case round =>
    obtain ⟨k, hk, rfl, hno⟩ := hrel
    have HNO := Lib.hid hno
    clear hno
    by_cases hlt : k < ns.length
    · have hlt' : (k : Int) < (ns.length : Int) := by omega
      have h0k : (0 : Int) ≤ (k : Int) := by omega
      have hne : ns ≠ [] := by intro h; rw [h] at hlt; simp at hlt
      obtain ⟨g, off, cap', hv, hcells⟩ := HN.out.cells hne
      simp only [Value.slice.injEq] at hv
      obtain ⟨rfl, -, rfl⟩ := hv
      obtain ⟨-, c0⟩ := hcells k hlt
      clear hcells hne
      have hcut := run_cut 22 9 Try.underlying22 1 (fun _ => by kernel_rfl) (some ⟨g, off, none⟩) ns.length cap k _ rfl (by omega) hc2
      have HNK := Lib.hid (HN.out.take k hk)
      obtain ⟨b, hb⟩ : ∃ b, Hid (inB ns[k] (ns.take k) = b) := ⟨_, Lib.hid rfl⟩
      obtain ⟨m, hm⟩ : ∃ m, Hid (ns[k] = m) := ⟨_, Lib.hid rfl⟩
      rw [hm.out] at c0
      go_wp2_with fail
      refine (contains_any (ns.take k) _ m _ HNK.out).mono ?_
      rintro e w' ⟨rfl, rfl⟩
      rw [show (at_ m (ns.take k)).isSome = b by rw [← hb.out, hm.out]; rfl]
      cases b with
      | true =>
        go_wp2_with fail
        go_ret
        exact ⟨by rw [twice_yes hlt hb.out]; rfl, rfl⟩
      | false =>
        go_wp2_with fail
        go_round
        case rel =>
          refine ⟨k + 1, by omega, by go_num, fun j hj hjk => ?_⟩
          rcases Nat.lt_or_ge j k with h | h
          · exact HNO.out j hj h
          · obtain rfl : j = k := by omega
            exact hb.out
        case measure => simp [intOf]; omega
    · have hlt' : ¬ (k : Int) < (ns.length : Int) := by omega
      go_wp2_with fail
      go_ret
      exact ⟨by rw [twice_no fun j hj => HNO.out j hj (by omega)]; rfl, rfl⟩
set_option maxHeartbeats 1000000 in
theorem rtwice_any (ns : List ByteArray) (nv : Value) (w : World) (hn : StrsAt w nv ns) :
    Calls Try.prog 91 #[nv] w fun e w' => e = .returned (.bool (twiceB ns)) ∧ Below w.heap.size w w' := by
  obtain ⟨a, cap, rfl, hc1, hc2⟩ := hn.form
  have HN := Lib.hid hn
  clear hn
  go_enter Try.func91, Try.ntmps91
  go_wp2_with fail
  go_loopw [7] (fun i wr => ∃ k : Nat, k ≤ ns.length ∧ i = .int .i64 k ∧ (∀ j (hj : j < ns.length), j < k → inB ns[j] (ns.take j) = false) ∧ Below w.heap.size w wr) (fun i _ => (ns.length - intOf i).toNat)
  case atStart => exact ⟨0, by omega, rfl, fun j _ h => absurd h (by omega), Below.refl _ _⟩
  case round =>
    obtain ⟨k, hk, rfl, hno, hb⟩ := hrel
    have HNO := Lib.hid hno
    have HB := Lib.hid hb
    obtain ⟨w1, hw1⟩ : ∃ x : World, x = wr := ⟨_, rfl⟩
    subst hw1
    clear hno hb
    by_cases hlt : k < ns.length
    · have hlt' : (k : Int) < (ns.length : Int) := by omega
      have h0k : (0 : Int) ≤ (k : Int) := by omega
      have hne : ns ≠ [] := by intro h; rw [h] at hlt; simp at hlt
      obtain ⟨g, off, cap', hv, hcells⟩ := HN.out.cells hne
      simp only [Value.slice.injEq] at hv
      obtain ⟨rfl, -, rfl⟩ := hv
      have HCELLS := Lib.hid hcells
      obtain ⟨m, hm⟩ : ∃ m, Hid (ns[k] = m) := ⟨_, Lib.hid rfl⟩
      clear hcells hne
      go_wp2_with fail
      go_loopw [4] (fun i wr => ∃ q : Nat, q ≤ k ∧ i = .int .i64 q ∧ (∀ j (hj : j < ns.length), j < q → (ns[k].toList == ns[j].toList) = false) ∧ Below w.heap.size w wr) (fun i _ => (k - intOf i).toNat)
      case atStart => exact ⟨0, by omega, rfl, fun j _ h => absurd h (by omega), HB.out⟩
      case round =>
        obtain ⟨q, hq, rfl, hno2, hb2⟩ := hrel
        have HNO2 := Lib.hid hno2
        have HB2 := Lib.hid hb2
        obtain ⟨w2, hw2⟩ : ∃ x : World, x = wr := ⟨_, rfl⟩
        subst hw2
        clear hno2 hb2
        by_cases hqk : q < k
        · have hqk' : (q : Int) < (k : Int) := by omega
          have hqn' : (q : Int) < (ns.length : Int) := by omega
          have h0q : (0 : Int) ≤ (q : Int) := by omega
          have hqn : q < ns.length := by omega
          have c0 := cell_next HB2.out (HCELLS.out k hlt).2
          have c1 := cell_next HB2.out (HCELLS.out q hqn).2
          obtain ⟨t, ht⟩ : ∃ m, Hid (ns[q] = m) := ⟨_, Lib.hid rfl⟩
          rw [hm.out] at c0
          rw [ht.out] at c1
          cases hc : (m.toList == t.toList) with
          | true =>
            go_wp2_with fail
            go_quiet (fail)
            go_wp2_with fail
            go_ret
            refine ⟨by rw [twice_at hlt hqk (by rw [hm.out, ht.out]; exact hc)]; rfl, ?_⟩
            first | exact HB2.out | exact HB2.out.drewN _ | (exact below_drewN HB2.out _)
          | false =>
            have HC := Lib.hid hc
            go_wp2_with fail
            go_quiet (fail)
            go_wp2_with fail
            go_roundw
            case rel =>
              refine ⟨q + 1, by omega, by go_num, fun j hj hjk => ?_, ?_⟩
              · rcases Nat.lt_or_ge j q with h | h
                · exact HNO2.out j hj h
                · obtain rfl : j = q := by omega
                  rw [hm.out, ht.out]; exact HC.out
              · first | exact HB2.out | exact HB2.out.drewN _ | (exact below_drewN HB2.out _)
            case measure => simp [intOf]; omega
        · have hqk' : ¬ (q : Int) < (k : Int) := by omega
          go_wp2_with fail
          go_roundw
          case rel =>
            refine ⟨k + 1, by omega, by go_num, fun j hj hjk => ?_, HB2.out⟩
            rcases Nat.lt_or_ge j k with h | h
            · exact HNO.out j hj h
            · obtain rfl : j = k := by omega
              exact twice_take hj fun i hi hij => HNO2.out i hi (by omega)
          case measure => simp [intOf]; omega
    · have hlt' : ¬ (k : Int) < (ns.length : Int) := by omega
      go_wp2_with fail
      go_ret
      exact ⟨by rw [twice_no fun j hj => HNO.out j hj (by omega)]; rfl, HB.out⟩
set_option maxHeartbeats 2000000 in
set_option maxRecDepth 100000 in
theorem kind_any (g0 : List ByteArray) (f : Pc) (s : ByteArray) (gv pv : Value) (qa va ba fa : Option Addr) (qc vc bc fc : Nat) (w : World) (hg : StrsAt w gv g0) (hq : SlAt 2 (PaAt (cw w)) (.slice qa f.params.length qc) f.params) (hv : StrsAt w (.slice va f.vars.length vc) f.vars) :
    Calls Try.prog 77 #[.agg #[gv, pv], .agg #[.string f.nm, .slice qa f.params.length qc, .slice va f.vars.length vc, .slice ba f.body.length bc, .slice fa f.fin.length fc], .string s] w fun e w' => e = .returned (.int .i64 (kindP g0 f s)) ∧ Below w.heap.size w w' := by
  have HG := Lib.hid hg
  have HQ := Lib.hid hq
  have HV := Lib.hid hv
  obtain ⟨x1, x2, -, hql1, hql2⟩ := hq.form
  have hql : f.params.length ≤ 9223372036854775807 := Nat.le_trans hql1 hql2
  obtain ⟨ga, gc, rfl, -, -⟩ := hg.form
  clear hg hq hv hql1 hql2
  go_enter Try.func77, Try.ntmps77
  go_upto_region 1 with fail
  refine cut_world (fun wx => Below w.heap.size w wx ∧ BoxAt wx w.heap.size [.slice ga g0.length gc, pv] ∧ BoxAt wx (w.heap.size + 1) [.string f.nm, .slice qa f.params.length qc, .slice va f.vars.length vc, .slice ba f.body.length bc, .slice fa f.fin.length fc]) ⟨(boxed w _).alloc (by simp) _, (box_new w #[.slice ga g0.length gc, pv] 25).next (boxed _ _), box_two w _ #[.string f.nm, .slice qa f.params.length qc, .slice va f.vars.length vc, .slice ba f.body.length bc, .slice fa f.fin.length fc] 55⟩ ?_
  rintro w1 ⟨hb1, hx1, hy1⟩
  have HB1 := Lib.hid hb1
  have HX1 := Lib.hid hx1
  have HY1 := Lib.hid hy1
  have y1 := hy1 1 _ rfl
  clear hb1 hx1 hy1
  go_wp2_with fail
  clear y1
  go_loopw [12] (fun i wr => ∃ k : Nat, k ≤ f.params.length ∧ i = .int .i64 k ∧ (∀ j (hj : j < f.params.length), j < k → (f.params[j].nm.toList == s.toList) = false) ∧ Below w1.heap.size w1 wr) (fun i _ => (f.params.length - intOf i).toNat)
  case atStart => exact ⟨0, by omega, rfl, fun j _ h => absurd h (by omega), Below.refl _ _⟩
  case round =>
    obtain ⟨k, hk, rfl, hno, hb2⟩ := hrel
    have HNO := Lib.hid hno
    have HB2 := Lib.hid hb2
    have HBW := Lib.hid (HB1.out.trans (hb2.mono HB1.out.size))
    obtain ⟨w2, hw2⟩ : ∃ x : World, x = wr := ⟨_, rfl⟩
    subst hw2
    clear hno
    by_cases hlt : k < f.params.length
    · have hlt' : (k : Int) < (f.params.length : Int) := by omega
      have h0k : (0 : Int) ≤ (k : Int) := by omega
      have hne : f.params ≠ [] := by intro h; rw [h] at hlt; simp at hlt
      obtain ⟨g, off, cap', hv, _, hcells⟩ := SlAt.cells HQ.out hne
      simp only [Value.slice.injEq] at hv
      obtain ⟨rfl, -, rfl⟩ := hv
      obtain ⟨p0, p1, -⟩ := hcells k hlt
      have d0 : w2.cell? ⟨g, off + k * 2, none⟩ = _ := cell_next HBW.out p0
      have d1 : w2.cell? ⟨g, off + k * 2 + 1, none⟩ = _ := cell_next HBW.out p1
      have hpa := fun h => parK_at (s := s) hlt (fun j hj hjk => HNO.out j hj hjk) h
      obtain ⟨m, hm⟩ : ∃ m, Hid (f.params[k] = m) := ⟨_, Lib.hid rfl⟩
      rw [hm.out] at d0 d1 hpa
      have HPA := Lib.hid hpa
      clear p0 p1 hcells hne hpa hb2
      go_upto_region 4 with fail
      refine cut_world (fun wx => Below w2.heap.size w2 wx ∧ BoxAt wx w2.heap.size [.string m.nm, .bool m.ref]) ⟨boxed _ _, box_new w2 #[.string m.nm, .bool m.ref] 62⟩ ?_
      clear d0 d1
      rintro w3 ⟨hb3, hz3⟩
      have HB3 := Lib.hid (HB2.out.trans (hb3.mono HB2.out.size))
      have a0 := hz3 0 _ rfl
      have a1 := hz3 1 _ rfl
      clear hb3 hz3
      cases hq : (m.nm.toList == s.toList) with
      | true =>
        have hkd : kindP g0 f s = if m.ref then 3 else 2 := by
          unfold kindP
          rw [HPA.out hq, if_pos (by cases m.ref <;> decide)]
        have HKD := Lib.hid hkd
        clear hkd
        cases hr : m.ref with
        | true =>
          rw [hr] at a1
          go_wp2_with fail
          go_ret
          exact ⟨by rw [HKD.out, hr]; rfl, HB1.out.trans (HB3.out.mono HB1.out.size)⟩
        | false =>
          rw [hr] at a1
          go_wp2_with fail
          go_ret
          exact ⟨by rw [HKD.out, hr]; rfl, HB1.out.trans (HB3.out.mono HB1.out.size)⟩
      | false =>
        have HQQ := Lib.hid hq
        go_wp2_with fail
        go_roundw
        case rel =>
          refine ⟨k + 1, by omega, by go_num, fun j hj hjk => ?_, HB3.out⟩
          rcases Nat.lt_or_ge j k with h | h
          · exact HNO.out j hj h
          · obtain rfl : j = k := by omega
            rw [hm.out]; exact HQQ.out
        case measure => simp [intOf]; omega
    · have hlt' : ¬ (k : Int) < (f.params.length : Int) := by omega
      have hk0 : parK s f.params = 0 := parK_no fun j hj => HNO.out j hj (by omega)
      have hkd : kindP g0 f s = if inB s f.vars = true then 4 else if inB s g0 = true then 1 else 0 := by
        unfold kindP
        rw [hk0, if_neg (by simp)]
      have HKD := Lib.hid hkd
      have y2 := HY1.out.next hb2 2 _ rfl
      have HVV := Lib.hid (HV.out.next HBW.out)
      have HGG := Lib.hid (HG.out.next HBW.out)
      have x0 := HX1.out.next hb2 0 _ rfl
      obtain ⟨b1, hb1⟩ : ∃ b, Hid (inB s f.vars = b) := ⟨_, Lib.hid rfl⟩
      obtain ⟨b2, hb2'⟩ : ∃ b, Hid (inB s g0 = b) := ⟨_, Lib.hid rfl⟩
      clear hkd hk0 hb2
      go_wp2_with fail
      refine (contains_any f.vars _ s _ HVV.out).mono ?_
      rintro e w' ⟨rfl, rfl⟩
      rw [show (at_ s f.vars).isSome = b1 from hb1.out]
      cases b1 with
      | true =>
        go_wp2_with fail
        go_ret
        exact ⟨by rw [HKD.out, hb1.out]; rfl, HBW.out⟩
      | false =>
        go_wp2_with fail
        refine (contains_any g0 _ s _ HGG.out).mono ?_
        rintro e w' ⟨rfl, rfl⟩
        rw [show (at_ s g0).isSome = b2 from hb2'.out]
        cases b2 with
        | true =>
          go_wp2_with fail
          go_ret
          exact ⟨by rw [HKD.out, hb1.out, hb2'.out]; rfl, HBW.out⟩
        | false =>
          go_wp2_with fail
          go_ret
          exact ⟨by rw [HKD.out, hb1.out, hb2'.out]; rfl, HBW.out⟩
set_option maxHeartbeats 2000000 in
set_option maxRecDepth 100000 in
theorem rkind_any (g0 : List ByteArray) (f : Pc) (s : ByteArray) (gv pv : Value) (qa va ba fa : Option Addr) (qc vc bc fc : Nat) (w : World) (hg : StrsAt w gv g0) (hq : SlAt 2 (PaAt (cw w)) (.slice qa f.params.length qc) f.params) (hv : StrsAt w (.slice va f.vars.length vc) f.vars) :
    Calls Try.prog 80 #[.agg #[gv, pv], .agg #[.string f.nm, .slice qa f.params.length qc, .slice va f.vars.length vc, .slice ba f.body.length bc, .slice fa f.fin.length fc], .string s] w fun e w' => e = .returned (.int .i64 (kindP g0 f s)) ∧ Below w.heap.size w w' := by
  have HG := Lib.hid hg
  have HQ := Lib.hid hq
  have HV := Lib.hid hv
  obtain ⟨x1, x2, -, hql1, hql2⟩ := hq.form
  have hql : f.params.length ≤ 9223372036854775807 := Nat.le_trans hql1 hql2
  obtain ⟨ga, gc, rfl, -, -⟩ := hg.form
  clear hg hq hv hql1 hql2
  go_enter Try.func80, Try.ntmps80
  go_upto_region 1 with fail
  refine cut_world (fun wx => Below w.heap.size w wx ∧ BoxAt wx w.heap.size [.slice ga g0.length gc, pv] ∧ BoxAt wx (w.heap.size + 1) [.string f.nm, .slice qa f.params.length qc, .slice va f.vars.length vc, .slice ba f.body.length bc, .slice fa f.fin.length fc]) ⟨(boxed w _).alloc (by simp) _, (box_new w #[.slice ga g0.length gc, pv] 25).next (boxed _ _), box_two w _ #[.string f.nm, .slice qa f.params.length qc, .slice va f.vars.length vc, .slice ba f.body.length bc, .slice fa f.fin.length fc] 55⟩ ?_
  rintro w1 ⟨hb1, hx1, hy1⟩
  have HB1 := Lib.hid hb1
  have HX1 := Lib.hid hx1
  have HY1 := Lib.hid hy1
  have y1 := hy1 1 _ rfl
  clear hb1 hx1 hy1
  go_wp2_with fail
  clear y1
  go_loopw [12] (fun i wr => ∃ k : Nat, k ≤ f.params.length ∧ i = .int .i64 k ∧ (∀ j (hj : j < f.params.length), j < k → (f.params[j].nm.toList == s.toList) = false) ∧ Below w1.heap.size w1 wr) (fun i _ => (f.params.length - intOf i).toNat)
  case atStart => exact ⟨0, by omega, rfl, fun j _ h => absurd h (by omega), Below.refl _ _⟩
  case round =>
    obtain ⟨k, hk, rfl, hno, hb2⟩ := hrel
    have HNO := Lib.hid hno
    have HB2 := Lib.hid hb2
    have HBW := Lib.hid (HB1.out.trans (hb2.mono HB1.out.size))
    obtain ⟨w2, hw2⟩ : ∃ x : World, x = wr := ⟨_, rfl⟩
    subst hw2
    clear hno
    by_cases hlt : k < f.params.length
    · have hlt' : (k : Int) < (f.params.length : Int) := by omega
      have h0k : (0 : Int) ≤ (k : Int) := by omega
      have hne : f.params ≠ [] := by intro h; rw [h] at hlt; simp at hlt
      obtain ⟨g, off, cap', hv, _, hcells⟩ := SlAt.cells HQ.out hne
      simp only [Value.slice.injEq] at hv
      obtain ⟨rfl, -, rfl⟩ := hv
      obtain ⟨p0, p1, -⟩ := hcells k hlt
      have d0 : w2.cell? ⟨g, off + k * 2, none⟩ = _ := cell_next HBW.out p0
      have d1 : w2.cell? ⟨g, off + k * 2 + 1, none⟩ = _ := cell_next HBW.out p1
      have hpa := fun h => parK_at (s := s) hlt (fun j hj hjk => HNO.out j hj hjk) h
      obtain ⟨m, hm⟩ : ∃ m, Hid (f.params[k] = m) := ⟨_, Lib.hid rfl⟩
      rw [hm.out] at d0 d1 hpa
      have HPA := Lib.hid hpa
      clear p0 p1 hcells hne hpa hb2
      go_upto_region 4 with fail
      refine cut_world (fun wx => Below w2.heap.size w2 wx ∧ BoxAt wx w2.heap.size [.string m.nm, .bool m.ref]) ⟨boxed _ _, box_new w2 #[.string m.nm, .bool m.ref] 62⟩ ?_
      clear d0 d1
      rintro w3 ⟨hb3, hz3⟩
      have HB3 := Lib.hid (HB2.out.trans (hb3.mono HB2.out.size))
      have a0 := hz3 0 _ rfl
      have a1 := hz3 1 _ rfl
      clear hb3 hz3
      cases hq : (m.nm.toList == s.toList) with
      | true =>
        have hkd : kindP g0 f s = if m.ref then 3 else 2 := by
          unfold kindP
          rw [HPA.out hq, if_pos (by cases m.ref <;> decide)]
        have HKD := Lib.hid hkd
        clear hkd
        cases hr : m.ref with
        | true =>
          rw [hr] at a1
          go_wp2_with fail
          go_ret
          exact ⟨by rw [HKD.out, hr]; rfl, HB1.out.trans (HB3.out.mono HB1.out.size)⟩
        | false =>
          rw [hr] at a1
          go_wp2_with fail
          go_ret
          exact ⟨by rw [HKD.out, hr]; rfl, HB1.out.trans (HB3.out.mono HB1.out.size)⟩
      | false =>
        have HQQ := Lib.hid hq
        go_wp2_with fail
        go_roundw
        case rel =>
          refine ⟨k + 1, by omega, by go_num, fun j hj hjk => ?_, HB3.out⟩
          rcases Nat.lt_or_ge j k with h | h
          · exact HNO.out j hj h
          · obtain rfl : j = k := by omega
            rw [hm.out]; exact HQQ.out
        case measure => simp [intOf]; omega
    · have hlt' : ¬ (k : Int) < (f.params.length : Int) := by omega
      have hk0 : parK s f.params = 0 := parK_no fun j hj => HNO.out j hj (by omega)
      have hkd : kindP g0 f s = if inB s f.vars = true then 4 else if inB s g0 = true then 1 else 0 := by
        unfold kindP
        rw [hk0, if_neg (by simp)]
      have HKD := Lib.hid hkd
      have y2 := HY1.out.next hb2 2 _ rfl
      have HVV := Lib.hid (HV.out.next HBW.out)
      have HGG := Lib.hid (HG.out.next HBW.out)
      have x0 := HX1.out.next hb2 0 _ rfl
      obtain ⟨b1, hb1⟩ : ∃ b, Hid (inB s f.vars = b) := ⟨_, Lib.hid rfl⟩
      obtain ⟨b2, hb2'⟩ : ∃ b, Hid (inB s g0 = b) := ⟨_, Lib.hid rfl⟩
      clear hkd hk0 hb2
      go_wp2_with fail
      refine (in_any f.vars _ s _ HVV.out).mono ?_
      rintro e w' ⟨rfl, rfl⟩
      rw [show (at_ s f.vars).isSome = b1 from hb1.out]
      cases b1 with
      | true =>
        go_wp2_with fail
        go_ret
        exact ⟨by rw [HKD.out, hb1.out]; rfl, HBW.out⟩
      | false =>
        go_wp2_with fail
        refine (in_any g0 _ s _ HGG.out).mono ?_
        rintro e w' ⟨rfl, rfl⟩
        rw [show (at_ s g0).isSome = b2 from hb2'.out]
        cases b2 with
        | true =>
          go_wp2_with fail
          go_ret
          exact ⟨by rw [HKD.out, hb1.out, hb2'.out]; rfl, HBW.out⟩
        | false =>
          go_wp2_with fail
          go_ret
          exact ⟨by rw [HKD.out, hb1.out, hb2'.out]; rfl, HBW.out⟩
set_option maxHeartbeats 2000000 in
set_option maxRecDepth 100000 in
theorem own_any (f : Pc) (qa va ba fa : Option Addr) (qc vc bc fc : Nat) (w : World) (hq : SlAt 2 (PaAt (cw w)) (.slice qa f.params.length qc) f.params) (hv : StrsAt w (.slice va f.vars.length vc) f.vars) (hm : f.params.length + f.vars.length ≤ 1000000) :
    Calls Try.prog 74 #[.agg #[.string f.nm, .slice qa f.params.length qc, .slice va f.vars.length vc, .slice ba f.body.length bc, .slice fa f.fin.length fc]] w (NamesMade (ownNs f) w) := by
  obtain ⟨i0, hi, hz0, hz1, hz2⟩ := info_parts infoStr
  have HQ := Lib.hid hq
  have HV := Lib.hid hv
  clear hq hv
  go_enter Try.func74, Try.ntmps74
  go_upto_region 1 with fail
  refine cut_world (fun wx => Below w.heap.size w wx ∧ BoxAt wx w.heap.size [.string f.nm, .slice qa f.params.length qc, .slice va f.vars.length vc, .slice ba f.body.length bc, .slice fa f.fin.length fc]) ⟨boxed w _, box_new w #[.string f.nm, .slice qa f.params.length qc, .slice va f.vars.length vc, .slice ba f.body.length bc, .slice fa f.fin.length fc] 55⟩ ?_
  rintro w1 ⟨hb1, hy1⟩
  have HB1 := Lib.hid hb1
  have HY1 := Lib.hid hy1
  have y1 := hy1 1 _ rfl
  have hzw := cell_lt y1
  clear hb1 hy1
  go_wp2_with fail
  clear y1
  go_loopw [9, 3] (fun i v wr => ∃ (k : Nat) (v0 : Value), k ≤ f.params.length ∧ i = .int .i64 k ∧ v = v0 ∧ RowS (w.heap.size + 1) wr v0 ((f.params.take k).map Pa.nm) ∧ Below w.heap.size w wr ∧ w1.heap.size ≤ wr.heap.size ∧ BoxAt wr w.heap.size [.string f.nm, .slice qa f.params.length qc, .slice va f.vars.length vc, .slice ba f.body.length bc, .slice fa f.fin.length fc]) (fun i _ _ => (f.params.length - intOf i).toNat)
  case atStart => exact ⟨0, _, by omega, rfl, rfl, RowS.nil _ _, HB1.out, Nat.le_refl _, HY1.out⟩
  case round =>
    obtain ⟨k, v, hk, rfl, rfl, hr2, hbw, hz2', hy2⟩ := hrel
    have HBW := Lib.hid hbw
    have HY2 := Lib.hid hy2
    obtain ⟨w2, hw2⟩ : ∃ x : World, x = wr := ⟨_, rfl⟩
    subst hw2
    clear hbw hy2
    by_cases hlt : k < f.params.length
    · have hlt' : (k : Int) < (f.params.length : Int) := by omega
      have h0k : (0 : Int) ≤ (k : Int) := by omega
      have hne : f.params ≠ [] := by intro h; rw [h] at hlt; simp at hlt
      obtain ⟨g, off, cap', hv, _, hcells⟩ := SlAt.cells HQ.out hne
      simp only [Value.slice.injEq] at hv
      obtain ⟨rfl, -, rfl⟩ := hv
      obtain ⟨p0, p1, psz⟩ := hcells k hlt
      have d0 : w2.cell? ⟨g, off + k * 2, none⟩ = _ := cell_next HBW.out p0
      have d1 : w2.cell? ⟨g, off + k * 2 + 1, none⟩ = _ := cell_next HBW.out p1
      have hst : (f.params.take (k + 1)).map Pa.nm = (f.params.take k).map Pa.nm ++ [f.params[k].nm] := by rw [List.take_succ_eq_append_getElem hlt, List.map_append]; rfl
      obtain ⟨m, hm'⟩ : ∃ m, Hid (f.params[k] = m) := ⟨_, Lib.hid rfl⟩
      obtain ⟨LK, hLK⟩ : ∃ L, Hid ((f.params.take k).map Pa.nm = L) := ⟨_, Lib.hid rfl⟩
      have hlk : LK.length = k := by rw [← hLK.out, List.length_map, List.length_take]; omega
      rw [hm'.out] at d0 d1 psz hst
      rw [hLK.out] at hr2 hst
      have HST := Lib.hid hst
      have HPSZ := Lib.hid psz
      obtain ⟨va2, vc2, rfl⟩ := ownsForm hr2.1
      have hroom : LK.length + 1 ≤ 1000000 := by omega
      have HR2 := Lib.hid hr2
      have hs2 := HBW.out.size
      clear p0 p1 hcells hne psz hst hr2 hlk
      go_upto_region 5 with fail
      refine cut_world (fun wx => Below w2.heap.size w2 wx ∧ BoxAt wx w2.heap.size [.string m.nm, .bool m.ref]) ⟨boxed _ _, box_new w2 #[.string m.nm, .bool m.ref] 62⟩ ?_
      clear d0 d1
      rintro w3 ⟨hb3, hx3⟩
      have HB3 := Lib.hid hb3
      have HR3 := Lib.hid (HR2.out.next hb3)
      have a0 := hx3 0 _ rfl
      have hs3 := hb3.size
      clear hb3 hx3
      go_wp2_with (at_builtin; refine wpList_append_lies _ rfl (.tmp 13) (.tmp 16) 22 rfl (w.heap.size + 1) 9 i0 (.string ⟨#[]⟩) 1 16 Try.underlying22 hi hz0 hz1 hz2 rfl (by decide) _ _ _ rfl ((HR3.out.1.alloc _)) ⟨_, 0, none⟩ 1 1 [.string m.nm] rfl rfl ?c1 str_cells (by decide) ?c3 ?c4 ?c5 _ rfl ?_)
      case c1 => exact one_str _ _ _
      case c3 => unfold maxLen; omega
      case c4 => omega
      case c5 => first | omega | (simp; omega)
      intro g4 cap4 w4 hown4 hg4 hat4 hlt4
      have hgg := (grown_of (HB3.out.trans ((boxed w3 _).mono HB3.out.size)) _).trans hg4
      have HR4 := Lib.hid (RowS.one hown4 HR2.out.2 HPSZ.out)
      have HG4 := Lib.hid hgg
      have hs4 := hgg.size
      clear hown4 hg4 hat4 hlt4 hgg
      go_wp2_with fail
      go_roundw
      case rel =>
        refine ⟨k + 1, _, by omega, by go_num, rfl, ?_, HBW.out.grown HG4.out HBW.out.size fun q hq => ?_, by omega, HY2.out.grown HG4.out fun e => ?_⟩
        · rw [HST.out]; exact HR4.out
        · have := (HR2.out.lt q hq).1; omega
        · have := (HR2.out.lt _ e.symm).1; omega
      case measure => simp [intOf]; omega
    · have hlt' : ¬ (k : Int) < (f.params.length : Int) := by omega
      have hke : k = f.params.length := by omega
      subst hke
      rw [List.take_length] at hr2
      obtain ⟨LK, hLK⟩ : ∃ L, Hid (f.params.map Pa.nm = L) := ⟨_, Lib.hid rfl⟩
      have hlk : LK.length + f.vars.length ≤ 1000000 := by rw [← hLK.out, List.length_map]; exact hm
      rw [hLK.out] at hr2
      obtain ⟨va2, vc2, rfl⟩ := ownsForm hr2.1
      have HR2 := Lib.hid hr2
      have HR2F := Lib.hid HR2.out.2
      have HVV := Lib.hid (HV.out.next HBW.out)
      have y2 := HY2.out 2 _ rfl
      have hs2 := HBW.out.size
      clear hr2
      go_wp2_with (at_builtin; refine wpList_append_sl _ rfl (.tmp 19) (.tmp 21) 22 rfl (w.heap.size + 1) 9 i0 (.string ⟨#[]⟩) 1 16 Try.underlying22 hi hz0 hz1 hz2 rfl (by decide) _ LK.length _ rfl HR2.out.1 va f.vars.length vc (f.vars.map Value.string) rfl HVV.out.news.2.1 ?op1 HVV.out.news.2.2 str_one ?op2 ?op3 ?op4 ?_)
      case op2 => unfold maxLen; omega
      case op3 => omega
      case op4 => omega
      intro v4 w4 hown4 hg4 hat4
      have hr4 : RowS (w.heap.size + 1) w4 v4 (LK ++ f.vars) := RowS.cat hown4 HR2F.out HVV.out.all
      have hb4 : Below w.heap.size w w4 := HBW.out.grown hg4 HBW.out.size fun q hq => by have := (HR2.out.lt q hq).1; omega
      have HR4 := Lib.hid (hr4.mono (B' := w.heap.size) (by omega))
      have HB4 := Lib.hid hb4
      clear hown4 hg4 hat4 hr4 hb4
      go_wp2_with fail
      go_ret
      exact ⟨_, rfl, by unfold ownNs; rw [hLK.out]; exact HR4.out, HB4.out⟩
set_option maxHeartbeats 2000000 in
set_option maxRecDepth 100000 in
theorem rparams_any (f : Pc) (qa va ba fa : Option Addr) (qc vc bc fc : Nat) (w : World) (hq : SlAt 2 (PaAt (cw w)) (.slice qa f.params.length qc) f.params) (hv : StrsAt w (.slice va f.vars.length vc) f.vars) (hm : f.params.length + f.vars.length ≤ 1000000) :
    Calls Try.prog 81 #[.agg #[.string f.nm, .slice qa f.params.length qc, .slice va f.vars.length vc, .slice ba f.body.length bc, .slice fa f.fin.length fc]] w (NamesMade (f.params.map Pa.nm) w) := by
  obtain ⟨i0, hi, hz0, hz1, hz2⟩ := info_parts infoStr
  have HQ := Lib.hid hq
  have HV := Lib.hid hv
  clear hq hv
  go_enter Try.func81, Try.ntmps81
  go_upto_region 1 with fail
  refine cut_world (fun wx => Below w.heap.size w wx ∧ BoxAt wx w.heap.size [.string f.nm, .slice qa f.params.length qc, .slice va f.vars.length vc, .slice ba f.body.length bc, .slice fa f.fin.length fc]) ⟨boxed w _, box_new w #[.string f.nm, .slice qa f.params.length qc, .slice va f.vars.length vc, .slice ba f.body.length bc, .slice fa f.fin.length fc] 55⟩ ?_
  rintro w1 ⟨hb1, hy1⟩
  have HB1 := Lib.hid hb1
  have HY1 := Lib.hid hy1
  have y1 := hy1 1 _ rfl
  have hzw := cell_lt y1
  clear hb1 hy1
  go_wp2_with fail
  clear y1
  go_loopw [9, 3] (fun i v wr => ∃ (k : Nat) (v0 : Value), k ≤ f.params.length ∧ i = .int .i64 k ∧ v = v0 ∧ RowS (w.heap.size + 1) wr v0 ((f.params.take k).map Pa.nm) ∧ Below w.heap.size w wr ∧ w1.heap.size ≤ wr.heap.size ∧ BoxAt wr w.heap.size [.string f.nm, .slice qa f.params.length qc, .slice va f.vars.length vc, .slice ba f.body.length bc, .slice fa f.fin.length fc]) (fun i _ _ => (f.params.length - intOf i).toNat)
  case atStart => exact ⟨0, _, by omega, rfl, rfl, RowS.nil _ _, HB1.out, Nat.le_refl _, HY1.out⟩
  case round =>
    obtain ⟨k, v, hk, rfl, rfl, hr2, hbw, hz2', hy2⟩ := hrel
    have HBW := Lib.hid hbw
    have HY2 := Lib.hid hy2
    obtain ⟨w2, hw2⟩ : ∃ x : World, x = wr := ⟨_, rfl⟩
    subst hw2
    clear hbw hy2
    by_cases hlt : k < f.params.length
    · have hlt' : (k : Int) < (f.params.length : Int) := by omega
      have h0k : (0 : Int) ≤ (k : Int) := by omega
      have hne : f.params ≠ [] := by intro h; rw [h] at hlt; simp at hlt
      obtain ⟨g, off, cap', hv, _, hcells⟩ := SlAt.cells HQ.out hne
      simp only [Value.slice.injEq] at hv
      obtain ⟨rfl, -, rfl⟩ := hv
      obtain ⟨p0, p1, psz⟩ := hcells k hlt
      have d0 : w2.cell? ⟨g, off + k * 2, none⟩ = _ := cell_next HBW.out p0
      have d1 : w2.cell? ⟨g, off + k * 2 + 1, none⟩ = _ := cell_next HBW.out p1
      have hst : (f.params.take (k + 1)).map Pa.nm = (f.params.take k).map Pa.nm ++ [f.params[k].nm] := by rw [List.take_succ_eq_append_getElem hlt, List.map_append]; rfl
      obtain ⟨m, hm'⟩ : ∃ m, Hid (f.params[k] = m) := ⟨_, Lib.hid rfl⟩
      obtain ⟨LK, hLK⟩ : ∃ L, Hid ((f.params.take k).map Pa.nm = L) := ⟨_, Lib.hid rfl⟩
      have hlk : LK.length = k := by rw [← hLK.out, List.length_map, List.length_take]; omega
      rw [hm'.out] at d0 d1 psz hst
      rw [hLK.out] at hr2 hst
      have HST := Lib.hid hst
      have HPSZ := Lib.hid psz
      obtain ⟨va2, vc2, rfl⟩ := ownsForm hr2.1
      have hroom : LK.length + 1 ≤ 1000000 := by omega
      have HR2 := Lib.hid hr2
      have hs2 := HBW.out.size
      clear p0 p1 hcells hne psz hst hr2 hlk
      go_upto_region 5 with fail
      refine cut_world (fun wx => Below w2.heap.size w2 wx ∧ BoxAt wx w2.heap.size [.string m.nm, .bool m.ref]) ⟨boxed _ _, box_new w2 #[.string m.nm, .bool m.ref] 62⟩ ?_
      clear d0 d1
      rintro w3 ⟨hb3, hx3⟩
      have HB3 := Lib.hid hb3
      have HR3 := Lib.hid (HR2.out.next hb3)
      have a0 := hx3 0 _ rfl
      have hs3 := hb3.size
      clear hb3 hx3
      go_wp2_with (at_builtin; refine wpList_append_lies _ rfl (.tmp 13) (.tmp 16) 22 rfl (w.heap.size + 1) 9 i0 (.string ⟨#[]⟩) 1 16 Try.underlying22 hi hz0 hz1 hz2 rfl (by decide) _ _ _ rfl ((HR3.out.1.alloc _)) ⟨_, 0, none⟩ 1 1 [.string m.nm] rfl rfl ?c1 str_cells (by decide) ?c3 ?c4 ?c5 _ rfl ?_)
      case c1 => exact one_str _ _ _
      case c3 => unfold maxLen; omega
      case c4 => omega
      case c5 => first | omega | (simp; omega)
      intro g4 cap4 w4 hown4 hg4 hat4 hlt4
      have hgg := (grown_of (HB3.out.trans ((boxed w3 _).mono HB3.out.size)) _).trans hg4
      have HR4 := Lib.hid (RowS.one hown4 HR2.out.2 HPSZ.out)
      have HG4 := Lib.hid hgg
      have hs4 := hgg.size
      clear hown4 hg4 hat4 hlt4 hgg
      go_wp2_with fail
      go_roundw
      case rel =>
        refine ⟨k + 1, _, by omega, by go_num, rfl, ?_, HBW.out.grown HG4.out HBW.out.size fun q hq => ?_, by omega, HY2.out.grown HG4.out fun e => ?_⟩
        · rw [HST.out]; exact HR4.out
        · have := (HR2.out.lt q hq).1; omega
        · have := (HR2.out.lt _ e.symm).1; omega
      case measure => simp [intOf]; omega
    · have hlt' : ¬ (k : Int) < (f.params.length : Int) := by omega
      have hke : k = f.params.length := by omega
      subst hke
      rw [List.take_length] at hr2
      obtain ⟨LK, hLK⟩ : ∃ L, Hid (f.params.map Pa.nm = L) := ⟨_, Lib.hid rfl⟩
      have hlk : LK.length + f.vars.length ≤ 1000000 := by rw [← hLK.out, List.length_map]; exact hm
      rw [hLK.out] at hr2
      obtain ⟨va2, vc2, rfl⟩ := ownsForm hr2.1
      have HR2 := Lib.hid hr2
      have HR4 := Lib.hid (HR2.out.mono (B' := w.heap.size) (by omega))
      go_wp2_with fail
      go_ret
      exact ⟨.slice va2 LK.length vc2, rfl, by rw [hLK.out]; exact HR4.out, HBW.out⟩
end Go.Proofs.Ytghlmengcidmdaa.Tr
