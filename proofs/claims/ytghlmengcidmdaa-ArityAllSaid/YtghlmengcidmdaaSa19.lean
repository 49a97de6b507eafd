/- Parts of KnownW: walks and plain laws that later texts use. Conditions: as each statement says. -/
import Derived.Test.YtghlmengcidmdaaSa0
import Derived.Test.YtghlmengcidmdaaSa1
import Derived.Test.YtghlmengcidmdaaSa2
import Derived.Test.YtghlmengcidmdaaSa3
import Derived.Test.YtghlmengcidmdaaSa4
import Derived.Test.YtghlmengcidmdaaSa5
import Derived.Test.YtghlmengcidmdaaSa6
import Derived.Test.YtghlmengcidmdaaSa7
import Derived.Test.YtghlmengcidmdaaSa8
import Derived.Test.YtghlmengcidmdaaSa9
import Derived.Test.YtghlmengcidmdaaSa10
import Derived.Test.YtghlmengcidmdaaSa11
import Derived.Test.YtghlmengcidmdaaSa12
import Derived.Test.YtghlmengcidmdaaSa13
import Derived.Test.YtghlmengcidmdaaSa14
import Derived.Test.YtghlmengcidmdaaSa15
import Derived.Test.YtghlmengcidmdaaSa16
import Derived.Test.YtghlmengcidmdaaSa17
import Derived.Test.YtghlmengcidmdaaSa18
import Derived.RegionTactic
import Derived.IntWalk
import Derived.Deep.QuietTactic
import Derived.BigQuiet
import Derived.StillTailTactics
import Derived.Deep.RegionHeld3
import Derived.Deep.DeepCutAuto
import Derived.Deep.RegionLaw
import Derived.Deep.Slices
import Derived.Deep.Fields
import Derived.Lib.SmallJoins
import Derived.SliceStrings
import Derived.ChangeSlices
import Derived.Deep.RegionWith
import Derived.Laws.Cover3
import Derived.WalkKit
import Derived.Test.YtghlmengcidmdaaRows
import Derived.WalkSpells
import Derived.Lib.Hide
import Derived.Below
import Derived.Laws.BitsAllLaws
import Derived.Maps.Range
import Derived.Outline
import Derived.Deep.Upon
import Derived.Maps.AppendAt
import Derived.Laws.OwnMore
import Derived.Deep.CutBlock
import Derived.OwnWalk
import Derived.OneCell
import Derived.Deep.AppendLies
import Derived.Laws.StructEq
import Derived.WalkSmall
/- Whether each name of a statement stands for something; whether a procedure's own name is a global one. Conditions: the arguments lie in memory. -/
namespace Go.Proofs.Ytghlmengcidmdaa.Tr
open Go.RowKit Go.Proofs.Ytghlmengcidmdaa.Lx Go.Proofs.Ytghlmengcidmdaa.Wd
theorem main_list : sMain.toList = [109, 97, 105, 110] := by rw [toList_bl]; rfl
theorem alls_no {α : Type} {l : List α} {p : α → Bool} {k : Nat} (hk : k < l.length) (h : p l[k] = false) : l.all p = false := by
  rw [Bool.eq_false_iff]
  intro ha
  rw [List.all_eq_true] at ha
  rw [ha _ (List.getElem_mem hk)] at h
  cases h
theorem alls_yes {α : Type} {l : List α} {p : α → Bool} (h : ∀ k (hk : k < l.length), p l[k] = true) : l.all p = true := by
  rw [List.all_eq_true]
  intro x hx
  obtain ⟨k, hk, rfl⟩ := List.getElem_of_mem hx
  exact h k hk
set_option maxHeartbeats 4000000 in
set_option maxRecDepth 100000 in
theorem known_any (g0 procs : List ByteArray) (f : Pc) (gv pv nsv : Value) (qa va ba fa : Option Addr) (qc vc bc fc : Nat) (d : Nat) (s : St) (la ka aa ta ea : Option Addr) (lc kc ac tc ec : Nat) (w : World)
    (hg : StrsAt w gv g0) (hq : SlAt 2 (PaAt (cw w)) (.slice qa f.params.length qc) f.params) (hv : StrsAt w (.slice va f.vars.length vc) f.vars) (hn : StrsAt w nsv procs)
    (hh : Hang d w s (.slice la s.labels.length lc) (.slice ka s.x.ks.length kc) (.slice aa s.args.length ac) (.slice ta s.thn.length tc) (.slice ea s.els.length ec)) (hok : OkE s.x) (hnm : s.nm.size ≤ 9223372036854775807) (hmany : (saidS s).length ≤ 1000000) :
    Calls Try.prog 89 #[.agg #[gv, pv], .agg #[.string f.nm, .slice qa f.params.length qc, .slice va f.vars.length vc, .slice ba f.body.length bc, .slice fa f.fin.length fc], nsv, .agg #[.int .i64 s.id, .int .i64 s.kind, .slice la s.labels.length lc, .string s.nm, .string s.proc, .int .i64 s.x.op, .int .i64 s.x.n, .string s.x.nm, .slice ka s.x.ks.length kc, .bool s.has, .slice aa s.args.length ac, .slice ta s.thn.length tc, .slice ea s.els.length ec]] w fun e w' => e = .returned (.bool (knownS g0 f procs s)) ∧ Below w.heap.size w w' := by
  have HG := Lib.hid hg
  have HQ := Lib.hid hq
  have HV := Lib.hid hv
  have HN := Lib.hid hn
  have HH := Lib.hid hh
  have HOK := Lib.hid hok
  have HM := Lib.hid hmany
  obtain ⟨ga, gc, rfl, -, -⟩ := hg.form
  obtain ⟨na, nc, rfl, -, -⟩ := hn.form
  clear hg hq hv hn hh hok hmany
  obtain ⟨LS, hLS⟩ : ∃ L, Hid (saidS s = L) := ⟨_, Lib.hid rfl⟩
  obtain ⟨KB, hKB⟩ : ∃ b, Hid (knownS g0 f procs s = b) := ⟨_, Lib.hid rfl⟩
  rw [hKB.out]
  go_enter Try.func89, Try.ntmps89
  go_upto_region 1 with fail
  refine cut_world (fun wx => Below w.heap.size w wx ∧ wx.heap.size = w.heap.size + 1 + 1 + 1 ∧ BoxAt wx w.heap.size [.slice ga g0.length gc, pv] ∧ BoxAt wx (w.heap.size + 1) [.string f.nm, .slice qa f.params.length qc, .slice va f.vars.length vc, .slice ba f.body.length bc, .slice fa f.fin.length fc] ∧ BoxAt wx (w.heap.size + 1 + 1) [.int .i64 s.id, .int .i64 s.kind, .slice la s.labels.length lc, .string s.nm, .string s.proc, .int .i64 s.x.op, .int .i64 s.x.n, .string s.x.nm, .slice ka s.x.ks.length kc, .bool s.has, .slice aa s.args.length ac, .slice ta s.thn.length tc, .slice ea s.els.length ec]) ⟨?_, by simp, ?_, ?_, ?_⟩ ?_
  · exact ((boxed w _).alloc (by simp) _).alloc (by simp; omega) _
  · exact ((box_new w #[.slice ga g0.length gc, pv] 25).next (boxed _ _)).next (boxed _ _)
  · exact (box_two w _ #[.string f.nm, .slice qa f.params.length qc, .slice va f.vars.length vc, .slice ba f.body.length bc, .slice fa f.fin.length fc] 55).next (boxed _ _)
  · have h := box_new ((w.alloc (.cells #[.slice ga g0.length gc, pv] 25)).alloc (.cells #[.string f.nm, .slice qa f.params.length qc, .slice va f.vars.length vc, .slice ba f.body.length bc, .slice fa f.fin.length fc] 55)) #[.int .i64 s.id, .int .i64 s.kind, .slice la s.labels.length lc, .string s.nm, .string s.proc, .int .i64 s.x.op, .int .i64 s.x.n, .string s.x.nm, .slice ka s.x.ks.length kc, .bool s.has, .slice aa s.args.length ac, .slice ta s.thn.length tc, .slice ea s.els.length ec] 41
    rwa [World.size_alloc, World.size_alloc] at h
  rintro w1 ⟨hb1, hz1, hx1, hy1, ht1⟩
  have HB1 := Lib.hid hb1
  have HX1 := Lib.hid hx1
  have HY1 := Lib.hid hy1
  have HT1 := Lib.hid ht1
  have t0 := ht1 0 _ rfl
  have t1 := ht1 1 _ rfl
  have t2 := ht1 2 _ rfl
  have t3 := ht1 3 _ rfl
  have t4 := ht1 4 _ rfl
  have t5 := ht1 5 _ rfl
  have t6 := ht1 6 _ rfl
  have t7 := ht1 7 _ rfl
  have t8 := ht1 8 _ rfl
  have t9 := ht1 9 _ rfl
  have t10 := ht1 10 _ rfl
  have t11 := ht1 11 _ rfl
  have t12 := ht1 12 _ rfl
  clear hb1 hz1 hx1 hy1 ht1
  go_wp2_with fail
  refine (fnames_any d s la ka aa ta ea lc kc ac tc ec _ (HH.out.next HB1.out) HOK.out hnm HM.out).mono ?_
  rw [hLS.out]
  rintro e w2 ⟨v2, rfl, hr2, hb2⟩
  obtain ⟨a2, c2, rfl⟩ := ownsForm hr2.1
  rw [hLS.out] at HM
  have hml := HM.out
  have HS2 := Lib.hid (hr2.strs (by omega))
  have HB2 := Lib.hid hb2
  clear hr2 hb2 t0 t1 t2 t3 t4 t5 t6 t7 t8 t9 t10 t11 t12
  go_wp2_with fail
  go_loopw [14] (fun i wr => ∃ k : Nat, k ≤ LS.length ∧ i = .int .i64 k ∧ (∀ j (hj : j < LS.length), j < k → (kindP g0 f LS[j] == 0) = false) ∧ Below w2.heap.size w2 wr) (fun i _ => (LS.length - intOf i).toNat)
  case atStart => exact ⟨0, by omega, rfl, fun j _ h => absurd h (by omega), Below.refl _ _⟩
  case round =>
    obtain ⟨k, hk, rfl, hno, hb3⟩ := hrel
    have HNO := Lib.hid hno
    have HB3 := Lib.hid (HB2.out.trans (hb3.mono HB2.out.size))
    have HB23 := Lib.hid hb3
    have HBW := Lib.hid (HB1.out.trans (HB3.out.mono HB1.out.size))
    obtain ⟨w3, hw3⟩ : ∃ x : World, x = wr := ⟨_, rfl⟩
    subst hw3
    clear hno hb3
    by_cases hlt : k < LS.length
    · have hlt' : (k : Int) < (LS.length : Int) := by omega
      have h0k : (0 : Int) ≤ (k : Int) := by omega
      have hne : LS ≠ [] := by intro h; rw [h] at hlt; simp at hlt
      obtain ⟨g, off, cap', hv, hcells⟩ := (HS2.out.next HB23.out).cells hne
      simp only [Value.slice.injEq] at hv
      obtain ⟨rfl, -, rfl⟩ := hv
      obtain ⟨-, c0⟩ := hcells k hlt
      obtain ⟨K, hK⟩ : ∃ x, Hid (kindP g0 f LS[k] = x) := ⟨_, Lib.hid rfl⟩
      obtain ⟨m, hm⟩ : ∃ m, Hid (LS[k] = m) := ⟨_, Lib.hid rfl⟩
      rw [hm.out] at c0
      have x0 := HX1.out.next HB3.out 0 _ rfl
      have x1 := HX1.out.next HB3.out 1 _ rfl
      have y0 := HY1.out.next HB3.out 0 _ rfl
      have y1 := HY1.out.next HB3.out 1 _ rfl
      have y2 := HY1.out.next HB3.out 2 _ rfl
      have y3 := HY1.out.next HB3.out 3 _ rfl
      have y4 := HY1.out.next HB3.out 4 _ rfl
      clear hcells hne
      go_wp2_with fail
      refine (kind_any g0 f m _ _ qa va ba fa qc vc bc fc _ (HG.out.next HBW.out) (SlAt.imp HQ.out fun _ _ _ _ => PaAt.mono (cw_next HBW.out)) (HV.out.next HBW.out)).mono ?_
      rintro e w4 ⟨rfl, hb4⟩
      rw [show kindP g0 f m = K by rw [← hK.out, hm.out]]
      have HB4 := Lib.hid (HB23.out.trans (hb4.mono HB23.out.size))
      clear hb4 x0 x1 y0 y1 y2 y3 y4 c0
      cases hk0 : (K == 0) with
      | true =>
        have hkb : KB = false := by
          rw [← hKB.out]
          unfold knownS
          rw [hLS.out, alls_no (k := k) hlt (by rw [hK.out, hk0]; rfl), Bool.false_and]
        subst hkb
        go_wp2_with fail
        go_ret
        exact ⟨rfl, HB1.out.trans ((HB2.out.trans (HB4.out.mono HB2.out.size)).mono HB1.out.size)⟩
      | false =>
        have HK0 := Lib.hid hk0
        go_wp2_with fail
        go_roundw
        case rel =>
          refine ⟨k + 1, by omega, by go_num, fun j hj hjk => ?_, HB4.out⟩
          rcases Nat.lt_or_ge j k with h | h
          · exact HNO.out j hj h
          · obtain rfl : j = k := by omega
            rw [hK.out]; exact HK0.out
        case measure => simp [intOf]; omega
    · have hlt' : ¬ (k : Int) < (LS.length : Int) := by omega
      have hall : LS.all (fun n => !(kindP g0 f n == 0)) = true := alls_yes fun j hj => by rw [HNO.out j hj (by omega)]; rfl
      have t1 := HT1.out.next HB3.out 1 _ rfl
      have t4 := HT1.out.next HB3.out 4 _ rfl
      have hkb : KB = (!(s.kind == 4) || (!(s.proc.toList == [109, 97, 105, 110]) && inB s.proc procs)) := by
        rw [← hKB.out]
        unfold knownS
        rw [hLS.out, hall, Bool.true_and, main_list]
      clear hall
      cases h4 : (s.kind == 4) with
      | false =>
        have nk : (s.kind != 4) = true := by unfold bne; rw [h4]; rfl
        have hkb' : KB = true := by rw [hkb, h4]; rfl
        clear h4 hkb
        subst hkb'
        go_wp2_with fail
        go_ret
        exact ⟨rfl, HBW.out⟩
      | true =>
        have nk : (s.kind != 4) = false := by unfold bne; rw [h4]; rfl
        rw [h4] at hkb
        clear h4
        cases hmn : (s.proc.toList == [109, 97, 105, 110]) with
        | true =>
          rw [hmn] at hkb
          have hkb' : KB = false := hkb
          clear hkb
          subst hkb'
          have nm : (s.proc.toList != [109, 97, 105, 110]) = false := by unfold bne; rw [hmn]; rfl
          go_wp2_with fail
          go_ret
          exact ⟨rfl, HBW.out⟩
        | false =>
          rw [hmn] at hkb
          have hkb' : KB = inB s.proc procs := hkb
          have nm : (s.proc.toList != [109, 97, 105, 110]) = true := by unfold bne; rw [hmn]; rfl
          clear hkb
          have HKB' := Lib.hid hkb'
          clear hkb'
          go_wp2_with fail
          refine (contains_any procs _ s.proc _ (HN.out.next HBW.out)).mono ?_
          rintro e w' ⟨rfl, rfl⟩
          rw [show (at_ s.proc procs).isSome = KB from HKB'.out.symm]
          go_wp2_with fail
          go_ret
          exact ⟨rfl, HBW.out⟩
set_option maxHeartbeats 1000000 in
theorem check1_any (g0 : List ByteArray) (gv : Value) (R : Nat) (s : ByteArray) (w : World) (hc : w.cell? ⟨R, 0, none⟩ = some gv) (hg : StrsAt w gv g0) :
    Calls Try.prog 86 #[.string s, .pointer (some ⟨R, 0, none⟩)] w fun e w' => e = .returned (.bool (inB s g0)) ∧ w = w' := by
  have HG := Lib.hid hg
  clear hg
  go_enter Try.func86, Try.ntmps86
  go_wp2_with fail
  refine (contains_any g0 _ s _ HG.out).mono ?_
  rintro e w' ⟨rfl, rfl⟩
  go_wp2_with fail
  go_ret
  exact ⟨rfl, rfl⟩
set_option maxHeartbeats 1000000 in
theorem ifunc_any (g0 ns : List ByteArray) (gv nv : Value) (R : Nat) (w : World) (hc : w.cell? ⟨R, 0, none⟩ = some gv) (hg : StrsAt w gv g0) (hn : StrsAt w nv ns) :
    Calls Try.prog 125 #[nv, .func (.func 86) #[] #[.pointer (some ⟨R, 0, none⟩)]] w fun e w' => (∃ n : Int, e = .returned (.int .i64 n) ∧ (decide (0 ≤ n) = ns.any fun n => inB n g0)) ∧ w = w' := by
  obtain ⟨a, cap, rfl, hc1, hc2⟩ := hn.form
  have HN := Lib.hid hn
  have HG := Lib.hid hg
  have HC := Lib.hid hc
  clear hn hg hc
  go_enter Try.func125, Try.ntmps125
  go_wp2_with fail
  go_loop [8] (fun i => ∃ k : Nat, k ≤ ns.length ∧ i = .int .i64 k ∧ ∀ j (hj : j < ns.length), j < k → inB ns[j] g0 = false) (fun i => (ns.length - intOf i).toNat)
  case atStart => exact ⟨0, by omega, rfl, fun j _ h => absurd h (by omega)⟩
  case round =>
    obtain ⟨k, hk, rfl, hno⟩ := hrel
    have HNO := Lib.hid hno
    clear hno
    by_cases hlt : k < ns.length
    · have hlt' : (k : Int) < (ns.length : Int) := by omega
      have h0k : (0 : Int) ≤ (k : Int) := by omega
      have hne : ns ≠ [] := by intro h; rw [h] at hlt; simp at hlt
      obtain ⟨g, off, cap', hv, hcells⟩ := HN.out.cells hne
      simp only [Value.slice.injEq] at hv
      obtain ⟨rfl, -, rfl⟩ := hv
      obtain ⟨-, c0⟩ := hcells k hlt
      clear hcells hne
      obtain ⟨b, hb⟩ : ∃ b, Hid (inB ns[k] g0 = b) := ⟨_, Lib.hid rfl⟩
      obtain ⟨m, hm⟩ : ∃ m, Hid (ns[k] = m) := ⟨_, Lib.hid rfl⟩
      rw [hm.out] at c0
      go_wp2_with fail
      refine (check1_any g0 _ R m _ HC.out HG.out).mono ?_
      rintro e w' ⟨rfl, rfl⟩
      rw [show inB m g0 = b by rw [← hb.out, hm.out]]
      cases b with
      | true =>
        go_wp2_with fail
        go_ret
        refine ⟨⟨k, rfl, ?_⟩, rfl⟩
        rw [decide_eq_true h0k]
        exact (List.any_eq_true.2 ⟨ns[k], List.getElem_mem hlt, hb.out⟩).symm
      | false =>
        go_wp2_with fail
        go_round
        case rel =>
          refine ⟨k + 1, by omega, by go_num, fun j hj hjk => ?_⟩
          rcases Nat.lt_or_ge j k with h | h
          · exact HNO.out j hj h
          · obtain rfl : j = k := by omega
            exact hb.out
        case measure => simp [intOf]; omega
    · have hlt' : ¬ (k : Int) < (ns.length : Int) := by omega
      go_wp2_with fail
      go_ret
      refine ⟨⟨-1, rfl, ?_⟩, rfl⟩
      have : (ns.any fun n => inB n g0) = false := by
        rw [List.any_eq_false]
        intro x hx
        obtain ⟨j, hj, rfl⟩ := List.getElem_of_mem hx
        rw [HNO.out j hj (by omega)]
        exact Bool.false_ne_true
      rw [this]
      rfl
set_option maxHeartbeats 1000000 in
theorem cfunc_any (g0 ns : List ByteArray) (gv nv : Value) (R : Nat) (w : World) (hc : w.cell? ⟨R, 0, none⟩ = some gv) (hg : StrsAt w gv g0) (hn : StrsAt w nv ns) :
    Calls Try.prog 85 #[nv, .func (.func 86) #[] #[.pointer (some ⟨R, 0, none⟩)]] w fun e w' => e = .returned (.bool (ns.any fun n => inB n g0)) ∧ w = w' := by
  have HN := Lib.hid hn
  have HG := Lib.hid hg
  have HC := Lib.hid hc
  clear hn hg hc
  go_enter Try.func85, Try.ntmps85
  go_wp2_with fail
  refine (ifunc_any g0 ns _ _ R _ HC.out HG.out HN.out).mono ?_
  rintro e w' ⟨⟨n, rfl, hd⟩, rfl⟩
  have HD := Lib.hid hd
  clear hd
  go_wp2_with fail
  go_ret
  exact ⟨by rw [← HD.out]; rfl, rfl⟩
end Go.Proofs.Ytghlmengcidmdaa.Tr
