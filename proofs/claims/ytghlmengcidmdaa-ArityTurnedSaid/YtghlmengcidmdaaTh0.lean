/- Parts of ArityTurnedW: walks and plain laws that later texts use. Conditions: as each statement says. -/
import Derived.Test.YtghlmengcidmdaaTa0
import Derived.Test.YtghlmengcidmdaaTa1
import Derived.Test.YtghlmengcidmdaaTa10
import Derived.Test.YtghlmengcidmdaaTa11
import Derived.Test.YtghlmengcidmdaaTa12
import Derived.Test.YtghlmengcidmdaaTa13
import Derived.Test.YtghlmengcidmdaaTa14
import Derived.Test.YtghlmengcidmdaaTa15
import Derived.Test.YtghlmengcidmdaaTa16
import Derived.Test.YtghlmengcidmdaaTa17
import Derived.Test.YtghlmengcidmdaaTa18
import Derived.Test.YtghlmengcidmdaaTa19
import Derived.Test.YtghlmengcidmdaaTa2
import Derived.Test.YtghlmengcidmdaaTa20
import Derived.Test.YtghlmengcidmdaaTa3
import Derived.Test.YtghlmengcidmdaaTa4
import Derived.Test.YtghlmengcidmdaaTa5
import Derived.Test.YtghlmengcidmdaaTa6
import Derived.Test.YtghlmengcidmdaaTa7
import Derived.Test.YtghlmengcidmdaaTa8
import Derived.Test.YtghlmengcidmdaaTa9
import Derived.Deep.Slices
import Derived.Deep.Fields
import Derived.Lib.SmallJoins
import Derived.SliceStrings
import Derived.ChangeSlices
import Derived.IntWalk
import Derived.Deep.RegionHeld3
import Derived.Deep.DeepCutAuto
import Derived.Deep.CutBlock
import Derived.OwnWalk
import Derived.OneCell
import Derived.Deep.AppendLies
import Derived.Deep.RegionLaw
import Derived.Laws.StructEq
import Derived.Maps.Range
import Derived.Outline
import Derived.Deep.Upon
import Derived.Maps.AppendAt
import Derived.Laws.OwnMore
import Derived.Deep.QuietTactic
import Derived.BigQuiet
import Derived.WalkKit
import Derived.Test.YtghlmengcidmdaaRows
import Derived.WalkSpells
import Derived.Lib.Hide
import Derived.Below
import Derived.Laws.BitsAllLaws
import Derived.Deep.RegionWith
import Derived.Laws.Cover3
import Derived.OrdersHeld
import Derived.RegionTactic
import Derived.Deep.MidRow
import Derived.WalkSmall
import Derived.StillTailTactics
/- The law ArityTurned, walked: it returns true. Conditions: the arguments lie in memory. -/
namespace Go.Proofs.Ytghlmengcidmdaa.Tr
open Go.RowKit Go.Proofs.Ytghlmengcidmdaa.Lx Go.Proofs.Ytghlmengcidmdaa.Wd
set_option linter.unusedSimpArgs false
theorem vars_room6 {p : Pr} (h : RoomP p) (s : ByteArray) : (varsIn p s).length ≤ 600000 := by
  unfold varsIn
  cases hp : pcIn p s with
  | none => simp
  | some f =>
    have hm : f ∈ p.procs := by
      unfold pcIn at hp
      split at hp
      · exact List.mem_of_find?_eq_some hp
      · cases hp
    have h1 := h.own f hm
    have h2 := h.glob
    simp only [ownNs, List.length_append, List.length_map]
    omega
theorem run_to6 (T e : TypeId) (hT : Try.prog.underlying T = some (.slice e)) (sz : Nat) (hs : ∀ w, (sizeOf e).run Try.prog w = .ok sz w) (a : Option Addr) (n cap k : Nat) (z : Int) (hz : z = k) (hk : k ≤ cap) (_hc : cap ≤ 9223372036854775807) (w : World) :
    (Instr.slice T (.slice a n cap) none (some (.int .i64 z)) none).run Try.prog w = .ok (.slice a k cap) w := by
  subst hz
  cases a with
  | none => simp [go_sem, hT, hs, hk]
  | some a => simp [go_sem, hT, hs, hk]
theorem run_from6 (T e : TypeId) (hT : Try.prog.underlying T = some (.slice e)) (sz : Nat) (hs : ∀ w, (sizeOf e).run Try.prog w = .ok sz w) (a : Option Addr) (n cap k : Nat) (z : Int) (hz : z = k) (hk : k ≤ n) (hn : n ≤ cap) (_hc : cap ≤ 9223372036854775807) (w : World) :
    (Instr.slice T (.slice a n cap) (some (.int .i64 z)) none none).run Try.prog w = .ok (.slice (if cap = k then a else a.map fun q => q.add (k * sz)) (n - k) (cap - k)) w := by
  subst hz
  by_cases h : cap = k
  · rw [if_pos h]
    subst h
    have : n = cap := by omega
    subst this
    cases a with
    | none => simp [go_sem, hT, hs]
    | some a => simp [go_sem, hT, hs]
  · rw [if_neg h]
    cases a with
    | none => simp [go_sem, hT, hs, hk, hn]
    | some a => simp [go_sem, hT, hs, hk, hn, h]
theorem ref_q {d : Nat} {C : Cs} {l0 : ByteArray} (h : l0.size ≤ 9223372036854775807) : ArQ (d + 1) C [.bool true, .string l0, .int .i64 0, .int .i64 0, .string ⟨#[]⟩, .slice none 0 0] (refA l0) := ⟨_, rfl, h, zOk, ExC.none _ _⟩
theorem val_q {d : Nat} {C : Cs} {s : ByteArray} (h : s.size ≤ 9223372036854775807) : ArQ (d + 1) C [.bool false, .string ⟨#[]⟩, .int .i64 2, .int .i64 0, .string s, .slice none 0 0] (valA s) := ⟨_, rfl, (by decide : (⟨#[]⟩ : ByteArray).size ≤ 9223372036854775807), ⟨⟨(by decide : (-9223372036854775808 : Int) ≤ 2), (by decide : (2 : Int) ≤ 9223372036854775807)⟩, inI0, h⟩, ExC.none _ _⟩
theorem turnA_0 {l0 : ByteArray} {m : Int} {q : Nat} {args : List Ar} (h : args.length = 0 ∨ m = 0) : turnA l0 m q args = args ++ [refA l0] := by unfold turnA; rw [if_pos h]
theorem turnA_1 {l0 : ByteArray} {q : Nat} {args : List Ar} (h : args.length ≠ 0) : turnA l0 1 q args = args.take q ++ args.drop (q + 1) := by unfold turnA; rw [if_neg (by omega), if_pos rfl]
theorem turnA_2 {l0 : ByteArray} {m : Int} {q : Nat} {args : List Ar} (_h : args.length ≠ 0) (_h0 : m ≠ 0) (h1 : m ≠ 1) (hq : q < args.length) (hr : args[q].ref = true) : turnA l0 m q args = args.set q (valA args[q].nm) := by
  unfold turnA
  rw [if_neg (by omega), if_neg h1, List.getElem?_eq_getElem hq]
  simp only
  rw [if_pos hr]
theorem turnA_3 {l0 : ByteArray} {m : Int} {q : Nat} {args : List Ar} (_h : args.length ≠ 0) (_h0 : m ≠ 0) (h1 : m ≠ 1) (hq : q < args.length) (hr : args[q].ref = false) : turnA l0 m q args = args.set q (refA l0) := by
  unfold turnA
  rw [if_neg (by omega), if_neg h1, List.getElem?_eq_getElem hq]
  simp only
  rw [if_neg (by rw [hr]; exact Bool.false_ne_true)]
theorem put6_any (D : Nat) (s : St) (TA : List Ar) (hok : OkE s.x) (h1 : InI s.id) (h2 : InI s.kind) (h3 : s.nm.size ≤ 9223372036854775807) (h4 : s.proc.size ≤ 9223372036854775807) (hl : LightS (setArgs s TA)) (la ka va ta ea : Option Addr) (lc kc vc tc ec : Nat)
    (d : Nat) (p : Pr) (gv pv : Value) (w : World) (hp : PrC (cw w) d gv pv p) (hwp : wtPr p ≤ 20000) (hh : Hang D w (setArgs s TA) (.slice la s.labels.length lc) (.slice ka s.x.ks.length kc) (.slice va TA.length vc) (.slice ta s.thn.length tc) (.slice ea s.els.length ec)) :
    Calls Try.prog 29 #[.agg #[gv, pv], .agg #[.int .i64 s.id, .int .i64 s.kind, .slice la s.labels.length lc, .string s.nm, .string s.proc, .int .i64 s.x.op, .int .i64 s.x.n, .string s.x.nm, .slice ka s.x.ks.length kc, .bool s.has, .slice va TA.length vc, .slice ta s.thn.length tc, .slice ea s.els.length ec]] w (ProgMade (d + D) (putPr (setArgs s TA) p) w) := putP_any D (setArgs s TA) hok h1 h2 h3 h4 hl ka la va ta ea kc lc vc tc ec d p gv pv w hp hwp hh
set_option maxHeartbeats 8000000 in
set_option maxRecDepth 100000 in
theorem law_arityTurned {w : World} (d : Nat) (p : Pr) (gv pv : Value) (hp : PrC (cw w) d gv pv p) (n : Int) (hn0 : (Lit.int .i64 n).wf = true) (k : Int) (hk0 : (Lit.int .i64 k).wf = true) (i : Int) (hi0 : (Lit.int .i64 i).wf = true) :
    Calls Try.prog 4 #[.agg #[gv, pv], .int .i64 n, .int .i64 k, .int .i64 i] w fun e w' => e = .returned (.bool true) ∧ Below w.heap.size w w' := by
  obtain ⟨ga, gc, rfl, -, -⟩ := hp.1.form
  obtain ⟨pa, pc, rfl, hpl1, hpl2⟩ := hp.2.form
  have hpl : p.procs.length ≤ 9223372036854775807 := Nat.le_trans hpl1 hpl2
  have HP := Lib.hid hp
  clear hp hpl1 hpl2
  have hn : InI n := wf_in hn0
  have HKI := Lib.hid (wf_in hk0)
  have HII := Lib.hid (wf_in hi0)
  clear hn0 hk0 hi0
  obtain ⟨iA, hiA, hzA0, hzA1, hzA2⟩ := info_parts infoAr
  go_enter Try.func4, Try.ntmps4
  go_upto_region 1 with fail
  refine cut_world (fun wx => Below w.heap.size w wx ∧ BoxAt wx w.heap.size [.slice ga p.globals.length gc, .slice pa p.procs.length pc]) ⟨boxed _ _, box_new w #[.slice ga p.globals.length gc, .slice pa p.procs.length pc] 25⟩ ?_
  rintro w1 ⟨hb1, hx1⟩
  have HB1 := Lib.hid hb1
  have HX1 := Lib.hid hx1
  have HP1 := Lib.hid (PrC.mono (cw_next hb1) HP.out)
  clear hb1 hx1
  have p0 := HX1.out 0 _ rfl
  have p1 := HX1.out 1 _ rfl
  go_wp2_with fail
  refine (fitting_any _).mono ?_
  rintro e w2 ⟨rfl, hb2⟩
  have HX2 := Lib.hid (HX1.out.next hb2)
  have HP2 := Lib.hid (PrC.mono (cw_next hb2) HP1.out)
  have HB2 := Lib.hid (HB1.out.trans (hb2.mono HB1.out.size))
  clear hb2
  clear p0 p1
  have p0 := HX2.out 0 _ rfl
  have p1 := HX2.out 1 _ rfl
  go_wp2_with fail
  refine (fits_any d p _ _ _ HP2.out).mono ?_
  rintro e w3 ⟨b1, hf1, rfl, hb3⟩
  have HF1 := Lib.hid hf1
  clear hf1
  have HX3 := Lib.hid (HX2.out.next hb3)
  have HP3 := Lib.hid (PrC.mono (cw_next hb3) HP2.out)
  have HB3 := Lib.hid (HB2.out.trans (hb3.mono HB2.out.size))
  clear hb3
  clear p0 p1
  cases b1 with
  | false =>
    have p0 := HX3.out 0 _ rfl
    have p1 := HX3.out 1 _ rfl
    go_wp2_with fail
    go_ret
    exact ⟨rfl, HB3.out⟩
  | true =>
    have HWP := Lib.hid (HF1.out (by simp))
    have HROOM := Lib.hid (RoomP.of (Nat.le_trans HWP.out (by decide)))
    clear HF1
    have p0 := HX3.out 0 _ rfl
    have p1 := HX3.out 1 _ rfl
    go_wp2_with fail
    refine (scheckA_any d p _ _ _ HP3.out HROOM.out).mono ?_
    rintro e w4 ⟨rfl, hb4⟩
    obtain ⟨SC, hSC⟩ : ∃ r, Hid ((arityP p).1 = r) := ⟨_, Lib.hid rfl⟩
    obtain ⟨SI, hSI⟩ : ∃ r, Hid ((arityP p).2 = r) := ⟨_, Lib.hid rfl⟩
    rw [hSC.out, hSI.out]
    have HX4 := Lib.hid (HX3.out.next hb4)
    have HP4 := Lib.hid (PrC.mono (cw_next hb4) HP3.out)
    have HB4 := Lib.hid (HB3.out.trans (hb4.mono HB3.out.size))
    clear hb4
    clear p0 p1
    have hfd := run_code SC SI
    by_cases hz : SC = 0
    · have hz1 : (SC == 0) = true := by simpa using hz
      have HWELL := Lib.hid (hSC.out.trans hz)
      have HMAY := Lib.hid (scope_code (arity_code HWELL.out).1).1
      have HP4 := Lib.hid (PrC.le6 (show d ≤ d + 1 by omega) HP4.out)
      clear hz
      go_upto_region 7 with fail
      clear hfd hz1
      have p0 := HX4.out 0 _ rfl
      have p1 := HX4.out 1 _ rfl
      go_wp2_with fail
      refine (ids_any (d + 1) p _ _ 4 _ HP4.out).mono ?_
      rintro e w5 ⟨v5, rfl, hr5, hb5⟩
      have HR5 := Lib.hid hr5
      have hlen : (idsP p 4).length ≤ 1000000 := Nat.le_trans (idsK_len _ _) (Nat.le_trans (allOf_len p) (by omega))
      clear hr5
      have HX5 := Lib.hid (HX4.out.next hb5)
      have HP5 := Lib.hid (PrC.mono (cw_next hb5) HP4.out)
      have HB5 := Lib.hid (HB4.out.trans (hb5.mono HB4.out.size))
      clear hb5
      clear p0 p1
      go_wp2_with fail
      refine (pick_any _ (idsP p 4) _ n _ HR5.out hn.1 hn.2 hlen).mono ?_
      rintro e w6 ⟨rfl, hb6⟩
      obtain ⟨ID, hID⟩ : ∃ k, Hid (pickP (idsP p 4) n = k) := ⟨_, Lib.hid rfl⟩
      rw [hID.out]
      have HX6 := Lib.hid (HX5.out.next hb6)
      have HP6 := Lib.hid (PrC.mono (cw_next hb6) HP5.out)
      have HB6 := Lib.hid (HB5.out.trans (hb6.mono HB5.out.size))
      clear hb6 hlen
      go_upto_region 8 with fail
      have hq : Below w6.heap.size w6 w6.drew := (Below.refl _ _).drew
      obtain ⟨NM, hNM⟩ : ∃ k, Hid (nm6 p ID = k) := ⟨_, Lib.hid rfl⟩
      obtain ⟨VL, hVL⟩ : ∃ k, Hid (varsIn p NM = k) := ⟨_, Lib.hid rfl⟩
      refine wp_region_z (fun w' => BoxAt w' w.heap.size [.slice ga p.globals.length gc, .slice pa p.procs.length pc]) 5 (by kernel_rfl) (HX6.out.next hq) (fun hS => ?_)
      show wpAnyZ _ _ _ _ _ _ 6 #[false, false, false, false, false, false] _ _
      refine' wpAnyZ_take (i := 0) (oi := _) (v := _) rfl (by kernel_rfl) (by kernel_rfl) (by kernel_rfl) (by kernel_rfl) (fun _ _ _ h => h) (Or.inl ⟨by rfl, ?hyb0⟩) hS ?restb0
      case hyb0 => (intro w hSw; have c0 := hSw 0 _ rfl; have c1 := hSw 1 _ rfl; clear hSw; go_simp; (try with_reducible rfl))
      try simp only [Act.put, List.getElem_toArray, List.getElem_cons_succ, List.getElem_cons_zero, List.setIfInBounds_toArray, List.set_cons_zero, List.set_cons_succ]
      refine' wpAnyZ_take (i := 1) (oi := _) (v := _) rfl (by kernel_rfl) (by kernel_rfl) (by kernel_rfl) (by kernel_rfl) (fun _ _ _ h => h) (Or.inl ⟨by rfl, ?hyb1⟩) hS ?restb1
      case hyb1 => (intro w hSw; have c0 := hSw 0 _ rfl; have c1 := hSw 1 _ rfl; clear hSw; go_simp; (try with_reducible rfl))
      try simp only [Act.put, List.getElem_toArray, List.getElem_cons_succ, List.getElem_cons_zero, List.setIfInBounds_toArray, List.set_cons_zero, List.set_cons_succ]
      refine' wpAnyZ_take (i := 2) (oi := _) (v := _) rfl (by kernel_rfl) (by kernel_rfl) (by kernel_rfl) (by kernel_rfl) (fun _ _ _ h => h) (Or.inl ⟨by rfl, ?hyb2⟩) hS ?restb2
      case hyb2 => (intro w hSw; clear hSw; go_simp; (try with_reducible rfl))
      try simp only [Act.put, List.getElem_toArray, List.getElem_cons_succ, List.getElem_cons_zero, List.setIfInBounds_toArray, List.set_cons_zero, List.set_cons_succ]
      refine' wpAnyZ_step (i := 3) (o := _) rfl (by kernel_rfl) (fun K hK => ?_)
      go_simp
      go_at_call 27
      refine (procOf6_any d p _ _ ID _ (PrC.mono (cw_next hq) HP6.out)).mono ?_
      rintro e w7 ⟨rfl, hb7⟩
      rw [hNM.out]
      have L7 := Lib.hid (below_then hb7 hq)
      clear hb7
      refine hK _ _ (fun _ => HX6.out.next L7.out) ?_
      clear hK K
      try simp only [Act.put, List.getElem_toArray, List.getElem_cons_succ, List.getElem_cons_zero, List.setIfInBounds_toArray, List.set_cons_zero, List.set_cons_succ]
      refine' wpAnyZ_step (i := 4) (o := _) rfl (by kernel_rfl) (fun K hK => ?_)
      go_simp
      go_at_call 26
      refine (svars_any (d + 1) p _ _ NM _ (PrC.mono (cw_next L7.out) HP6.out) HROOM.out).mono ?_
      rintro e w8 ⟨v8, rfl, hr8, hb8⟩
      rw [hVL.out] at hr8
      have L8 := Lib.hid (L7.out.trans (hb8.mono L7.out.size))
      have hvl : VL.length ≤ 600000 := by rw [← hVL.out]; exact vars_room6 HROOM.out NM
      obtain ⟨va8, vc8, rfl⟩ := ownsForm hr8.1
      have HS8 := Lib.hid (hr8.strs (by omega))
      clear hb8 hr8
      refine hK _ _ (fun _ => HX6.out.next L8.out) ?_
      clear hK K
      try simp only [Act.put, List.getElem_toArray, List.getElem_cons_succ, List.getElem_cons_zero, List.setIfInBounds_toArray, List.set_cons_zero, List.set_cons_succ]
      refine' wpAnyZ_step (i := 5) (o := _) rfl (by kernel_rfl) (fun K hK => ?_)
      go_simp
      refine hK _ _ (fun h => absurd rfl h) ?_
      clear hK K
      try simp only [Act.put, List.getElem_toArray, List.getElem_cons_succ, List.getElem_cons_zero, List.setIfInBounds_toArray, List.set_cons_zero, List.set_cons_succ]
      refine wpAnyZ_done (by kernel_rfl) ?_ _
      have HX8 := Lib.hid (HX6.out.next L8.out)
      have HP8 := Lib.hid (PrC.mono (cw_next L8.out) HP6.out)
      have HB8 := Lib.hid (HB6.out.trans (L8.out.mono HB6.out.size))
      clear hS hq
      by_cases hz : ID = 0
      · have hz1 : (ID == 0) = true := by simpa using hz
        clear hz
        go_wp2_with fail
        go_ret
        exact ⟨rfl, HB8.out⟩
      · have hz1 : (ID == 0) = false := by simpa using hz
        by_cases hvz : VL.length = 0
        · have hv1 : ((VL.length : Int) == 0) = true := by rw [hvz]; rfl
          have HVZ := Lib.hid hvz
          clear hz hvz
          go_wp2_with fail
          go_ret
          exact ⟨rfl, HB8.out⟩
        · have hv1 : ((VL.length : Int) == 0) = false := by simpa using hvz
          obtain ⟨s, kp, hpk, hkd⟩ := picked HMAY.out (kind := 4) (n := n) (by rw [hID.out]; exact hz)
          rw [hID.out] at hpk
          have hne : VL ≠ [] := by intro h; rw [h] at hvz; exact hvz rfl
          obtain ⟨gs, os, caps, hvs, hcs⟩ := HS8.out.cells hne
          simp only [Value.slice.injEq] at hvs
          obtain ⟨rfl, -, rfl⟩ := hvs
          have hv0 : 0 < VL.length := by omega
          obtain ⟨hl0s, hl0c⟩ : (VL[0]'hv0).size ≤ 9223372036854775807 ∧ w8.cell? ⟨gs, os, none⟩ = some (.string (VL[0]'hv0)) := by
            obtain ⟨h1, h2⟩ := hcs 0 hv0
            exact ⟨h1, h2⟩
          have hl0m : (VL[0]'hv0) ∈ varsIn p (p.procs[kp]'hpk.lt).nm := by
            have h1 := hpk.it.2
            rw [hNM.out] at h1
            rw [← h1, hVL.out]
            exact List.getElem_mem _
          obtain ⟨l0, hl0⟩ : ∃ x, Hid (VL[0]'hv0 = x) := ⟨_, Lib.hid rfl⟩
          rw [hl0.out] at hl0s hl0c hl0m
          have HL0C := Lib.hid hl0c
          have HL0S := Lib.hid hl0s
          have HPK := Lib.hid hpk
          have HKD := Lib.hid hkd
          have HL0M : Hid (l0 ∈ varsIn p (p.procs[kp]'HPK.out.lt).nm) := Lib.hid hl0m
          clear hz hvz hpk hkd hne hcs hl0s hl0c hl0m
          have p0 := HX8.out 0 _ rfl
          have p1 := HX8.out 1 _ rfl
          go_wp2_with fail
          refine (stmt6_any d p _ _ ID _ HP8.out).mono ?_
          rintro e w9 ⟨la, ka, aa, ta, ea, lc, kc, ac, tc, ec, rfl, hh9, hok9, i1, i2, i3, i4, hb9⟩
          rw [HPK.out.it.1] at hh9 hok9 i1 i2 i3 i4
          rw [HPK.out.it.1]
          have HH9 := Lib.hid hh9
          have HOK := Lib.hid hok9
          have HJ := Lib.hid (And.intro i1 (And.intro i2 (And.intro i3 i4)))
          have HL9 := Lib.hid (cell_next hb9 HL0C.out)
          clear hh9 hok9 i1 i2 i3 i4
          have HX9 := Lib.hid (HX8.out.next hb9)
          have HP9 := Lib.hid (PrC.mono (cw_next hb9) HP8.out)
          have HB9 := Lib.hid (HB8.out.trans (hb9.mono HB8.out.size))
          clear hb9
          clear p0 p1
          go_upto_region 12 with fail
          refine cut_world (fun wx => Below w9.heap.size w9 wx ∧ BoxAt wx w9.heap.size [.int .i64 s.id, .int .i64 s.kind, .slice la s.labels.length lc, .string s.nm, .string s.proc, .int .i64 s.x.op, .int .i64 s.x.n, .string s.x.nm, .slice ka s.x.ks.length kc, .bool s.has, .slice aa s.args.length ac, .slice ta s.thn.length tc, .slice ea s.els.length ec] ∧ Free wx w9.heap.size) ⟨boxed w9 _, box_new w9 #[.int .i64 s.id, .int .i64 s.kind, .slice la s.labels.length lc, .string s.nm, .string s.proc, .int .i64 s.x.op, .int .i64 s.x.n, .string s.x.nm, .slice ka s.x.ks.length kc, .bool s.has, .slice aa s.args.length ac, .slice ta s.thn.length tc, .slice ea s.els.length ec] 41, fun j => by simp [go_sem]⟩ ?_
          rintro wa ⟨hba, hta, hfa⟩
          obtain ⟨SB, hSB⟩ : ∃ b, Hid (w9.heap.size = b) := ⟨_, Lib.hid rfl⟩
          rw [hSB.out] at hta hfa
          try rw [hSB.out]
          have hsw : w.heap.size < SB := by rw [← hSB.out]; exact (cell_lt (HX9.out 0 _ rfl))
          have hsa : SB < wa.heap.size := cell_lt (hta 0 _ rfl)
          have HTA := Lib.hid hta
          have HFA := Lib.hid hfa
          have HB9A := Lib.hid hba
          have HLA := Lib.hid (cell_next hba HL9.out)
          have HXA := Lib.hid (HX9.out.next hba)
          have HPA := Lib.hid (PrC.mono (cw_next hba) HP9.out)
          have HBA := Lib.hid (HB9.out.trans (hba.mono HB9.out.size))
          clear hba hta hfa
          have hwt := picked_wt HWP.out HPK.out
          have hargs : s.args.length ≤ 20000 := by have := wtAr_len s.args; rw [wtS_eq] at hwt; omega
          obtain ⟨-, haa0, news, hnl, hnq, hnc, hn1, hnf⟩ := ars_news (B := SB) (w := wa.alloc (.cells #[] 49)) (SlAt.imp HH9.out.arg fun _ _ _ _ => ArAt.mono (Cs.le_trans (by rw [← hSB.out]; exact low_all) (Cs.le_trans (low_next HB9A.out) (low_next (boxed wa (.cells #[] 49))))))
          have HNQ := Lib.hid hnq
          have t10 := HTA.out 10 _ rfl
          go_wp2_with (at_builtin; refine wpList_append_sl _ rfl (.tmp 41) (.tmp 43) 38 rfl wa.heap.size 49 iA (.agg #[.bool false, .string ⟨#[]⟩, .int .i64 0, .int .i64 0, .string ⟨#[]⟩, .slice none 0 0]) 6 80 Try.underlying38 hiA hzA0 hzA1 hzA2 rfl (by decide) _ 0 [] rfl (RowA.lit (K := SB) (d := d + 1) (Nat.le_refl _)).own aa s.args.length ac news.flatten rfl haa0 hnf hnc hn1 (by unfold maxLen; omega) (by omega) (by simp) ?_)
          intro v10 wb hown10 hg10 hat10
          have hra := RowA.app (m := s.args) (v4 := v10) (RowA.lit (B := wa.heap.size) (K := SB) (d := d + 1) (w := wa) (Nat.le_refl _)) (Below.refl _ _) hg10 (Nat.le_of_lt hsa) hnl HNQ.out (by simpa using hown10)
          have HBB := Lib.hid ((boxed wa (.cells #[] 49)).grown hg10 (boxed wa (.cells #[] 49)).size (fun q hq => ((RowA.lit (B := wa.heap.size) (K := SB) (d := d + 1) (w := wa) (Nat.le_refl _)).own.lt q hq).1))
          obtain ⟨rows, hrows⟩ : ∃ x, Hid (news = x) := ⟨_, Lib.hid rfl⟩
          rw [hrows.out] at hra
          have hra2 : RowA wa.heap.size SB (d + 1) wb v10 s.args rows := hra
          obtain ⟨ra, rc, rfl⟩ := ownsForm hra2.own
          have HRA := Lib.hid hra2
          clear hown10 hg10 hat10 hra hra2 hnl hnq hnc hn1 hnf haa0 t10
          try simp only [List.length_nil, Nat.zero_add]
          go_upto_region 13 with fail
          have HLB := Lib.hid (cell_next HBB.out HLA.out)
          have HWT := Lib.hid hwt
          clear hwt
          obtain ⟨q, hq1, hq2, hq3⟩ : ∃ q : Nat, (s.args.length = 0 ∨ q < s.args.length) ∧ ((1 : Int) < (s.args.length : Int) → i % (s.args.length : Int) = (q : Int)) ∧ (¬ (1 : Int) < (s.args.length : Int) → i % 1 = (q : Int)) := by
            rcases Nat.lt_or_ge 1 s.args.length with h1 | h1
            · exact ⟨(i % (s.args.length : Int)).toNat, .inr (mod_at (by omega)).1, fun _ => (mod_at (by omega)).2, fun h => absurd (by omega) h⟩
            · exact ⟨0, by omega, fun h => absurd h (by omega), fun _ => by omega⟩
          have HQ1 := Lib.hid hq1
          have HQ2 := Lib.hid hq2
          have HQ3 := Lib.hid hq3
          clear hq1 hq2 hq3
          go_cut [3] (fun v wx => v = .int .i64 q ∧ wb = wx)
          case first =>
            by_cases h1 : (1 : Int) < (s.args.length : Int)
            · have hmi := HQ2.out h1
              have hk1 : (1 : Int) ≤ (s.args.length : Int) := by omega
              have hk2 : (s.args.length : Int) ≤ 1000000 := by omega
              have HM := Lib.hid (fun w => mod_any i (s.args.length : Int) (q : Int) w HII.out.1 HII.out.2 hk1 hk2 hmi)
              clear hmi hk1 hk2
              go_wp2_with fail
              refine (HM.out _).mono ?_
              rintro e w' ⟨rfl, rfl⟩
              go_wp2_with fail
              go_meet
              exact ⟨rfl, rfl⟩
            · have hmi := HQ3.out h1
              have HM := Lib.hid (fun w => mod_any i 1 (q : Int) w HII.out.1 HII.out.2 (by omega) (by omega) hmi)
              clear hmi
              go_wp2_with fail
              refine (HM.out _).mono ?_
              rintro e w' ⟨rfl, rfl⟩
              go_wp2_with fail
              go_meet
              exact ⟨rfl, rfl⟩
          case rest =>
            obtain ⟨hc1, hc2⟩ := hcut
            subst hc1 hc2
            obtain ⟨K3, hK3⟩ : ∃ r, Hid (k % 3 = r) := ⟨_, Lib.hid rfl⟩
            have hk30 : 0 ≤ K3 := by rw [← hK3.out]; omega
            have hk33 : K3 < 3 := by rw [← hK3.out]; omega
            have HM := Lib.hid (fun w => mod_any k 3 K3 w HKI.out.1 HKI.out.2 (by omega) (by omega) hK3.out)
            obtain ⟨TA, hTA⟩ : ∃ r, Hid (turnA l0 K3 q s.args = r) := ⟨_, Lib.hid rfl⟩
            go_upto_block 0 with fail
            go_cut [12] (fun v wx => ∃ va vc, v = .slice va TA.length vc ∧ SlAt 6 (ArAt (gapC SB wa.heap.size wx) (d + 1)) (.slice va TA.length vc) TA ∧ Below wa.heap.size wa wx)
            case first =>
              have hBB := HBB.out.size
              by_cases hA0 : s.args.length = 0
              · have ha1 : ((s.args.length : Int) == 0) = true := by rw [hA0]; rfl
                have HTQ := Lib.hid (show TA = s.args ++ [refA l0] by rw [← hTA.out]; exact turnA_0 (.inl hA0))
                have HA0 := Lib.hid hA0
                clear hA0
                have l0c := HLB.out
                have HC1 : Hid (∀ (j : Nat) u, ([.bool true, .string l0, .int .i64 0, .int .i64 0, .string ⟨#[]⟩, .slice none 0 0] : List Value)[j]? = some u → (wb.alloc (.cells #[.bool true, .string l0, .int .i64 0, .int .i64 0, .string ⟨#[]⟩, .slice none 0 0] 49)).cell? ((⟨wb.heap.size, 0, none⟩ : Addr).add j) = some u) := Lib.hid (fun j u hu => by rw [Addr.add_lit, Nat.zero_add]; exact box_new wb #[.bool true, .string l0, .int .i64 0, .int .i64 0, .string ⟨#[]⟩, .slice none 0 0] 49 j u hu)
                have HC2 : Hid (∀ u ∈ ([.bool true, .string l0, .int .i64 0, .int .i64 0, .string ⟨#[]⟩, .slice none 0 0] : List Value), u.oneCell' = true) := Lib.hid (ar_cells (ref_q (d := d) (C := cw wb) HL0S.out) (fun _ _ => exC_one))
                go_wp2_with (at_builtin; refine wpList_append_lies _ rfl (.tmp 66) (.tmp 71) 38 rfl wa.heap.size 49 iA (.agg #[.bool false, .string ⟨#[]⟩, .int .i64 0, .int .i64 0, .string ⟨#[]⟩, .slice none 0 0]) 6 80 Try.underlying38 hiA hzA0 hzA1 hzA2 rfl (by decide) _ _ _ rfl (HRA.out.next (boxed _ _)).own ⟨_, 0, none⟩ 1 1 [.bool true, .string l0, .int .i64 0, .int .i64 0, .string ⟨#[]⟩, .slice none 0 0] rfl rfl (HC1.out) (HC2.out) (by decide) (by unfold maxLen; omega) (by omega) (by first | omega | (rw [World.size_alloc]; omega)) _ rfl ?_)
                intro g4 cap4 w4 hown4 hg4 hat4 hlt4
                have hr4 := RowA.app (m := [refA l0]) (news := [[.bool true, .string l0, .int .i64 0, .int .i64 0, .string ⟨#[]⟩, .slice none 0 0]]) (HRA.out.next (boxed wb _)) (Below.refl _ _) hg4 (Nat.le_of_lt hsa) rfl (fun j h h' => by
                  match j, h with
                  | 0, _ => exact ref_q HL0S.out) (by simpa using hown4)
                have hb4 : Below wa.heap.size wa w4 := (HBB.out.trans ((boxed wb _).mono HBB.out.size)).grown hg4 (by rw [World.size_alloc]; omega) (fun q hq => (HRA.out.own.lt q hq).1)
                have HR4 := Lib.hid hr4.sl
                have HB4 := Lib.hid hb4
                clear hown4 hg4 hat4 hlt4 hr4 hb4 l0c
                go_wp2_with fail
                go_meet
                refine ⟨some ⟨g4, 0, none⟩, cap4, ?_, ?_, HB4.out⟩
                · rw [HTQ.out, List.length_append, List.length_singleton]
                · rw [HTQ.out, List.length_append, List.length_singleton]; exact HR4.out
              · have ha1 : ((s.args.length : Int) == 0) = false := by simpa using hA0
                have HA0 := Lib.hid hA0
                by_cases hk0 : K3 = 0
                · have hk1 : (K3 == 0) = true := by simpa using hk0
                  have HTQ := Lib.hid (show TA = s.args ++ [refA l0] by rw [← hTA.out]; exact turnA_0 (.inr hk0))
                  clear hA0 hk0
                  go_wp2_with fail
                  refine (HM.out _).mono ?_
                  rintro e w' ⟨rfl, rfl⟩
                  have l0c := HLB.out
                  have HC1 : Hid (∀ (j : Nat) u, ([.bool true, .string l0, .int .i64 0, .int .i64 0, .string ⟨#[]⟩, .slice none 0 0] : List Value)[j]? = some u → (wb.alloc (.cells #[.bool true, .string l0, .int .i64 0, .int .i64 0, .string ⟨#[]⟩, .slice none 0 0] 49)).cell? ((⟨wb.heap.size, 0, none⟩ : Addr).add j) = some u) := Lib.hid (fun j u hu => by rw [Addr.add_lit, Nat.zero_add]; exact box_new wb #[.bool true, .string l0, .int .i64 0, .int .i64 0, .string ⟨#[]⟩, .slice none 0 0] 49 j u hu)
                  have HC2 : Hid (∀ u ∈ ([.bool true, .string l0, .int .i64 0, .int .i64 0, .string ⟨#[]⟩, .slice none 0 0] : List Value), u.oneCell' = true) := Lib.hid (ar_cells (ref_q (d := d) (C := cw wb) HL0S.out) (fun _ _ => exC_one))
                  go_wp2_with (at_builtin; refine wpList_append_lies _ rfl (.tmp 66) (.tmp 71) 38 rfl wa.heap.size 49 iA (.agg #[.bool false, .string ⟨#[]⟩, .int .i64 0, .int .i64 0, .string ⟨#[]⟩, .slice none 0 0]) 6 80 Try.underlying38 hiA hzA0 hzA1 hzA2 rfl (by decide) _ _ _ rfl (HRA.out.next (boxed _ _)).own ⟨_, 0, none⟩ 1 1 [.bool true, .string l0, .int .i64 0, .int .i64 0, .string ⟨#[]⟩, .slice none 0 0] rfl rfl (HC1.out) (HC2.out) (by decide) (by unfold maxLen; omega) (by omega) (by first | omega | (rw [World.size_alloc]; omega)) _ rfl ?_)
                  intro g4 cap4 w4 hown4 hg4 hat4 hlt4
                  have hr4 := RowA.app (m := [refA l0]) (news := [[.bool true, .string l0, .int .i64 0, .int .i64 0, .string ⟨#[]⟩, .slice none 0 0]]) (HRA.out.next (boxed wb _)) (Below.refl _ _) hg4 (Nat.le_of_lt hsa) rfl (fun j h h' => by
                    match j, h with
                    | 0, _ => exact ref_q HL0S.out) (by simpa using hown4)
                  have hb4 : Below wa.heap.size wa w4 := (HBB.out.trans ((boxed wb _).mono HBB.out.size)).grown hg4 (by rw [World.size_alloc]; omega) (fun q hq => (HRA.out.own.lt q hq).1)
                  have HR4 := Lib.hid hr4.sl
                  have HB4 := Lib.hid hb4
                  clear hown4 hg4 hat4 hlt4 hr4 hb4 l0c
                  go_wp2_with fail
                  go_meet
                  refine ⟨some ⟨g4, 0, none⟩, cap4, ?_, ?_, HB4.out⟩
                  · rw [HTQ.out, List.length_append, List.length_singleton]
                  · rw [HTQ.out, List.length_append, List.length_singleton]; exact HR4.out
                · have hk1 : (K3 == 0) = false := by simpa using hk0
                  have hqn : q < s.args.length := HQ1.out.elim (fun h => absurd h hA0) (fun h => h)
                  obtain ⟨g, rfl, -, hBg, hgw, hth, hcell⟩ := HRA.out.block hqn
                  obtain ⟨_, _, hvf, hrc1, hrc2⟩ := HRA.out.sl.form
                  cases hvf
                  by_cases hk2 : K3 = 1
                  · have hk3 : (K3 == 1) = true := by rw [hk2]; rfl
                    have HTQ := Lib.hid (show TA = s.args.take q ++ s.args.drop (q + 1) by rw [← hTA.out, hk2]; exact turnA_1 hA0)
                    clear hA0 hk0 hk2 hth hcell
                    go_wp2_with fail
                    refine (HM.out _).mono ?_
                    rintro e w' ⟨rfl, rfl⟩
                    go_wp2_with fail
                    refine (HM.out _).mono ?_
                    rintro e w' ⟨rfl, rfl⟩
                    go_upto_region 18 with fail
                    have hq : Below wb.heap.size wb wb.drew := (Below.refl _ _).drew
                    have hs1 := fun w => run_to6 38 49 Try.underlying38 6 (fun w => by kernel_rfl) (some ⟨g, 0, none⟩) s.args.length rc q (q : Int) rfl (by omega) hrc2 w
                    have hs2 := fun w => run_from6 38 49 Try.underlying38 6 (fun w => by kernel_rfl) (some ⟨g, 0, none⟩) s.args.length rc (q + 1) ((q : Int) + 1) (by push_cast; rfl) (by omega) hrc1 hrc2 w
                    have hadd : IntKind.i64.wrap ((q : Int) + 1) = (q : Int) + 1 := IntWalk.i64_in _ (by omega)
                    obtain ⟨A2, hA2⟩ : ∃ x, Hid ((if rc = q + 1 then some (⟨g, 0, none⟩ : Addr) else (some ⟨g, 0, none⟩ : Option Addr).map fun x => x.add ((q + 1) * 6)) = x) := ⟨_, Lib.hid rfl⟩
                    obtain ⟨M2, hM2⟩ : ∃ x, x = s.args.length - (q + 1) := ⟨_, rfl⟩
                    obtain ⟨C2, hC2⟩ : ∃ x, Hid (rc - (q + 1) = x) := ⟨_, Lib.hid rfl⟩
                    rw [hA2.out, ← hM2, hC2.out] at hs2
                    obtain ⟨TK, hTK⟩ : ∃ x, Hid (s.args.take q = x) := ⟨_, Lib.hid rfl⟩
                    obtain ⟨DR, hDR⟩ : ∃ x, Hid (s.args.drop (q + 1) = x) := ⟨_, Lib.hid rfl⟩
                    have htk : TK.length = q := by rw [← hTK.out, List.length_take]; omega
                    have hdr : DR.length = M2 := by rw [← hDR.out, List.length_drop]; omega
                    obtain ⟨ns1, hnla, hnqa, hnca, hn1a, hnfa⟩ := HRA.out.news (lo := 0) (hi := q) (Nat.zero_le _) (by omega)
                    obtain ⟨ns2, hnlb, hnqb, hncb, hn1b, hnfb⟩ := HRA.out.news (lo := q + 1) (hi := s.args.length) (by omega) (Nat.le_refl _)
                    have hkd : (s.args.drop 0).take (q - 0) = TK := by rw [← hTK.out]; rfl
                    have hdd : (s.args.drop (q + 1)).take (s.args.length - (q + 1)) = DR := by rw [List.take_of_length_le (by rw [List.length_drop]; omega), hDR.out]
                    have hA1 : (if rc = 0 then some (⟨g, 0, none⟩ : Addr) else (some ⟨g, 0, none⟩ : Option Addr).map fun x => x.add (0 * 6)) = some ⟨g, 0, none⟩ := by split <;> simp [Addr.add_lit]
                    simp only [hkd] at hnla hnqa
                    simp only [hdd] at hnlb hnqb
                    rw [hA1] at hnca
                    rw [hA2.out] at hncb
                    rw [← hM2] at hnfb
                    rw [Nat.sub_zero] at hnfa
                    have hn0b : A2 = none → M2 = 0 := fun h => by
                      rw [← hA2.out] at h
                      split at h <;> cases h
                    have hn0a : (some ⟨g, 0, none⟩ : Option Addr) = none → q = 0 := fun h => by cases h
                    have HNCA := Lib.hid hnca
                    have HNCB := Lib.hid hncb
                    have HNQA : Hid (∀ j (h : j < TK.length) (h' : j < ns1.length), ArQ (d + 1) (lowC SB wb) ns1[j] TK[j]) := Lib.hid hnqa
                    have HNQB : Hid (∀ j (h : j < DR.length) (h' : j < ns2.length), ArQ (d + 1) (lowC SB wb) ns2[j] DR[j]) := Lib.hid hnqb
                    have HTD := Lib.hid (show TA = TK ++ DR by rw [HTQ.out, hTK.out, hDR.out])
                    have HTK := Lib.hid htk
                    have HDR := Lib.hid hdr
                    have hm2 : M2 ≤ 20000 := by omega
                    have hq2 : q ≤ 20000 := by omega
                    clear hM2 htk hdr hnca hncb hnqa hnqb hkd hdd hA1
                    refine wp_region_z (fun w' => True) 10 (by kernel_rfl) trivial (fun hS => ?_)
                    show wpAnyZ _ _ _ _ _ _ 11 #[false, false, false, false, false, false, false, false, false, false, false] _ _
                    refine' wpAnyZ_take (i := 1) (oi := _) (v := _) rfl (by kernel_rfl) (by kernel_rfl) (by kernel_rfl) (by kernel_rfl) (fun _ _ _ h => h) (Or.inl ⟨by rfl, ?hyc1⟩) hS ?restc1
                    case hyc1 => (intro w hSw; clear hSw; go_simp; (try with_reducible rfl))
                    try simp only [Act.put, List.getElem_toArray, List.getElem_cons_succ, List.getElem_cons_zero, List.setIfInBounds_toArray, List.set_cons_zero, List.set_cons_succ]
                    refine' wpAnyZ_take (i := 2) (oi := _) (v := _) rfl (by kernel_rfl) (by kernel_rfl) (by kernel_rfl) (by kernel_rfl) (fun _ _ _ h => h) (Or.inl ⟨by rfl, ?hyc2⟩) hS ?restc2
                    case hyc2 => (intro w hSw; clear hSw; go_simp; (try with_reducible rfl))
                    try simp only [Act.put, List.getElem_toArray, List.getElem_cons_succ, List.getElem_cons_zero, List.setIfInBounds_toArray, List.set_cons_zero, List.set_cons_succ]
                    refine' wpAnyZ_take (i := 3) (oi := _) (v := _) rfl (by kernel_rfl) (by kernel_rfl) (by kernel_rfl) (by kernel_rfl) (fun _ _ _ h => h) (Or.inl ⟨by rfl, ?hyc3⟩) hS ?restc3
                    case hyc3 => (intro w hSw; have h1 := hs1 w; clear hSw; go_simp; (try with_reducible rfl))
                    try simp only [Act.put, List.getElem_toArray, List.getElem_cons_succ, List.getElem_cons_zero, List.setIfInBounds_toArray, List.set_cons_zero, List.set_cons_succ]
                    refine' wpAnyZ_take (i := 5) (oi := _) (v := _) rfl (by kernel_rfl) (by kernel_rfl) (by kernel_rfl) (by kernel_rfl) (fun _ _ _ h => h) (Or.inl ⟨by rfl, ?hyc5⟩) hS ?restc5
                    case hyc5 => (intro w hSw; clear hSw; go_simp; (try with_reducible rfl))
                    try simp only [Act.put, List.getElem_toArray, List.getElem_cons_succ, List.getElem_cons_zero, List.setIfInBounds_toArray, List.set_cons_zero, List.set_cons_succ]
                    refine' wpAnyZ_take (i := 6) (oi := _) (v := _) rfl (by kernel_rfl) (by kernel_rfl) (by kernel_rfl) (by kernel_rfl) (fun _ _ _ h => h) (Or.inl ⟨by rfl, ?hyc6⟩) hS ?restc6
                    case hyc6 => (intro w hSw; clear hSw; go_simp; (try with_reducible rfl))
                    try simp only [Act.put, List.getElem_toArray, List.getElem_cons_succ, List.getElem_cons_zero, List.setIfInBounds_toArray, List.set_cons_zero, List.set_cons_succ]
                    refine' wpAnyZ_take (i := 7) (oi := _) (v := _) rfl (by kernel_rfl) (by kernel_rfl) (by kernel_rfl) (by kernel_rfl) (fun _ _ _ h => h) (Or.inl ⟨by rfl, ?hyc7⟩) hS ?restc7
                    case hyc7 => (intro w hSw; clear hSw; go_simp; (try with_reducible rfl))
                    try simp only [Act.put, List.getElem_toArray, List.getElem_cons_succ, List.getElem_cons_zero, List.setIfInBounds_toArray, List.set_cons_zero, List.set_cons_succ]
                    refine' wpAnyZ_take (i := 8) (oi := _) (v := _) rfl (by kernel_rfl) (by kernel_rfl) (by kernel_rfl) (by kernel_rfl) (fun _ _ _ h => h) (Or.inl ⟨by rfl, ?hyc8⟩) hS ?restc8
                    case hyc8 => (intro w hSw; have h1 := hs2 w; clear hSw; go_simp; (try with_reducible rfl))
                    try simp only [Act.put, List.getElem_toArray, List.getElem_cons_succ, List.getElem_cons_zero, List.setIfInBounds_toArray, List.set_cons_zero, List.set_cons_succ]
                    have HBL := Lib.hid (below_then (boxed wb.drew (.cells #[] 49)) hq)
                    have HLIT := Lib.hid (RowA.lit (B := wb.heap.size) (K := SB) (d := d + 1) (w := wb.drew) hq.size)
                    have hsbb : SB ≤ wb.heap.size := by have := HBB.out.size; omega
                    have hszL := HBL.out.size
                    have hnca : ∀ ad, (some ⟨g, 0, none⟩ : Option Addr) = some ad → ∀ j u, ns1.flatten[j]? = some u → (wb.drew.alloc (.cells #[] 49)).cell? (ad.add j) = some u := fun ad had j u hu => by
                      cases had
                      have h1 := HNCA.out _ rfl j u hu
                      rw [Addr.add_lit] at h1 ⊢
                      exact cell_next HBL.out h1
                    refine' wpAnyZ_step (i := 0) (o := _) rfl (by kernel_rfl) (fun K hK => ?_)
                    go_simp
                    refine hK _ _ (fun _ => trivial) ?_
                    clear hK K
                    try simp only [Act.put, List.getElem_toArray, List.getElem_cons_succ, List.getElem_cons_zero, List.setIfInBounds_toArray, List.set_cons_zero, List.set_cons_succ]
                    refine' wpAnyZ_step (i := 4) (o := _) rfl (by kernel_rfl) (fun K hK => ?_)
                    refine step_append_sl _ (by rfl) (.tmp 77) (.tmp 80) 38 (by rfl) wb.heap.size 49 iA (.agg #[.bool false, .string ⟨#[]⟩, .int .i64 0, .int .i64 0, .string ⟨#[]⟩, .slice none 0 0]) 6 80 Try.underlying38 hiA hzA0 hzA1 hzA2 rfl (by decide) _ 0 ([]) (by rfl) HLIT.out.own (some ⟨g, 0, none⟩) q rc ns1.flatten (by rfl) hn0a hnfa hnca hn1a (by unfold maxLen; omega) (by omega) (by first | omega | exact hszL | (simp; done) | (simp; omega)) ?_
                    intro va13 vc13 w13 hown13 hg13 hat13
                    have HR13 := Lib.hid (RowA.app (m := TK) (v4 := .slice va13 (0 + q) vc13) HLIT.out (Below.refl _ _) hg13 hsbb hnla (fun j h h' => ArQ.mono _ _ _ _ _ (low_next HBL.out) (HNQA.out j h h')) (by rw [HTK.out]; simpa using hown13))
                    have HB13 := Lib.hid (HBL.out.grown hg13 HBL.out.size (fun x hx => (HLIT.out.own.lt x hx).1))
                    have hsz13 := HB13.out.size
                    rw [Nat.zero_add] at HR13
                    try rw [Nat.zero_add]
                    refine hK _ _ (fun _ => trivial) ?_
                    clear hK K hown13 hg13 hat13 hn0a hnla hnca hn1a hnfa
                    try simp only [Act.put, List.getElem_toArray, List.getElem_cons_succ, List.getElem_cons_zero, List.setIfInBounds_toArray, List.set_cons_zero, List.set_cons_succ]
                    have hncb : ∀ ad, A2 = some ad → ∀ j u, ns2.flatten[j]? = some u → w13.cell? (ad.add j) = some u := fun ad had j u hu => by
                      have h1 := HNCB.out ad had j u hu
                      have had2 := had
                      rw [← hA2.out] at had2
                      have hform : ∃ o, ad = ⟨g, o, none⟩ := by
                        split at had2
                        · cases had2; exact ⟨_, rfl⟩
                        · simp only [Option.map_some, Option.some.injEq, Addr.add_lit] at had2
                          exact ⟨_, had2.symm⟩
                      obtain ⟨o, rfl⟩ := hform
                      rw [Addr.add_lit] at h1 ⊢
                      exact cell_next HB13.out h1
                    have hown13 : w13.ownsRow wb.heap.size 49 6 (.slice va13 q vc13) q ns1.flatten := by
                      have h1 := HR13.out.own
                      rw [List.nil_append, HTK.out] at h1
                      simpa using h1
                    refine' wpAnyZ_step (i := 9) (o := _) rfl (by kernel_rfl) (fun K hK => ?_)
                    refine step_append_sl _ (by rfl) (.tmp 81) (.tmp 85) 38 (by rfl) wb.heap.size 49 iA (.agg #[.bool false, .string ⟨#[]⟩, .int .i64 0, .int .i64 0, .string ⟨#[]⟩, .slice none 0 0]) 6 80 Try.underlying38 hiA hzA0 hzA1 hzA2 rfl (by decide) _ q (ns1.flatten) (by rfl) hown13 A2 M2 C2 ns2.flatten (by rfl) hn0b hnfb hncb hn1b (by unfold maxLen; omega) (by omega) (by first | omega | exact hszL | (simp; done) | (simp; omega)) ?_
                    intro va19 vc19 w19 hown19 hg19 hat19
                    have HR13' : Hid (RowA wb.heap.size SB (d + 1) w13 (.slice va13 q vc13) TK ns1) := HR13
                    have HR19 := Lib.hid (RowA.app (m := DR) (v4 := .slice va19 (q + M2) vc19) HR13'.out (Below.refl _ _) hg19 hsbb hnlb (fun j h h' => ArQ.mono _ _ _ _ _ (low_next HB13.out) (HNQB.out j h h')) (by rw [HTK.out, HDR.out]; exact hown19))
                    have HB19 := Lib.hid (HB13.out.grown hg19 HB13.out.size (fun x hx => (HR13'.out.own.lt x hx).1))
                    refine hK _ _ (fun _ => trivial) ?_
                    clear hK K hown13 hown19 hg19 hat19 hn0b hnlb hncb hn1b hnfb
                    try simp only [Act.put, List.getElem_toArray, List.getElem_cons_succ, List.getElem_cons_zero, List.setIfInBounds_toArray, List.set_cons_zero, List.set_cons_succ]
                    refine' wpAnyZ_step (i := 10) (o := _) rfl (by kernel_rfl) (fun K hK => ?_)
                    go_simp
                    refine hK _ _ (fun h => absurd rfl h) ?_
                    clear hK K
                    try simp only [Act.put, List.getElem_toArray, List.getElem_cons_succ, List.getElem_cons_zero, List.setIfInBounds_toArray, List.set_cons_zero, List.set_cons_succ]
                    refine wpAnyZ_done (by kernel_rfl) ?_ _
                    have HBZ := Lib.hid (HBB.out.trans (HB19.out.mono HBB.out.size))
                    have HRZ := Lib.hid (SlAt.imp HR19.out.sl fun _ _ _ _ => ArAt.mono (gap_le HBB.out.size))
                    clear hS hq hs1 hs2
                    go_wp2_with fail
                    go_meet
                    refine ⟨va19, vc19, ?_, ?_, HBZ.out⟩
                    · rw [HTD.out, List.length_append, HTK.out, HDR.out]
                    · rw [HTD.out, List.length_append, HTK.out, HDR.out]; exact HRZ.out
                  · have hk3 : (K3 == 1) = false := by simpa using hk2
                    obtain ⟨kv, hrow, ha1, ha2, ha3⟩ := HRA.out.each q hqn (by rw [HRA.out.len]; exact hqn)
                    have d0 : wb.cell? ⟨g, q * 6, none⟩ = some (.bool s.args[q].ref) := hcell 0 _ (by rw [hrow]; rfl)
                    have d1 : wb.cell? ⟨g, q * 6 + 1, none⟩ = some (.string s.args[q].nm) := hcell 1 _ (by rw [hrow]; rfl)
                    have hqi : (q : Int) < (s.args.length : Int) := by omega
                    have h0q : (0 : Int) ≤ (q : Int) := by omega
                    have hT2 := fun h => turnA_2 (l0 := l0) hA0 hk0 hk2 hqn h
                    have hT3 := fun h => turnA_3 (l0 := l0) hA0 hk0 hk2 hqn h
                    rw [hTA.out] at hT2 hT3
                    obtain ⟨a0, ha0⟩ : ∃ x, Hid (s.args[q] = x) := ⟨_, Lib.hid rfl⟩
                    rw [ha0.out] at d0 d1 ha1 hT2 hT3
                    have HT2 := Lib.hid hT2
                    have HT3 := Lib.hid hT3
                    have HAN := Lib.hid ha1
                    have HSV := Lib.hid (HRA.out.put hqn hBg (Nat.le_of_lt hsa) hth (val_q (d := d) (s := a0.nm) ha1))
                    have HSR := Lib.hid (HRA.out.put hqn hBg (Nat.le_of_lt hsa) hth (ref_q (d := d) (l0 := l0) HL0S.out))
                    have HBV := Lib.hid (setCells_below [.bool false, .string ⟨#[]⟩, .int .i64 2, .int .i64 0, .string a0.nm, .slice none 0 0] (q * 6) HBB.out hBg)
                    have HBW := Lib.hid (setCells_below [.bool true, .string l0, .int .i64 0, .int .i64 0, .string ⟨#[]⟩, .slice none 0 0] (q * 6) HBB.out hBg)
                    have l0c := HLB.out
                    clear hA0 hk0 hk2 hcell hrow ha1 ha2 ha3 hT2 hT3
                    cases hbr : a0.ref with
                    | true =>
                      rw [hbr] at d0
                      have HBR := Lib.hid hbr
                      clear hbr
                      go_wp2_with (first | (refine (HM.out _).mono ?_; rintro e w' ⟨rfl, rfl⟩) | refine wpList_store_mid rfl 49 (.tmp 102) (.tmp 101) rfl g (q * 6) #[.bool false, .string ⟨#[]⟩, .int .i64 2, .int .i64 0, .string a0.nm, .slice none 0 0] rfl rfl hth (by kernel_rfl) (by simp [Value.oneCell']) ?_)
                      go_meet
                      refine ⟨some ⟨g, 0, none⟩, rc, ?_, ?_, HBV.out⟩
                      · rw [HT2.out HBR.out, List.length_set]
                      · rw [HT2.out HBR.out, List.length_set]; exact HSV.out
                    | false =>
                      rw [hbr] at d0
                      have HBR := Lib.hid hbr
                      clear hbr
                      go_wp2_with (first | (refine (HM.out _).mono ?_; rintro e w' ⟨rfl, rfl⟩) | refine wpList_store_mid rfl 49 (.tmp 56) (.tmp 55) rfl g (q * 6) #[.bool true, .string l0, .int .i64 0, .int .i64 0, .string ⟨#[]⟩, .slice none 0 0] rfl rfl hth (by kernel_rfl) (by simp [Value.oneCell']) ?_)
                      go_meet
                      refine ⟨some ⟨g, 0, none⟩, rc, ?_, ?_, HBW.out⟩
                      · rw [HT3.out HBR.out, List.length_set]
                      · rw [HT3.out HBR.out, List.length_set]; exact HSR.out
            case rest =>
              obtain ⟨va, vc, hv12, hsl, hbw⟩ := hcut
              subst hv12
              have HSL := Lib.hid hsl
              have HBAC := Lib.hid hbw
              have HTC := Lib.hid (HTA.out.next hbw)
              have HFC := Lib.hid (HFA.out.next hsa hbw)
              have HXC := Lib.hid (HXA.out.next hbw)
              have HPC := Lib.hid (PrC.mono (cw_next hbw) HPA.out)
              have HBC := Lib.hid (HBA.out.trans (hbw.mono HBA.out.size))
              clear hsl hbw
              have t10 := HTC.out 10 _ rfl
              have f10 := HFC.out 10
              go_upto_region 22 with fail
              have hs9 : SB ≤ SB := Nat.le_refl _
              have hbox : BoxAt (wc.setCell ⟨SB, 10, none⟩ (.slice va TA.length vc)) SB [.int .i64 s.id, .int .i64 s.kind, .slice la s.labels.length lc, .string s.nm, .string s.proc, .int .i64 s.x.op, .int .i64 s.x.n, .string s.x.nm, .slice ka s.x.ks.length kc, .bool s.has, .slice va TA.length vc, .slice ta s.thn.length tc, .slice ea s.els.length ec] := HTC.out.put (j := 10) (by simp)
              have hb9d : Below w9.heap.size w9 (wc.setCell ⟨SB, 10, none⟩ (.slice va TA.length vc)) := (HB9A.out.trans (HBAC.out.mono HB9A.out.size)).setCell (p := ⟨SB, 10, none⟩) (by rw [hSB.out]; exact Nat.le_refl _) _
              have hgap : Cs.le (gapC SB wa.heap.size wc) (cw (wc.setCell ⟨SB, 10, none⟩ (.slice va TA.length vc))) := fun g j u ⟨h1, h2⟩ => by
                show (wc.setCell ⟨SB, 10, none⟩ (.slice va TA.length vc)).cell? ⟨g, j, none⟩ = some u
                rw [World.cell?_setCell_other _ _ _ _ (fun e => by have := congrArg Addr.block e; simp only at this; omega)]
                exact h2
              have hsl : SlAt 6 (ArAt (cw (wc.setCell ⟨SB, 10, none⟩ (.slice va TA.length vc))) (d + 1)) (.slice va TA.length vc) TA := SlAt.imp HSL.out fun _ _ _ _ => ArAt.mono hgap
              refine cut_world (fun wx => Below w.heap.size w wx ∧ Below w9.heap.size w9 wx ∧ BoxAt wx SB [.int .i64 s.id, .int .i64 s.kind, .slice la s.labels.length lc, .string s.nm, .string s.proc, .int .i64 s.x.op, .int .i64 s.x.n, .string s.x.nm, .slice ka s.x.ks.length kc, .bool s.has, .slice va TA.length vc, .slice ta s.thn.length tc, .slice ea s.els.length ec] ∧ BoxAt wx w.heap.size [.slice ga p.globals.length gc, .slice pa p.procs.length pc] ∧ SlAt 6 (ArAt (cw wx) (d + 1)) (.slice va TA.length vc) TA) ⟨HBC.out.setCell (p := ⟨SB, 10, none⟩) (Nat.le_of_lt hsw) _, hb9d, hbox, HXC.out.set (by omega), hsl⟩ ?_
              clear t10 f10 hbox hb9d hgap hsl
              rintro wd ⟨hbd, hb9d, htd, hxd, hsd⟩
              have HBD := Lib.hid hbd
              have HXD := Lib.hid hxd
              have HTD := Lib.hid htd
              have HHD : Hid (Hang (d + 1) wd (setArgs s TA) (.slice la s.labels.length lc) (.slice ka s.x.ks.length kc) (.slice va TA.length vc) (.slice ta s.thn.length tc) (.slice ea s.els.length ec)) := Lib.hid (by
                have h1 := HH9.out.next hb9d
                exact ⟨h1.lab, h1.kid, hsd, h1.thn, h1.els⟩)
              have HPD := Lib.hid (PrC.mono (cw_next hb9d) HP9.out)
              clear hbd hb9d htd hxd hsd
              obtain ⟨har, hfp⟩ := arity_turned HWELL.out HPK.out HKD.out HL0M.out (m := K3) (q := q) HQ1.out
              have hli : LightS (setArgs s TA) := by rw [← hTA.out]; exact turnA_light HWT.out
              have hsn : (saidS (setArgs s TA)).length ≤ 200000 := by
                have h1 := turnA_saidn (s := s) (l0 := l0) (m := K3) (q := q)
                have h2 := saidS_wt s
                have h3 := HWT.out
                rw [hTA.out] at h1
                omega
              have hln : (setArgs s TA).labels.length ≤ 100000 := by
                have h1 := wtTs_len s.labels
                have h3 := HWT.out
                rw [wtS_eq] at h3
                show s.labels.length ≤ 100000
                omega
              have HRM := Lib.hid (room_put HMAY.out HWP.out hsn hln)
              rw [hTA.out] at har hfp
              have HAR := Lib.hid har
              have HFP := Lib.hid hfp
              have HLI := Lib.hid hli
              clear har hfp hli hsn hln
              have p0 := HXD.out 0 _ rfl
              have p1 := HXD.out 1 _ rfl
              go_wp2_with (refine wpList_load_mid rfl 41 (.tmp 11) rfl SB 0 rfl [.int .i64 s.id, .int .i64 s.kind, .slice la s.labels.length lc, .string s.nm, .string s.proc, .int .i64 s.x.op, .int .i64 s.x.n, .string s.x.nm, .slice ka s.x.ks.length kc, .bool s.has, .slice va TA.length vc, .slice ta s.thn.length tc, .slice ea s.els.length ec] _ (fun j v hv => by rw [Nat.zero_add]; exact HTD.out j v hv) Try.underlying41 rfl (by kernel_rfl) ?_)
              refine (put6_any (d + 1) s TA HOK.out HJ.out.1 HJ.out.2.1 HJ.out.2.2.1 HJ.out.2.2.2 HLI.out la ka va ta ea lc kc vc tc ec (d + 1) p _ _ _ HPD.out HWP.out HHD.out).mono ?_
              rintro e we ⟨gq, pq, rfl, hpq, hbe⟩
              obtain ⟨gqa, gqc, rfl, -, -⟩ := hpq.1.form
              obtain ⟨pqa, pqc, rfl, -, -⟩ := hpq.2.form
              have HPQ := Lib.hid (PrC.mono only_out hpq)
              have HTE := Lib.hid (HTD.out.next hbe)
              have HHE := Lib.hid (HHD.out.next hbe)
              have HXE := Lib.hid (HXD.out.next hbe)
              have HPE := Lib.hid (PrC.mono (cw_next hbe) HPD.out)
              have HBE := Lib.hid (HBD.out.trans (hbe.mono HBD.out.size))
              clear hbe hpq p0 p1
              go_wp2_with fail
              refine (scheckA_any (d + 1 + (d + 1)) (putPr (setArgs s TA) p) _ _ _ HPQ.out HRM.out).mono ?_
              rw [HAR.out]
              rintro e wf ⟨rfl, hbf⟩
              have HTF := Lib.hid (HTE.out.next hbf)
              have HHF := Lib.hid (HHE.out.next hbf)
              have HXF := Lib.hid (HXE.out.next hbf)
              have HPF := Lib.hid (PrC.mono (cw_next hbf) HPE.out)
              have HBF := Lib.hid (HBE.out.trans (hbf.mono HBE.out.size))
              clear hbf
              have heq := fault_same 6 ID
              have p0 := HXF.out 0 _ rfl
              have p1 := HXF.out 1 _ rfl
              have t0 := HTF.out 0 _ rfl
              have t1 := HTF.out 1 _ rfl
              have t2 := HTF.out 2 _ rfl
              have t3 := HTF.out 3 _ rfl
              have t4 := HTF.out 4 _ rfl
              have t5 := HTF.out 5 _ rfl
              have t6 := HTF.out 6 _ rfl
              have t7 := HTF.out 7 _ rfl
              have t8 := HTF.out 8 _ rfl
              have t9 := HTF.out 9 _ rfl
              have t10 := HTF.out 10 _ rfl
              have t11 := HTF.out 11 _ rfl
              have t12 := HTF.out 12 _ rfl
              go_wp2_with fail
              refine (sFits_any (d + 1) p _ _ (setArgs s TA) la ka va ta ea lc kc vc tc ec _ HPF.out HHF.out HROOM.out).mono ?_
              rw [HFP.out]
              rintro e wg ⟨rfl, hbg⟩
              have HBG := Lib.hid (HBF.out.trans (hbg.mono HBF.out.size))
              clear hbg p0 p1 t0 t1 t2 t3 t4 t5 t6 t7 t8 t9 t10 t11 t12
              go_wp2_with fail
              go_ret
              exact ⟨rfl, HBG.out⟩
    · have hz1 : (SC == 0) = false := by simpa using hz
      have HZ := Lib.hid hz
      clear hz
      go_wp2_with fail
      go_ret
      exact ⟨rfl, HB4.out⟩
end Go.Proofs.Ytghlmengcidmdaa.Tr
