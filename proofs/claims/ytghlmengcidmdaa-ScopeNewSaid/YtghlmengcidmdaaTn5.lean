/- Parts of ScopeNewW: walks and plain laws that later texts use. Conditions: as each statement says. -/
import Derived.Test.YtghlmengcidmdaaTa0
import Derived.Test.YtghlmengcidmdaaTa1
import Derived.Test.YtghlmengcidmdaaTa10
import Derived.Test.YtghlmengcidmdaaTa11
import Derived.Test.YtghlmengcidmdaaTa12
import Derived.Test.YtghlmengcidmdaaTa13
import Derived.Test.YtghlmengcidmdaaTa14
import Derived.Test.YtghlmengcidmdaaTa15
import Derived.Test.YtghlmengcidmdaaTa16
import Derived.Test.YtghlmengcidmdaaTa17
import Derived.Test.YtghlmengcidmdaaTa18
import Derived.Test.YtghlmengcidmdaaTa19
import Derived.Test.YtghlmengcidmdaaTa2
import Derived.Test.YtghlmengcidmdaaTa3
import Derived.Test.YtghlmengcidmdaaTa4
import Derived.Test.YtghlmengcidmdaaTa5
import Derived.Test.YtghlmengcidmdaaTa6
import Derived.Test.YtghlmengcidmdaaTa7
import Derived.Test.YtghlmengcidmdaaTa8
import Derived.Test.YtghlmengcidmdaaTa9
import Derived.Test.YtghlmengcidmdaaTn0
import Derived.Test.YtghlmengcidmdaaTn1
import Derived.Test.YtghlmengcidmdaaTn2
import Derived.Test.YtghlmengcidmdaaTn3
import Derived.Test.YtghlmengcidmdaaTn4
import Derived.WalkKit
import Derived.Test.YtghlmengcidmdaaRows
import Derived.WalkSpells
import Derived.Lib.Hide
import Derived.Below
import Derived.Deep.QuietTactic
import Derived.BigQuiet
import Derived.WalkSmall
import Derived.IntWalk
import Derived.Deep.RegionWith
import Derived.Deep.DeepCutAuto
import Derived.Laws.Cover3
import Derived.Deep.RegionHeld3
import Derived.Laws.StructEq
import Derived.Deep.CutBlock
import Derived.StillTailTactics
import Derived.Deep.RegionLaw
import Derived.Outline
import Derived.OrdersHeld
import Derived.RegionTactic
import Derived.Laws.BitsAllLaws
import Derived.Deep.MidRow
import Derived.Deep.Slices
import Derived.Deep.Fields
import Derived.Lib.SmallJoins
import Derived.SliceStrings
import Derived.ChangeSlices
import Derived.OwnWalk
import Derived.OneCell
import Derived.Deep.AppendLies
import Derived.Maps.Range
import Derived.Deep.Upon
import Derived.Maps.AppendAt
import Derived.Laws.OwnMore
/- The law ScopeNew, walked: it returns true. Conditions: the arguments lie in memory. -/
namespace Go.Proofs.Ytghlmengcidmdaa.Tr
open Go.RowKit Go.Proofs.Ytghlmengcidmdaa.Lx Go.Proofs.Ytghlmengcidmdaa.Wd
set_option linter.unusedSimpArgs false
theorem RowN.news {B n c : Nat} {w : World} {a : Option Addr} {l : List Int} (h : RowN B w (.slice a n c) l) : n = l.length ∧ (a = none → n = 0) ∧ (∀ ad, a = some ad → ∀ j u, (l.map (Value.int .i64))[j]? = some u → w.cell? (ad.add j) = some u) := by
  refine ⟨h.len, fun ha => ?_, fun ad had j u hu => ?_⟩
  · have hown := h
    unfold RowN at hown
    rcases hown.2 with ⟨hv, hn⟩ | ⟨g, cap, cur, hv, h1, h2, h3, h4, h5, h6⟩
    · rw [h.len]; exact hn
    · injection hv with e1 e2 e3
      rw [ha] at e1; cases e1
  · have hj : j < l.length := by
      have := (List.getElem?_eq_some_iff.1 hu).1
      rwa [List.length_map] at this
    obtain ⟨g, off, hv, hc⟩ := h.at hj
    rw [had] at hv
    cases hv
    rw [List.getElem?_map, List.getElem?_eq_getElem hj] at hu
    simp only [Option.map_some, Option.some.injEq] at hu
    subst hu
    rw [Addr.add_lit]
    exact hc
theorem num_all (l : List Int) : ∀ u ∈ l.map (Value.int .i64), u.oneCell' = true := by
  intro u hu
  obtain ⟨n, -, rfl⟩ := List.mem_map.1 hu
  rfl
theorem put1_any (D : Nat) (s : St) (nm : ByteArray) (hok : OkE s.x) (h1 : InI s.id) (h2 : InI s.kind) (_h3 : s.nm.size ≤ 9223372036854775807) (h4 : s.proc.size ≤ 9223372036854775807) (hnm : nm.size ≤ 9223372036854775807) (hl : LightS (setNm s nm)) (la ka aa ta ea : Option Addr) (lc kc ac tc ec : Nat)
    (d : Nat) (p : Pr) (gv pv : Value) (w : World) (hp : PrC (cw w) d gv pv p) (hwp : wtPr p ≤ 20000) (hh : Hang D w (setNm s nm) (.slice la s.labels.length lc) (.slice ka s.x.ks.length kc) (.slice aa s.args.length ac) (.slice ta s.thn.length tc) (.slice ea s.els.length ec)) :
    Calls Try.prog 29 #[.agg #[gv, pv], .agg #[.int .i64 s.id, .int .i64 s.kind, .slice la s.labels.length lc, .string nm, .string s.proc, .int .i64 s.x.op, .int .i64 s.x.n, .string s.x.nm, .slice ka s.x.ks.length kc, .bool s.has, .slice aa s.args.length ac, .slice ta s.thn.length tc, .slice ea s.els.length ec]] w (ProgMade (d + D) (putPr (setNm s nm) p) w) := putP_any D (setNm s nm) hok h1 h2 hnm h4 hl ka la aa ta ea kc lc ac tc ec d p gv pv w hp hwp hh
theorem put4_any (D : Nat) (s : St) (nm : ByteArray) (hok : OkE s.x) (h1 : InI s.id) (h2 : InI s.kind) (h3 : s.nm.size ≤ 9223372036854775807) (_h4 : s.proc.size ≤ 9223372036854775807) (hnm : nm.size ≤ 9223372036854775807) (hl : LightS (setProc s nm)) (la ka aa ta ea : Option Addr) (lc kc ac tc ec : Nat)
    (d : Nat) (p : Pr) (gv pv : Value) (w : World) (hp : PrC (cw w) d gv pv p) (hwp : wtPr p ≤ 20000) (hh : Hang D w (setProc s nm) (.slice la s.labels.length lc) (.slice ka s.x.ks.length kc) (.slice aa s.args.length ac) (.slice ta s.thn.length tc) (.slice ea s.els.length ec)) :
    Calls Try.prog 29 #[.agg #[gv, pv], .agg #[.int .i64 s.id, .int .i64 s.kind, .slice la s.labels.length lc, .string s.nm, .string nm, .int .i64 s.x.op, .int .i64 s.x.n, .string s.x.nm, .slice ka s.x.ks.length kc, .bool s.has, .slice aa s.args.length ac, .slice ta s.thn.length tc, .slice ea s.els.length ec]] w (ProgMade (d + D) (putPr (setProc s nm) p) w) := putP_any D (setProc s nm) hok h1 h2 h3 hnm hl ka la aa ta ea kc lc ac tc ec d p gv pv w hp hwp hh
set_option maxHeartbeats 8000000 in
set_option maxRecDepth 100000 in
theorem law_scopeNew {w : World} (d : Nat) (p : Pr) (gv pv : Value) (hp : PrC (cw w) d gv pv p) (n : Int) (hn0 : (Lit.int .i64 n).wf = true) (nm : ByteArray) (hnm : nm.size ≤ 9223372036854775807) :
    Calls Try.prog 8 #[.agg #[gv, pv], .int .i64 n, .string nm] w fun e w' => e = .returned (.bool true) ∧ Below w.heap.size w w' := by
  obtain ⟨ga, gc, rfl, -, -⟩ := hp.1.form
  obtain ⟨pa, pc, rfl, hpl1, hpl2⟩ := hp.2.form
  have hpl : p.procs.length ≤ 9223372036854775807 := Nat.le_trans hpl1 hpl2
  have HP := Lib.hid hp
  clear hp hpl1 hpl2
  have hn : InI n := wf_in hn0
  have HNMS := Lib.hid hnm
  clear hn0
  obtain ⟨iN, hiN, hzN0, hzN1, hzN2⟩ := info_parts infoInt
  go_enter Try.func8, Try.ntmps8
  go_upto_region 1 with fail
  refine cut_world (fun wx => Below w.heap.size w wx ∧ BoxAt wx w.heap.size [.slice ga p.globals.length gc, .slice pa p.procs.length pc]) ⟨boxed _ _, box_new w #[.slice ga p.globals.length gc, .slice pa p.procs.length pc] 25⟩ ?_
  rintro w1 ⟨hb1, hx1⟩
  have HB1 := Lib.hid hb1
  have HX1 := Lib.hid hx1
  have HP1 := Lib.hid (PrC.mono (cw_next hb1) HP.out)
  clear hb1 hx1
  have p0 := HX1.out 0 _ rfl
  have p1 := HX1.out 1 _ rfl
  go_wp2_with fail
  refine (scoped_any _).mono ?_
  rintro e w2 ⟨rfl, hb2⟩
  have HX2 := Lib.hid (HX1.out.next hb2)
  have HP2 := Lib.hid (PrC.mono (cw_next hb2) HP1.out)
  have HB2 := Lib.hid (HB1.out.trans (hb2.mono HB1.out.size))
  clear hb2
  clear p0 p1
  have p0 := HX2.out 0 _ rfl
  have p1 := HX2.out 1 _ rfl
  go_wp2_with fail
  refine (fits_any d p _ _ _ HP2.out).mono ?_
  rintro e w3 ⟨b1, hf1, rfl, hb3⟩
  have HF1 := Lib.hid hf1
  clear hf1
  have HX3 := Lib.hid (HX2.out.next hb3)
  have HP3 := Lib.hid (PrC.mono (cw_next hb3) HP2.out)
  have HB3 := Lib.hid (HB2.out.trans (hb3.mono HB2.out.size))
  clear hb3
  clear p0 p1
  cases b1 with
  | false =>
    have p0 := HX3.out 0 _ rfl
    have p1 := HX3.out 1 _ rfl
    go_wp2_with fail
    go_ret
    exact ⟨rfl, HB3.out⟩
  | true =>
    have HWP := Lib.hid (HF1.out (by simp))
    have HROOM := Lib.hid (RoomP.of (Nat.le_trans HWP.out (by decide)))
    clear HF1
    have p0 := HX3.out 0 _ rfl
    have p1 := HX3.out 1 _ rfl
    go_wp2_with fail
    refine (scheck_any d p _ _ _ HP3.out HROOM.out).mono ?_
    rintro e w4 ⟨rfl, hb4⟩
    obtain ⟨SC, hSC⟩ : ∃ r, Hid ((scopeP p).1 = r) := ⟨_, Lib.hid rfl⟩
    obtain ⟨SI, hSI⟩ : ∃ r, Hid ((scopeP p).2 = r) := ⟨_, Lib.hid rfl⟩
    rw [hSC.out, hSI.out]
    have HX4 := Lib.hid (HX3.out.next hb4)
    have HP4 := Lib.hid (PrC.mono (cw_next hb4) HP3.out)
    have HB4 := Lib.hid (HB3.out.trans (hb4.mono HB3.out.size))
    clear hb4
    clear p0 p1
    have hfd := run_code SC SI
    by_cases hz : SC = 0
    · have hz1 : (SC == 0) = true := by simpa using hz
      have hz2 : (SC != 0) = false := by rw [bne, hz1]; rfl
      have HWELL := Lib.hid (hSC.out.trans hz)
      have HMAY := Lib.hid (scope_code HWELL.out).1
      clear hz
      have p0 := HX4.out 0 _ rfl
      have p1 := HX4.out 1 _ rfl
      go_wp2_with fail
      refine (name_any nm _ hnm).mono ?_
      rintro e w' ⟨rfl, rfl⟩
      obtain ⟨NB, hNB⟩ : ∃ b, Hid (isName (bl nm) = b) := ⟨_, Lib.hid rfl⟩
      rw [hNB.out]
      cases NB with
      | false =>
        go_wp2_with fail
        go_ret
        exact ⟨rfl, HB4.out⟩
      | true =>
        go_wp2_with fail
        refine (used_any d p _ _ nm _ HP4.out HROOM.out HMAY.out).mono ?_
        rintro e w5 ⟨UB, rfl, hub, hb5⟩
        have HUB := Lib.hid hub
        have HX5 := Lib.hid (HX4.out.next hb5)
        have HP5 := Lib.hid (PrC.mono (cw_next hb5) HP4.out)
        have HB5 := Lib.hid (HB4.out.trans (hb5.mono HB4.out.size))
        clear hb5 hub p0 p1 hfd hz1 hz2
        cases UB with
        | true =>
          go_wp2_with fail
          go_ret
          exact ⟨rfl, HB5.out⟩
        | false =>
          have HUN := Lib.hid (HUB.out rfl)
          have HP5 := Lib.hid (PrC.le6 (show d ≤ d + 1 by omega) HP5.out)
          clear hnm
          go_upto_region 7 with fail
          have hq : Below w5.heap.size w5 w5.drew := (Below.refl _ _).drew
          obtain ⟨L1, hL1⟩ : ∃ k, Hid (idsP p 1 = k) := ⟨_, Lib.hid rfl⟩
          obtain ⟨L2, hL2⟩ : ∃ k, Hid (idsP p 2 = k) := ⟨_, Lib.hid rfl⟩
          obtain ⟨L4, hL4⟩ : ∃ k, Hid (idsP p 4 = k) := ⟨_, Lib.hid rfl⟩
          have hl1 : L1.length ≤ 401 := by rw [← hL1.out]; exact Nat.le_trans (idsK_len _ _) (allOf_len p)
          have hl2 : L2.length ≤ 401 := by rw [← hL2.out]; exact Nat.le_trans (idsK_len _ _) (allOf_len p)
          have hl4 : L4.length ≤ 401 := by rw [← hL4.out]; exact Nat.le_trans (idsK_len _ _) (allOf_len p)
          refine wp_region_z (fun w' => BoxAt w' w.heap.size [.slice ga p.globals.length gc, .slice pa p.procs.length pc]) 8 (by kernel_rfl) (HX5.out.next hq) (fun hS => ?_)
          show wpAnyZ _ _ _ _ _ _ 9 #[false, false, false, false, false, false, false, false, false] _ _
          refine' wpAnyZ_take (i := 0) (oi := _) (v := _) rfl (by kernel_rfl) (by kernel_rfl) (by kernel_rfl) (by kernel_rfl) (fun _ _ _ h => h) (Or.inl ⟨by rfl, ?hy0⟩) hS ?rest0
          case hy0 => (intro w hSw; have c0 := hSw 0 _ rfl; have c1 := hSw 1 _ rfl; clear hSw; go_simp; (try with_reducible rfl))
          try simp only [Act.put, List.getElem_toArray, List.getElem_cons_succ, List.getElem_cons_zero, List.setIfInBounds_toArray, List.set_cons_zero, List.set_cons_succ]
          refine' wpAnyZ_take (i := 2) (oi := _) (v := _) rfl (by kernel_rfl) (by kernel_rfl) (by kernel_rfl) (by kernel_rfl) (fun _ _ _ h => h) (Or.inl ⟨by rfl, ?hy2⟩) hS ?rest2
          case hy2 => (intro w hSw; have c0 := hSw 0 _ rfl; have c1 := hSw 1 _ rfl; clear hSw; go_simp; (try with_reducible rfl))
          try simp only [Act.put, List.getElem_toArray, List.getElem_cons_succ, List.getElem_cons_zero, List.setIfInBounds_toArray, List.set_cons_zero, List.set_cons_succ]
          refine' wpAnyZ_take (i := 5) (oi := _) (v := _) rfl (by kernel_rfl) (by kernel_rfl) (by kernel_rfl) (by kernel_rfl) (fun _ _ _ h => h) (Or.inl ⟨by rfl, ?hy5⟩) hS ?rest5
          case hy5 => (intro w hSw; have c0 := hSw 0 _ rfl; have c1 := hSw 1 _ rfl; clear hSw; go_simp; (try with_reducible rfl))
          try simp only [Act.put, List.getElem_toArray, List.getElem_cons_succ, List.getElem_cons_zero, List.setIfInBounds_toArray, List.set_cons_zero, List.set_cons_succ]
          refine' wpAnyZ_step (i := 1) (o := _) rfl (by kernel_rfl) (fun K hK => ?_)
          go_simp
          go_at_call 22
          refine (ids_any (d + 1) p _ _ 1 _ (PrC.mono (cw_next hq) HP5.out)).mono ?_
          rintro e w6 ⟨v6, rfl, hr6, hb6⟩
          rw [hL1.out] at hr6
          have Q6 := Lib.hid (below_then hb6 hq)
          obtain ⟨a6, c6, rfl⟩ := ownsForm hr6
          have HR6 := Lib.hid (hr6.mono hq.size)
          clear hb6 hr6
          refine hK _ _ (fun _ => HX5.out.next Q6.out) ?_
          clear hK K
          try simp only [Act.put, List.getElem_toArray, List.getElem_cons_succ, List.getElem_cons_zero, List.setIfInBounds_toArray, List.set_cons_zero, List.set_cons_succ]
          refine' wpAnyZ_step (i := 3) (o := _) rfl (by kernel_rfl) (fun K hK => ?_)
          go_simp
          go_at_call 22
          refine (ids_any (d + 1) p _ _ 2 _ (PrC.mono (cw_next Q6.out) HP5.out)).mono ?_
          rintro e w7 ⟨v7, rfl, hr7, hb7⟩
          rw [hL2.out] at hr7
          have Q7 := Lib.hid (Q6.out.trans (hb7.mono Q6.out.size))
          obtain ⟨a7, c7, rfl⟩ := ownsForm hr7
          have HR67 := Lib.hid (HR6.out.next hb7)
          have HR7 := Lib.hid hr7
          have hsz7 := Q7.out.size
          clear hb7 hr7
          refine hK _ _ (fun _ => HX5.out.next Q7.out) ?_
          clear hK K
          try simp only [Act.put, List.getElem_toArray, List.getElem_cons_succ, List.getElem_cons_zero, List.setIfInBounds_toArray, List.set_cons_zero, List.set_cons_succ]
          refine' wpAnyZ_step (i := 4) (o := _) rfl (by kernel_rfl) (fun K hK => ?_)
          refine step_append_sl _ (by rfl) (.tmp 30) (.tmp 32) 33 (by rfl) w5.heap.size 3 iN (.int .i64 0) 1 8 Try.underlying33 hiN hzN0 hzN1 hzN2 rfl (by decide) _ L1.length (L1.map (Value.int .i64)) (by rfl) HR67.out a7 L2.length c7 (L2.map (Value.int .i64)) (by rfl) HR7.out.news.2.1 (by rw [List.length_map, Nat.mul_one]) HR7.out.news.2.2 (num_all _) (by unfold maxLen; omega) (by omega) (by first | omega | exact hsz7) ?_
          intro va8 vc8 w8 hown8 hg8 hat8
          have Q8 := Lib.hid (Q7.out.grown hg8 Q7.out.size (fun x hx => (HR67.out.lt x hx).1))
          have hr8 : RowN w5.heap.size w8 (.slice va8 (L1.length + L2.length) vc8) (L1 ++ L2) := RowN.app hown8
          obtain ⟨L12, hL12⟩ : ∃ k, Hid (L1 ++ L2 = k) := ⟨_, Lib.hid rfl⟩
          have hl12 : L12.length = L1.length + L2.length := by rw [← hL12.out, List.length_append]
          have HR8 := Lib.hid hr8
          rw [hL12.out, ← hl12] at HR8
          rw [← hl12]
          refine hK _ _ (fun _ => HX5.out.next Q8.out) ?_
          clear hK K hown8 hg8 hat8 hr8
          have hl12' : L12.length ≤ 802 := by omega
          clear hl12
          try simp only [Act.put, List.getElem_toArray, List.getElem_cons_succ, List.getElem_cons_zero, List.setIfInBounds_toArray, List.set_cons_zero, List.set_cons_succ]
          refine' wpAnyZ_step (i := 6) (o := _) rfl (by kernel_rfl) (fun K hK => ?_)
          go_simp
          go_at_call 22
          refine (ids_any (d + 1) p _ _ 4 _ (PrC.mono (cw_next Q8.out) HP5.out)).mono ?_
          rintro e w9 ⟨v9, rfl, hr9, hb9⟩
          rw [hL4.out] at hr9
          have Q9 := Lib.hid (Q8.out.trans (hb9.mono Q8.out.size))
          obtain ⟨a9, c9, rfl⟩ := ownsForm hr9
          have HR89 := Lib.hid (HR8.out.next hb9)
          have HR9 := Lib.hid hr9
          have hsz9 := Q9.out.size
          clear hb9 hr9
          refine hK _ _ (fun _ => HX5.out.next Q9.out) ?_
          clear hK K
          try simp only [Act.put, List.getElem_toArray, List.getElem_cons_succ, List.getElem_cons_zero, List.setIfInBounds_toArray, List.set_cons_zero, List.set_cons_succ]
          refine' wpAnyZ_step (i := 7) (o := _) rfl (by kernel_rfl) (fun K hK => ?_)
          refine step_append_sl _ (by rfl) (.tmp 33) (.tmp 35) 33 (by rfl) w5.heap.size 3 iN (.int .i64 0) 1 8 Try.underlying33 hiN hzN0 hzN1 hzN2 rfl (by decide) _ L12.length (L12.map (Value.int .i64)) (by rfl) HR89.out a9 L4.length c9 (L4.map (Value.int .i64)) (by rfl) HR9.out.news.2.1 (by rw [List.length_map, Nat.mul_one]) HR9.out.news.2.2 (num_all _) (by unfold maxLen; omega) (by omega) (by first | omega | exact hsz9) ?_
          intro vaA vcA wA hownA hgA hatA
          have QA := Lib.hid (Q9.out.grown hgA Q9.out.size (fun x hx => (HR89.out.lt x hx).1))
          have hrA : RowN w5.heap.size wA (.slice vaA (L12.length + L4.length) vcA) (L12 ++ L4) := RowN.app hownA
          obtain ⟨LL, hLL⟩ : ∃ k, Hid (L12 ++ L4 = k) := ⟨_, Lib.hid rfl⟩
          have hll : LL.length = L12.length + L4.length := by rw [← hLL.out, List.length_append]
          have HRA := Lib.hid hrA
          rw [hLL.out, ← hll] at HRA
          rw [← hll]
          refine hK _ _ (fun _ => HX5.out.next QA.out) ?_
          clear hK K hownA hgA hatA hrA
          have hll' : LL.length ≤ 1000000 := by omega
          clear hll
          try simp only [Act.put, List.getElem_toArray, List.getElem_cons_succ, List.getElem_cons_zero, List.setIfInBounds_toArray, List.set_cons_zero, List.set_cons_succ]
          refine' wpAnyZ_step (i := 8) (o := _) rfl (by kernel_rfl) (fun K hK => ?_)
          go_simp
          refine hK _ _ (fun h => absurd rfl h) ?_
          clear hK K
          try simp only [Act.put, List.getElem_toArray, List.getElem_cons_succ, List.getElem_cons_zero, List.setIfInBounds_toArray, List.set_cons_zero, List.set_cons_succ]
          refine wpAnyZ_done (by kernel_rfl) ?_ _
          have HXA := Lib.hid (HX5.out.next QA.out)
          have HPA := Lib.hid (PrC.mono (cw_next QA.out) HP5.out)
          have HBA := Lib.hid (HB5.out.trans (QA.out.mono HB5.out.size))
          clear hS hq hl1 hl2 hl4 hl12'
          have HLS : Hid (idsP p 1 ++ idsP p 2 ++ idsP p 4 = LL) := Lib.hid (by rw [hL1.out, hL2.out, hL4.out, hL12.out, hLL.out])
          go_wp2_with fail
          refine (pick_any _ LL _ n _ HRA.out hn.1 hn.2 hll').mono ?_
          rintro e wB ⟨rfl, hbB⟩
          obtain ⟨ID, hID⟩ : ∃ k, Hid (pickP LL n = k) := ⟨_, Lib.hid rfl⟩
          rw [hID.out]
          have HXB := Lib.hid (HXA.out.next hbB)
          have HPB := Lib.hid (PrC.mono (cw_next hbB) HPA.out)
          have HBB := Lib.hid (HBA.out.trans (hbB.mono HBA.out.size))
          clear hbB hll'
          by_cases hz : ID = 0
          · have hz1 : (ID == 0) = true := by simpa using hz
            clear hz
            go_wp2_with fail
            go_ret
            exact ⟨rfl, HBB.out⟩
          · have hz1 : (ID == 0) = false := by simpa using hz
            obtain ⟨s, kp, hpk, hkd⟩ := ids_three HMAY.out (n := n) (by rw [HLS.out, hID.out]; exact hz)
            rw [HLS.out, hID.out] at hpk
            have HPK := Lib.hid hpk
            have HKD := Lib.hid hkd
            clear hz hpk hkd
            have p0 := HXB.out 0 _ rfl
            have p1 := HXB.out 1 _ rfl
            go_wp2_with fail
            refine (stmt6_any d p _ _ ID _ HPB.out).mono ?_
            rintro e wC ⟨la, ka, aa, ta, ea, lc, kc, ac, tc, ec, rfl, hh9, hok9, i1, i2, i3, i4, hbC⟩
            rw [HPK.out.it.1] at hh9 hok9 i1 i2 i3 i4
            rw [HPK.out.it.1]
            have HH9 := Lib.hid hh9
            have HOK := Lib.hid hok9
            have HJ := Lib.hid (And.intro i1 (And.intro i2 (And.intro i3 i4)))
            clear hh9 hok9 i1 i2 i3 i4
            have HXC := Lib.hid (HXB.out.next hbC)
            have HPC := Lib.hid (PrC.mono (cw_next hbC) HPB.out)
            have HBC := Lib.hid (HBB.out.trans (hbC.mono HBB.out.size))
            clear hbC
            clear p0 p1
            go_upto_region 12 with fail
            refine cut_world (fun wx => Below wC.heap.size wC wx ∧ BoxAt wx wC.heap.size [.int .i64 s.id, .int .i64 s.kind, .slice la s.labels.length lc, .string s.nm, .string s.proc, .int .i64 s.x.op, .int .i64 s.x.n, .string s.x.nm, .slice ka s.x.ks.length kc, .bool s.has, .slice aa s.args.length ac, .slice ta s.thn.length tc, .slice ea s.els.length ec] ∧ Free wx wC.heap.size) ⟨boxed wC _, box_new wC #[.int .i64 s.id, .int .i64 s.kind, .slice la s.labels.length lc, .string s.nm, .string s.proc, .int .i64 s.x.op, .int .i64 s.x.n, .string s.x.nm, .slice ka s.x.ks.length kc, .bool s.has, .slice aa s.args.length ac, .slice ta s.thn.length tc, .slice ea s.els.length ec] 41, fun j => by simp [go_sem]⟩ ?_
            rintro wD ⟨hbD, htD, hfD⟩
            obtain ⟨SB, hSB⟩ : ∃ b, Hid (wC.heap.size = b) := ⟨_, Lib.hid rfl⟩
            rw [hSB.out] at htD hfD
            try rw [hSB.out]
            have hsw : w.heap.size < SB := by rw [← hSB.out]; exact (cell_lt (HXC.out 0 _ rfl))
            have HTD := Lib.hid htD
            have HFD := Lib.hid hfD
            have HBCD := Lib.hid hbD
            have HXD := Lib.hid (HXC.out.next hbD)
            have HPD := Lib.hid (PrC.mono (cw_next hbD) HPC.out)
            have HBD := Lib.hid (HBC.out.trans (hbD.mono HBC.out.size))
            clear hbD htD hfD
            have HWT := Lib.hid (picked_wt HWP.out HPK.out)
            by_cases hk4 : s.kind = 4
            · have hkb : (s.kind == 4) = true := by rw [hk4]; rfl
              have HK := Lib.hid hk4
              clear hk4
              have t1 := HTD.out 1 _ rfl
              have tq := HTD.out 4 _ rfl
              have fq := HFD.out 4
              go_upto_region 15 with fail
              have hbox : BoxAt (wD.setCell ⟨SB, 4, none⟩ (.string nm)) SB [.int .i64 s.id, .int .i64 s.kind, .slice la s.labels.length lc, .string s.nm, .string nm, .int .i64 s.x.op, .int .i64 s.x.n, .string s.x.nm, .slice ka s.x.ks.length kc, .bool s.has, .slice aa s.args.length ac, .slice ta s.thn.length tc, .slice ea s.els.length ec] := HTD.out.put (j := 4) (by simp)
              have hbe : Below wC.heap.size wC (wD.setCell ⟨SB, 4, none⟩ (.string nm)) := HBCD.out.setCell (p := ⟨SB, 4, none⟩) (by rw [hSB.out]; exact Nat.le_refl _) _
              refine cut_world (fun wx => Below w.heap.size w wx ∧ Below wC.heap.size wC wx ∧ BoxAt wx SB [.int .i64 s.id, .int .i64 s.kind, .slice la s.labels.length lc, .string s.nm, .string nm, .int .i64 s.x.op, .int .i64 s.x.n, .string s.x.nm, .slice ka s.x.ks.length kc, .bool s.has, .slice aa s.args.length ac, .slice ta s.thn.length tc, .slice ea s.els.length ec] ∧ BoxAt wx w.heap.size [.slice ga p.globals.length gc, .slice pa p.procs.length pc]) ⟨HBD.out.setCell (p := ⟨SB, 4, none⟩) (Nat.le_of_lt hsw) _, hbe, hbox, HXD.out.set (by omega)⟩ ?_
              clear t1 tq fq hbox hbe hkb
              rintro wE ⟨hbE, hbe, htE, hxE⟩
              have HBE := Lib.hid hbE
              have HXE := Lib.hid hxE
              have HTE := Lib.hid htE
              have HHE : Hid (Hang (d + 1) wE (setProc s nm) (.slice la s.labels.length lc) (.slice ka s.x.ks.length kc) (.slice aa s.args.length ac) (.slice ta s.thn.length tc) (.slice ea s.els.length ec)) := Lib.hid (by
                have h1 := HH9.out.next hbe
                exact ⟨h1.lab, h1.kid, h1.arg, h1.thn, h1.els⟩)
              have HPE := Lib.hid (PrC.mono (cw_next hbe) HPC.out)
              clear hbE hbe htE hxE
              have HSC := Lib.hid (scope_new4 HWELL.out HPK.out HK.out hNB.out HUN.out)
              have HRM : Hid (RoomP (putPr (setProc s nm) p)) := Lib.hid (room_put HMAY.out HWP.out (set_said HWT.out nm).2 (by
                have h1 := wtTs_len s.labels
                have h3 := HWT.out
                rw [wtS_eq] at h3
                show s.labels.length ≤ 100000
                omega))
              have p0 := HXE.out 0 _ rfl
              have p1 := HXE.out 1 _ rfl
              go_wp2_with (refine wpList_load_mid rfl 41 (.tmp 9) rfl SB 0 rfl [.int .i64 s.id, .int .i64 s.kind, .slice la s.labels.length lc, .string s.nm, .string nm, .int .i64 s.x.op, .int .i64 s.x.n, .string s.x.nm, .slice ka s.x.ks.length kc, .bool s.has, .slice aa s.args.length ac, .slice ta s.thn.length tc, .slice ea s.els.length ec] _ (fun j v hv => by rw [Nat.zero_add]; exact HTE.out j v hv) Try.underlying41 rfl (by kernel_rfl) ?_)
              refine (put4_any (d + 1) s nm HOK.out HJ.out.1 HJ.out.2.1 HJ.out.2.2.1 HJ.out.2.2.2 HNMS.out (set_light HWT.out nm).2 la ka aa ta ea lc kc ac tc ec (d + 1) p _ _ _ HPE.out HWP.out HHE.out).mono ?_
              rintro e wF ⟨gq, pq, rfl, hpq, hbF⟩
              obtain ⟨gqa, gqc, rfl, -, -⟩ := hpq.1.form
              obtain ⟨pqa, pqc, rfl, -, -⟩ := hpq.2.form
              have HPQ := Lib.hid (PrC.mono only_out hpq)
              have HBF := Lib.hid (HBE.out.trans (hbF.mono HBE.out.size))
              clear hbF hpq p0 p1
              go_wp2_with fail
              refine (scheck_any (d + 1 + (d + 1)) (putPr (setProc s nm) p) _ _ _ HPQ.out HRM.out).mono ?_
              rw [HSC.out]
              rintro e wG ⟨rfl, hbG⟩
              have HBG := Lib.hid (HBF.out.trans (hbG.mono HBF.out.size))
              clear hbG
              have heq := fault_same 5 ID
              go_wp2_with fail
              go_ret
              exact ⟨rfl, HBG.out⟩
            · have hkb : (s.kind == 4) = false := by simpa using hk4
              have HK : Hid (s.kind = 1 ∨ s.kind = 2) := Lib.hid (by rcases HKD.out with h | h | h
                                                                     · exact .inl h
                                                                     · exact .inr h
                                                                     · exact absurd h hk4)
              clear hk4
              have t1 := HTD.out 1 _ rfl
              have tq := HTD.out 3 _ rfl
              have fq := HFD.out 3
              go_upto_region 15 with fail
              have hbox : BoxAt (wD.setCell ⟨SB, 3, none⟩ (.string nm)) SB [.int .i64 s.id, .int .i64 s.kind, .slice la s.labels.length lc, .string nm, .string s.proc, .int .i64 s.x.op, .int .i64 s.x.n, .string s.x.nm, .slice ka s.x.ks.length kc, .bool s.has, .slice aa s.args.length ac, .slice ta s.thn.length tc, .slice ea s.els.length ec] := HTD.out.put (j := 3) (by simp)
              have hbe : Below wC.heap.size wC (wD.setCell ⟨SB, 3, none⟩ (.string nm)) := HBCD.out.setCell (p := ⟨SB, 3, none⟩) (by rw [hSB.out]; exact Nat.le_refl _) _
              refine cut_world (fun wx => Below w.heap.size w wx ∧ Below wC.heap.size wC wx ∧ BoxAt wx SB [.int .i64 s.id, .int .i64 s.kind, .slice la s.labels.length lc, .string nm, .string s.proc, .int .i64 s.x.op, .int .i64 s.x.n, .string s.x.nm, .slice ka s.x.ks.length kc, .bool s.has, .slice aa s.args.length ac, .slice ta s.thn.length tc, .slice ea s.els.length ec] ∧ BoxAt wx w.heap.size [.slice ga p.globals.length gc, .slice pa p.procs.length pc]) ⟨HBD.out.setCell (p := ⟨SB, 3, none⟩) (Nat.le_of_lt hsw) _, hbe, hbox, HXD.out.set (by omega)⟩ ?_
              clear t1 tq fq hbox hbe hkb
              rintro wE ⟨hbE, hbe, htE, hxE⟩
              have HBE := Lib.hid hbE
              have HXE := Lib.hid hxE
              have HTE := Lib.hid htE
              have HHE : Hid (Hang (d + 1) wE (setNm s nm) (.slice la s.labels.length lc) (.slice ka s.x.ks.length kc) (.slice aa s.args.length ac) (.slice ta s.thn.length tc) (.slice ea s.els.length ec)) := Lib.hid (by
                have h1 := HH9.out.next hbe
                exact ⟨h1.lab, h1.kid, h1.arg, h1.thn, h1.els⟩)
              have HPE := Lib.hid (PrC.mono (cw_next hbe) HPC.out)
              clear hbE hbe htE hxE
              have HSC := Lib.hid (scope_new1 HWELL.out HPK.out HK.out hNB.out HUN.out)
              have HRM : Hid (RoomP (putPr (setNm s nm) p)) := Lib.hid (room_put HMAY.out HWP.out (set_said HWT.out nm).1 (by
                have h1 := wtTs_len s.labels
                have h3 := HWT.out
                rw [wtS_eq] at h3
                show s.labels.length ≤ 100000
                omega))
              have p0 := HXE.out 0 _ rfl
              have p1 := HXE.out 1 _ rfl
              go_wp2_with (refine wpList_load_mid rfl 41 (.tmp 9) rfl SB 0 rfl [.int .i64 s.id, .int .i64 s.kind, .slice la s.labels.length lc, .string nm, .string s.proc, .int .i64 s.x.op, .int .i64 s.x.n, .string s.x.nm, .slice ka s.x.ks.length kc, .bool s.has, .slice aa s.args.length ac, .slice ta s.thn.length tc, .slice ea s.els.length ec] _ (fun j v hv => by rw [Nat.zero_add]; exact HTE.out j v hv) Try.underlying41 rfl (by kernel_rfl) ?_)
              refine (put1_any (d + 1) s nm HOK.out HJ.out.1 HJ.out.2.1 HJ.out.2.2.1 HJ.out.2.2.2 HNMS.out (set_light HWT.out nm).1 la ka aa ta ea lc kc ac tc ec (d + 1) p _ _ _ HPE.out HWP.out HHE.out).mono ?_
              rintro e wF ⟨gq, pq, rfl, hpq, hbF⟩
              obtain ⟨gqa, gqc, rfl, -, -⟩ := hpq.1.form
              obtain ⟨pqa, pqc, rfl, -, -⟩ := hpq.2.form
              have HPQ := Lib.hid (PrC.mono only_out hpq)
              have HBF := Lib.hid (HBE.out.trans (hbF.mono HBE.out.size))
              clear hbF hpq p0 p1
              go_wp2_with fail
              refine (scheck_any (d + 1 + (d + 1)) (putPr (setNm s nm) p) _ _ _ HPQ.out HRM.out).mono ?_
              rw [HSC.out]
              rintro e wG ⟨rfl, hbG⟩
              have HBG := Lib.hid (HBF.out.trans (hbG.mono HBF.out.size))
              clear hbG
              have heq := fault_same 5 ID
              go_wp2_with fail
              go_ret
              exact ⟨rfl, HBG.out⟩
    · have hz1 : (SC == 0) = false := by simpa using hz
      have hz2 : (SC != 0) = true := by rw [bne, hz1]; rfl
      have HZ := Lib.hid hz
      clear hz
      go_wp2_with fail
      go_ret
      exact ⟨rfl, HB4.out⟩
end Go.Proofs.Ytghlmengcidmdaa.Tr
