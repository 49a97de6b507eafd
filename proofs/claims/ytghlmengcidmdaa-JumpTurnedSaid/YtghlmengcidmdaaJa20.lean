/- Parts of JumpL: walks and plain laws that later texts use. Conditions: as each statement says. -/
import Derived.Test.YtghlmengcidmdaaJa0
import Derived.Test.YtghlmengcidmdaaJa1
import Derived.Test.YtghlmengcidmdaaJa2
import Derived.Test.YtghlmengcidmdaaJa3
import Derived.Test.YtghlmengcidmdaaJa4
import Derived.Test.YtghlmengcidmdaaJa5
import Derived.Test.YtghlmengcidmdaaJa6
import Derived.Test.YtghlmengcidmdaaJa7
import Derived.Test.YtghlmengcidmdaaJa8
import Derived.Test.YtghlmengcidmdaaJa9
import Derived.Test.YtghlmengcidmdaaJa10
import Derived.Test.YtghlmengcidmdaaJa11
import Derived.Test.YtghlmengcidmdaaJa12
import Derived.Test.YtghlmengcidmdaaJa13
import Derived.Test.YtghlmengcidmdaaJa14
import Derived.Test.YtghlmengcidmdaaJa15
import Derived.Test.YtghlmengcidmdaaJa16
import Derived.Test.YtghlmengcidmdaaJa17
import Derived.Test.YtghlmengcidmdaaJa18
import Derived.Test.YtghlmengcidmdaaJa19
import Derived.Outline
import Derived.IntWalk
import Derived.Deep.QuietTactic
import Derived.BigQuiet
import Derived.Deep.RegionWith
import Derived.Deep.DeepCutAuto
import Derived.Laws.Cover3
import Derived.Deep.RegionHeld3
import Derived.OwnWalk
import Derived.OneCell
import Derived.Deep.AppendLies
import Derived.Deep.RegionLaw
import Derived.Deep.CutBlock
import Derived.StillTailTactics
import Derived.WalkKit
import Derived.Test.YtghlmengcidmdaaRows
import Derived.WalkSpells
import Derived.Lib.Hide
import Derived.Below
import Derived.Laws.BitsAllLaws
import Derived.Laws.StructEq
import Derived.Maps.Range
import Derived.Lib.SmallJoins
import Derived.Deep.Upon
import Derived.Maps.AppendAt
import Derived.Laws.OwnMore
import Derived.WalkSmall
import Derived.RegionTactic
import Derived.OrdersHeld
import Derived.Deep.MidRow
import Derived.Deep.Slices
import Derived.Deep.Fields
import Derived.SliceStrings
import Derived.ChangeSlices
/- What join, leads, Labels, At and Loop of jump tell. Conditions: what they are handed lies in memory, and there is room. -/
namespace Go.Proofs.Ytghlmengcidmdaa.Tr
open Go.RowKit Go.Proofs.Ytghlmengcidmdaa.Lx Go.Proofs.Ytghlmengcidmdaa.Wd
set_option linter.unusedSimpArgs false
theorem twice_yes2 {seen l : List ByteArray} {k : Nat} (hk : k < l.length) (h : inB l[k] (seen ++ l.take k) = true) : twiceB (seen ++ l) = true := by
  refine twice_yes (k := seen.length + k) (by rw [List.length_append]; omega) ?_
  rw [inB_iff] at h ⊢
  rw [List.getElem_append_right (by omega), List.take_append]
  have e1 : seen.length + k - seen.length = k := by omega
  simp only [e1]
  rwa [List.take_of_length_le (l := seen) (by omega)]
theorem twice_one {L : List ByteArray} {s : ByteArray} (h : twiceB L = false) (hs : inB s L = false) : twiceB (L ++ [s]) = false := by
  have h1 := nodup_of h
  have h2 := inB_no.1 hs
  unfold twiceB
  rw [Bool.not_eq_false', decide_eq_true_iff, List.nodup_append]
  refine ⟨h1, by simp, fun a ha b hb => ?_⟩
  simp only [List.mem_singleton] at hb
  subst hb
  intro e
  subst e
  exact h2 ha
/-- What join leaves. -/
def Joined (B : Nat) (v : Value) (seen l : List ByteArray) (w : World) (e : Ending) (w' : World) : Prop := ∃ v', e = .returned (.tuple #[v', .bool (!twiceB (seen ++ l))]) ∧ (twiceB (seen ++ l) = false → RowS B w' v' (seen ++ l)) ∧ Gr w v w' v' ∧ ∃ a n c, v' = .slice a n c
set_option maxHeartbeats 4000000 in
set_option maxRecDepth 100000 in
theorem join_any (B : Nat) (seen l : List ByteArray) (v lv : Value) (w : World) (hr : RowS B w v seen) (hB : B ≤ w.heap.size) (hl : StrC (lowC B w) lv l) (hm : seen.length + l.length ≤ 1000000) (hn : twiceB seen = false) :
    Calls Try.prog 103 #[v, lv] w (Joined B v seen l w) := by
  obtain ⟨i0, hi, hz0, hz1, hz2⟩ := info_parts infoStr
  obtain ⟨la, lc, rfl, hl1, hl2⟩ := hl.form
  have hll : l.length ≤ 9223372036854775807 := Nat.le_trans hl1 hl2
  obtain ⟨va, vc, rfl⟩ := ownsForm hr.1
  have HR := Lib.hid hr
  have HL := Lib.hid hl
  have HN := Lib.hid hn
  clear hr hl hn hl1 hl2
  go_enter Try.func103, Try.ntmps103
  go_wp2_with fail
  go_loopw [10, 0] (fun i v wr => ∃ (k : Nat) (v0 : Value), k ≤ l.length ∧ i = .int .i64 k ∧ v = v0 ∧ RowS B wr v0 (seen ++ l.take k) ∧ Gr w (.slice va seen.length vc) wr v0 ∧ twiceB (seen ++ l.take k) = false) (fun i _ _ => (l.length - intOf i).toNat)
  case atStart =>
    refine ⟨0, _, by omega, rfl, rfl, ?_, ⟨World.grownBy.refl _ _, fun g h => .inl h⟩, ?_⟩
    · rw [List.take_zero, List.append_nil]; exact HR.out
    · rw [List.take_zero, List.append_nil]; exact HN.out
  case round =>
    obtain ⟨k, v0, hk, rfl, rfl, hrk, hgr, hnk⟩ := hrel
    obtain ⟨w2, hw2⟩ : ∃ x : World, x = wr := ⟨_, rfl⟩
    subst hw2
    have HR2 := Lib.hid hrk
    have HG2 := Lib.hid hgr
    have HN2 := Lib.hid hnk
    have hBw : B ≤ w2.heap.size := Nat.le_trans hB hgr.1.size
    have HL2 := Lib.hid (StrC.to (StrC.mono (Cs.le_trans (low_grown hgr.1 fun g hg => (HR.out.lt g hg).1) only_out) HL.out))
    obtain ⟨ra, rc, rfl⟩ := ownsForm hrk.1
    clear hrk hgr hnk
    by_cases hlt : k < l.length
    · have hlt' : (k : Int) < (l.length : Int) := by omega
      have h0k : (0 : Int) ≤ (k : Int) := by omega
      have hne : l ≠ [] := by intro h; rw [h] at hlt; simp at hlt
      obtain ⟨g, off, cap', hv, hcells⟩ := HL2.out.cells hne
      simp only [Value.slice.injEq] at hv
      obtain ⟨rfl, -, rfl⟩ := hv
      obtain ⟨hsz, c0⟩ := hcells k hlt
      have hty := fun h => twice_yes2 (seen := seen) hlt h
      have hst : l.take (k + 1) = l.take k ++ [l[k]] := List.take_succ_eq_append_getElem hlt
      obtain ⟨m, hm'⟩ : ∃ m, Hid (l[k] = m) := ⟨_, Lib.hid rfl⟩
      rw [hm'.out] at c0 hsz hst hty
      obtain ⟨LK, hLK⟩ : ∃ L, Hid (seen ++ l.take k = L) := ⟨_, Lib.hid rfl⟩
      have hlk : LK.length ≤ 1000000 := by rw [← hLK.out, List.length_append, List.length_take]; omega
      rw [hLK.out] at hty
      have hst2 : seen ++ l.take (k + 1) = LK ++ [m] := by rw [hst, ← List.append_assoc, hLK.out]
      have HTY := Lib.hid hty
      have HST := Lib.hid hst2
      have HSZ := Lib.hid hsz
      rw [hLK.out] at HR2 HN2 HG2
      try rw [hLK.out]
      have HS2 := Lib.hid (HR2.out.strs (by omega))
      clear hcells hne hsz hst hst2 hty
      go_wp2_with fail
      refine (contains_any LK _ m _ HS2.out).mono ?_
      rintro e w' ⟨rfl, rfl⟩
      obtain ⟨CB, hCB⟩ : ∃ b, Hid ((at_ m LK).isSome = b) := ⟨_, Lib.hid rfl⟩
      rw [hCB.out]
      cases CB with
      | true =>
        have htw : twiceB (seen ++ l) = true := HTY.out hCB.out
        have HTW := Lib.hid htw
        clear htw
        go_wp2_with fail
        refine bodyPost_ret (v := .tuple #[.slice ra LK.length rc, .bool false]) (by simp [results, Try.results103, go_sem]) rfl ?_
        refine ⟨.slice ra LK.length rc, by rw [HTW.out]; rfl, fun h => ?_, HG2.out, _, _, _, rfl⟩
        rw [HTW.out] at h; cases h
      | false =>
        go_wp2_with (at_builtin; refine wpList_append_lies _ rfl (.tmp 18) (.tmp 20) 22 rfl B 9 i0 (.string ⟨#[]⟩) 1 16 Try.underlying22 hi hz0 hz1 hz2 rfl (by decide) _ _ _ rfl ((HR2.out.1.alloc _)) ⟨_, 0, none⟩ 1 1 [.string m] rfl rfl (one_str _ _ _) str_cells (by decide) (by unfold maxLen; omega) (by omega) (by first | omega | (simp; omega)) _ rfl ?_)
        intro g4 cap4 w4 hown4 hg4 hat4 hlt4
        have hgg := (grown_of (boxed w2 (.cells #[.string m] 9)) (Value.slice ra LK.length rc).ownBlock).trans hg4
        have HR4 := Lib.hid (RowS.one hown4 HR2.out.2 HSZ.out)
        have hgr4 : Gr w2 (.slice ra LK.length rc) w4 (.slice (some ⟨g4, 0, none⟩) (LK.length + 1) cap4) := ⟨hgg, fun g hg => by
          have : g = g4 := by simpa [Value.ownBlock, eq_comm] using hg
          subst this
          rcases hat4 with h | h
          · exact .inl h
          · right; rw [h]; first | exact Nat.le_refl _ | (simp; done) | (simp; omega) | (rw [World.size_alloc]; omega)⟩
        have HG4 := Lib.hid (HG2.out.then hgr4)
        have hn4 : twiceB (seen ++ l.take (k + 1)) = false := by rw [HST.out]; exact twice_one HN2.out hCB.out
        have HN4 := Lib.hid hn4
        clear hown4 hg4 hat4 hlt4 hgg hgr4 hn4
        go_wp2_with fail
        go_roundw
        case rel => exact ⟨k + 1, _, by omega, by go_num, rfl, by rw [HST.out]; exact HR4.out, HG4.out, HN4.out⟩
        case measure => simp [intOf]; omega
    · have hlt' : ¬ (k : Int) < (l.length : Int) := by omega
      have hkl : l.take k = l := List.take_of_length_le (by omega)
      obtain ⟨LX, hLX⟩ : ∃ L, Hid (seen ++ l.take k = L) := ⟨_, Lib.hid rfl⟩
      have hlx : seen ++ l = LX := by rw [← hLX.out, hkl]
      rw [hLX.out] at HR2 HN2 HG2
      try rw [hLX.out]
      have HLX := Lib.hid hlx
      clear hkl hlx
      go_wp2_with fail
      refine bodyPost_ret (v := .tuple #[.slice ra LX.length rc, .bool true]) (by simp [results, Try.results103, go_sem]) rfl ?_
      rw [← HLX.out] at HN2 HR2 HG2
      refine ⟨.slice ra (seen ++ l).length rc, by rw [HN2.out, HLX.out]; rfl, fun _ => HR2.out, HG2.out, _, _, _, rfl⟩
set_option maxHeartbeats 4000000 in
set_option maxRecDepth 100000 in
theorem leads_any (D : Nat) (p : Pr) (Y : Nat) (i : Nat) (hi : i < p.procs.length) (f : Pc) (hfi : p.procs[i] = f) (t : Fi) (htp : t.proc = i) (la ka aa ta ea : Option Addr) (lc kc ac tc ec : Nat) (w : World) (hs : SheetAt D p w Y) (hm : cntP p.procs ≤ 1000000) :
    Calls Try.prog 104 #[.pointer (some ⟨Y, 0, none⟩), .agg #[.int .i64 t.s.id, .int .i64 t.s.kind, .slice la t.s.labels.length lc, .string t.s.nm, .string t.s.proc, .int .i64 t.s.x.op, .int .i64 t.s.x.n, .string t.s.x.nm, .slice ka t.s.x.ks.length kc, .bool t.s.has, .slice aa t.s.args.length ac, .slice ta t.s.thn.length tc, .slice ea t.s.els.length ec, .int .i64 t.proc, .int .i64 t.up, .int .i64 t.next, .int .i64 t.loop]] w fun e w' => e = .returned (.bool (leadsP f t.s t.loop)) ∧ Below w.heap.size w w' := by
  have HS := Lib.hid hs
  have HFI := Lib.hid hfi
  obtain ⟨RR, hRR⟩ : ∃ b, Hid (leadsP f t.s t.loop = b) := ⟨_, Lib.hid rfl⟩
  rw [hRR.out, htp]
  clear hs hfi
  go_enter Try.func104, Try.ntmps104
  go_upto_region 1 with fail
  refine cut_world (fun wx => Below w.heap.size w wx ∧ BoxAt wx w.heap.size [.int .i64 t.s.id, .int .i64 t.s.kind, .slice la t.s.labels.length lc, .string t.s.nm, .string t.s.proc, .int .i64 t.s.x.op, .int .i64 t.s.x.n, .string t.s.x.nm, .slice ka t.s.x.ks.length kc, .bool t.s.has, .slice aa t.s.args.length ac, .slice ta t.s.thn.length tc, .slice ea t.s.els.length ec, .int .i64 i, .int .i64 t.up, .int .i64 t.next, .int .i64 t.loop]) ⟨boxed w _, box_new w #[.int .i64 t.s.id, .int .i64 t.s.kind, .slice la t.s.labels.length lc, .string t.s.nm, .string t.s.proc, .int .i64 t.s.x.op, .int .i64 t.s.x.n, .string t.s.x.nm, .slice ka t.s.x.ks.length kc, .bool t.s.has, .slice aa t.s.args.length ac, .slice ta t.s.thn.length tc, .slice ea t.s.els.length ec, .int .i64 i, .int .i64 t.up, .int .i64 t.next, .int .i64 t.loop] 95⟩ ?_
  rintro w1 ⟨hb1, hx1⟩
  have HB1 := Lib.hid hb1
  have t1 := hx1 1 _ rfl
  have t3 := hx1 3 _ rfl
  have t13 := hx1 13 _ rfl
  have t16 := hx1 16 _ rfl
  have HS1 := Lib.hid (HS.out.next hb1)
  clear hb1 hx1
  have hlead : RR = if t.s.kind = 7 ∨ t.s.kind = 8 then !(t.loop == 0) else if t.s.kind = 10 then inB t.s.nm (labsOf f) else true := by rw [← hRR.out]; rfl
  by_cases h7 : t.s.kind = 7
  · have hb7 : (t.s.kind == 7) = true := by rw [h7]; rfl
    have hr : RR = !(t.loop == 0) := by rw [hlead, if_pos (.inl h7)]
    clear hlead h7
    subst hr
    go_wp2_with fail
    go_ret
    exact ⟨rfl, HB1.out⟩
  · have hb7 : (t.s.kind == 7) = false := by simpa using h7
    by_cases h8 : t.s.kind = 8
    · have hb8 : (t.s.kind == 8) = true := by rw [h8]; rfl
      have hr : RR = !(t.loop == 0) := by rw [hlead, if_pos (.inr h8)]
      clear hlead h7 h8
      subst hr
      go_wp2_with fail
      go_ret
      exact ⟨rfl, HB1.out⟩
    · have hb8 : (t.s.kind == 8) = false := by simpa using h8
      have hl2 : RR = if t.s.kind = 10 then inB t.s.nm (labsOf f) else true := by rw [hlead, if_neg (fun h => h.elim h7 h8)]
      clear hlead h7 h8
      by_cases h10 : t.s.kind = 10
      · have hb10 : (t.s.kind == 10) = true := by rw [h10]; rfl
        have hr : RR = (bearP f t.s.nm).2 := by rw [hl2, if_pos h10, bear_in]
        have HRR2 := Lib.hid hr
        clear hl2 h10 hr
        go_wp2_with fail
        refine (shat_any D p Y i hi f HFI.out t.s.nm _ HS1.out hm).mono ?_
        obtain ⟨B1, hB1⟩ : ∃ x, Hid ((bearP f t.s.nm).1 = x) := ⟨_, Lib.hid rfl⟩
        rw [hB1.out, ← HRR2.out]
        rintro e w2 ⟨rfl, hb2⟩
        have HB2 := Lib.hid (HB1.out.trans (hb2.mono HB1.out.size))
        clear hb2
        go_wp2_with fail
        go_ret
        exact ⟨rfl, HB2.out⟩
      · have hb10 : (t.s.kind == 10) = false := by simpa using h10
        have hr : RR = true := by rw [hl2, if_neg h10]
        clear hl2 h10
        subst hr
        go_wp2_with fail
        go_ret
        exact ⟨rfl, HB1.out⟩
/-- A procedure by its name, where names are well. -/
def wellPc (p : Pr) (s : ByteArray) : Option Pc := if (scopeP p).1 = 0 then pcOf p.procs s else none
def jlabsP (p : Pr) (s : ByteArray) : List ByteArray := match wellPc p s with
  | some f => labsOf f
  | none => []
def jatP (p : Pr) (s label : ByteArray) : Int × Bool := match wellPc p s with
  | some f => bearP f label
  | none => (0, false)
def jloopP (p : Pr) (id : Int) : Int := if (scopeP p).1 = 0 then loopP p id else 0
theorem jlabs_room {p : Pr} (h : RoomP p) (s : ByteArray) : (jlabsP p s).length ≤ 300000 := by
  unfold jlabsP wellPc
  split
  · rename_i f hf
    split at hf
    · exact h.labs f (List.mem_of_find?_eq_some hf)
    · cases hf
  · simp
set_option maxHeartbeats 4000000 in
set_option maxRecDepth 100000 in
theorem jloop_any (d : Nat) (p : Pr) (gv pv : Value) (id : Int) (w : World) (hp : PrC (cw w) d gv pv p) (hroom : RoomP p) (hid : InI id) :
    Calls Try.prog 50 #[.agg #[gv, pv], .int .i64 id] w fun e w' => e = .returned (.tuple #[.int .i64 (jloopP p id), .bool (!(jloopP p id == 0))]) ∧ Below w.heap.size w w' := by
  obtain ⟨RR, hRR⟩ : ∃ b, Hid (jloopP p id = b) := ⟨_, Lib.hid rfl⟩
  rw [hRR.out]
  have HROOM := Lib.hid hroom
  clear hroom
  obtain ⟨ga, gc, rfl, hgl1, hgl2⟩ := hp.1.form
  obtain ⟨pa, pc, rfl, hl1, hl2⟩ := hp.2.form
  have hpl : p.procs.length ≤ 9223372036854775807 := Nat.le_trans hl1 hl2
  have HP := Lib.hid hp
  clear hp hl1 hl2 hgl1 hgl2
  go_enter Try.func50, Try.ntmps50
  go_upto_region 1 with fail
  refine cut_world (fun wx => Below w.heap.size w wx ∧ BoxAt wx w.heap.size [.slice ga p.globals.length gc, .slice pa p.procs.length pc]) ⟨boxed _ _, box_new w #[.slice ga p.globals.length gc, .slice pa p.procs.length pc] 25⟩ ?_
  rintro w1 ⟨hb1, hx1⟩
  have HB1 := Lib.hid hb1
  have HX1 := Lib.hid hx1
  have HP1 := Lib.hid (PrC.mono (cw_next hb1) HP.out)
  clear hb1 hx1
  have x0 := HX1.out 0 _ rfl
  have x1 := HX1.out 1 _ rfl
  go_wp2_with fail
  refine (jsheet_any d p _ _ _ HP1.out HROOM.out).mono ?_
  intro e w2 htold
  unfold SheetTold at htold
  by_cases hz : (scopeP p).1 = 0
  · rw [if_pos hz] at htold
    obtain ⟨Y, rfl, hst, hb2⟩ := htold
    have HZ := Lib.hid hz
    have HS2 := Lib.hid hst
    have HX2 := Lib.hid (HX1.out.next hb2)
    have HP2 := Lib.hid (PrC.mono (cw_next hb2) HP1.out)
    have HB2 := Lib.hid (HB1.out.trans (hb2.mono HB1.out.size))
    clear hb2 hst hz x0 x1
    have hmay := (scope_code HZ.out).1
    have HMAY := Lib.hid hmay
    clear hmay
    go_wp2_with fail
    refine (has_any d p Y id _ HS2.out).mono ?_
    rintro e w' ⟨rfl, rfl⟩
    have hlen : (sheetOf p).length = cntP p.procs := by unfold sheetOf; rw [sheetPs_len]; simp
    by_cases hin : 1 ≤ id ∧ id ≤ ((sheetOf p).length : Int)
    · rw [decide_eq_true hin.1, decide_eq_true hin.2, Bool.and_self]
      obtain ⟨B, gv2, pv2, lov, hiv, v, rows, hsh, -⟩ := HS2.out
      have hrow := hsh.sh.row.sl
      have y2 := hsh.sh.box 2 _ rfl
      obtain ⟨va, vc, rfl, hv1, hv2⟩ := hrow.form
      have hlk : (id - 1).toNat < (sheetOf p).length := by omega
      obtain ⟨gi, oi, hvi, hfi⟩ := its_at hrow hlk
      cases hvi
      have hls := loop_sheet HMAY.out hin.1 (List.getElem?_eq_getElem hlk)
      obtain ⟨K, hK⟩ : ∃ K : Nat, K = (id - 1).toNat := ⟨_, rfl⟩
      have hidk : id = (K : Int) + 1 := by omega
      have hklt : K < (sheetOf p).length := by omega
      simp only [← hK] at hfi hls
      obtain ⟨t, ht⟩ : ∃ t, Hid ((sheetOf p)[K] = t) := ⟨_, Lib.hid rfl⟩
      rw [ht.out] at hfi hls
      have hr : RR = t.loop := by rw [← hRR.out]; unfold jloopP; rw [if_pos HZ.out]; exact hls
      obtain ⟨LN, hLN⟩ : ∃ n, (sheetOf p).length = n := ⟨_, rfl⟩
      have e16 : w2.cell? ⟨gi, oi + K * 17 + 16, none⟩ = some (.int .i64 t.loop) := hfi.2.2.2.2.1
      have hsub : IntKind.i64.wrap (id - 1) = (K : Int) := by rw [IntWalk.i64_in _ (by have := hid.1; have := hid.2; omega)]; omega
      have h0k : (0 : Int) ≤ (K : Int) := by omega
      have hkl2 : (K : Int) < (((sheetOf p).length : Nat) : Int) := by omega
      subst hr
      clear hK hidk hls hfi hrow hsh hin hlk
      go_wp2_with fail
      refine bodyPost_ret (v := .tuple #[.int .i64 t.loop, .bool (!(t.loop == 0))]) (by simp [results, Try.results50, go_sem, bne]) rfl ?_
      exact ⟨rfl, HB2.out⟩
    · have hno : (decide (1 ≤ id) && decide (id ≤ ((sheetOf p).length : Int))) = false := by
        rw [Bool.and_eq_false_iff, decide_eq_false_iff_not, decide_eq_false_iff_not]
        omega
      rw [hno]
      have hr : RR = 0 := by rw [← hRR.out]; unfold jloopP; rw [if_pos HZ.out]; exact loop_out (by rw [← hlen]; exact hin)
      subst hr
      clear hno hin hlen
      go_wp2_with fail
      refine bodyPost_ret (v := .tuple #[.int .i64 0, .bool false]) (by simp [results, Try.results50, go_sem]) rfl ?_
      exact ⟨rfl, HB2.out⟩
  · rw [if_neg hz] at htold
    obtain ⟨rfl, hb2⟩ := htold
    have HZ := Lib.hid hz
    have HB2 := Lib.hid (HB1.out.trans (hb2.mono HB1.out.size))
    clear hb2 hz x0 x1
    have hr : RR = 0 := by rw [← hRR.out]; unfold jloopP; rw [if_neg HZ.out]
    subst hr
    go_wp2_with fail
    refine bodyPost_ret (v := .tuple #[.int .i64 0, .bool false]) (by simp [results, Try.results50, go_sem]) rfl ?_
    exact ⟨rfl, HB2.out⟩
set_option maxHeartbeats 4000000 in
set_option maxRecDepth 100000 in
theorem jat_any (d : Nat) (p : Pr) (gv pv : Value) (s label : ByteArray) (w : World) (hp : PrC (cw w) d gv pv p) (hroom : RoomP p) :
    Calls Try.prog 48 #[.agg #[gv, pv], .string s, .string label] w fun e w' => e = .returned (.tuple #[.int .i64 (jatP p s label).1, .bool (jatP p s label).2]) ∧ Below w.heap.size w w' := by
  obtain ⟨R1, hR1⟩ : ∃ b, Hid ((jatP p s label).1 = b) := ⟨_, Lib.hid rfl⟩
  obtain ⟨R2, hR2⟩ : ∃ b, Hid ((jatP p s label).2 = b) := ⟨_, Lib.hid rfl⟩
  rw [hR1.out, hR2.out]
  have HROOM := Lib.hid hroom
  clear hroom
  obtain ⟨ga, gc, rfl, hgl1, hgl2⟩ := hp.1.form
  obtain ⟨pa, pc, rfl, hl1, hl2⟩ := hp.2.form
  have hpl : p.procs.length ≤ 9223372036854775807 := Nat.le_trans hl1 hl2
  have HP := Lib.hid hp
  clear hp hl1 hl2 hgl1 hgl2
  go_enter Try.func48, Try.ntmps48
  go_upto_region 1 with fail
  refine cut_world (fun wx => Below w.heap.size w wx ∧ BoxAt wx w.heap.size [.slice ga p.globals.length gc, .slice pa p.procs.length pc]) ⟨boxed _ _, box_new w #[.slice ga p.globals.length gc, .slice pa p.procs.length pc] 25⟩ ?_
  rintro w1 ⟨hb1, hx1⟩
  have HB1 := Lib.hid hb1
  have HX1 := Lib.hid hx1
  have HP1 := Lib.hid (PrC.mono (cw_next hb1) HP.out)
  clear hb1 hx1
  have x0 := HX1.out 0 _ rfl
  have x1 := HX1.out 1 _ rfl
  go_wp2_with fail
  refine (jsheet_any d p _ _ _ HP1.out HROOM.out).mono ?_
  intro e w2 htold
  unfold SheetTold at htold
  by_cases hz : (scopeP p).1 = 0
  · rw [if_pos hz] at htold
    obtain ⟨Y, rfl, hst, hb2⟩ := htold
    have HZ := Lib.hid hz
    have HS2 := Lib.hid hst
    have HX2 := Lib.hid (HX1.out.next hb2)
    have HP2 := Lib.hid (PrC.mono (cw_next hb2) HP1.out)
    have HB2 := Lib.hid (HB1.out.trans (hb2.mono HB1.out.size))
    clear hb2 hst hz x0 x1
    go_wp2_with fail
    refine (shproc_any d p Y s _ HS2.out).mono ?_
    rintro e w3 ⟨rfl, hb3⟩
    have HS3 := Lib.hid (HS2.out.next hb3)
    have HX3 := Lib.hid (HX2.out.next hb3)
    have HP3 := Lib.hid (PrC.mono (cw_next hb3) HP2.out)
    have HB3 := Lib.hid (HB2.out.trans (hb3.mono HB2.out.size))
    clear hb3
    cases hat : at_ s (procNs p) with
    | none =>
      rw [atI_none hat]
      have hpc := pcs_none hat
      have hr : jatP p s label = (0, false) := by unfold jatP wellPc; rw [if_pos HZ.out, hpc]
      have h1 : R1 = 0 := by rw [← hR1.out, hr]
      have h2 : R2 = false := by rw [← hR2.out, hr]
      subst h1 h2
      clear hat hpc hr
      go_wp2_with fail
      refine bodyPost_ret (v := .tuple #[.int .i64 0, .bool false]) (by simp [results, Try.results48, go_sem]) rfl ?_
      exact ⟨rfl, HB3.out⟩
    | some i =>
      rw [atI_some hat]
      obtain ⟨hi, hpc⟩ := pcs_some hat
      have hia := atI_some hat
      have HIA := Lib.hid hia
      have h0i : ¬ (i : Int) < 0 := by omega
      obtain ⟨f, hf⟩ : ∃ f, p.procs[i] = f := ⟨_, rfl⟩
      rw [hf] at hpc
      have HF := Lib.hid hf
      have HPC := Lib.hid hpc
      clear hat hia hf hpc
      have hr : jatP p s label = bearP f label := by unfold jatP wellPc; rw [if_pos HZ.out, HPC.out]
      have HRE := Lib.hid hr
      clear hr
      go_wp2_with fail
      refine (shproc_any d p Y s _ HS3.out).mono ?_
      rintro e w4 ⟨rfl, hb4⟩
      rw [HIA.out]
      have HS4 := Lib.hid (HS3.out.next hb4)
      have HB4 := Lib.hid (HB3.out.trans (hb4.mono HB3.out.size))
      clear hb4
      go_wp2_with fail
      refine (shat_any d p Y i hi f HF.out label _ HS4.out HROOM.out.cnt).mono ?_
      rw [← HRE.out, hR1.out, hR2.out]
      rintro e w5 ⟨rfl, hb5⟩
      have HB5 := Lib.hid (HB4.out.trans (hb5.mono HB4.out.size))
      clear hb5
      go_wp2_with fail
      refine bodyPost_ret (v := .tuple #[.int .i64 R1, .bool R2]) (by simp [results, Try.results48, go_sem]) rfl ?_
      exact ⟨rfl, HB5.out⟩
  · rw [if_neg hz] at htold
    obtain ⟨rfl, hb2⟩ := htold
    have HZ := Lib.hid hz
    have HB2 := Lib.hid (HB1.out.trans (hb2.mono HB1.out.size))
    clear hb2 hz x0 x1
    have hr : jatP p s label = (0, false) := by unfold jatP wellPc; rw [if_neg HZ.out]
    have h1 : R1 = 0 := by rw [← hR1.out, hr]
    have h2 : R2 = false := by rw [← hR2.out, hr]
    subst h1 h2
    clear hr
    go_wp2_with fail
    refine bodyPost_ret (v := .tuple #[.int .i64 0, .bool false]) (by simp [results, Try.results48, go_sem]) rfl ?_
    exact ⟨rfl, HB2.out⟩
set_option maxHeartbeats 4000000 in
set_option maxRecDepth 100000 in
theorem jlabels_any (d : Nat) (p : Pr) (gv pv : Value) (s : ByteArray) (w : World) (hp : PrC (cw w) d gv pv p) (hroom : RoomP p) :
    Calls Try.prog 54 #[.agg #[gv, pv], .string s] w (NamesMade (jlabsP p s) w) := by
  obtain ⟨i0, hi0, hz0, hz1, hz2⟩ := info_parts infoStr
  obtain ⟨RR, hRR⟩ : ∃ b, Hid (jlabsP p s = b) := ⟨_, Lib.hid rfl⟩
  rw [hRR.out]
  have HROOM := Lib.hid hroom
  clear hroom
  obtain ⟨ga, gc, rfl, hgl1, hgl2⟩ := hp.1.form
  obtain ⟨pa, pc, rfl, hl1, hl2⟩ := hp.2.form
  have hpl : p.procs.length ≤ 9223372036854775807 := Nat.le_trans hl1 hl2
  have HP := Lib.hid hp
  clear hp hl1 hl2 hgl1 hgl2
  go_enter Try.func54, Try.ntmps54
  go_upto_region 1 with fail
  refine cut_world (fun wx => Below w.heap.size w wx ∧ BoxAt wx w.heap.size [.slice ga p.globals.length gc, .slice pa p.procs.length pc]) ⟨boxed _ _, box_new w #[.slice ga p.globals.length gc, .slice pa p.procs.length pc] 25⟩ ?_
  rintro w1 ⟨hb1, hx1⟩
  have HB1 := Lib.hid hb1
  have HX1 := Lib.hid hx1
  have HP1 := Lib.hid (PrC.mono (cw_next hb1) HP.out)
  clear hb1 hx1
  have x0 := HX1.out 0 _ rfl
  have x1 := HX1.out 1 _ rfl
  go_wp2_with fail
  refine (jsheet_any d p _ _ _ HP1.out HROOM.out).mono ?_
  intro e w2 htold
  unfold SheetTold at htold
  by_cases hz : (scopeP p).1 = 0
  · rw [if_pos hz] at htold
    obtain ⟨Y, rfl, hst, hb2⟩ := htold
    have HZ := Lib.hid hz
    have HS2 := Lib.hid hst
    have HX2 := Lib.hid (HX1.out.next hb2)
    have HP2 := Lib.hid (PrC.mono (cw_next hb2) HP1.out)
    have HB2 := Lib.hid (HB1.out.trans (hb2.mono HB1.out.size))
    clear hb2 hst hz x0 x1
    go_wp2_with fail
    refine (shproc_any d p Y s _ HS2.out).mono ?_
    rintro e w3 ⟨rfl, hb3⟩
    have HS3 := Lib.hid (HS2.out.next hb3)
    have HX3 := Lib.hid (HX2.out.next hb3)
    have HP3 := Lib.hid (PrC.mono (cw_next hb3) HP2.out)
    have HB3 := Lib.hid (HB2.out.trans (hb3.mono HB2.out.size))
    clear hb3
    cases hat : at_ s (procNs p) with
    | none =>
      rw [atI_none hat]
      have hpc := pcs_none hat
      have hr : RR = [] := by rw [← hRR.out]; unfold jlabsP wellPc; rw [if_pos HZ.out, hpc]
      subst hr
      clear hat hpc
      go_wp2_with fail
      go_ret
      exact ⟨_, rfl, RowS.nil _ _, HB3.out⟩
    | some i =>
      rw [atI_some hat]
      obtain ⟨hi, hpc⟩ := pcs_some hat
      have hia := atI_some hat
      have HIA := Lib.hid hia
      have h0i : ¬ (i : Int) < 0 := by omega
      obtain ⟨f, hf⟩ : ∃ f, p.procs[i] = f := ⟨_, rfl⟩
      rw [hf] at hpc
      have HF := Lib.hid hf
      have HPC := Lib.hid hpc
      clear hat hia hf hpc
      have hr : RR = labsOf f := by rw [← hRR.out]; unfold jlabsP wellPc; rw [if_pos HZ.out, HPC.out]
      have HRE := Lib.hid hr
      have hroomf : (labsOf f).length ≤ 300000 := HROOM.out.labs f (List.mem_of_find?_eq_some HPC.out)
      have HRF := Lib.hid hroomf
      clear hr hroomf
      go_upto_region 5 with fail
      go_wp2_with fail
      refine (shproc_any d p Y s _ HS3.out).mono ?_
      rintro e w4 ⟨rfl, hb4⟩
      rw [HIA.out]
      have HS4 := Lib.hid (HS3.out.next hb4)
      have HX4 := Lib.hid (HX3.out.next hb4)
      have HP4 := Lib.hid (PrC.mono (cw_next hb4) HP3.out)
      have HB4 := Lib.hid (HB3.out.trans (hb4.mono HB3.out.size))
      clear hb4
      obtain ⟨B, gv2, pv2, lov, hiv, v, rows, hsh, -⟩ := HS4.out
      go_wp2_with fail
      refine (of_any B d p Y _ _ _ _ _ _ i hi _ hsh HROOM.out.cnt).mono ?_
      rintro e w5 ⟨sv, rfl, hsl, hb5⟩
      have hparts := part_sts p hi
      rw [HF.out] at hparts
      obtain ⟨PT, hPT⟩ : ∃ L, Hid (partOf p i = L) := ⟨_, Lib.hid rfl⟩
      rw [hPT.out] at hsl hparts
      obtain ⟨ia, ic, rfl, hil1, hil2⟩ := hsl.form
      have hil : PT.length ≤ 9223372036854775807 := Nat.le_trans hil1 hil2
      have HL5 := Lib.hid (SlAt.imp hsl fun _ _ _ _ => FiAt.mono (cw_next hb5))
      have HPART := Lib.hid hparts
      have HS5 := Lib.hid (HS4.out.next hb5)
      have HX5 := Lib.hid (HX4.out.next hb5)
      have HP5 := Lib.hid (PrC.mono (cw_next hb5) HP4.out)
      have HB5 := Lib.hid (HB4.out.trans (hb5.mono HB4.out.size))
      clear hsl hb5 hil1 hil2 hparts hsh
      obtain ⟨g, off, hvp, qv, vv, bv, fv, p0, p1, p2, p3, p4, hnm, hps, hvs, hbody, hfin⟩ := procs_at HP5.out.2 hi
      cases hvp
      rw [HF.out] at hfin
      obtain ⟨a4, c4, rfl, -, -⟩ := hfin.form
      have HE5 : Hid (w5.cell? ⟨g, off + i * 5 + 4, none⟩ = some (.slice a4 f.fin.length c4)) := Lib.hid p4
      have HFS5 := Lib.hid (StrC.to hfin)
      clear p0 p1 p2 p3 p4 hnm hps hvs hbody hfin
      go_wp2_with fail
      obtain ⟨W5, hW5⟩ : ∃ x : World, x = w5 := ⟨_, rfl⟩
      subst hW5
      go_loopw [25, 6] (fun i v wr => ∃ (q : Nat) (v0 : Value), q ≤ PT.length ∧ i = .int .i64 q ∧ v = v0 ∧ RowS W5.heap.size wr v0 (labLs ((stsOf f).take q)) ∧ Below W5.heap.size W5 wr) (fun i _ _ => (PT.length - intOf i).toNat)
      case atStart => exact ⟨0, _, by omega, rfl, rfl, RowS.nil _ _, Below.refl _ _⟩
      case round =>
        obtain ⟨q, v0, hq, rfl, rfl, hrq, hbq⟩ := hrel
        obtain ⟨w6, hw6⟩ : ∃ x : World, x = wr := ⟨_, rfl⟩
        subst hw6
        have HR6 := Lib.hid hrq
        have HBR6 := Lib.hid hbq
        have HX6 := Lib.hid (HX5.out.next hbq)
        have HS6 := Lib.hid (HS5.out.next hbq)
        have HE4 := Lib.hid (cell_next hbq HE5.out)
        have HFS6 := Lib.hid (HFS5.out.next hbq)
        have HB6 := Lib.hid (HB5.out.trans (hbq.mono HB5.out.size))
        have hWs : W5.heap.size ≤ w6.heap.size := hbq.size
        have HL6 := Lib.hid (SlAt.imp HL5.out fun _ _ _ _ => FiAt.mono (cw_next hbq))
        obtain ⟨va6, vc6, rfl⟩ := ownsForm hrq.1
        clear hrq hbq
        have hltot : ∀ k, (labLs ((stsOf f).take k)).length ≤ 300000 := fun k => by
          have h1 := HRF.out
          unfold labsOf at h1
          rw [List.length_append] at h1
          have h2 : (labLs (stsOf f)).length = (labLs ((stsOf f).take k)).length + (labLs ((stsOf f).drop k)).length := by
            rw [← List.length_append, ← labLs_append, List.take_append_drop]
          omega
        by_cases hlq : q < PT.length
        · have hlq' : (q : Int) < (PT.length : Int) := by omega
          have h0q : (0 : Int) ≤ (q : Int) := by omega
          obtain ⟨gi, oi, hvi, hfi⟩ := its_at HL6.out hlq
          cases hvi
          have hidx : (stsOf f)[q]? = some PT[q].s := by rw [← HPART.out, List.getElem?_map, List.getElem?_eq_getElem hlq]; rfl
          have hst : labLs ((stsOf f).take (q + 1)) = labLs ((stsOf f).take q) ++ PT[q].s.labels := by
            obtain ⟨h1, h2⟩ := List.getElem?_eq_some_iff.1 hidx
            rw [List.take_succ_eq_append_getElem h1, labLs_append, h2]
            congr 1
            unfold labLs; simp
          have hl1 := hltot (q + 1)
          rw [hst, List.length_append] at hl1
          obtain ⟨t, ht⟩ : ∃ t, Hid (PT[q] = t) := ⟨_, Lib.hid rfl⟩
          rw [ht.out] at hfi hst hl1
          obtain ⟨LK, hLK⟩ : ∃ L, Hid (labLs ((stsOf f).take q) = L) := ⟨_, Lib.hid rfl⟩
          rw [hLK.out] at hst hl1 HR6
          try rw [hLK.out]
          have HST := Lib.hid hst
          obtain ⟨la, ka, aa, ta, ea, lc, kc, ac, tc, ec, hrest⟩ := fi_open hfi
          have HCE := Lib.hid hrest.1
          have HHA := Lib.hid hrest.2.1
          clear hfi hrest hst hidx
          have HI0 : Hid (BoxAt (w6.alloc (.cells #[.int .i64 0, .int .i64 0, .slice none 0 0, .string ⟨#[]⟩, .string ⟨#[]⟩, .int .i64 0, .int .i64 0, .string ⟨#[]⟩, .slice none 0 0, .bool false, .slice none 0 0, .slice none 0 0, .slice none 0 0, .int .i64 0, .int .i64 0, .int .i64 0, .int .i64 0] 95)) w6.heap.size [.int .i64 0, .int .i64 0, .slice none 0 0, .string ⟨#[]⟩, .string ⟨#[]⟩, .int .i64 0, .int .i64 0, .string ⟨#[]⟩, .slice none 0 0, .bool false, .slice none 0 0, .slice none 0 0, .slice none 0 0, .int .i64 0, .int .i64 0, .int .i64 0, .int .i64 0]) := Lib.hid (box_new w6 #[.int .i64 0, .int .i64 0, .slice none 0 0, .string ⟨#[]⟩, .string ⟨#[]⟩, .int .i64 0, .int .i64 0, .string ⟨#[]⟩, .slice none 0 0, .bool false, .slice none 0 0, .slice none 0 0, .slice none 0 0, .int .i64 0, .int .i64 0, .int .i64 0, .int .i64 0] 95)
          have HF0 : Hid (Free (w6.alloc (.cells #[.int .i64 0, .int .i64 0, .slice none 0 0, .string ⟨#[]⟩, .string ⟨#[]⟩, .int .i64 0, .int .i64 0, .string ⟨#[]⟩, .slice none 0 0, .bool false, .slice none 0 0, .slice none 0 0, .slice none 0 0, .int .i64 0, .int .i64 0, .int .i64 0, .int .i64 0] 95)) w6.heap.size) := Lib.hid (fun j => by simp [go_sem])
          have hzi := World.size_alloc w6 (.cells #[.int .i64 0, .int .i64 0, .slice none 0 0, .string ⟨#[]⟩, .string ⟨#[]⟩, .int .i64 0, .int .i64 0, .string ⟨#[]⟩, .slice none 0 0, .bool false, .slice none 0 0, .slice none 0 0, .slice none 0 0, .int .i64 0, .int .i64 0, .int .i64 0, .int .i64 0] 95)
          go_upto_region 8 with (first | refine wpList_load_mid rfl 95 (.tmp 27) rfl gi (oi + q * 17) rfl [.int .i64 t.s.id, .int .i64 t.s.kind, .slice la t.s.labels.length lc, .string t.s.nm, .string t.s.proc, .int .i64 t.s.x.op, .int .i64 t.s.x.n, .string t.s.x.nm, .slice ka t.s.x.ks.length kc, .bool t.s.has, .slice aa t.s.args.length ac, .slice ta t.s.thn.length tc, .slice ea t.s.els.length ec, .int .i64 t.proc, .int .i64 t.up, .int .i64 t.next, .int .i64 t.loop] _ (fun j v hv => HCE.out j v hv) Try.underlying95 rfl (by kernel_rfl) ?_ | refine wpList_store_mid rfl 95 (.tmp 8) (.tmp 28) rfl w6.heap.size 0 #[.int .i64 t.s.id, .int .i64 t.s.kind, .slice la t.s.labels.length lc, .string t.s.nm, .string t.s.proc, .int .i64 t.s.x.op, .int .i64 t.s.x.n, .string t.s.x.nm, .slice ka t.s.x.ks.length kc, .bool t.s.has, .slice aa t.s.args.length ac, .slice ta t.s.thn.length tc, .slice ea t.s.els.length ec, .int .i64 t.proc, .int .i64 t.up, .int .i64 t.next, .int .i64 t.loop] rfl rfl (box_there (n := 17) HI0.out HF0.out (by simp)) (by kernel_rfl) (by simp [Value.oneCell']) ?_)
          refine cut_world (fun wx => Below w6.heap.size w6 wx ∧ BoxAt wx w6.heap.size [.int .i64 t.s.id, .int .i64 t.s.kind, .slice la t.s.labels.length lc, .string t.s.nm, .string t.s.proc, .int .i64 t.s.x.op, .int .i64 t.s.x.n, .string t.s.x.nm, .slice ka t.s.x.ks.length kc, .bool t.s.has, .slice aa t.s.args.length ac, .slice ta t.s.thn.length tc, .slice ea t.s.els.length ec, .int .i64 t.proc, .int .i64 t.up, .int .i64 t.next, .int .i64 t.loop]) ⟨setCells_below _ _ (boxed w6 _) (Nat.le_refl _), box_over (old := [.int .i64 0, .int .i64 0, .slice none 0 0, .string ⟨#[]⟩, .string ⟨#[]⟩, .int .i64 0, .int .i64 0, .string ⟨#[]⟩, .slice none 0 0, .bool false, .slice none 0 0, .slice none 0 0, .slice none 0 0, .int .i64 0, .int .i64 0, .int .i64 0, .int .i64 0]) (xs := [.int .i64 t.s.id, .int .i64 t.s.kind, .slice la t.s.labels.length lc, .string t.s.nm, .string t.s.proc, .int .i64 t.s.x.op, .int .i64 t.s.x.n, .string t.s.x.nm, .slice ka t.s.x.ks.length kc, .bool t.s.has, .slice aa t.s.args.length ac, .slice ta t.s.thn.length tc, .slice ea t.s.els.length ec, .int .i64 t.proc, .int .i64 t.up, .int .i64 t.next, .int .i64 t.loop]) (rest := []) HI0.out HF0.out rfl⟩ ?_
          clear hzi HI0 HF0
          rintro wa ⟨hba, hta⟩
          have t2 := hta 2 _ rfl
          have HRA := Lib.hid (HR6.out.next hba)
          have HLA := Lib.hid (StrC.to (HHA.out wa (cw_next hba)).lab)
          have HBA := Lib.hid (HBR6.out.trans (hba.mono HBR6.out.size))
          have hWa : W5.heap.size ≤ wa.heap.size := HBA.out.size
          clear hba hta
          go_wp2_with (at_builtin; refine wpList_append_sl _ rfl (.tmp 29) (.tmp 32) 22 rfl W5.heap.size 9 i0 (.string ⟨#[]⟩) 1 16 Try.underlying22 hi0 hz0 hz1 hz2 rfl (by decide) _ LK.length (LK.map Value.string) rfl HRA.out.1 la t.s.labels.length lc (t.s.labels.map Value.string) rfl HLA.out.news.2.1 (by rw [List.length_map, Nat.mul_one]) HLA.out.news.2.2 (str_all _) (by unfold maxLen; omega) (by omega) (by omega) ?_)
          intro v4 w4' hown4 hg4 hat4
          have HR4 := Lib.hid (RowS.cat (l := LK) (m := t.s.labels) hown4 HRA.out.2 HLA.out.all)
          have HB4' := Lib.hid (HBA.out.grown hg4 HBA.out.size (fun x hx => (HRA.out.lt x hx).1))
          clear hown4 hg4 hat4
          go_wp2_with fail
          go_roundw
          case rel => exact ⟨q + 1, _, by omega, by go_num, rfl, by rw [HST.out]; exact HR4.out, HB4'.out⟩
          case measure => simp [intOf]; omega
        · have hlq' : ¬ (q : Int) < (PT.length : Int) := by omega
          have hlen : (stsOf f).length = PT.length := by rw [← HPART.out, List.length_map]
          have hall : (stsOf f).take q = stsOf f := List.take_of_length_le (by omega)
          have hl1 := hltot q
          have hlf : f.fin.length ≤ 300000 := by have h1 := HRF.out; unfold labsOf at h1; rw [List.length_append] at h1; omega
          obtain ⟨LL, hLL⟩ : ∃ L, Hid (labLs ((stsOf f).take q) = L) := ⟨_, Lib.hid rfl⟩
          have HLL : Hid (LL = labLs (stsOf f)) := Lib.hid (by rw [← hLL.out, hall])
          rw [hLL.out] at hl1 HR6
          try rw [hLL.out]
          have hi2 : (i : Int) < (p.procs.length : Int) := by omega
          have hi1 : (0 : Int) ≤ (i : Int) := by omega
          clear hall hlen
          go_upto_region 10 with fail
          have hq : Below w6.heap.size w6 w6.drew := (Below.refl _ _).drew
          have HS7 := Lib.hid (HS6.out.next hq)
          have HR7 := Lib.hid (HR6.out.next hq)
          refine wp_region_z (fun w' => BoxAt w' w.heap.size [.slice ga p.globals.length gc, .slice (some ⟨g, off, none⟩) p.procs.length pc] ∧ w'.cell? ⟨g, off + i * 5 + 4, none⟩ = some (.slice a4 f.fin.length c4)) 10 (by kernel_rfl) ⟨HX6.out.next hq, cell_next hq HE4.out⟩ (fun hS => ?_)
          show wpAnyZ _ _ _ _ _ _ 11 #[false, false, false, false, false, false, false, false, false, false, false] _ _
          refine' wpAnyZ_take (i := 0) (oi := _) (v := _) rfl (by kernel_rfl) (by kernel_rfl) (by kernel_rfl) (by kernel_rfl) (fun _ _ _ h => h) (Or.inl ⟨by rfl, ?hy0⟩) hS ?rest0
          case hy0 => (intro w hSw; clear hSw; go_simp; (try with_reducible rfl))
          try simp only [Act.put, List.getElem_toArray, List.getElem_cons_succ, List.getElem_cons_zero, List.setIfInBounds_toArray, List.set_cons_zero, List.set_cons_succ]
          refine' wpAnyZ_take (i := 1) (oi := _) (v := _) rfl (by kernel_rfl) (by kernel_rfl) (by kernel_rfl) (by kernel_rfl) (fun _ _ _ h => h) (Or.inl ⟨by rfl, ?hy1⟩) hS ?rest1
          case hy1 => (intro w hSw; clear hSw; go_simp; (try with_reducible rfl))
          try simp only [Act.put, List.getElem_toArray, List.getElem_cons_succ, List.getElem_cons_zero, List.setIfInBounds_toArray, List.set_cons_zero, List.set_cons_succ]
          refine' wpAnyZ_take (i := 2) (oi := _) (v := _) rfl (by kernel_rfl) (by kernel_rfl) (by kernel_rfl) (by kernel_rfl) (fun _ _ _ h => h) (Or.inl ⟨by rfl, ?hy2⟩) hS ?rest2
          case hy2 => (intro w hSw; have c0 := hSw.1 0 _ rfl; have c1 := hSw.1 1 _ rfl; clear hSw; go_simp; (try with_reducible rfl))
          try simp only [Act.put, List.getElem_toArray, List.getElem_cons_succ, List.getElem_cons_zero, List.setIfInBounds_toArray, List.set_cons_zero, List.set_cons_succ]
          refine' wpAnyZ_take (i := 3) (oi := _) (v := _) rfl (by kernel_rfl) (by kernel_rfl) (by kernel_rfl) (by kernel_rfl) (fun _ _ _ h => h) (Or.inl ⟨by rfl, ?hy3⟩) hS ?rest3
          case hy3 => (intro w hSw; clear hSw; go_simp; (try with_reducible rfl))
          try simp only [Act.put, List.getElem_toArray, List.getElem_cons_succ, List.getElem_cons_zero, List.setIfInBounds_toArray, List.set_cons_zero, List.set_cons_succ]
          refine' wpAnyZ_take (i := 4) (oi := _) (v := _) rfl (by kernel_rfl) (by kernel_rfl) (by kernel_rfl) (by kernel_rfl) (fun _ _ _ h => h) (Or.inl ⟨by rfl, ?hy4⟩) hS ?rest4
          case hy4 => (intro w hSw; clear hSw; go_simp; (try with_reducible rfl))
          try simp only [Act.put, List.getElem_toArray, List.getElem_cons_succ, List.getElem_cons_zero, List.setIfInBounds_toArray, List.set_cons_zero, List.set_cons_succ]
          refine' wpAnyZ_step (i := 5) (o := _) rfl (by kernel_rfl) (fun K hK => ?_)
          go_simp
          go_at_call 98
          refine (shproc_any d p Y s _ HS7.out).mono ?_
          rintro e w8 ⟨rfl, hb8⟩
          rw [HIA.out]
          have Q8 := Lib.hid (below_then hb8 hq)
          have HR8 := Lib.hid (HR7.out.next hb8)
          have HFS8 := Lib.hid (HFS6.out.next Q8.out)
          clear hb8
          have hS8 : BoxAt w8 w.heap.size [.slice ga p.globals.length gc, .slice (some ⟨g, off, none⟩) p.procs.length pc] ∧ w8.cell? ⟨g, off + i * 5 + 4, none⟩ = some (.slice a4 f.fin.length c4) := ⟨HX6.out.next Q8.out, cell_next Q8.out HE4.out⟩
          refine hK _ _ (fun _ => ⟨HX6.out.next Q8.out, cell_next Q8.out HE4.out⟩) ?_
          clear hK K
          try simp only [Act.put, List.getElem_toArray, List.getElem_cons_succ, List.getElem_cons_zero, List.setIfInBounds_toArray, List.set_cons_zero, List.set_cons_succ]
          refine' wpAnyZ_take (i := 6) (oi := _) (v := _) rfl (by kernel_rfl) (by kernel_rfl) (by kernel_rfl) (by kernel_rfl) (fun _ _ _ h => h) (Or.inl ⟨by rfl, ?hy6⟩) hS8 ?rest6
          case hy6 => (intro w hSw; clear hSw; go_simp; (try with_reducible rfl))
          try simp only [Act.put, List.getElem_toArray, List.getElem_cons_succ, List.getElem_cons_zero, List.setIfInBounds_toArray, List.set_cons_zero, List.set_cons_succ]
          refine' wpAnyZ_take (i := 7) (oi := _) (v := _) rfl (by kernel_rfl) (by kernel_rfl) (by kernel_rfl) (by kernel_rfl) (fun _ _ _ h => h) (Or.inl ⟨by rfl, ?hy7⟩) hS8 ?rest7
          case hy7 => (intro w hSw; clear hSw; go_simp; (try with_reducible rfl))
          try simp only [Act.put, List.getElem_toArray, List.getElem_cons_succ, List.getElem_cons_zero, List.setIfInBounds_toArray, List.set_cons_zero, List.set_cons_succ]
          refine' wpAnyZ_take (i := 8) (oi := _) (v := _) rfl (by kernel_rfl) (by kernel_rfl) (by kernel_rfl) (by kernel_rfl) (fun _ _ _ h => h) (Or.inl ⟨by rfl, ?hy8⟩) hS8 ?rest8
          case hy8 => (intro w hSw; have c0 := hSw.2; clear hSw; go_simp; (try with_reducible rfl))
          try simp only [Act.put, List.getElem_toArray, List.getElem_cons_succ, List.getElem_cons_zero, List.setIfInBounds_toArray, List.set_cons_zero, List.set_cons_succ]
          have hbs8 := Q8.out.size
          refine' wpAnyZ_step (i := 9) (o := _) rfl (by kernel_rfl) (fun K hK => ?_)
          refine step_append_sl _ (by rfl) (.tmp 35) (.tmp 43) 22 (by rfl) W5.heap.size 9 i0 (.string ⟨#[]⟩) 1 16 Try.underlying22 hi0 hz0 hz1 hz2 rfl (by decide) _ LL.length (LL.map Value.string) (by rfl) HR8.out.1 a4 f.fin.length c4 (f.fin.map Value.string) (by rfl) HFS8.out.news.2.1 (by rw [List.length_map, Nat.mul_one]) HFS8.out.news.2.2 (str_all _) (by unfold maxLen; omega) (by omega) (by omega) ?_
          intro va9 vc9 w9 hown9 hg9 hat9
          have HB9 := Lib.hid ((HBR6.out.trans (Q8.out.mono HBR6.out.size)).grown hg9 (by omega) (fun x hx => (HR8.out.lt x hx).1))
          have HR9 := Lib.hid (RowS.cat (l := LL) (m := f.fin) hown9 HR8.out.2 HFS8.out.all)
          refine hK _ _ (fun _ => ?_) ?_
          · have hq9 : Below W5.heap.size W5 w9 := HB9.out
            exact ⟨HX5.out.next hq9, cell_next hq9 HE5.out⟩
          clear hK K hown9 hg9 hat9 hS8
          try simp only [Act.put, List.getElem_toArray, List.getElem_cons_succ, List.getElem_cons_zero, List.setIfInBounds_toArray, List.set_cons_zero, List.set_cons_succ]
          refine' wpAnyZ_step (i := 10) (o := _) rfl (by kernel_rfl) (fun K hK => ?_)
          go_simp
          refine hK _ _ (fun h => absurd rfl h) ?_
          clear hK K
          try simp only [Act.put, List.getElem_toArray, List.getElem_cons_succ, List.getElem_cons_zero, List.setIfInBounds_toArray, List.set_cons_zero, List.set_cons_succ]
          refine wpAnyZ_done (by kernel_rfl) ?_ _
          clear hS hq
          go_wp2_with fail
          go_ret
          refine ⟨_, rfl, ?_, HB5.out.trans (HB9.out.mono HB5.out.size)⟩
          rw [HRE.out]
          have hlab : labsOf f = LL ++ f.fin := by rw [HLL.out]; rfl
          rw [hlab]
          exact HR9.out.mono (by have := HB5.out.size; omega)
  · rw [if_neg hz] at htold
    obtain ⟨rfl, hb2⟩ := htold
    have HZ := Lib.hid hz
    have HB2 := Lib.hid (HB1.out.trans (hb2.mono HB1.out.size))
    clear hb2 hz x0 x1
    have hr : RR = [] := by rw [← hRR.out]; unfold jlabsP wellPc; rw [if_neg HZ.out]
    subst hr
    go_wp2_with fail
    go_ret
    exact ⟨_, rfl, RowS.nil _ _, HB2.out⟩
end Go.Proofs.Ytghlmengcidmdaa.Tr
