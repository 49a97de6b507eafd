/- The law TreeTurned, walked: it returns true. Conditions: the arguments lie in memory. -/
import Derived.Test.YtnbclbphggmenaaTurnP
import Derived.Test.YtnbclbphggmenaaTreeEqW
import Derived.Test.YtnbclbphggmenaaTreeFindW
import Derived.Test.YtnbclbphggmenaaTMod
import Derived.Test.YtnbclbphggmenaaFitsW
import Derived.Deep.DeepCutAuto
import Derived.Deep.CutBlock
import Derived.Deep.RegionHeld3
import Derived.IntWalk
import Derived.Outline
import Derived.StillTailTactics
namespace Go.Proofs.Ytnbclbphggmenaa.Tr
open Go.RowKit Go.Proofs.Ytnbclbphggmenaa.Lx Go.Proofs.Ytnbclbphggmenaa.Wd
theorem putP_call (D : Nat) (t : St) (hokt : OkE t.x) (ht1 : InI t.id) (ht2 : InI t.kind) (ht3 : t.nm.size ≤ 9223372036854775807) (ht4 : t.proc.size ≤ 9223372036854775807) (hwt : LightS t) (kat lat aat tat eat : Option Addr) (kct lct act tct ect : Nat)
    (d : Nat) (p : Pr) (gv pv : Value) (w : World) (hp : PrC (cw w) d gv pv p) (hwp : wtPr p ≤ 20000) (hht : Hang D w t (.slice lat t.labels.length lct) (.slice kat t.x.ks.length kct) (.slice aat t.args.length act) (.slice tat t.thn.length tct) (.slice eat t.els.length ect)) :
    Calls Try.prog 48 #[.agg #[gv, pv], .agg #[.int .i64 t.id, .int .i64 t.kind, .slice lat t.labels.length lct, .string t.nm, .string t.proc, .int .i64 t.x.op, .int .i64 t.x.n, .string t.x.nm, .slice kat t.x.ks.length kct, .bool t.has, .slice aat t.args.length act, .slice tat t.thn.length tct, .slice eat t.els.length ect]] w (ProgMade (d + D) (putPr t p) w) := putP_any D t hokt ht1 ht2 ht3 ht4 hwt kat lat aat tat eat kct lct act tct ect d p gv pv w hp hwp hht
/-- The box of the statement that is turned, behind its turn. -/
def TurnedAt (d : Nat) (w0 : World) (B1 B2 : Nat) (s : St) (cs : List Value) (w : World) : Prop :=
  ∃ (t : St) (ka la aa ta ea : Option Addr) (kc lc ac tc ec : Nat), BoxAt w B2 (stCells t (.slice ka t.x.ks.length kc) (.slice la t.labels.length lc) (.slice aa t.args.length ac) (.slice ta t.thn.length tc) (.slice ea t.els.length ec)) ∧ Hang d w t (.slice la t.labels.length lc) (.slice ka t.x.ks.length kc) (.slice aa t.args.length ac) (.slice ta t.thn.length tc) (.slice ea t.els.length ec) ∧ OkE t.x ∧ InI t.id ∧ InI t.kind ∧ t.nm.size ≤ 9223372036854775807 ∧ t.proc.size ≤ 9223372036854775807 ∧ LightS t ∧ t.id = s.id ∧ (sameB t s = true → sameF t s) ∧ BoxAt w B1 cs ∧ Below w0.heap.size w0 w
theorem findP_wt {id : Int} : ∀ {l : List Pc} {nm : ByteArray} {s : St}, (∀ f ∈ l, wtL f.body ≤ 20000) → findP id l = some (nm, s) → wtS s ≤ 20000 := by
  intro l
  induction l with
  | nil => intro nm s _ h; rw [findP] at h; cases h
  | cons f r ih =>
    intro nm s hw h
    rw [findP] at h
    cases hh : findL id f.body with
    | some a => rw [hh] at h; cases h; have := findL_wt id _ _ hh; have := hw f (by simp); omega
    | none => rw [hh] at h; exact ih (fun g hg => hw g (by simp [hg])) h
theorem StrC.lens {C : Cs} {v : Value} {l : List ByteArray} (h : StrC C v l) : l.length ≤ 9223372036854775807 := by obtain ⟨a, c, -, h1, h2⟩ := h.form; omega
theorem SlAt.take {α : Type} {size : Nat} {P : Nat → Nat → α → Prop} {a : Option Addr} {n c : Nat} {l : List α} (h : SlAt size P (.slice a n c) l) (k : Nat) (hk : k ≤ l.length) : SlAt size P (.slice a k c) (l.take k) := by
  have hl : (l.take k).length = k := by rw [List.length_take]; omega
  by_cases hne : l = []
  · subst hne
    obtain ⟨a', c', hv, h1, h2⟩ := h.form
    injection hv with e1 e2 e3
    subst e1 e3
    have : k = 0 := by simpa using hk
    subst this
    exact ⟨_, _, rfl, by simp, h2, fun hh => absurd rfl hh⟩
  · obtain ⟨g, off, cap, hv, h1, hc⟩ := h.cells hne
    obtain ⟨a', c', hv', h1', h2'⟩ := h.form
    injection hv with e1 e2 e3
    injection hv' with e1' e2' e3'
    subst e1 e3 
    refine ⟨_, _, by rw [hl], by omega, by omega, fun _ => ⟨g, off, rfl, fun i hi => ?_⟩⟩
    rw [List.getElem_take]
    exact hc i (by omega)
theorem run_cut6 (T e : TypeId) (hT : Try.prog.underlying T = some (.slice e)) (sz : Nat) (hs : ∀ w, (sizeOf e).run Try.prog w = .ok sz w) (a : Option Addr) (n cap k : Nat) (z : Int) (hz : z = k) (hk : k ≤ cap) (_hc : cap ≤ 9223372036854775807) (w : World) :
    (Instr.slice T (.slice a n cap) none (some (.int .i64 z)) none).run Try.prog w = .ok (.slice a k cap) w := by
  subst hz
  cases a with
  | none => simp [go_sem, hT, hs, hk]
  | some a => simp [go_sem, hT, hs, hk]
set_option maxHeartbeats 8000000 in
set_option maxRecDepth 100000 in
theorem law_treeTurned {w : World} (d : Nat) (p : Pr) (gv pv : Value) (hp0 : PrC (cw w) d gv pv p) (id : Int) (_ : (Lit.int .i64 id).wf = true) (k : Int) (hk : (Lit.int .i64 k).wf = true) (name : ByteArray) (hname : name.size ≤ 9223372036854775807) :
    Calls Try.prog 14 #[.agg #[gv, pv], .int .i64 id, .int .i64 k, .string name] w fun e w' => e = .returned (.bool true) ∧ Below w.heap.size w w' := by
  have hp : PrC (cw w) (d + 1) gv pv p := PrC.le (by omega) hp0
  obtain ⟨ga, gc, rfl, -, -⟩ := hp.1.form
  obtain ⟨pa, pc, rfl, hpl1, hpl2⟩ := hp.2.form
  have hplen : p.procs.length ≤ 9223372036854775807 := Nat.le_trans hpl1 hpl2
  have HPL := Lib.hid hplen
  have HP0 := Lib.hid hp0
  have HP := Lib.hid hp
  clear hp hp0 hpl1 hpl2 hplen
  have HK := Lib.hid (wf_in hk)
  have HNAME := Lib.hid hname
  clear hk hname
  go_enter Try.func14, Try.ntmps14
  go_upto_region 1 with fail
  refine cut_world (fun wx => Below w.heap.size w wx ∧ BoxAt wx w.heap.size [.slice ga p.globals.length gc, .slice pa p.procs.length pc]) ⟨boxed _ _, box_new w #[.slice ga p.globals.length gc, .slice pa p.procs.length pc] 46⟩ ?_
  rintro w1 ⟨hb1, hx1⟩
  have HB1 := Lib.hid hb1
  have HX1 := Lib.hid hx1
  have HP1 := Lib.hid (PrC.mono (cw_next hb1) HP.out)
  clear hb1 hx1
  have p0 := HX1.out 0 _ rfl
  have p1 := HX1.out 1 _ rfl
  go_wp2_with fail
  refine (treed_any _).mono ?_
  rintro e w2 ⟨rfl, hb2⟩
  have HB2 := Lib.hid (HB1.out.trans (hb2.mono HB1.out.size))
  have HX2 := Lib.hid (HX1.out.next hb2)
  have HP2 := Lib.hid (PrC.mono (cw_next hb2) HP1.out)
  have HN2 := Lib.hid hb2
  clear hb2
  clear p0 p1
  have p0 := HX2.out 0 _ rfl
  have p1 := HX2.out 1 _ rfl
  go_wp2_with fail
  refine (fits_any (d + 1) p _ _ _ HP2.out).mono ?_
  rintro e w3 ⟨b1, hf1, rfl, hb3⟩
  have HF1 := Lib.hid hf1
  clear hf1
  have HB3 := Lib.hid (HB2.out.trans (hb3.mono HB2.out.size))
  have HX3 := Lib.hid (HX2.out.next hb3)
  have HP3 := Lib.hid (PrC.mono (cw_next hb3) HP2.out)
  have HN3 := Lib.hid hb3
  clear hb3
  clear p0 p1
  cases b1 with
  | false =>
    have p0 := HX3.out 0 _ rfl
    have p1 := HX3.out 1 _ rfl
    go_wp2_with fail
    go_ret
    exact ⟨rfl, HB3.out⟩
  | true =>
    have HWP := Lib.hid (HF1.out (by simp))
    clear HF1
    have p0 := HX3.out 0 _ rfl
    have p1 := HX3.out 1 _ rfl
    go_wp2_with fail
    refine (mayP_any (d + 1) p _ _ _ HP3.out).mono ?_
    rintro e w4 ⟨rfl, hb4⟩
    obtain ⟨m1, hm1⟩ : ∃ m, Hid (mayP p = m) := ⟨_, Lib.hid rfl⟩
    rw [hm1.out]
    have HB4 := Lib.hid (HB3.out.trans (hb4.mono HB3.out.size))
    have HX4 := Lib.hid (HX3.out.next hb4)
    have HP4 := Lib.hid (PrC.mono (cw_next hb4) HP3.out)
    have HN4 := Lib.hid hb4
    clear hb4
    clear p0 p1
    cases m1 with
    | false =>
      have p0 := HX4.out 0 _ rfl
      have p1 := HX4.out 1 _ rfl
      go_wp2_with fail
      go_ret
      exact ⟨rfl, HB4.out⟩
    | true =>
      have p0 := HX4.out 0 _ rfl
      have p1 := HX4.out 1 _ rfl
      have HWF := Lib.hid (wtPr_mem HWP.out)
      obtain ⟨r, hr⟩ : ∃ r, Hid (findP id p.procs = r) := ⟨_, Lib.hid rfl⟩
      go_wp2_with fail
      refine (findP_any (d + 1) p _ _ id _ HP4.out HWF.out).mono ?_
      rw [hr.out]
      cases r with
      | none =>
        rintro e w5 ⟨rfl, hb5⟩
        have HB5 := Lib.hid (HB4.out.trans (hb5.mono HB4.out.size))
        have HX5 := Lib.hid (HX4.out.next hb5)
        have HP5 := Lib.hid (PrC.mono (cw_next hb5) HP4.out)
        have HN5 := Lib.hid hb5
        clear hb5
        clear p0 p1
        have p0 := HX5.out 0 _ rfl
        have p1 := HX5.out 1 _ rfl
        unfold noSt
        by_cases h1 : id < 1
        · go_wp2_with fail
          go_ret
          exact ⟨rfl, HB5.out.alloc HB5.out.size _⟩
        · have hcnt : Hid (¬ (0 < id ∧ id ≤ 0 + cntP p.procs)) := Lib.hid (fun h => mayPs_ids id p.procs 0 (mayP_procs hm1.out) h.1 h.2 hr.out)
          have hc200 := mayP_cnt hm1.out
          obtain ⟨N, hN⟩ : ∃ N, Hid (cntP p.procs = N) := ⟨_, Lib.hid rfl⟩
          rw [hN.out] at hc200
          have hNe : Hid (wrap64 (((p.procs.map fun f => cntL f.body).sum : Nat) : Int) = (N : Int)) := Lib.hid (by
            rw [show (p.procs.map fun f => cntL f.body).sum = N from hN.out]
            unfold wrap64; omega)
          have hgt : (N : Int) < id := by have := hcnt.out; rw [hN.out] at this; omega
          go_upto_region 9 with fail
          refine cut_world (fun wx => Below w5.heap.size w5 wx) (boxed _ _) ?_
          clear p0 p1
          rintro wx hbx
          have P5 := Lib.hid (PrC.mono (cw_next hbx) HP5.out)
          have B5 := Lib.hid (HB5.out.trans (hbx.mono HB5.out.size))
          have p0 := HX5.out.next hbx 0 _ rfl
          have p1 := HX5.out.next hbx 1 _ rfl
          clear hbx
          go_wp2_with fail
          refine (countP_any (d + 1) p _ _ _ P5.out).mono ?_
          rintro e w6 ⟨rfl, hb6⟩
          rw [hNe.out]
          have B6 := Lib.hid (B5.out.trans (hb6.mono B5.out.size))
          clear hb6
          go_wp2_with fail
          go_ret
          exact ⟨rfl, B6.out⟩
      | some t0 =>
        obtain ⟨nm, s⟩ := t0
        rintro e w5 ⟨c, rfl, hsq, hb5⟩
        have HB5 := Lib.hid (HB4.out.trans (hb5.mono HB4.out.size))
        have HX5 := Lib.hid (HX4.out.next hb5)
        have HP5 := Lib.hid (PrC.mono (cw_next hb5) HP4.out)
        have HN5 := Lib.hid hb5
        clear hb5
        clear p0 p1
        obtain ⟨kv, lv, av, tv, ev, rfl, ok2, hk2, i1, i2, i3, i4, hlv, hav, htv, hev⟩ := StQ_mono (only_out) hsq
        obtain ⟨la, lc, rfl, hl1, hl2⟩ := hlv.form
        obtain ⟨aa, ac, rfl, ha1, ha2⟩ := hav.form
        obtain ⟨ta, tc, rfl, -, -⟩ := htv.form
        obtain ⟨ea, ec, rfl, -, -⟩ := hev.form
        obtain ⟨ka, kc, rfl, -, -⟩ := hk2.form
        have HH := Lib.hid (Hang.mk (s := s) hlv hk2 hav htv hev)
        have HOK2 := Lib.hid ok2
        have HI1 := Lib.hid i1
        have HI2 := Lib.hid i2
        have HI3 := Lib.hid i3
        have HI4 := Lib.hid i4
        have HAC1 := Lib.hid ha1
        have HAC2 := Lib.hid ha2
        have hwt : wtS s ≤ 20000 := findP_wt HWF.out hr.out
        have hli := LightS.of hwt
        have HLI := Lib.hid hli
        have HA2 : Hid (s.args.length ≤ 20000) := Lib.hid (by have := wtAr_len s.args; rw [wtS_eq] at hwt; omega)
        have HL2 : Hid (s.labels.length ≤ 20000) := Lib.hid (by have := wtTs_len s.labels; rw [wtS_eq] at hwt; omega)
        have hid2 : s.id = id := findP_id hr.out
        have HID := Lib.hid hid2
        clear hlv hk2 hav htv hev ok2 i1 i2 i3 i4 hsq hwt hli hid2 hl1 hl2 ha1 ha2
        unfold stCells
        go_upto_region 11 with fail
        refine cut_world (fun wx => Below w5.heap.size w5 wx ∧ BoxAt wx w5.heap.size (stCells s (.slice ka s.x.ks.length kc) (.slice la s.labels.length lc) (.slice aa s.args.length ac) (.slice ta s.thn.length tc) (.slice ea s.els.length ec)) ∧ BoxAt wx (w5.heap.size + 1) (stCells s (.slice ka s.x.ks.length kc) (.slice la s.labels.length lc) (.slice aa s.args.length ac) (.slice ta s.thn.length tc) (.slice ea s.els.length ec)) ∧ Free wx (w5.heap.size + 1)) ⟨(boxed w5 _).alloc (by simp) _, (box_new w5 #[.int .i64 s.id, .int .i64 s.kind, .slice la s.labels.length lc, .string s.nm, .string s.proc, .int .i64 s.x.op, .int .i64 s.x.n, .string s.x.nm, .slice ka s.x.ks.length kc, .bool s.has, .slice aa s.args.length ac, .slice ta s.thn.length tc, .slice ea s.els.length ec] 53).next (boxed _ _), box_two w5 _ #[.int .i64 s.id, .int .i64 s.kind, .slice la s.labels.length lc, .string s.nm, .string s.proc, .int .i64 s.x.op, .int .i64 s.x.n, .string s.x.nm, .slice ka s.x.ks.length kc, .bool s.has, .slice aa s.args.length ac, .slice ta s.thn.length tc, .slice ea s.els.length ec] 53, free_two _ _ _ _⟩ ?_
        rintro w6 ⟨hb6, hs6, ht6, hf6⟩
        have HB6 := Lib.hid (HB5.out.trans (hb6.mono HB5.out.size))
        have HX6 := Lib.hid (HX5.out.next hb6)
        have HP6 := Lib.hid (PrC.mono (cw_next hb6) HP5.out)
        have HN6 := Lib.hid hb6
        have HS6 := Lib.hid hs6
        have HT6 := Lib.hid ht6
        have HF6 := Lib.hid hf6
        have hz6 : w5.heap.size + 1 < w6.heap.size := cell_lt (ht6 0 _ rfl)
        have HH6 := Lib.hid (HH.out.next hb6)
        clear hb6 hs6 ht6 hf6
        obtain ⟨r, hrk⟩ : ∃ r, Hid (k % 5 = r) := ⟨_, Lib.hid rfl⟩
        have hr0 : 0 ≤ r := by rw [← hrk.out]; omega
        have hr5 : r < 5 := by rw [← hrk.out]; omega
        have hmod := mod_any k 5 r w6 HK.out.1 HK.out.2 (by omega) (by omega) hrk.out
        go_upto_block 0 with (go_at_call 44; refine hmod.mono ?_; rintro e w' ⟨rfl, rfl⟩)
        clear hmod
        go_cut [46] (fun _ wx => TurnedAt (d + 1) w5 w5.heap.size (w5.heap.size + 1) s (stCells s (.slice ka s.x.ks.length kc) (.slice la s.labels.length lc) (.slice aa s.args.length ac) (.slice ta s.thn.length tc) (.slice ea s.els.length ec)) wx)
        case first =>
          rcases (show r = 0 ∨ r = 1 ∨ r = 2 ∨ r = 3 ∨ r = 4 by omega) with h | h | h | h | h
          · skip
            obtain rfl : r = 0 := by omega
            have m3 := HT6.out 3 _ rfl
            have fz3 := HF6.out 3
            go_wp2_with fail
            go_meet
            have hbz : Below w5.heap.size w5 (w6.setCell ⟨w5.heap.size + 1, 3, none⟩ (.string name)) := HN6.out.setCell (p := ⟨w5.heap.size + 1, 3, none⟩) (by simp) _
            refine ⟨(.mk s.id s.kind s.labels name s.proc s.x s.has s.args s.thn s.els), ka, la, aa, ta, ea, kc, lc, ac, tc, ec, HT6.out.put (j := 3) (by simp [stCells]), ⟨StrC.mono (cw_next hbz) HH.out.lab, ExC.mono (cw_next hbz) HH.out.kid, SlAt.imp HH.out.arg (fun _ _ _ _ => ArAt.mono (cw_next hbz)), StC.mono (cw_next hbz) HH.out.thn, StC.mono (cw_next hbz) HH.out.els⟩, HOK2.out, HI1.out, HI2.out, HNAME.out, HI4.out, HLI.out, rfl, ?_, HS6.out.set (by omega), hbz⟩
            intro hsb
            unfold sameB at hsb
            simp only [Bool.and_eq_true, beq_iff_eq, decide_eq_true_eq, St.nm, St.kind, St.labels, St.args, St.has] at hsb
            have hn : name = s.nm := (eq_text name s.nm).1 (by rw [show name.toList = s.nm.toList from hsb.1.1.1.1]; simp)
            exact ⟨rfl, rfl, rfl, hn, rfl, rfl, rfl, rfl⟩
          · skip
            obtain rfl : r = 1 := by omega
            obtain ⟨r1, hr1⟩ : ∃ r, Hid (k % 10 = r) := ⟨_, Lib.hid rfl⟩
            have n1 := HS6.out 1 _ rfl
            obtain ⟨K1, hK1⟩ : ∃ K, Hid (IntKind.i64.wrap (s.kind + r1) = K) := ⟨_, Lib.hid rfl⟩
            have hK1i : InI K1 := by rw [← hK1.out, IntKind.wrap_i64]; unfold InI; omega
            obtain ⟨r2, hr2⟩ : ∃ r, Hid (K1 % 10 = r) := ⟨_, Lib.hid rfl⟩
            have r20 : 0 ≤ r2 := by rw [← hr2.out]; omega
            have r21 : r2 < 10 := by rw [← hr2.out]; omega
            have e12 : IntKind.i64.wrap (1 + r2) = 1 + r2 := IntWalk.i64_in _ (by omega)
            have hK1e := hK1.out
            have HKI := Lib.hid hK1i
            clear hK1i
            go_upto_region 16 with fail
            refine wp_region_still_tail 8 (by kernel_rfl) (by kernel_rfl) ?_
            simp only [List.take_succ_cons, List.take_zero, List.drop_succ_cons, List.drop_zero]
            still_step
            still_step
            still_step
            still_call ((mod_any k 10 r1 _ HK.out.1 HK.out.2 (by omega) (by omega) hr1.out).mono fun e w' h => ⟨h.1, h.2.symm⟩)
            still_step
            still_call ((mod_any K1 10 r2 _ HKI.out.1 HKI.out.2 (by omega) (by omega) hr2.out).mono fun e w' h => ⟨h.1, h.2.symm⟩)
            still_step
            still_step
            refine wpStill_nil ?_
            change wpList _ _ _ _ _ w6.drew
            clear hK1e e12
            have m1 := HT6.out 1 _ rfl
            have fz1 := HF6.out 1
            go_wp2_with fail
            go_meet
            have hbz : Below w5.heap.size w5 (w6.drew.setCell ⟨w5.heap.size + 1, 1, none⟩ (.int .i64 (1 + r2))) := HN6.out.drew.setCell (p := ⟨w5.heap.size + 1, 1, none⟩) (by simp) _
            refine ⟨(.mk s.id (1 + r2) s.labels s.nm s.proc s.x s.has s.args s.thn s.els), ka, la, aa, ta, ea, kc, lc, ac, tc, ec, (HT6.out.next ((Below.refl _ _).drew)).put (j := 1) (by simp [stCells]), ⟨StrC.mono (cw_next hbz) HH.out.lab, ExC.mono (cw_next hbz) HH.out.kid, SlAt.imp HH.out.arg (fun _ _ _ _ => ArAt.mono (cw_next hbz)), StC.mono (cw_next hbz) HH.out.thn, StC.mono (cw_next hbz) HH.out.els⟩, HOK2.out, HI1.out, (show InI (1 + r2) from by unfold InI; omega), HI3.out, HI4.out, HLI.out, rfl, ?_, (HS6.out.next ((Below.refl _ _).drew)).set (by omega), hbz⟩
            intro hsb
            unfold sameB at hsb
            simp only [Bool.and_eq_true, beq_iff_eq, decide_eq_true_eq, St.nm, St.kind, St.labels, St.args, St.has] at hsb
            exact ⟨rfl, hsb.1.1.1.2, rfl, (eq_text s.nm s.nm).1 (by simp), rfl, rfl, rfl, rfl⟩
          · skip
            obtain rfl : r = 2 := by omega
            obtain ⟨i0, hi, hz0, hz1, hz2⟩ := info_parts infoStr
            have hlab := StrC.to HH6.out.lab
            have hl6 : s.labels.length ≤ 1000000 := HLI.out.2.1
            obtain ⟨-, lz, lnew⟩ := hlab.news
            have LZ := Lib.hid lz
            have LAB := Lib.hid hlab
            have FINE := Lib.hid hlab.all
            have n2 := HS6.out 2 _ rfl
            have zl2 := cell_lt n2
            have zn2 := World.new_ne _ _ n2
            clear hlab lz lnew
            go_wp2_with (at_builtin; refine wpList_append_sl _ rfl (.tmp 62) (.tmp 64) 25 rfl w6.heap.size 9 i0 (.string ⟨#[]⟩) 1 16 Try.underlying25 hi hz0 hz1 hz2 rfl (by decide) _ 0 [] rfl ?oa1 la s.labels.length lc (s.labels.map Value.string) rfl LZ.out (by simp) ?oc1 (str_all _) ?od1 ?oe1 ?of1 ?_)
            case oa1 => exact World.ownsRow_lit w6 #[] 0 (Nat.le_refl _) (by decide) rfl
            case oc1 => exact fun ad had j a ha => (LAB.out.next (boxed w6 _)).news.2.2 ad had j _ (by rw [List.getElem?_map, ha]; rfl)
            case od1 => unfold maxLen; omega
            case oe1 => omega
            intro v8 w8 hown8 hg8 hat8
            obtain ⟨la8, lc8, rfl⟩ := ownsForm hown8
            have hb8 : Below w6.heap.size w6 w8 := (boxed w6 _).grown hg8 (by simp) fun q hq => by have hqq : w6.heap.size = q := by { simpa [Value.ownBlock] using hq }; omega
            have HOWN8 := Lib.hid hown8
            have HB8 := Lib.hid hb8
            have hs8 := hb8.size
            have hrr : ([.string name] : List Value).length = 1 * 1 := rfl
            clear hown8 hg8 hat8 hb8 n2 zl2 zn2
            go_wp2_with (at_builtin; refine wpList_append_sl _ rfl (.tmp 65) (.tmp 67) 25 rfl w6.heap.size 9 i0 (.string ⟨#[]⟩) 1 16 Try.underlying25 hi hz0 hz1 hz2 rfl (by decide) _ s.labels.length _ rfl (HOWN8.out.alloc _) (some ⟨w8.heap.size, 0, none⟩) 1 1 [.string name] rfl ?oz2 rfl ?oc2 ?oa2 ?od2 ?oe2 ?of2 ?_)
            case oz2 => intro h; cases h
            case oc2 =>
              intro ad had j u h
              cases had
              rw [Addr.add_lit]
              match j, h with
              | 0, h => cases h; first | (simp [go_sem]; done) | (simp [go_sem]; rfl)
            case oa2 => exact str_all [name]
            case od2 => unfold maxLen; omega
            case oe2 => omega
            case of2 => simp; omega
            intro v9 w9 hown9 hg9 hat9
            obtain ⟨la9, lc9, rfl⟩ := ownsForm hown9
            have hb9 : Below w6.heap.size w6 w9 := (HB8.out.trans ((boxed w8 _).mono hs8)).grown hg9 (by simp; omega) fun q hq => (HOWN8.out.lt q hq).1
            have HNM9 : Hid (StrC (nwC w6.heap.size w9) (.slice la9 (s.labels.length + 1) lc9) (s.labels ++ [name])) := Lib.hid (strs_owned (B := w6.heap.size) (by simpa using hown9) (by simp) (by omega) fun t ht => by
              rcases List.mem_append.1 ht with ht | ht
              · exact FINE.out t ht
              · simp at ht; rw [ht]; exact HNAME.out)
            have HB9 := Lib.hid hb9
            have m2 := (HT6.out.next hb9) 2 _ rfl
            have fz2 := (HF6.out.next hz6 hb9) 2
            clear hown9 hg9 hat9 hb9 HOWN8 HB8
            go_wp2_with fail
            go_meet
            have hbz : Below w5.heap.size w5 (w9.setCell ⟨w5.heap.size + 1, 2, none⟩ (.slice la9 (s.labels.length + 1) lc9)) := (HN6.out.trans (HB9.out.mono HN6.out.size)).setCell (p := ⟨w5.heap.size + 1, 2, none⟩) (by simp) _
            have hln : (s.labels ++ [name]).length = s.labels.length + 1 := by simp
            refine ⟨(.mk s.id s.kind (s.labels ++ [name]) s.nm s.proc s.x s.has s.args s.thn s.els), ka, la9, aa, ta, ea, kc, lc9, ac, tc, ec, ?_, ⟨?_, ExC.mono (cw_next hbz) HH.out.kid, SlAt.imp HH.out.arg (fun _ _ _ _ => ArAt.mono (cw_next hbz)), StC.mono (cw_next hbz) HH.out.thn, StC.mono (cw_next hbz) HH.out.els⟩, HOK2.out, HI1.out, HI2.out, HI3.out, HI4.out, ⟨HLI.out.1, ?_, HLI.out.2.2⟩, rfl, ?_, (HS6.out.next HB9.out).set (by omega), hbz⟩
            · have := (HT6.out.next HB9.out).put (j := 2) (x := .slice la9 (s.labels.length + 1) lc9) (by simp [stCells])
              rw [← hln] at this ⊢
              exact this
            · rw [show (St.labels (.mk s.id s.kind (s.labels ++ [name]) s.nm s.proc s.x s.has s.args s.thn s.els)) = s.labels ++ [name] from rfl, hln]
              exact StrC.mono (Cs.le_trans (le_set (R := w5.heap.size + 1) (by omega)) only_out) HNM9.out
            · show (s.labels ++ [name]).length ≤ 1000000
              rw [hln]
              have := HL2.out
              omega
            · intro hsb
              unfold sameB at hsb
              simp only [Bool.and_eq_true, decide_eq_true_eq] at hsb
              have h3 : (s.labels ++ [name]).length = s.labels.length := hsb.1.1.2
              exfalso
              omega
          · skip
            obtain rfl : r = 3 := by omega
            have n10 := HS6.out 10 _ rfl
            have ha20 : s.args.length ≤ 20000 := HA2.out
            obtain ⟨m, hm⟩ : ∃ m, Hid (s.args.length - 1 = m) := ⟨_, Lib.hid rfl⟩
            have hml : m ≤ s.args.length := by rw [← hm.out]; omega
            have m10 := HT6.out 10 _ rfl
            have fz10 := HF6.out 10
            by_cases h0 : s.args.length ≤ 1
            · have f1 : ¬ (0 : Int) < (s.args.length : Int) - 1 := by omega
              have f3 : max (0 : Int) ((s.args.length : Int) - 1) = 0 := by omega
              have f4 : (m : Int) = 0 := by rw [← hm.out]; omega
              have hcut0 := run_cut6 50 80 Try.underlying50 6 (fun _ => by kernel_rfl) aa s.args.length ac m 0 f4.symm (Nat.le_trans hml HAC1.out) HAC2.out
              clear f4
              go_wp2_with fail
              go_meet
              have hbz : Below w5.heap.size w5 (w6.setCell ⟨w5.heap.size + 1, 10, none⟩ (.slice aa m ac)) := HN6.out.setCell (p := ⟨w5.heap.size + 1, 10, none⟩) (by simp) _
              have hln : (s.args.take m).length = m := by rw [List.length_take]; omega
              refine ⟨(.mk s.id s.kind s.labels s.nm s.proc s.x s.has (s.args.take m) s.thn s.els), ka, la, aa, ta, ea, kc, lc, ac, tc, ec, ?_, ⟨StrC.mono (cw_next hbz) HH.out.lab, ExC.mono (cw_next hbz) HH.out.kid, ?_, StC.mono (cw_next hbz) HH.out.thn, StC.mono (cw_next hbz) HH.out.els⟩, HOK2.out, HI1.out, HI2.out, HI3.out, HI4.out, ⟨HLI.out.1, HLI.out.2.1, ?_, fun a ha => HLI.out.2.2.2 a (List.mem_of_mem_take ha)⟩, rfl, ?_, HS6.out.set (by omega), hbz⟩
              · have := HT6.out.put (j := 10) (x := .slice aa m ac) (by simp [stCells])
                have e : (Value.slice aa (s.args.take m).length ac) = .slice aa m ac := by rw [hln]
                show BoxAt _ _ (stCells (.mk s.id s.kind s.labels s.nm s.proc s.x s.has (s.args.take m) s.thn s.els) _ _ (Value.slice aa (s.args.take m).length ac) _ _)
                rw [e]
                exact this
              · rw [show (St.args (.mk s.id s.kind s.labels s.nm s.proc s.x s.has (s.args.take m) s.thn s.els)) = s.args.take m from rfl, hln]
                exact SlAt.imp (SlAt.take HH.out.arg m hml) (fun _ _ _ _ => ArAt.mono (cw_next hbz))
              · show (s.args.take m).length ≤ 1000000
                omega
              · intro hsb
                unfold sameB at hsb
                simp only [Bool.and_eq_true, decide_eq_true_eq] at hsb
                have h3 : (s.args.take m).length = s.args.length := hsb.1.2
                have h4 : s.args.take m = s.args := List.take_of_length_le (by omega)
                exact ⟨rfl, rfl, rfl, rfl, rfl, rfl, rfl, h4⟩
            · have f1 : (0 : Int) < (s.args.length : Int) - 1 := by omega
              have f3 : max (0 : Int) ((s.args.length : Int) - 1) = (s.args.length : Int) - 1 := by omega
              have f4 : (s.args.length : Int) - 1 = (m : Int) := by rw [← hm.out]; omega
              have hcut1 := run_cut6 50 80 Try.underlying50 6 (fun _ => by kernel_rfl) aa s.args.length ac m _ f4 (Nat.le_trans hml HAC1.out) HAC2.out
              clear f4
              go_wp2_with fail
              go_meet
              have hbz : Below w5.heap.size w5 (w6.setCell ⟨w5.heap.size + 1, 10, none⟩ (.slice aa m ac)) := HN6.out.setCell (p := ⟨w5.heap.size + 1, 10, none⟩) (by simp) _
              have hln : (s.args.take m).length = m := by rw [List.length_take]; omega
              refine ⟨(.mk s.id s.kind s.labels s.nm s.proc s.x s.has (s.args.take m) s.thn s.els), ka, la, aa, ta, ea, kc, lc, ac, tc, ec, ?_, ⟨StrC.mono (cw_next hbz) HH.out.lab, ExC.mono (cw_next hbz) HH.out.kid, ?_, StC.mono (cw_next hbz) HH.out.thn, StC.mono (cw_next hbz) HH.out.els⟩, HOK2.out, HI1.out, HI2.out, HI3.out, HI4.out, ⟨HLI.out.1, HLI.out.2.1, ?_, fun a ha => HLI.out.2.2.2 a (List.mem_of_mem_take ha)⟩, rfl, ?_, HS6.out.set (by omega), hbz⟩
              · have := HT6.out.put (j := 10) (x := .slice aa m ac) (by simp [stCells])
                have e : (Value.slice aa (s.args.take m).length ac) = .slice aa m ac := by rw [hln]
                show BoxAt _ _ (stCells (.mk s.id s.kind s.labels s.nm s.proc s.x s.has (s.args.take m) s.thn s.els) _ _ (Value.slice aa (s.args.take m).length ac) _ _)
                rw [e]
                exact this
              · rw [show (St.args (.mk s.id s.kind s.labels s.nm s.proc s.x s.has (s.args.take m) s.thn s.els)) = s.args.take m from rfl, hln]
                exact SlAt.imp (SlAt.take HH.out.arg m hml) (fun _ _ _ _ => ArAt.mono (cw_next hbz))
              · show (s.args.take m).length ≤ 1000000
                omega
              · intro hsb
                unfold sameB at hsb
                simp only [Bool.and_eq_true, decide_eq_true_eq] at hsb
                have h3 : (s.args.take m).length = s.args.length := hsb.1.2
                have h4 : s.args.take m = s.args := List.take_of_length_le (by omega)
                exact ⟨rfl, rfl, rfl, rfl, rfl, rfl, rfl, h4⟩
          · skip
            obtain rfl : r = 4 := by omega
            have n9 := HS6.out 9 _ rfl
            have m9 := HT6.out 9 _ rfl
            have fz9 := HF6.out 9
            go_wp2_with fail
            go_meet
            have hbz : Below w5.heap.size w5 (w6.setCell ⟨w5.heap.size + 1, 9, none⟩ (.bool (!s.has))) := HN6.out.setCell (p := ⟨w5.heap.size + 1, 9, none⟩) (by simp) _
            refine ⟨(.mk s.id s.kind s.labels s.nm s.proc s.x (!s.has) s.args s.thn s.els), ka, la, aa, ta, ea, kc, lc, ac, tc, ec, HT6.out.put (j := 9) (by simp [stCells]), ⟨StrC.mono (cw_next hbz) HH.out.lab, ExC.mono (cw_next hbz) HH.out.kid, SlAt.imp HH.out.arg (fun _ _ _ _ => ArAt.mono (cw_next hbz)), StC.mono (cw_next hbz) HH.out.thn, StC.mono (cw_next hbz) HH.out.els⟩, HOK2.out, HI1.out, HI2.out, HI3.out, HI4.out, HLI.out, rfl, ?_, HS6.out.set (by omega), hbz⟩
            intro hsb
            unfold sameB at hsb
            simp only [Bool.and_eq_true, beq_iff_eq, decide_eq_true_eq, St.nm, St.kind, St.labels, St.args, St.has] at hsb
            exfalso
            have := hsb.2
            cases s.has <;> simp at this
        case rest =>
          obtain ⟨w7, hw7⟩ : ∃ w7 : World, w7 = wc := ⟨_, rfl⟩
          subst hw7
          obtain ⟨t, kat, lat, aat, tat, eat, kct, lct, act, tct, ect, hbt, hht, hok, g1, g2, g3, g4, hlt, hidt, hlaw, hbs, hbw⟩ := hcut
          have HHT := Lib.hid hht
          have HOKT := Lib.hid hok
          have HG1 := Lib.hid g1
          have HG2 := Lib.hid g2
          have HG3 := Lib.hid g3
          have HG4 := Lib.hid g4
          have HLT := Lib.hid hlt
          have HBT := Lib.hid hbt
          have HE : Hid (eqPr p (putPr t p) = sameB t s) := Lib.hid (put_turned hm1.out (by rw [hidt, HID.out]; exact hr.out) hlaw)
          have HBS := Lib.hid hbs
          have HX7 := Lib.hid (HX5.out.next hbw)
          have HP7 := Lib.hid (PrC.mono (cw_next hbw) HP5.out)
          have HB7 := Lib.hid (HB5.out.trans (hbw.mono HB5.out.size))
          clear hht hok g1 g2 g3 g4 hlt hidt hlaw hbw hbs hbt HS6 HT6 HF6
          go_upto_region 21 with fail
          go_cut [13] (fun x13 wx => x13 = .bool (sameB t s) ∧ w7 = wx)
          case first =>
            have m1 := HBT.out 1 _ rfl
            have m2 := HBT.out 2 _ rfl
            have m3 := HBT.out 3 _ rfl
            have m9 := HBT.out 9 _ rfl
            have m10 := HBT.out 10 _ rfl
            have n1 := HBS.out 1 _ rfl
            have n2 := HBS.out 2 _ rfl
            have n3 := HBS.out 3 _ rfl
            have n9 := HBS.out 9 _ rfl
            have n10 := HBS.out 10 _ rfl
            cases c1 : (t.nm.toList == s.nm.toList) with
            | false =>
              go_wp2_with fail
              go_meet
              exact ⟨by simp [sameB, c1], rfl⟩
            | true =>
              cases c2 : (t.kind == s.kind) with
              | false =>
                go_wp2_with fail
                go_meet
                exact ⟨by simp [sameB, c1, c2], rfl⟩
              | true =>
                by_cases c3 : t.labels.length = s.labels.length
                · have c3b : ((t.labels.length : Int) == (s.labels.length : Int)) = true := by simp; omega
                  have Hc3 := Lib.hid c3
                  clear c3
                  by_cases c4 : t.args.length = s.args.length
                  · have c4b : ((t.args.length : Int) == (s.args.length : Int)) = true := by simp; omega
                    have Hc4 := Lib.hid c4
                    clear c4
                    cases c5 : (t.has == s.has) with
                    | false =>
                      go_wp2_with fail
                      go_meet
                      exact ⟨by simp [sameB, c1, c2, Hc3.out, Hc4.out, c5], rfl⟩
                    | true =>
                      go_wp2_with fail
                      go_meet
                      exact ⟨by simp [sameB, c1, c2, Hc3.out, Hc4.out, c5], rfl⟩
                  · have c4b : ((t.args.length : Int) == (s.args.length : Int)) = false := by simp; omega
                    go_wp2_with fail
                    go_meet
                    exact ⟨by simp [sameB, c1, c2, Hc3.out, c4], rfl⟩
                · have c3b : ((t.labels.length : Int) == (s.labels.length : Int)) = false := by simp; omega
                  go_wp2_with fail
                  go_meet
                  exact ⟨by simp [sameB, c1, c2, c3], rfl⟩
          case rest =>
            obtain ⟨rfl, rfl⟩ := hcut
            obtain ⟨b, hb0⟩ : ∃ b, Hid (sameB t s = b) := ⟨_, Lib.hid rfl⟩
            have hEb : Hid (eqPr p (putPr t p) = b) := Lib.hid (by rw [HE.out, hb0.out])
            rw [hb0.out]
            have hbb : (b == b) = true := by simp
            have p0 := HX7.out 0 _ rfl
            have p1 := HX7.out 1 _ rfl
            have e0 := HBT.out 0 _ rfl
            have e1 := HBT.out 1 _ rfl
            have e2 := HBT.out 2 _ rfl
            have e3 := HBT.out 3 _ rfl
            have e4 := HBT.out 4 _ rfl
            have e5 := HBT.out 5 _ rfl
            have e6 := HBT.out 6 _ rfl
            have e7 := HBT.out 7 _ rfl
            have e8 := HBT.out 8 _ rfl
            have e9 := HBT.out 9 _ rfl
            have e10 := HBT.out 10 _ rfl
            have e11 := HBT.out 11 _ rfl
            have e12 := HBT.out 12 _ rfl
            have hq : Below w7.heap.size w7 w7.drew := (Below.refl _ _).drew
            have L0 := Lib.hid p0
            have L1 := Lib.hid p1
            have K0 := Lib.hid e0
            have K1 := Lib.hid e1
            have K2 := Lib.hid e2
            have K3 := Lib.hid e3
            have K4 := Lib.hid e4
            have K5 := Lib.hid e5
            have K6 := Lib.hid e6
            have K7 := Lib.hid e7
            have K8 := Lib.hid e8
            have K9 := Lib.hid e9
            have K10 := Lib.hid e10
            have K11 := Lib.hid e11
            have K12 := Lib.hid e12
            clear p0 p1 e0 e1 e2 e3 e4 e5 e6 e7 e8 e9 e10 e11 e12
            go_upto_region 22 with fail
            go_region_held3 (fun w' => w'.cell? ⟨w.heap.size, 0, none⟩ = some (.slice ga p.globals.length gc) ∧ w'.cell? ⟨w.heap.size, 1, none⟩ = some (.slice pa p.procs.length pc) ∧ w'.cell? ⟨w5.heap.size + 1, 0, none⟩ = some (.int .i64 t.id) ∧ w'.cell? ⟨w5.heap.size + 1, 1, none⟩ = some (.int .i64 t.kind) ∧ w'.cell? ⟨w5.heap.size + 1, 2, none⟩ = some (.slice lat t.labels.length lct) ∧ w'.cell? ⟨w5.heap.size + 1, 3, none⟩ = some (.string t.nm) ∧ w'.cell? ⟨w5.heap.size + 1, 4, none⟩ = some (.string t.proc) ∧ w'.cell? ⟨w5.heap.size + 1, 5, none⟩ = some (.int .i64 t.x.op) ∧ w'.cell? ⟨w5.heap.size + 1, 6, none⟩ = some (.int .i64 t.x.n) ∧ w'.cell? ⟨w5.heap.size + 1, 7, none⟩ = some (.string t.x.nm) ∧ w'.cell? ⟨w5.heap.size + 1, 8, none⟩ = some (.slice kat t.x.ks.length kct) ∧ w'.cell? ⟨w5.heap.size + 1, 9, none⟩ = some (.bool t.has) ∧ w'.cell? ⟨w5.heap.size + 1, 10, none⟩ = some (.slice aat t.args.length act) ∧ w'.cell? ⟨w5.heap.size + 1, 11, none⟩ = some (.slice tat t.thn.length tct) ∧ w'.cell? ⟨w5.heap.size + 1, 12, none⟩ = some (.slice eat t.els.length ect) ∧ Below w7.heap.size w7 w')
              (exact ⟨cell_next hq L0.out, cell_next hq L1.out, cell_next hq K0.out, cell_next hq K1.out, cell_next hq K2.out, cell_next hq K3.out, cell_next hq K4.out, cell_next hq K5.out, cell_next hq K6.out, cell_next hq K7.out, cell_next hq K8.out, cell_next hq K9.out, cell_next hq K10.out, cell_next hq K11.out, cell_next hq K12.out, hq⟩)
              (first
                | (go_split_ands; go_at_call 48; refine (putP_call (d + 1) t HOKT.out HG1.out HG2.out HG3.out HG4.out HLT.out kat lat aat tat eat kct lct act tct ect (d + 1) p _ _ _ (PrC.mono (cw_next (by assumption)) HP7.out) HWP.out (HHT.out.next (by assumption))).mono ?_; rintro e w8 ⟨cg, cp, rfl, hc8, hb8⟩; have HC := Lib.hid (PrC.mono (C := nwC _ w8) (D := cw w8) (fun _ _ _ h => h.2) hc8); clear hc8; have hq := below_then hb8 (by assumption))
                | (go_split_ands; go_at_call 45; refine (eqPr_any (d + 1 + (d + 1)) p (putPr t p) _ _ _ _ _ (PrC.le (by omega) (PrC.mono (cw_next (by assumption)) HP7.out)) HC.out).mono ?_; rintro e w8 ⟨rfl, hb8⟩; rw [hEb.out]; have hq := below_then hb8 (by assumption)))
            all_goals
              have HBZ := Lib.hid (HB7.out.trans (hq.mono HB7.out.size))
              clear hq
              go_wp2_with fail
              go_ret
              exact ⟨rfl, HBZ.out⟩
end Go.Proofs.Ytnbclbphggmenaa.Tr
