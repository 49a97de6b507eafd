/- What tree.Find tells. Conditions: the program lies in memory, it is light. -/
import Derived.Test.YtnbclbphggmenaaCopW
import Derived.RegionTactic
namespace Go.Proofs.Ytnbclbphggmenaa.Tr
open Go.RowKit Go.Proofs.Ytnbclbphggmenaa.Lx Go.Proofs.Ytnbclbphggmenaa.Wd
/-- The first statement of an id, and its procedure's name. -/
def findP (id : Int) : List Pc → Option (ByteArray × St)
  | [] => none
  | f :: r => match findL id f.body with
    | some s => some (f.nm, s)
    | none => findP id r
theorem findP_none {id : Int} {l : List Pc} (h : ∀ k (hk : k < l.length), findL id l[k].body = none) : findP id l = none := by
  induction l with
  | nil => rfl
  | cons f r ih =>
    have h0 : findL id f.body = none := h 0 (by simp)
    rw [findP, h0]
    exact ih fun k hk => h (k + 1) (by simpa using hk)
theorem findP_at {id : Int} {l : List Pc} {k : Nat} (hk : k < l.length) {t : St} (ht : findL id l[k].body = some t) (h : ∀ j (hj : j < l.length), j < k → findL id l[j].body = none) : findP id l = some (l[k].nm, t) := by
  induction l generalizing k with
  | nil => cases hk
  | cons f r ih =>
    cases k with
    | zero =>
      have h0 : findL id f.body = some t := ht
      rw [findP, h0]; rfl
    | succ k =>
      have h0 : findL id f.body = none := h 0 (by simp) (by omega)
      rw [findP, h0]
      exact ih (k := k) (by simpa using hk) ht fun j hj hjk => h (j + 1) (by simpa using hj) (by omega)
mutual
theorem findS_wt (id : Int) : ∀ (s t : St), findS id s = some t → wtS t ≤ wtS s
  | .mk i k ls nm pr x h ar th el, t, hf => by
    rw [findS_eq] at hf
    by_cases hi : (St.mk i k ls nm pr x h ar th el).id = id
    · rw [if_pos hi] at hf
      have e := Option.some.inj hf
      rw [← e]
      exact Nat.le_refl _
    · rw [if_neg hi] at hf
      simp only [St.thn, St.els] at hf
      cases hq : findL id th with
      | some u =>
        rw [hq] at hf
        have e : u = t := Option.some.inj hf
        have := findL_wt id th u hq
        rw [← e]
        simp only [wtS]
        omega
      | none =>
        rw [hq] at hf
        have := findL_wt id el t hf
        simp only [wtS]
        omega
theorem findL_wt (id : Int) : ∀ (l : List St) (t : St), findL id l = some t → wtS t ≤ wtL l
  | [], t, hf => by simp only [findL] at hf; cases hf
  | s :: r, t, hf => by
    rw [findL_cons] at hf
    cases hq : findS id s with
    | some u =>
      rw [hq] at hf
      have e : u = t := Option.some.inj hf
      have := findS_wt id s u hq
      rw [← e]
      simp only [wtL]
      omega
    | none =>
      rw [hq] at hf
      have := findL_wt id r t hf
      simp only [wtL]
      omega
end
/-- No statement. -/
def noSt : List Value := [.int .i64 0, .int .i64 0, .slice none 0 0, .string ⟨#[]⟩, .string ⟨#[]⟩, .int .i64 0, .int .i64 0, .string ⟨#[]⟩, .slice none 0 0, .bool false, .slice none 0 0, .slice none 0 0, .slice none 0 0]
def FindMade (d : Nat) (r : Option (ByteArray × St)) (w : World) (e : Ending) (w' : World) : Prop := match r with
  | some (nm, s) => ∃ c, e = .returned (.tuple #[.string nm, .agg c.toArray, .bool true]) ∧ StQ d (nwC w.heap.size w') c s ∧ Below w.heap.size w w'
  | none => e = .returned (.tuple #[.string ⟨#[]⟩, .agg noSt.toArray, .bool false]) ∧ Below w.heap.size w w'
/-- A statement that stands somewhere, as a row of one. -/
theorem one_st {w : World} {d g o : Nat} {s : St} (h : StAt (cw w) d (StC (cw w) d) g o s) : StC (cw w) (d + 1) (.slice (some ⟨g, o, none⟩) 1 1) [s] :=
  ⟨_, 1, rfl, Nat.le_refl _, by omega, fun _ => ⟨g, o, rfl, fun i hi => by
    match i, hi with
    | 0, _ => simpa using h⟩⟩
/-- A box of thirteen cells is written: another block's cell stays. -/
theorem far13 {w : World} {R g i : Nat} {u a0 a1 a2 a3 a4 a5 a6 a7 a8 a9 a10 a11 a12 : Value} (h : w.cell? ⟨g, i, none⟩ = some u) (hne : R ≠ g) : (((((((((((((w.setCell ⟨R, 0, none⟩ a0).setCell ⟨R, 1, none⟩ a1).setCell ⟨R, 2, none⟩ a2).setCell ⟨R, 3, none⟩ a3).setCell ⟨R, 4, none⟩ a4).setCell ⟨R, 5, none⟩ a5).setCell ⟨R, 6, none⟩ a6).setCell ⟨R, 7, none⟩ a7).setCell ⟨R, 8, none⟩ a8).setCell ⟨R, 9, none⟩ a9).setCell ⟨R, 10, none⟩ a10).setCell ⟨R, 11, none⟩ a11).setCell ⟨R, 12, none⟩ a12).cell? ⟨g, i, none⟩ = some u := by
  have k : ∀ (w : World) (j : Nat) (a : Value), w.cell? ⟨g, i, none⟩ = some u → (w.setCell ⟨R, j, none⟩ a).cell? ⟨g, i, none⟩ = some u := fun w j a h => by
    rw [World.cell?_setCell_other _ _ _ _ (fun e => hne (congrArg Addr.block e))]
    exact h
  exact k _ _ _ (k _ _ _ (k _ _ _ (k _ _ _ (k _ _ _ (k _ _ _ (k _ _ _ (k _ _ _ (k _ _ _ (k _ _ _ (k _ _ _ (k _ _ _ (k _ _ _ (h)))))))))))))
theorem box13 {w : World} {R : Nat} {cs : List Value} {a0 a1 a2 a3 a4 a5 a6 a7 a8 a9 a10 a11 a12 : Value} (h : BoxAt w R cs) (hl : cs.length = 13) : BoxAt (((((((((((((w.setCell ⟨R, 0, none⟩ a0).setCell ⟨R, 1, none⟩ a1).setCell ⟨R, 2, none⟩ a2).setCell ⟨R, 3, none⟩ a3).setCell ⟨R, 4, none⟩ a4).setCell ⟨R, 5, none⟩ a5).setCell ⟨R, 6, none⟩ a6).setCell ⟨R, 7, none⟩ a7).setCell ⟨R, 8, none⟩ a8).setCell ⟨R, 9, none⟩ a9).setCell ⟨R, 10, none⟩ a10).setCell ⟨R, 11, none⟩ a11).setCell ⟨R, 12, none⟩ a12) R [a0, a1, a2, a3, a4, a5, a6, a7, a8, a9, a10, a11, a12] := by
  match cs, hl with
  | [c0, c1, c2, c3, c4, c5, c6, c7, c8, c9, c10, c11, c12], _ =>
    exact (((((((((((((h.put (j := 0) (x := a0) (by simp)).put (j := 1) (x := a1) (by simp)).put (j := 2) (x := a2) (by simp)).put (j := 3) (x := a3) (by simp)).put (j := 4) (x := a4) (by simp)).put (j := 5) (x := a5) (by simp)).put (j := 6) (x := a6) (by simp)).put (j := 7) (x := a7) (by simp)).put (j := 8) (x := a8) (by simp)).put (j := 9) (x := a9) (by simp)).put (j := 10) (x := a10) (by simp)).put (j := 11) (x := a11) (by simp)).put (j := 12) (x := a12) (by simp))
theorem le13 {w : World} {B R : Nat} {a0 a1 a2 a3 a4 a5 a6 a7 a8 a9 a10 a11 a12 : Value} (h : R < B) : Cs.le (nwC B w) (nwC B (((((((((((((w.setCell ⟨R, 0, none⟩ a0).setCell ⟨R, 1, none⟩ a1).setCell ⟨R, 2, none⟩ a2).setCell ⟨R, 3, none⟩ a3).setCell ⟨R, 4, none⟩ a4).setCell ⟨R, 5, none⟩ a5).setCell ⟨R, 6, none⟩ a6).setCell ⟨R, 7, none⟩ a7).setCell ⟨R, 8, none⟩ a8).setCell ⟨R, 9, none⟩ a9).setCell ⟨R, 10, none⟩ a10).setCell ⟨R, 11, none⟩ a11).setCell ⟨R, 12, none⟩ a12)) :=
  Cs.le_trans (le_set h) (Cs.le_trans (le_set h) (Cs.le_trans (le_set h) (Cs.le_trans (le_set h) (Cs.le_trans (le_set h) (Cs.le_trans (le_set h) (Cs.le_trans (le_set h) (Cs.le_trans (le_set h) (Cs.le_trans (le_set h) (Cs.le_trans (le_set h) (Cs.le_trans (le_set h) (Cs.le_trans (le_set h) (le_set h))))))))))))
set_option maxHeartbeats 4000000 in
set_option maxRecDepth 100000 in
theorem findP_any (d : Nat) (p : Pr) (gv pv : Value) (id : Int) (w : World) (hp : PrC (cw w) d gv pv p) (hw : ∀ f ∈ p.procs, wtL f.body ≤ 20000) :
    Calls Try.prog 38 #[.agg #[gv, pv], .int .i64 id] w (FindMade d (findP id p.procs) w) := by
  obtain ⟨ga, gc, rfl, -, -⟩ := hp.1.form
  obtain ⟨pa, pc, rfl, hc1, hc2⟩ := hp.2.form
  have hbox : Below w.heap.size w ((w.alloc (.cells #[.slice ga p.globals.length gc, .slice pa p.procs.length pc] 46)).alloc (.cells noSt.toArray 53)) := (boxed w _).alloc (by simp) _
  have hR := box_two w (.cells #[.slice ga p.globals.length gc, .slice pa p.procs.length pc] 46) noSt.toArray 53
  have hRF := free_two w (.cells #[.slice ga p.globals.length gc, .slice pa p.procs.length pc] 46) noSt.toArray 53
  have HB := Lib.hid hbox
  have HR := Lib.hid hR
  have HRF := Lib.hid hRF
  have HP := Lib.hid (PrC.mono (cw_next hbox) hp)
  have HW := Lib.hid hw
  obtain ⟨fr, hfr⟩ : ∃ fr, Hid (findP id p.procs = fr) := ⟨_, Lib.hid rfl⟩
  rw [hfr.out]
  clear hbox hp hR hRF hw
  go_enter Try.func38, Try.ntmps38
  go_wp2_with fail
  go_loopw [15] (fun i wr => ∃ k : Nat, k ≤ p.procs.length ∧ i = .int .i64 k ∧ Below w.heap.size w wr ∧ w.heap.size + 1 + 1 ≤ wr.heap.size ∧ BoxAt wr (w.heap.size + 1) noSt ∧ Free wr (w.heap.size + 1) ∧ PrC (cw wr) d (.slice ga p.globals.length gc) (.slice pa p.procs.length pc) p ∧ ∀ j (hj : j < p.procs.length), j < k → findL id p.procs[j].body = none) (fun i _ => (p.procs.length - intOf i).toNat)
  case atStart => exact ⟨0, by omega, rfl, HB.out, by simp, HR.out, HRF.out, HP.out, fun j _ h => absurd h (by omega)⟩
  case round =>
    obtain ⟨k, hk, rfl, hbel, hsz, hbx, hfx, hpr, hno⟩ := hrel
    have HBEL := Lib.hid hbel
    have HPR := Lib.hid hpr
    have HBX := Lib.hid hbx
    have HFX := Lib.hid hfx
    have HNO := Lib.hid hno
    by_cases hlt : k < p.procs.length
    · have hlt' : (k : Int) < (p.procs.length : Int) := by omega
      have h0k : (0 : Int) ≤ (k : Int) := by omega
      have hne : p.procs ≠ [] := by intro h; rw [h] at hlt; simp at hlt
      obtain ⟨g, off, cap', hv, _, hcells⟩ := SlAt.cells hpr.2 hne
      simp only [Value.slice.injEq] at hv
      obtain ⟨rfl, -, rfl⟩ := hv
      obtain ⟨qv, vv, bv, fv, q0, q1, q2, q3, q4, q5, q6, q7, q8, q9⟩ := hcells k hlt
      have hwt := HW.out _ (List.getElem_mem hlt)
      obtain ⟨f, hf⟩ : ∃ f, Hid (p.procs[k] = f) := ⟨_, Lib.hid rfl⟩
      rw [hf.out] at q0 q6 q7 q8 q9 hwt
      obtain ⟨a1, c1, rfl, -, -⟩ := q6.form
      obtain ⟨a2, c2, rfl, -, -⟩ := q7.form
      obtain ⟨a3, c3, rfl, -, -⟩ := q8.form
      obtain ⟨a4, c4, rfl, -, -⟩ := q9.form
      have e0 : wr.cell? ⟨g, off + k * 5, none⟩ = _ := q0
      have e1 : wr.cell? ⟨g, off + k * 5 + 1, none⟩ = _ := q1
      have e2 : wr.cell? ⟨g, off + k * 5 + 2, none⟩ = _ := q2
      have e3 : wr.cell? ⟨g, off + k * 5 + 3, none⟩ = _ := q3
      have e4 : wr.cell? ⟨g, off + k * 5 + 4, none⟩ = _ := q4
      have hkb := boxed wr (.cells #[.string f.nm, .slice a1 f.params.length c1, .slice a2 f.vars.length c2, .slice a3 f.body.length c3, .slice a4 f.fin.length c4] 58)
      have HKB := Lib.hid hkb
      have HBODY := Lib.hid (q8.next hkb)
      have HWT := Lib.hid hwt
      clear hcells q0 q1 q2 q3 q4 q5 q6 q7 q8 q9 hne hpr hbel hkb hwt hbx hfx hno
      cases hfd : findL id f.body with
      | none =>
        have HFD := Lib.hid hfd
        clear hfd
        go_wp2_with fail
        refine (find_any id _ d f.body _ HBODY.out).mono ?_
        rintro e w3 ⟨⟨q, rfl, hfa⟩, rfl⟩
        rw [HFD.out] at hfa
        have hfa' : q = .pointer none := hfa
        subst hfa'
        clear hfa
        go_wp2_with fail
        go_roundw
        case rel =>
          refine ⟨k + 1, by omega, by go_num, HBEL.out.trans (HKB.out.mono HBEL.out.size), by simp; omega, HBX.out.next HKB.out, HFX.out.next (by omega) HKB.out, PrC.mono (cw_next HKB.out) HPR.out, fun j hj hjk => ?_⟩
          rcases Nat.lt_or_ge j k with h | h
          · exact HNO.out j hj h
          · obtain rfl : j = k := by omega
            rw [hf.out]
            exact HFD.out
        case measure => simp [intOf]; omega
      | some s =>
        have hfp : findP id p.procs = some (f.nm, s) := by
          have := findP_at hlt (by rw [hf.out]; exact hfd) HNO.out
          rw [hf.out] at this
          exact this
        rw [hfr.out] at hfp
        have HFP := Lib.hid hfp
        have hws := Nat.le_trans (findL_wt id f.body s hfd) HWT.out
        have HWS := Lib.hid hws
        have HFD := Lib.hid hfd
        clear hfd hfp hws
        go_wp2_with fail
        refine (find_any id _ d f.body _ HBODY.out).mono ?_
        rintro e w3 ⟨⟨q, rfl, hfa⟩, rfl⟩
        rw [HFD.out] at hfa
        obtain ⟨g2, o2, rfl, hst⟩ := hfa
        have HST := Lib.hid hst
        obtain ⟨lv, av, tv, ev, q0, q1, q2, q3, q4, ⟨kv, q5, q6, q7, q8, hok, hxk⟩, q9, q10, q11, q12, i1', i2', i3', i4', i5', i6', ht, he⟩ := hst
        obtain ⟨la, lc, rfl, -, -⟩ := i5'.form
        obtain ⟨aa, ac, rfl, -, -⟩ := i6'.form
        obtain ⟨ta, tc, rfl, -, -⟩ := ht.form
        obtain ⟨ea, ec, rfl, -, -⟩ := he.form
        obtain ⟨ka, kc, rfl, -, -⟩ := hxk.form
        have n0 : (wr.alloc (.cells #[.string f.nm, .slice a1 f.params.length c1, .slice a2 f.vars.length c2, .slice a3 f.body.length c3, .slice a4 f.fin.length c4] 58)).cell? ⟨g2, o2, none⟩ = _ := q0
        have n1 : (wr.alloc (.cells #[.string f.nm, .slice a1 f.params.length c1, .slice a2 f.vars.length c2, .slice a3 f.body.length c3, .slice a4 f.fin.length c4] 58)).cell? ⟨g2, o2 + 1, none⟩ = _ := q1
        have n2 : (wr.alloc (.cells #[.string f.nm, .slice a1 f.params.length c1, .slice a2 f.vars.length c2, .slice a3 f.body.length c3, .slice a4 f.fin.length c4] 58)).cell? ⟨g2, o2 + 2, none⟩ = _ := q2
        have n3 : (wr.alloc (.cells #[.string f.nm, .slice a1 f.params.length c1, .slice a2 f.vars.length c2, .slice a3 f.body.length c3, .slice a4 f.fin.length c4] 58)).cell? ⟨g2, o2 + 3, none⟩ = _ := q3
        have n4 : (wr.alloc (.cells #[.string f.nm, .slice a1 f.params.length c1, .slice a2 f.vars.length c2, .slice a3 f.body.length c3, .slice a4 f.fin.length c4] 58)).cell? ⟨g2, o2 + 4, none⟩ = _ := q4
        have n5 : (wr.alloc (.cells #[.string f.nm, .slice a1 f.params.length c1, .slice a2 f.vars.length c2, .slice a3 f.body.length c3, .slice a4 f.fin.length c4] 58)).cell? ⟨g2, o2 + 5, none⟩ = _ := q5
        have n6 : (wr.alloc (.cells #[.string f.nm, .slice a1 f.params.length c1, .slice a2 f.vars.length c2, .slice a3 f.body.length c3, .slice a4 f.fin.length c4] 58)).cell? ⟨g2, o2 + 6, none⟩ = _ := q6
        have n7 : (wr.alloc (.cells #[.string f.nm, .slice a1 f.params.length c1, .slice a2 f.vars.length c2, .slice a3 f.body.length c3, .slice a4 f.fin.length c4] 58)).cell? ⟨g2, o2 + 7, none⟩ = _ := q7
        have n8 : (wr.alloc (.cells #[.string f.nm, .slice a1 f.params.length c1, .slice a2 f.vars.length c2, .slice a3 f.body.length c3, .slice a4 f.fin.length c4] 58)).cell? ⟨g2, o2 + 8, none⟩ = _ := q8
        have n9 : (wr.alloc (.cells #[.string f.nm, .slice a1 f.params.length c1, .slice a2 f.vars.length c2, .slice a3 f.body.length c3, .slice a4 f.fin.length c4] 58)).cell? ⟨g2, o2 + 9, none⟩ = _ := q9
        have n10 : (wr.alloc (.cells #[.string f.nm, .slice a1 f.params.length c1, .slice a2 f.vars.length c2, .slice a3 f.body.length c3, .slice a4 f.fin.length c4] 58)).cell? ⟨g2, o2 + 10, none⟩ = _ := q10
        have n11 : (wr.alloc (.cells #[.string f.nm, .slice a1 f.params.length c1, .slice a2 f.vars.length c2, .slice a3 f.body.length c3, .slice a4 f.fin.length c4] 58)).cell? ⟨g2, o2 + 11, none⟩ = _ := q11
        have n12 : (wr.alloc (.cells #[.string f.nm, .slice a1 f.params.length c1, .slice a2 f.vars.length c2, .slice a3 f.body.length c3, .slice a4 f.fin.length c4] 58)).cell? ⟨g2, o2 + 12, none⟩ = _ := q12
        clear q0 q1 q2 q3 q4 q5 q6 q7 q8 q9 q10 q11 q12 hok hxk i1' i2' i3' i4' i5' i6' ht he
        have hgz := cell_lt n0
        have hwl : wtL [s] ≤ 20000 := by rw [wtL_cons]; simp only [wtL]; have := HWS.out; omega
        have hkb2 := boxed (wr.alloc (.cells #[.string f.nm, .slice a1 f.params.length c1, .slice a2 f.vars.length c2, .slice a3 f.body.length c3, .slice a4 f.fin.length c4] 58)) (.cells #[.int .i64 s.id, .int .i64 s.kind, .slice la s.labels.length lc, .string s.nm, .string s.proc, .int .i64 s.x.op, .int .i64 s.x.n, .string s.x.nm, .slice ka s.x.ks.length kc, .bool s.has, .slice aa s.args.length ac, .slice ta s.thn.length tc, .slice ea s.els.length ec] 53)
        have HKB2 := Lib.hid (HKB.out.trans (hkb2.mono HKB.out.size))
        have hst1 := StC.next (one_st HST.out) hkb2
        have hbx2 := box_two wr (.cells #[.string f.nm, .slice a1 f.params.length c1, .slice a2 f.vars.length c2, .slice a3 f.body.length c3, .slice a4 f.fin.length c4] 58) #[.int .i64 s.id, .int .i64 s.kind, .slice la s.labels.length lc, .string s.nm, .string s.proc, .int .i64 s.x.op, .int .i64 s.x.n, .string s.x.nm, .slice ka s.x.ks.length kc, .bool s.has, .slice aa s.args.length ac, .slice ta s.thn.length tc, .slice ea s.els.length ec] 53
        have hst2 : StC (cw ((wr.alloc (.cells #[.string f.nm, .slice a1 f.params.length c1, .slice a2 f.vars.length c2, .slice a3 f.body.length c3, .slice a4 f.fin.length c4] 58)).alloc (.cells #[.int .i64 s.id, .int .i64 s.kind, .slice la s.labels.length lc, .string s.nm, .string s.proc, .int .i64 s.x.op, .int .i64 s.x.n, .string s.x.nm, .slice ka s.x.ks.length kc, .bool s.has, .slice aa s.args.length ac, .slice ta s.thn.length tc, .slice ea s.els.length ec] 53))) (d + 1) (.slice (some ⟨wr.heap.size + 1, 0, none⟩) 1 1) [s] := by
          refine one_st ?_
          obtain ⟨lv', av', tv', ev', p0, p1, p2, p3, p4, ⟨kv', p5, p6, p7, p8, pok, pxk⟩, p9, p10, p11, p12, j1, j2, j3, j4, j5, j6, pt, pe⟩ := HST.out
          have u2 : Value.slice la s.labels.length lc = lv' := Option.some.inj (n2.symm.trans p2)
          have u8 : Value.slice ka s.x.ks.length kc = kv' := Option.some.inj (n8.symm.trans p8)
          have u10 : Value.slice aa s.args.length ac = av' := Option.some.inj (n10.symm.trans p10)
          have u11 : Value.slice ta s.thn.length tc = tv' := Option.some.inj (n11.symm.trans p11)
          have u12 : Value.slice ea s.els.length ec = ev' := Option.some.inj (n12.symm.trans p12)
          subst u2 u8 u10 u11 u12
          exact ⟨_, _, _, _, hbx2 0 _ rfl, hbx2 1 _ rfl, hbx2 2 _ rfl, hbx2 3 _ rfl, hbx2 4 _ rfl, ⟨_, hbx2 5 _ rfl, hbx2 6 _ rfl, hbx2 7 _ rfl, hbx2 8 _ rfl, pok, ExC.mono (cw_next hkb2) pxk⟩, hbx2 9 _ rfl, hbx2 10 _ rfl, hbx2 11 _ rfl, hbx2 12 _ rfl, j1, j2, j3, j4, StrC.mono (cw_next hkb2) j5, SlAt.imp j6 (fun _ _ _ _ => ArAt.mono (cw_next hkb2)), StC.mono (cw_next hkb2) pt, StC.mono (cw_next hkb2) pe⟩
        have hcp := copied_any false (d + 1) [s] (.slice (some ⟨wr.heap.size + 1, 0, none⟩) 1 1) 0 _ hst2 hwl
        rw [(by unfold wrap64; omega : wrap64 0 = 0), cpL_same] at hcp
        have HCP := Lib.hid hcp
        have f0 : ((wr.alloc (.cells #[.string f.nm, .slice a1 f.params.length c1, .slice a2 f.vars.length c2, .slice a3 f.body.length c3, .slice a4 f.fin.length c4] 58)).alloc (.cells #[.int .i64 s.id, .int .i64 s.kind, .slice la s.labels.length lc, .string s.nm, .string s.proc, .int .i64 s.x.op, .int .i64 s.x.n, .string s.x.nm, .slice ka s.x.ks.length kc, .bool s.has, .slice aa s.args.length ac, .slice ta s.thn.length tc, .slice ea s.els.length ec] 53)).cell? ⟨wr.heap.size, 0, none⟩ = some (.string f.nm) := by simp [go_sem]
        have F0 := Lib.hid f0
        clear hst1 hst2 hcp f0 hkb2 hbx2
        go_wp2_with fail
        refine HCP.out.mono ?_
        rintro e w5 ⟨v5, rfl, hst5, hb5⟩
        obtain ⟨g5, off5, c5, rfl, _, hcl5⟩ := SlAt.cells (show SlAt 13 (StAt _ d (StC _ d)) v5 [s] from hst5) (by simp)
        obtain ⟨lv', av', tv', ev', p0, p1, p2, p3, p4, ⟨kv', p5, p6, p7, p8, pok, pxk⟩, p9, p10, p11, p12, j1, j2, j3, j4, j5, j6, pt, pe⟩ := hcl5 0 (by simp)
        simp only [Nat.zero_mul, Nat.add_zero, List.getElem_cons_zero] at p0 p1 p2 p3 p4 p5 p6 p7 p8 p9 p10 p11 p12 pok pxk j1 j2 j3 j4 j5 j6 pt pe
        obtain ⟨la5, lc5, rfl, -, -⟩ := j5.form
        obtain ⟨aa5, ac5, rfl, -, -⟩ := j6.form
        obtain ⟨ta5, tc5, rfl, -, -⟩ := pt.form
        obtain ⟨ea5, ec5, rfl, -, -⟩ := pe.form
        obtain ⟨ka5, kc5, rfl, -, -⟩ := pxk.form
        have m0 : w5.cell? ⟨g5, off5, none⟩ = _ := p0.2
        have m1 : w5.cell? ⟨g5, off5 + 1, none⟩ = _ := p1.2
        have m2 : w5.cell? ⟨g5, off5 + 2, none⟩ = _ := p2.2
        have m3 : w5.cell? ⟨g5, off5 + 3, none⟩ = _ := p3.2
        have m4 : w5.cell? ⟨g5, off5 + 4, none⟩ = _ := p4.2
        have m5 : w5.cell? ⟨g5, off5 + 5, none⟩ = _ := p5.2
        have m6 : w5.cell? ⟨g5, off5 + 6, none⟩ = _ := p6.2
        have m7 : w5.cell? ⟨g5, off5 + 7, none⟩ = _ := p7.2
        have m8 : w5.cell? ⟨g5, off5 + 8, none⟩ = _ := p8.2
        have m9 : w5.cell? ⟨g5, off5 + 9, none⟩ = _ := p9.2
        have m10 : w5.cell? ⟨g5, off5 + 10, none⟩ = _ := p10.2
        have m11 : w5.cell? ⟨g5, off5 + 11, none⟩ = _ := p11.2
        have m12 : w5.cell? ⟨g5, off5 + 12, none⟩ = _ := p12.2
        have hg5 := p0.1
        have hsw : ((wr.alloc (.cells #[.string f.nm, .slice a1 f.params.length c1, .slice a2 f.vars.length c2, .slice a3 f.body.length c3, .slice a4 f.fin.length c4] 58)).alloc (.cells #[.int .i64 s.id, .int .i64 s.kind, .slice la s.labels.length lc, .string s.nm, .string s.proc, .int .i64 s.x.op, .int .i64 s.x.n, .string s.x.nm, .slice ka s.x.ks.length kc, .bool s.has, .slice aa s.args.length ac, .slice ta s.thn.length tc, .slice ea s.els.length ec] 53)).heap.size = wr.heap.size + 1 + 1 := by simp
        have F5 := Lib.hid (cell_next hb5 F0.out)
        have hbr := HKB2.out.trans (hb5.mono HKB2.out.size)
        have HR5 := Lib.hid (HBX.out.next hbr)
        have HF5 := Lib.hid (HFX.out.next (by omega) hbr)
        have HB5 := Lib.hid (HBEL.out.trans (hbr.mono HBEL.out.size))
        have HQ5 : Hid (StQ d (nwC ((wr.alloc (.cells #[.string f.nm, .slice a1 f.params.length c1, .slice a2 f.vars.length c2, .slice a3 f.body.length c3, .slice a4 f.fin.length c4] 58)).alloc (.cells #[.int .i64 s.id, .int .i64 s.kind, .slice la s.labels.length lc, .string s.nm, .string s.proc, .int .i64 s.x.op, .int .i64 s.x.n, .string s.x.nm, .slice ka s.x.ks.length kc, .bool s.has, .slice aa s.args.length ac, .slice ta s.thn.length tc, .slice ea s.els.length ec] 53)).heap.size w5) (stCells s (.slice ka5 s.x.ks.length kc5) (.slice la5 s.labels.length lc5) (.slice aa5 s.args.length ac5) (.slice ta5 s.thn.length tc5) (.slice ea5 s.els.length ec5)) s) := Lib.hid ⟨_, _, _, _, _, rfl, pok, pxk, j1, j2, j3, j4, j5, j6, pt, pe⟩
        have f0 := F5.out
        have r0 := HR5.out 0 _ rfl
        have z0 := HF5.out 0
        have r1 := HR5.out 1 _ rfl
        have z1 := HF5.out 1
        have r2 := HR5.out 2 _ rfl
        have z2 := HF5.out 2
        have r3 := HR5.out 3 _ rfl
        have z3 := HF5.out 3
        have r4 := HR5.out 4 _ rfl
        have z4 := HF5.out 4
        have r5 := HR5.out 5 _ rfl
        have z5 := HF5.out 5
        have r6 := HR5.out 6 _ rfl
        have z6 := HF5.out 6
        have r7 := HR5.out 7 _ rfl
        have z7 := HF5.out 7
        have r8 := HR5.out 8 _ rfl
        have z8 := HF5.out 8
        have r9 := HR5.out 9 _ rfl
        have z9 := HF5.out 9
        have r10 := HR5.out 10 _ rfl
        have z10 := HF5.out 10
        have r11 := HR5.out 11 _ rfl
        have z11 := HF5.out 11
        have r12 := HR5.out 12 _ rfl
        have z12 := HF5.out 12
        have ng : w.heap.size + 1 ≠ g5 := by rw [hsw] at hg5; omega
        have nf : w.heap.size + 1 ≠ wr.heap.size := by omega
        clear p0 p1 p2 p3 p4 p5 p6 p7 p8 p9 p10 p11 p12 pok pxk j1 j2 j3 j4 j5 j6 pt pe hcl5 hst5 hb5 hbr n0 n1 n2 n3 n4 n5 n6 n7 n8 n9 n10 n11 n12 hsw hg5
        go_upto_region 7 with fail
        go_region
        go_wp2_with fail
        have HX := box13 (a0 := .int .i64 s.id) (a1 := .int .i64 s.kind) (a2 := .slice la5 s.labels.length lc5) (a3 := .string s.nm) (a4 := .string s.proc) (a5 := .int .i64 s.x.op) (a6 := .int .i64 s.x.n) (a7 := .string s.x.nm) (a8 := .slice ka5 s.x.ks.length kc5) (a9 := .bool s.has) (a10 := .slice aa5 s.args.length ac5) (a11 := .slice ta5 s.thn.length tc5) (a12 := .slice ea5 s.els.length ec5) HR5.out rfl
        have q0 := HX 0 _ rfl
        have q1 := HX 1 _ rfl
        have q2 := HX 2 _ rfl
        have q3 := HX 3 _ rfl
        have q4 := HX 4 _ rfl
        have q5 := HX 5 _ rfl
        have q6 := HX 6 _ rfl
        have q7 := HX 7 _ rfl
        have q8 := HX 8 _ rfl
        have q9 := HX 9 _ rfl
        have q10 := HX 10 _ rfl
        have q11 := HX 11 _ rfl
        have q12 := HX 12 _ rfl
        refine bodyPost_ret (v := .tuple #[.string f.nm, .agg #[.int .i64 s.id, .int .i64 s.kind, .slice la5 s.labels.length lc5, .string s.nm, .string s.proc, .int .i64 s.x.op, .int .i64 s.x.n, .string s.x.nm, .slice ka5 s.x.ks.length kc5, .bool s.has, .slice aa5 s.args.length ac5, .slice ta5 s.thn.length tc5, .slice ea5 s.els.length ec5], .bool true]) (by simp [results, Try.results38, go_sem, q0, q1, q2, q3, q4, q5, q6, q7, q8, q9, q10, q11, q12]) rfl ?_
        rw [HFP.out]
        refine ⟨[.int .i64 s.id, .int .i64 s.kind, .slice la5 s.labels.length lc5, .string s.nm, .string s.proc, .int .i64 s.x.op, .int .i64 s.x.n, .string s.x.nm, .slice ka5 s.x.ks.length kc5, .bool s.has, .slice aa5 s.args.length ac5, .slice ta5 s.thn.length tc5, .slice ea5 s.els.length ec5], rfl, StQ.mono d _ _ _ _ ?_ HQ5.out, ?_⟩
        · refine Cs.le_trans (le13 (R := w.heap.size + 1) (by simp; omega)) (nw_le ?_ ((Below.refl _ _).drew))
          simp; omega
        · refine Below.drew ?_
          refine (((((((((((((HB5.out.setCell (p := ⟨_, _, none⟩) ?_ _).setCell (p := ⟨_, _, none⟩) ?_ _).setCell (p := ⟨_, _, none⟩) ?_ _).setCell (p := ⟨_, _, none⟩) ?_ _).setCell (p := ⟨_, _, none⟩) ?_ _).setCell (p := ⟨_, _, none⟩) ?_ _).setCell (p := ⟨_, _, none⟩) ?_ _).setCell (p := ⟨_, _, none⟩) ?_ _).setCell (p := ⟨_, _, none⟩) ?_ _).setCell (p := ⟨_, _, none⟩) ?_ _).setCell (p := ⟨_, _, none⟩) ?_ _).setCell (p := ⟨_, _, none⟩) ?_ _).setCell (p := ⟨_, _, none⟩) ?_ _) <;> simp
    · have hlt' : ¬ (k : Int) < (p.procs.length : Int) := by omega
      have hfp : findP id p.procs = none := findP_none fun j hj => HNO.out j hj (by omega)
      rw [hfr.out] at hfp
      have HFP := Lib.hid hfp
      have r0 := HBX.out 0 _ rfl
      have z0 := HFX.out 0
      have r1 := HBX.out 1 _ rfl
      have z1 := HFX.out 1
      have r2 := HBX.out 2 _ rfl
      have z2 := HFX.out 2
      have r3 := HBX.out 3 _ rfl
      have z3 := HFX.out 3
      have r4 := HBX.out 4 _ rfl
      have z4 := HFX.out 4
      have r5 := HBX.out 5 _ rfl
      have z5 := HFX.out 5
      have r6 := HBX.out 6 _ rfl
      have z6 := HFX.out 6
      have r7 := HBX.out 7 _ rfl
      have z7 := HFX.out 7
      have r8 := HBX.out 8 _ rfl
      have z8 := HFX.out 8
      have r9 := HBX.out 9 _ rfl
      have z9 := HFX.out 9
      have r10 := HBX.out 10 _ rfl
      have z10 := HFX.out 10
      have r11 := HBX.out 11 _ rfl
      have z11 := HFX.out 11
      have r12 := HBX.out 12 _ rfl
      have z12 := HFX.out 12
      clear hfp hbel hpr hno hbx hfx
      go_wp2_with fail
      have HX := box13 (a0 := .int .i64 0) (a1 := .int .i64 0) (a2 := .slice none 0 0) (a3 := .string ⟨#[]⟩) (a4 := .string ⟨#[]⟩) (a5 := .int .i64 0) (a6 := .int .i64 0) (a7 := .string ⟨#[]⟩) (a8 := .slice none 0 0) (a9 := .bool false) (a10 := .slice none 0 0) (a11 := .slice none 0 0) (a12 := .slice none 0 0) HBX.out rfl
      have q0 := HX 0 _ rfl
      have q1 := HX 1 _ rfl
      have q2 := HX 2 _ rfl
      have q3 := HX 3 _ rfl
      have q4 := HX 4 _ rfl
      have q5 := HX 5 _ rfl
      have q6 := HX 6 _ rfl
      have q7 := HX 7 _ rfl
      have q8 := HX 8 _ rfl
      have q9 := HX 9 _ rfl
      have q10 := HX 10 _ rfl
      have q11 := HX 11 _ rfl
      have q12 := HX 12 _ rfl
      refine bodyPost_ret (v := .tuple #[.string ⟨#[]⟩, .agg #[.int .i64 0, .int .i64 0, .slice none 0 0, .string ⟨#[]⟩, .string ⟨#[]⟩, .int .i64 0, .int .i64 0, .string ⟨#[]⟩, .slice none 0 0, .bool false, .slice none 0 0, .slice none 0 0, .slice none 0 0], .bool false]) (by simp [results, Try.results38, go_sem, q0, q1, q2, q3, q4, q5, q6, q7, q8, q9, q10, q11, q12]) rfl ?_
      rw [HFP.out]
      refine ⟨rfl, ?_⟩
      refine (((((((((((((HBEL.out.setCell (p := ⟨_, _, none⟩) ?_ _).setCell (p := ⟨_, _, none⟩) ?_ _).setCell (p := ⟨_, _, none⟩) ?_ _).setCell (p := ⟨_, _, none⟩) ?_ _).setCell (p := ⟨_, _, none⟩) ?_ _).setCell (p := ⟨_, _, none⟩) ?_ _).setCell (p := ⟨_, _, none⟩) ?_ _).setCell (p := ⟨_, _, none⟩) ?_ _).setCell (p := ⟨_, _, none⟩) ?_ _).setCell (p := ⟨_, _, none⟩) ?_ _).setCell (p := ⟨_, _, none⟩) ?_ _).setCell (p := ⟨_, _, none⟩) ?_ _).setCell (p := ⟨_, _, none⟩) ?_ _) <;> simp
end Go.Proofs.Ytnbclbphggmenaa.Tr
