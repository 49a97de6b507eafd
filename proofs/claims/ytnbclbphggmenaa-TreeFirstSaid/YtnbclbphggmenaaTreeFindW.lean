/- The law TreeFind, walked: it returns true. Conditions: the arguments lie in memory. -/
import Derived.Test.YtnbclbphggmenaaFindL
import Derived.Test.YtnbclbphggmenaaReqP
import Derived.Deep.DeepCutAuto
import Derived.Deep.RegionHeld3
namespace Go.Proofs.Ytnbclbphggmenaa.Tr
open Go.RowKit Go.Proofs.Ytnbclbphggmenaa.Lx Go.Proofs.Ytnbclbphggmenaa.Wd
def ItAt (C : Cs) (d : Nat) (g o : Nat) (i : It) : Prop := StAt C d (StC C d) g o i.s ∧ C g (o + 13) (.int .i64 i.deep) ∧ C g (o + 14) (.int .i64 i.inn) ∧ C g (o + 15) (.bool i.els) ∧ InI i.deep ∧ InI i.inn
theorem ItAt.mono {C D : Cs} (h : Cs.le C D) {d g o : Nat} {i : It} (q : ItAt C d g o i) : ItAt D d g o i := ⟨StAt.mono h (fun _ _ => StC.mono h) q.1, h _ _ _ q.2.1, h _ _ _ q.2.2.1, h _ _ _ q.2.2.2.1, q.2.2.2.2⟩
theorem find_at {α : Type} {l : List α} {n : Nat} (hn : n < l.length) {f : α → Bool} (h0 : ∀ j (h : j < l.length), j < n → f l[j] = false) (h1 : f l[n] = true) : l.find? f = some l[n] := by
  induction l generalizing n with
  | nil => cases hn
  | cons a r ih =>
    rw [List.find?_cons]
    cases n with
    | zero => rw [show f a = true from h1]; rfl
    | succ n =>
      rw [show f a = false from h0 0 (by simp) (by omega)]
      exact ih (by simpa using hn) (fun j h hj => h0 (j + 1) (by simpa using h) (by omega)) h1
theorem find_none {α : Type} {l : List α} {f : α → Bool} (h0 : ∀ j (h : j < l.length), f l[j] = false) : l.find? f = none := by
  rw [List.find?_eq_none]
  intro x hx
  obtain ⟨j, hj, rfl⟩ := List.getElem_of_mem hx
  rw [h0 j hj]; simp
theorem StQ_mono {C D : Cs} (h : Cs.le C D) {d : Nat} {c : List Value} {s : St} (q : StQ d C c s) : StQ d D c s := by
  obtain ⟨kv, lv, av, tv, ev, h1, h2, h3, h4, h5, h6, h7, h8, h9, h10, h11⟩ := q
  exact ⟨kv, lv, av, tv, ev, h1, h2, ExC.mono h h3, h4, h5, h6, h7, StrC.mono h h8, SlAt.imp h9 (fun _ _ _ _ => ArAt.mono h), StC.mono h h10, StC.mono h h11⟩
theorem RowT.sl {B d : Nat} {w : World} {v : Value} {l : List It} {rows : List (List Value)} (h : RowT B d w v l rows) : SlAt 16 (ItAt (cw w) d) v l := by
  have hlen := h.len
  have hown := h.own
  rcases h.own.2 with ⟨hv, hn⟩ | ⟨g, cap, cur, hv, h1, h2, h3, h4, h5, h6⟩
  · have : l = [] := List.eq_nil_of_length_eq_zero hn
    subst this
    rw [hv]
    exact SlAt.nil
  · refine ⟨_, cap, hv, h3, h4, fun hne => ⟨g, 0, rfl, fun i hi => ?_⟩⟩
    obtain ⟨kv, lv, av, tv, ev, hc, k1, k2, k3, k4, k5, k6, k7, k8, k9, k10, k11, k12⟩ := ItQ.mono (D := cw w) (fun _ _ _ h => h.2) (h.each i hi (by omega))
    have at_ : ∀ j u, (itCells l[i] kv lv av tv ev)[j]? = some u → cw w g (0 + i * 16 + j) u := fun j u hu => by
      have := hown.cells (g := g) (by rw [hv]; rfl) (i * 16 + j) u (flat_get rows i j u h.wide (by omega) (by rw [hc]; exact hu))
      rw [Addr.add_lit, Nat.zero_add] at this
      show w.cell? ⟨g, 0 + i * 16 + j, none⟩ = _
      rw [Nat.zero_add]
      exact this
    exact ⟨⟨lv, av, tv, ev, at_ 0 _ rfl, at_ 1 _ rfl, at_ 2 _ rfl, at_ 3 _ rfl, at_ 4 _ rfl, ⟨kv, at_ 5 _ rfl, at_ 6 _ rfl, at_ 7 _ rfl, at_ 8 _ rfl, k1, k2⟩, at_ 9 _ rfl, at_ 10 _ rfl, at_ 11 _ rfl, at_ 12 _ rfl, k3, k4, k5, k6, k7, k8, k9, k10⟩,
      at_ 13 _ rfl, at_ 14 _ rfl, at_ 15 _ rfl, k11, k12⟩
def FlatMade (d : Nat) (l : List It) (w : World) (e : Ending) (w' : World) : Prop := ∃ v, e = .returned v ∧ SlAt 16 (ItAt (cw w') d) v l ∧ Below w.heap.size w w'
def zSt : St := .mk 0 0 [] ⟨#[]⟩ ⟨#[]⟩ (.mk 0 0 ⟨#[]⟩ []) false [] [] []
theorem zq (C : Cs) (d : Nat) : StQ (d + 1) C noSt zSt := ⟨_, _, _, _, _, rfl, ⟨by unfold InI; decide, by unfold InI; decide, by decide⟩, ExC.none _ _, by unfold InI; decide, by unfold InI; decide, by decide, by decide, StrC.none _, SlAt.nil, SlAt.nil, SlAt.nil⟩
/-- A row of one statement, made anew. -/
theorem row_one {W : World} {d g : Nat} {s : St} {kv lv av tv ev : Value} (hb : BoxAt W g (stCells s kv lv av tv ev)) (hok : OkE s.x) (h1 : InI s.id) (h2 : InI s.kind) (h3 : s.nm.size ≤ 9223372036854775807) (h4 : s.proc.size ≤ 9223372036854775807) (hh : Hang d W s lv kv av tv ev) :
    StC (cw W) (d + 1) (.slice (some ⟨g, 0, none⟩) 1 1) [s] := one_st ⟨lv, av, tv, ev, hb 0 _ rfl, hb 1 _ rfl, hb 2 _ rfl, hb 3 _ rfl, hb 4 _ rfl, ⟨kv, hb 5 _ rfl, hb 6 _ rfl, hb 7 _ rfl, hb 8 _ rfl, hok, hh.kid⟩, hb 9 _ rfl, hb 10 _ rfl, hb 11 _ rfl, hb 12 _ rfl, h1, h2, h3, h4, hh.lab, hh.arg, hh.thn, hh.els⟩
set_option maxHeartbeats 1000000 in
theorem flatOf_any (d : Nat) (f : Pc) (pv vv bv fv : Value) (w : World) (hb : StC (cw w) d bv f.body) : Calls Try.prog 39 #[(.agg #[.string f.nm, pv, vv, bv, fv])] w (FlatMade d (flatOf f) w) := by
  obtain ⟨ba, bc, rfl, -, -⟩ := hb.form
  have hbox := boxed w (.cells #[.string f.nm, pv, vv, .slice ba f.body.length bc, fv] 58)
  have HB := Lib.hid hbox
  have HBODY := Lib.hid (hb.next hbox)
  clear hbox hb
  go_enter Try.func39, Try.ntmps39
  go_wp2_with fail
  refine (flat_any _ d d f.body _ (.slice none 0 0) 1 0 false [] [] _ (Nat.le_refl _) (StC.mono low_all HBODY.out) (RowT.nil _ _ _) (Nat.le_refl _) (by omega) (by omega) (by unfold InI; omega) (by simp)).mono ?_
  rintro e w1 ⟨v, rows, rfl, hr, hg⟩
  have HR := Lib.hid hr.sl
  have HG := Lib.hid (((Below.refl _ _).grown hg.1 (Nat.le_refl _) (fun g h => by cases h)).mono HB.out.size)
  obtain ⟨va, vc, rfl⟩ := ownsForm hr.own
  clear hr hg
  go_wp2_with fail
  go_ret
  exact ⟨_, rfl, HR.out, HB.out.trans HG.out⟩
set_option maxHeartbeats 4000000 in
set_option maxRecDepth 100000 in
theorem law_treeFind {w : World} (d : Nat) (p : Pr) (gv pv : Value) (hp : PrC (cw w) d gv pv p) (id : Int) (hid : (Lit.int .i64 id).wf = true) :
    Calls Try.prog 11 #[.agg #[gv, pv], .int .i64 id] w fun e w' => e = .returned (.bool true) ∧ Below w.heap.size w w' := by
  obtain ⟨ga, gc, rfl, -, -⟩ := hp.1.form
  obtain ⟨pa, pc, rfl, hl1, hl2⟩ := hp.2.form
  have hbox := boxed w (.cells #[.slice ga p.globals.length gc, .slice pa p.procs.length pc] 46)
  have HB := Lib.hid hbox
  have HP := Lib.hid (PrC.mono (cw_next hbox) hp)
  have HLIM := Lib.hid (Nat.le_trans hl1 hl2)
  have HID := Lib.hid (wf_in hid)
  clear hbox hp hid hl1 hl2
  go_enter Try.func11, Try.ntmps11
  go_wp2_with fail
  refine (treed_any _).mono ?_
  rintro e w1 ⟨rfl, hb⟩
  have q0 := cell_next (g := w.heap.size) (j := 0) (u := .slice ga p.globals.length gc) hb (by simp [go_sem])
  have q1 := cell_next (g := w.heap.size) (j := 1) (u := .slice pa p.procs.length pc) hb (by simp [go_sem])
  replace HP := Lib.hid (PrC.mono (cw_next hb) HP.out)
  replace HB := Lib.hid (HB.out.trans (hb.mono HB.out.size))
  clear hb
  go_wp2_with fail
  refine (fits_any d p _ _ _ HP.out).mono ?_
  rintro e w2 ⟨bf, hfit, rfl, hb⟩
  have HFIT := Lib.hid hfit
  clear hfit
  replace q0 := cell_next hb q0
  replace q1 := cell_next hb q1
  replace HP := Lib.hid (PrC.mono (cw_next hb) HP.out)
  replace HB := Lib.hid (HB.out.trans (hb.mono HB.out.size))
  clear hb
  cases bf with
  | false =>
    go_wp2_with fail
    go_ret
    exact ⟨rfl, HB.out⟩
  | true =>
    go_wp2_with fail
    obtain ⟨mb, hm⟩ : ∃ m, Hid (mayP p = m) := ⟨_, Lib.hid rfl⟩
    refine (mayP_any d p _ _ _ HP.out).mono ?_
    rintro e w3 ⟨rfl, hb⟩
    rw [hm.out]
    replace q0 := cell_next hb q0
    replace q1 := cell_next hb q1
    replace HP := Lib.hid (PrC.mono (cw_next hb) HP.out)
    replace HB := Lib.hid (HB.out.trans (hb.mono HB.out.size))
    clear hb
    cases mb with
    | false =>
      go_wp2_with fail
      go_ret
      exact ⟨rfl, HB.out⟩
    | true =>
      have hwt := wtPr_mem (HFIT.out (by simp))
      have HWT := Lib.hid hwt
      obtain ⟨r, hr⟩ : ∃ r, Hid (findP id p.procs = r) := ⟨_, Lib.hid rfl⟩
      clear hwt
      go_wp2_with fail
      refine (findP_any d p _ _ id _ HP.out HWT.out).mono ?_
      rw [hr.out]
      cases r with
      | none =>
        rintro e w4 ⟨rfl, hb⟩
        replace q0 := cell_next hb q0
        replace q1 := cell_next hb q1
        replace HP := Lib.hid (PrC.mono (cw_next hb) HP.out)
        replace HB := Lib.hid (HB.out.trans (hb.mono HB.out.size))
        clear hb
        obtain ⟨kv, lv, av, tv, ev, hc, ok2, hk2, i1, i2, i3, i4, hlv, hav, htv, hev⟩ := zq (cw w4) d
        rw [hc]
        obtain ⟨la, lc, rfl, -, -⟩ := hlv.form
        obtain ⟨aa, ac, rfl, -, -⟩ := hav.form
        obtain ⟨ta, tc, rfl, -, -⟩ := htv.form
        obtain ⟨ea, ec, rfl, -, -⟩ := hev.form
        obtain ⟨ka, kc, rfl, -, -⟩ := hk2.form
        have HH := Lib.hid (Hang.mk (s := zSt) hlv hk2 hav htv hev)
        have HOK2 := Lib.hid ok2
        have HI1 := Lib.hid i1
        have HI2 := Lib.hid i2
        have HI3 := Lib.hid i3
        have HI4 := Lib.hid i4
        have HQ0 := Lib.hid q0
        have HQ1 := Lib.hid q1
        have zl := cell_lt q1
        have zn := World.new_ne _ _ q1
        clear hlv hk2 hav htv hev ok2 i1 i2 i3 i4 q0
        unfold stCells
        go_wp2_with fail
        refine cut_world (fun wx => Below w4.heap.size w4 wx ∧ BoxAt wx w4.heap.size (stCells zSt (.slice ka zSt.x.ks.length kc) (.slice la zSt.labels.length lc) (.slice aa zSt.args.length ac) (.slice ta zSt.thn.length tc) (.slice ea zSt.els.length ec))) ⟨boxed _ _, box_new w4 #[.int .i64 zSt.id, .int .i64 zSt.kind, .slice la zSt.labels.length lc, .string zSt.nm, .string zSt.proc, .int .i64 zSt.x.op, .int .i64 zSt.x.n, .string zSt.x.nm, .slice ka zSt.x.ks.length kc, .bool zSt.has, .slice aa zSt.args.length ac, .slice ta zSt.thn.length tc, .slice ea zSt.els.length ec] 53⟩ ?_
        rintro w5 ⟨hb, hbx⟩
        have HB5 := Lib.hid (HB.out.trans (hb.mono HB.out.size))
        have HP5 := Lib.hid (PrC.mono (cw_next hb) HP.out)
        have HBX := Lib.hid hbx
        have HH5 := Lib.hid (HH.out.next hb)
        have HR0 := Lib.hid (cell_next hb HQ0.out)
        have HR1 := Lib.hid (cell_next hb HQ1.out)
        clear hb hbx q1 zl zn HQ0 HQ1 HH HP HB
        go_loopw [30] (fun i wr => ∃ k : Nat, k ≤ p.procs.length ∧ i = .int .i64 k ∧ Below w5.heap.size w5 wr ∧ ∀ j (h : j < p.procs.length), j < k → findL id p.procs[j].body = none) (fun i _ => (p.procs.length - intOf i).toNat)
        case atStart => exact ⟨0, by omega, rfl, Below.refl _ _, fun j _ h => absurd h (by omega)⟩
        case round =>
          obtain ⟨k, hk, rfl, hbel, hno⟩ := hrel
          have HBel := Lib.hid hbel
          have HNO := Lib.hid hno
          have hlim := HLIM.out
          obtain ⟨w6, hw6⟩ : ∃ w6 : World, w6 = wr := ⟨_, rfl⟩
          subst hw6
          clear hno
          by_cases hlt : k < p.procs.length
          · have hlt' : (k : Int) < (p.procs.length : Int) := by omega
            have h0k : (0 : Int) ≤ (k : Int) := by omega
            have hne : p.procs ≠ [] := by intro h; rw [h] at hlt; simp at hlt
            obtain ⟨g, off, cap', hv, _, hcells⟩ := SlAt.cells (PrC.mono (cw_next hbel) HP5.out).2 hne
            simp only [Value.slice.injEq] at hv
            obtain ⟨rfl, -, rfl⟩ := hv
            have hat := hcells k hlt
            obtain ⟨f, hf⟩ : ∃ f, Hid (p.procs[k] = f) := ⟨_, Lib.hid rfl⟩
            rw [hf.out] at hat
            have hmem : Hid (f ∈ p.procs) := Lib.hid (hf.out ▸ List.getElem_mem hlt)
            obtain ⟨pv, vv, bv, fv, p0, p1, p2, p3, p4, hnm, hps, hvs, hbody, hfin⟩ := hat
            obtain ⟨a1, c1, rfl, -, -⟩ := hps.form
            obtain ⟨a2, c2, rfl, -, -⟩ := hvs.form
            obtain ⟨a3, c3, rfl, -, -⟩ := hbody.form
            obtain ⟨a4, c4, rfl, -, -⟩ := hfin.form
            have e0 : w6.cell? ⟨g, off + k * 5, none⟩ = _ := p0
            have e1 : w6.cell? ⟨g, off + k * 5 + 1, none⟩ = _ := p1
            have e2 : w6.cell? ⟨g, off + k * 5 + 2, none⟩ = _ := p2
            have e3 : w6.cell? ⟨g, off + k * 5 + 3, none⟩ = _ := p3
            have e4 : w6.cell? ⟨g, off + k * 5 + 4, none⟩ = _ := p4
            have HBODY := Lib.hid hbody
            clear hcells hne p0 p1 p2 p3 p4 hps hvs hbody hfin hbel
            go_upto_region 11 with fail
            refine cut_world (fun wx => Below w6.heap.size w6 wx ∧ BoxAt wx w6.heap.size [.string f.nm, .slice a1 f.params.length c1, .slice a2 f.vars.length c2, .slice a3 f.body.length c3, .slice a4 f.fin.length c4]) ⟨boxed _ _, box_new w6 #[.string f.nm, .slice a1 f.params.length c1, .slice a2 f.vars.length c2, .slice a3 f.body.length c3, .slice a4 f.fin.length c4] 58⟩ ?_
            rintro w7 ⟨hb, hbx⟩
            clear e0 e1 e2 e3 e4
            have HB7 := Lib.hid (HBel.out.trans (hb.mono HBel.out.size))
            have HBY := Lib.hid hbx
            have HBODY7 := Lib.hid (HBODY.out.next hb)
            have m0 := hbx 0 _ rfl
            have m1 := hbx 1 _ rfl
            have m2 := hbx 2 _ rfl
            have m3 := hbx 3 _ rfl
            have m4 := hbx 4 _ rfl
            clear hb hbx HBODY
            obtain ⟨L, hL⟩ : ∃ L, Hid (flatOf f = L) := ⟨_, Lib.hid rfl⟩
            go_wp2_with fail
            refine (flatOf_any d f _ _ _ _ _ HBODY7.out).mono ?_
            rw [hL.out]
            rintro e w8 ⟨v8, rfl, hits, hb⟩
            obtain ⟨ia, ic, rfl, bi1, bi2⟩ := hits.form
            have HITS := Lib.hid hits
            have HIL := Lib.hid (Nat.le_trans bi1 bi2)
            have HB8 := Lib.hid (HB7.out.trans (hb.mono HB7.out.size))
            have HBY8 := Lib.hid (HBY.out.next hb)
            clear hb hits bi1 bi2 m0 m1 m2 m3 m4 HBODY7 HBY HB7
            go_wp2_with fail
            go_loopw [37] (fun i wr => ∃ n : Nat, n ≤ L.length ∧ i = .int .i64 n ∧ Below w8.heap.size w8 wr ∧ ∀ j (h : j < L.length), j < n → (L[j].s.id == id) = false) (fun i _ => (L.length - intOf i).toNat)
            case atStart => exact ⟨0, by omega, rfl, Below.refl _ _, fun j _ h => absurd h (by omega)⟩
            case round =>
              obtain ⟨n, hn, rfl, hb9, hno⟩ := hrel
              have HB9 := Lib.hid hb9
              have HNO2 := Lib.hid hno
              have hil := HIL.out
              obtain ⟨w9, hw9⟩ : ∃ w9 : World, w9 = wr := ⟨_, rfl⟩
              subst hw9
              clear hno
              by_cases hnt : n < L.length
              · have hnt' : (n : Int) < (L.length : Int) := by omega
                have h0n : (0 : Int) ≤ (n : Int) := by omega
                have hne : L ≠ [] := by intro h; rw [h] at hnt; simp at hnt
                obtain ⟨g3, off3, cap3, hv, _, hcs⟩ := SlAt.cells (SlAt.imp HITS.out (fun _ _ _ _ => ItAt.mono (cw_next hb9))) hne
                simp only [Value.slice.injEq] at hv
                obtain ⟨rfl, -, rfl⟩ := hv
                have hat := hcs n hnt
                obtain ⟨it, hit⟩ : ∃ z, Hid (L[n] = z) := ⟨_, Lib.hid rfl⟩
                rw [hit.out] at hat
                obtain ⟨t, dp, inn, els⟩ := it
                obtain ⟨⟨lv, av, tv, ev, p0, p1, p2, p3, p4, ⟨kv, p5, p6, p7, p8, hok, hk1⟩, p9, p10, p11, p12, j1, j2, j3, j4, hl1, ha1, ht1, he1⟩, p13, p14, p15, -, -⟩ := hat
                obtain ⟨la2, lc2, rfl, -, -⟩ := hl1.form
                obtain ⟨aa2, ac2, rfl, -, -⟩ := ha1.form
                obtain ⟨ta2, tc2, rfl, -, -⟩ := ht1.form
                obtain ⟨ea2, ec2, rfl, -, -⟩ := he1.form
                obtain ⟨ka2, kc2, rfl, -, -⟩ := hk1.form
                have HH9 := Lib.hid (Hang.mk (s := t) hl1 hk1 ha1 ht1 he1)
                have HOK := Lib.hid hok
                have HJ1 := Lib.hid j1
                have HJ2 := Lib.hid j2
                have HJ3 := Lib.hid j3
                have HJ4 := Lib.hid j4
                have e0 : w9.cell? ⟨g3, off3 + n * 16, none⟩ = _ := p0
                have e1 : w9.cell? ⟨g3, off3 + n * 16 + 1, none⟩ = _ := p1
                have e2 : w9.cell? ⟨g3, off3 + n * 16 + 2, none⟩ = _ := p2
                have e3 : w9.cell? ⟨g3, off3 + n * 16 + 3, none⟩ = _ := p3
                have e4 : w9.cell? ⟨g3, off3 + n * 16 + 4, none⟩ = _ := p4
                have e5 : w9.cell? ⟨g3, off3 + n * 16 + 5, none⟩ = _ := p5
                have e6 : w9.cell? ⟨g3, off3 + n * 16 + 6, none⟩ = _ := p6
                have e7 : w9.cell? ⟨g3, off3 + n * 16 + 7, none⟩ = _ := p7
                have e8 : w9.cell? ⟨g3, off3 + n * 16 + 8, none⟩ = _ := p8
                have e9 : w9.cell? ⟨g3, off3 + n * 16 + 9, none⟩ = _ := p9
                have e10 : w9.cell? ⟨g3, off3 + n * 16 + 10, none⟩ = _ := p10
                have e11 : w9.cell? ⟨g3, off3 + n * 16 + 11, none⟩ = _ := p11
                have e12 : w9.cell? ⟨g3, off3 + n * 16 + 12, none⟩ = _ := p12
                have e13 : w9.cell? ⟨g3, off3 + n * 16 + 13, none⟩ = _ := p13
                have e14 : w9.cell? ⟨g3, off3 + n * 16 + 14, none⟩ = _ := p14
                have e15 : w9.cell? ⟨g3, off3 + n * 16 + 15, none⟩ = _ := p15
                clear hcs hne p0 p1 p2 p3 p4 p5 p6 p7 p8 p9 p10 p11 p12 p13 p14 p15 hok hk1 hl1 ha1 ht1 he1 j1 j2 j3 j4 hb9
                go_upto_region 14 with fail
                refine cut_world (fun wx => Below w9.heap.size w9 wx ∧ BoxAt wx w9.heap.size ([.int .i64 t.id, .int .i64 t.kind, .slice la2 t.labels.length lc2, .string t.nm, .string t.proc, .int .i64 t.x.op, .int .i64 t.x.n, .string t.x.nm, .slice ka2 t.x.ks.length kc2, .bool t.has, .slice aa2 t.args.length ac2, .slice ta2 t.thn.length tc2, .slice ea2 t.els.length ec2, .int .i64 dp, .int .i64 inn, .bool els])) ⟨boxed _ _, box_new w9 #[.int .i64 t.id, .int .i64 t.kind, .slice la2 t.labels.length lc2, .string t.nm, .string t.proc, .int .i64 t.x.op, .int .i64 t.x.n, .string t.x.nm, .slice ka2 t.x.ks.length kc2, .bool t.has, .slice aa2 t.args.length ac2, .slice ta2 t.thn.length tc2, .slice ea2 t.els.length ec2, .int .i64 dp, .int .i64 inn, .bool els] 62⟩ ?_
                rintro w10 ⟨hb, hbx⟩
                clear e0 e1 e2 e3 e4 e5 e6 e7 e8 e9 e10 e11 e12 e13 e14 e15
                have HB10 := Lib.hid (HB9.out.trans (hb.mono HB9.out.size))
                have HB58 := Lib.hid (HB8.out.trans (HB10.out.mono HB8.out.size))
                have HH10 := Lib.hid (HH9.out.next hb)
                have HBZ := Lib.hid hbx
                have m0 := hbx 0 _ rfl
                clear hb hbx HH9
                cases hi : (t.id == id) with
                | false =>
                  have HI := Lib.hid hi
                  go_wp2_with fail
                  go_roundw
                  case rel =>
                    refine ⟨n + 1, by omega, by go_num, HB10.out, fun j h hjn => ?_⟩
                    rcases Nat.lt_or_ge j n with h2 | h2
                    · exact HNO2.out j h h2
                    · obtain rfl : j = n := by omega
                      rw [hit.out]; exact HI.out
                  case measure => simp [intOf]; omega
                | true =>
                  have hfind : L.find? (fun i => i.s.id == id) = some ⟨t, dp, inn, els⟩ := by
                    have := find_at hnt (f := fun i : It => i.s.id == id) HNO2.out (by rw [hit.out]; exact hi)
                    rw [this, hit.out]
                  have hfl : findL id f.body = some t := by
                    have := mayP_flat hm.out hmem.out id
                    rw [hL.out, hfind] at this
                    exact this.symm
                  exfalso
                  have hP : findP id p.procs = some (f.nm, t) := by
                    have := findP_at hlt (by rw [hf.out]; exact hfl) fun j h hjk => HNO.out j h hjk
                    rw [this, hf.out]
                  rw [hr.out] at hP
                  cases hP
              · have hnt' : ¬ (n : Int) < (L.length : Int) := by omega
                have hfl : Hid (findL id f.body = none) := Lib.hid (by
                  have := mayP_flat hm.out hmem.out id
                  rw [hL.out, find_none (f := fun i : It => i.s.id == id) fun j h => HNO2.out j h (by omega)] at this
                  exact this.symm)
                clear hb9
                go_wp2_with fail
                go_roundw
                case rel =>
                  refine ⟨k + 1, by omega, by go_num, HB8.out.trans (HB9.out.mono HB8.out.size), fun j h hjk => ?_⟩
                  rcases Nat.lt_or_ge j k with h2 | h2
                  · exact HNO.out j h h2
                  · obtain rfl : j = k := by omega
                    rw [hf.out]; exact hfl.out
                case measure => simp [intOf]; omega
          · have hlt' : ¬ (k : Int) < (p.procs.length : Int) := by omega
            have hnone : findP id p.procs = none := findP_none fun j h => HNO.out j h (by omega)
            have hcnt : id < 1 ∨ (cntP p.procs : Int) < id := by
              have hmm := hm.out
              unfold mayP at hmm
              simp only [Bool.and_eq_true] at hmm
              have := mayPs_ids id p.procs 0 hmm.2
              rcases Int.lt_or_le id 1 with h | h
              · exact .inl h
              · rcases Int.lt_or_le (cntP p.procs) id with h2 | h2
                · exact .inr h2
                · exact absurd hnone (this (by omega) (by omega))
            have hc200 : (cntP p.procs : Int) ≤ 200 := by
              have hmm := hm.out
              unfold mayP at hmm
              simp only [Bool.and_eq_true] at hmm
              have := mayPs_most p.procs 0 hmm.2 (by omega)
              omega
            have hS := HBX.out.next hbel
            have s0 := hS 0 _ rfl
            have s1 := hS 1 _ rfl
            have s2 := hS 2 _ rfl
            have s3 := hS 3 _ rfl
            have s4 := hS 4 _ rfl
            have s5 := hS 5 _ rfl
            have s6 := hS 6 _ rfl
            have s7 := hS 7 _ rfl
            have s8 := hS 8 _ rfl
            have s9 := hS 9 _ rfl
            have s10 := hS 10 _ rfl
            have s11 := hS 11 _ rfl
            have s12 := hS 12 _ rfl
            have HHS := Lib.hid (HH5.out.next hbel)
            have zl := cell_lt s0
            have zn := World.new_ne _ _ s0
            have hA : Below w6.heap.size w6 ((w6.alloc (.cells #[.int .i64 zSt.id, .int .i64 zSt.kind, .slice la zSt.labels.length lc, .string zSt.nm, .string zSt.proc, .int .i64 zSt.x.op, .int .i64 zSt.x.n, .string zSt.x.nm, .slice ka zSt.x.ks.length kc, .bool zSt.has, .slice aa zSt.args.length ac, .slice ta zSt.thn.length tc, .slice ea zSt.els.length ec] 53)).alloc (.cells #[.int .i64 0, .int .i64 0, .slice none 0 0, .string ⟨#[]⟩, .string ⟨#[]⟩, .int .i64 0, .int .i64 0, .string ⟨#[]⟩, .slice none 0 0, .bool false, .slice none 0 0, .slice none 0 0, .slice none 0 0] 53)) := (boxed w6 _).alloc (by simp) _
            have h1 := row_one (d := d + 1) (s := zSt) ((box_new w6 #[.int .i64 zSt.id, .int .i64 zSt.kind, .slice la zSt.labels.length lc, .string zSt.nm, .string zSt.proc, .int .i64 zSt.x.op, .int .i64 zSt.x.n, .string zSt.x.nm, .slice ka zSt.x.ks.length kc, .bool zSt.has, .slice aa zSt.args.length ac, .slice ta zSt.thn.length tc, .slice ea zSt.els.length ec] 53).next (boxed _ (.cells #[.int .i64 0, .int .i64 0, .slice none 0 0, .string ⟨#[]⟩, .string ⟨#[]⟩, .int .i64 0, .int .i64 0, .string ⟨#[]⟩, .slice none 0 0, .bool false, .slice none 0 0, .slice none 0 0, .slice none 0 0] 53))) HOK2.out HI1.out HI2.out HI3.out HI4.out (HHS.out.next hA)
            have h2 := row_one (d := d + 1) (s := zSt) (kv := .slice none 0 0) (lv := .slice none 0 0) (av := .slice none 0 0) (tv := .slice none 0 0) (ev := .slice none 0 0) (box_two w6 (.cells #[.int .i64 zSt.id, .int .i64 zSt.kind, .slice la zSt.labels.length lc, .string zSt.nm, .string zSt.proc, .int .i64 zSt.x.op, .int .i64 zSt.x.n, .string zSt.x.nm, .slice ka zSt.x.ks.length kc, .bool zSt.has, .slice aa zSt.args.length ac, .slice ta zSt.thn.length tc, .slice ea zSt.els.length ec] 53) #[.int .i64 0, .int .i64 0, .slice none 0 0, .string ⟨#[]⟩, .string ⟨#[]⟩, .int .i64 0, .int .i64 0, .string ⟨#[]⟩, .slice none 0 0, .bool false, .slice none 0 0, .slice none 0 0, .slice none 0 0] 53) HOK2.out HI1.out HI2.out HI3.out HI4.out ⟨StrC.none _, ExC.none _ _, SlAt.nil, SlAt.nil, SlAt.nil⟩
            have H1 := Lib.hid h1
            have H2 := Lib.hid h2
            have HA := Lib.hid hA
            have HCNT := Lib.hid hcnt
            have HC2 := Lib.hid hc200
            have HNONE := Lib.hid hnone
            clear h1 h2 hA hcnt hc200 hnone hbel hS
            go_wp2_with fail
            refine (reqStmts_any (d + 1 + 1) [zSt] [zSt] _ _ _ H1.out H2.out).mono ?_
            rw [eqL_refl fun x _ => eqS_refl x]
            rintro e w11 ⟨rfl, hb⟩
            have hb6 := HA.out.trans (hb.mono HA.out.size)
            have HB6 := Lib.hid (HBel.out.trans (hb6.mono HBel.out.size))
            have r0 := cell_next HB6.out HR0.out
            have r1 := cell_next HB6.out HR1.out
            have HPL := Lib.hid (PrC.mono (cw_next HB6.out) HP5.out)
            clear hb hb6 s0 s1 s2 s3 s4 s5 s6 s7 s8 s9 s10 s11 s12
            by_cases hid1 : id < 1
            · go_wp2_with fail
              go_ret
              exact ⟨rfl, HB5.out.trans (HB6.out.mono HB5.out.size)⟩
            · have hid2 : ¬ id < 1 := hid1
              go_wp2_with fail
              refine (countP_any d p _ _ _ HPL.out).mono ?_
              rintro e w12 ⟨rfl, hb⟩
              have hgt : ((cntP p.procs : Nat) : Int) < id := by have := HCNT.out; omega
              have hwr : wrap64 (((p.procs.map fun f => cntL f.body).sum : Nat) : Int) = ((cntP p.procs : Nat) : Int) := by
                have := HC2.out
                unfold cntP at this ⊢
                unfold wrap64
                omega
              rw [hwr]
              have HB12 := Lib.hid (HB6.out.trans (hb.mono HB6.out.size))
              clear hb
              go_wp2_with fail
              go_ret
              exact ⟨rfl, HB5.out.trans (HB12.out.mono HB5.out.size)⟩
      | some t =>
        obtain ⟨nm, sx⟩ := t
        rintro e w4 ⟨c, rfl, hsq, hb⟩
        replace q0 := cell_next hb q0
        replace q1 := cell_next hb q1
        replace HP := Lib.hid (PrC.mono (cw_next hb) HP.out)
        replace HB := Lib.hid (HB.out.trans (hb.mono HB.out.size))
        clear hb
        obtain ⟨kv, lv, av, tv, ev, rfl, ok2, hk2, i1, i2, i3, i4, hlv, hav, htv, hev⟩ := StQ_mono (only_out) hsq
        obtain ⟨la, lc, rfl, -, -⟩ := hlv.form
        obtain ⟨aa, ac, rfl, -, -⟩ := hav.form
        obtain ⟨ta, tc, rfl, -, -⟩ := htv.form
        obtain ⟨ea, ec, rfl, -, -⟩ := hev.form
        obtain ⟨ka, kc, rfl, -, -⟩ := hk2.form
        have HH := Lib.hid (Hang.mk (s := sx) hlv hk2 hav htv hev)
        have HOK2 := Lib.hid ok2
        have HI1 := Lib.hid i1
        have HI2 := Lib.hid i2
        have HI3 := Lib.hid i3
        have HI4 := Lib.hid i4
        have HQ0 := Lib.hid q0
        have HQ1 := Lib.hid q1
        have zl := cell_lt q1
        have zn := World.new_ne _ _ q1
        clear hlv hk2 hav htv hev ok2 i1 i2 i3 i4 q0
        unfold stCells
        go_wp2_with fail
        refine cut_world (fun wx => Below w4.heap.size w4 wx ∧ BoxAt wx w4.heap.size (stCells sx (.slice ka sx.x.ks.length kc) (.slice la sx.labels.length lc) (.slice aa sx.args.length ac) (.slice ta sx.thn.length tc) (.slice ea sx.els.length ec))) ⟨boxed _ _, box_new w4 #[.int .i64 sx.id, .int .i64 sx.kind, .slice la sx.labels.length lc, .string sx.nm, .string sx.proc, .int .i64 sx.x.op, .int .i64 sx.x.n, .string sx.x.nm, .slice ka sx.x.ks.length kc, .bool sx.has, .slice aa sx.args.length ac, .slice ta sx.thn.length tc, .slice ea sx.els.length ec] 53⟩ ?_
        rintro w5 ⟨hb, hbx⟩
        have HB5 := Lib.hid (HB.out.trans (hb.mono HB.out.size))
        have HP5 := Lib.hid (PrC.mono (cw_next hb) HP.out)
        have HBX := Lib.hid hbx
        have HH5 := Lib.hid (HH.out.next hb)
        have HR0 := Lib.hid (cell_next hb HQ0.out)
        have HR1 := Lib.hid (cell_next hb HQ1.out)
        clear hb hbx q1 zl zn HQ0 HQ1 HH HP HB
        go_loopw [30] (fun i wr => ∃ k : Nat, k ≤ p.procs.length ∧ i = .int .i64 k ∧ Below w5.heap.size w5 wr ∧ ∀ j (h : j < p.procs.length), j < k → findL id p.procs[j].body = none) (fun i _ => (p.procs.length - intOf i).toNat)
        case atStart => exact ⟨0, by omega, rfl, Below.refl _ _, fun j _ h => absurd h (by omega)⟩
        case round =>
          obtain ⟨k, hk, rfl, hbel, hno⟩ := hrel
          have HBel := Lib.hid hbel
          have HNO := Lib.hid hno
          have hlim := HLIM.out
          obtain ⟨w6, hw6⟩ : ∃ w6 : World, w6 = wr := ⟨_, rfl⟩
          subst hw6
          clear hno
          by_cases hlt : k < p.procs.length
          · have hlt' : (k : Int) < (p.procs.length : Int) := by omega
            have h0k : (0 : Int) ≤ (k : Int) := by omega
            have hne : p.procs ≠ [] := by intro h; rw [h] at hlt; simp at hlt
            obtain ⟨g, off, cap', hv, _, hcells⟩ := SlAt.cells (PrC.mono (cw_next hbel) HP5.out).2 hne
            simp only [Value.slice.injEq] at hv
            obtain ⟨rfl, -, rfl⟩ := hv
            have hat := hcells k hlt
            obtain ⟨f, hf⟩ : ∃ f, Hid (p.procs[k] = f) := ⟨_, Lib.hid rfl⟩
            rw [hf.out] at hat
            have hmem : Hid (f ∈ p.procs) := Lib.hid (hf.out ▸ List.getElem_mem hlt)
            obtain ⟨pv, vv, bv, fv, p0, p1, p2, p3, p4, hnm, hps, hvs, hbody, hfin⟩ := hat
            obtain ⟨a1, c1, rfl, -, -⟩ := hps.form
            obtain ⟨a2, c2, rfl, -, -⟩ := hvs.form
            obtain ⟨a3, c3, rfl, -, -⟩ := hbody.form
            obtain ⟨a4, c4, rfl, -, -⟩ := hfin.form
            have e0 : w6.cell? ⟨g, off + k * 5, none⟩ = _ := p0
            have e1 : w6.cell? ⟨g, off + k * 5 + 1, none⟩ = _ := p1
            have e2 : w6.cell? ⟨g, off + k * 5 + 2, none⟩ = _ := p2
            have e3 : w6.cell? ⟨g, off + k * 5 + 3, none⟩ = _ := p3
            have e4 : w6.cell? ⟨g, off + k * 5 + 4, none⟩ = _ := p4
            have HBODY := Lib.hid hbody
            clear hcells hne p0 p1 p2 p3 p4 hps hvs hbody hfin hbel
            go_upto_region 11 with fail
            refine cut_world (fun wx => Below w6.heap.size w6 wx ∧ BoxAt wx w6.heap.size [.string f.nm, .slice a1 f.params.length c1, .slice a2 f.vars.length c2, .slice a3 f.body.length c3, .slice a4 f.fin.length c4]) ⟨boxed _ _, box_new w6 #[.string f.nm, .slice a1 f.params.length c1, .slice a2 f.vars.length c2, .slice a3 f.body.length c3, .slice a4 f.fin.length c4] 58⟩ ?_
            rintro w7 ⟨hb, hbx⟩
            clear e0 e1 e2 e3 e4
            have HB7 := Lib.hid (HBel.out.trans (hb.mono HBel.out.size))
            have HBY := Lib.hid hbx
            have HBODY7 := Lib.hid (HBODY.out.next hb)
            have m0 := hbx 0 _ rfl
            have m1 := hbx 1 _ rfl
            have m2 := hbx 2 _ rfl
            have m3 := hbx 3 _ rfl
            have m4 := hbx 4 _ rfl
            clear hb hbx HBODY
            obtain ⟨L, hL⟩ : ∃ L, Hid (flatOf f = L) := ⟨_, Lib.hid rfl⟩
            go_wp2_with fail
            refine (flatOf_any d f _ _ _ _ _ HBODY7.out).mono ?_
            rw [hL.out]
            rintro e w8 ⟨v8, rfl, hits, hb⟩
            obtain ⟨ia, ic, rfl, bi1, bi2⟩ := hits.form
            have HITS := Lib.hid hits
            have HIL := Lib.hid (Nat.le_trans bi1 bi2)
            have HB8 := Lib.hid (HB7.out.trans (hb.mono HB7.out.size))
            have HBY8 := Lib.hid (HBY.out.next hb)
            clear hb hits bi1 bi2 m0 m1 m2 m3 m4 HBODY7 HBY HB7
            go_wp2_with fail
            go_loopw [37] (fun i wr => ∃ n : Nat, n ≤ L.length ∧ i = .int .i64 n ∧ Below w8.heap.size w8 wr ∧ ∀ j (h : j < L.length), j < n → (L[j].s.id == id) = false) (fun i _ => (L.length - intOf i).toNat)
            case atStart => exact ⟨0, by omega, rfl, Below.refl _ _, fun j _ h => absurd h (by omega)⟩
            case round =>
              obtain ⟨n, hn, rfl, hb9, hno⟩ := hrel
              have HB9 := Lib.hid hb9
              have HNO2 := Lib.hid hno
              have hil := HIL.out
              obtain ⟨w9, hw9⟩ : ∃ w9 : World, w9 = wr := ⟨_, rfl⟩
              subst hw9
              clear hno
              by_cases hnt : n < L.length
              · have hnt' : (n : Int) < (L.length : Int) := by omega
                have h0n : (0 : Int) ≤ (n : Int) := by omega
                have hne : L ≠ [] := by intro h; rw [h] at hnt; simp at hnt
                obtain ⟨g3, off3, cap3, hv, _, hcs⟩ := SlAt.cells (SlAt.imp HITS.out (fun _ _ _ _ => ItAt.mono (cw_next hb9))) hne
                simp only [Value.slice.injEq] at hv
                obtain ⟨rfl, -, rfl⟩ := hv
                have hat := hcs n hnt
                obtain ⟨it, hit⟩ : ∃ z, Hid (L[n] = z) := ⟨_, Lib.hid rfl⟩
                rw [hit.out] at hat
                obtain ⟨t, dp, inn, els⟩ := it
                obtain ⟨⟨lv, av, tv, ev, p0, p1, p2, p3, p4, ⟨kv, p5, p6, p7, p8, hok, hk1⟩, p9, p10, p11, p12, j1, j2, j3, j4, hl1, ha1, ht1, he1⟩, p13, p14, p15, -, -⟩ := hat
                obtain ⟨la2, lc2, rfl, -, -⟩ := hl1.form
                obtain ⟨aa2, ac2, rfl, -, -⟩ := ha1.form
                obtain ⟨ta2, tc2, rfl, -, -⟩ := ht1.form
                obtain ⟨ea2, ec2, rfl, -, -⟩ := he1.form
                obtain ⟨ka2, kc2, rfl, -, -⟩ := hk1.form
                have HH9 := Lib.hid (Hang.mk (s := t) hl1 hk1 ha1 ht1 he1)
                have HOK := Lib.hid hok
                have HJ1 := Lib.hid j1
                have HJ2 := Lib.hid j2
                have HJ3 := Lib.hid j3
                have HJ4 := Lib.hid j4
                have e0 : w9.cell? ⟨g3, off3 + n * 16, none⟩ = _ := p0
                have e1 : w9.cell? ⟨g3, off3 + n * 16 + 1, none⟩ = _ := p1
                have e2 : w9.cell? ⟨g3, off3 + n * 16 + 2, none⟩ = _ := p2
                have e3 : w9.cell? ⟨g3, off3 + n * 16 + 3, none⟩ = _ := p3
                have e4 : w9.cell? ⟨g3, off3 + n * 16 + 4, none⟩ = _ := p4
                have e5 : w9.cell? ⟨g3, off3 + n * 16 + 5, none⟩ = _ := p5
                have e6 : w9.cell? ⟨g3, off3 + n * 16 + 6, none⟩ = _ := p6
                have e7 : w9.cell? ⟨g3, off3 + n * 16 + 7, none⟩ = _ := p7
                have e8 : w9.cell? ⟨g3, off3 + n * 16 + 8, none⟩ = _ := p8
                have e9 : w9.cell? ⟨g3, off3 + n * 16 + 9, none⟩ = _ := p9
                have e10 : w9.cell? ⟨g3, off3 + n * 16 + 10, none⟩ = _ := p10
                have e11 : w9.cell? ⟨g3, off3 + n * 16 + 11, none⟩ = _ := p11
                have e12 : w9.cell? ⟨g3, off3 + n * 16 + 12, none⟩ = _ := p12
                have e13 : w9.cell? ⟨g3, off3 + n * 16 + 13, none⟩ = _ := p13
                have e14 : w9.cell? ⟨g3, off3 + n * 16 + 14, none⟩ = _ := p14
                have e15 : w9.cell? ⟨g3, off3 + n * 16 + 15, none⟩ = _ := p15
                clear hcs hne p0 p1 p2 p3 p4 p5 p6 p7 p8 p9 p10 p11 p12 p13 p14 p15 hok hk1 hl1 ha1 ht1 he1 j1 j2 j3 j4 hb9
                go_upto_region 14 with fail
                refine cut_world (fun wx => Below w9.heap.size w9 wx ∧ BoxAt wx w9.heap.size ([.int .i64 t.id, .int .i64 t.kind, .slice la2 t.labels.length lc2, .string t.nm, .string t.proc, .int .i64 t.x.op, .int .i64 t.x.n, .string t.x.nm, .slice ka2 t.x.ks.length kc2, .bool t.has, .slice aa2 t.args.length ac2, .slice ta2 t.thn.length tc2, .slice ea2 t.els.length ec2, .int .i64 dp, .int .i64 inn, .bool els])) ⟨boxed _ _, box_new w9 #[.int .i64 t.id, .int .i64 t.kind, .slice la2 t.labels.length lc2, .string t.nm, .string t.proc, .int .i64 t.x.op, .int .i64 t.x.n, .string t.x.nm, .slice ka2 t.x.ks.length kc2, .bool t.has, .slice aa2 t.args.length ac2, .slice ta2 t.thn.length tc2, .slice ea2 t.els.length ec2, .int .i64 dp, .int .i64 inn, .bool els] 62⟩ ?_
                rintro w10 ⟨hb, hbx⟩
                clear e0 e1 e2 e3 e4 e5 e6 e7 e8 e9 e10 e11 e12 e13 e14 e15
                have HB10 := Lib.hid (HB9.out.trans (hb.mono HB9.out.size))
                have HB58 := Lib.hid (HB8.out.trans (HB10.out.mono HB8.out.size))
                have HH10 := Lib.hid (HH9.out.next hb)
                have HBZ := Lib.hid hbx
                have m0 := hbx 0 _ rfl
                clear hb hbx HH9
                cases hi : (t.id == id) with
                | false =>
                  have HI := Lib.hid hi
                  go_wp2_with fail
                  go_roundw
                  case rel =>
                    refine ⟨n + 1, by omega, by go_num, HB10.out, fun j h hjn => ?_⟩
                    rcases Nat.lt_or_ge j n with h2 | h2
                    · exact HNO2.out j h h2
                    · obtain rfl : j = n := by omega
                      rw [hit.out]; exact HI.out
                  case measure => simp [intOf]; omega
                | true =>
                  have hfind : L.find? (fun i => i.s.id == id) = some ⟨t, dp, inn, els⟩ := by
                    have := find_at hnt (f := fun i : It => i.s.id == id) HNO2.out (by rw [hit.out]; exact hi)
                    rw [this, hit.out]
                  have hfl : findL id f.body = some t := by
                    have := mayP_flat hm.out hmem.out id
                    rw [hL.out, hfind] at this
                    exact this.symm
                  have hP : findP id p.procs = some (f.nm, t) := by
                    have := findP_at hlt (by rw [hf.out]; exact hfl) fun j h hjk => HNO.out j h hjk
                    rw [this, hf.out]
                  rw [hr.out] at hP
                  simp only [Option.some.injEq, Prod.mk.injEq] at hP
                  obtain ⟨rfl, rfl⟩ := hP
                  clear hfind hfl
                  have HSB := Lib.hid (HBX.out.next HB58.out)
                  have HHS := Lib.hid (HH5.out.next HB58.out)
                  have HFB := Lib.hid (HBY8.out.next HB10.out)
                  have f0 := HFB.out 0 _ rfl
                  have s0 := HSB.out 0 _ rfl
                  have t0 := HBZ.out 0 _ rfl
                  have s1 := HSB.out 1 _ rfl
                  have t1 := HBZ.out 1 _ rfl
                  have s2 := HSB.out 2 _ rfl
                  have t2 := HBZ.out 2 _ rfl
                  have s3 := HSB.out 3 _ rfl
                  have t3 := HBZ.out 3 _ rfl
                  have s4 := HSB.out 4 _ rfl
                  have t4 := HBZ.out 4 _ rfl
                  have s5 := HSB.out 5 _ rfl
                  have t5 := HBZ.out 5 _ rfl
                  have s6 := HSB.out 6 _ rfl
                  have t6 := HBZ.out 6 _ rfl
                  have s7 := HSB.out 7 _ rfl
                  have t7 := HBZ.out 7 _ rfl
                  have s8 := HSB.out 8 _ rfl
                  have t8 := HBZ.out 8 _ rfl
                  have s9 := HSB.out 9 _ rfl
                  have t9 := HBZ.out 9 _ rfl
                  have s10 := HSB.out 10 _ rfl
                  have t10 := HBZ.out 10 _ rfl
                  have s11 := HSB.out 11 _ rfl
                  have t11 := HBZ.out 11 _ rfl
                  have s12 := HSB.out 12 _ rfl
                  have t12 := HBZ.out 12 _ rfl
                  have hbb : (f.nm.toList == f.nm.toList) = true := by simp
                  have zl := cell_lt t0
                  have zn := World.new_ne _ _ t0
                  have hA : Below w10.heap.size w10 ((w10.alloc (.cells #[.int .i64 sx.id, .int .i64 sx.kind, .slice la sx.labels.length lc, .string sx.nm, .string sx.proc, .int .i64 sx.x.op, .int .i64 sx.x.n, .string sx.x.nm, .slice ka sx.x.ks.length kc, .bool sx.has, .slice aa sx.args.length ac, .slice ta sx.thn.length tc, .slice ea sx.els.length ec] 53)).alloc (.cells #[.int .i64 sx.id, .int .i64 sx.kind, .slice la2 sx.labels.length lc2, .string sx.nm, .string sx.proc, .int .i64 sx.x.op, .int .i64 sx.x.n, .string sx.x.nm, .slice ka2 sx.x.ks.length kc2, .bool sx.has, .slice aa2 sx.args.length ac2, .slice ta2 sx.thn.length tc2, .slice ea2 sx.els.length ec2] 53)) := (boxed w10 _).alloc (by simp) _
                  have h1 := row_one (d := d) (s := sx) ((box_new w10 #[.int .i64 sx.id, .int .i64 sx.kind, .slice la sx.labels.length lc, .string sx.nm, .string sx.proc, .int .i64 sx.x.op, .int .i64 sx.x.n, .string sx.x.nm, .slice ka sx.x.ks.length kc, .bool sx.has, .slice aa sx.args.length ac, .slice ta sx.thn.length tc, .slice ea sx.els.length ec] 53).next (boxed _ (.cells #[.int .i64 sx.id, .int .i64 sx.kind, .slice la2 sx.labels.length lc2, .string sx.nm, .string sx.proc, .int .i64 sx.x.op, .int .i64 sx.x.n, .string sx.x.nm, .slice ka2 sx.x.ks.length kc2, .bool sx.has, .slice aa2 sx.args.length ac2, .slice ta2 sx.thn.length tc2, .slice ea2 sx.els.length ec2] 53))) HOK2.out HI1.out HI2.out HI3.out HI4.out (HHS.out.next hA)
                  have h2 := row_one (d := d) (s := sx) (box_two w10 (.cells #[.int .i64 sx.id, .int .i64 sx.kind, .slice la sx.labels.length lc, .string sx.nm, .string sx.proc, .int .i64 sx.x.op, .int .i64 sx.x.n, .string sx.x.nm, .slice ka sx.x.ks.length kc, .bool sx.has, .slice aa sx.args.length ac, .slice ta sx.thn.length tc, .slice ea sx.els.length ec] 53) #[.int .i64 sx.id, .int .i64 sx.kind, .slice la2 sx.labels.length lc2, .string sx.nm, .string sx.proc, .int .i64 sx.x.op, .int .i64 sx.x.n, .string sx.x.nm, .slice ka2 sx.x.ks.length kc2, .bool sx.has, .slice aa2 sx.args.length ac2, .slice ta2 sx.thn.length tc2, .slice ea2 sx.els.length ec2] 53) HOK.out HJ1.out HJ2.out HJ3.out HJ4.out (HH10.out.next hA)
                  have H1 := Lib.hid h1
                  have H2 := Lib.hid h2
                  have HA := Lib.hid hA
                  clear h1 h2 hA
                  go_wp2_with fail
                  refine (reqStmts_any (d + 1) [sx] [sx] _ _ _ H1.out H2.out).mono ?_
                  rw [eqL_refl fun x _ => eqS_refl x]
                  rintro e w11 ⟨rfl, hb⟩
                  have HB11 := Lib.hid (HB5.out.trans ((HB58.out.trans ((HA.out.trans (hb.mono HA.out.size)).mono HB58.out.size)).mono HB5.out.size))
                  clear hb
                  go_wp2_with fail
                  go_ret
                  exact ⟨rfl, HB11.out⟩
              · have hnt' : ¬ (n : Int) < (L.length : Int) := by omega
                have hfl : Hid (findL id f.body = none) := Lib.hid (by
                  have := mayP_flat hm.out hmem.out id
                  rw [hL.out, find_none (f := fun i : It => i.s.id == id) fun j h => HNO2.out j h (by omega)] at this
                  exact this.symm)
                clear hb9
                go_wp2_with fail
                go_roundw
                case rel =>
                  refine ⟨k + 1, by omega, by go_num, HB8.out.trans (HB9.out.mono HB8.out.size), fun j h hjk => ?_⟩
                  rcases Nat.lt_or_ge j k with h2 | h2
                  · exact HNO.out j h h2
                  · obtain rfl : j = k := by omega
                    rw [hf.out]; exact hfl.out
                case measure => simp [intOf]; omega
          · have hlt' : ¬ (k : Int) < (p.procs.length : Int) := by omega
            have hnone : findP id p.procs = none := findP_none fun j h => HNO.out j h (by omega)
            rw [hr.out] at hnone
            cases hnone
end Go.Proofs.Ytnbclbphggmenaa.Tr
