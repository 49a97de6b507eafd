/- The law TreeOwn, walked: it returns true. Conditions: the arguments lie in memory. -/
import Derived.Test.YtnbclbphggmenaaNumF
import Derived.Test.YtnbclbphggmenaaCopyP
import Derived.Test.YtnbclbphggmenaaReqP
import Derived.Test.YtnbclbphggmenaaTreeEqW
import Derived.Test.YtnbclbphggmenaaFitsW
import Derived.Deep.DeepCutAuto
import Derived.Deep.RegionHeld3
import Derived.IntWalk
namespace Go.Proofs.Ytnbclbphggmenaa.Tr
open Go.RowKit Go.Proofs.Ytnbclbphggmenaa.Lx Go.Proofs.Ytnbclbphggmenaa.Wd
def norm : Value → Value
  | .string _ => .string ⟨#[]⟩
  | .int k _ => .int k 0
  | v => v
/-- What was in those cells is there, or another of its kind, in cells that are not frozen. -/
def Wri (B : Nat) (w : World) : Cs := fun g j u => ∃ u', w.cell? ⟨g, j, none⟩ = some u' ∧ norm u = norm u' ∧ w.frozen? ⟨g, j, none⟩ = false ∧ B ≤ g
theorem Wri.start (B : Nat) (w : World) : Cs.le (nwF B w) (Wri B w) := fun _ j u ⟨h1, h2, h3⟩ => ⟨u, h2, rfl, h3 j, h1⟩
theorem Wri.slice {C : Cs} {B : Nat} {w : World} (h : Cs.le C (Wri B w)) {g j n c : Nat} {a : Option Addr} (hc : C g j (.slice a n c)) : w.cell? ⟨g, j, none⟩ = some (.slice a n c) := by
  obtain ⟨u, h1, h2, -, -⟩ := h _ _ _ hc
  rw [h1]
  cases u <;> simp [norm] at h2
  obtain ⟨rfl, rfl, rfl⟩ := h2
  rfl
theorem Wri.text {C : Cs} {B : Nat} {w : World} (h : Cs.le C (Wri B w)) {g j : Nat} {s : ByteArray} (hc : C g j (.string s)) : ∃ s, w.cell? ⟨g, j, none⟩ = some (.string s) := by
  obtain ⟨u, h1, h2, -, -⟩ := h _ _ _ hc
  cases u <;> simp [norm] at h2
  exact ⟨_, h1⟩
theorem Wri.num {C : Cs} {B : Nat} {w : World} (h : Cs.le C (Wri B w)) {g j : Nat} {n : Int} (hc : C g j (.int .i64 n)) : ∃ n, w.cell? ⟨g, j, none⟩ = some (.int .i64 n) := by
  obtain ⟨u, h1, h2, -, -⟩ := h _ _ _ hc
  cases u <;> simp [norm] at h2
  subst h2
  exact ⟨_, h1⟩
theorem Wri.thaw {C : Cs} {B : Nat} {w : World} (h : Cs.le C (Wri B w)) {g j : Nat} {u : Value} (hc : C g j u) : w.frozen? ⟨g, j, none⟩ = false := by
  obtain ⟨u, h1, h2, h3, h4⟩ := h _ _ _ hc
  exact h3
theorem Wri.low {C : Cs} {B : Nat} {w : World} (h : Cs.le C (Wri B w)) {g j : Nat} {u : Value} (hc : C g j u) : B ≤ g := by
  obtain ⟨u, h1, h2, h3, h4⟩ := h _ _ _ hc
  exact h4
theorem Wri.put {C : Cs} {B : Nat} {w : World} (h : Cs.le C (Wri B w)) {g j : Nat} {u x : Value} (hc : C g j u) (hx : norm x = norm u) : Cs.le C (Wri B (w.setCell ⟨g, j, none⟩ x)) := by
  intro g' j' u' hc'
  obtain ⟨v, h1, h2, h3, h4⟩ := h _ _ _ hc
  obtain ⟨v', h1', h2', h3', h4'⟩ := h _ _ _ hc'
  by_cases e : g' = g ∧ j' = j
  · obtain ⟨rfl, rfl⟩ := e
    rw [h1] at h1'
    cases h1'
    exact ⟨x, cell_set h1, by rw [h2', ← h2, hx], by rw [World.frozen?_setCell]; exact h3, h4⟩
  · refine ⟨v', ?_, h2', by rw [World.frozen?_setCell]; exact h3', h4'⟩
    rw [World.cell?_setCell_other _ _ _ _ (fun e' => e ?_)]
    · exact h1'
    · have e1 := congrArg Addr.block e'
      have e2 := congrArg Addr.off e'
      simp only at e1 e2
      exact ⟨e1.symm, e2.symm⟩
def sZZ : ByteArray := ⟨#[122, 122]⟩
set_option maxHeartbeats 8000000 in
set_option maxRecDepth 100000 in
theorem law_treeOwn {w : World} (d : Nat) (p : Pr) (gv pv : Value) (hp0 : PrC (cw w) d gv pv p) :
    Calls Try.prog 17 #[.agg #[gv, pv]] w fun e w' => e = .returned (.bool true) ∧ Below w.heap.size w w' := by
  have hp : PrC (cw w) (d + 1) gv pv p := PrC.le (by omega) hp0
  obtain ⟨ga, gc, rfl, -, -⟩ := hp.1.form
  obtain ⟨pa, pc, rfl, hpl1, hpl2⟩ := hp.2.form
  have hplen : p.procs.length ≤ 9223372036854775807 := Nat.le_trans hpl1 hpl2
  have HPL := Lib.hid hplen
  have HP0 := Lib.hid hp0
  have HP := Lib.hid hp
  clear hp hp0 hpl1 hpl2 hplen
  go_enter Try.func17, Try.ntmps17
  go_upto_region 1 with fail
  refine cut_world (fun wx => Below w.heap.size w wx ∧ BoxAt wx w.heap.size [.slice ga p.globals.length gc, .slice pa p.procs.length pc]) ⟨boxed _ _, box_new w #[.slice ga p.globals.length gc, .slice pa p.procs.length pc] 46⟩ ?_
  rintro w1 ⟨hb1, hx1⟩
  have HB1 := Lib.hid hb1
  have HX1 := Lib.hid hx1
  have HP1 := Lib.hid (PrC.mono (cw_next hb1) HP.out)
  clear hb1 hx1
  have p0 := HX1.out 0 _ rfl
  have p1 := HX1.out 1 _ rfl
  go_wp2_with fail
  refine (treed_any _).mono ?_
  rintro e w2 ⟨rfl, hb2⟩
  have HB2 := Lib.hid (HB1.out.trans (hb2.mono HB1.out.size))
  have HX2 := Lib.hid (HX1.out.next hb2)
  have HP2 := Lib.hid (PrC.mono (cw_next hb2) HP1.out)
  have HN2 := Lib.hid hb2
  clear hb2
  clear p0 p1
  have p0 := HX2.out 0 _ rfl
  have p1 := HX2.out 1 _ rfl
  go_wp2_with fail
  refine (fits_any (d + 1) p _ _ _ HP2.out).mono ?_
  rintro e w3 ⟨b1, hf1, rfl, hb3⟩
  have HF1 := Lib.hid hf1
  clear hf1
  have HB3 := Lib.hid (HB2.out.trans (hb3.mono HB2.out.size))
  have HX3 := Lib.hid (HX2.out.next hb3)
  have HP3 := Lib.hid (PrC.mono (cw_next hb3) HP2.out)
  have HN3 := Lib.hid hb3
  clear hb3
  clear p0 p1
  cases b1 with
  | false =>
    have p0 := HX3.out 0 _ rfl
    have p1 := HX3.out 1 _ rfl
    go_wp2_with fail
    go_ret
    exact ⟨rfl, HB3.out⟩
  | true =>
    have HWP := Lib.hid (HF1.out (by simp))
    clear HF1
    have p0 := HX3.out 0 _ rfl
    have p1 := HX3.out 1 _ rfl
    go_wp2_with fail
    refine (mayP_any (d + 1) p _ _ _ HP3.out).mono ?_
    rintro e w4 ⟨rfl, hb4⟩
    obtain ⟨m1, hm1⟩ : ∃ m, Hid (mayP p = m) := ⟨_, Lib.hid rfl⟩
    rw [hm1.out]
    have HB4 := Lib.hid (HB3.out.trans (hb4.mono HB3.out.size))
    have HX4 := Lib.hid (HX3.out.next hb4)
    have HP4 := Lib.hid (PrC.mono (cw_next hb4) HP3.out)
    have HN4 := Lib.hid hb4
    clear hb4
    clear p0 p1
    cases m1 with
    | false =>
      have p0 := HX4.out 0 _ rfl
      have p1 := HX4.out 1 _ rfl
      go_wp2_with fail
      go_ret
      exact ⟨rfl, HB4.out⟩
    | true =>
      have p0 := HX4.out 0 _ rfl
      have p1 := HX4.out 1 _ rfl
      go_wp2_with fail
      refine (copyP_any d p _ _ _ (PrC.mono (cw_next HB4.out) HP0.out) HWP.out).mono ?_
      rw [put_sameP hm1.out]
      rintro e w5 ⟨cg, cp, rfl, hcp, hb5⟩
      obtain ⟨cga, cgc, rfl, -, -⟩ := hcp.1.form
      obtain ⟨cpa, cpc, rfl, -, -⟩ := hcp.2.form
      have HPC5 := Lib.hid hcp
      have HB5 := Lib.hid (HB4.out.trans (hb5.mono HB4.out.size))
      have HX5 := Lib.hid (HX4.out.next hb5)
      have HP5 := Lib.hid (PrC.mono (cw_next hb5) HP4.out)
      have HN5 := Lib.hid hb5
      clear hb5 hcp p0 p1
      go_upto_region 8 with fail
      refine cut_world (fun wx => Below w5.heap.size w5 wx ∧ BoxAt wx w5.heap.size [.slice cga p.globals.length cgc, .slice cpa p.procs.length cpc] ∧ PrC (cw wx) (d + 1) (.slice cga p.globals.length cgc) (.slice cpa p.procs.length cpc) p) ⟨boxed w5 _, box_new w5 #[.slice cga p.globals.length cgc, .slice cpa p.procs.length cpc] 46, PrC.mono (Cs.le_trans only_out (cw_next (boxed w5 _))) HPC5.out⟩ ?_
      rintro w6 ⟨hb6, hc6, hp6⟩
      have HB6 := Lib.hid (HB5.out.trans (hb6.mono HB5.out.size))
      have HX6 := Lib.hid (HX5.out.next hb6)
      have HP6 := Lib.hid (PrC.mono (cw_next hb6) HP5.out)
      have HN6 := Lib.hid hb6
      have HBC6 := Lib.hid hc6
      have HPC6 := Lib.hid hp6
      clear hb6 hc6 hp6 HPC5
      obtain ⟨Q, hQ⟩ : ∃ Q, Hid (numPr p = Q) := ⟨_, Lib.hid rfl⟩
      have p0 := HX6.out 0 _ rfl
      have p1 := HX6.out 1 _ rfl
      go_wp2_with fail
      refine (number_own d p _ _ _ HP6.out HWP.out).mono ?_
      rw [hQ.out]
      rintro e w7 ⟨gq, pq, BQ, rows, rfl, hBQ, hgq, hacc, heach, hb7⟩
      obtain ⟨gqa, gqc, rfl, -, -⟩ := hgq.form
      have hsl := hacc.pcF heach hacc.max
      obtain ⟨aq, kq, rfl, hq1, hq2⟩ := hsl.form
      have hql : Q.procs.length ≤ 9223372036854775807 := Nat.le_trans hq1 hq2
      have HQL := Lib.hid hql
      have HSL7 := Lib.hid hsl
      have HBQ := Lib.hid hBQ
      have HN7 := Lib.hid hb7
      clear hgq hacc heach hsl hq1 hq2 hb7 p0 p1 hBQ hql
      go_upto_region 9 with fail
      refine cut_world (fun wx => Below w6.heap.size w6 wx ∧ nwF w6.heap.size wx w7.heap.size 1 (.slice aq Q.procs.length kq) ∧ SlAt 5 (PcF (nwF w6.heap.size wx)) (.slice aq Q.procs.length kq) Q.procs) ⟨?_, ⟨?_, ?_, ?_⟩, ?_⟩ ?_
      · exact HN7.out.trans ((boxed w7 _).mono HN7.out.size)
      · exact HN7.out.size
      · exact box_new w7 #[.slice gqa Q.globals.length gqc, .slice aq Q.procs.length kq] 46 1 _ rfl
      · exact fun j => by simp [go_sem]
      · exact SlAt.imp HSL7.out fun _ _ _ _ => PcF.mono (nf_le HBQ.out (boxed w7 _))
      rintro w8 ⟨hb8, hy8, hs8⟩
      obtain ⟨Y, hY⟩ : ∃ Y, Y = w7.heap.size := ⟨_, rfl⟩
      rw [← hY] at hy8
      try rw [← hY]
      have hle := Wri.start w6.heap.size w8
      revert hle hy8 hs8
      generalize nwF w6.heap.size w8 = C0
      intro hs8 hy8 hle
      have HY := Lib.hid hy8
      have HSL := Lib.hid hs8
      have Kw := Lib.hid hle
      have Bw := Lib.hid hb8
      clear hle hy8 hs8 hb8 HSL7 HBQ HN7
      have q1 := Wri.slice Kw.out HY.out
      have hqlb := HQL.out
      clear hY
      go_wp2_with fail
      go_loopw [24] (fun i wr => ∃ k : Nat, k ≤ Q.procs.length ∧ i = .int .i64 k ∧ Hid (Cs.le C0 (Wri w6.heap.size wr)) ∧ Hid (Below w6.heap.size w6 wr)) (fun i _ => (Q.procs.length - intOf i).toNat)
      case atStart => exact ⟨0, by omega, rfl, Kw, Bw⟩
      case round =>
        clear q1
        obtain ⟨k, hk, rfl, Ki, HBi⟩ := hrel
        obtain ⟨wi, hwwi⟩ : ∃ x : World, x = wr := ⟨_, rfl⟩
        subst hwwi
        by_cases ltk : k < Q.procs.length
        · have ltk' : (k : Int) < (Q.procs.length : Int) := by omega
          have h0k : (0 : Int) ≤ (k : Int) := by omega
          have hne1 : Q.procs ≠ [] := by intro h; rw [h] at ltk; simp at ltk
          obtain ⟨g1, off1, cap1, hv1, -, hc1⟩ := SlAt.cells HSL.out hne1
          simp only [Value.slice.injEq] at hv1
          obtain ⟨rfl, -, rfl⟩ := hv1
          have hat1 := hc1 k ltk
          obtain ⟨f, hf⟩ : ∃ f, Hid (Q.procs[k] = f) := ⟨_, Lib.hid rfl⟩
          rw [hf.out] at hat1
          obtain ⟨h0, pv, bv, h1, h3, hps, hbs⟩ := hat1
          obtain ⟨a1, c1, rfl, hp1, hp2⟩ := hps.form
          obtain ⟨a3, c3, rfl, hb1, hb2⟩ := hbs.form
          have hpll : f.params.length ≤ 9223372036854775807 := Nat.le_trans hp1 hp2
          have hbll : f.body.length ≤ 9223372036854775807 := Nat.le_trans hb1 hb2
          have H0 := Lib.hid h0
          have H1 := Lib.hid h1
          have H3 := Lib.hid h3
          have HPS := Lib.hid hps
          have HBS := Lib.hid hbs
          have q1 := Wri.slice Ki.out HY.out
          have c1 := Wri.slice Ki.out H1.out
          clear hc1 h0 h1 h3 hps hbs hne1 hp1 hp2 hb1 hb2
          go_wp2_with fail
          go_loopw [34] (fun i wr => ∃ r : Nat, r ≤ f.params.length ∧ i = .int .i64 r ∧ Hid (Cs.le C0 (Wri w6.heap.size wr)) ∧ Hid (Below w6.heap.size w6 wr)) (fun i _ => (f.params.length - intOf i).toNat)
          case atStart => exact ⟨0, by omega, rfl, Ki, HBi⟩
          case round =>
            obtain ⟨r, hr, rfl, Kr, Br⟩ := hrel
            obtain ⟨wq, hwwq⟩ : ∃ x : World, x = wr := ⟨_, rfl⟩
            subst hwwq
            by_cases ltr : r < f.params.length
            · have ltr' : (r : Int) < (f.params.length : Int) := by omega
              have h0r : (0 : Int) ≤ (r : Int) := by omega
              have hne2 : f.params ≠ [] := by intro h; rw [h] at ltr; simp at ltr
              obtain ⟨g2, off2, cap2, hv2, -, hc2⟩ := SlAt.cells HPS.out hne2
              simp only [Value.slice.injEq] at hv2
              obtain ⟨rfl, -, rfl⟩ := hv2
              have hat2 := hc2 r ltr
              have HS0 := Lib.hid hat2
              obtain ⟨tx, dx⟩ := Wri.text Kr.out HS0.out
              have fx := Wri.thaw Kr.out HS0.out
              have q1 := Wri.slice Kr.out HY.out
              have c1 := Wri.slice Kr.out H1.out
              clear hc2 hat2 hne2
              go_wp2_with fail
              go_roundw
              case rel => exact ⟨r + 1, by omega, by go_num, Lib.hid (Wri.put Kr.out HS0.out (by rfl)), Lib.hid (Br.out.setCell (p := ⟨_, _, none⟩) (Wri.low Kr.out HS0.out) _)⟩
              case measure => simp [intOf]; omega
            · have ltr' : ¬ (r : Int) < (f.params.length : Int) := by omega
              have q1 := Wri.slice Kr.out HY.out
              have c3 := Wri.slice Kr.out H3.out
              go_wp2_with fail
              go_loopw [54] (fun i wr => ∃ m : Nat, m ≤ f.body.length ∧ i = .int .i64 m ∧ Hid (Cs.le C0 (Wri w6.heap.size wr)) ∧ Hid (Below w6.heap.size w6 wr)) (fun i _ => (f.body.length - intOf i).toNat)
              case atStart => exact ⟨0, by omega, rfl, Kr, Br⟩
              case round =>
                obtain ⟨m, hm, rfl, Km, Bm⟩ := hrel
                obtain ⟨wm, hwwm⟩ : ∃ x : World, x = wr := ⟨_, rfl⟩
                subst hwwm
                by_cases ltm : m < f.body.length
                · have ltm' : (m : Int) < (f.body.length : Int) := by omega
                  have h0m : (0 : Int) ≤ (m : Int) := by omega
                  have hne3 : f.body ≠ [] := by intro h; rw [h] at ltm; simp at ltm
                  obtain ⟨g3, off3, cap3, hv3, -, hc3⟩ := SlAt.cells HBS.out hne3
                  simp only [Value.slice.injEq] at hv3
                  obtain ⟨rfl, -, rfl⟩ := hv3
                  have hat3 := hc3 m ltm
                  obtain ⟨s, hs⟩ : ∃ s, Hid (f.body[m] = s) := ⟨_, Lib.hid rfl⟩
                  rw [hs.out] at hat3
                  obtain ⟨hs1, av, hs10, has⟩ := hat3
                  obtain ⟨aa, ac, rfl, ha1, ha2⟩ := has.form
                  have hal : s.args.length ≤ 9223372036854775807 := Nat.le_trans ha1 ha2
                  have HS1 := Lib.hid hs1
                  have HSA := Lib.hid hs10
                  have HAS := Lib.hid has
                  obtain ⟨tk, dk⟩ := Wri.num Km.out HS1.out
                  have fk := Wri.thaw Km.out HS1.out
                  have q1 := Wri.slice Km.out HY.out
                  have c3 := Wri.slice Km.out H3.out
                  have K2 := Lib.hid (Wri.put (x := .int .i64 77) Km.out HS1.out (by rfl))
                  have B2 := Lib.hid (Bm.out.setCell (p := ⟨g3, off3 + m * 13 + 1, none⟩) (Wri.low Km.out HS1.out) (.int .i64 77))
                  clear hc3 hs1 hs10 has hne3 ha1 ha2
                  go_upto_region 21 with fail
                  refine cut_world (fun wx => Hid (Cs.le C0 (Wri w6.heap.size wx)) ∧ Hid (Below w6.heap.size w6 wx)) ⟨K2, B2⟩ ?_
                  clear K2 B2 dk fk q1 c3
                  rintro w9 ⟨K9, B9⟩
                  have q1 := Wri.slice K9.out HY.out
                  have c3 := Wri.slice K9.out H3.out
                  have s10 := Wri.slice K9.out HSA.out
                  go_wp2_with fail
                  go_loopw [77] (fun i wr => ∃ n : Nat, n ≤ s.args.length ∧ i = .int .i64 n ∧ Hid (Cs.le C0 (Wri w6.heap.size wr)) ∧ Hid (Below w6.heap.size w6 wr)) (fun i _ => (s.args.length - intOf i).toNat)
                  case atStart => exact ⟨0, by omega, rfl, K9, B9⟩
                  case round =>
                    obtain ⟨n, hn, rfl, Kn, Bn⟩ := hrel
                    obtain ⟨wn, hwwn⟩ : ∃ x : World, x = wr := ⟨_, rfl⟩
                    subst hwwn
                    by_cases ltn : n < s.args.length
                    · have ltn' : (n : Int) < (s.args.length : Int) := by omega
                      have h0n : (0 : Int) ≤ (n : Int) := by omega
                      have hne4 : s.args ≠ [] := by intro h; rw [h] at ltn; simp at ltn
                      obtain ⟨g4, off4, cap4, hv4, -, hc4⟩ := SlAt.cells HAS.out hne4
                      simp only [Value.slice.injEq] at hv4
                      obtain ⟨rfl, -, rfl⟩ := hv4
                      have hat4 := hc4 n ltn
                      have hs0 := hat4
                      have HS0 := Lib.hid hs0
                      obtain ⟨tx, dx⟩ := Wri.text Kn.out HS0.out
                      have fx := Wri.thaw Kn.out HS0.out
                      have q1 := Wri.slice Kn.out HY.out
                      have c3 := Wri.slice Kn.out H3.out
                      have s10 := Wri.slice Kn.out HSA.out
                      clear hc4 hat4 hs0 hne4
                      go_wp2_with fail
                      go_roundw
                      case rel => exact ⟨n + 1, by omega, by go_num, Lib.hid (Wri.put Kn.out HS0.out (by rfl)), Lib.hid (Bn.out.setCell (p := ⟨_, _, none⟩) (Wri.low Kn.out HS0.out) _)⟩
                      case measure => simp [intOf]; omega
                    · have ltn' : ¬ (n : Int) < (s.args.length : Int) := by omega
                      go_wp2_with fail
                      go_roundw
                      case rel => exact ⟨m + 1, by omega, by go_num, Kn, Bn⟩
                      case measure => simp [intOf]; omega
                · have ltm' : ¬ (m : Int) < (f.body.length : Int) := by omega
                  obtain ⟨tx, dx⟩ := Wri.text Km.out H0.out
                  have fx := Wri.thaw Km.out H0.out
                  have q1 := Wri.slice Km.out HY.out
                  go_wp2_with fail
                  go_roundw
                  case rel => exact ⟨k + 1, by omega, by go_num, Lib.hid (Wri.put Km.out H0.out (by rfl)), Lib.hid (Bm.out.setCell (p := ⟨_, _, none⟩) (Wri.low Km.out H0.out) _)⟩
                  case measure => simp [intOf]; omega
        · have ltk' : ¬ (k : Int) < (Q.procs.length : Int) := by omega
          clear HSL
          have HX9 := Lib.hid (HX6.out.next HBi.out)
          have HBC9 := Lib.hid (HBC6.out.next HBi.out)
          have p0 := HX9.out 0 _ rfl
          have p1 := HX9.out 1 _ rfl
          have c0 := HBC9.out 0 _ rfl
          have c1 := HBC9.out 1 _ rfl
          have HEQ : Hid (eqPr p p = true) := Lib.hid (eqPr_refl p)
          have HB9 := Lib.hid (HB6.out.trans (HBi.out.mono HB6.out.size))
          go_wp2_with fail
          refine (reqPr_any (d + 1) p p _ _ _ _ _ (PrC.mono (cw_next HBi.out) HP6.out) (PrC.mono (cw_next HBi.out) HPC6.out)).mono ?_
          rintro e w11 ⟨rfl, hb11⟩
          rw [HEQ.out]
          have HBZ := Lib.hid (HB9.out.trans (hb11.mono HB9.out.size))
          clear hb11
          go_wp2_with fail
          go_ret
          exact ⟨rfl, HBZ.out⟩
end Go.Proofs.Ytnbclbphggmenaa.Tr
