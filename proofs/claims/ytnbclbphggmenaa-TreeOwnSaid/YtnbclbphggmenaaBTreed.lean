/- What tree.May computes: may it be a program? Conditions: the program lies in memory.
   Plain: what is told of the small program Some. No program. Conditions: none.
   What treed answers: trees are known. Conditions: none. -/
import Derived.Test.YtnbclbphggmenaaBRows
import Derived.Test.YtnbclbphggmenaaBEqB
import Derived.Test.YtnbclbphggmenaaFindP
import Derived.Test.YtnbclbphggmenaaBSt
import Derived.Test.YtnbclbphggmenaaBGath
section
namespace Go.Proofs.Ytnbclbphggmenaa.Tr
open Go.RowKit Go.Proofs.Ytnbclbphggmenaa.Lx Go.Proofs.Ytnbclbphggmenaa.Wd
/-- May it be a procedure, behind so many statements? -/
def headPc (f : Pc) : Bool := decide (f.params.length ≤ 8) && decide (f.vars.length ≤ 16) && isName (bl f.nm) && namesB f.vars && namesB f.fin
def mayPc (n : Int) (f : Pc) : Bool := headPc f && f.params.all (fun a => isName (bl a.nm)) && rowsL 200 12 1 n f.body
def mayPs (n : Int) : List Pc → Bool
  | [] => true
  | f :: r => mayPc n f && mayPs (n + cntL f.body) r
def cntP (l : List Pc) : Nat := (l.map fun f => cntL f.body).sum
/-- May it be a program? -/
def mayP (p : Pr) : Bool := decide (p.globals.length ≤ 16) && decide (p.procs.length ≤ 16) && namesB p.globals && mayPs 0 p.procs
theorem mayPs_append : ∀ (l m : List Pc) (n : Int), mayPs n (l ++ m) = (mayPs n l && mayPs (n + cntP l) m) := by
  intro l
  induction l with
  | nil => intro m n; simp [mayPs, cntP]
  | cons f r ih =>
    intro m n
    have e : n + ((cntP (f :: r) : Nat) : Int) = n + cntL f.body + cntP r := by unfold cntP; rw [List.map_cons, List.sum_cons]; push_cast; omega
    rw [List.cons_append, mayPs, mayPs, ih, e]
    simp only [Bool.and_assoc]
theorem mayPs_no {l : List Pc} {k : Nat} (hk : k < l.length) {n : Int} (h : mayPc (n + cntP (l.take k)) l[k] = false) : mayPs n l = false := by
  have e : l = l.take k ++ l[k] :: l.drop (k + 1) := by rw [← List.drop_eq_getElem_cons hk, List.take_append_drop]
  rw [e, mayPs_append, mayPs, h, Bool.false_and, Bool.and_false]
theorem mayPs_yes {l : List Pc} {k : Nat} (hk : k < l.length) {n : Int} (h0 : mayPs n (l.take k) = true) (h : mayPc (n + cntP (l.take k)) l[k] = true) : mayPs n (l.take (k + 1)) = true := by
  rw [List.take_succ_eq_append_getElem hk, mayPs_append, h0, mayPs, h]
  rfl
theorem mayPs_most : ∀ (l : List Pc) (n : Int), mayPs n l = true → n ≤ 200 → n + cntP l ≤ 200 := by
  intro l
  induction l with
  | nil => intro n _ hn; simpa [cntP] using hn
  | cons f r ih =>
    intro n h hn
    rw [mayPs, Bool.and_eq_true] at h
    have h1 : rowsL 200 12 1 n f.body = true := by have := h.1; unfold mayPc at this; rw [Bool.and_eq_true] at this; exact this.2
    have h2 := ih _ h.2 (rows_most f.body 1 n h1 hn)
    have e : n + ((cntP (f :: r) : Nat) : Int) = n + cntL f.body + cntP r := by unfold cntP; rw [List.map_cons, List.sum_cons]; push_cast; omega
    rw [e]
    exact h2
set_option maxHeartbeats 8000000 in
set_option maxRecDepth 100000 in
theorem mayP_any (d : Nat) (p : Pr) (gv pv : Value) (w : World) (hp : PrC (cw w) d gv pv p) :
    Calls Try.prog 35 #[.agg #[gv, pv]] w fun e w' => e = .returned (.bool (mayP p)) ∧ Below w.heap.size w w' := by
  obtain ⟨ga, gc, rfl, -, -⟩ := hp.1.form
  obtain ⟨pa, pc, rfl, hc1, hc2⟩ := hp.2.form
  have hbox := boxed w (.cells #[.slice ga p.globals.length gc, .slice pa p.procs.length pc] 46)
  have HB := Lib.hid hbox
  have HP := Lib.hid (PrC.mono (cw_next hbox) hp)
  have HPW := Lib.hid hp
  obtain ⟨B, hB⟩ : ∃ B, Hid (mayP p = B) := ⟨_, Lib.hid rfl⟩
  rw [hB.out]
  clear hbox hp
  go_enter Try.func35, Try.ntmps35
  by_cases h1 : p.globals.length ≤ 16
  case neg =>
    have b1 : ((16 : Int) < (p.globals.length : Int)) = True := eq_true (by omega)
    have hz : B = false := by rw [← hB.out]; unfold mayP; rw [decide_eq_false h1]; rfl
    have HZ := Lib.hid hz
    clear hz
    go_wp2_with fail
    go_ret
    rw [HZ.out]
    exact ⟨rfl, HB.out⟩
  have b1 : ((16 : Int) < (p.globals.length : Int)) = False := eq_false (by omega)
  by_cases h2 : p.procs.length ≤ 16
  case neg =>
    have b2 : ((16 : Int) < (p.procs.length : Int)) = True := eq_true (by omega)
    have hz : B = false := by rw [← hB.out]; unfold mayP; rw [decide_eq_true h1, decide_eq_false h2]; rfl
    have HZ := Lib.hid hz
    clear hz
    go_wp2_with fail
    go_ret
    rw [HZ.out]
    exact ⟨rfl, HB.out⟩
  have b2 : ((16 : Int) < (p.procs.length : Int)) = False := eq_false (by omega)
  obtain ⟨c1, hcc1⟩ : ∃ c, Hid (namesB p.globals = c) := ⟨_, Lib.hid rfl⟩
  go_wp2_with fail
  refine (tnames_any p.globals _ _ (StrC.to HP.out.1)).mono ?_
  rintro e w' ⟨rfl, rfl⟩
  rw [hcc1.out]
  cases c1 with
  | false =>
    have hz : B = false := by rw [← hB.out]; unfold mayP; rw [hcc1.out, Bool.and_false, Bool.false_and]
    have HZ := Lib.hid hz
    clear hz
    go_wp2_with fail
    go_ret
    rw [HZ.out]
    exact ⟨rfl, HB.out⟩
  | true =>
    have hBe : B = mayPs 0 p.procs := by rw [← hB.out]; unfold mayP; rw [decide_eq_true h1, decide_eq_true h2, hcc1.out]; rfl
    have HBE := Lib.hid hBe
    clear hBe
    go_wp2_with fail
    go_loopw [29] (fun i wr => ∃ k : Nat, k ≤ p.procs.length ∧ i = .int .i64 k ∧ Below w.heap.size w wr ∧ w.heap.size + 1 < wr.heap.size ∧ Free wr (w.heap.size + 1) ∧ wr.cell? ⟨w.heap.size + 1, 0, none⟩ = some (.int .i64 (cntP (p.procs.take k))) ∧ mayPs 0 (p.procs.take k) = true) (fun i _ => (p.procs.length - intOf i).toNat)
    case atStart => exact ⟨0, by omega, rfl, HB.out.alloc (by simp) _, by simp, fun j => by simp [go_sem], by simp [go_sem, cntP], rfl⟩
    case round =>
      obtain ⟨w0, hw0⟩ : ∃ w0 : World, w0 = wr := ⟨_, rfl⟩
      subst hw0
      obtain ⟨k, hk, rfl, hbel, hsz, hfr, hcl, hma⟩ := hrel
      have HBEL := Lib.hid hbel
      have HFR := Lib.hid hfr
      have HCL := Lib.hid hcl
      have HMA := Lib.hid hma
      have hN200 := mayPs_most _ _ hma (by omega)
      obtain ⟨N, hN⟩ : ∃ N : Nat, Hid (cntP (p.procs.take k) = N) := ⟨_, Lib.hid rfl⟩
      rw [hN.out] at hcl hN200
      by_cases hlt : k < p.procs.length
      · have hlt' : (k : Int) < (p.procs.length : Int) := by omega
        have h0k : (0 : Int) ≤ (k : Int) := by omega
        have hne : p.procs ≠ [] := by intro h; rw [h] at hlt; simp at hlt
        have hle : Cs.le (cw w) (but (w.heap.size + 1) w0) := fun g j u h => ⟨by have := cell_lt h; omega, cell_next hbel h⟩
        obtain ⟨g, off, cap', hv, _, hcells⟩ := SlAt.cells (PrC.mono hle HPW.out).2 hne
        simp only [Value.slice.injEq] at hv
        obtain ⟨rfl, -, rfl⟩ := hv
        obtain ⟨qv1, vv1, bv1, fv1, p0, p1, p2, p3, p4, hnm, hq1, hv1, hb1, hf1⟩ := hcells k hlt
        obtain ⟨f, hf⟩ : ∃ f, Hid (p.procs[k] = f) := ⟨_, Lib.hid rfl⟩
        rw [hf.out] at p0 hnm hq1 hv1 hb1 hf1
        obtain ⟨qa1, qc1, rfl, -, -⟩ := hq1.form
        obtain ⟨va1, vc1, rfl, -, -⟩ := hv1.form
        obtain ⟨ba1, bc1, rfl, -, -⟩ := hb1.form
        obtain ⟨fa1, fc1, rfl, -, -⟩ := hf1.form
        have e0 : w0.cell? ⟨g, off + k * 5, none⟩ = _ := p0.2
        have e1 : w0.cell? ⟨g, off + k * 5 + 1, none⟩ = _ := p1.2
        have e2 : w0.cell? ⟨g, off + k * 5 + 2, none⟩ = _ := p2.2
        have e3 : w0.cell? ⟨g, off + k * 5 + 3, none⟩ = _ := p3.2
        have e4 : w0.cell? ⟨g, off + k * 5 + 4, none⟩ = _ := p4.2
        have hbx := boxed w0 (.cells #[.string f.nm, .slice qa1 f.params.length qc1, .slice va1 f.vars.length vc1, .slice ba1 f.body.length bc1, .slice fa1 f.fin.length fc1] 58)
        have HBX := Lib.hid hbx
        have HQ := Lib.hid (SlAt.imp hq1 fun _ _ _ _ => PaAt.mono (Cs.le_trans (but_next hbx) only_out))
        have HV := Lib.hid (StrC.to (StrC.mono (Cs.le_trans (but_next hbx) only_out) hv1))
        have HF := Lib.hid (StrC.to (StrC.mono (Cs.le_trans (but_next hbx) only_out) hf1))
        have HBD := Lib.hid (StC.mono (but_next hbx) hb1)
        have hcb := cell_next hbx hcl
        have HCB := Lib.hid hcb
        have HFB := Lib.hid (HFR.out.next (by omega) hbx)
        have HX := Lib.hid (box_new w0 #[.string f.nm, .slice qa1 f.params.length qc1, .slice va1 f.vars.length vc1, .slice ba1 f.body.length bc1, .slice fa1 f.fin.length fc1] 58)
        clear hcells p0 p1 p2 p3 p4 hq1 hv1 hb1 hf1 hne hle hbx hbel hfr hma hcb
        by_cases t1 : f.params.length ≤ 8
        case neg =>
          have b3 : ((8 : Int) < (f.params.length : Int)) = True := eq_true (by omega)
          have hz : B = false := by
            rw [HBE.out]
            refine mayPs_no hlt ?_
            rw [hf.out]
            unfold mayPc headPc
            simp [t1]
          have HZ := Lib.hid hz
          clear hz
          go_wp2_with fail
          go_ret
          rw [HZ.out]
          exact ⟨rfl, HBEL.out.trans (HBX.out.mono HBEL.out.size)⟩
        have b3 : ((8 : Int) < (f.params.length : Int)) = False := eq_false (by omega)
        by_cases t2 : f.vars.length ≤ 16
        case neg =>
          have b4 : ((16 : Int) < (f.vars.length : Int)) = True := eq_true (by omega)
          have hz : B = false := by
            rw [HBE.out]
            refine mayPs_no hlt ?_
            rw [hf.out]
            unfold mayPc headPc
            simp [t2]
          have HZ := Lib.hid hz
          clear hz
          go_wp2_with fail
          go_ret
          rw [HZ.out]
          exact ⟨rfl, HBEL.out.trans (HBX.out.mono HBEL.out.size)⟩
        have b4 : ((16 : Int) < (f.vars.length : Int)) = False := eq_false (by omega)
        obtain ⟨c2, hc2'⟩ : ∃ c, Hid (isName (bl f.nm) = c) := ⟨_, Lib.hid rfl⟩
        obtain ⟨c3, hc3⟩ : ∃ c, Hid (namesB f.vars = c) := ⟨_, Lib.hid rfl⟩
        obtain ⟨c4, hc4⟩ : ∃ c, Hid (namesB f.fin = c) := ⟨_, Lib.hid rfl⟩
        go_wp2_with fail
        refine (name_any f.nm _ hnm).mono ?_
        rintro e w' ⟨rfl, rfl⟩
        rw [hc2'.out]
        cases c2 with
        | false =>
          have hz : B = false := by
            rw [HBE.out]
            refine mayPs_no hlt ?_
            rw [hf.out]
            unfold mayPc headPc
            simp [hc2'.out]
          have HZ := Lib.hid hz
          clear hz
          go_wp2_with fail
          go_ret
          rw [HZ.out]
          exact ⟨rfl, HBEL.out.trans (HBX.out.mono HBEL.out.size)⟩
        | true =>
          go_wp2_with fail
          refine (tnames_any f.vars _ _ HV.out).mono ?_
          rintro e w' ⟨rfl, rfl⟩
          rw [hc3.out]
          cases c3 with
          | false =>
            have hz : B = false := by
              rw [HBE.out]
              refine mayPs_no hlt ?_
              rw [hf.out]
              unfold mayPc headPc
              simp [hc3.out]
            have HZ := Lib.hid hz
            clear hz
            go_wp2_with fail
            go_ret
            rw [HZ.out]
            exact ⟨rfl, HBEL.out.trans (HBX.out.mono HBEL.out.size)⟩
          | true =>
            go_wp2_with fail
            refine (tnames_any f.fin _ _ HF.out).mono ?_
            rintro e w' ⟨rfl, rfl⟩
            rw [hc4.out]
            cases c4 with
            | false =>
              have hz : B = false := by
                rw [HBE.out]
                refine mayPs_no hlt ?_
                rw [hf.out]
                unfold mayPc headPc
                simp [hc4.out]
              have HZ := Lib.hid hz
              clear hz
              go_wp2_with fail
              go_ret
              rw [HZ.out]
              exact ⟨rfl, HBEL.out.trans (HBX.out.mono HBEL.out.size)⟩
            | true =>
              go_wp2_with fail
              go_loopw [64] (fun i wr => ∃ q : Nat, q ≤ f.params.length ∧ i = .int .i64 q ∧ Below (w0.alloc (.cells #[.string f.nm, .slice qa1 f.params.length qc1, .slice va1 f.vars.length vc1, .slice ba1 f.body.length bc1, .slice fa1 f.fin.length fc1] 58)).heap.size (w0.alloc (.cells #[.string f.nm, .slice qa1 f.params.length qc1, .slice va1 f.vars.length vc1, .slice ba1 f.body.length bc1, .slice fa1 f.fin.length fc1] 58)) wr ∧ (f.params.take q).all (fun a => isName (bl a.nm)) = true) (fun i _ => (f.params.length - intOf i).toNat)
              case atStart => exact ⟨0, by omega, rfl, Below.refl _ _, rfl⟩
              case round =>
                obtain ⟨q, hq, rfl, hbi, hal⟩ := hrel
                have HBI := Lib.hid hbi
                have HAL := Lib.hid hal
                by_cases hqt : q < f.params.length
                · have hqt' : (q : Int) < (f.params.length : Int) := by omega
                  have hne2 : f.params ≠ [] := by intro h; rw [h] at hqt; simp at hqt
                  obtain ⟨g2, off2, cap2, hv2, _, hcells2⟩ := SlAt.cells (SlAt.imp HQ.out fun _ _ _ _ => PaAt.mono (cw_next hbi)) hne2
                  simp only [Value.slice.injEq] at hv2
                  obtain ⟨rfl, -, rfl⟩ := hv2
                  obtain ⟨r0, r1, hsz2⟩ := hcells2 q hqt
                  obtain ⟨pr, hpr⟩ : ∃ pr, Hid (f.params[q] = pr) := ⟨_, Lib.hid rfl⟩
                  rw [hpr.out] at r0 r1 hsz2
                  have d0 : wr.cell? ⟨g2, off2 + q * 2, none⟩ = _ := r0
                  have d1 : wr.cell? ⟨g2, off2 + q * 2 + 1, none⟩ = _ := r1
                  clear hcells2 r0 r1 hne2 hbi hal
                  obtain ⟨c5, hc5⟩ : ∃ c, Hid (isName (bl pr.nm) = c) := ⟨_, Lib.hid rfl⟩
                  have HPB := Lib.hid (HBI.out.trans ((boxed wr (.cells #[.string pr.nm, .bool pr.ref] 78)).mono HBI.out.size))
                  go_wp2_with fail
                  refine (name_any pr.nm _ hsz2).mono ?_
                  rintro e w' ⟨rfl, rfl⟩
                  rw [hc5.out]
                  cases c5 with
                  | true =>
                    go_wp2_with fail
                    go_roundw
                    case rel => exact ⟨q + 1, by omega, by go_num, HPB.out, all_take _ _ hqt HAL.out (by rw [hpr.out]; exact hc5.out)⟩
                    case measure => simp [intOf]; omega
                  | false =>
                    have hno := all_no (fun a : Pa => isName (bl a.nm)) _ hqt (by rw [hpr.out]; exact hc5.out)
                    have HNO := Lib.hid hno
                    clear hno
                    have hz : B = false := by
                      rw [HBE.out]
                      refine mayPs_no hlt ?_
                      rw [hf.out]
                      unfold mayPc
                      rw [HNO.out, Bool.and_false, Bool.false_and]
                    have HZ := Lib.hid hz
                    clear hz
                    go_wp2_with fail
                    go_ret
                    rw [HZ.out]
                    exact ⟨rfl, HBEL.out.trans ((HBX.out.trans (HPB.out.mono HBX.out.size)).mono HBEL.out.size)⟩
                · have hqt' : ¬ (q : Int) < (f.params.length : Int) := by omega
                  have hall : f.params.all (fun a => isName (bl a.nm)) = true := by have := HAL.out; rwa [List.take_of_length_le (by omega)] at this
                  have HALL := Lib.hid hall
                  have hX := HX.out.next HBI.out
                  have s3 := hX 3 _ rfl
                  have hcc := cell_next HBI.out HCB.out
                  have HFI := Lib.hid (HFB.out.next (by simp; omega) HBI.out)
                  have HBDI := Lib.hid (StC.mono (but_next HBI.out) HBD.out)
                  obtain ⟨c6, hc6⟩ : ∃ c, Hid (rowsL 200 12 1 N f.body = c) := ⟨_, Lib.hid rfl⟩
                  have HCH := Lib.hid (HBEL.out.trans ((HBX.out.trans (HBI.out.mono HBX.out.size)).mono HBEL.out.size))
                  have hszr := HBI.out.size
                  simp only [World.size_alloc] at hszr
                  clear hall hX hbi hal
                  go_wp2_with fail
                  refine (rows_any (w.heap.size + 1) d f.body _ 1 N _ HBDI.out hcc HFI.out (by omega) (by omega) (by omega) (by omega)).mono ?_
                  rintro e w5 ⟨rfl, hg5, hf5, hc5⟩
                  rw [hc6.out] at hc5 ⊢
                  have HB5 := Lib.hid (HCH.out.grown hg5 (by omega) fun z hz => by have := Option.some.inj hz; omega)
                  have HF5 := Lib.hid hf5
                  have hs5 := hg5.size
                  clear hg5 hf5 hcc
                  cases c6 with
                  | false =>
                    have hz : B = false := by
                      rw [HBE.out]
                      refine mayPs_no hlt ?_
                      rw [hf.out, hN.out]
                      unfold mayPc
                      rw [Int.zero_add, hc6.out, Bool.and_false]
                    have HZ := Lib.hid hz
                    clear hz
                    go_wp2_with fail
                    go_ret
                    rw [HZ.out]
                    exact ⟨rfl, HB5.out⟩
                  | true =>
                    have HC5 := Lib.hid (hc5 rfl)
                    clear hc5
                    go_wp2_with fail
                    go_roundw
                    case rel =>
                      refine ⟨k + 1, by omega, by go_num, HB5.out, by omega, HF5.out, ?_, mayPs_yes hlt HMA.out ?_⟩
                      · have e : ((cntP (p.procs.take (k + 1)) : Nat) : Int) = N + cntL f.body := by
                          rw [← hN.out, List.take_succ_eq_append_getElem hlt, hf.out]
                          unfold cntP
                          rw [List.map_append, List.sum_append]
                          simp
                        rw [e]
                        exact HC5.out
                      · rw [hf.out, hN.out]
                        unfold mayPc headPc
                        rw [Int.zero_add, hc6.out, HALL.out, hc2'.out, hc3.out, hc4.out, decide_eq_true t1, decide_eq_true t2]
                        rfl
                    case measure => simp [intOf]; omega
      · have hlt' : ¬ (k : Int) < (p.procs.length : Int) := by omega
        have hz : B = true := by rw [HBE.out]; have := HMA.out; rwa [List.take_of_length_le (by omega)] at this
        have HZ := Lib.hid hz
        clear hz hbel hfr hcl hma
        go_wp2_with fail
        go_ret
        rw [HZ.out]
        exact ⟨rfl, HBEL.out⟩
end Go.Proofs.Ytnbclbphggmenaa.Tr
end
section
namespace Go.Proofs.Ytnbclbphggmenaa.Tr
open Go.RowKit Go.Proofs.Ytnbclbphggmenaa.Lx Go.Proofs.Ytnbclbphggmenaa.Wd
theorem some_may : mayP someP = true := by kernel_rfl
theorem some_count : wrap64 (someP.procs.map fun f => cntL f.body).sum = 8 := by kernel_rfl
theorem some_eq : eqPr someP someP = true := by kernel_rfl
theorem some_names : namesOf some5X = [sY, sX] := by kernel_rfl
theorem some_light : ∀ f ∈ someP.procs, wtL f.body ≤ 20000 := by
  intro f hf
  simp only [someP, List.mem_cons, List.not_mem_nil, or_false] at hf
  rcases hf with rfl | rfl <;> exact of_decide_eq_true (by kernel_rfl)
theorem some_find : (findP 7 someP.procs).map (fun q => (q.1, q.2.kind, q.2.nm)) = some (sP, 10, sE) := by kernel_rfl
end Go.Proofs.Ytnbclbphggmenaa.Tr
end
section
namespace Go.Proofs.Ytnbclbphggmenaa.Tr
open Go.RowKit Go.Proofs.Ytnbclbphggmenaa.Lx Go.Proofs.Ytnbclbphggmenaa.Wd
theorem some_find2 : findP 7 someP.procs = some (sP, .mk 7 10 [] sE noT eNone false [] [] []) := by kernel_rfl
theorem none_names : namesOf eNone = [] := by kernel_rfl
theorem sl_cell {w : World} {v : Value} {l : List ByteArray} (h : StrsAt w v l) (hne : l ≠ []) : ∃ g off cap, v = .slice (some ⟨g, off, none⟩) l.length cap ∧ l.length ≤ cap ∧ cap ≤ 9223372036854775807 ∧ ∀ i (h : i < l.length), w.cell? ⟨g, off + i, none⟩ = some (.string l[i]) := by
  obtain ⟨a, cap, h1, h2, h3, h4⟩ := h
  obtain ⟨g, off, rfl, h6⟩ := h4 hne
  exact ⟨g, off, cap, h1, h2, h3, fun i hi => (h6 i hi).2⟩
set_option maxHeartbeats 4000000 in
set_option maxRecDepth 100000 in
theorem treed_any (w : World) : Calls Try.prog 30 #[] w fun e w' => e = .returned (.bool true) ∧ Below w.heap.size w w' := by
  go_enter Try.func30, Try.ntmps30
  go_wp2_with fail
  refine (some_any _).mono ?_
  rintro e w1 ⟨gv, pv, rfl, hp, hb1⟩
  have HP := Lib.hid hp
  have HB := Lib.hid hb1
  obtain ⟨ga, gc, rfl, -, -⟩ := hp.1.form
  obtain ⟨g, off, cap, rfl, hcap, -⟩ := hp.2.cells (by intro h; cases h)
  clear hp hb1
  go_wp2_with fail
  have hx1 := boxed w1 (.cells #[.slice ga someP.globals.length gc, .slice (some ⟨g, off, none⟩) someP.procs.length cap] 46)
  refine (findP_any 3 someP _ _ 7 _ (PrC.mono (cw_next hx1) HP.out) some_light).mono ?_
  rw [some_find2]
  rintro e w2 ⟨c, rfl, ⟨kv, lv, av, tv, ev, rfl, ok2, hk2, -, -, -, -, hlv, hav, htv, hev⟩, hb2⟩
  obtain ⟨la, lc, rfl, -, -⟩ := hlv.form
  obtain ⟨aa, ac, rfl, -, -⟩ := hav.form
  obtain ⟨ta, tc, rfl, -, -⟩ := htv.form
  obtain ⟨ea, ec, rfl, -, -⟩ := hev.form
  obtain ⟨ka, kc, rfl, -, -⟩ := hk2.form
  have p0 := cell_next (g := w1.heap.size) (j := 0) (u := .slice ga someP.globals.length gc) hb2 (by simp [go_sem])
  have p1 := cell_next (g := w1.heap.size) (j := 1) (u := .slice (some ⟨g, off, none⟩) someP.procs.length cap) hb2 (by simp [go_sem])
  have HX := Lib.hid (hx1.trans (hb2.mono hx1.size))
  replace HP := Lib.hid (PrC.mono (cw_next HX.out) HP.out)
  replace HB := Lib.hid (HB.out.trans (HX.out.mono HB.out.size))
  have HK : Hid (ExK 3 w2 (.slice ka eNone.ks.length kc) eNone.ks) := Lib.hid (ExC.to (ExC.mono (fun _ _ _ h => h.2) hk2))
  clear hb2 hx1 hk2 ok2 HX hlv hav htv hev
  unfold stCells
  simp only [St.id, St.kind, St.nm, St.proc, St.x, St.has, St.args, St.thn, St.els, St.labels]
  go_wp2_with fail
  have hbox := boxed w2 (.cells #[.int .i64 7, .int .i64 10, .slice la 0 lc, .string sE, .string noT, .int .i64 eNone.op, .int .i64 eNone.n, .string eNone.nm, .slice ka eNone.ks.length kc, .bool false, .slice aa 0 ac, .slice ta 0 tc, .slice ea 0 ec] 53)
  refine (names_any 3 eNone _ _ okNone (HK.out.next hbox)).mono ?_
  rw [none_names]
  rintro e w3 ⟨v3, rfl, hr3, hb3⟩
  obtain ⟨na, nc, rfl⟩ := ownsForm hr3.1
  have q1 := cell_next (g := w2.heap.size) (j := 1) (u := .int .i64 10) hb3 (by simp [go_sem])
  have q3 := cell_next (g := w2.heap.size) (j := 3) (u := .string sE) hb3 (by simp [go_sem])
  have HX := Lib.hid (hbox.trans (hb3.mono hbox.size))
  replace p0 := cell_next HX.out p0
  replace p1 := cell_next HX.out p1
  replace HP := Lib.hid (PrC.mono (cw_next HX.out) HP.out)
  replace HB := Lib.hid (HB.out.trans (HX.out.mono HB.out.size))
  clear hbox hb3 hr3 HX HK
  obtain ⟨g', off', cap', hge, -, hcs⟩ := HP.out.2.cells (by intro h; cases h)
  obtain ⟨⟨rfl, rfl⟩, rfl⟩ : (g = g' ∧ off = off') ∧ cap = cap' := by injection hge with h1 h2 h3; injection h1 with h1; injection h1 with h1 h4; exact ⟨⟨h1, h4⟩, h3⟩
  obtain ⟨pv1, vv1, bv1, fv1, -, -, -, c3, -, -, -, -, hbody, -⟩ := hcs 1 (by decide)
  obtain ⟨g2, off2, cap2, rfl, hcap2, hc2⟩ := SlAt.cells hbody (by intro h; cases h)
  obtain ⟨lv, av, tv, ev, -, -, -, -, -, ⟨kv, x0, x1, x2, x3, hok, hk⟩, -⟩ := hc2 0 (by decide)
  have d3' : w3.cell? ⟨g, off + 8, none⟩ = some (.slice (some ⟨g2, off2, none⟩) 3 cap2) := c3
  have e0 : w3.cell? ⟨g2, off2 + 5, none⟩ = some (.int .i64 8) := x0
  have e1 : w3.cell? ⟨g2, off2 + 6, none⟩ = some (.int .i64 0) := x1
  have e2 : w3.cell? ⟨g2, off2 + 7, none⟩ = some (.string ⟨#[]⟩) := x2
  have e3 : w3.cell? ⟨g2, off2 + 8, none⟩ = some kv := x3
  obtain ⟨ka, kc, rfl, -, -⟩ := SlAt.form hk
  have HK := Lib.hid (ExC.to (d := 2) (l := some5X.ks) hk)
  have hl : someP.procs.length = 2 := rfl
  have hl2 : someP.globals.length = 1 := rfl
  rw [hl, hl2] at *
  clear hcs c3 hbody hc2 x0 x1 x2 x3 hok hk hcap hcap2 hl hl2 hge
  go_wp2_with fail
  refine (names_any 2 some5X (.slice ka some5X.ks.length kc) _ (okTwo _ _ _ (in1 (by omega))) HK.out).mono ?_
  rw [some_names]
  rintro e w4 ⟨v4, rfl, hr4, hb4⟩
  obtain ⟨ma, mc, rfl⟩ := ownsForm hr4.1
  have HM := Lib.hid (hr4.strs (by decide))
  clear hr4
  replace p0 := cell_next hb4 p0
  replace p1 := cell_next hb4 p1
  replace q1 := cell_next hb4 q1
  replace q3 := cell_next hb4 q3
  replace HP := Lib.hid (PrC.mono (cw_next hb4) HP.out)
  replace HB := Lib.hid (HB.out.trans (hb4.mono HB.out.size))
  clear hb4 HK d3' e0 e1 e2 e3
  go_wp2_with fail
  refine (mayP_any 3 someP _ _ _ HP.out).mono ?_
  rw [some_may]
  rintro e w5 ⟨rfl, hb⟩
  replace p0 := cell_next hb p0
  replace p1 := cell_next hb p1
  replace q1 := cell_next hb q1
  replace q3 := cell_next hb q3
  replace HM := Lib.hid (HM.out.next hb)
  replace HP := Lib.hid (PrC.mono (cw_next hb) HP.out)
  replace HB := Lib.hid (HB.out.trans (hb.mono HB.out.size))
  clear hb
  go_wp2_with fail
  refine (countP_any 3 someP _ _ _ HP.out).mono ?_
  rw [some_count]
  rintro e w6 ⟨rfl, hb⟩
  replace p0 := cell_next hb p0
  replace p1 := cell_next hb p1
  replace q1 := cell_next hb q1
  replace q3 := cell_next hb q3
  replace HM := Lib.hid (HM.out.next hb)
  replace HP := Lib.hid (PrC.mono (cw_next hb) HP.out)
  replace HB := Lib.hid (HB.out.trans (hb.mono HB.out.size))
  clear hb
  obtain ⟨mg, mo, mc', hme, -, -, hmc⟩ := sl_cell HM.out (by intro h; cases h)
  have m0 : w6.cell? ⟨mg, mo, none⟩ = some (.string sY) := hmc 0 (by decide)
  have m1 : w6.cell? ⟨mg, mo + 1, none⟩ = some (.string sX) := hmc 1 (by decide)
  injection hme with h1 h2 h3
  subst h1 h3
  clear hmc h2 HM
  have t1 : (sP.toList == [112]) = true := by kernel_rfl
  have t2 : (sE.toList == [101]) = true := by kernel_rfl
  have t3 : (sY.toList == [121]) = true := by kernel_rfl
  have t4 : (sX.toList == [120]) = true := by kernel_rfl
  go_wp2_with fail
  refine (eqPr_any 3 someP someP _ _ _ _ _ HP.out HP.out).mono ?_
  rw [some_eq]
  rintro e w7 ⟨rfl, hb⟩
  replace HB := Lib.hid (HB.out.trans (hb.mono HB.out.size))
  clear hb
  go_wp2_with fail
  go_ret
  exact ⟨rfl, HB.out⟩
end Go.Proofs.Ytnbclbphggmenaa.Tr
end
