/- Parts of BTreed, FindL, ScopeP: walks and plain laws that later texts use. Conditions: as each statement says. -/
import Derived.Test.YtghlmengcidmdaaJa0
import Derived.Test.YtghlmengcidmdaaJa1
import Derived.Test.YtghlmengcidmdaaJa2
import Derived.Test.YtghlmengcidmdaaJa3
import Derived.Test.YtghlmengcidmdaaJa4
import Derived.Test.YtghlmengcidmdaaJa5
import Derived.Test.YtghlmengcidmdaaJa6
import Derived.Deep.RegionHeld3
import Derived.Deep.QuietTactic
import Derived.BigQuiet
import Derived.Deep.DeepCutAuto
import Derived.Deep.CutBlock
import Derived.WalkKit
import Derived.Test.YtghlmengcidmdaaRows
import Derived.WalkSpells
import Derived.Lib.Hide
import Derived.Below
import Derived.WalkSmall
import Derived.IntWalk
import Derived.StillTailTactics
import Derived.Deep.RegionLaw
import Derived.RegionTactic
import Derived.Laws.BitsAllLaws
import Derived.Outline
import Derived.Laws.StructEq
import Derived.OwnWalk
import Derived.OneCell
import Derived.Deep.AppendLies
import Derived.Maps.Range
import Derived.Lib.SmallJoins
import Derived.Deep.Upon
import Derived.Maps.AppendAt
import Derived.Laws.OwnMore
import Derived.Deep.RegionWith
import Derived.Laws.Cover3
import Derived.Deep.Slices
import Derived.Deep.Fields
import Derived.SliceStrings
import Derived.ChangeSlices
section
/- What tree.May computes: may it be a program? Conditions: the program lies in memory.
   Plain: what is told of the small program Some. No program. Conditions: none.
   What treed answers: trees are known. Conditions: none. -/
section
namespace Go.Proofs.Ytghlmengcidmdaa.Tr
open Go.RowKit Go.Proofs.Ytghlmengcidmdaa.Lx Go.Proofs.Ytghlmengcidmdaa.Wd
/-- May it be a procedure, behind so many statements? -/
def headPc (f : Pc) : Bool := decide (f.params.length ≤ 8) && decide (f.vars.length ≤ 16) && isName (bl f.nm) && namesB f.vars && namesB f.fin
def mayPc (n : Int) (f : Pc) : Bool := headPc f && f.params.all (fun a => isName (bl a.nm)) && rowsL 200 12 1 n f.body
def mayPs (n : Int) : List Pc → Bool
  | [] => true
  | f :: r => mayPc n f && mayPs (n + cntL f.body) r
def cntP (l : List Pc) : Nat := (l.map fun f => cntL f.body).sum
/-- May it be a program? -/
def mayP (p : Pr) : Bool := decide (p.globals.length ≤ 16) && decide (p.procs.length ≤ 16) && namesB p.globals && mayPs 0 p.procs
theorem mayPs_append : ∀ (l m : List Pc) (n : Int), mayPs n (l ++ m) = (mayPs n l && mayPs (n + cntP l) m) := by
  intro l
  induction l with
  | nil => intro m n; simp [mayPs, cntP]
  | cons f r ih =>
    intro m n
    have e : n + ((cntP (f :: r) : Nat) : Int) = n + cntL f.body + cntP r := by unfold cntP; rw [List.map_cons, List.sum_cons]; push_cast; omega
    rw [List.cons_append, mayPs, mayPs, ih, e]
    simp only [Bool.and_assoc]
theorem mayPs_no {l : List Pc} {k : Nat} (hk : k < l.length) {n : Int} (h : mayPc (n + cntP (l.take k)) l[k] = false) : mayPs n l = false := by
  have e : l = l.take k ++ l[k] :: l.drop (k + 1) := by rw [← List.drop_eq_getElem_cons hk, List.take_append_drop]
  rw [e, mayPs_append, mayPs, h, Bool.false_and, Bool.and_false]
theorem mayPs_yes {l : List Pc} {k : Nat} (hk : k < l.length) {n : Int} (h0 : mayPs n (l.take k) = true) (h : mayPc (n + cntP (l.take k)) l[k] = true) : mayPs n (l.take (k + 1)) = true := by
  rw [List.take_succ_eq_append_getElem hk, mayPs_append, h0, mayPs, h]
  rfl
theorem mayPs_most : ∀ (l : List Pc) (n : Int), mayPs n l = true → n ≤ 200 → n + cntP l ≤ 200 := by
  intro l
  induction l with
  | nil => intro n _ hn; simpa [cntP] using hn
  | cons f r ih =>
    intro n h hn
    rw [mayPs, Bool.and_eq_true] at h
    have h1 : rowsL 200 12 1 n f.body = true := by have := h.1; unfold mayPc at this; rw [Bool.and_eq_true] at this; exact this.2
    have h2 := ih _ h.2 (rows_most f.body 1 n h1 hn)
    have e : n + ((cntP (f :: r) : Nat) : Int) = n + cntL f.body + cntP r := by unfold cntP; rw [List.map_cons, List.sum_cons]; push_cast; omega
    rw [e]
    exact h2
set_option maxHeartbeats 8000000 in
set_option maxRecDepth 100000 in
theorem mayP_any (d : Nat) (p : Pr) (gv pv : Value) (w : World) (hp : PrC (cw w) d gv pv p) :
    Calls Try.prog 20 #[.agg #[gv, pv]] w fun e w' => e = .returned (.bool (mayP p)) ∧ Below w.heap.size w w' := by
  obtain ⟨ga, gc, rfl, -, -⟩ := hp.1.form
  obtain ⟨pa, pc, rfl, hc1, hc2⟩ := hp.2.form
  have hbox := boxed w (.cells #[.slice ga p.globals.length gc, .slice pa p.procs.length pc] 25)
  have HB := Lib.hid hbox
  have HP := Lib.hid (PrC.mono (cw_next hbox) hp)
  have HPW := Lib.hid hp
  obtain ⟨B, hB⟩ : ∃ B, Hid (mayP p = B) := ⟨_, Lib.hid rfl⟩
  rw [hB.out]
  clear hbox hp
  go_enter Try.func20, Try.ntmps20
  by_cases h1 : p.globals.length ≤ 16
  case neg =>
    have b1 : ((16 : Int) < (p.globals.length : Int)) = True := eq_true (by omega)
    have hz : B = false := by rw [← hB.out]; unfold mayP; rw [decide_eq_false h1]; rfl
    have HZ := Lib.hid hz
    clear hz
    go_wp2_with fail
    go_ret
    rw [HZ.out]
    exact ⟨rfl, HB.out⟩
  have b1 : ((16 : Int) < (p.globals.length : Int)) = False := eq_false (by omega)
  by_cases h2 : p.procs.length ≤ 16
  case neg =>
    have b2 : ((16 : Int) < (p.procs.length : Int)) = True := eq_true (by omega)
    have hz : B = false := by rw [← hB.out]; unfold mayP; rw [decide_eq_true h1, decide_eq_false h2]; rfl
    have HZ := Lib.hid hz
    clear hz
    go_wp2_with fail
    go_ret
    rw [HZ.out]
    exact ⟨rfl, HB.out⟩
  have b2 : ((16 : Int) < (p.procs.length : Int)) = False := eq_false (by omega)
  obtain ⟨c1, hcc1⟩ : ∃ c, Hid (namesB p.globals = c) := ⟨_, Lib.hid rfl⟩
  go_wp2_with fail
  refine (tnames_any p.globals _ _ (StrC.to HP.out.1)).mono ?_
  rintro e w' ⟨rfl, rfl⟩
  rw [hcc1.out]
  cases c1 with
  | false =>
    have hz : B = false := by rw [← hB.out]; unfold mayP; rw [hcc1.out, Bool.and_false, Bool.false_and]
    have HZ := Lib.hid hz
    clear hz
    go_wp2_with fail
    go_ret
    rw [HZ.out]
    exact ⟨rfl, HB.out⟩
  | true =>
    have hBe : B = mayPs 0 p.procs := by rw [← hB.out]; unfold mayP; rw [decide_eq_true h1, decide_eq_true h2, hcc1.out]; rfl
    have HBE := Lib.hid hBe
    clear hBe
    go_wp2_with fail
    go_loopw [29] (fun i wr => ∃ k : Nat, k ≤ p.procs.length ∧ i = .int .i64 k ∧ Below w.heap.size w wr ∧ w.heap.size + 1 < wr.heap.size ∧ Free wr (w.heap.size + 1) ∧ wr.cell? ⟨w.heap.size + 1, 0, none⟩ = some (.int .i64 (cntP (p.procs.take k))) ∧ mayPs 0 (p.procs.take k) = true) (fun i _ => (p.procs.length - intOf i).toNat)
    case atStart => exact ⟨0, by omega, rfl, HB.out.alloc (by simp) _, by simp, fun j => by simp [go_sem], by simp [go_sem, cntP], rfl⟩
    case round =>
      obtain ⟨w0, hw0⟩ : ∃ w0 : World, w0 = wr := ⟨_, rfl⟩
      subst hw0
      obtain ⟨k, hk, rfl, hbel, hsz, hfr, hcl, hma⟩ := hrel
      have HBEL := Lib.hid hbel
      have HFR := Lib.hid hfr
      have HCL := Lib.hid hcl
      have HMA := Lib.hid hma
      have hN200 := mayPs_most _ _ hma (by omega)
      obtain ⟨N, hN⟩ : ∃ N : Nat, Hid (cntP (p.procs.take k) = N) := ⟨_, Lib.hid rfl⟩
      rw [hN.out] at hcl hN200
      by_cases hlt : k < p.procs.length
      · have hlt' : (k : Int) < (p.procs.length : Int) := by omega
        have h0k : (0 : Int) ≤ (k : Int) := by omega
        have hne : p.procs ≠ [] := by intro h; rw [h] at hlt; simp at hlt
        have hle : Cs.le (cw w) (but (w.heap.size + 1) w0) := fun g j u h => ⟨by have := cell_lt h; omega, cell_next hbel h⟩
        obtain ⟨g, off, cap', hv, _, hcells⟩ := SlAt.cells (PrC.mono hle HPW.out).2 hne
        simp only [Value.slice.injEq] at hv
        obtain ⟨rfl, -, rfl⟩ := hv
        obtain ⟨qv1, vv1, bv1, fv1, p0, p1, p2, p3, p4, hnm, hq1, hv1, hb1, hf1⟩ := hcells k hlt
        obtain ⟨f, hf⟩ : ∃ f, Hid (p.procs[k] = f) := ⟨_, Lib.hid rfl⟩
        rw [hf.out] at p0 hnm hq1 hv1 hb1 hf1
        obtain ⟨qa1, qc1, rfl, -, -⟩ := hq1.form
        obtain ⟨va1, vc1, rfl, -, -⟩ := hv1.form
        obtain ⟨ba1, bc1, rfl, -, -⟩ := hb1.form
        obtain ⟨fa1, fc1, rfl, -, -⟩ := hf1.form
        have e0 : w0.cell? ⟨g, off + k * 5, none⟩ = _ := p0.2
        have e1 : w0.cell? ⟨g, off + k * 5 + 1, none⟩ = _ := p1.2
        have e2 : w0.cell? ⟨g, off + k * 5 + 2, none⟩ = _ := p2.2
        have e3 : w0.cell? ⟨g, off + k * 5 + 3, none⟩ = _ := p3.2
        have e4 : w0.cell? ⟨g, off + k * 5 + 4, none⟩ = _ := p4.2
        have hbx := boxed w0 (.cells #[.string f.nm, .slice qa1 f.params.length qc1, .slice va1 f.vars.length vc1, .slice ba1 f.body.length bc1, .slice fa1 f.fin.length fc1] 55)
        have HBX := Lib.hid hbx
        have HQ := Lib.hid (SlAt.imp hq1 fun _ _ _ _ => PaAt.mono (Cs.le_trans (but_next hbx) only_out))
        have HV := Lib.hid (StrC.to (StrC.mono (Cs.le_trans (but_next hbx) only_out) hv1))
        have HF := Lib.hid (StrC.to (StrC.mono (Cs.le_trans (but_next hbx) only_out) hf1))
        have HBD := Lib.hid (StC.mono (but_next hbx) hb1)
        have hcb := cell_next hbx hcl
        have HCB := Lib.hid hcb
        have HFB := Lib.hid (HFR.out.next (by omega) hbx)
        have HX := Lib.hid (box_new w0 #[.string f.nm, .slice qa1 f.params.length qc1, .slice va1 f.vars.length vc1, .slice ba1 f.body.length bc1, .slice fa1 f.fin.length fc1] 55)
        clear hcells p0 p1 p2 p3 p4 hq1 hv1 hb1 hf1 hne hle hbx hbel hfr hma hcb
        by_cases t1 : f.params.length ≤ 8
        case neg =>
          have b3 : ((8 : Int) < (f.params.length : Int)) = True := eq_true (by omega)
          have hz : B = false := by
            rw [HBE.out]
            refine mayPs_no hlt ?_
            rw [hf.out]
            unfold mayPc headPc
            simp [t1]
          have HZ := Lib.hid hz
          clear hz
          go_wp2_with fail
          go_ret
          rw [HZ.out]
          exact ⟨rfl, HBEL.out.trans (HBX.out.mono HBEL.out.size)⟩
        have b3 : ((8 : Int) < (f.params.length : Int)) = False := eq_false (by omega)
        by_cases t2 : f.vars.length ≤ 16
        case neg =>
          have b4 : ((16 : Int) < (f.vars.length : Int)) = True := eq_true (by omega)
          have hz : B = false := by
            rw [HBE.out]
            refine mayPs_no hlt ?_
            rw [hf.out]
            unfold mayPc headPc
            simp [t2]
          have HZ := Lib.hid hz
          clear hz
          go_wp2_with fail
          go_ret
          rw [HZ.out]
          exact ⟨rfl, HBEL.out.trans (HBX.out.mono HBEL.out.size)⟩
        have b4 : ((16 : Int) < (f.vars.length : Int)) = False := eq_false (by omega)
        obtain ⟨c2, hc2'⟩ : ∃ c, Hid (isName (bl f.nm) = c) := ⟨_, Lib.hid rfl⟩
        obtain ⟨c3, hc3⟩ : ∃ c, Hid (namesB f.vars = c) := ⟨_, Lib.hid rfl⟩
        obtain ⟨c4, hc4⟩ : ∃ c, Hid (namesB f.fin = c) := ⟨_, Lib.hid rfl⟩
        go_wp2_with fail
        refine (name_any f.nm _ hnm).mono ?_
        rintro e w' ⟨rfl, rfl⟩
        rw [hc2'.out]
        cases c2 with
        | false =>
          have hz : B = false := by
            rw [HBE.out]
            refine mayPs_no hlt ?_
            rw [hf.out]
            unfold mayPc headPc
            simp [hc2'.out]
          have HZ := Lib.hid hz
          clear hz
          go_wp2_with fail
          go_ret
          rw [HZ.out]
          exact ⟨rfl, HBEL.out.trans (HBX.out.mono HBEL.out.size)⟩
        | true =>
          go_wp2_with fail
          refine (tnames_any f.vars _ _ HV.out).mono ?_
          rintro e w' ⟨rfl, rfl⟩
          rw [hc3.out]
          cases c3 with
          | false =>
            have hz : B = false := by
              rw [HBE.out]
              refine mayPs_no hlt ?_
              rw [hf.out]
              unfold mayPc headPc
              simp [hc3.out]
            have HZ := Lib.hid hz
            clear hz
            go_wp2_with fail
            go_ret
            rw [HZ.out]
            exact ⟨rfl, HBEL.out.trans (HBX.out.mono HBEL.out.size)⟩
          | true =>
            go_wp2_with fail
            refine (tnames_any f.fin _ _ HF.out).mono ?_
            rintro e w' ⟨rfl, rfl⟩
            rw [hc4.out]
            cases c4 with
            | false =>
              have hz : B = false := by
                rw [HBE.out]
                refine mayPs_no hlt ?_
                rw [hf.out]
                unfold mayPc headPc
                simp [hc4.out]
              have HZ := Lib.hid hz
              clear hz
              go_wp2_with fail
              go_ret
              rw [HZ.out]
              exact ⟨rfl, HBEL.out.trans (HBX.out.mono HBEL.out.size)⟩
            | true =>
              go_wp2_with fail
              go_loopw [64] (fun i wr => ∃ q : Nat, q ≤ f.params.length ∧ i = .int .i64 q ∧ Below (w0.alloc (.cells #[.string f.nm, .slice qa1 f.params.length qc1, .slice va1 f.vars.length vc1, .slice ba1 f.body.length bc1, .slice fa1 f.fin.length fc1] 55)).heap.size (w0.alloc (.cells #[.string f.nm, .slice qa1 f.params.length qc1, .slice va1 f.vars.length vc1, .slice ba1 f.body.length bc1, .slice fa1 f.fin.length fc1] 55)) wr ∧ (f.params.take q).all (fun a => isName (bl a.nm)) = true) (fun i _ => (f.params.length - intOf i).toNat)
              case atStart => exact ⟨0, by omega, rfl, Below.refl _ _, rfl⟩
              case round =>
                obtain ⟨q, hq, rfl, hbi, hal⟩ := hrel
                have HBI := Lib.hid hbi
                have HAL := Lib.hid hal
                by_cases hqt : q < f.params.length
                · have hqt' : (q : Int) < (f.params.length : Int) := by omega
                  have hne2 : f.params ≠ [] := by intro h; rw [h] at hqt; simp at hqt
                  obtain ⟨g2, off2, cap2, hv2, _, hcells2⟩ := SlAt.cells (SlAt.imp HQ.out fun _ _ _ _ => PaAt.mono (cw_next hbi)) hne2
                  simp only [Value.slice.injEq] at hv2
                  obtain ⟨rfl, -, rfl⟩ := hv2
                  obtain ⟨r0, r1, hsz2⟩ := hcells2 q hqt
                  obtain ⟨pr, hpr⟩ : ∃ pr, Hid (f.params[q] = pr) := ⟨_, Lib.hid rfl⟩
                  rw [hpr.out] at r0 r1 hsz2
                  have d0 : wr.cell? ⟨g2, off2 + q * 2, none⟩ = _ := r0
                  have d1 : wr.cell? ⟨g2, off2 + q * 2 + 1, none⟩ = _ := r1
                  clear hcells2 r0 r1 hne2 hbi hal
                  obtain ⟨c5, hc5⟩ : ∃ c, Hid (isName (bl pr.nm) = c) := ⟨_, Lib.hid rfl⟩
                  have HPB := Lib.hid (HBI.out.trans ((boxed wr (.cells #[.string pr.nm, .bool pr.ref] 62)).mono HBI.out.size))
                  go_wp2_with fail
                  refine (name_any pr.nm _ hsz2).mono ?_
                  rintro e w' ⟨rfl, rfl⟩
                  rw [hc5.out]
                  cases c5 with
                  | true =>
                    go_wp2_with fail
                    go_roundw
                    case rel => exact ⟨q + 1, by omega, by go_num, HPB.out, all_take _ _ hqt HAL.out (by rw [hpr.out]; exact hc5.out)⟩
                    case measure => simp [intOf]; omega
                  | false =>
                    have hno := all_no (fun a : Pa => isName (bl a.nm)) _ hqt (by rw [hpr.out]; exact hc5.out)
                    have HNO := Lib.hid hno
                    clear hno
                    have hz : B = false := by
                      rw [HBE.out]
                      refine mayPs_no hlt ?_
                      rw [hf.out]
                      unfold mayPc
                      rw [HNO.out, Bool.and_false, Bool.false_and]
                    have HZ := Lib.hid hz
                    clear hz
                    go_wp2_with fail
                    go_ret
                    rw [HZ.out]
                    exact ⟨rfl, HBEL.out.trans ((HBX.out.trans (HPB.out.mono HBX.out.size)).mono HBEL.out.size)⟩
                · have hqt' : ¬ (q : Int) < (f.params.length : Int) := by omega
                  have hall : f.params.all (fun a => isName (bl a.nm)) = true := by have := HAL.out; rwa [List.take_of_length_le (by omega)] at this
                  have HALL := Lib.hid hall
                  have hX := HX.out.next HBI.out
                  have s3 := hX 3 _ rfl
                  have hcc := cell_next HBI.out HCB.out
                  have HFI := Lib.hid (HFB.out.next (by simp; omega) HBI.out)
                  have HBDI := Lib.hid (StC.mono (but_next HBI.out) HBD.out)
                  obtain ⟨c6, hc6⟩ : ∃ c, Hid (rowsL 200 12 1 N f.body = c) := ⟨_, Lib.hid rfl⟩
                  have HCH := Lib.hid (HBEL.out.trans ((HBX.out.trans (HBI.out.mono HBX.out.size)).mono HBEL.out.size))
                  have hszr := HBI.out.size
                  simp only [World.size_alloc] at hszr
                  clear hall hX hbi hal
                  go_wp2_with fail
                  refine (rows_any (w.heap.size + 1) d f.body _ 1 N _ HBDI.out hcc HFI.out (by omega) (by omega) (by omega) (by omega)).mono ?_
                  rintro e w5 ⟨rfl, hg5, hf5, hc5⟩
                  rw [hc6.out] at hc5 ⊢
                  have HB5 := Lib.hid (HCH.out.grown hg5 (by omega) fun z hz => by have := Option.some.inj hz; omega)
                  have HF5 := Lib.hid hf5
                  have hs5 := hg5.size
                  clear hg5 hf5 hcc
                  cases c6 with
                  | false =>
                    have hz : B = false := by
                      rw [HBE.out]
                      refine mayPs_no hlt ?_
                      rw [hf.out, hN.out]
                      unfold mayPc
                      rw [Int.zero_add, hc6.out, Bool.and_false]
                    have HZ := Lib.hid hz
                    clear hz
                    go_wp2_with fail
                    go_ret
                    rw [HZ.out]
                    exact ⟨rfl, HB5.out⟩
                  | true =>
                    have HC5 := Lib.hid (hc5 rfl)
                    clear hc5
                    go_wp2_with fail
                    go_roundw
                    case rel =>
                      refine ⟨k + 1, by omega, by go_num, HB5.out, by omega, HF5.out, ?_, mayPs_yes hlt HMA.out ?_⟩
                      · have e : ((cntP (p.procs.take (k + 1)) : Nat) : Int) = N + cntL f.body := by
                          rw [← hN.out, List.take_succ_eq_append_getElem hlt, hf.out]
                          unfold cntP
                          rw [List.map_append, List.sum_append]
                          simp
                        rw [e]
                        exact HC5.out
                      · rw [hf.out, hN.out]
                        unfold mayPc headPc
                        rw [Int.zero_add, hc6.out, HALL.out, hc2'.out, hc3.out, hc4.out, decide_eq_true t1, decide_eq_true t2]
                        rfl
                    case measure => simp [intOf]; omega
      · have hlt' : ¬ (k : Int) < (p.procs.length : Int) := by omega
        have hz : B = true := by rw [HBE.out]; have := HMA.out; rwa [List.take_of_length_le (by omega)] at this
        have HZ := Lib.hid hz
        clear hz hbel hfr hcl hma
        go_wp2_with fail
        go_ret
        rw [HZ.out]
        exact ⟨rfl, HBEL.out⟩
end Go.Proofs.Ytghlmengcidmdaa.Tr
end
section
namespace Go.Proofs.Ytghlmengcidmdaa.Tr
open Go.RowKit Go.Proofs.Ytghlmengcidmdaa.Lx Go.Proofs.Ytghlmengcidmdaa.Wd
end Go.Proofs.Ytghlmengcidmdaa.Tr
end
section
namespace Go.Proofs.Ytghlmengcidmdaa.Tr
open Go.RowKit Go.Proofs.Ytghlmengcidmdaa.Lx Go.Proofs.Ytghlmengcidmdaa.Wd
end Go.Proofs.Ytghlmengcidmdaa.Tr
end
end
section
/- What flat's row says of find: the first item of an id is the statement that find tells; ids are one after another. No program. Conditions: the rows may be. -/
namespace Go.Proofs.Ytghlmengcidmdaa.Tr
open Go.RowKit Go.Proofs.Ytghlmengcidmdaa.Lx Go.Proofs.Ytghlmengcidmdaa.Wd
mutual
def preS : Int → Int → Bool → St → List It
  | deep, inn, els, .mk id k ls nm pr x h ar th el => ⟨.mk id k ls nm pr x h ar th el, deep, inn, els⟩ :: (preL (deep + 1) id false th ++ preL (deep + 1) id true el)
def preL : Int → Int → Bool → List St → List It
  | _, _, _, [] => []
  | deep, inn, els, s :: r => preS deep inn els s ++ preL deep inn els r
end
theorem preS_eq (deep inn : Int) (els : Bool) (s : St) : preS deep inn els s = ⟨s, deep, inn, els⟩ :: (preL (deep + 1) s.id false s.thn ++ preL (deep + 1) s.id true s.els) := by cases s; simp only [preS, St.id, St.thn, St.els]
theorem preL_cons (deep inn : Int) (els : Bool) (s : St) (r : List St) : preL deep inn els (s :: r) = preS deep inn els s ++ preL deep inn els r := by simp only [preL]
mutual
theorem preS_len : ∀ (s : St) (deep inn : Int) (els : Bool), (preS deep inn els s).length = cntS s
  | .mk id k ls nm pr x h ar th el, deep, inn, els => by
    rw [preS, cntS, List.length_cons, List.length_append, preL_len th, preL_len el]
    omega
theorem preL_len : ∀ (l : List St) (deep inn : Int) (els : Bool), (preL deep inn els l).length = cntL l
  | [], deep, inn, els => by rw [preL, cntL]; rfl
  | s :: r, deep, inn, els => by rw [preL, cntL, List.length_append, preS_len s, preL_len r]
end
mutual
theorem flatS_pre : ∀ (s : St) (deep n : Int) (out : List It), deep ≤ 12 → rowS 200 12 deep n s = true → out.length + cntL s.thn + cntL s.els ≤ 200 → flatS s deep out = out ++ (preL (deep + 1) s.id false s.thn ++ preL (deep + 1) s.id true s.els)
  | .mk id k ls nm pr x h ar th el, deep, n, out => fun hd hr hl => by
    rw [rowS_eq] at hr
    simp only [Bool.and_eq_true, decide_eq_true_eq, St.id, St.labels, St.thn, St.els] at hr hl ⊢
    rw [flatS, if_pos hd, flatL_pre th _ _ _ _ _ hr.1.2 (by omega), flatL_pre el _ _ _ _ _ hr.2 (by rw [List.length_append, preL_len]; omega), List.append_assoc]
theorem flatL_pre : ∀ (l : List St) (deep inn n : Int) (els : Bool) (out : List It), rowsL 200 12 deep n l = true → out.length + cntL l ≤ 200 → flatL l deep inn els out = out ++ preL deep inn els l
  | [], deep, inn, n, els, out => fun _ _ => by rw [flatL, preL, List.append_nil]
  | s :: r, deep, inn, n, els, out => fun hr hl => by
    rw [rowsL_cons] at hr
    simp only [Bool.and_eq_true, decide_eq_true_eq] at hr
    rw [cntL_cons, cntS_eq] at hl
    rw [flatL, if_pos (by omega), flatS_pre s deep n _ hr.1.1 hr.1.2 (by simp; omega), flatL_pre r deep inn _ els _ hr.2 (by simp [preL_len]; omega), preL, preS_eq]
    simp
end
/-- A procedure of a program that may be. -/
theorem mayPs_rows : ∀ (l : List Pc) (n : Int), mayPs n l = true → 0 ≤ n → n ≤ 200 → ∀ f ∈ l, ∃ m, 0 ≤ m ∧ m ≤ 200 ∧ rowsL 200 12 1 m f.body = true := by
  intro l
  induction l with
  | nil => intro n _ _ _ f h; cases h
  | cons g r ih =>
    intro n h h0 hn f hf
    rw [mayPs, Bool.and_eq_true] at h
    have h3 : rowsL 200 12 1 n g.body = true := by have := h.1; unfold mayPc at this; rw [Bool.and_eq_true] at this; exact this.2
    rcases List.mem_cons.1 hf with rfl | hf
    · exact ⟨n, h0, hn, h3⟩
    · exact ih _ h.2 (by omega) (rows_most g.body 1 n h3 hn) f hf
def flatOf (f : Pc) : List It := flatL f.body 1 0 false []
end Go.Proofs.Ytghlmengcidmdaa.Tr
end
section
/- What names stand for, and the first fault of a program's names. No program. Conditions: none. -/
namespace Go.Proofs.Ytghlmengcidmdaa.Tr
open Go.RowKit Go.Proofs.Ytghlmengcidmdaa.Lx Go.Proofs.Ytghlmengcidmdaa.Wd
theorem same_text {s t : ByteArray} : (s.toList == t.toList) = true ↔ s = t := by
  rw [eq_text]
theorem same_no {s t : ByteArray} : (s.toList == t.toList) = false ↔ s ≠ t := by
  rw [Ne, ← same_text (s := s) (t := t)]
  cases (s.toList == t.toList) <;> simp
theorem same_comm (s t : ByteArray) : (s.toList == t.toList) = (t.toList == s.toList) := by
  rw [Bool.eq_iff_iff, same_text, same_text]; exact eq_comm
/-- Is a text there? -/
def inB (s : ByteArray) (l : List ByteArray) : Bool := (at_ s l).isSome
theorem inB_iff {s : ByteArray} {l : List ByteArray} : inB s l = true ↔ s ∈ l := by
  unfold inB at_
  rw [List.findIdx?_isSome, List.any_eq_true]
  constructor
  · rintro ⟨t, ht, h⟩
    rw [same_text] at h
    rw [h]; exact ht
  · exact fun h => ⟨s, h, same_text.2 rfl⟩
theorem inB_no {s : ByteArray} {l : List ByteArray} : inB s l = false ↔ s ∉ l := by
  rw [← inB_iff]; cases inB s l <;> simp
theorem fst_at {α : Type} {l : List α} {n : Nat} (hn : n < l.length) {f : α → Bool} (h0 : ∀ j (h : j < l.length), j < n → f l[j] = false) (h1 : f l[n] = true) : l.find? f = some l[n] := by
  induction l generalizing n with
  | nil => simp at hn
  | cons a r ih =>
    rw [List.find?_cons]
    cases n with
    | zero => rw [show f a = true from h1]; rfl
    | succ n =>
      rw [show f a = false from h0 0 (by simp) (by omega)]
      exact ih (by simpa using hn) (fun j hj hjn => h0 (j + 1) (by simpa using hj) (by omega)) h1
theorem fst_no {α : Type} {l : List α} {f : α → Bool} (h0 : ∀ j (h : j < l.length), f l[j] = false) : l.find? f = none := by
  rw [List.find?_eq_none]
  intro x hx
  obtain ⟨j, hj, rfl⟩ := List.getElem_of_mem hx
  rw [h0 j hj]
  exact Bool.false_ne_true
theorem some_at {α β : Type} {l : List α} {n : Nat} (hn : n < l.length) {f : α → Option β} {x : β} (h0 : ∀ j (h : j < l.length), j < n → f l[j] = none) (h1 : f l[n] = some x) : l.findSome? f = some x := by
  induction l generalizing n with
  | nil => simp at hn
  | cons a r ih =>
    rw [List.findSome?_cons]
    cases n with
    | zero => rw [show f a = some x from h1]
    | succ n =>
      rw [show f a = none from h0 0 (by simp) (by omega)]
      exact ih (by simpa using hn) (fun j hj hjn => h0 (j + 1) (by simpa using hj) (by omega)) h1
theorem some_no {α β : Type} {l : List α} {f : α → Option β} (h0 : ∀ j (h : j < l.length), f l[j] = none) : l.findSome? f = none := by
  rw [List.findSome?_eq_none_iff]
  intro x hx
  obtain ⟨j, hj, rfl⟩ := List.getElem_of_mem hx
  exact h0 j hj
/-- Does a text stand there twice? -/
def twiceB (l : List ByteArray) : Bool := !decide l.Nodup
theorem twice_yes {l : List ByteArray} {k : Nat} (hk : k < l.length) (h : inB l[k] (l.take k) = true) : twiceB l = true := by
  unfold twiceB
  rw [Bool.not_eq_true', decide_eq_false_iff_not]
  intro hn
  obtain ⟨j, hj, he⟩ := List.getElem_of_mem (inB_iff.1 h)
  rw [List.getElem_take] at he
  rw [List.length_take] at hj
  have := (List.getElem_inj (h₀ := by omega) (h₁ := hk) hn).1 he
  omega
theorem twice_no {l : List ByteArray} (h : ∀ k (hk : k < l.length), inB l[k] (l.take k) = false) : twiceB l = false := by
  unfold twiceB
  rw [Bool.not_eq_false', decide_eq_true_iff, List.nodup_iff_pairwise_ne, List.pairwise_iff_getElem]
  intro i j hi hj hij he
  have := inB_no.1 (h j hj)
  apply this
  rw [← he]
  exact List.mem_take_iff_getElem.2 ⟨i, by omega, rfl⟩
theorem twice_take {l : List ByteArray} {k : Nat} (hk : k < l.length) (h : ∀ j (hj : j < l.length), j < k → (l[k].toList == l[j].toList) = false) : inB l[k] (l.take k) = false := by
  rw [inB_no]
  intro hm
  obtain ⟨j, hj, he⟩ := List.getElem_of_mem hm
  rw [List.getElem_take] at he
  rw [List.length_take] at hj
  have := h j (by omega) (by omega)
  rw [same_no] at this
  exact this he.symm
theorem twice_at {l : List ByteArray} {k j : Nat} (hk : k < l.length) (hj : j < k) (h : (l[k].toList == (l[j]'(by omega)).toList) = true) : twiceB l = true := by
  refine twice_yes hk (inB_iff.2 ?_)
  rw [same_text.1 h]
  exact List.mem_take_iff_getElem.2 ⟨j, by omega, rfl⟩
/-- What a name is by a procedure's parameters; what it is. -/
def parK (s : ByteArray) (l : List Pa) : Int := match l.find? (fun a => a.nm.toList == s.toList) with
  | some a => if a.ref then 3 else 2
  | none => 0
def kindP (g : List ByteArray) (f : Pc) (s : ByteArray) : Int := if parK s f.params ≠ 0 then parK s f.params else if inB s f.vars then 4 else if inB s g then 1 else 0
theorem parK_at {s : ByteArray} {l : List Pa} {k : Nat} (hk : k < l.length) (h0 : ∀ j (h : j < l.length), j < k → (l[j].nm.toList == s.toList) = false) (h1 : (l[k].nm.toList == s.toList) = true) : parK s l = if l[k].ref then 3 else 2 := by
  unfold parK
  rw [fst_at hk h0 h1]
theorem parK_no {s : ByteArray} {l : List Pa} (h0 : ∀ j (h : j < l.length), (l[j].nm.toList == s.toList) = false) : parK s l = 0 := by
  unfold parK
  rw [fst_no h0]
/-- A procedure's own names. -/
def ownNs (f : Pc) : List ByteArray := f.params.map Pa.nm ++ f.vars
/-- The variables that a statement names. -/
def saidA (a : Ar) : List ByteArray := (if a.ref then [a.nm] else []) ++ namesOf a.x
def saidN (s : St) : List ByteArray := if (!(s.kind == 10) && !noName s.nm) = true then [s.nm] else []
def saidS (s : St) : List ByteArray := (saidN s ++ namesOf s.x) ++ (s.args.map saidA).flatten
/-- Does each name of a statement stand for something? -/
def knownS (g : List ByteArray) (f : Pc) (procs : List ByteArray) (s : St) : Bool := (saidS s).all (fun n => !(kindP g f n == 0)) && (!(s.kind == 4) || (!(s.proc.toList == sMain.toList) && inB s.proc procs))
/-- A procedure's statements, in the order of ids. -/
def itsOf (f : Pc) : List It := preL 1 0 false f.body
def stsOf (f : Pc) : List St := (itsOf f).map It.s
def pcFault (g procs : List ByteArray) (f : Pc) : Option Int :=
  if twiceB (ownNs f) || (ownNs f).any (fun n => inB n g) then some 0 else ((stsOf f).find? fun s => !knownS g f procs s).map St.id
def procNs (p : Pr) : List ByteArray := p.procs.map Pc.nm
def pcOf (l : List Pc) (s : ByteArray) : Option Pc := l.find? fun f => f.nm.toList == s.toList
def headFault (p : Pr) : Bool := twiceB p.globals || twiceB (procNs p) || (match pcOf p.procs sMain with
  | some f => decide (0 < f.params.length)
  | none => true)
/-- The first fault of a program's names: its code, and where. -/
def scopeP (p : Pr) : Int × Int :=
  if !mayP p then (1, 0) else if headFault p then (5, 0) else match p.procs.findSome? (pcFault p.globals (procNs p)) with
  | some i => (5, i)
  | none => (0, 0)
end Go.Proofs.Ytghlmengcidmdaa.Tr
end
