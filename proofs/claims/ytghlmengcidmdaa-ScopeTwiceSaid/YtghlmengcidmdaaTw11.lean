/- Parts of BTreed, FindL, ScopeP, SaidW, ZoneM: walks and plain laws that later texts use. Conditions: as each statement says. -/
import Derived.Test.YtghlmengcidmdaaTw0
import Derived.Test.YtghlmengcidmdaaTw1
import Derived.Test.YtghlmengcidmdaaTw2
import Derived.Test.YtghlmengcidmdaaTw3
import Derived.Test.YtghlmengcidmdaaTw4
import Derived.Test.YtghlmengcidmdaaTw5
import Derived.Test.YtghlmengcidmdaaTw6
import Derived.Test.YtghlmengcidmdaaTw7
import Derived.Test.YtghlmengcidmdaaTw8
import Derived.Test.YtghlmengcidmdaaTw9
import Derived.Test.YtghlmengcidmdaaTw10
import Derived.IntWalk
import Derived.Deep.QuietTactic
import Derived.BigQuiet
import Derived.StillTailTactics
import Derived.Deep.RegionHeld3
import Derived.Deep.DeepCutAuto
import Derived.Laws.StructEq
import Derived.RegionTactic
import Derived.Deep.Slices
import Derived.Deep.Fields
import Derived.Lib.SmallJoins
import Derived.SliceStrings
import Derived.ChangeSlices
import Derived.Maps.Range
import Derived.Outline
import Derived.Deep.Upon
import Derived.Maps.AppendAt
import Derived.Laws.OwnMore
import Derived.Deep.RegionLaw
import Derived.WalkKit
import Derived.Test.YtghlmengcidmdaaRows
import Derived.WalkSpells
import Derived.Lib.Hide
import Derived.Below
import Derived.WalkSmall
import Derived.Deep.CutBlock
import Derived.Laws.BitsAllLaws
import Derived.OwnWalk
import Derived.OneCell
import Derived.Deep.AppendLies
import Derived.Deep.RegionWith
import Derived.Laws.Cover3
import Derived.OrdersHeld
section
/- What tree.May computes: may it be a program? Conditions: the program lies in memory.
   Plain: what is told of the small program Some. No program. Conditions: none.
   What treed answers: trees are known. Conditions: none. -/
section
namespace Go.Proofs.Ytghlmengcidmdaa.Tr
open Go.RowKit Go.Proofs.Ytghlmengcidmdaa.Lx Go.Proofs.Ytghlmengcidmdaa.Wd
/-- May it be a procedure, behind so many statements? -/
def headPc (f : Pc) : Bool := decide (f.params.length ≤ 8) && decide (f.vars.length ≤ 16) && isName (bl f.nm) && namesB f.vars && namesB f.fin
def mayPc (n : Int) (f : Pc) : Bool := headPc f && f.params.all (fun a => isName (bl a.nm)) && rowsL 200 12 1 n f.body
def mayPs (n : Int) : List Pc → Bool
  | [] => true
  | f :: r => mayPc n f && mayPs (n + cntL f.body) r
def cntP (l : List Pc) : Nat := (l.map fun f => cntL f.body).sum
/-- May it be a program? -/
def mayP (p : Pr) : Bool := decide (p.globals.length ≤ 16) && decide (p.procs.length ≤ 16) && namesB p.globals && mayPs 0 p.procs
theorem mayPs_append : ∀ (l m : List Pc) (n : Int), mayPs n (l ++ m) = (mayPs n l && mayPs (n + cntP l) m) := by
  intro l
  induction l with
  | nil => intro m n; simp [mayPs, cntP]
  | cons f r ih =>
    intro m n
    have e : n + ((cntP (f :: r) : Nat) : Int) = n + cntL f.body + cntP r := by unfold cntP; rw [List.map_cons, List.sum_cons]; push_cast; omega
    rw [List.cons_append, mayPs, mayPs, ih, e]
    simp only [Bool.and_assoc]
theorem mayPs_no {l : List Pc} {k : Nat} (hk : k < l.length) {n : Int} (h : mayPc (n + cntP (l.take k)) l[k] = false) : mayPs n l = false := by
  have e : l = l.take k ++ l[k] :: l.drop (k + 1) := by rw [← List.drop_eq_getElem_cons hk, List.take_append_drop]
  rw [e, mayPs_append, mayPs, h, Bool.false_and, Bool.and_false]
theorem mayPs_yes {l : List Pc} {k : Nat} (hk : k < l.length) {n : Int} (h0 : mayPs n (l.take k) = true) (h : mayPc (n + cntP (l.take k)) l[k] = true) : mayPs n (l.take (k + 1)) = true := by
  rw [List.take_succ_eq_append_getElem hk, mayPs_append, h0, mayPs, h]
  rfl
theorem mayPs_most : ∀ (l : List Pc) (n : Int), mayPs n l = true → n ≤ 200 → n + cntP l ≤ 200 := by
  intro l
  induction l with
  | nil => intro n _ hn; simpa [cntP] using hn
  | cons f r ih =>
    intro n h hn
    rw [mayPs, Bool.and_eq_true] at h
    have h1 : rowsL 200 12 1 n f.body = true := by have := h.1; unfold mayPc at this; rw [Bool.and_eq_true] at this; exact this.2
    have h2 := ih _ h.2 (rows_most f.body 1 n h1 hn)
    have e : n + ((cntP (f :: r) : Nat) : Int) = n + cntL f.body + cntP r := by unfold cntP; rw [List.map_cons, List.sum_cons]; push_cast; omega
    rw [e]
    exact h2
set_option maxHeartbeats 8000000 in
set_option maxRecDepth 100000 in
theorem mayP_any (d : Nat) (p : Pr) (gv pv : Value) (w : World) (hp : PrC (cw w) d gv pv p) :
    Calls Try.prog 20 #[.agg #[gv, pv]] w fun e w' => e = .returned (.bool (mayP p)) ∧ Below w.heap.size w w' := by
  obtain ⟨ga, gc, rfl, -, -⟩ := hp.1.form
  obtain ⟨pa, pc, rfl, hc1, hc2⟩ := hp.2.form
  have hbox := boxed w (.cells #[.slice ga p.globals.length gc, .slice pa p.procs.length pc] 25)
  have HB := Lib.hid hbox
  have HP := Lib.hid (PrC.mono (cw_next hbox) hp)
  have HPW := Lib.hid hp
  obtain ⟨B, hB⟩ : ∃ B, Hid (mayP p = B) := ⟨_, Lib.hid rfl⟩
  rw [hB.out]
  clear hbox hp
  go_enter Try.func20, Try.ntmps20
  by_cases h1 : p.globals.length ≤ 16
  case neg =>
    have b1 : ((16 : Int) < (p.globals.length : Int)) = True := eq_true (by omega)
    have hz : B = false := by rw [← hB.out]; unfold mayP; rw [decide_eq_false h1]; rfl
    have HZ := Lib.hid hz
    clear hz
    go_wp2_with fail
    go_ret
    rw [HZ.out]
    exact ⟨rfl, HB.out⟩
  have b1 : ((16 : Int) < (p.globals.length : Int)) = False := eq_false (by omega)
  by_cases h2 : p.procs.length ≤ 16
  case neg =>
    have b2 : ((16 : Int) < (p.procs.length : Int)) = True := eq_true (by omega)
    have hz : B = false := by rw [← hB.out]; unfold mayP; rw [decide_eq_true h1, decide_eq_false h2]; rfl
    have HZ := Lib.hid hz
    clear hz
    go_wp2_with fail
    go_ret
    rw [HZ.out]
    exact ⟨rfl, HB.out⟩
  have b2 : ((16 : Int) < (p.procs.length : Int)) = False := eq_false (by omega)
  obtain ⟨c1, hcc1⟩ : ∃ c, Hid (namesB p.globals = c) := ⟨_, Lib.hid rfl⟩
  go_wp2_with fail
  refine (tnames_any p.globals _ _ (StrC.to HP.out.1)).mono ?_
  rintro e w' ⟨rfl, rfl⟩
  rw [hcc1.out]
  cases c1 with
  | false =>
    have hz : B = false := by rw [← hB.out]; unfold mayP; rw [hcc1.out, Bool.and_false, Bool.false_and]
    have HZ := Lib.hid hz
    clear hz
    go_wp2_with fail
    go_ret
    rw [HZ.out]
    exact ⟨rfl, HB.out⟩
  | true =>
    have hBe : B = mayPs 0 p.procs := by rw [← hB.out]; unfold mayP; rw [decide_eq_true h1, decide_eq_true h2, hcc1.out]; rfl
    have HBE := Lib.hid hBe
    clear hBe
    go_wp2_with fail
    go_loopw [29] (fun i wr => ∃ k : Nat, k ≤ p.procs.length ∧ i = .int .i64 k ∧ Below w.heap.size w wr ∧ w.heap.size + 1 < wr.heap.size ∧ Free wr (w.heap.size + 1) ∧ wr.cell? ⟨w.heap.size + 1, 0, none⟩ = some (.int .i64 (cntP (p.procs.take k))) ∧ mayPs 0 (p.procs.take k) = true) (fun i _ => (p.procs.length - intOf i).toNat)
    case atStart => exact ⟨0, by omega, rfl, HB.out.alloc (by simp) _, by simp, fun j => by simp [go_sem], by simp [go_sem, cntP], rfl⟩
    case round =>
      obtain ⟨w0, hw0⟩ : ∃ w0 : World, w0 = wr := ⟨_, rfl⟩
      subst hw0
      obtain ⟨k, hk, rfl, hbel, hsz, hfr, hcl, hma⟩ := hrel
      have HBEL := Lib.hid hbel
      have HFR := Lib.hid hfr
      have HCL := Lib.hid hcl
      have HMA := Lib.hid hma
      have hN200 := mayPs_most _ _ hma (by omega)
      obtain ⟨N, hN⟩ : ∃ N : Nat, Hid (cntP (p.procs.take k) = N) := ⟨_, Lib.hid rfl⟩
      rw [hN.out] at hcl hN200
      by_cases hlt : k < p.procs.length
      · have hlt' : (k : Int) < (p.procs.length : Int) := by omega
        have h0k : (0 : Int) ≤ (k : Int) := by omega
        have hne : p.procs ≠ [] := by intro h; rw [h] at hlt; simp at hlt
        have hle : Cs.le (cw w) (but (w.heap.size + 1) w0) := fun g j u h => ⟨by have := cell_lt h; omega, cell_next hbel h⟩
        obtain ⟨g, off, cap', hv, _, hcells⟩ := SlAt.cells (PrC.mono hle HPW.out).2 hne
        simp only [Value.slice.injEq] at hv
        obtain ⟨rfl, -, rfl⟩ := hv
        obtain ⟨qv1, vv1, bv1, fv1, p0, p1, p2, p3, p4, hnm, hq1, hv1, hb1, hf1⟩ := hcells k hlt
        obtain ⟨f, hf⟩ : ∃ f, Hid (p.procs[k] = f) := ⟨_, Lib.hid rfl⟩
        rw [hf.out] at p0 hnm hq1 hv1 hb1 hf1
        obtain ⟨qa1, qc1, rfl, -, -⟩ := hq1.form
        obtain ⟨va1, vc1, rfl, -, -⟩ := hv1.form
        obtain ⟨ba1, bc1, rfl, -, -⟩ := hb1.form
        obtain ⟨fa1, fc1, rfl, -, -⟩ := hf1.form
        have e0 : w0.cell? ⟨g, off + k * 5, none⟩ = _ := p0.2
        have e1 : w0.cell? ⟨g, off + k * 5 + 1, none⟩ = _ := p1.2
        have e2 : w0.cell? ⟨g, off + k * 5 + 2, none⟩ = _ := p2.2
        have e3 : w0.cell? ⟨g, off + k * 5 + 3, none⟩ = _ := p3.2
        have e4 : w0.cell? ⟨g, off + k * 5 + 4, none⟩ = _ := p4.2
        have hbx := boxed w0 (.cells #[.string f.nm, .slice qa1 f.params.length qc1, .slice va1 f.vars.length vc1, .slice ba1 f.body.length bc1, .slice fa1 f.fin.length fc1] 55)
        have HBX := Lib.hid hbx
        have HQ := Lib.hid (SlAt.imp hq1 fun _ _ _ _ => PaAt.mono (Cs.le_trans (but_next hbx) only_out))
        have HV := Lib.hid (StrC.to (StrC.mono (Cs.le_trans (but_next hbx) only_out) hv1))
        have HF := Lib.hid (StrC.to (StrC.mono (Cs.le_trans (but_next hbx) only_out) hf1))
        have HBD := Lib.hid (StC.mono (but_next hbx) hb1)
        have hcb := cell_next hbx hcl
        have HCB := Lib.hid hcb
        have HFB := Lib.hid (HFR.out.next (by omega) hbx)
        have HX := Lib.hid (box_new w0 #[.string f.nm, .slice qa1 f.params.length qc1, .slice va1 f.vars.length vc1, .slice ba1 f.body.length bc1, .slice fa1 f.fin.length fc1] 55)
        clear hcells p0 p1 p2 p3 p4 hq1 hv1 hb1 hf1 hne hle hbx hbel hfr hma hcb
        by_cases t1 : f.params.length ≤ 8
        case neg =>
          have b3 : ((8 : Int) < (f.params.length : Int)) = True := eq_true (by omega)
          have hz : B = false := by
            rw [HBE.out]
            refine mayPs_no hlt ?_
            rw [hf.out]
            unfold mayPc headPc
            simp [t1]
          have HZ := Lib.hid hz
          clear hz
          go_wp2_with fail
          go_ret
          rw [HZ.out]
          exact ⟨rfl, HBEL.out.trans (HBX.out.mono HBEL.out.size)⟩
        have b3 : ((8 : Int) < (f.params.length : Int)) = False := eq_false (by omega)
        by_cases t2 : f.vars.length ≤ 16
        case neg =>
          have b4 : ((16 : Int) < (f.vars.length : Int)) = True := eq_true (by omega)
          have hz : B = false := by
            rw [HBE.out]
            refine mayPs_no hlt ?_
            rw [hf.out]
            unfold mayPc headPc
            simp [t2]
          have HZ := Lib.hid hz
          clear hz
          go_wp2_with fail
          go_ret
          rw [HZ.out]
          exact ⟨rfl, HBEL.out.trans (HBX.out.mono HBEL.out.size)⟩
        have b4 : ((16 : Int) < (f.vars.length : Int)) = False := eq_false (by omega)
        obtain ⟨c2, hc2'⟩ : ∃ c, Hid (isName (bl f.nm) = c) := ⟨_, Lib.hid rfl⟩
        obtain ⟨c3, hc3⟩ : ∃ c, Hid (namesB f.vars = c) := ⟨_, Lib.hid rfl⟩
        obtain ⟨c4, hc4⟩ : ∃ c, Hid (namesB f.fin = c) := ⟨_, Lib.hid rfl⟩
        go_wp2_with fail
        refine (name_any f.nm _ hnm).mono ?_
        rintro e w' ⟨rfl, rfl⟩
        rw [hc2'.out]
        cases c2 with
        | false =>
          have hz : B = false := by
            rw [HBE.out]
            refine mayPs_no hlt ?_
            rw [hf.out]
            unfold mayPc headPc
            simp [hc2'.out]
          have HZ := Lib.hid hz
          clear hz
          go_wp2_with fail
          go_ret
          rw [HZ.out]
          exact ⟨rfl, HBEL.out.trans (HBX.out.mono HBEL.out.size)⟩
        | true =>
          go_wp2_with fail
          refine (tnames_any f.vars _ _ HV.out).mono ?_
          rintro e w' ⟨rfl, rfl⟩
          rw [hc3.out]
          cases c3 with
          | false =>
            have hz : B = false := by
              rw [HBE.out]
              refine mayPs_no hlt ?_
              rw [hf.out]
              unfold mayPc headPc
              simp [hc3.out]
            have HZ := Lib.hid hz
            clear hz
            go_wp2_with fail
            go_ret
            rw [HZ.out]
            exact ⟨rfl, HBEL.out.trans (HBX.out.mono HBEL.out.size)⟩
          | true =>
            go_wp2_with fail
            refine (tnames_any f.fin _ _ HF.out).mono ?_
            rintro e w' ⟨rfl, rfl⟩
            rw [hc4.out]
            cases c4 with
            | false =>
              have hz : B = false := by
                rw [HBE.out]
                refine mayPs_no hlt ?_
                rw [hf.out]
                unfold mayPc headPc
                simp [hc4.out]
              have HZ := Lib.hid hz
              clear hz
              go_wp2_with fail
              go_ret
              rw [HZ.out]
              exact ⟨rfl, HBEL.out.trans (HBX.out.mono HBEL.out.size)⟩
            | true =>
              go_wp2_with fail
              go_loopw [64] (fun i wr => ∃ q : Nat, q ≤ f.params.length ∧ i = .int .i64 q ∧ Below (w0.alloc (.cells #[.string f.nm, .slice qa1 f.params.length qc1, .slice va1 f.vars.length vc1, .slice ba1 f.body.length bc1, .slice fa1 f.fin.length fc1] 55)).heap.size (w0.alloc (.cells #[.string f.nm, .slice qa1 f.params.length qc1, .slice va1 f.vars.length vc1, .slice ba1 f.body.length bc1, .slice fa1 f.fin.length fc1] 55)) wr ∧ (f.params.take q).all (fun a => isName (bl a.nm)) = true) (fun i _ => (f.params.length - intOf i).toNat)
              case atStart => exact ⟨0, by omega, rfl, Below.refl _ _, rfl⟩
              case round =>
                obtain ⟨q, hq, rfl, hbi, hal⟩ := hrel
                have HBI := Lib.hid hbi
                have HAL := Lib.hid hal
                by_cases hqt : q < f.params.length
                · have hqt' : (q : Int) < (f.params.length : Int) := by omega
                  have hne2 : f.params ≠ [] := by intro h; rw [h] at hqt; simp at hqt
                  obtain ⟨g2, off2, cap2, hv2, _, hcells2⟩ := SlAt.cells (SlAt.imp HQ.out fun _ _ _ _ => PaAt.mono (cw_next hbi)) hne2
                  simp only [Value.slice.injEq] at hv2
                  obtain ⟨rfl, -, rfl⟩ := hv2
                  obtain ⟨r0, r1, hsz2⟩ := hcells2 q hqt
                  obtain ⟨pr, hpr⟩ : ∃ pr, Hid (f.params[q] = pr) := ⟨_, Lib.hid rfl⟩
                  rw [hpr.out] at r0 r1 hsz2
                  have d0 : wr.cell? ⟨g2, off2 + q * 2, none⟩ = _ := r0
                  have d1 : wr.cell? ⟨g2, off2 + q * 2 + 1, none⟩ = _ := r1
                  clear hcells2 r0 r1 hne2 hbi hal
                  obtain ⟨c5, hc5⟩ : ∃ c, Hid (isName (bl pr.nm) = c) := ⟨_, Lib.hid rfl⟩
                  have HPB := Lib.hid (HBI.out.trans ((boxed wr (.cells #[.string pr.nm, .bool pr.ref] 62)).mono HBI.out.size))
                  go_wp2_with fail
                  refine (name_any pr.nm _ hsz2).mono ?_
                  rintro e w' ⟨rfl, rfl⟩
                  rw [hc5.out]
                  cases c5 with
                  | true =>
                    go_wp2_with fail
                    go_roundw
                    case rel => exact ⟨q + 1, by omega, by go_num, HPB.out, all_take _ _ hqt HAL.out (by rw [hpr.out]; exact hc5.out)⟩
                    case measure => simp [intOf]; omega
                  | false =>
                    have hno := all_no (fun a : Pa => isName (bl a.nm)) _ hqt (by rw [hpr.out]; exact hc5.out)
                    have HNO := Lib.hid hno
                    clear hno
                    have hz : B = false := by
                      rw [HBE.out]
                      refine mayPs_no hlt ?_
                      rw [hf.out]
                      unfold mayPc
                      rw [HNO.out, Bool.and_false, Bool.false_and]
                    have HZ := Lib.hid hz
                    clear hz
                    go_wp2_with fail
                    go_ret
                    rw [HZ.out]
                    exact ⟨rfl, HBEL.out.trans ((HBX.out.trans (HPB.out.mono HBX.out.size)).mono HBEL.out.size)⟩
                · have hqt' : ¬ (q : Int) < (f.params.length : Int) := by omega
                  have hall : f.params.all (fun a => isName (bl a.nm)) = true := by have := HAL.out; rwa [List.take_of_length_le (by omega)] at this
                  have HALL := Lib.hid hall
                  have hX := HX.out.next HBI.out
                  have s3 := hX 3 _ rfl
                  have hcc := cell_next HBI.out HCB.out
                  have HFI := Lib.hid (HFB.out.next (by simp; omega) HBI.out)
                  have HBDI := Lib.hid (StC.mono (but_next HBI.out) HBD.out)
                  obtain ⟨c6, hc6⟩ : ∃ c, Hid (rowsL 200 12 1 N f.body = c) := ⟨_, Lib.hid rfl⟩
                  have HCH := Lib.hid (HBEL.out.trans ((HBX.out.trans (HBI.out.mono HBX.out.size)).mono HBEL.out.size))
                  have hszr := HBI.out.size
                  simp only [World.size_alloc] at hszr
                  clear hall hX hbi hal
                  go_wp2_with fail
                  refine (rows_any (w.heap.size + 1) d f.body _ 1 N _ HBDI.out hcc HFI.out (by omega) (by omega) (by omega) (by omega)).mono ?_
                  rintro e w5 ⟨rfl, hg5, hf5, hc5⟩
                  rw [hc6.out] at hc5 ⊢
                  have HB5 := Lib.hid (HCH.out.grown hg5 (by omega) fun z hz => by have := Option.some.inj hz; omega)
                  have HF5 := Lib.hid hf5
                  have hs5 := hg5.size
                  clear hg5 hf5 hcc
                  cases c6 with
                  | false =>
                    have hz : B = false := by
                      rw [HBE.out]
                      refine mayPs_no hlt ?_
                      rw [hf.out, hN.out]
                      unfold mayPc
                      rw [Int.zero_add, hc6.out, Bool.and_false]
                    have HZ := Lib.hid hz
                    clear hz
                    go_wp2_with fail
                    go_ret
                    rw [HZ.out]
                    exact ⟨rfl, HB5.out⟩
                  | true =>
                    have HC5 := Lib.hid (hc5 rfl)
                    clear hc5
                    go_wp2_with fail
                    go_roundw
                    case rel =>
                      refine ⟨k + 1, by omega, by go_num, HB5.out, by omega, HF5.out, ?_, mayPs_yes hlt HMA.out ?_⟩
                      · have e : ((cntP (p.procs.take (k + 1)) : Nat) : Int) = N + cntL f.body := by
                          rw [← hN.out, List.take_succ_eq_append_getElem hlt, hf.out]
                          unfold cntP
                          rw [List.map_append, List.sum_append]
                          simp
                        rw [e]
                        exact HC5.out
                      · rw [hf.out, hN.out]
                        unfold mayPc headPc
                        rw [Int.zero_add, hc6.out, HALL.out, hc2'.out, hc3.out, hc4.out, decide_eq_true t1, decide_eq_true t2]
                        rfl
                    case measure => simp [intOf]; omega
      · have hlt' : ¬ (k : Int) < (p.procs.length : Int) := by omega
        have hz : B = true := by rw [HBE.out]; have := HMA.out; rwa [List.take_of_length_le (by omega)] at this
        have HZ := Lib.hid hz
        clear hz hbel hfr hcl hma
        go_wp2_with fail
        go_ret
        rw [HZ.out]
        exact ⟨rfl, HBEL.out⟩
end Go.Proofs.Ytghlmengcidmdaa.Tr
end
section
namespace Go.Proofs.Ytghlmengcidmdaa.Tr
open Go.RowKit Go.Proofs.Ytghlmengcidmdaa.Lx Go.Proofs.Ytghlmengcidmdaa.Wd
end Go.Proofs.Ytghlmengcidmdaa.Tr
end
section
namespace Go.Proofs.Ytghlmengcidmdaa.Tr
open Go.RowKit Go.Proofs.Ytghlmengcidmdaa.Lx Go.Proofs.Ytghlmengcidmdaa.Wd
end Go.Proofs.Ytghlmengcidmdaa.Tr
end
end
section
/- What flat's row says of find: the first item of an id is the statement that find tells; ids are one after another. No program. Conditions: the rows may be. -/
namespace Go.Proofs.Ytghlmengcidmdaa.Tr
open Go.RowKit Go.Proofs.Ytghlmengcidmdaa.Lx Go.Proofs.Ytghlmengcidmdaa.Wd
mutual
def preS : Int → Int → Bool → St → List It
  | deep, inn, els, .mk id k ls nm pr x h ar th el => ⟨.mk id k ls nm pr x h ar th el, deep, inn, els⟩ :: (preL (deep + 1) id false th ++ preL (deep + 1) id true el)
def preL : Int → Int → Bool → List St → List It
  | _, _, _, [] => []
  | deep, inn, els, s :: r => preS deep inn els s ++ preL deep inn els r
end
mutual
theorem preS_len : ∀ (s : St) (deep inn : Int) (els : Bool), (preS deep inn els s).length = cntS s
  | .mk id k ls nm pr x h ar th el, deep, inn, els => by
    rw [preS, cntS, List.length_cons, List.length_append, preL_len th, preL_len el]
    omega
theorem preL_len : ∀ (l : List St) (deep inn : Int) (els : Bool), (preL deep inn els l).length = cntL l
  | [], deep, inn, els => by rw [preL, cntL]; rfl
  | s :: r, deep, inn, els => by rw [preL, cntL, List.length_append, preS_len s, preL_len r]
end
end Go.Proofs.Ytghlmengcidmdaa.Tr
end
section
/- What names stand for, and the first fault of a program's names. No program. Conditions: none. -/
namespace Go.Proofs.Ytghlmengcidmdaa.Tr
open Go.RowKit Go.Proofs.Ytghlmengcidmdaa.Lx Go.Proofs.Ytghlmengcidmdaa.Wd
theorem same_text {s t : ByteArray} : (s.toList == t.toList) = true ↔ s = t := by
  rw [eq_text]
theorem same_no {s t : ByteArray} : (s.toList == t.toList) = false ↔ s ≠ t := by
  rw [Ne, ← same_text (s := s) (t := t)]
  cases (s.toList == t.toList) <;> simp
theorem same_comm (s t : ByteArray) : (s.toList == t.toList) = (t.toList == s.toList) := by
  rw [Bool.eq_iff_iff, same_text, same_text]; exact eq_comm
/-- Is a text there? -/
def inB (s : ByteArray) (l : List ByteArray) : Bool := (at_ s l).isSome
theorem inB_iff {s : ByteArray} {l : List ByteArray} : inB s l = true ↔ s ∈ l := by
  unfold inB at_
  rw [List.findIdx?_isSome, List.any_eq_true]
  constructor
  · rintro ⟨t, ht, h⟩
    rw [same_text] at h
    rw [h]; exact ht
  · exact fun h => ⟨s, h, same_text.2 rfl⟩
theorem inB_no {s : ByteArray} {l : List ByteArray} : inB s l = false ↔ s ∉ l := by
  rw [← inB_iff]; cases inB s l <;> simp
theorem fst_at {α : Type} {l : List α} {n : Nat} (hn : n < l.length) {f : α → Bool} (h0 : ∀ j (h : j < l.length), j < n → f l[j] = false) (h1 : f l[n] = true) : l.find? f = some l[n] := by
  induction l generalizing n with
  | nil => simp at hn
  | cons a r ih =>
    rw [List.find?_cons]
    cases n with
    | zero => rw [show f a = true from h1]; rfl
    | succ n =>
      rw [show f a = false from h0 0 (by simp) (by omega)]
      exact ih (by simpa using hn) (fun j hj hjn => h0 (j + 1) (by simpa using hj) (by omega)) h1
theorem fst_no {α : Type} {l : List α} {f : α → Bool} (h0 : ∀ j (h : j < l.length), f l[j] = false) : l.find? f = none := by
  rw [List.find?_eq_none]
  intro x hx
  obtain ⟨j, hj, rfl⟩ := List.getElem_of_mem hx
  rw [h0 j hj]
  exact Bool.false_ne_true
theorem some_at {α β : Type} {l : List α} {n : Nat} (hn : n < l.length) {f : α → Option β} {x : β} (h0 : ∀ j (h : j < l.length), j < n → f l[j] = none) (h1 : f l[n] = some x) : l.findSome? f = some x := by
  induction l generalizing n with
  | nil => simp at hn
  | cons a r ih =>
    rw [List.findSome?_cons]
    cases n with
    | zero => rw [show f a = some x from h1]
    | succ n =>
      rw [show f a = none from h0 0 (by simp) (by omega)]
      exact ih (by simpa using hn) (fun j hj hjn => h0 (j + 1) (by simpa using hj) (by omega)) h1
theorem some_no {α β : Type} {l : List α} {f : α → Option β} (h0 : ∀ j (h : j < l.length), f l[j] = none) : l.findSome? f = none := by
  rw [List.findSome?_eq_none_iff]
  intro x hx
  obtain ⟨j, hj, rfl⟩ := List.getElem_of_mem hx
  exact h0 j hj
/-- Does a text stand there twice? -/
def twiceB (l : List ByteArray) : Bool := !decide l.Nodup
theorem twice_yes {l : List ByteArray} {k : Nat} (hk : k < l.length) (h : inB l[k] (l.take k) = true) : twiceB l = true := by
  unfold twiceB
  rw [Bool.not_eq_true', decide_eq_false_iff_not]
  intro hn
  obtain ⟨j, hj, he⟩ := List.getElem_of_mem (inB_iff.1 h)
  rw [List.getElem_take] at he
  rw [List.length_take] at hj
  have := (List.getElem_inj (h₀ := by omega) (h₁ := hk) hn).1 he
  omega
theorem twice_no {l : List ByteArray} (h : ∀ k (hk : k < l.length), inB l[k] (l.take k) = false) : twiceB l = false := by
  unfold twiceB
  rw [Bool.not_eq_false', decide_eq_true_iff, List.nodup_iff_pairwise_ne, List.pairwise_iff_getElem]
  intro i j hi hj hij he
  have := inB_no.1 (h j hj)
  apply this
  rw [← he]
  exact List.mem_take_iff_getElem.2 ⟨i, by omega, rfl⟩
/-- What a name is by a procedure's parameters; what it is. -/
def parK (s : ByteArray) (l : List Pa) : Int := match l.find? (fun a => a.nm.toList == s.toList) with
  | some a => if a.ref then 3 else 2
  | none => 0
def kindP (g : List ByteArray) (f : Pc) (s : ByteArray) : Int := if parK s f.params ≠ 0 then parK s f.params else if inB s f.vars then 4 else if inB s g then 1 else 0
theorem parK_at {s : ByteArray} {l : List Pa} {k : Nat} (hk : k < l.length) (h0 : ∀ j (h : j < l.length), j < k → (l[j].nm.toList == s.toList) = false) (h1 : (l[k].nm.toList == s.toList) = true) : parK s l = if l[k].ref then 3 else 2 := by
  unfold parK
  rw [fst_at hk h0 h1]
theorem parK_no {s : ByteArray} {l : List Pa} (h0 : ∀ j (h : j < l.length), (l[j].nm.toList == s.toList) = false) : parK s l = 0 := by
  unfold parK
  rw [fst_no h0]
theorem parK_zero {s : ByteArray} {l : List Pa} : parK s l = 0 ↔ s ∉ l.map Pa.nm := by
  unfold parK
  cases h : l.find? (fun a => a.nm.toList == s.toList) with
  | none =>
    rw [List.find?_eq_none] at h
    simp only [List.mem_map, not_exists, not_and, true_iff]
    intro a ha he
    exact h a ha (same_text.2 he)
  | some a =>
    have h1 := List.find?_some h
    have h2 := List.mem_of_find?_eq_some h
    rw [same_text] at h1
    constructor
    · intro he
      simp only at he
      split at he <;> omega
    · intro hn
      exact absurd (List.mem_map.2 ⟨a, h2, h1⟩) hn
/-- A procedure's own names. -/
def ownNs (f : Pc) : List ByteArray := f.params.map Pa.nm ++ f.vars
theorem kind_zero {g : List ByteArray} {f : Pc} {s : ByteArray} : kindP g f s = 0 ↔ s ∉ ownNs f ∧ s ∉ g := by
  unfold kindP ownNs
  rw [List.mem_append, not_or]
  by_cases h : parK s f.params = 0
  · have h1 := parK_zero.1 h
    rw [h, if_neg (by simp)]
    cases h2 : inB s f.vars with
    | true =>
      have := inB_iff.1 h2
      simp [this]
    | false =>
      have h2' := inB_no.1 h2
      cases h3 : inB s g with
      | true => have := inB_iff.1 h3; simp [this]
      | false => have h3' := inB_no.1 h3; simp [h1, h2', h3']
  · rw [if_pos h]
    have h1 := fun hn => h (parK_zero.2 hn)
    simp only [h, false_iff]
    rintro ⟨⟨h2, -⟩, -⟩
    exact h1 h2
/-- The variables that a statement names. -/
def saidA (a : Ar) : List ByteArray := (if a.ref then [a.nm] else []) ++ namesOf a.x
def saidN (s : St) : List ByteArray := if (!(s.kind == 10) && !noName s.nm) = true then [s.nm] else []
def saidS (s : St) : List ByteArray := (saidN s ++ namesOf s.x) ++ (s.args.map saidA).flatten
/-- Does each name of a statement stand for something? -/
def knownS (g : List ByteArray) (f : Pc) (procs : List ByteArray) (s : St) : Bool := (saidS s).all (fun n => !(kindP g f n == 0)) && (!(s.kind == 4) || (!(s.proc.toList == sMain.toList) && inB s.proc procs))
/-- A procedure's statements, in the order of ids. -/
def itsOf (f : Pc) : List It := preL 1 0 false f.body
def stsOf (f : Pc) : List St := (itsOf f).map It.s
def pcFault (g procs : List ByteArray) (f : Pc) : Option Int :=
  if twiceB (ownNs f) || (ownNs f).any (fun n => inB n g) then some 0 else ((stsOf f).find? fun s => !knownS g f procs s).map St.id
def procNs (p : Pr) : List ByteArray := p.procs.map Pc.nm
def pcOf (l : List Pc) (s : ByteArray) : Option Pc := l.find? fun f => f.nm.toList == s.toList
def headFault (p : Pr) : Bool := twiceB p.globals || twiceB (procNs p) || (match pcOf p.procs sMain with
  | some f => decide (0 < f.params.length)
  | none => true)
/-- The first fault of a program's names: its code, and where. -/
def scopeP (p : Pr) : Int × Int :=
  if !mayP p then (1, 0) else if headFault p then (5, 0) else match p.procs.findSome? (pcFault p.globals (procNs p)) with
  | some i => (5, i)
  | none => (0, 0)
end Go.Proofs.Ytghlmengcidmdaa.Tr
end
section
/- What Names of flat, Said of the reference tell: the variables that a statement names. Conditions: it lies in memory, and names not too many. -/
namespace Go.Proofs.Ytghlmengcidmdaa.Tr
open Go.RowKit Go.Proofs.Ytghlmengcidmdaa.Lx Go.Proofs.Ytghlmengcidmdaa.Wd
theorem BoxAt.grown {w w' : World} {g : Nat} {cs : List Value} {row : Option Nat} (h : BoxAt w g cs) (hg : w.grownBy w' row) (hr : some g ≠ row) : BoxAt w' g cs := fun j u hu => hg.cell (h j u hu) hr
theorem RowS.one {B : Nat} {w : World} {v : Value} {l : List ByteArray} {s : ByteArray} (h : w.ownsRow B 9 1 v (l.length + 1) (l.map Value.string ++ [.string s])) (hf : Fine l) (hs : s.size ≤ 9223372036854775807) : RowS B w v (l ++ [s]) := by
  refine ⟨by simpa using h, fun t ht => ?_⟩
  rcases List.mem_append.1 ht with ht | ht
  · exact hf t ht
  · simp at ht; rw [ht]; exact hs
theorem RowS.cat {B : Nat} {w : World} {v : Value} {l m : List ByteArray} (h : w.ownsRow B 9 1 v (l.length + m.length) (l.map Value.string ++ m.map Value.string)) (hf : Fine l) (hm : Fine m) : RowS B w v (l ++ m) := by
  refine ⟨by simpa using h, fun t ht => ?_⟩
  rcases List.mem_append.1 ht with ht | ht
  · exact hf t ht
  · exact hm t ht
theorem str_one {m : List ByteArray} : ∀ u ∈ m.map Value.string, u.oneCell' = true := by
  intro u hu
  obtain ⟨t, -, rfl⟩ := List.mem_map.1 hu
  rfl
theorem one_str (w : World) (s : ByteArray) (T : TypeId) : ∀ (j : Nat) u, ([.string s] : List Value)[j]? = some u → (w.alloc (.cells #[.string s] T)).cell? ((⟨w.heap.size, 0, none⟩ : Addr).add j) = some u := by
  intro j u h
  match j, h with
  | 0, h => cases h; rw [Addr.add_lit]; simp [go_sem]
theorem said_take {l : List Ar} {k : Nat} (h : k < l.length) : ((l.take (k + 1)).map saidA).flatten = ((l.take k).map saidA).flatten ++ saidA l[k] := by
  rw [List.take_succ_eq_append_getElem h, List.map_append, List.flatten_append]
  simp
theorem said_len {l : List Ar} {k : Nat} (h : k < l.length) : ((l.take k).map saidA).flatten.length + (saidA l[k]).length ≤ ((l.map saidA).flatten).length := by
  have h1 : l = l.take (k + 1) ++ l.drop (k + 1) := (List.take_append_drop _ _).symm
  have h2 := said_take h
  have h3 : (l.map saidA).flatten.length = ((l.take (k + 1)).map saidA).flatten.length + ((l.drop (k + 1)).map saidA).flatten.length := by
    conv => lhs; rw [h1]
    rw [List.map_append, List.flatten_append, List.length_append]
  rw [h3, h2, List.length_append]
  omega
set_option maxHeartbeats 4000000 in
set_option maxRecDepth 100000 in
theorem fnames_any (d : Nat) (s : St) (la ka aa ta ea : Option Addr) (lc kc ac tc ec : Nat) (w : World) (hh : Hang d w s (.slice la s.labels.length lc) (.slice ka s.x.ks.length kc) (.slice aa s.args.length ac) (.slice ta s.thn.length tc) (.slice ea s.els.length ec)) (hok : OkE s.x) (hnm : s.nm.size ≤ 9223372036854775807) (hmany : (saidS s).length ≤ 1000000) :
    Calls Try.prog 126 #[.agg #[.int .i64 s.id, .int .i64 s.kind, .slice la s.labels.length lc, .string s.nm, .string s.proc, .int .i64 s.x.op, .int .i64 s.x.n, .string s.x.nm, .slice ka s.x.ks.length kc, .bool s.has, .slice aa s.args.length ac, .slice ta s.thn.length tc, .slice ea s.els.length ec]] w (NamesMade (saidS s) w) := by
  obtain ⟨i0, hi, hz0, hz1, hz2⟩ := info_parts infoStr
  have HH := Lib.hid hh
  have HOK := Lib.hid hok
  have hm1 : (saidN s).length + (namesOf s.x).length + ((s.args.map saidA).flatten).length ≤ 1000000 := by
    have h := hmany
    unfold saidS at h
    rw [List.length_append, List.length_append] at h
    exact h
  have HM := Lib.hid hm1
  obtain ⟨e, he1, he2⟩ : ∃ e : Nat, s.args.length ≤ e ∧ e ≤ 9223372036854775807 := by
    obtain ⟨a', c', hv, h1, h2⟩ := hh.arg.form
    exact ⟨c', h1, h2⟩
  have hal : s.args.length ≤ 9223372036854775807 := Nat.le_trans he1 he2
  clear hh hok hmany hm1 he1 he2
  obtain ⟨L0, hL0⟩ : ∃ L, Hid (saidN s = L) := ⟨_, Lib.hid rfl⟩
  go_enter Try.func126, Try.ntmps126
  go_upto_region 2 with fail
  refine cut_world (fun wx => Below w.heap.size w wx ∧ wx.heap.size = w.heap.size + 1 ∧ BoxAt wx w.heap.size [.int .i64 s.id, .int .i64 s.kind, .slice la s.labels.length lc, .string s.nm, .string s.proc, .int .i64 s.x.op, .int .i64 s.x.n, .string s.x.nm, .slice ka s.x.ks.length kc, .bool s.has, .slice aa s.args.length ac, .slice ta s.thn.length tc, .slice ea s.els.length ec]) ⟨boxed _ _, by simp, box_new w #[.int .i64 s.id, .int .i64 s.kind, .slice la s.labels.length lc, .string s.nm, .string s.proc, .int .i64 s.x.op, .int .i64 s.x.n, .string s.x.nm, .slice ka s.x.ks.length kc, .bool s.has, .slice aa s.args.length ac, .slice ta s.thn.length tc, .slice ea s.els.length ec] 41⟩ ?_
  rintro w1 ⟨hb1, hz1', hx1⟩
  have HZ1 := Lib.hid hz1'
  have HB1 := Lib.hid hb1
  have HX1 := Lib.hid hx1
  clear hb1 hx1 hz1'
  obtain ⟨BB, hBB⟩ : ∃ b, Hid ((!(s.kind == 10) && !noName s.nm) = b) := ⟨_, Lib.hid rfl⟩
  go_cut [0, 13] (fun _ v wx => v = .bool BB ∧ w1 = wx)
  case first =>
    have x1 := HX1.out 1 _ rfl
    have x3 := HX1.out 3 _ rfl
    cases hk : (s.kind == 10) with
    | true =>
      have hl : BB = false := by rw [← hBB.out, hk]; rfl
      subst hl
      have nk : (s.kind != 10) = false := by unfold bne; rw [hk]; rfl
      clear hk
      cases hn : s.nm.toList.isEmpty with
      | true => go_wp2_with fail; go_meet; exact ⟨(by rfl), rfl⟩
      | false => go_wp2_with fail; go_meet; exact ⟨(by rfl), rfl⟩
    | false =>
      have nk : (s.kind != 10) = true := by unfold bne; rw [hk]; rfl
      cases hn : s.nm.toList.isEmpty with
      | true =>
        have hl : BB = false := by rw [← hBB.out]; unfold noName; rw [hk, hn]; rfl
        subst hl
        clear hk
        go_wp2_with fail; go_meet; exact ⟨(by rfl), rfl⟩
      | false =>
        have hl : BB = true := by rw [← hBB.out]; unfold noName; rw [hk, hn]; rfl
        subst hl
        clear hk
        go_wp2_with fail; go_meet; exact ⟨(by rfl), rfl⟩
  case rest =>
  obtain ⟨rfl, rfl⟩ := hcut
  go_upto_if 13 with fail
  go_cut [3] (fun v wx => ∃ (a : Option Addr) (c : Nat), v = .slice a L0.length c ∧ RowS (w.heap.size + 1) wx (.slice a L0.length c) L0 ∧ Below w.heap.size w wx ∧ BoxAt wx w.heap.size [.int .i64 s.id, .int .i64 s.kind, .slice la s.labels.length lc, .string s.nm, .string s.proc, .int .i64 s.x.op, .int .i64 s.x.n, .string s.x.nm, .slice ka s.x.ks.length kc, .bool s.has, .slice aa s.args.length ac, .slice ta s.thn.length tc, .slice ea s.els.length ec] ∧ w.heap.size + 1 ≤ wx.heap.size)
  case first =>
    have x3 := HX1.out 3 _ rfl
    cases BB with
    | false =>
        have hl : L0 = [] := by rw [← hL0.out]; unfold saidN; rw [hBB.out]; rfl
        subst hl
        go_wp2_with fail
        go_meet
        exact ⟨none, 0, (by rfl), RowS.nil _ _, HB1.out, HX1.out, by have := HZ1.out; omega⟩
    | true =>
        have hl : L0 = [s.nm] := by rw [← hL0.out]; unfold saidN; rw [hBB.out]; rfl
        subst hl
        go_wp2_with (at_builtin; refine wpList_append_lies _ rfl (.tmp 14) (.tmp 17) 22 rfl (w.heap.size + 1) 9 i0 (.string ⟨#[]⟩) 1 16 Try.underlying22 hi hz0 hz1 hz2 rfl (by decide) _ _ _ rfl (World.ownsRow_nil _ _ _ _) ⟨_, 0, none⟩ 1 1 [.string s.nm] rfl rfl ?c1 str_cells (by decide) ?c3 ?c4 ?c5 _ rfl ?_)
        case c1 => exact one_str _ _ _
        case c3 => unfold maxLen; omega
        case c4 => omega
        case c5 => have hz9 := HZ1.out; first | omega | (simp; omega)
        intro g4 cap4 w4 hown4 hg4 hat4 hlt4
        have hb4 : Below w1.heap.size w1 w4 := (boxed w1 _).grown hg4 (by simp) fun q hq => by cases hq
        have HB4 := Lib.hid hb4
        have HR4 := Lib.hid (RowS.one (l := []) hown4 (fun _ h => by cases h) hnm)
        have hz4 := hb4.size
        have hz4' := HZ1.out
        clear hown4 hg4 hat4 hlt4 hb4
        go_wp2_with fail
        go_meet
        exact ⟨_, _, rfl, HR4.out, HB1.out.trans (HB4.out.mono HB1.out.size), HX1.out.next HB4.out, by omega⟩
  case rest =>
    obtain ⟨a2, c2, rfl, hr2, hb2, hx2, hz2'⟩ := hcut
    obtain ⟨w2, hw2⟩ : ∃ w2 : World, w2 = wc := ⟨_, rfl⟩
    subst hw2
    have HR2 := Lib.hid hr2
    have HB2 := Lib.hid hb2
    have HX2 := Lib.hid hx2
    have x5 := hx2 5 _ rfl
    have x6 := hx2 6 _ rfl
    have x7 := hx2 7 _ rfl
    have x8 := hx2 8 _ rfl
    clear hr2 hb2 hx2 HX1 HB1
    obtain ⟨L1, hL1⟩ : ∃ L, Hid (namesOf s.x = L) := ⟨_, Lib.hid rfl⟩
    rw [hL1.out, hL0.out] at HM
    go_wp2_with fail
    have hcall := names_any d s.x _ _ HOK.out (ExC.to (HH.out.next HB2.out).kid)
    unfold exV at hcall
    refine hcall.mono ?_
    clear hcall
    rintro e w3 ⟨v3, rfl, hr3, hb3⟩
    rw [hL1.out] at hr3
    obtain ⟨a3, c3, rfl⟩ := ownsForm hr3.1
    have HS3 := Lib.hid (hr3.strs (by have := HM.out; omega))
    have HF3 := Lib.hid hr3.2
    have HB3 := Lib.hid hb3
    have HR3 := Lib.hid (HR2.out.next hb3)
    have hs3 := HB2.out.size
    have hs3' := hb3.size
    have hm0 := HM.out
    clear hr3 hb3 x5 x6 x7 x8
    go_wp2_with (at_builtin; refine wpList_append_sl _ rfl (.tmp 19) (.tmp 22) 22 rfl (w.heap.size + 1) 9 i0 (.string ⟨#[]⟩) 1 16 Try.underlying22 hi hz0 hz1 hz2 rfl (by decide) _ L0.length _ rfl (HR3.out.1) a3 L1.length c3 (L1.map Value.string) rfl HS3.out.news.2.1 ?op1 HS3.out.news.2.2 str_one ?op2 ?op3 ?op4 ?_)
    case op1 => rw [List.length_map, Nat.mul_one]
    case op2 => unfold maxLen; omega
    case op3 => omega
    case op4 => omega
    intro v4 w4 hown4 hg4 hat4
    obtain ⟨L01, hL01⟩ : ∃ L, Hid (L0 ++ L1 = L) := ⟨_, Lib.hid rfl⟩
    have hl01 : L0.length + L1.length = L01.length := by rw [← hL01.out, List.length_append]
    have hr4 : RowS (w.heap.size + 1) w4 v4 L01 := by rw [← hL01.out]; exact RowS.cat hown4 HR3.out.2 HF3.out
    have hb4 : Below w.heap.size w w4 := (HB2.out.trans (HB3.out.mono HB2.out.size)).grown hg4 (by omega) fun q hq => by have := (HR3.out.lt q hq).1; omega
    have hx4 : BoxAt w4 w.heap.size [.int .i64 s.id, .int .i64 s.kind, .slice la s.labels.length lc, .string s.nm, .string s.proc, .int .i64 s.x.op, .int .i64 s.x.n, .string s.x.nm, .slice ka s.x.ks.length kc, .bool s.has, .slice aa s.args.length ac, .slice ta s.thn.length tc, .slice ea s.els.length ec] := (HX2.out.next HB3.out).grown hg4 (fun e => by have := (HR3.out.lt _ e.symm).1; omega)
    have HR4 := Lib.hid hr4
    have HB4 := Lib.hid hb4
    have hgs := hg4.size
    have hz4 : w.heap.size + 1 ≤ w4.heap.size := by omega
    have x10 := hx4 10 _ rfl
    rw [hl01] at hm0
    have HM4 := Lib.hid hm0
    clear HR3 HS3 HF3 HB3 hown4 hg4 hat4 hr4 hb4 hx4 hs3 hs3' hgs hm0 hl01 HX2 HR2 HB2 hz2'
    go_wp2_with fail
    go_loopw [27, 3] (fun i v wr => ∃ (k : Nat) (v0 : Value), k ≤ s.args.length ∧ i = .int .i64 k ∧ v = v0 ∧ RowS (w.heap.size + 1) wr v0 (L01 ++ ((s.args.take k).map saidA).flatten) ∧ Below w.heap.size w wr ∧ w.heap.size + 1 ≤ wr.heap.size) (fun i _ _ => (s.args.length - intOf i).toNat)
    case atStart => exact ⟨0, _, by omega, rfl, rfl, by simpa using HR4.out, HB4.out, hz4⟩
    case round =>
      obtain ⟨k, v, hk, rfl, rfl, hr5, hb5, hz5⟩ := hrel
      obtain ⟨w5, hw5⟩ : ∃ w5 : World, w5 = wr := ⟨_, rfl⟩
      subst hw5
      have HB5 := Lib.hid hb5
      clear x10 hz4
      by_cases hlt : k < s.args.length
      · have hlt' : (k : Int) < (s.args.length : Int) := by omega
        have h0k : (0 : Int) ≤ (k : Int) := by omega
        have hne : s.args ≠ [] := by intro h; rw [h] at hlt; simp at hlt
        obtain ⟨g, off, cap', hv, _, hcells⟩ := SlAt.cells HH.out.arg hne
        simp only [Value.slice.injEq] at hv
        obtain ⟨rfl, -, rfl⟩ := hv
        obtain ⟨r0, r1, r2, kx, r3, r4, r5, r6, hokx, hxx⟩ := hcells k hlt
        have hsl := said_len hlt
        have hst := said_take hlt
        obtain ⟨LK, hLK⟩ : ∃ L, Hid (L01 ++ ((s.args.take k).map saidA).flatten = L) := ⟨_, Lib.hid rfl⟩
        have hlk : L01.length + ((s.args.take k).map saidA).flatten.length = LK.length := by rw [← hLK.out, List.length_append]
        obtain ⟨ar, har⟩ : ∃ ar, Hid (s.args[k] = ar) := ⟨_, Lib.hid rfl⟩
        rw [har.out] at r0 r1 r2 r3 r4 r5 hokx hxx hsl hst
        obtain ⟨LX, hLX⟩ : ∃ L, Hid (namesOf ar.x = L) := ⟨_, Lib.hid rfl⟩
        obtain ⟨LP, hLP⟩ : ∃ L, Hid ((if ar.ref then [ar.nm] else []) = L) := ⟨_, Lib.hid rfl⟩
        have hsa : saidA ar = LP ++ LX := by unfold saidA; rw [hLP.out, hLX.out]
        rw [hsa, List.length_append] at hsl
        have hroom : LK.length + LP.length + LX.length ≤ 1000000 := by have := HM4.out; omega
        have HST := Lib.hid hst
        have HSA := Lib.hid hsa
        have HROOM := Lib.hid hroom
        rw [hLK.out] at hr5
        obtain ⟨va5, vc5, rfl⟩ := ownsForm hr5.1
        obtain ⟨xa, xc, rfl, -, -⟩ := hxx.form
        have d0 : w5.cell? ⟨g, off + k * 6, none⟩ = _ := cell_next hb5 r0
        have d1 : w5.cell? ⟨g, off + k * 6 + 1, none⟩ = _ := cell_next hb5 r1
        have d2 : w5.cell? ⟨g, off + k * 6 + 2, none⟩ = _ := cell_next hb5 r3
        have d3 : w5.cell? ⟨g, off + k * 6 + 3, none⟩ = _ := cell_next hb5 r4
        have d4 : w5.cell? ⟨g, off + k * 6 + 4, none⟩ = _ := cell_next hb5 r5
        have d5 : w5.cell? ⟨g, off + k * 6 + 5, none⟩ = _ := cell_next hb5 r6
        have HR5 := Lib.hid hr5
        have HXX := Lib.hid hxx
        have HOKX := Lib.hid hokx
        have HNMX := Lib.hid r2
        clear hcells r0 r1 r2 r3 r4 r5 r6 hxx hokx hne hb5 hr5 hsl hst hsa hlk hroom
        go_upto_region 8 with fail
        refine cut_world (fun wx => Below w5.heap.size w5 wx ∧ w5.heap.size < wx.heap.size ∧ BoxAt wx w5.heap.size [.bool ar.ref, .string ar.nm, .int .i64 ar.x.op, .int .i64 ar.x.n, .string ar.x.nm, .slice xa ar.x.ks.length xc]) ⟨boxed _ _, by simp, box_new w5 #[.bool ar.ref, .string ar.nm, .int .i64 ar.x.op, .int .i64 ar.x.n, .string ar.x.nm, .slice xa ar.x.ks.length xc] 49⟩ ?_
        clear d0 d1 d2 d3 d4 d5
        rintro w6 ⟨hb6, hz6, hx6⟩
        have HX6 := Lib.hid hx6
        have HR6 := Lib.hid (HR5.out.next hb6)
        have HB6 := Lib.hid (HB5.out.trans (hb6.mono HB5.out.size))
        have hro : ∀ q, (Value.slice va5 LK.length vc5).ownBlock = some q → q < w5.heap.size := fun q hq => (HR5.out.lt q hq).2
        have HRO := Lib.hid hro
        have a0 := hx6 0 _ rfl
        have a1 := hx6 1 _ rfl
        clear hb6 hx6 hro
        go_upto_if 32 with fail
        go_cut [3] (fun v wx => ∃ (a : Option Addr) (c : Nat), v = .slice a (LK.length + LP.length) c ∧ RowS (w.heap.size + 1) wx (.slice a (LK.length + LP.length) c) (LK ++ LP) ∧ Below w.heap.size w wx ∧ BoxAt wx w5.heap.size [.bool ar.ref, .string ar.nm, .int .i64 ar.x.op, .int .i64 ar.x.n, .string ar.x.nm, .slice xa ar.x.ks.length xc] ∧ w.heap.size + 1 ≤ wx.heap.size)
        case first =>
          cases hr : ar.ref with
          | true =>
            rw [hr] at a0
            have hl : LP = [ar.nm] := by rw [← hLP.out, hr]; rfl
            subst hl
            have hroom := HROOM.out
            rw [List.length_singleton] at hroom
            go_wp2_with (at_builtin; refine wpList_append_lies _ rfl (.tmp 33) (.tmp 36) 22 rfl (w.heap.size + 1) 9 i0 (.string ⟨#[]⟩) 1 16 Try.underlying22 hi hz0 hz1 hz2 rfl (by decide) _ _ _ rfl ((HR6.out.1.alloc _)) ⟨_, 0, none⟩ 1 1 [.string ar.nm] rfl rfl ?c1 str_cells (by decide) ?c3 ?c4 ?c5 _ rfl ?_)
            case c1 => exact one_str _ _ _
            case c3 => unfold maxLen; omega
            case c4 => omega
            case c5 => first | omega | (simp; omega)
            intro g7 cap7 w7 hown7 hg7 hat7 hlt7
            have hgg := (grown_of (boxed w6 _) _).trans hg7
            have HR7 := Lib.hid (RowS.one hown7 HR6.out.2 HNMX.out)
            have HG7 := Lib.hid hgg
            have hs7 := hgg.size
            clear hown7 hg7 hat7 hlt7 hgg hroom
            go_wp2_with fail
            go_meet
            refine ⟨_, _, rfl, HR7.out, HB6.out.grown HG7.out HB6.out.size fun q hq => ?_, HX6.out.grown HG7.out (fun e => ?_), by omega⟩
            · have := (HR6.out.lt q hq).1; omega
            · have := HRO.out _ e.symm; omega
          | false =>
            have hl : LP = [] := by rw [← hLP.out, hr]; rfl
            subst hl
            go_wp2_with fail
            go_meet
            exact ⟨_, _, rfl, by simpa using HR6.out, HB6.out, HX6.out, by omega⟩
        case rest =>
          obtain ⟨a7, c7, rfl, hr7, hb7, hx7, hz7⟩ := hcut
          obtain ⟨w7, hw7⟩ : ∃ w7 : World, w7 = wc := ⟨_, rfl⟩
          subst hw7
          have HR7 := Lib.hid hr7
          have HB7 := Lib.hid hb7
          have b2 := hx7 2 _ rfl
          have b3 := hx7 3 _ rfl
          have b4 := hx7 4 _ rfl
          have b5 := hx7 5 _ rfl
          clear hr7 hb7 hx7 HX6 HR6 HB6 HR5 HB5 hz5 hz6 HRO
          go_wp2_with fail
          refine (names_any d ar.x _ _ HOKX.out (ExC.to (ExC.mono (cw_next HB7.out) HXX.out))).mono ?_
          rintro e w8 ⟨v8, rfl, hr8, hb8⟩
          rw [hLX.out] at hr8
          obtain ⟨a8, c8, rfl⟩ := ownsForm hr8.1
          have hroom := HROOM.out
          have HS8 := Lib.hid (hr8.strs (by omega))
          have HF8 := Lib.hid hr8.2
          have HR8 := Lib.hid (HR7.out.next hb8)
          have HB8 := Lib.hid (HB7.out.trans (hb8.mono HB7.out.size))
          have hs8 := hb8.size
          have HOW8 : Hid (w8.ownsRow (w.heap.size + 1) 9 1 (.slice a7 (LK.length + LP.length) c7) (LK.length + LP.length) ((LK ++ LP).map Value.string)) := Lib.hid (by have h := HR8.out.1; rw [List.length_append] at h; exact h)
          clear hr8 hb8 b2 b3 b4 b5
          go_wp2_with (at_builtin; refine wpList_append_sl _ rfl (.tmp 38) (.tmp 41) 22 rfl (w.heap.size + 1) 9 i0 (.string ⟨#[]⟩) 1 16 Try.underlying22 hi hz0 hz1 hz2 rfl (by decide) _ (LK.length + LP.length) _ rfl (HOW8.out) a8 LX.length c8 (LX.map Value.string) rfl HS8.out.news.2.1 ?oq1 HS8.out.news.2.2 str_one ?oq2 ?oq3 ?oq4 ?_)
          case oq1 => rw [List.length_map, Nat.mul_one]
          case oq2 => unfold maxLen; omega
          case oq3 => omega
          case oq4 => omega
          intro v9 w9 hown9 hg9 hat9
          have hr9 : RowS (w.heap.size + 1) w9 v9 ((LK ++ LP) ++ LX) := RowS.cat (by rw [List.length_append, List.map_append, List.append_assoc]; exact hown9) HR8.out.2 HF8.out
          have hb9 : Below w.heap.size w w9 := HB8.out.grown hg9 HB8.out.size fun q hq => by have := (HR8.out.lt q hq).1; omega
          have HR9 := Lib.hid hr9
          have HB9 := Lib.hid hb9
          have hs9 := hg9.size
          clear hown9 hg9 hat9 hr9 hb9
          go_wp2_with fail
          go_roundw
          case rel =>
            refine ⟨k + 1, _, by omega, by go_num, rfl, ?_, HB9.out, by omega⟩
            rw [HST.out, HSA.out, ← List.append_assoc, ← List.append_assoc, hLK.out]
            exact HR9.out
          case measure => simp [intOf]; omega
      · have hlt' : ¬ (k : Int) < (s.args.length : Int) := by omega
        have hke : k = s.args.length := by omega
        subst hke
        rw [List.take_length] at hr5
        have HR5 := Lib.hid hr5
        clear hr5 hb5
        go_wp2_with fail
        go_ret
        refine ⟨_, rfl, ?_, HB5.out⟩
        have h := HR5.out.mono (B' := w.heap.size) (by omega)
        unfold saidS
        rw [hL0.out, hL1.out, hL01.out]
        exact h
end Go.Proofs.Ytghlmengcidmdaa.Tr
end
section
/- Procedures made anew, each in a stretch of memory of its own. No program's code. Conditions: none. -/
namespace Go.Proofs.Ytghlmengcidmdaa.Tr
open Go.RowKit Go.Proofs.Ytghlmengcidmdaa.Lx Go.Proofs.Ytghlmengcidmdaa.Wd
theorem owns_same {w w' : World} {B : Nat} {e : TypeId} {z : Nat} {v : Value} {n : Nat} {xs : List Value} (h : w.ownsRow B e z v n xs) (hs : ∀ g, v.ownBlock = some g → w'.heap[g]? = w.heap[g]?) : w'.ownsRow B e z v n xs := by
  refine ⟨h.1, ?_⟩
  rcases h.2 with h2 | ⟨g, cap, cur, h1, h2, h3, h4⟩
  · exact .inl h2
  · exact .inr ⟨g, cap, cur, h1, h2, by rw [hs g (by rw [h1]; rfl)]; exact h3, h4⟩
theorem rows_same {w w' : World} {B : Nat} {v : Value} {l : List ByteArray} (h : RowS B w v l) (hs : ∀ g, v.ownBlock = some g → w'.heap[g]? = w.heap[g]?) : RowS B w' v l := ⟨owns_same h.1 hs, h.2⟩
theorem cs_same {S T : Nat → Prop} {w w' : World} (hs : ∀ g, S g → g < w.heap.size → w'.heap[g]? = w.heap[g]? ∧ T g) : Cs.le (only S (cw w)) (only T (cw w')) := fun g j u ⟨h1, h2⟩ => by
  obtain ⟨h3, h4⟩ := hs g h1 (cell_lt h2)
  refine ⟨h4, ?_⟩
  show w'.cell? ⟨g, j, none⟩ = some u
  rw [World.cell?_of_block (a := ⟨g, j, none⟩) h3]
  exact h2
theorem set_block {w : World} {b j g : Nat} {u : Value} (h : g ≠ b) : (w.setCell ⟨b, j, none⟩ u).heap[g]? = w.heap[g]? := Below.heap_setCell w ⟨b, j, none⟩ u g h
/-- A procedure made anew: its rows lie in the stretch from lo on, each in a block of its own. -/
def PcZ (d lo : Nat) (w : World) (c : List Value) (f : Pc) : Prop := ∃ (M N : Nat) (pv vv bv fv : Value), c = [.string f.nm, pv, vv, bv, fv] ∧ f.nm.size ≤ 9223372036854775807 ∧ lo ≤ M ∧ M ≤ N ∧ N ≤ w.heap.size ∧
  RowS lo w vv f.vars ∧ (∀ g, vv.ownBlock = some g → g < M) ∧
  StrC (only (fun g => M ≤ g ∧ g < N) (cw w)) fv f.fin ∧ StC (only (fun g => M ≤ g ∧ g < N) (cw w)) d bv f.body ∧
  w.ownsRow N 62 2 pv f.params.length (paRows f.params) ∧ (∀ q ∈ f.params, q.nm.size ≤ 9223372036854775807)
structure Zones (d : Nat) (fs : List Pc) (rows : List (List Value)) (w : World) (v : Value) (B : Nat) (Lo : Nat → Nat) (W : Nat → World) : Prop where
  pc : ∀ i (_ : i < fs.length) (_ : i < rows.length), PcZ d (Lo i) (W i) rows[i] fs[i]
  lo : ∀ i, i < fs.length → B ≤ Lo i ∧ Lo i ≤ (W i).heap.size ∧ (W i).heap.size ≤ w.heap.size
  apart : ∀ i j, i < j → j < fs.length → (W i).heap.size ≤ Lo j
  kept : ∀ i, i < fs.length → ∀ g, Lo i ≤ g → g < (W i).heap.size → w.heap[g]? = (W i).heap[g]?
  out : ∀ i, i < fs.length → ∀ g, v.ownBlock = some g → g < Lo i ∨ (W i).heap.size ≤ g
theorem Zones.nil {d : Nat} {w : World} {v : Value} {B : Nat} {Lo : Nat → Nat} {W : Nat → World} : Zones d [] [] w v B Lo W :=
  ⟨fun _ h => absurd h (Nat.not_lt_zero _), fun _ h => absurd h (Nat.not_lt_zero _), fun _ _ _ h => absurd h (Nat.not_lt_zero _), fun _ h => absurd h (Nat.not_lt_zero _), fun _ h => absurd h (Nat.not_lt_zero _)⟩
variable {d : Nat} {fs : List Pc} {rows : List (List Value)} {v : Value} {B : Nat} {Lo : Nat → Nat} {W : Nat → World}
theorem Zones.same {w w' : World} (h : Zones d fs rows w v B Lo W) (hs : w.heap.size ≤ w'.heap.size) (hk : ∀ i, i < fs.length → ∀ g, Lo i ≤ g → g < (W i).heap.size → w'.heap[g]? = w.heap[g]?) : Zones d fs rows w' v B Lo W :=
  ⟨h.pc, fun i hi => ⟨(h.lo i hi).1, (h.lo i hi).2.1, Nat.le_trans (h.lo i hi).2.2 hs⟩, h.apart, fun i hi g h1 h2 => (hk i hi g h1 h2).trans (h.kept i hi g h1 h2), h.out⟩
theorem Zones.set {w : World} (h : Zones d fs rows w v B Lo W) {R j : Nat} (hR : R < B) (u : Value) : Zones d fs rows (w.setCell ⟨R, j, none⟩ u) v B Lo W :=
  h.same (by rw [World.size_setCell]; exact Nat.le_refl _) fun i hi g h1 _ => set_block (by have := (h.lo i hi).1; omega)
theorem Zones.step {w0 w1 w2 w3 w4 : World} {v4 : Value} {f : Pc} {c : List Value} {Y slot : Nat} (h : Zones d fs rows w0 v B Lo W) (hrl : rows.length = fs.length) (hv : ∀ g, v.ownBlock = some g → g < w0.heap.size) (hB : B ≤ w0.heap.size)
    (h01 : Below w0.heap.size w0 w1) (h12 : Below w1.heap.size w1 w2) (h23 : Below w2.heap.size w2 w3) (hg : w3.grownBy w4 v.ownBlock) (hat : ∀ g, v4.ownBlock = some g → v.ownBlock = some g ∨ w2.heap.size ≤ g) (hY : Y < B) (hx : PcZ d w1.heap.size w2 c f) :
    Zones d (fs ++ [f]) (rows ++ [c]) (w4.setCell ⟨Y, slot, none⟩ v4) v4 B (fun i => if i = fs.length then w1.heap.size else Lo i) (fun i => if i = fs.length then w2 else W i) := by
  have s01 := h01.size
  have s12 := h12.size
  have s23 := h23.size
  have s34 := hg.size
  have hblk : ∀ g, g < w3.heap.size → v.ownBlock ≠ some g → g ≠ Y → (w4.setCell ⟨Y, slot, none⟩ v4).heap[g]? = w3.heap[g]? := fun g h1 h2 h3 => by
    rw [set_block h3]
    exact hg.block g h1 (fun e => h2 e.symm)
  refine ⟨fun i h1 h2 => ?_, fun i h1 => ?_, fun i j hij hj => ?_, fun i h1 g h2 h3 => ?_, fun i h1 g h2 => ?_⟩
  · simp only [List.length_append, List.length_singleton] at h1 h2
    by_cases hi : i = fs.length
    · rw [if_pos hi, if_pos hi]
      have e1 : (fs ++ [f])[i] = f := by simp [hi]
      have e2 : (rows ++ [c])[i] = c := by simp [hi, hrl]
      rw [e1, e2]
      exact hx
    · rw [if_neg hi, if_neg hi]
      have e1 : (fs ++ [f])[i] = fs[i]'(by omega) := List.getElem_append_left _
      have e2 : (rows ++ [c])[i] = rows[i]'(by omega) := List.getElem_append_left _
      rw [e1, e2]
      exact h.pc i (by omega) (by omega)
  · simp only [List.length_append, List.length_singleton] at h1
    simp only [World.size_setCell]
    by_cases hi : i = fs.length
    · simp only [if_pos hi]
      omega
    · simp only [if_neg hi]
      have := h.lo i (by omega)
      omega
  · simp only [List.length_append, List.length_singleton] at hj
    have hi : i ≠ fs.length := by omega
    simp only [if_neg hi]
    by_cases hjk : j = fs.length
    · simp only [if_pos hjk]
      have := h.lo i (by omega)
      omega
    · simp only [if_neg hjk]
      exact h.apart i j hij (by omega)
  · simp only [List.length_append, List.length_singleton] at h1
    by_cases hi : i = fs.length
    · simp only [if_pos hi] at h2 h3 ⊢
      rw [hblk g (by omega) (fun e => by have := hv g e; omega) (by omega)]
      exact h23.block g h3
    · simp only [if_neg hi] at h2 h3 ⊢
      have h4 := h.lo i (by omega)
      rw [hblk g (by omega) (fun e => by have := h.out i (by omega) g e; omega) (by omega)]
      rw [h23.block g (by omega), h12.block g (by omega), h01.block g (by omega)]
      exact h.kept i (by omega) g h2 h3
  · simp only [List.length_append, List.length_singleton] at h1
    by_cases hi : i = fs.length
    · simp only [if_pos hi]
      rcases hat g h2 with h3 | h3
      · have := hv g h3; omega
      · exact .inr h3
    · simp only [if_neg hi]
      rcases hat g h2 with h3 | h3
      · exact h.out i (by omega) g h3
      · have := h.lo i (by omega)
        exact .inr (by omega)
/-- What Put leaves: each row its own. -/
def ProgZ (d : Nat) (p : Pr) (w : World) (e : Ending) (w' : World) : Prop := ∃ gv pv B rows Lo W, e = .returned (.agg #[gv, pv]) ∧ w.heap.size ≤ B ∧ RowS w.heap.size w' gv p.globals ∧ (∀ g, gv.ownBlock = some g → g < B) ∧
  Acc (PcQ d) B 55 5 w' pv p.procs rows ∧ Zones d p.procs rows w' pv B Lo W ∧ Below w.heap.size w w'
/-- One that holds where what is zoned is as it was. -/
theorem PcZ.q {lo : Nat} {w w' : World} {c : List Value} {f : Pc} (h : PcZ d lo w c f) (hs : ∀ g, lo ≤ g → g < w.heap.size → w'.heap[g]? = w.heap[g]?) (hp : f.params.length ≤ 9223372036854775807) (hv : f.vars.length ≤ 9223372036854775807) : PcQ d (cw w') c f := by
  obtain ⟨M, N, pv, vv, bv, fv, h1, h2, h3, h4, h5, h6, h7, h8, h9, h10, h11⟩ := h
  refine ⟨pv, vv, bv, fv, h1, h2, ?_, ?_, ?_, ?_⟩
  · have h12 : w'.ownsRow N 62 2 pv f.params.length (paRows f.params) := owns_same h10 fun g hg => hs g (by have := (h10.lt g hg).1; omega) (h10.lt g hg).2
    exact SlAt.imp (pa_owned h12 rfl hp h11) fun _ _ _ _ => PaAt.mono only_out
  · have h12 : RowS lo w' vv f.vars := rows_same h6 fun g hg => hs g (h6.lt g hg).1 (h6.lt g hg).2
    exact StrC.mono only_out (strs_owned h12.1 rfl hv h12.2)
  · exact StC.mono (Cs.le_trans (cs_same (T := fun _ => True) fun g hg hl => ⟨hs g (by omega) hl, trivial⟩) only_out) h9
  · exact StrC.mono (Cs.le_trans (cs_same (T := fun _ => True) fun g hg hl => ⟨hs g (by omega) hl, trivial⟩) only_out) h8
theorem rows_five {w : World} {l : List ByteArray} {b : Nat} {x0 x1 x2 x3 x4 : Value} {u : Value} (h : RowS B w u l) (hb : ∀ g, u.ownBlock = some g → g ≠ b) : RowS B (((((w.setCell ⟨b, 0, none⟩ x0).setCell ⟨b, 1, none⟩ x1).setCell ⟨b, 2, none⟩ x2).setCell ⟨b, 3, none⟩ x3).setCell ⟨b, 4, none⟩ x4) u l :=
  rows_same h fun g hg => by
    have := hb g hg
    rw [set_block this, set_block this, set_block this, set_block this, set_block this]
end Go.Proofs.Ytghlmengcidmdaa.Tr
end
