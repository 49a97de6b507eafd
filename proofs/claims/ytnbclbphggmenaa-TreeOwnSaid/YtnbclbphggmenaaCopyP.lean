/- What Copy of the reference makes: the same program anew, where no id is -1. Conditions: it lies in memory and is light. -/
import Derived.Test.YtnbclbphggmenaaPutP
import Derived.Test.YtnbclbphggmenaaFindL
namespace Go.Proofs.Ytnbclbphggmenaa.Tr
open Go.RowKit Go.Proofs.Ytnbclbphggmenaa.Lx Go.Proofs.Ytnbclbphggmenaa.Wd
def tneg : St := .mk (-1) 0 [] ⟨#[]⟩ ⟨#[]⟩ (.mk 0 0 ⟨#[]⟩ []) false [] [] []
mutual
theorem put_sameS : ∀ (s : St) (nest n : Int), rowS 200 12 nest n s = true → 0 ≤ n → putS tneg s = s
  | .mk i k ls nm pr x h ar th el, nest, n => fun hr h0 => by
    rw [rowS_eq] at hr
    simp only [Bool.and_eq_true, decide_eq_true_eq, beq_iff_eq, St.id, St.labels, St.thn, St.els] at hr
    have hi : i ≠ tneg.id := by have := hr.1.1.1.1.2; show i ≠ -1; omega
    rw [putS, if_neg hi, put_sameL th _ _ hr.1.2 (by omega), put_sameL el _ _ hr.2 (by omega)]
theorem put_sameL : ∀ (l : List St) (nest n : Int), rowsL 200 12 nest n l = true → 0 ≤ n → putL tneg l = l
  | [], nest, n => fun _ _ => by rw [putL]
  | s :: r, nest, n => fun hr h0 => by
    rw [rowsL_cons] at hr
    simp only [Bool.and_eq_true, decide_eq_true_eq] at hr
    rw [putL, put_sameS s _ _ hr.1.2 h0, put_sameL r _ _ hr.2 (by omega)]
end
theorem put_samePs : ∀ (l : List Pc) (n : Int), mayPs n l = true → 0 ≤ n → l.map (putPc tneg) = l := by
  intro l
  induction l with
  | nil => intro n _ _; rfl
  | cons f r ih =>
    intro n h h0
    rw [mayPs, Bool.and_eq_true] at h
    have h3 : rowsL 200 12 1 n f.body = true := by have := h.1; unfold mayPc at this; rw [Bool.and_eq_true] at this; exact this.2
    rw [List.map_cons, ih _ h.2 (by omega)]
    have : putPc tneg f = f := by unfold putPc; rw [put_sameL f.body _ _ h3 h0]
    rw [this]
theorem put_sameP {p : Pr} (h : mayP p = true) : putPr tneg p = p := by
  unfold mayP at h
  simp only [Bool.and_eq_true] at h
  unfold putPr
  rw [put_samePs p.procs 0 h.2 (by omega)]
set_option maxHeartbeats 1000000 in
theorem copyP_row (d : Nat) (p : Pr) (gv pv : Value) (w : World) (hp : PrC (cw w) d gv pv p) (hwp : wtPr p ≤ 20000) : Calls Try.prog 47 #[.agg #[gv, pv]] w (ProgRow (d + 1) (putPr tneg p) w) := by
  obtain ⟨ga, gc, rfl, -, -⟩ := hp.1.form
  obtain ⟨pa, pc, rfl, hl1, hl2⟩ := hp.2.form
  have HP := Lib.hid hp
  have HWP := Lib.hid hwp
  clear hp hwp
  go_enter Try.func47, Try.ntmps47
  go_upto_region 1 with fail
  refine cut_world (fun wx => Below w.heap.size w wx ∧ w.heap.size + 1 < wx.heap.size ∧ BoxAt wx w.heap.size [.slice ga p.globals.length gc, .slice pa p.procs.length pc] ∧ BoxAt wx (w.heap.size + 1) [.slice none 0 0, .slice none 0 0] ∧ Free wx (w.heap.size + 1)) ⟨?_, by simp, ?_, ?_, ?_⟩ ?_
  · exact (boxed w _).alloc (by simp) _
  · exact (box_new w #[.slice ga p.globals.length gc, .slice pa p.procs.length pc] 46).next (boxed _ _)
  · exact box_two w _ #[.slice none 0 0, .slice none 0 0] 46
  · exact fun j => by simp [go_sem]
  rintro w1 ⟨hb1, hz1, hx1, hr1, hf1⟩
  have HB1 := Lib.hid hb1
  have HR1 := Lib.hid hr1
  have HF1 := Lib.hid hf1
  have HP1 := Lib.hid (PrC.mono (cw_next hb1) HP.out)
  have e0 := hx1 0 _ rfl
  have e1 := hx1 1 _ rfl
  clear hb1 hx1 hr1 hf1
  go_wp2_with fail
  have hput := putP_row 1 tneg ⟨by unfold InI; decide, by unfold InI; decide, by decide⟩ (by unfold InI; decide) (by unfold InI; decide) (by decide) (by decide) (LightS.of (by decide)) none none none none none 0 0 0 0 0 d p _ _ w1 HP1.out HWP.out ⟨StrC.none _, ExC.none _ _, SlAt.nil, SlAt.nil, SlAt.nil⟩
  unfold stCells at hput
  refine hput.mono ?_
  rintro e w2 ⟨gv, pv, B, rows, rfl, hB2, hg2, hacc2, hb2⟩
  obtain ⟨ga2, gc2, rfl, -, -⟩ := hg2.form
  obtain ⟨pa2, pc2, rfl⟩ := ownsForm hacc2.own
  generalize (putPr tneg p).globals.length = n1 at *
  generalize (putPr tneg p).procs.length = n2 at *
  have HG2 := Lib.hid hg2
  have HACC2 := Lib.hid hacc2
  have HBB2 := Lib.hid hB2
  have HB2 := Lib.hid hb2
  have r0 := HR1.out.next hb2 0 _ rfl
  have r1 := HR1.out.next hb2 1 _ rfl
  have f0 := HF1.out.next hz1 hb2 0
  have f1 := HF1.out.next hz1 hb2 1
  clear hg2 hacc2 hB2 hb2 hput e0 e1
  go_wp2_with fail
  have q0 : ((w2.setCell ⟨w.heap.size + 1, 0, none⟩ (.slice ga2 n1 gc2)).setCell ⟨w.heap.size + 1, 1, none⟩ (.slice pa2 n2 pc2)).cell? ⟨w.heap.size + 1, 0, none⟩ = some (.slice ga2 n1 gc2) := cell_set_ne (cell_set r0) (by decide)
  have q1 : ((w2.setCell ⟨w.heap.size + 1, 0, none⟩ (.slice ga2 n1 gc2)).setCell ⟨w.heap.size + 1, 1, none⟩ (.slice pa2 n2 pc2)).cell? ⟨w.heap.size + 1, 1, none⟩ = some (.slice pa2 n2 pc2) := cell_set (cell_set_ne r1 (by decide))
  refine bodyPost_ret (v := .agg #[.slice ga2 n1 gc2, .slice pa2 n2 pc2]) (by simp [results, Try.results47, go_sem, q0, q1]) rfl ⟨.slice ga2 n1 gc2, .slice pa2 n2 pc2, B, rows, rfl, ?_, ?_, ?_, ?_⟩
  · have := HBB2.out; omega
  · have hs := HB1.out.size
    exact StrC.mono (Cs.le_trans (only_set (by omega)) (Cs.le_trans (only_set (by omega)) (only_le (fun g (h : w1.heap.size ≤ g ∧ g < B) => (⟨by omega, h.2⟩ : w.heap.size ≤ g ∧ g < B)) (fun _ _ _ h => h)))) HG2.out
  · have hs := HBB2.out
    exact (HACC2.out.set (PcQ.mono _) (b := w.heap.size + 1) (by omega) _).set (PcQ.mono _) (b := w.heap.size + 1) (by omega) _
  · exact ((HB1.out.trans (HB2.out.mono HB1.out.size)).setCell (p := ⟨_, _, none⟩) (by simp) _).setCell (p := ⟨_, _, none⟩) (by simp) _
theorem copyP_any (d : Nat) (p : Pr) (gv pv : Value) (w : World) (hp : PrC (cw w) d gv pv p) (hwp : wtPr p ≤ 20000) : Calls Try.prog 47 #[.agg #[gv, pv]] w (ProgMade (d + 1) (putPr tneg p) w) := (copyP_row d p gv pv w hp hwp).mono fun _ _ h => h.made
end Go.Proofs.Ytnbclbphggmenaa.Tr
