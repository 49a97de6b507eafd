/- The ids come again: what Number makes of a program with other ids. How many items All has. No program. Conditions: the program may be. -/
import Derived.Test.YtnbclbphggmenaaMarP
import Derived.Test.YtnbclbphggmenaaNumP
import Derived.Test.YtnbclbphggmenaaRMayP
import Derived.Test.YtnbclbphggmenaaTurnP
namespace Go.Proofs.Ytnbclbphggmenaa.Tr
open Go.RowKit Go.Proofs.Ytnbclbphggmenaa.Lx Go.Proofs.Ytnbclbphggmenaa.Wd
mutual
theorem mar_cntS (b m : Int) : ∀ s : St, cntS (marS b m s) = cntS s
  | .mk i k ls nm pr x h ar th el => by rw [marS, cntS, cntS, mar_cntL b m th, mar_cntL b m el]
theorem mar_cntL (b m : Int) : ∀ l : List St, cntL (marL b m l) = cntL l
  | [] => by rw [marL]
  | s :: r => by rw [marL, cntL, cntL, mar_cntS b m s, mar_cntL b m r]
end
mutual
theorem num_marS (b m : Int) : ∀ (s : St) (nest n : Int), rowS 200 12 nest n s = true → 0 ≤ n → cpS true n (marS b m s) = s
  | .mk i k ls nm pr x h ar th el, nest, n => fun hr h0 => by
    rw [rowS_eq] at hr
    simp only [Bool.and_eq_true, decide_eq_true_eq, beq_iff_eq, St.id, St.labels, St.thn, St.els] at hr
    have hn := hr.1.1.1.1.2
    have hm := hr.1.1.1.1.1
    have e : wrap64 (n + 1) = i := by unfold wrap64; omega
    rw [marS, cpS, mar_cntL, num_marL b m th _ _ hr.1.2 (by omega), num_marL b m el _ _ hr.2 (by omega), if_pos rfl, e]
theorem num_marL (b m : Int) : ∀ (l : List St) (nest n : Int), rowsL 200 12 nest n l = true → 0 ≤ n → cpL true n (marL b m l) = l
  | [], nest, n => fun _ _ => by rw [marL, cpL]
  | s :: r, nest, n => fun hr h0 => by
    rw [rowsL_cons] at hr
    simp only [Bool.and_eq_true, decide_eq_true_eq] at hr
    rw [marL, cpL, mar_cntS, num_marS b m s _ _ hr.1.2 h0, num_marL b m r _ _ hr.2 (by omega)]
end
theorem num_marPs (b m : Int) : ∀ (l : List Pc) (n : Int), mayPs n l = true → 0 ≤ n → numPs n (l.map (marPc b m)) = l := by
  intro l
  induction l with
  | nil => intro n _ _; rfl
  | cons f r ih =>
    intro n h h0
    rw [mayPs, Bool.and_eq_true] at h
    rw [List.map_cons, numPs]
    have e1 : cntL (marPc b m f).body = cntL f.body := mar_cntL b m f.body
    have e2 : numPc n (marPc b m f) = f := by
      unfold numPc
      show Pc.mk f.nm f.params f.vars (cpL true n (marL b m f.body)) f.fin = f
      rw [num_marL b m f.body _ _ (mayPc_rows h.1) h0]
    rw [e1, e2, ih _ h.2 (by omega)]
theorem num_mar (b m : Int) {p : Pr} (h : mayP p = true) : numPr (marPr b m p) = p := by
  unfold numPr marPr
  rw [num_marPs b m p.procs 0 (mayP_procs h) (by omega)]
theorem mar_cnt (b m : Int) (p : Pr) : cntP (marPr b m p).procs = cntP p.procs := by
  unfold cntP marPr
  rw [List.map_map]
  congr 1
  apply List.map_congr_left
  intro f _
  exact mar_cntL b m f.body
theorem mar_lightS (b m : Int) : ∀ s : St, wtS (marS b m s) = wtS s ∧ True := fun s => by
  refine ⟨?_, trivial⟩
  exact go s
where
  go : ∀ s : St, wtS (marS b m s) = wtS s
  | .mk i k ls nm pr x h ar th el => by rw [marS, wtS, wtS, goL th, goL el]
  goL : ∀ l : List St, wtL (marL b m l) = wtL l
  | [] => by rw [marL]
  | s :: r => by rw [marL, wtL, wtL, go s, goL r]
theorem mar_lightL (b m : Int) (l : List St) : wtL (marL b m l) = wtL l := by
  induction l with
  | nil => rw [marL]
  | cons s r ih => rw [marL, wtL, wtL, (mar_lightS b m s).1, ih]
theorem mar_light (b m : Int) (p : Pr) : wtPr (marPr b m p) = wtPr p := by
  unfold wtPr marPr
  simp only
  rw [List.map_map]
  congr 2
  apply List.map_congr_left
  intro f _
  unfold Function.comp wtPc marPc
  simp only
  rw [mar_lightL]
theorem all_len : ∀ (l : List Pc) (out : List It), mayPs out.length l = true → out.length ≤ 200 → (allPs l out).length = out.length + cntP l := by
  intro l
  induction l with
  | nil => intro out _ _; simp [allPs, cntP]
  | cons f r ih =>
    intro out h h0
    have h3 := mayPs_most _ _ h (by omega)
    rw [mayPs, Bool.and_eq_true] at h
    have e : cntP (f :: r) = cntL f.body + cntP r := by unfold cntP; rw [List.map_cons, List.sum_cons]
    have hfl : (flatOf f).length = cntL f.body := by
      obtain ⟨t1, t2⟩ := tk_flat out.length (by omega) f
      exact t2 (by rw [t1, mayPc_rows h.1, decide_eq_true (by omega)]; rfl)
    have hl : (out ++ flatOf f).length = out.length + cntL f.body := by rw [List.length_append, hfl]
    rw [allPs_cons, if_neg (by rw [hl]; rw [e] at h3; push_cast at h3; omega), ih _ (by rw [hl]; push_cast; exact h.2) (by rw [hl]; rw [e] at h3; push_cast at h3; omega), hl, e]
    omega
theorem allOf_cnt {p : Pr} (h : mayP p = true) : (allOf p).length = cntP p.procs := by
  have := all_len p.procs [] (by simpa using mayP_procs h) (by simp)
  unfold allOf
  rw [this]
  simp
end Go.Proofs.Ytnbclbphggmenaa.Tr
