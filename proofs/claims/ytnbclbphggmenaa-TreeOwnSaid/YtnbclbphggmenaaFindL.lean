/- What flat's row says of find: the first item of an id is the statement that find tells; ids are one after another. No program. Conditions: the rows may be. -/
import Derived.Test.YtnbclbphggmenaaFlatW
import Derived.Test.YtnbclbphggmenaaBTreed
import Derived.Test.YtnbclbphggmenaaFindP
namespace Go.Proofs.Ytnbclbphggmenaa.Tr
open Go.RowKit Go.Proofs.Ytnbclbphggmenaa.Lx Go.Proofs.Ytnbclbphggmenaa.Wd
mutual
def preS : Int → Int → Bool → St → List It
  | deep, inn, els, .mk id k ls nm pr x h ar th el => ⟨.mk id k ls nm pr x h ar th el, deep, inn, els⟩ :: (preL (deep + 1) id false th ++ preL (deep + 1) id true el)
def preL : Int → Int → Bool → List St → List It
  | _, _, _, [] => []
  | deep, inn, els, s :: r => preS deep inn els s ++ preL deep inn els r
end
theorem preS_eq (deep inn : Int) (els : Bool) (s : St) : preS deep inn els s = ⟨s, deep, inn, els⟩ :: (preL (deep + 1) s.id false s.thn ++ preL (deep + 1) s.id true s.els) := by cases s; simp only [preS, St.id, St.thn, St.els]
theorem preL_cons (deep inn : Int) (els : Bool) (s : St) (r : List St) : preL deep inn els (s :: r) = preS deep inn els s ++ preL deep inn els r := by simp only [preL]
mutual
theorem preS_len : ∀ (s : St) (deep inn : Int) (els : Bool), (preS deep inn els s).length = cntS s
  | .mk id k ls nm pr x h ar th el, deep, inn, els => by
    rw [preS, cntS, List.length_cons, List.length_append, preL_len th, preL_len el]
    omega
theorem preL_len : ∀ (l : List St) (deep inn : Int) (els : Bool), (preL deep inn els l).length = cntL l
  | [], deep, inn, els => by rw [preL, cntL]; rfl
  | s :: r, deep, inn, els => by rw [preL, cntL, List.length_append, preS_len s, preL_len r]
end
mutual
theorem flatS_pre : ∀ (s : St) (deep n : Int) (out : List It), deep ≤ 12 → rowS 200 12 deep n s = true → out.length + cntL s.thn + cntL s.els ≤ 200 → flatS s deep out = out ++ (preL (deep + 1) s.id false s.thn ++ preL (deep + 1) s.id true s.els)
  | .mk id k ls nm pr x h ar th el, deep, n, out => fun hd hr hl => by
    rw [rowS_eq] at hr
    simp only [Bool.and_eq_true, decide_eq_true_eq, St.id, St.labels, St.thn, St.els] at hr hl ⊢
    rw [flatS, if_pos hd, flatL_pre th _ _ _ _ _ hr.1.2 (by omega), flatL_pre el _ _ _ _ _ hr.2 (by rw [List.length_append, preL_len]; omega), List.append_assoc]
theorem flatL_pre : ∀ (l : List St) (deep inn n : Int) (els : Bool) (out : List It), rowsL 200 12 deep n l = true → out.length + cntL l ≤ 200 → flatL l deep inn els out = out ++ preL deep inn els l
  | [], deep, inn, n, els, out => fun _ _ => by rw [flatL, preL, List.append_nil]
  | s :: r, deep, inn, n, els, out => fun hr hl => by
    rw [rowsL_cons] at hr
    simp only [Bool.and_eq_true, decide_eq_true_eq] at hr
    rw [cntL_cons, cntS_eq] at hl
    rw [flatL, if_pos (by omega), flatS_pre s deep n _ hr.1.1 hr.1.2 (by simp; omega), flatL_pre r deep inn _ els _ hr.2 (by simp [preL_len]; omega), preL, preS_eq]
    simp
end
mutual
theorem preS_find (id : Int) : ∀ (s : St) (deep inn : Int) (els : Bool), ((preS deep inn els s).find? fun i => i.s.id == id).map It.s = findS id s
  | .mk i k ls nm pr x h ar th el, deep, inn, els => by
    rw [preS, findS, List.find?_cons]
    by_cases hi : i = id
    · simp [hi, St.id]
    · have : ((It.mk (.mk i k ls nm pr x h ar th el) deep inn els).s.id == id) = false := by simp [St.id, hi]
      rw [this, if_neg hi, List.find?_append]
      have h1 := preL_find id th (deep + 1) i false
      have h2 := preL_find id el (deep + 1) i true
      cases hf : (preL (deep + 1) i false th).find? fun i => i.s.id == id with
      | some a => rw [hf] at h1; simp at h1; simp [← h1]
      | none => rw [hf] at h1; simp at h1; rw [← h1]; simpa using h2
theorem preL_find (id : Int) : ∀ (l : List St) (deep inn : Int) (els : Bool), ((preL deep inn els l).find? fun i => i.s.id == id).map It.s = findL id l
  | [], deep, inn, els => by rw [preL, findL]; rfl
  | s :: r, deep, inn, els => by
    rw [preL, findL, List.find?_append]
    have h1 := preS_find id s deep inn els
    have h2 := preL_find id r deep inn els
    cases hf : (preS deep inn els s).find? fun i => i.s.id == id with
    | some a => rw [hf] at h1; simp at h1; simp [← h1]
    | none => rw [hf] at h1; simp at h1; rw [← h1]; simpa using h2
end
mutual
theorem rowS_ids (id : Int) : ∀ (s : St) (nest n : Int), rowS 200 12 nest n s = true → n < id → id ≤ n + cntS s → findS id s ≠ none
  | .mk i k ls nm pr x h ar th el, nest, n => fun hr h1 h2 => by
    rw [rowS_eq] at hr
    simp only [Bool.and_eq_true, decide_eq_true_eq, beq_iff_eq, St.id, St.labels, St.thn, St.els] at hr
    rw [cntS] at h2
    rw [findS]
    by_cases hi : i = id
    · rw [if_pos hi]; simp
    · rw [if_neg hi]
      have hne : id ≠ n + 1 := by have := hr.1.1.1.1.2; omega
      cases hf : findL id th with
      | some a => simp
      | none =>
        have h3 := rowsL_ids id th _ _ hr.1.2
        have h4 := rowsL_ids id el _ _ hr.2
        simp only
        apply h4
        · rcases Int.lt_or_le (n + 1 + cntL th) id with h | h
          · exact h
          · exact absurd hf (h3 (by omega) h)
        · push_cast at h2; omega
theorem rowsL_ids (id : Int) : ∀ (l : List St) (nest n : Int), rowsL 200 12 nest n l = true → n < id → id ≤ n + cntL l → findL id l ≠ none
  | [], nest, n => fun _ h1 h2 => by rw [cntL] at h2; omega
  | s :: r, nest, n => fun hr h1 h2 => by
    rw [rowsL_cons] at hr
    simp only [Bool.and_eq_true, decide_eq_true_eq] at hr
    rw [cntL] at h2
    rw [findL]
    cases hf : findS id s with
    | some a => simp
    | none =>
      have h3 := rowS_ids id s _ _ hr.1.2
      have h4 := rowsL_ids id r _ _ hr.2
      simp only
      apply h4
      · rcases Int.lt_or_le (n + cntS s) id with h | h
        · exact h
        · exact absurd hf (h3 (by omega) h)
      · push_cast at h2; omega
end
theorem mayPs_ids (id : Int) : ∀ (l : List Pc) (n : Int), mayPs n l = true → n < id → id ≤ n + cntP l → findP id l ≠ none := by
  intro l
  induction l with
  | nil => intro n _ h1 h2; simp [cntP] at h2; omega
  | cons f r ih =>
    intro n h h1 h2
    rw [mayPs, Bool.and_eq_true] at h
    have h3 : rowsL 200 12 1 n f.body = true := by have := h.1; unfold mayPc at this; rw [Bool.and_eq_true] at this; exact this.2
    have e : ((cntP (f :: r) : Nat) : Int) = cntL f.body + cntP r := by unfold cntP; rw [List.map_cons, List.sum_cons]; push_cast; rfl
    rw [findP]
    cases hf : findL id f.body with
    | some a => simp
    | none =>
      simp only
      apply ih _ h.2
      · rcases Int.lt_or_le (n + cntL f.body) id with hh | hh
        · exact hh
        · exact absurd hf (rowsL_ids id f.body _ _ h3 h1 hh)
      · omega
/-- A procedure of a program that may be. -/
theorem mayPs_rows : ∀ (l : List Pc) (n : Int), mayPs n l = true → 0 ≤ n → n ≤ 200 → ∀ f ∈ l, ∃ m, 0 ≤ m ∧ m ≤ 200 ∧ rowsL 200 12 1 m f.body = true := by
  intro l
  induction l with
  | nil => intro n _ _ _ f h; cases h
  | cons g r ih =>
    intro n h h0 hn f hf
    rw [mayPs, Bool.and_eq_true] at h
    have h3 : rowsL 200 12 1 n g.body = true := by have := h.1; unfold mayPc at this; rw [Bool.and_eq_true] at this; exact this.2
    rcases List.mem_cons.1 hf with rfl | hf
    · exact ⟨n, h0, hn, h3⟩
    · exact ih _ h.2 (by omega) (rows_most g.body 1 n h3 hn) f hf
def flatOf (f : Pc) : List It := flatL f.body 1 0 false []
theorem mayP_flat {p : Pr} (h : mayP p = true) {f : Pc} (hf : f ∈ p.procs) (id : Int) : ((flatOf f).find? fun i => i.s.id == id).map It.s = findL id f.body := by
  unfold mayP at h
  simp only [Bool.and_eq_true] at h
  obtain ⟨m, h0, h1, h2⟩ := mayPs_rows p.procs 0 h.2 (by omega) (by omega) f hf
  have := rows_most f.body 1 m h2 h1
  unfold flatOf
  rw [flatL_pre f.body 1 0 m false [] h2 (by simp; omega), List.nil_append]
  exact preL_find id _ _ _ _
mutual
theorem eqE_refl : ∀ x : Ex, eqE x x = true
  | .mk o n s ks => by rw [eqE_eq]; simp [Ex.op, Ex.n, Ex.nm, Ex.ks, eqEs_refl ks]
theorem eqEs_refl : ∀ l : List Ex, eqEs l l = true
  | [] => by rw [eqEs]
  | x :: r => by rw [eqEs, eqE_refl x, eqEs_refl r]; rfl
end
theorem eqL_refl {α : Type} {f : α → α → Bool} {l : List α} (h : ∀ x ∈ l, f x x = true) : eqL f l l = true := by
  induction l with
  | nil => rfl
  | cons x r ih => rw [eqL, h x (by simp), ih fun y hy => h y (by simp [hy])]; rfl
theorem eqA_refl (a : Ar) : eqA a a = true := by unfold eqA; simp [eqE_refl]
mutual
theorem eqS_refl : ∀ s : St, eqS s s = true
  | .mk i k ls nm pr x h ar th el => by
    rw [eqS_eq]
    have h1 := eqL_refl (f := eqA) (l := ar) fun a _ => eqA_refl a
    have h2 := eqSs_refl th
    have h3 := eqSs_refl el
    simp only [St.id, St.kind, St.nm, St.proc, St.has, St.labels, St.x, St.args, St.thn, St.els, eqE_refl, eqT_same, h1]
    rw [← eqSs_eq, ← eqSs_eq, h2, h3]
    simp
theorem eqSs_refl : ∀ l : List St, eqSs l l = true
  | [] => by rw [eqSs]
  | s :: r => by rw [eqSs, eqS_refl s, eqSs_refl r]; rfl
end
end Go.Proofs.Ytnbclbphggmenaa.Tr
