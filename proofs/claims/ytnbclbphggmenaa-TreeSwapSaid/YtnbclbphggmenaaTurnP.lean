/- What turns when one statement of a program is put for another one. No program. Conditions: the program may be. -/
import Derived.Test.YtnbclbphggmenaaCopyP
import Derived.Test.YtnbclbphggmenaaSymL
namespace Go.Proofs.Ytnbclbphggmenaa.Tr
open Go.RowKit Go.Proofs.Ytnbclbphggmenaa.Lx Go.Proofs.Ytnbclbphggmenaa.Wd
mutual
theorem eqE_is : ∀ x y : Ex, eqE x y = true → x = y
  | .mk o n s ks, .mk o' n' s' ks' => fun h => by
    rw [eqE_eq] at h
    simp only [Bool.and_eq_true, beq_iff_eq, Ex.op, Ex.n, Ex.nm, Ex.ks] at h
    obtain ⟨⟨⟨h1, h2⟩, h3⟩, h4⟩ := h
    rw [h1, h2, (eq_text s s').1 (by rw [h3]; simp), eqEs_is ks ks' h4]
theorem eqEs_is : ∀ l m : List Ex, eqEs l m = true → l = m
  | [], m => fun h => by cases m <;> simp [eqEs] at h ⊢
  | x :: r, m => fun h => by
    cases m with
    | nil => simp [eqEs] at h
    | cons y s =>
      rw [eqEs, Bool.and_eq_true] at h
      rw [eqE_is x y h.1, eqEs_is r s h.2]
end
theorem eqL_is {α : Type} {f : α → α → Bool} : ∀ l m : List α, (∀ x ∈ l, ∀ y, f x y = true → x = y) → eqL f l m = true → l = m := by
  intro l
  induction l with
  | nil => intro m _ h; cases m <;> simp [eqL] at h ⊢
  | cons a r ih =>
    intro m hf h
    cases m with
    | nil => simp [eqL] at h
    | cons b s =>
      rw [eqL, Bool.and_eq_true] at h
      rw [hf a (by simp) b h.1, ih s (fun x hx => hf x (by simp [hx])) h.2]
theorem eqA_is (a b : Ar) (h : eqA a b = true) : a = b := by
  cases a with
  | mk r1 n1 x1 =>
    cases b with
    | mk r2 n2 x2 =>
      unfold eqA at h
      simp only [Bool.and_eq_true, beq_iff_eq, Ar.ref, Ar.nm, Ar.x] at h
      obtain ⟨⟨h1, h2⟩, h3⟩ := h
      rw [h1, (eq_text n1 n2).1 (by rw [h2]; simp), eqE_is x1 x2 h3]
theorem eqPa_is (a b : Pa) (h : eqPa a b = true) : a = b := by
  cases a with
  | mk n1 r1 =>
    cases b with
    | mk n2 r2 =>
      unfold eqPa at h
      simp only [Bool.and_eq_true, beq_iff_eq] at h
      obtain ⟨h1, h2⟩ := h
      have e1 : n1 = n2 := (eq_text n1 n2).1 (by simp_all)
      have e2 : r1 = r2 := by simp_all
      rw [e1, e2]
mutual
theorem eqS_is : ∀ s t : St, eqS s t = true → s = t
  | .mk i k ls nm pr x h ar th el, .mk i' k' ls' nm' pr' x' h' ar' th' el' => fun he => by
    rw [eqS_eq] at he
    simp only [St.id, St.kind, St.nm, St.proc, St.has, St.labels, St.x, St.args, St.thn, St.els] at he
    rw [← eqSs_eq, ← eqSs_eq] at he
    simp only [Bool.and_eq_true, beq_iff_eq] at he
    have e1 : i = i' := by simp_all
    have e2 : k = k' := by simp_all
    have e3 : nm = nm' := (eq_text nm nm').1 (by simp_all)
    have e4 : pr = pr' := (eq_text pr pr').1 (by simp_all)
    have e5 : h = h' := by simp_all
    have e6 : ls = ls' := (eqT_iff ls ls').1 (by simp_all)
    have e7 : x = x' := eqE_is x x' (by simp_all)
    have e8 : ar = ar' := eqL_is ar ar' (fun a _ b => eqA_is a b) (by simp_all)
    have e9 : th = th' := eqSs_is th th' (by simp_all)
    have e10 : el = el' := eqSs_is el el' (by simp_all)
    rw [e1, e2, e3, e4, e5, e6, e7, e8, e9, e10]
theorem eqSs_is : ∀ l m : List St, eqSs l m = true → l = m
  | [], m => fun h => by cases m <;> simp [eqSs] at h ⊢
  | x :: r, m => fun h => by
    cases m with
    | nil => simp [eqSs] at h
    | cons y s =>
      rw [eqSs, Bool.and_eq_true] at h
      rw [eqS_is x y h.1, eqSs_is r s h.2]
end
theorem eqPc_is (f g : Pc) (h : eqPc f g = true) : f = g := by
  cases f with
  | mk n1 p1 v1 b1 f1 =>
    cases g with
    | mk n2 p2 v2 b2 f2 =>
      unfold eqPc at h
      simp only [Bool.and_eq_true, beq_iff_eq] at h
      have e1 : n1 = n2 := (eq_text n1 n2).1 (by simp_all)
      have e2 : p1 = p2 := eqL_is p1 p2 (fun a _ b => eqPa_is a b) (by simp_all)
      have e3 : v1 = v2 := (eqT_iff v1 v2).1 (by simp_all)
      have e4 : b1 = b2 := eqL_is b1 b2 (fun a _ b => eqS_is a b) (by simp_all)
      have e5 : f1 = f2 := (eqT_iff f1 f2).1 (by simp_all)
      rw [e1, e2, e3, e4, e5]
theorem eqPr_is (p q : Pr) (h : eqPr p q = true) : p = q := by
  cases p with
  | mk g1 l1 =>
    cases q with
    | mk g2 l2 =>
      unfold eqPr at h
      rw [Bool.and_eq_true] at h
      rw [(eqT_iff g1 g2).1 h.1, eqL_is l1 l2 (fun a _ b => eqPc_is a b) h.2]
mutual
theorem findS_id (id : Int) : ∀ (s t : St), findS id s = some t → t.id = id
  | .mk i k ls nm pr x h ar th el, t => fun hf => by
    rw [findS] at hf
    by_cases hi : i = id
    · rw [if_pos hi] at hf; cases hf; exact hi
    · rw [if_neg hi] at hf
      cases hh : findL id th with
      | some u => rw [hh] at hf; cases hf; exact findL_id id th _ hh
      | none => rw [hh] at hf; exact findL_id id el t hf
theorem findL_id (id : Int) : ∀ (l : List St) (t : St), findL id l = some t → t.id = id
  | [], t => fun hf => by rw [findL] at hf; cases hf
  | s :: r, t => fun hf => by
    rw [findL] at hf
    cases hh : findS id s with
    | some u => rw [hh] at hf; cases hf; exact findS_id id s _ hh
    | none => rw [hh] at hf; exact findL_id id r t hf
end
mutual
theorem findS_range (id : Int) : ∀ (s : St) (nest n : Int), rowS 200 12 nest n s = true → (findS id s).isSome = true → n < id ∧ id ≤ n + cntS s
  | .mk i k ls nm pr x h ar th el, nest, n => fun hr hf => by
    rw [rowS_eq] at hr
    simp only [Bool.and_eq_true, decide_eq_true_eq, beq_iff_eq, St.id, St.labels, St.thn, St.els] at hr
    rw [findS] at hf
    rw [cntS]
    by_cases hi : i = id
    · have := hr.1.1.1.1.2; push_cast; omega
    · rw [if_neg hi] at hf
      cases hh : findL id th with
      | some u => have := findL_range id th _ _ hr.1.2 (by rw [hh]; rfl); push_cast; omega
      | none => rw [hh] at hf; have := findL_range id el _ _ hr.2 hf; push_cast; omega
theorem findL_range (id : Int) : ∀ (l : List St) (nest n : Int), rowsL 200 12 nest n l = true → (findL id l).isSome = true → n < id ∧ id ≤ n + cntL l
  | [], nest, n => fun _ hf => by rw [findL] at hf; cases hf
  | s :: r, nest, n => fun hr hf => by
    rw [rowsL_cons] at hr
    simp only [Bool.and_eq_true, decide_eq_true_eq] at hr
    rw [findL] at hf
    rw [cntL]
    cases hh : findS id s with
    | some u => have := findS_range id s _ _ hr.1.2 (by rw [hh]; rfl); push_cast; omega
    | none => rw [hh] at hf; have := findL_range id r _ _ hr.2 hf; push_cast; omega
end
mutual
theorem findS_row (id : Int) : ∀ (s t : St) (nest n : Int), rowS 200 12 nest n s = true → findS id s = some t → ∃ e m, rowS 200 12 e m t = true
  | .mk i k ls nm pr x h ar th el, t, nest, n => fun hr hf => by
    have hr' := hr
    rw [rowS_eq] at hr
    simp only [Bool.and_eq_true, decide_eq_true_eq, beq_iff_eq, St.id, St.labels, St.thn, St.els] at hr
    rw [findS] at hf
    by_cases hi : i = id
    · rw [if_pos hi] at hf; cases hf; exact ⟨_, _, hr'⟩
    · rw [if_neg hi] at hf
      cases hh : findL id th with
      | some u => rw [hh] at hf; cases hf; exact findL_row id th _ _ _ hr.1.2 hh
      | none => rw [hh] at hf; exact findL_row id el _ _ _ hr.2 hf
theorem findL_row (id : Int) : ∀ (l : List St) (t : St) (nest n : Int), rowsL 200 12 nest n l = true → findL id l = some t → ∃ e m, rowS 200 12 e m t = true
  | [], t, nest, n => fun _ hf => by rw [findL] at hf; cases hf
  | s :: r, t, nest, n => fun hr hf => by
    rw [rowsL_cons] at hr
    simp only [Bool.and_eq_true, decide_eq_true_eq] at hr
    rw [findL] at hf
    cases hh : findS id s with
    | some u => rw [hh] at hf; cases hf; exact findS_row id s _ _ _ hr.1.2 hh
    | none => rw [hh] at hf; exact findL_row id r _ _ _ hr.2 hf
end
mutual
theorem put_outS (t : St) : ∀ (s : St) (nest n : Int), rowS 200 12 nest n s = true → (t.id ≤ n ∨ n + cntS s < t.id) → putS t s = s
  | .mk i k ls nm pr x h ar th el, nest, n => fun hr h0 => by
    rw [rowS_eq] at hr
    simp only [Bool.and_eq_true, decide_eq_true_eq, beq_iff_eq, St.id, St.labels, St.thn, St.els] at hr
    rw [cntS] at h0
    push_cast at h0
    have hi : i ≠ t.id := by have := hr.1.1.1.1.2; omega
    rw [putS, if_neg hi, put_outL t th _ _ hr.1.2 (by omega), put_outL t el _ _ hr.2 (by omega)]
theorem put_outL (t : St) : ∀ (l : List St) (nest n : Int), rowsL 200 12 nest n l = true → (t.id ≤ n ∨ n + cntL l < t.id) → putL t l = l
  | [], nest, n => fun _ _ => by rw [putL]
  | s :: r, nest, n => fun hr h0 => by
    rw [rowsL_cons] at hr
    simp only [Bool.and_eq_true, decide_eq_true_eq] at hr
    rw [cntL] at h0
    push_cast at h0
    rw [putL, put_outS t s _ _ hr.1.2 (by omega), put_outL t r _ _ hr.2 (by omega)]
end
/-- The same but for what stands in it. -/
def sameF (t s : St) : Prop := t.id = s.id ∧ t.kind = s.kind ∧ t.labels = s.labels ∧ t.nm = s.nm ∧ t.proc = s.proc ∧ t.x = s.x ∧ t.has = s.has ∧ t.args = s.args
mutual
theorem put_foundS {t s : St} (hf : sameF t s) : ∀ (u : St) (nest n : Int), rowS 200 12 nest n u = true → findS t.id u = some s → putS t u = u
  | .mk i k ls nm pr x h ar th el, nest, n => fun hr hs => by
    rw [rowS_eq] at hr
    simp only [Bool.and_eq_true, decide_eq_true_eq, beq_iff_eq, St.id, St.labels, St.thn, St.els] at hr
    rw [findS] at hs
    by_cases hi : i = t.id
    · rw [if_pos hi] at hs
      cases hs
      obtain ⟨f1, f2, f3, f4, f5, f6, f7, f8⟩ := hf
      have hn := hr.1.1.1.1.2
      rw [putS, if_pos hi, put_outL t th _ _ hr.1.2 (by omega), put_outL t el _ _ hr.2 (by omega), f1, f2, f3, f4, f5, f6, f7, f8]
      rfl
    · rw [if_neg hi] at hs
      cases hh : findL t.id th with
      | some u =>
        rw [hh] at hs
        cases hs
        have hg := findL_range t.id th _ _ hr.1.2 (by rw [hh]; rfl)
        rw [putS, if_neg hi, put_foundL hf th _ _ hr.1.2 hh, put_outL t el _ _ hr.2 (by omega)]
      | none =>
        rw [hh] at hs
        have hg := findL_range t.id el _ _ hr.2 (by simp only at hs; rw [hs]; rfl)
        rw [putS, if_neg hi, put_outL t th _ _ hr.1.2 (by omega), put_foundL hf el _ _ hr.2 hs]
theorem put_foundL {t s : St} (hf : sameF t s) : ∀ (l : List St) (nest n : Int), rowsL 200 12 nest n l = true → findL t.id l = some s → putL t l = l
  | [], nest, n => fun _ hs => by rw [putL]
  | u :: r, nest, n => fun hr hs => by
    rw [rowsL_cons] at hr
    simp only [Bool.and_eq_true, decide_eq_true_eq] at hr
    rw [findL] at hs
    cases hh : findS t.id u with
    | some a =>
      rw [hh] at hs
      cases hs
      have hg := findS_range t.id u _ _ hr.1.2 (by rw [hh]; rfl)
      rw [putL, put_foundS hf u _ _ hr.1.2 hh, put_outL t r _ _ hr.2 (by omega)]
    | none =>
      rw [hh] at hs
      have hg := findL_range t.id r _ _ hr.2 (by simp only at hs; rw [hs]; rfl)
      rw [putL, put_outS t u _ _ hr.1.2 (by omega), put_foundL hf r _ _ hr.2 hs]
end
theorem mayPc_rows {n : Int} {f : Pc} (h : mayPc n f = true) : rowsL 200 12 1 n f.body = true := by unfold mayPc at h; rw [Bool.and_eq_true] at h; exact h.2
theorem put_outPs (t : St) : ∀ (l : List Pc) (n : Int), mayPs n l = true → (t.id ≤ n ∨ n + cntP l < t.id) → l.map (putPc t) = l := by
  intro l
  induction l with
  | nil => intro n _ _; rfl
  | cons f r ih =>
    intro n h h0
    rw [mayPs, Bool.and_eq_true] at h
    have e : ((cntP (f :: r) : Nat) : Int) = cntL f.body + cntP r := by unfold cntP; rw [List.map_cons, List.sum_cons]; push_cast; rfl
    rw [e] at h0
    rw [List.map_cons, ih _ h.2 (by omega)]
    have : putPc t f = f := by unfold putPc; rw [put_outL t f.body _ _ (mayPc_rows h.1) (by omega)]
    rw [this]
theorem findP_range (id : Int) : ∀ (l : List Pc) (n : Int), mayPs n l = true → (findP id l).isSome = true → n < id ∧ id ≤ n + cntP l := by
  intro l
  induction l with
  | nil => intro n _ h; rw [findP] at h; cases h
  | cons f r ih =>
    intro n h hf
    rw [mayPs, Bool.and_eq_true] at h
    have e : ((cntP (f :: r) : Nat) : Int) = cntL f.body + cntP r := by unfold cntP; rw [List.map_cons, List.sum_cons]; push_cast; rfl
    rw [e]
    rw [findP] at hf
    cases hh : findL id f.body with
    | some a => have := findL_range id f.body _ _ (mayPc_rows h.1) (by rw [hh]; rfl); omega
    | none => rw [hh] at hf; have := ih _ h.2 hf; omega
theorem put_foundPs {t s : St} (hf : sameF t s) : ∀ (l : List Pc) (n : Int) (nm : ByteArray), mayPs n l = true → findP t.id l = some (nm, s) → l.map (putPc t) = l := by
  intro l
  induction l with
  | nil => intro n nm _ _; rfl
  | cons f r ih =>
    intro n nm h hs
    rw [mayPs, Bool.and_eq_true] at h
    rw [findP] at hs
    cases hh : findL t.id f.body with
    | some a =>
      rw [hh] at hs
      cases hs
      have hg := findL_range t.id f.body _ _ (mayPc_rows h.1) (by rw [hh]; rfl)
      have : putPc t f = f := by unfold putPc; rw [put_foundL hf f.body _ _ (mayPc_rows h.1) hh]
      rw [List.map_cons, this, put_outPs t r _ h.2 (by omega)]
    | none =>
      rw [hh] at hs
      have hg := findP_range t.id r _ h.2 (by simp only at hs; rw [hs]; rfl)
      have : putPc t f = f := by unfold putPc; rw [put_outL t f.body _ _ (mayPc_rows h.1) (by omega)]
      rw [List.map_cons, this, ih _ nm h.2 hs]
mutual
theorem findS_put (t : St) : ∀ s : St, findS t.id (putS t s) = (findS t.id s).map (putS t)
  | .mk i k ls nm pr x h ar th el => by
    by_cases hi : i = t.id
    · rw [findS, if_pos hi, putS, if_pos hi, findS, if_pos rfl]
      simp only [Option.map_some]
      rw [putS, if_pos hi]
    · rw [findS, if_neg hi, putS, if_neg hi, findS, if_neg hi, findL_put t th, findL_put t el]
      cases findL t.id th <;> rfl
theorem findL_put (t : St) : ∀ l : List St, findL t.id (putL t l) = (findL t.id l).map (putS t)
  | [] => by rw [putL, findL]; rfl
  | s :: r => by
    rw [putL, findL, findL, findS_put t s, findL_put t r]
    cases findS t.id s <;> rfl
end
theorem findP_put (t : St) : ∀ l : List Pc, findP t.id (l.map (putPc t)) = (findP t.id l).map fun a => (a.1, putS t a.2) := by
  intro l
  induction l with
  | nil => rw [List.map_nil, findP]; rfl
  | cons f r ih =>
    rw [List.map_cons, findP, findP, ih]
    have : (putPc t f).body = putL t f.body := rfl
    rw [this, findL_put]
    cases findL t.id f.body <;> rfl
theorem findP_id {id : Int} : ∀ {l : List Pc} {nm : ByteArray} {s : St}, findP id l = some (nm, s) → s.id = id := by
  intro l
  induction l with
  | nil => intro nm s h; rw [findP] at h; cases h
  | cons f r ih =>
    intro nm s h
    rw [findP] at h
    cases hh : findL id f.body with
    | some a => rw [hh] at h; cases h; exact findL_id id _ _ hh
    | none => rw [hh] at h; exact ih h
theorem findP_row {id : Int} : ∀ {l : List Pc} {n : Int} {nm : ByteArray} {s : St}, mayPs n l = true → findP id l = some (nm, s) → ∃ e m, rowS 200 12 e m s = true := by
  intro l
  induction l with
  | nil => intro n nm s _ h; rw [findP] at h; cases h
  | cons f r ih =>
    intro n nm s h hf
    rw [mayPs, Bool.and_eq_true] at h
    rw [findP] at hf
    cases hh : findL id f.body with
    | some a => rw [hh] at hf; cases hf; exact findL_row id _ _ _ _ (mayPc_rows h.1) hh
    | none => rw [hh] at hf; exact ih h.2 hf
theorem mayP_procs {p : Pr} (h : mayP p = true) : mayPs 0 p.procs = true := by unfold mayP at h; simp only [Bool.and_eq_true] at h; exact h.2
theorem mayP_cnt {p : Pr} (h : mayP p = true) : cntP p.procs ≤ 200 := by have := mayPs_most _ _ (mayP_procs h) (by omega); omega
/-- What is asked of the two. -/
def sameB (t s : St) : Bool := t.nm.toList == s.nm.toList && t.kind == s.kind && decide (t.labels.length = s.labels.length) && decide (t.args.length = s.args.length) && t.has == s.has
theorem put_turned {p : Pr} (hp : mayP p = true) {t s : St} {nm : ByteArray} (hf : findP t.id p.procs = some (nm, s)) (ht : sameB t s = true → sameF t s) : eqPr p (putPr t p) = sameB t s := by
  cases hb : sameB t s with
  | true =>
    have : putPr t p = p := by unfold putPr; rw [put_foundPs (ht hb) _ _ nm (mayP_procs hp) hf]
    rw [this, eqPr_refl]
  | false =>
    cases he : eqPr p (putPr t p) with
    | false => rfl
    | true =>
      have h1 := eqPr_is _ _ he
      have h2 := findP_put t p.procs
      have h3 : p.procs.map (putPc t) = p.procs := (congrArg Pr.procs h1).symm
      rw [h3, hf] at h2
      simp only [Option.map_some, Option.some.injEq, Prod.mk.injEq, true_and] at h2
      have hid := findP_id hf
      have h4 : s = putB t s t := by rw [putS_eq] at h2; rw [show pick t s = t from by unfold pick; rw [if_pos hid]] at h2; exact h2
      have e1 : s.kind = t.kind := (congrArg St.kind h4 : s.kind = (putB t s t).kind)
      have e2 : s.labels = t.labels := (congrArg St.labels h4 : s.labels = (putB t s t).labels)
      have e3 : s.nm = t.nm := (congrArg St.nm h4 : s.nm = (putB t s t).nm)
      have e4 : s.has = t.has := (congrArg St.has h4 : s.has = (putB t s t).has)
      have e5 : s.args = t.args := (congrArg St.args h4 : s.args = (putB t s t).args)
      rw [← hb]
      unfold sameB
      rw [e1, e2, e3, e4, e5]
      simp
end Go.Proofs.Ytnbclbphggmenaa.Tr
