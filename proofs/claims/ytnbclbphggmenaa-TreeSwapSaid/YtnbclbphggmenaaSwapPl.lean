/- A program in which two names are changed for each other may be, if it could; changed twice it is the same. No program. Conditions: the names are names. -/
import Derived.Test.YtnbclbphggmenaaSwapP
import Derived.Test.YtnbclbphggmenaaSwapQ
import Derived.Test.YtnbclbphggmenaaTurnP
namespace Go.Proofs.Ytnbclbphggmenaa.Tr
open Go.RowKit Go.Proofs.Ytnbclbphggmenaa.Lx Go.Proofs.Ytnbclbphggmenaa.Wd
set_option linter.unusedSectionVars false
mutual
theorem mapE_back (a b : ByteArray) : ∀ x : Ex, mapE (other a b) (mapE (other a b) x) = x
  | .mk o n s ks => by rw [mapE, mapE, other_back, mapL_back a b ks]
theorem mapL_back (a b : ByteArray) : ∀ l : List Ex, mapL (other a b) (mapL (other a b) l) = l
  | [] => by rw [mapL, mapL]
  | x :: r => by rw [mapL, mapL, mapE_back a b x, mapL_back a b r]
end
theorem others_back (a b : ByteArray) (l : List ByteArray) : (l.map (other a b)).map (other a b) = l := by
  rw [List.map_map]
  conv => rhs; rw [← List.map_id l]
  apply List.map_congr_left
  intro x _
  exact other_back a b x
theorem swA_back (a b : ByteArray) (l : List Ar) : (l.map (swA a b)).map (swA a b) = l := by
  rw [List.map_map]
  conv => rhs; rw [← List.map_id l]
  apply List.map_congr_left
  intro x _
  cases x with
  | mk r n x => show Ar.mk r (other a b (other a b n)) (mapE (other a b) (mapE (other a b) x)) = _; rw [other_back, mapE_back]; rfl
mutual
theorem swS_back (a b : ByteArray) : ∀ s : St, swS a b (swS a b s) = s
  | .mk i k ls nm pr x h ar th el => by rw [swS, swS, others_back, other_back, other_back, mapE_back, swA_back, swL_back a b th, swL_back a b el]
theorem swL_back (a b : ByteArray) : ∀ l : List St, swL a b (swL a b l) = l
  | [] => by rw [swL, swL]
  | s :: r => by rw [swL, swL, swS_back a b s, swL_back a b r]
end
theorem swPr_back (a b : ByteArray) (p : Pr) : swPr a b (swPr a b p) = p := by
  cases p with
  | mk g l =>
    unfold swPr
    simp only
    rw [others_back, List.map_map]
    congr 1
    conv => rhs; rw [← List.map_id l]
    apply List.map_congr_left
    intro f _
    cases f with
    | mk n ps vs bd fn =>
      unfold Function.comp swPc
      simp only
      rw [other_back, others_back, others_back, swL_back, List.map_map]
      have : List.map (swPa a b ∘ swPa a b) ps = ps := by
        conv => rhs; rw [← List.map_id ps]
        apply List.map_congr_left
        intro x _
        cases x with
        | mk n r => show Pa.mk (other a b (other a b n)) r = _; rw [other_back]; rfl
      rw [this]
      rfl
mutual
theorem sw_cntS (a b : ByteArray) : ∀ s : St, cntS (swS a b s) = cntS s
  | .mk i k ls nm pr x h ar th el => by rw [swS, cntS, cntS, sw_cntL a b th, sw_cntL a b el]
theorem sw_cntL (a b : ByteArray) : ∀ l : List St, cntL (swL a b l) = cntL l
  | [] => by rw [swL]
  | s :: r => by rw [swL, cntL, cntL, sw_cntS a b s, sw_cntL a b r]
end
theorem sw_cnt (a b : ByteArray) (p : Pr) : cntP (swPr a b p).procs = cntP p.procs := by
  unfold cntP swPr
  rw [List.map_map]
  congr 1
  apply List.map_congr_left
  intro f _
  exact sw_cntL a b f.body
section
variable {a b : ByteArray} (ha : isName (bl a) = true) (hb : isName (bl b) = true)
include ha hb
theorem other_name (s : ByteArray) : isName (bl (other a b s)) = isName (bl s) := by
  rw [other_eq]
  split
  · rename_i h; rw [h, ha, hb]
  · split
    · rename_i h; rw [h, ha, hb]
    · rfl
theorem other_no (s : ByteArray) : noName (other a b s) = noName s := by
  rw [other_eq]
  split
  · rename_i h; rw [h, name_some ha, name_some hb]
  · split
    · rename_i h; rw [h, name_some ha, name_some hb]
    · rfl
theorem others_names (l : List ByteArray) : namesB (l.map (other a b)) = namesB l := by
  unfold namesB
  rw [List.all_map]
  congr 1
  funext s
  exact other_name ha hb s
theorem sw_may (l : Nat) (x : Ex) : mayE l (mapE (other a b) x) = mayE l x := by
  rw [Bool.eq_iff_iff]
  constructor
  · intro h
    have := may_other ha hb h
    rwa [mapE_back] at this
  · exact fun h => may_other ha hb h
theorem sw_none (x : Ex) : noneE (mapE (other a b) x) = noneE x := by
  unfold noneE
  rw [mapE_op, mapE_n, mapE_nm, mapE_ks, other_no ha hb]
  congr 1
  cases x.ks <;> rfl
theorem sw_named (s : ByteArray) (i : Bool) : namedB (other a b s) i = namedB s i := by
  unfold namedB
  rw [other_name ha hb, other_no ha hb]
theorem sw_worth (x : Ex) (i : Bool) : worthB (mapE (other a b) x) i = worthB x i := by
  unfold worthB
  rw [sw_may ha hb, sw_none ha hb]
theorem sw_handed (l : List Ar) : handedB (l.map (swA a b)) = handedB l := by
  unfold handedB
  rw [List.all_map]
  congr 1
  funext x
  show (namedB (other a b x.nm) x.ref && worthB (mapE (other a b) x.x) (!x.ref)) = _
  rw [sw_named ha hb, sw_worth ha hb]
mutual
theorem sw_rowS : ∀ (s : St) (nest n : Int), rowS 200 12 nest n (swS a b s) = rowS 200 12 nest n s
  | .mk i k ls nm pr x h ar th el, nest, n => by
    rw [swS, rowS, rowS, others_names ha hb, sw_rowL th, sw_cntL, sw_rowL el]
    have e1 : fieldsB (.mk i k (ls.map (other a b)) (other a b nm) (other a b pr) (mapE (other a b) x) h (ar.map (swA a b)) (swL a b th) (swL a b el)) = fieldsB (.mk i k ls nm pr x h ar th el) := by
      unfold fieldsB okK moreI nameI procI xI hasI thenI otherI
      simp only [St.kind, St.nm, St.proc, St.x, St.has, St.args, St.thn, St.els, swL_map, List.length_map, other_no ha hb, sw_named ha hb, sw_worth ha hb, sw_handed ha hb]
      rfl
    rw [e1]
theorem sw_rowL : ∀ (l : List St) (nest n : Int), rowsL 200 12 nest n (swL a b l) = rowsL 200 12 nest n l
  | [], nest, n => by rw [swL]
  | s :: r, nest, n => by rw [swL, rowsL, rowsL, sw_rowS s, sw_cntS, sw_rowL r]
end
theorem sw_mayPs : ∀ (l : List Pc) (n : Int), mayPs n (l.map (swPc a b)) = mayPs n l := by
  intro l
  induction l with
  | nil => intro n; rfl
  | cons f r ih =>
    intro n
    rw [List.map_cons, mayPs, mayPs, ih]
    have e1 : cntL (swPc a b f).body = cntL f.body := sw_cntL a b f.body
    have e2 : mayPc n (swPc a b f) = mayPc n f := by
      unfold mayPc headPc swPc
      simp only
      rw [others_names ha hb, others_names ha hb, other_name ha hb, sw_rowL ha hb, List.length_map, List.length_map, List.all_map]
      have : ((fun x : Pa => isName (bl x.nm)) ∘ swPa a b) = fun x => isName (bl x.nm) := by
        funext x
        exact other_name ha hb x.nm
      rw [this]
    rw [e1, e2]
theorem sw_mayP (p : Pr) : mayP (swPr a b p) = mayP p := by
  unfold mayP swPr
  simp only
  rw [sw_mayPs ha hb, others_names ha hb, List.length_map, List.length_map]
end
end Go.Proofs.Ytnbclbphggmenaa.Tr
