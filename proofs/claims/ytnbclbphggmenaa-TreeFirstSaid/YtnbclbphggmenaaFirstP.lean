/- Of several statements with one id the first one is found; no other number has one. No program. Conditions: none. -/
import Derived.Test.YtnbclbphggmenaaNumL
import Derived.Test.YtnbclbphggmenaaRAllW
namespace Go.Proofs.Ytnbclbphggmenaa.Tr
open Go.RowKit Go.Proofs.Ytnbclbphggmenaa.Lx Go.Proofs.Ytnbclbphggmenaa.Wd
def headP : List Pc → Option (ByteArray × St)
  | [] => none
  | f :: r => match f.body with
    | [] => headP r
    | s :: _ => some (f.nm, s)
def firstNm : List Pc → ByteArray
  | [] => ⟨#[]⟩
  | f :: r => if f.body.length = 0 then firstNm r else f.nm
theorem firstNm_head : ∀ {l : List Pc} {nm : ByteArray} {s : St}, headP l = some (nm, s) → firstNm l = nm := by
  intro l
  induction l with
  | nil => intro nm s h; cases h
  | cons f r ih =>
    intro nm s h
    rw [headP] at h
    rw [firstNm]
    cases hb : f.body with
    | nil => rw [hb] at h; rw [if_pos (by simp)]; exact ih h
    | cons a q => rw [hb] at h; cases h; rw [if_neg (by simp)]
theorem head_some : ∀ {l : List Pc}, 0 < cntP l → ∃ a, headP l = some a := by
  intro l
  induction l with
  | nil => intro h; simp [cntP] at h
  | cons f r ih =>
    intro h
    rw [headP]
    cases hb : f.body with
    | nil =>
      refine ih ?_
      unfold cntP at h ⊢
      rw [List.map_cons, List.sum_cons, hb, cntL] at h
      omega
    | cons a q => exact ⟨_, rfl⟩
theorem mar5_id (s : St) : (marS 0 5 s).id = 5 := by rw [marS_eq]; show s.id * 0 + 5 = 5; omega
theorem find5 : ∀ l : List Pc, findP 5 (l.map (marPc 0 5)) = headP (l.map (marPc 0 5)) := by
  intro l
  induction l with
  | nil => rfl
  | cons f r ih =>
    rw [List.map_cons, findP, headP, ih]
    have hb : (marPc 0 5 f).body = marL 0 5 f.body := rfl
    rw [hb]
    cases f.body with
    | nil => rw [marL, findL]
    | cons s q =>
      rw [marL, findL_cons, findS_eq, if_pos (mar5_id s)]
mutual
theorem findS_no {id : Int} (h : id ≠ 5) : ∀ s : St, findS id (marS 0 5 s) = none
  | .mk i k ls nm pr x hh ar th el => by
    rw [marS, findS, if_neg (by omega), findL_no h th, findL_no h el]
theorem findL_no {id : Int} (h : id ≠ 5) : ∀ l : List St, findL id (marL 0 5 l) = none
  | [] => by rw [marL, findL]
  | s :: r => by rw [marL, findL, findS_no h s, findL_no h r]
end
theorem findP_no {id : Int} (h : id ≠ 5) : ∀ l : List Pc, findP id (l.map (marPc 0 5)) = none := by
  intro l
  induction l with
  | nil => rfl
  | cons f r ih =>
    rw [List.map_cons, findP]
    have hb : (marPc 0 5 f).body = marL 0 5 f.body := rfl
    rw [hb, findL_no h, ih]
mutual
theorem flatS_pref : ∀ (s : St) (deep : Int) (out : List It), ∃ x, flatS s deep out = out ++ x
  | .mk i k ls nm pr x h ar th el, deep, out => by
    rw [flatS]
    split
    · obtain ⟨a, ha⟩ := flatL_pref th (deep + 1) i false out
      obtain ⟨b, hb⟩ := flatL_pref el (deep + 1) i true (flatL th (deep + 1) i false out)
      exact ⟨a ++ b, by rw [hb, ha, List.append_assoc]⟩
    · exact ⟨[], by simp⟩
theorem flatL_pref : ∀ (l : List St) (deep inn : Int) (els : Bool) (out : List It), ∃ x, flatL l deep inn els out = out ++ x
  | [], deep, inn, els, out => ⟨[], by rw [flatL]; simp⟩
  | s :: r, deep, inn, els, out => by
    rw [flatL]
    split
    · obtain ⟨a, ha⟩ := flatS_pref s deep (out ++ [⟨s, deep, inn, els⟩])
      obtain ⟨b, hb⟩ := flatL_pref r deep inn els (flatS s deep (out ++ [⟨s, deep, inn, els⟩]))
      exact ⟨[⟨s, deep, inn, els⟩] ++ a ++ b, by rw [hb, ha]; simp⟩
    · exact ⟨[], by simp⟩
end
theorem allPs_pref : ∀ (l : List Pc) (out : List It), ∃ x, allPs l out = out ++ x := by
  intro l
  induction l with
  | nil => intro out; exact ⟨[], by rw [allPs]; simp⟩
  | cons f r ih =>
    intro out
    rw [allPs_cons]
    split
    · exact ⟨_, rfl⟩
    · obtain ⟨x, hx⟩ := ih (out ++ flatOf f)
      exact ⟨flatOf f ++ x, by rw [hx, List.append_assoc]⟩
theorem all_head : ∀ {l : List Pc} {nm : ByteArray} {s : St}, headP l = some (nm, s) → ∃ x, allPs l [] = ⟨s, 1, 0, false⟩ :: x := by
  intro l
  induction l with
  | nil => intro nm s h; cases h
  | cons f r ih =>
    intro nm s h
    rw [headP] at h
    rw [allPs_cons]
    cases hb : f.body with
    | nil =>
      rw [hb] at h
      have e : flatOf f = [] := by unfold flatOf; rw [hb, flatL]
      rw [e, if_neg (by simp)]
      exact ih h
    | cons a q =>
      rw [hb] at h
      cases h
      obtain ⟨x, hx⟩ : ∃ x, flatOf f = ⟨s, 1, 0, false⟩ :: x := by
        unfold flatOf
        rw [hb, flatL_cons, if_pos (by simp)]
        obtain ⟨b, hb2⟩ := flatS_pref s 1 ([] ++ [⟨s, 1, 0, false⟩])
        obtain ⟨c, hc⟩ := flatL_pref q 1 0 false (flatS s 1 ([] ++ [⟨s, 1, 0, false⟩]))
        exact ⟨b ++ c, by rw [hc, hb2]; simp⟩
      split
      · exact ⟨x, by rw [hx]; rfl⟩
      · obtain ⟨y, hy⟩ := allPs_pref r ([] ++ flatOf f)
        exact ⟨x ++ y, by rw [hy, hx]; rfl⟩
end Go.Proofs.Ytnbclbphggmenaa.Tr
