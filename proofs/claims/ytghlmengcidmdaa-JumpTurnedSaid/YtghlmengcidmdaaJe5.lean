/- Parts of JumpV, JumpX, JumpY: walks and plain laws that later texts use. Conditions: as each statement says. -/
import Derived.Test.YtghlmengcidmdaaJa0
import Derived.Test.YtghlmengcidmdaaJa1
import Derived.Test.YtghlmengcidmdaaJa10
import Derived.Test.YtghlmengcidmdaaJa11
import Derived.Test.YtghlmengcidmdaaJa12
import Derived.Test.YtghlmengcidmdaaJa13
import Derived.Test.YtghlmengcidmdaaJa14
import Derived.Test.YtghlmengcidmdaaJa15
import Derived.Test.YtghlmengcidmdaaJa16
import Derived.Test.YtghlmengcidmdaaJa17
import Derived.Test.YtghlmengcidmdaaJa18
import Derived.Test.YtghlmengcidmdaaJa19
import Derived.Test.YtghlmengcidmdaaJa2
import Derived.Test.YtghlmengcidmdaaJa20
import Derived.Test.YtghlmengcidmdaaJa3
import Derived.Test.YtghlmengcidmdaaJa4
import Derived.Test.YtghlmengcidmdaaJa5
import Derived.Test.YtghlmengcidmdaaJa6
import Derived.Test.YtghlmengcidmdaaJa7
import Derived.Test.YtghlmengcidmdaaJa8
import Derived.Test.YtghlmengcidmdaaJa9
import Derived.Test.YtghlmengcidmdaaJe0
import Derived.Test.YtghlmengcidmdaaJe1
import Derived.Test.YtghlmengcidmdaaJe2
import Derived.Test.YtghlmengcidmdaaJe3
import Derived.Test.YtghlmengcidmdaaJe4
import Derived.Deep.DeepCutAuto
import Derived.Maps.Range
import Derived.Outline
import Derived.Lib.SmallJoins
import Derived.Deep.Upon
import Derived.Maps.AppendAt
import Derived.Laws.OwnMore
import Derived.Deep.QuietTactic
import Derived.BigQuiet
import Derived.RegionTactic
import Derived.Laws.StructEq
import Derived.Deep.RegionLaw
import Derived.Deep.RegionHeld3
import Derived.Deep.Slices
import Derived.Deep.Fields
import Derived.SliceStrings
import Derived.ChangeSlices
import Derived.IntWalk
import Derived.Deep.MidRow
import Derived.Deep.RegionWith
import Derived.Laws.Cover3
import Derived.WalkKit
import Derived.Test.YtghlmengcidmdaaRows
import Derived.WalkSpells
import Derived.Lib.Hide
import Derived.Below
import Derived.WalkSmall
import Derived.Deep.AppendLies
import Derived.OwnWalk
import Derived.OneCell
import Derived.Deep.CutBlock
import Derived.Laws.BitsAllLaws
import Derived.OrdersHeld
import Derived.StillTailTactics
section
/- A statement put for another one: its innermost loops, its labels, the first fault of its jumps. No program's code. Conditions: as each says. -/
namespace Go.Proofs.Ytghlmengcidmdaa.Tr
open Go.RowKit Go.Proofs.Ytghlmengcidmdaa.Lx Go.Proofs.Ytghlmengcidmdaa.Wd
mutual
theorem loopsS_put (t : St) : ∀ (u : St) (lp deep inn : Int) (els : Bool), (∀ v ∈ preS deep inn els u, v.s.id = t.id → v.s.thn = [] ∧ v.s.els = []) → loopsS lp (putS t u) = loopsS lp u
  | .mk i k ls nm pr x h ar th el, lp, deep, inn, els => fun hh => by
    rw [preS] at hh
    rw [putS]
    split
    · rename_i hi
      obtain ⟨h1, h2⟩ := hh _ List.mem_cons_self hi
      have h1' : th = [] := h1
      have h2' : el = [] := h2
      subst h1' h2'
      simp only [putL, loopsS, loopsL, List.nil_append]
    · rw [loopsS, loopsS, loopsL_put t th _ _ _ _ fun v hv => hh v (List.mem_cons_of_mem _ (List.mem_append_left _ hv)), loopsL_put t el _ _ _ _ fun v hv => hh v (List.mem_cons_of_mem _ (List.mem_append_right _ hv))]
theorem loopsL_put (t : St) : ∀ (l : List St) (lp deep inn : Int) (els : Bool), (∀ v ∈ preL deep inn els l, v.s.id = t.id → v.s.thn = [] ∧ v.s.els = []) → loopsL lp (putL t l) = loopsL lp l
  | [], lp, deep, inn, els => fun _ => by rw [putL]
  | s :: r, lp, deep, inn, els => fun hh => by
    rw [preL_cons] at hh
    rw [putL, loopsL, loopsL, loopsS_put t s _ _ _ _ fun v hv => hh v (List.mem_append_left _ hv), loopsL_put t r _ _ _ _ fun v hv => hh v (List.mem_append_right _ hv)]
end
theorem loops_put {t : St} {f : Pc} (h : ∀ v ∈ stsOf f, v.id = t.id → v.thn = [] ∧ v.els = []) : loopsOf (putPc t f) = loopsOf f :=
  loopsL_put t f.body 0 1 0 false fun v hv => h v.s (List.mem_map.2 ⟨v, hv, rfl⟩)
theorem leads_same {f f' : Pc} {u v : St} {lp : Int} (h : sameF u v) (hl : ∀ s, inB s (labsOf f') = inB s (labsOf f)) : leadsP f' u lp = leadsP f v lp := by
  unfold leadsP
  rw [h.2.1, h.2.2.2.1, hl]
/-- The statement that is put leads nowhere, or bears a label twice. -/
theorem jumpGo_bad {f f' : Pc} {t : St} (hl : ∀ s, inB s (labsOf f') = inB s (labsOf f)) : ∀ (Z : List (St × Int)) (seen : List ByteArray), jumpGo f seen Z = none → (∃ x ∈ Z, x.1.id = t.id) → (∀ seen x, x ∈ Z → x.1.id = t.id → (twiceB (seen ++ t.labels) || !leadsP f t x.2) = true) → jumpGo f' seen (Z.map fun x => (putS t x.1, x.2)) = some t.id := by
  intro Z
  induction Z with
  | nil => intro seen _ ⟨x, hx, _⟩; cases hx
  | cons y r ih =>
    intro seen h he hb
    obtain ⟨s, lp⟩ := y
    rw [jumpGo] at h
    split at h
    · cases h
    · rename_i hc
      rw [List.map_cons, jumpGo]
      by_cases hi : s.id = t.id
      · have hs := putS_at (t := t) (u := s) hi
        have h1 := hb seen _ List.mem_cons_self hi
        rw [leads_same hs hl, hs.2.2.1, if_pos h1, hs.1]
      · have hs := putS_out (t := t) (u := s) hi
        rw [leads_same hs hl, hs.2.2.1, if_neg hc]
        refine ih _ h ?_ fun sn x hx => hb sn x (List.mem_cons_of_mem _ hx)
        obtain ⟨x, hx, hxi⟩ := he
        rcases List.mem_cons.1 hx with rfl | hx
        · exact absurd hxi hi
        · exact ⟨x, hx, hxi⟩
theorem jumpGo_good {f f' : Pc} {t : St} (hl : ∀ s, inB s (labsOf f') = inB s (labsOf f)) (hf : f'.fin = f.fin) : ∀ (Z : List (St × Int)) (seen : List ByteArray), jumpGo f seen Z = none → (∀ x ∈ Z, x.1.id = t.id → t.labels = x.1.labels ∧ leadsP f t x.2 = true) → jumpGo f' seen (Z.map fun x => (putS t x.1, x.2)) = none := by
  intro Z
  induction Z with
  | nil =>
    intro seen h _
    rw [jumpGo] at h
    rw [List.map_nil, jumpGo, hf, h]
  | cons y r ih =>
    intro seen h hb
    obtain ⟨s, lp⟩ := y
    rw [jumpGo] at h
    split at h
    · cases h
    · rename_i hc
      rw [List.map_cons, jumpGo]
      have hr := fun x hx => hb x (List.mem_cons_of_mem _ hx)
      by_cases hi : s.id = t.id
      · have hs := putS_at (t := t) (u := s) hi
        obtain ⟨h1, h2⟩ := hb _ List.mem_cons_self hi
        have hc' : (twiceB (seen ++ s.labels) || !leadsP f s lp) = false := by simpa using hc
        rw [Bool.or_eq_false_iff] at hc'
        have h2' : leadsP f t lp = true := h2
        have h1' : t.labels = s.labels := h1
        rw [leads_same hs hl, hs.2.2.1, h2', h1', hc'.1]
        exact ih _ h hr
      · have hs := putS_out (t := t) (u := s) hi
        rw [leads_same hs hl, hs.2.2.1, if_neg hc]
        exact ih _ h hr
theorem zip_put (t : St) (l : List St) (m : List Int) : (l.map (putS t)).zip m = (l.zip m).map fun x => (putS t x.1, x.2) := by
  rw [List.zip_map_left]
  rfl
/-- Labels put: who stands among them. -/
theorem labs_has {t : St} {f : Pc} (h : ∀ u ∈ stsOf f, u.id = t.id → ∀ s, s ∈ t.labels ↔ s ∈ u.labels) (s : ByteArray) : inB s (labsOf (putPc t f)) = inB s (labsOf f) := by
  have hm : s ∈ labsOf (putPc t f) ↔ s ∈ labsOf f := by
    unfold labsOf
    rw [List.mem_append, List.mem_append, labLs_mem, labLs_mem, sts_put]
    refine or_congr ⟨?_, ?_⟩ Iff.rfl
    · rintro ⟨v, hv, hs⟩
      obtain ⟨u, hu, rfl⟩ := List.mem_map.1 hv
      refine ⟨u, hu, ?_⟩
      by_cases hi : u.id = t.id
      · rw [(putS_at hi).2.2.1] at hs
        exact (h u hu hi s).1 hs
      · rwa [(putS_out hi).2.2.1] at hs
    · rintro ⟨u, hu, hs⟩
      refine ⟨_, List.mem_map.2 ⟨u, hu, rfl⟩, ?_⟩
      by_cases hi : u.id = t.id
      · rw [(putS_at hi).2.2.1]
        exact (h u hu hi s).2 hs
      · rwa [(putS_out hi).2.2.1]
  cases hb : inB s (labsOf f) with
  | true => exact inB_iff.2 (hm.2 (inB_iff.1 hb))
  | false => exact inB_no.2 fun hx => inB_no.1 hb (hm.1 hx)
/-- The innermost loop of a statement, by its place. -/
theorem loop_place {p : Pr} (h : mayP p = true) {k : Nat} (hk : k < p.procs.length) {x : St × Int} (hx : x ∈ (stsOf p.procs[k]).zip (loopsOf p.procs[k])) : loopP p x.1.id = x.2 ∧ x.1 ∈ stsOf p.procs[k] := by
  obtain ⟨q, hq, rfl⟩ := List.getElem_of_mem hx
  rw [List.getElem_zip]
  rw [List.length_zip] at hq
  have hqs : q < (stsOf p.procs[k]).length := by omega
  have hql : q < (loopsOf p.procs[k]).length := by omega
  refine ⟨?_, List.getElem_mem hqs⟩
  have hid := sts_at_id (mayPs_nth (mayP_procs h) k hk) hqs
  have hc : q < cntL p.procs[k].body := by rw [← sts_len]; exact hqs
  unfold loopP
  show (if 1 ≤ (stsOf p.procs[k])[q].id then _ else _) = _
  rw [if_pos (by omega), show ((stsOf p.procs[k])[q].id - 1).toNat = cntP (p.procs.take k) + q by omega, flat_loops p.procs k hk q hc, List.getElem?_eq_getElem hql]
  rfl
theorem zip_has {l : List St} {m : List Int} (h : m.length = l.length) {s : St} (hs : s ∈ l) : ∃ x ∈ l.zip m, x.1 = s := by
  obtain ⟨q, hq, rfl⟩ := List.getElem_of_mem hs
  have hz : q < (l.zip m).length := by rw [List.length_zip]; omega
  exact ⟨_, List.getElem_mem hz, by rw [List.getElem_zip]⟩
section
variable {p : Pr} {t s : St} {k : Nat}
theorem Picked.only (hs : Picked p t.id s k) (hm : mayP p = true) {j : Nat} (hj : j < p.procs.length) {u : St} (hu : u ∈ stsOf p.procs[j]) (he : u.id = t.id) : j = k ∧ u = s := by
  have h1 : j = k := same_pc hm hj hs.lt hu hs.st (by rw [he, hs.id])
  subst h1
  refine ⟨rfl, ?_⟩
  have h2 := it6_st hm (List.getElem_mem hj) hu
  have h3 := hs.it.1
  rw [← h2.1, he, h3]
/-- A statement without bodies, put for by one without: the first fault of its jumps. -/
theorem jump_put (hj : (jumpP p).1 = 0) (hm : mayP p = true) (hs : Picked p t.id s k) (h0 : s.thn = [] ∧ s.els = []) (hsc : scopeP (putPr t p) = (0, 0)) :
    ((∀ lp, lp = loopP p t.id → leadsP (p.procs[k]'hs.lt) t lp = true) → t.labels = s.labels → jumpP (putPr t p) = (0, 0)) ∧
    ((∀ s', s' ∈ t.labels ↔ s' ∈ s.labels) → (∀ seen lp, lp = loopP p t.id → (twiceB (seen ++ t.labels) || !leadsP (p.procs[k]'hs.lt) t lp) = true) → jumpP (putPr t p) = (7, t.id)) := by
  obtain ⟨-, hpc⟩ := jump_code hj
  have hlen : (putPr t p).procs.length = p.procs.length := by rw [show (putPr t p).procs = p.procs.map (putPc t) from rfl, List.length_map]
  have hget : ∀ j (hj : j < (putPr t p).procs.length), (putPr t p).procs[j] = putPc t (p.procs[j]'(by omega)) := fun j hj => List.getElem_map _
  have hat : ∀ x, jumpAt (putPr t p) = x → jumpP (putPr t p) = x := fun x hx => by
    unfold jumpP
    rw [hsc, if_pos rfl, hx]
  have hgo : ∀ j (hj : j < p.procs.length), pcJump (putPc t p.procs[j]) = jumpGo (putPc t p.procs[j]) [] (((stsOf p.procs[j]).zip (loopsOf p.procs[j])).map fun x => (putS t x.1, x.2)) := fun j hj => by
    unfold pcJump
    rw [sts_put, loops_put (fun v hv he => by rw [(hs.only hm hj hv he).2]; exact h0), zip_put]
  have hplace : ∀ x, x ∈ (stsOf (p.procs[k]'hs.lt)).zip (loopsOf (p.procs[k]'hs.lt)) → x.1.id = t.id → x.1 = s ∧ x.2 = loopP p t.id := fun x hx he => by
    obtain ⟨h1, h2⟩ := loop_place hm hs.lt hx
    rw [he] at h1
    exact ⟨(hs.only hm hs.lt h2 he).2, h1.symm⟩
  have hothers : (∀ s', s' ∈ t.labels ↔ s' ∈ s.labels) → ∀ j (hj : j < p.procs.length), ∀ s', inB s' (labsOf (putPc t p.procs[j])) = inB s' (labsOf p.procs[j]) := fun hl j hj =>
    labs_has fun u hu he => by rw [(hs.only hm hj hu he).2]; exact hl
  have hrest : (∀ s', s' ∈ t.labels ↔ s' ∈ s.labels) → ∀ j (hj : j < p.procs.length), j ≠ k → pcJump (putPc t p.procs[j]) = none := fun hl j hj hjk => by
    rw [hgo j hj]
    refine jumpGo_good (hothers hl j hj) rfl _ _ (hpc _ (List.getElem_mem hj)) fun x hx he => ?_
    exact absurd (hs.only hm hj (loop_place hm hj hx).2 he).1 hjk
  refine ⟨fun hlead hlab => hat _ (jump_ok fun j hj => ?_), fun hlab hbad => hat _ (jump_at (k := k) (by rw [hlen]; exact hs.lt) (fun j hj hjk => ?_) ?_)⟩
  · have hj' : j < p.procs.length := by omega
    rw [hget j hj]
    by_cases hjk : j = k
    · subst hjk
      rw [hgo j hj']
      refine jumpGo_good (hothers (fun s' => by rw [hlab]) j hj') rfl _ _ (hpc _ (List.getElem_mem hj')) fun x hx he => ?_
      obtain ⟨g1, g2⟩ := hplace x hx he
      exact ⟨by rw [g1, hlab], hlead _ g2⟩
    · exact hrest (fun s' => by rw [hlab]) j hj' hjk
  · rw [hget j hj]
    exact hrest hlab j (by omega) (by omega)
  · rw [hget k (by rw [hlen]; exact hs.lt), hgo k hs.lt]
    refine jumpGo_bad (hothers hlab k hs.lt) _ _ (hpc _ (List.getElem_mem hs.lt)) ?_ fun sn x hx he => hbad sn _ (hplace x hx he).2
    obtain ⟨x, hx, he⟩ := zip_has (loops_len (p.procs[k]'hs.lt)) hs.st
    exact ⟨x, hx, by rw [he, hs.id]⟩
end
end Go.Proofs.Ytghlmengcidmdaa.Tr
end
section
/- A statement turned into a jump, or with its labels twice. No program's code. Conditions: jumps are well. -/
namespace Go.Proofs.Ytghlmengcidmdaa.Tr
open Go.RowKit Go.Proofs.Ytghlmengcidmdaa.Lx Go.Proofs.Ytghlmengcidmdaa.Wd
/-- The statement turned, as m tells (1: leave or go on, 2: its labels twice, else: go to a name). -/
def turnJ (m : Int) (name : ByteArray) (s : St) : St :=
  if m = 1 then .mk s.id (7 + s.kind % 2) s.labels noT noT eNone false [] [] []
  else if m = 2 then .mk s.id s.kind (s.labels ++ s.labels) s.nm s.proc s.x s.has s.args s.thn s.els
  else .mk s.id 10 s.labels name noT eNone false [] [] []
/-- Does it lead somewhere? -/
def thereJ (p : Pr) (m : Int) (name : ByteArray) (s : St) : Bool :=
  if m = 1 then !(jloopP p s.id == 0) else if m = 2 then decide (s.labels.length = 0) else (jatP p (nm6 p s.id) name).2
theorem said_none {k : Int} {nm : ByteArray} {i : Int} {ls : List ByteArray} (h : k = 10 ∨ nm = noT) : saidS (.mk i k ls nm noT eNone false [] [] []) = [] := by
  have h1 : saidN (.mk i k ls nm noT eNone false [] [] []) = [] := by
    unfold saidN
    rw [if_neg]
    rcases h with rfl | rfl
    · show ¬ ((!((10 : Int) == 10)) && _) = true
      simp
    · show ¬ (!(k == 10) && !noName noT) = true
      rw [show noName noT = true by kernel_rfl]
      simp
  unfold saidS
  rw [h1]
  show ([] ++ namesOf eNone) ++ [] = []
  rw [names_none]
  rfl
theorem twice_dbl {seen l : List ByteArray} (h : l ≠ []) : twiceB (seen ++ (l ++ l)) = true := by
  cases l with
  | nil => exact absurd rfl h
  | cons a r =>
    unfold twiceB
    simp [List.nodup_append]
theorem turnJ_put {p : Pr} (h : (jumpP p).1 = 0) {id : Int} {s : St} {k : Nat} (hs : Picked p id s k) (h0 : s.thn = [] ∧ s.els = []) {m : Int} {name : ByteArray} (hn : isName (bl name) = true) :
    mayP (putPr (turnJ m name s) p) = true ∧ jumpP (putPr (turnJ m name s) p) = if thereJ p m name s then (0, 0) else (7, id) := by
  obtain ⟨hsc, -⟩ := jump_code h
  obtain ⟨hm, -, h3⟩ := scope_code hsc
  obtain ⟨hfb, hlb⟩ := picked_row hm hs
  obtain ⟨t, ht⟩ : ∃ t, t = turnJ m name s := ⟨_, rfl⟩
  have hid : t.id = id := by rw [ht, ← hs.id]; unfold turnJ; split; rfl; split <;> rfl
  have hs' : Picked p t.id s k := by rw [hid]; exact hs
  have hkid : t.id = s.id := by rw [hid, hs.id]
  have hnt : namesB t.labels = true := by
    rw [ht]; unfold turnJ
    split
    · exact hlb
    · split
      · show namesB (s.labels ++ s.labels) = true
        unfold namesB at hlb ⊢
        rw [List.all_append, hlb]
        rfl
      · exact hlb
  have hft : fieldsB (withIn t s) = true := by
    unfold withIn
    rw [ht, h0.1, h0.2]; unfold turnJ
    split
    · have hk : s.kind % 2 = 0 ∨ s.kind % 2 = 1 := by omega
      have hf : ∀ kk : Int, kk = 0 ∨ kk = 1 → fieldsB (.mk s.id (7 + kk) s.labels noT noT eNone false [] [] []) = true := by
        rintro _ (rfl | rfl) <;> kernel_rfl
      exact hf _ hk
    · split
      · rw [← hfb]
        unfold fieldsB okK moreI hasI thenI otherI nameI procI xI
        rw [h0.1, h0.2]
        rfl
      · show fieldsB (.mk s.id 10 s.labels name noT eNone false [] [] []) = true
        unfold fieldsB
        have : namedB name (nameI (.mk s.id 10 s.labels name noT eNone false [] [] [])) = true := hn
        show (_ && _ && namedB name (nameI (.mk s.id 10 s.labels name noT eNone false [] [] [])) && _ && _ && _) = true
        rw [this]
        kernel_rfl
  have hmt : mayP (putPr t p) = true := may_put hm (hs'.find hm) hnt hft
  have hkt : knownS p.globals (p.procs[k]'hs.lt) (procNs p) t = true := by
    have hks := (pc_parts (h3 _ (List.getElem_mem hs.lt))).2.2 s hs.st
    rw [ht]; unfold turnJ
    split
    · unfold knownS
      rw [said_none (.inr rfl)]
      have : (7 + s.kind % 2 == 4) = false := by
        have hk : s.kind % 2 = 0 ∨ s.kind % 2 = 1 := by omega
        rcases hk with hk | hk <;> (rw [hk]; rfl)
      show ([].all _ && (!(7 + s.kind % 2 == 4) || _)) = true
      rw [this]; rfl
    · split
      · exact hks
      · unfold knownS
        rw [said_none (.inl rfl)]
        rfl
  have hsp := scope_put_ok hsc hs' hmt hkt
  obtain ⟨hA, hB⟩ := jump_put h hm hs' h0 hsp
  have hwell : wellPc p (nm6 p s.id) = some (p.procs[k]'hs.lt) := by
    unfold wellPc
    rw [if_pos hsc, hs.id, hs.it.2]
    have := (scope_code hsc).2.1
    unfold headFault at this
    simp only [Bool.or_eq_false_iff] at this
    exact pc_first this.1.2 hs.lt
  refine ⟨by rw [← ht]; exact hmt, ?_⟩
  rw [← ht, ← hid]
  unfold thereJ
  by_cases m1 : m = 1
  · rw [if_pos m1]
    have hk : t.kind = 7 ∨ t.kind = 8 := by rw [ht]; unfold turnJ; rw [if_pos m1]; show 7 + s.kind % 2 = 7 ∨ 7 + s.kind % 2 = 8; omega
    have hl : t.labels = s.labels := by rw [ht]; unfold turnJ; rw [if_pos m1]; rfl
    have hlead : ∀ lp, leadsP (p.procs[k]'hs.lt) t lp = !(lp == 0) := fun lp => by unfold leadsP; rw [if_pos hk]
    have hlp : jloopP p s.id = loopP p t.id := by unfold jloopP; rw [if_pos hsc, hkid]
    rw [hlp]
    cases hb : (loopP p t.id == 0) with
    | false => exact hA (fun lp he => by rw [hlead, he, hb]; rfl) hl
    | true => exact hB (fun s' => by rw [hl]) (fun sn lp he => by rw [hlead, he, hb]; simp)
  · rw [if_neg m1]
    by_cases m2 : m = 2
    · rw [if_pos m2]
      have hte : t = .mk s.id s.kind (s.labels ++ s.labels) s.nm s.proc s.x s.has s.args s.thn s.els := by rw [ht]; unfold turnJ; rw [if_neg m1, if_pos m2]
      have hl : t.labels = s.labels ++ s.labels := by rw [hte]; rfl
      by_cases hz : s.labels.length = 0
      · rw [decide_eq_true hz]
        have hnil := List.eq_nil_of_length_eq_zero hz
        refine hA (fun lp he => ?_) (by rw [hl, hnil]; rfl)
        have hx := zip_has (loops_len (p.procs[k]'hs.lt)) hs.st
        obtain ⟨x, hx, hxe⟩ := hx
        have h4 := (jumpGo_none _ _ ((jump_code h).2 _ (List.getElem_mem hs.lt))).1 x hx
        obtain ⟨h5, -⟩ := loop_place hm hs.lt hx
        rw [hxe] at h4 h5
        have h6 : lp = x.2 := by rw [he, ← h5]; exact congrArg (loopP p) hkid
        rw [h6, ← h4]
        have h7 : t.kind = s.kind ∧ t.nm = s.nm := by rw [hte]; exact ⟨rfl, rfl⟩
        unfold leadsP
        rw [h7.1, h7.2]
      · rw [decide_eq_false hz]
        refine hB (fun s' => by rw [hl]; simp) (fun sn lp _ => ?_)
        rw [hl, twice_dbl (fun h => hz (by rw [h]; rfl))]
        rfl
    · rw [if_neg m2]
      have hte : t = .mk s.id 10 s.labels name noT eNone false [] [] [] := by rw [ht]; unfold turnJ; rw [if_neg m1, if_neg m2]
      have hl : t.labels = s.labels := by rw [hte]; rfl
      have hlead : ∀ lp, leadsP (p.procs[k]'hs.lt) t lp = inB name (labsOf (p.procs[k]'hs.lt)) := fun lp => by rw [hte]; rfl
      have hat : (jatP p (nm6 p s.id) name).2 = inB name (labsOf (p.procs[k]'hs.lt)) := by
        unfold jatP
        rw [hwell]
        exact bear_in
      rw [hat]
      cases hb : inB name (labsOf (p.procs[k]'hs.lt)) with
      | true => exact hA (fun lp _ => by rw [hlead, hb]) hl
      | false => exact hB (fun s' => by rw [hl]) (fun sn lp _ => by rw [hlead, hb]; simp)
end Go.Proofs.Ytghlmengcidmdaa.Tr
end
section
/- A statement turned into a jump: it is light, the program put has room. No program's code. Conditions: as each says. -/
namespace Go.Proofs.Ytghlmengcidmdaa.Tr
open Go.RowKit Go.Proofs.Ytghlmengcidmdaa.Lx Go.Proofs.Ytghlmengcidmdaa.Wd
theorem turnJ_light {s : St} (h : wtS s ≤ 20000) {m : Int} {name : ByteArray} : LightS (turnJ m name s) := by
  have hl := wtTs_len s.labels
  obtain ⟨h1, h2, h3, h4⟩ := LightS.of h
  have h5 := h
  rw [wtS_eq] at h5
  have he : wt eNone ≤ 20000 := by decide
  unfold turnJ
  split
  · exact ⟨he, by show s.labels.length ≤ _; exact h2, by show 0 ≤ _; omega, fun a ha => by cases ha⟩
  · split
    · exact ⟨h1, by show (s.labels ++ s.labels).length ≤ _; rw [List.length_append]; omega, h3, h4⟩
    · exact ⟨he, by show s.labels.length ≤ _; exact h2, by show 0 ≤ _; omega, fun a ha => by cases ha⟩
theorem turnJ_labs {s : St} (h : wtS s ≤ 20000) {m : Int} {name : ByteArray} : (turnJ m name s).labels.length ≤ 100000 := by
  have hl := wtTs_len s.labels
  rw [wtS_eq] at h
  unfold turnJ
  split
  · show s.labels.length ≤ _; omega
  · split
    · show (s.labels ++ s.labels).length ≤ _; rw [List.length_append]; omega
    · show s.labels.length ≤ _; omega
theorem turnJ_said {s : St} (h : wtS s ≤ 20000) {m : Int} {name : ByteArray} : (saidS (turnJ m name s)).length ≤ 200000 := by
  unfold turnJ
  split
  · rw [said_none (.inr rfl)]; simp
  · split
    · have := saidS_wt s
      show (saidS s).length ≤ _
      omega
    · rw [said_none (.inl rfl)]; simp
theorem turnJ_room {p : Pr} (hm : mayP p = true) (hw : wtPr p ≤ 20000) {s : St} (h : wtS s ≤ 20000) {m : Int} {name : ByteArray} : RoomP (putPr (turnJ m name s) p) := room_put hm hw (turnJ_said h) (turnJ_labs h)
end Go.Proofs.Ytghlmengcidmdaa.Tr
end
