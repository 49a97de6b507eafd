/- Parts of TurnP, OneP, IdsW, PutM, PutN, TurnA, PutR, JumpP, JumpU: walks and plain laws that later texts use. Conditions: as each statement says. -/
import Derived.Test.YtghlmengcidmdaaJa0
import Derived.Test.YtghlmengcidmdaaJa1
import Derived.Test.YtghlmengcidmdaaJa10
import Derived.Test.YtghlmengcidmdaaJa11
import Derived.Test.YtghlmengcidmdaaJa12
import Derived.Test.YtghlmengcidmdaaJa13
import Derived.Test.YtghlmengcidmdaaJa14
import Derived.Test.YtghlmengcidmdaaJa15
import Derived.Test.YtghlmengcidmdaaJa16
import Derived.Test.YtghlmengcidmdaaJa17
import Derived.Test.YtghlmengcidmdaaJa18
import Derived.Test.YtghlmengcidmdaaJa19
import Derived.Test.YtghlmengcidmdaaJa2
import Derived.Test.YtghlmengcidmdaaJa3
import Derived.Test.YtghlmengcidmdaaJa4
import Derived.Test.YtghlmengcidmdaaJa5
import Derived.Test.YtghlmengcidmdaaJa6
import Derived.Test.YtghlmengcidmdaaJa7
import Derived.Test.YtghlmengcidmdaaJa8
import Derived.Test.YtghlmengcidmdaaJa9
import Derived.Test.YtghlmengcidmdaaJe0
import Derived.Test.YtghlmengcidmdaaJe1
import Derived.Test.YtghlmengcidmdaaJe2
import Derived.Test.YtghlmengcidmdaaJe3
import Derived.WalkKit
import Derived.Test.YtghlmengcidmdaaRows
import Derived.WalkSpells
import Derived.Lib.Hide
import Derived.Below
import Derived.Laws.BitsAllLaws
import Derived.RegionTactic
import Derived.OrdersHeld
import Derived.Deep.RegionHeld3
import Derived.OwnWalk
import Derived.OneCell
import Derived.Deep.AppendLies
import Derived.Deep.RegionLaw
import Derived.Deep.DeepCutAuto
import Derived.IntWalk
import Derived.Deep.QuietTactic
import Derived.BigQuiet
import Derived.Deep.CutBlock
import Derived.StillTailTactics
import Derived.Maps.Range
import Derived.Outline
import Derived.Lib.SmallJoins
import Derived.Deep.Upon
import Derived.Maps.AppendAt
import Derived.Laws.OwnMore
import Derived.Deep.RegionWith
import Derived.Laws.Cover3
import Derived.Laws.StructEq
import Derived.WalkSmall
import Derived.Deep.Slices
import Derived.Deep.Fields
import Derived.SliceStrings
import Derived.ChangeSlices
import Derived.Deep.MidRow
section
/- What turns when one statement of a program is put for another one. No program. Conditions: the program may be. -/
namespace Go.Proofs.Ytghlmengcidmdaa.Tr
open Go.RowKit Go.Proofs.Ytghlmengcidmdaa.Lx Go.Proofs.Ytghlmengcidmdaa.Wd
mutual
theorem findS_range (id : Int) : ∀ (s : St) (nest n : Int), rowS 200 12 nest n s = true → (findS id s).isSome = true → n < id ∧ id ≤ n + cntS s
  | .mk i k ls nm pr x h ar th el, nest, n => fun hr hf => by
    rw [rowS_eq] at hr
    simp only [Bool.and_eq_true, decide_eq_true_eq, beq_iff_eq, St.id, St.labels, St.thn, St.els] at hr
    rw [findS] at hf
    rw [cntS]
    by_cases hi : i = id
    · have := hr.1.1.1.1.2; push_cast; omega
    · rw [if_neg hi] at hf
      cases hh : findL id th with
      | some u => have := findL_range id th _ _ hr.1.2 (by rw [hh]; rfl); push_cast; omega
      | none => rw [hh] at hf; have := findL_range id el _ _ hr.2 hf; push_cast; omega
theorem findL_range (id : Int) : ∀ (l : List St) (nest n : Int), rowsL 200 12 nest n l = true → (findL id l).isSome = true → n < id ∧ id ≤ n + cntL l
  | [], nest, n => fun _ hf => by rw [findL] at hf; cases hf
  | s :: r, nest, n => fun hr hf => by
    rw [rowsL_cons] at hr
    simp only [Bool.and_eq_true, decide_eq_true_eq] at hr
    rw [findL] at hf
    rw [cntL]
    cases hh : findS id s with
    | some u => have := findS_range id s _ _ hr.1.2 (by rw [hh]; rfl); push_cast; omega
    | none => rw [hh] at hf; have := findL_range id r _ _ hr.2 hf; push_cast; omega
end
mutual
theorem findS_row (id : Int) : ∀ (s t : St) (nest n : Int), rowS 200 12 nest n s = true → findS id s = some t → ∃ e m, rowS 200 12 e m t = true
  | .mk i k ls nm pr x h ar th el, t, nest, n => fun hr hf => by
    have hr' := hr
    rw [rowS_eq] at hr
    simp only [Bool.and_eq_true, decide_eq_true_eq, beq_iff_eq, St.id, St.labels, St.thn, St.els] at hr
    rw [findS] at hf
    by_cases hi : i = id
    · rw [if_pos hi] at hf; cases hf; exact ⟨_, _, hr'⟩
    · rw [if_neg hi] at hf
      cases hh : findL id th with
      | some u => rw [hh] at hf; cases hf; exact findL_row id th _ _ _ hr.1.2 hh
      | none => rw [hh] at hf; exact findL_row id el _ _ _ hr.2 hf
theorem findL_row (id : Int) : ∀ (l : List St) (t : St) (nest n : Int), rowsL 200 12 nest n l = true → findL id l = some t → ∃ e m, rowS 200 12 e m t = true
  | [], t, nest, n => fun _ hf => by rw [findL] at hf; cases hf
  | s :: r, t, nest, n => fun hr hf => by
    rw [rowsL_cons] at hr
    simp only [Bool.and_eq_true, decide_eq_true_eq] at hr
    rw [findL] at hf
    cases hh : findS id s with
    | some u => rw [hh] at hf; cases hf; exact findS_row id s _ _ _ hr.1.2 hh
    | none => rw [hh] at hf; exact findL_row id r _ _ _ hr.2 hf
end
mutual
theorem put_outS (t : St) : ∀ (s : St) (nest n : Int), rowS 200 12 nest n s = true → (t.id ≤ n ∨ n + cntS s < t.id) → putS t s = s
  | .mk i k ls nm pr x h ar th el, nest, n => fun hr h0 => by
    rw [rowS_eq] at hr
    simp only [Bool.and_eq_true, decide_eq_true_eq, beq_iff_eq, St.id, St.labels, St.thn, St.els] at hr
    rw [cntS] at h0
    push_cast at h0
    have hi : i ≠ t.id := by have := hr.1.1.1.1.2; omega
    rw [putS, if_neg hi, put_outL t th _ _ hr.1.2 (by omega), put_outL t el _ _ hr.2 (by omega)]
theorem put_outL (t : St) : ∀ (l : List St) (nest n : Int), rowsL 200 12 nest n l = true → (t.id ≤ n ∨ n + cntL l < t.id) → putL t l = l
  | [], nest, n => fun _ _ => by rw [putL]
  | s :: r, nest, n => fun hr h0 => by
    rw [rowsL_cons] at hr
    simp only [Bool.and_eq_true, decide_eq_true_eq] at hr
    rw [cntL] at h0
    push_cast at h0
    rw [putL, put_outS t s _ _ hr.1.2 (by omega), put_outL t r _ _ hr.2 (by omega)]
end
/-- The same but for what stands in it. -/
def sameF (t s : St) : Prop := t.id = s.id ∧ t.kind = s.kind ∧ t.labels = s.labels ∧ t.nm = s.nm ∧ t.proc = s.proc ∧ t.x = s.x ∧ t.has = s.has ∧ t.args = s.args
theorem put_outPs (t : St) : ∀ (l : List Pc) (n : Int), mayPs n l = true → (t.id ≤ n ∨ n + cntP l < t.id) → l.map (putPc t) = l := by
  intro l
  induction l with
  | nil => intro n _ _; rfl
  | cons f r ih =>
    intro n h h0
    rw [mayPs, Bool.and_eq_true] at h
    have e : ((cntP (f :: r) : Nat) : Int) = cntL f.body + cntP r := by unfold cntP; rw [List.map_cons, List.sum_cons]; push_cast; rfl
    rw [e] at h0
    rw [List.map_cons, ih _ h.2 (by omega)]
    have : putPc t f = f := by unfold putPc; rw [put_outL t f.body _ _ (mayPc_rows h.1) (by omega)]
    rw [this]
theorem findP_range (id : Int) : ∀ (l : List Pc) (n : Int), mayPs n l = true → (findP id l).isSome = true → n < id ∧ id ≤ n + cntP l := by
  intro l
  induction l with
  | nil => intro n _ h; rw [findP] at h; cases h
  | cons f r ih =>
    intro n h hf
    rw [mayPs, Bool.and_eq_true] at h
    have e : ((cntP (f :: r) : Nat) : Int) = cntL f.body + cntP r := by unfold cntP; rw [List.map_cons, List.sum_cons]; push_cast; rfl
    rw [e]
    rw [findP] at hf
    cases hh : findL id f.body with
    | some a => have := findL_range id f.body _ _ (mayPc_rows h.1) (by rw [hh]; rfl); omega
    | none => rw [hh] at hf; have := ih _ h.2 hf; omega
theorem findP_row {id : Int} : ∀ {l : List Pc} {n : Int} {nm : ByteArray} {s : St}, mayPs n l = true → findP id l = some (nm, s) → ∃ e m, rowS 200 12 e m s = true := by
  intro l
  induction l with
  | nil => intro n nm s _ h; rw [findP] at h; cases h
  | cons f r ih =>
    intro n nm s h hf
    rw [mayPs, Bool.and_eq_true] at h
    rw [findP] at hf
    cases hh : findL id f.body with
    | some a => rw [hh] at hf; cases hf; exact findL_row id _ _ _ _ (mayPc_rows h.1) hh
    | none => rw [hh] at hf; exact ih h.2 hf
end Go.Proofs.Ytghlmengcidmdaa.Tr
end
section
/- What holds of a program whose names are well. No program's code. Conditions: as each statement says. -/
namespace Go.Proofs.Ytghlmengcidmdaa.Tr
open Go.RowKit Go.Proofs.Ytghlmengcidmdaa.Lx Go.Proofs.Ytghlmengcidmdaa.Wd
theorem pc_parts {g procs : List ByteArray} {f : Pc} (h : pcFault g procs f = none) : twiceB (ownNs f) = false ∧ ((ownNs f).any fun n => inB n g) = false ∧ ∀ s ∈ stsOf f, knownS g f procs s = true := by
  unfold pcFault at h
  cases h1 : twiceB (ownNs f) with
  | true => rw [h1] at h; simp at h
  | false =>
    cases h2 : (ownNs f).any fun n => inB n g with
    | true => rw [h1, h2] at h; simp at h
    | false =>
      rw [h1, h2, Bool.or_false, if_neg Bool.false_ne_true, Option.map_eq_none_iff, List.find?_eq_none] at h
      exact ⟨rfl, rfl, fun s hs => by have := h s hs; simpa using this⟩
section
variable {p : Pr} {f : Pc} (hf : f ∈ p.procs) (h : (scopeP p).1 = 0)
include hf h
end
end Go.Proofs.Ytghlmengcidmdaa.Tr
end
section
/- What Stmt, ProcOf, Ids and Pick of the reference tell. Conditions: what they are handed lies in memory. -/
namespace Go.Proofs.Ytghlmengcidmdaa.Tr
open Go.RowKit Go.Proofs.Ytghlmengcidmdaa.Lx Go.Proofs.Ytghlmengcidmdaa.Wd
set_option linter.unusedSimpArgs false
theorem box_part {w : World} {g : Nat} {xs rest : List Value} (h : BoxAt w g (xs ++ rest)) : BoxAt w g xs := fun j u hu => h j u (by rw [List.getElem?_append_left (List.getElem?_eq_some_iff.1 hu).1]; exact hu)
/-- A statement that is told. -/
def StTold (d : Nat) (s : St) (w : World) (e : Ending) (w' : World) : Prop := ∃ (la ka aa ta ea : Option Addr) (lc kc ac tc ec : Nat), e = .returned (.agg #[.int .i64 s.id, .int .i64 s.kind, .slice la s.labels.length lc, .string s.nm, .string s.proc, .int .i64 s.x.op, .int .i64 s.x.n, .string s.x.nm, .slice ka s.x.ks.length kc, .bool s.has, .slice aa s.args.length ac, .slice ta s.thn.length tc, .slice ea s.els.length ec]) ∧ Hang d w' s (.slice la s.labels.length lc) (.slice ka s.x.ks.length kc) (.slice aa s.args.length ac) (.slice ta s.thn.length tc) (.slice ea s.els.length ec) ∧ OkE s.x ∧ InI s.id ∧ InI s.kind ∧ s.nm.size ≤ 9223372036854775807 ∧ s.proc.size ≤ 9223372036854775807 ∧ Below w.heap.size w w'
set_option maxHeartbeats 4000000 in
set_option maxRecDepth 100000 in
theorem stmt6_any (d : Nat) (p : Pr) (gv pv : Value) (id : Int) (w : World) (hp : PrC (cw w) (d + 1) gv pv p) :
    Calls Try.prog 23 #[.agg #[gv, pv], .int .i64 id] w (StTold (d + 1) (it6 p id).s w) := by
  obtain ⟨ga, gc, rfl, hgl1, hgl2⟩ := hp.1.form
  obtain ⟨pa, pc, rfl, hl1, hl2⟩ := hp.2.form
  have hpl : p.procs.length ≤ 9223372036854775807 := Nat.le_trans hl1 hl2
  have HP := Lib.hid hp
  clear hp hl1 hl2 hgl1 hgl2
  obtain ⟨t, ht⟩ : ∃ t, Hid (it6 p id = t) := ⟨_, Lib.hid rfl⟩
  obtain ⟨NM, hNM⟩ : ∃ t, Hid (nm6 p id = t) := ⟨_, Lib.hid rfl⟩
  obtain ⟨HS, hHS⟩ : ∃ t, Hid (has6 p id = t) := ⟨_, Lib.hid rfl⟩
  rw [ht.out]
  go_enter Try.func23, Try.ntmps23
  go_upto_region 1 with fail
  refine cut_world (fun wx => Below w.heap.size w wx ∧ wx.heap.size = w.heap.size + 1 + 1 ∧ BoxAt wx w.heap.size [.slice ga p.globals.length gc, .slice pa p.procs.length pc] ∧ BoxAt wx (w.heap.size + 1) [.int .i64 0, .int .i64 0, .slice none 0 0, .string ⟨#[]⟩, .string ⟨#[]⟩, .int .i64 0, .int .i64 0, .string ⟨#[]⟩, .slice none 0 0, .bool false, .slice none 0 0, .slice none 0 0, .slice none 0 0] ∧ Free wx (w.heap.size + 1)) ⟨(boxed w _).alloc (by simp) _, by simp, (box_new w #[.slice ga p.globals.length gc, .slice pa p.procs.length pc] 25).next (boxed _ _), box_two w _ #[.int .i64 0, .int .i64 0, .slice none 0 0, .string ⟨#[]⟩, .string ⟨#[]⟩, .int .i64 0, .int .i64 0, .string ⟨#[]⟩, .slice none 0 0, .bool false, .slice none 0 0, .slice none 0 0, .slice none 0 0] 41, free_two w _ _ _⟩ ?_
  rintro w1 ⟨hb1, hz1', hx1, hr1, hf1⟩
  obtain ⟨R, hR⟩ : ∃ R, R = w.heap.size + 1 := ⟨_, rfl⟩
  rw [← hR] at hr1 hf1
  try rw [← hR]
  have hRw : w.heap.size < R := by omega
  have hR1 : R < w1.heap.size := by omega
  have HB1 := Lib.hid hb1
  have HX1 := Lib.hid hx1
  have HR1 := Lib.hid hr1
  have HF1 := Lib.hid hf1
  have HP1 := Lib.hid (PrC.mono (low_next hb1) (PrC.mono low_all HP.out))
  clear hb1 hx1 hr1 hf1 hz1' hR
  have x0 := HX1.out 0 _ rfl
  have x1 := HX1.out 1 _ rfl
  go_wp2_with fail
  refine (find7_any w.heap.size d p _ _ id _ HB1.out.size HP1.out).mono ?_
  rw [ht.out, hNM.out, hHS.out]
  rintro e w2 ⟨la, ka, aa, ta, ea, lc, kc, ac, tc, ec, rfl, hh2, hok2, i1, i2, i3, i4, i5, i6, hb2⟩
  have HH2 := Lib.hid hh2
  have HOK2 := Lib.hid hok2
  have HJ2 := Lib.hid (And.intro i1 (And.intro i2 (And.intro i3 i4)))
  clear hh2 hok2 i1 i2 i3 i4 i5 i6 x0 x1
  have HR2 := Lib.hid (HR1.out.next hb2)
  have HF2 := Lib.hid (HF1.out.next hR1 hb2)
  have HB2 := Lib.hid (HB1.out.trans (hb2.mono HB1.out.size))
  have hR2 : R < w2.heap.size := by have := hb2.size; omega
  clear hb2
  go_upto_region 2 with fail
  refine cut_world (fun wx => Below w2.heap.size w2 wx ∧ BoxAt wx w2.heap.size [.int .i64 t.s.id, .int .i64 t.s.kind, .slice la t.s.labels.length lc, .string t.s.nm, .string t.s.proc, .int .i64 t.s.x.op, .int .i64 t.s.x.n, .string t.s.x.nm, .slice ka t.s.x.ks.length kc, .bool t.s.has, .slice aa t.s.args.length ac, .slice ta t.s.thn.length tc, .slice ea t.s.els.length ec, .int .i64 t.deep, .int .i64 t.inn, .bool t.els]) ⟨boxed w2 _, box_new w2 #[.int .i64 t.s.id, .int .i64 t.s.kind, .slice la t.s.labels.length lc, .string t.s.nm, .string t.s.proc, .int .i64 t.s.x.op, .int .i64 t.s.x.n, .string t.s.x.nm, .slice ka t.s.x.ks.length kc, .bool t.s.has, .slice aa t.s.args.length ac, .slice ta t.s.thn.length tc, .slice ea t.s.els.length ec, .int .i64 t.deep, .int .i64 t.inn, .bool t.els] 76⟩ ?_
  rintro w3 ⟨hb3, ht3⟩
  have HT3 := Lib.hid ht3
  have HLE3 := Lib.hid (low_next (B := w.heap.size) hb3)
  have HR3 := Lib.hid (HR2.out.next hb3)
  have HF3 := Lib.hid (HF2.out.next hR2 hb3)
  have HB3 := Lib.hid (HB2.out.trans (hb3.mono HB2.out.size))
  have hR3 : R < w3.heap.size := by have := hb3.size; omega
  have hne : R ≠ w2.heap.size := by omega
  clear hb3 ht3
  have hok : Below w.heap.size w (w3.setCells R 0 [.int .i64 t.s.id, .int .i64 t.s.kind, .slice la t.s.labels.length lc, .string t.s.nm, .string t.s.proc, .int .i64 t.s.x.op, .int .i64 t.s.x.n, .string t.s.x.nm, .slice ka t.s.x.ks.length kc, .bool t.s.has, .slice aa t.s.args.length ac, .slice ta t.s.thn.length tc, .slice ea t.s.els.length ec]) := setCells_below _ _ HB3.out (Nat.le_of_lt hRw)
  have hq : BoxAt (w3.setCells R 0 [.int .i64 t.s.id, .int .i64 t.s.kind, .slice la t.s.labels.length lc, .string t.s.nm, .string t.s.proc, .int .i64 t.s.x.op, .int .i64 t.s.x.n, .string t.s.x.nm, .slice ka t.s.x.ks.length kc, .bool t.s.has, .slice aa t.s.args.length ac, .slice ta t.s.thn.length tc, .slice ea t.s.els.length ec]) R [.int .i64 t.s.id, .int .i64 t.s.kind, .slice la t.s.labels.length lc, .string t.s.nm, .string t.s.proc, .int .i64 t.s.x.op, .int .i64 t.s.x.n, .string t.s.x.nm, .slice ka t.s.x.ks.length kc, .bool t.s.has, .slice aa t.s.args.length ac, .slice ta t.s.thn.length tc, .slice ea t.s.els.length ec] := box_over (old := [.int .i64 0, .int .i64 0, .slice none 0 0, .string ⟨#[]⟩, .string ⟨#[]⟩, .int .i64 0, .int .i64 0, .string ⟨#[]⟩, .slice none 0 0, .bool false, .slice none 0 0, .slice none 0 0, .slice none 0 0]) (xs := [.int .i64 t.s.id, .int .i64 t.s.kind, .slice la t.s.labels.length lc, .string t.s.nm, .string t.s.proc, .int .i64 t.s.x.op, .int .i64 t.s.x.n, .string t.s.x.nm, .slice ka t.s.x.ks.length kc, .bool t.s.has, .slice aa t.s.args.length ac, .slice ta t.s.thn.length tc, .slice ea t.s.els.length ec]) (rest := []) HR3.out HF3.out rfl
  have hth : w3.there R 0 13 := box_there (n := 13) HR3.out HF3.out (by simp)
  have HHZ : Hid (Hang (d + 1) (w3.setCells R 0 [.int .i64 t.s.id, .int .i64 t.s.kind, .slice la t.s.labels.length lc, .string t.s.nm, .string t.s.proc, .int .i64 t.s.x.op, .int .i64 t.s.x.n, .string t.s.x.nm, .slice ka t.s.x.ks.length kc, .bool t.s.has, .slice aa t.s.args.length ac, .slice ta t.s.thn.length tc, .slice ea t.s.els.length ec]) t.s (.slice la t.s.labels.length lc) (.slice ka t.s.x.ks.length kc) (.slice aa t.s.args.length ac) (.slice ta t.s.thn.length tc) (.slice ea t.s.els.length ec)) := Lib.hid (HH2.out _ (Cs.le_trans HLE3.out (fun g j u ⟨hg, hu⟩ => setCells_cell hu (by omega))))
  have q0 := hq 0 _ rfl
  have q1 := hq 1 _ rfl
  have q2 := hq 2 _ rfl
  have q3 := hq 3 _ rfl
  have q4 := hq 4 _ rfl
  have q5 := hq 5 _ rfl
  have q6 := hq 6 _ rfl
  have q7 := hq 7 _ rfl
  have q8 := hq 8 _ rfl
  have q9 := hq 9 _ rfl
  have q10 := hq 10 _ rfl
  have q11 := hq 11 _ rfl
  have q12 := hq 12 _ rfl
  go_wp2_with (first | refine wpList_load_mid rfl 41 (.tmp 15) rfl w2.heap.size 0 rfl [.int .i64 t.s.id, .int .i64 t.s.kind, .slice la t.s.labels.length lc, .string t.s.nm, .string t.s.proc, .int .i64 t.s.x.op, .int .i64 t.s.x.n, .string t.s.x.nm, .slice ka t.s.x.ks.length kc, .bool t.s.has, .slice aa t.s.args.length ac, .slice ta t.s.thn.length tc, .slice ea t.s.els.length ec] _ (fun j v hv => by rw [Nat.zero_add]; exact box_part (xs := [.int .i64 t.s.id, .int .i64 t.s.kind, .slice la t.s.labels.length lc, .string t.s.nm, .string t.s.proc, .int .i64 t.s.x.op, .int .i64 t.s.x.n, .string t.s.x.nm, .slice ka t.s.x.ks.length kc, .bool t.s.has, .slice aa t.s.args.length ac, .slice ta t.s.thn.length tc, .slice ea t.s.els.length ec]) (rest := [.int .i64 t.deep, .int .i64 t.inn, .bool t.els]) HT3.out j v hv) Try.underlying41 rfl (by kernel_rfl) ?_ | refine wpList_store_mid rfl 41 (.tmp 4) (.tmp 16) rfl R 0 #[.int .i64 t.s.id, .int .i64 t.s.kind, .slice la t.s.labels.length lc, .string t.s.nm, .string t.s.proc, .int .i64 t.s.x.op, .int .i64 t.s.x.n, .string t.s.x.nm, .slice ka t.s.x.ks.length kc, .bool t.s.has, .slice aa t.s.args.length ac, .slice ta t.s.thn.length tc, .slice ea t.s.els.length ec] rfl rfl hth (by kernel_rfl) (by simp [Value.oneCell']) ?_)
  refine bodyPost_ret (v := .agg #[.int .i64 t.s.id, .int .i64 t.s.kind, .slice la t.s.labels.length lc, .string t.s.nm, .string t.s.proc, .int .i64 t.s.x.op, .int .i64 t.s.x.n, .string t.s.x.nm, .slice ka t.s.x.ks.length kc, .bool t.s.has, .slice aa t.s.args.length ac, .slice ta t.s.thn.length tc, .slice ea t.s.els.length ec]) (by simp [results, Try.results23, go_sem, q0, q1, q2, q3, q4, q5, q6, q7, q8, q9, q10, q11, q12]) rfl ?_
  obtain ⟨i1, i2, i3, i4⟩ := HJ2.out
  exact ⟨la, ka, aa, ta, ea, lc, kc, ac, tc, ec, rfl, HHZ.out, HOK2.out, i1, i2, i3, i4, hok⟩
set_option maxHeartbeats 4000000 in
set_option maxRecDepth 100000 in
theorem procOf6_any (d : Nat) (p : Pr) (gv pv : Value) (id : Int) (w : World) (hp : PrC (cw w) (d + 1) gv pv p) :
    Calls Try.prog 27 #[.agg #[gv, pv], .int .i64 id] w (fun e w' => e = .returned (.string (nm6 p id)) ∧ Below w.heap.size w w') := by
  obtain ⟨ga, gc, rfl, hgl1, hgl2⟩ := hp.1.form
  obtain ⟨pa, pc, rfl, hl1, hl2⟩ := hp.2.form
  have hpl : p.procs.length ≤ 9223372036854775807 := Nat.le_trans hl1 hl2
  have HP := Lib.hid hp
  clear hp hl1 hl2 hgl1 hgl2
  obtain ⟨t, ht⟩ : ∃ t, Hid (it6 p id = t) := ⟨_, Lib.hid rfl⟩
  obtain ⟨NM, hNM⟩ : ∃ t, Hid (nm6 p id = t) := ⟨_, Lib.hid rfl⟩
  obtain ⟨HS, hHS⟩ : ∃ t, Hid (has6 p id = t) := ⟨_, Lib.hid rfl⟩
  rw [hNM.out]
  go_enter Try.func27, Try.ntmps27
  go_upto_region 1 with fail
  refine cut_world (fun wx => Below w.heap.size w wx ∧ BoxAt wx w.heap.size [.slice ga p.globals.length gc, .slice pa p.procs.length pc]) ⟨boxed _ _, box_new w #[.slice ga p.globals.length gc, .slice pa p.procs.length pc] 25⟩ ?_
  rintro w1 ⟨hb1, hx1⟩
  have HB1 := Lib.hid hb1
  have HX1 := Lib.hid hx1
  have HP1 := Lib.hid (PrC.mono (low_next hb1) (PrC.mono low_all HP.out))
  clear hb1 hx1
  have x0 := HX1.out 0 _ rfl
  have x1 := HX1.out 1 _ rfl
  go_wp2_with fail
  refine (find7_any w.heap.size d p _ _ id _ HB1.out.size HP1.out).mono ?_
  rw [ht.out, hNM.out, hHS.out]
  rintro e w2 ⟨la, ka, aa, ta, ea, lc, kc, ac, tc, ec, rfl, hh2, hok2, i1, i2, i3, i4, i5, i6, hb2⟩
  have HH2 := Lib.hid hh2
  have HOK2 := Lib.hid hok2
  have HJ2 := Lib.hid (And.intro i1 (And.intro i2 (And.intro i3 i4)))
  clear hh2 hok2 i1 i2 i3 i4 i5 i6 x0 x1
  have HB2 := Lib.hid (HB1.out.trans (hb2.mono HB1.out.size))
  clear hb2
  go_upto_region 2 with fail
  refine cut_world (fun wx => Below w2.heap.size w2 wx) (boxed w2 _) ?_
  intro w3 hb3
  have HB3 := Lib.hid (HB2.out.trans (hb3.mono HB2.out.size))
  clear hb3
  go_wp2_with fail
  go_ret
  exact ⟨rfl, HB3.out⟩
theorem RowN.nil (B : Nat) (w : World) : RowN B w (.slice none 0 0) [] := World.ownsRow_nil _ _ _ _
theorem RowN.next {B : Nat} {w w' : World} {v : Value} {l : List Int} (h : RowN B w v l) (hb : Below w.heap.size w w') : RowN B w' v l := ownsBelow h hb
theorem RowN.lt {B : Nat} {w : World} {v : Value} {l : List Int} (h : RowN B w v l) : ∀ g, v.ownBlock = some g → B ≤ g ∧ g < w.heap.size := World.ownsRow.lt h
theorem RowN.mono {B B' : Nat} {w : World} {v : Value} {l : List Int} (h : RowN B w v l) (hb : B' ≤ B) : RowN B' w v l := Go.Joins.ownsRow_le h hb
theorem RowN.one {B : Nat} {w : World} {v : Value} {l : List Int} {n : Int} (h : w.ownsRow B 3 1 v (l.length + 1) (l.map (Value.int .i64) ++ [.int .i64 n])) : RowN B w v (l ++ [n]) := by
  unfold RowN; simpa using h
theorem RowN.at {B n c : Nat} {w : World} {a : Option Addr} {l : List Int} (h : RowN B w (.slice a n c) l) {k : Nat} (hk : k < l.length) : ∃ g off, a = some ⟨g, off, none⟩ ∧ w.cell? ⟨g, off + k, none⟩ = some (.int .i64 l[k]) := by
  have hown := h
  unfold RowN at hown
  rcases hown.2 with ⟨hv, hn⟩ | ⟨g, cap, cur, hv, h1, h2, h3, h4, h5, h6⟩
  · omega
  · injection hv with e1 e2 e3
    refine ⟨g, 0, e1, ?_⟩
    have := hown.cells (g := g) (by rw [e1]; rfl) k (.int .i64 l[k]) (by rw [List.getElem?_map, List.getElem?_eq_getElem hk]; rfl)
    rw [Addr.add_lit, Nat.zero_add] at this
    rw [Nat.zero_add]
    exact this
theorem one_num (w : World) (s : Int) (T : TypeId) : ∀ (j : Nat) u, ([.int .i64 s] : List Value)[j]? = some u → (w.alloc (.cells #[.int .i64 s] T)).cell? ((⟨w.heap.size, 0, none⟩ : Addr).add j) = some u := by
  intro j u h
  match j, h with
  | 0, h => cases h; rw [Addr.add_lit]; simp [go_sem]
theorem int_cells {s : Int} : ∀ u ∈ [Value.int .i64 s], u.oneCell' = true := by
  intro u hu
  simp at hu
  subst hu; rfl
/-- The ids of the statements of a kind. -/
def isKind (kind : Int) (s : St) : Bool := kind == 0 || s.kind == kind
def idsK (kind : Int) (l : List It) : List Int := (l.filter fun t => isKind kind t.s).map fun t => t.s.id
def idsP (p : Pr) (kind : Int) : List Int := idsK kind (allOf p)
theorem idsK_len (kind : Int) (l : List It) : (idsK kind l).length ≤ l.length := by unfold idsK; rw [List.length_map]; exact List.length_filter_le _ _
theorem idsK_yes {kind : Int} {l : List It} {k : Nat} (hk : k < l.length) (h : isKind kind l[k].s = true) : idsK kind (l.take (k + 1)) = idsK kind (l.take k) ++ [l[k].s.id] := by
  unfold idsK
  rw [List.take_succ_eq_append_getElem hk, List.filter_append, List.map_append, List.filter_cons, if_pos h]
  rfl
theorem idsK_no {kind : Int} {l : List It} {k : Nat} (hk : k < l.length) (h : isKind kind l[k].s = false) : idsK kind (l.take (k + 1)) = idsK kind (l.take k) := by
  unfold idsK
  rw [List.take_succ_eq_append_getElem hk, List.filter_append, List.map_append, List.filter_cons, if_neg (by rw [h]; exact Bool.false_ne_true)]
  simp
def IdsMade (l : List Int) (w : World) (e : Ending) (w' : World) : Prop := ∃ v, e = .returned v ∧ RowN w.heap.size w' v l ∧ Below w.heap.size w w'
set_option maxHeartbeats 4000000 in
set_option maxRecDepth 100000 in
theorem ids_any (d : Nat) (p : Pr) (gv pv : Value) (kind : Int) (w : World) (hp : PrC (cw w) d gv pv p) :
    Calls Try.prog 22 #[.agg #[gv, pv], .int .i64 kind] w (IdsMade (idsP p kind) w) := by
  obtain ⟨i0, hi, hz0, hz1, hz2⟩ := info_parts infoInt
  obtain ⟨ga, gc, rfl, hgl1, hgl2⟩ := hp.1.form
  obtain ⟨pa, pc, rfl, hl1, hl2⟩ := hp.2.form
  have hpl : p.procs.length ≤ 9223372036854775807 := Nat.le_trans hl1 hl2
  have HP := Lib.hid hp
  clear hp hl1 hl2 hgl1 hgl2
  obtain ⟨KK, hKK⟩ : ∃ L, Hid (idsP p kind = L) := ⟨_, Lib.hid rfl⟩
  rw [hKK.out]
  go_enter Try.func22, Try.ntmps22
  go_upto_region 1 with fail
  refine cut_world (fun wx => Below w.heap.size w wx ∧ BoxAt wx w.heap.size [.slice ga p.globals.length gc, .slice pa p.procs.length pc]) ⟨boxed _ _, box_new w #[.slice ga p.globals.length gc, .slice pa p.procs.length pc] 25⟩ ?_
  rintro w1 ⟨hb1, hx1⟩
  have HB1 := Lib.hid hb1
  have HX1 := Lib.hid hx1
  have HP1 := Lib.hid (PrC.mono (cw_next hb1) HP.out)
  clear hb1 hx1
  have x0 := HX1.out 0 _ rfl
  have x1 := HX1.out 1 _ rfl
  go_wp2_with fail
  refine (allOf_any d p _ _ _ HP1.out).mono ?_
  rintro e wK ⟨v, rows, rfl, hrow, hbK⟩
  have hsl := hrow.sl
  have hlen := allOf_len p
  obtain ⟨PT, hPT⟩ : ∃ L, Hid (allOf p = L) := ⟨_, Lib.hid rfl⟩
  have hkk : idsK kind PT = KK := by rw [← hPT.out]; exact hKK.out
  have HKKK := Lib.hid hkk
  clear hkk
  rw [hPT.out] at hsl hlen
  obtain ⟨ia, ic, rfl, hil1, hil2⟩ := hsl.form
  have hil : PT.length ≤ 9223372036854775807 := Nat.le_trans hil1 hil2
  have HLK := Lib.hid hsl
  have HLEN := Lib.hid hlen
  have HBK := Lib.hid (HB1.out.trans (hbK.mono HB1.out.size))
  clear hsl hrow hbK x0 x1 hil1 hil2 hlen
  go_wp2_with fail
  obtain ⟨WK, hWK⟩ : ∃ x : World, x = wK := ⟨_, rfl⟩
  subst hWK
  have hBW : w.heap.size ≤ WK.heap.size := HBK.out.size
  go_loopw [11, 5] (fun i v wr => ∃ (q : Nat) (v0 : Value), q ≤ PT.length ∧ i = .int .i64 q ∧ v = v0 ∧ RowN WK.heap.size wr v0 (idsK kind (PT.take q)) ∧ Below WK.heap.size WK wr) (fun i _ _ => (PT.length - intOf i).toNat)
  case atStart => exact ⟨0, _, by omega, rfl, rfl, RowN.nil _ _, Below.refl _ _⟩
  case round =>
    obtain ⟨q, v0, hq, rfl, rfl, hr9, hbq⟩ := hrel
    obtain ⟨w9, hw9⟩ : ∃ x : World, x = wr := ⟨_, rfl⟩
    subst hw9
    have HBQ9 := Lib.hid hbq
    have HR9 := Lib.hid hr9
    have HL9 := Lib.hid (SlAt.imp HLK.out fun _ _ _ _ => ItAt.mono (cw_next hbq))
    obtain ⟨va, vc, rfl⟩ := ownsForm hr9
    clear hr9 hbq
    by_cases hlq : q < PT.length
    · have hlq' : (q : Int) < (PT.length : Int) := by omega
      have h0q : (0 : Int) ≤ (q : Int) := by omega
      obtain ⟨gi, oi, hvi, hfi⟩ := its6_at HL9.out hlq
      cases hvi
      have hyes := idsK_yes (kind := kind) hlq
      have hno := idsK_no (kind := kind) hlq
      have hlk : (idsK kind (PT.take q)).length ≤ 401 := Nat.le_trans (idsK_len _ _) (by rw [List.length_take]; have := HLEN.out; omega)
      obtain ⟨LK, hLK⟩ : ∃ L, Hid (idsK kind (PT.take q) = L) := ⟨_, Lib.hid rfl⟩
      obtain ⟨t, ht⟩ : ∃ t, Hid (PT[q] = t) := ⟨_, Lib.hid rfl⟩
      rw [ht.out] at hfi
      rw [hLK.out] at hlk
      rw [ht.out, hLK.out] at hyes hno
      have HYES := Lib.hid hyes
      have HNO := Lib.hid hno
      have HRL : Hid (RowN WK.heap.size w9 (.slice va (idsK kind (PT.take q)).length vc) LK) := Lib.hid (by rw [← hLK.out]; exact HR9.out)
      rw [hLK.out] at HRL
      try rw [hLK.out]
      clear HR9 hyes hno
      obtain ⟨la, ka, aa, ta, ea, lc, kc, ac, tc, ec, hrest⟩ := it_open hfi
      have hce := hrest.1
      have HCE := Lib.hid hce
      clear hfi hce hrest
      have HI0 : Hid (BoxAt (w9.alloc (.cells #[.int .i64 0, .int .i64 0, .slice none 0 0, .string ⟨#[]⟩, .string ⟨#[]⟩, .int .i64 0, .int .i64 0, .string ⟨#[]⟩, .slice none 0 0, .bool false, .slice none 0 0, .slice none 0 0, .slice none 0 0, .int .i64 0, .int .i64 0, .bool false] 76)) w9.heap.size [.int .i64 0, .int .i64 0, .slice none 0 0, .string ⟨#[]⟩, .string ⟨#[]⟩, .int .i64 0, .int .i64 0, .string ⟨#[]⟩, .slice none 0 0, .bool false, .slice none 0 0, .slice none 0 0, .slice none 0 0, .int .i64 0, .int .i64 0, .bool false]) := Lib.hid (box_new w9 #[.int .i64 0, .int .i64 0, .slice none 0 0, .string ⟨#[]⟩, .string ⟨#[]⟩, .int .i64 0, .int .i64 0, .string ⟨#[]⟩, .slice none 0 0, .bool false, .slice none 0 0, .slice none 0 0, .slice none 0 0, .int .i64 0, .int .i64 0, .bool false] 76)
      have HF0 : Hid (Free (w9.alloc (.cells #[.int .i64 0, .int .i64 0, .slice none 0 0, .string ⟨#[]⟩, .string ⟨#[]⟩, .int .i64 0, .int .i64 0, .string ⟨#[]⟩, .slice none 0 0, .bool false, .slice none 0 0, .slice none 0 0, .slice none 0 0, .int .i64 0, .int .i64 0, .bool false] 76)) w9.heap.size) := Lib.hid (fun j => by simp [go_sem])
      have hzi := World.size_alloc w9 (.cells #[.int .i64 0, .int .i64 0, .slice none 0 0, .string ⟨#[]⟩, .string ⟨#[]⟩, .int .i64 0, .int .i64 0, .string ⟨#[]⟩, .slice none 0 0, .bool false, .slice none 0 0, .slice none 0 0, .slice none 0 0, .int .i64 0, .int .i64 0, .bool false] 76)
      go_upto_region 5 with (first | refine wpList_load_mid rfl 76 (.tmp 13) rfl gi (oi + q * 16) rfl [.int .i64 t.s.id, .int .i64 t.s.kind, .slice la t.s.labels.length lc, .string t.s.nm, .string t.s.proc, .int .i64 t.s.x.op, .int .i64 t.s.x.n, .string t.s.x.nm, .slice ka t.s.x.ks.length kc, .bool t.s.has, .slice aa t.s.args.length ac, .slice ta t.s.thn.length tc, .slice ea t.s.els.length ec, .int .i64 t.deep, .int .i64 t.inn, .bool t.els] _ (fun j v hv => HCE.out j v hv) Try.underlying76 rfl (by kernel_rfl) ?_ | refine wpList_store_mid rfl 76 (.tmp 7) (.tmp 14) rfl w9.heap.size 0 #[.int .i64 t.s.id, .int .i64 t.s.kind, .slice la t.s.labels.length lc, .string t.s.nm, .string t.s.proc, .int .i64 t.s.x.op, .int .i64 t.s.x.n, .string t.s.x.nm, .slice ka t.s.x.ks.length kc, .bool t.s.has, .slice aa t.s.args.length ac, .slice ta t.s.thn.length tc, .slice ea t.s.els.length ec, .int .i64 t.deep, .int .i64 t.inn, .bool t.els] rfl rfl (box_there (n := 16) HI0.out HF0.out (by simp)) (by kernel_rfl) (by simp [Value.oneCell']) ?_)
      refine cut_world (fun wx => Below w9.heap.size w9 wx ∧ BoxAt wx w9.heap.size [.int .i64 t.s.id, .int .i64 t.s.kind, .slice la t.s.labels.length lc, .string t.s.nm, .string t.s.proc, .int .i64 t.s.x.op, .int .i64 t.s.x.n, .string t.s.x.nm, .slice ka t.s.x.ks.length kc, .bool t.s.has, .slice aa t.s.args.length ac, .slice ta t.s.thn.length tc, .slice ea t.s.els.length ec, .int .i64 t.deep, .int .i64 t.inn, .bool t.els]) ⟨setCells_below _ _ (boxed w9 _) (Nat.le_refl _), box_over (old := [.int .i64 0, .int .i64 0, .slice none 0 0, .string ⟨#[]⟩, .string ⟨#[]⟩, .int .i64 0, .int .i64 0, .string ⟨#[]⟩, .slice none 0 0, .bool false, .slice none 0 0, .slice none 0 0, .slice none 0 0, .int .i64 0, .int .i64 0, .bool false]) (xs := [.int .i64 t.s.id, .int .i64 t.s.kind, .slice la t.s.labels.length lc, .string t.s.nm, .string t.s.proc, .int .i64 t.s.x.op, .int .i64 t.s.x.n, .string t.s.x.nm, .slice ka t.s.x.ks.length kc, .bool t.s.has, .slice aa t.s.args.length ac, .slice ta t.s.thn.length tc, .slice ea t.s.els.length ec, .int .i64 t.deep, .int .i64 t.inn, .bool t.els]) (rest := []) HI0.out HF0.out rfl⟩ ?_
      clear hzi HI0 HF0
      rintro wa ⟨hba, hta⟩
      have t0 := hta 0 _ rfl
      have t1 := hta 1 _ rfl
      have HTA := Lib.hid hta
      have HRA := Lib.hid (HRL.out.next hba)
      have HBA := Lib.hid (HBQ9.out.trans (hba.mono HBQ9.out.size))
      have hWa : WK.heap.size ≤ wa.heap.size := HBA.out.size
      clear hba hta
      cases hk : isKind kind t.s with
      | true =>
        have HST := Lib.hid (HYES.out hk)
        have HKK : Hid ((kind == 0) = true ∨ (kind == 0) = false ∧ (t.s.kind == kind) = true) := Lib.hid (by unfold isKind at hk; cases h : (kind == 0) <;> rw [h] at hk <;> simp_all)
        clear hk
        refine HKK.out.elim (fun hk0 => ?_) (fun hk0 => ?_)
        · go_wp2_with (at_builtin; refine wpList_append_lies _ rfl (.tmp 24) (.tmp 28) 33 rfl WK.heap.size 3 i0 (.int .i64 0) 1 8 Try.underlying33 hi hz0 hz1 hz2 rfl (by decide) _ _ _ rfl ((HRA.out.next (boxed _ _))) ⟨_, 0, none⟩ 1 1 [.int .i64 t.s.id] rfl rfl ?c1 int_cells (by decide) ?c3 ?c4 ?c5 _ rfl ?_)
          case c1 => exact one_num _ _ _
          case c3 => unfold maxLen; omega
          case c4 => omega
          case c5 => first | omega | (simp; omega)
          intro g4 cap4 w4 hown4 hg4 hat4 hlt4
          have hgg := (grown_of (boxed wa _) _).trans hg4
          have HR4 := Lib.hid (RowN.one hown4)
          have HG4 := Lib.hid hgg
          clear hown4 hg4 hat4 hlt4 hgg
          go_wp2_with fail
          go_roundw
          case rel =>
            refine ⟨q + 1, _, by omega, by go_num, rfl, ?_, HBA.out.grown HG4.out HBA.out.size fun q hq => ?_⟩
            · rw [HST.out]; exact HR4.out
            · have := (HRA.out.lt q hq).1; omega
          case measure => simp [intOf]; omega
        · obtain ⟨hk0, hk1⟩ := hk0
          go_wp2_with (at_builtin; refine wpList_append_lies _ rfl (.tmp 24) (.tmp 28) 33 rfl WK.heap.size 3 i0 (.int .i64 0) 1 8 Try.underlying33 hi hz0 hz1 hz2 rfl (by decide) _ _ _ rfl ((HRA.out.next (boxed _ _))) ⟨_, 0, none⟩ 1 1 [.int .i64 t.s.id] rfl rfl ?c1 int_cells (by decide) ?c3 ?c4 ?c5 _ rfl ?_)
          case c1 => exact one_num _ _ _
          case c3 => unfold maxLen; omega
          case c4 => omega
          case c5 => first | omega | (simp; omega)
          intro g4 cap4 w4 hown4 hg4 hat4 hlt4
          have hgg := (grown_of (boxed wa _) _).trans hg4
          have HR4 := Lib.hid (RowN.one hown4)
          have HG4 := Lib.hid hgg
          clear hown4 hg4 hat4 hlt4 hgg
          go_wp2_with fail
          go_roundw
          case rel =>
            refine ⟨q + 1, _, by omega, by go_num, rfl, ?_, HBA.out.grown HG4.out HBA.out.size fun q hq => ?_⟩
            · rw [HST.out]; exact HR4.out
            · have := (HRA.out.lt q hq).1; omega
          case measure => simp [intOf]; omega
      | false =>
        have HST := Lib.hid (HNO.out hk)
        have hkk : (kind == 0) = false ∧ (t.s.kind == kind) = false := by unfold isKind at hk; rw [Bool.or_eq_false_iff] at hk; exact hk
        obtain ⟨hk0, hk1⟩ := hkk
        clear hk
        go_wp2_with fail
        go_roundw
        case rel => exact ⟨q + 1, _, by omega, by go_num, rfl, by rw [HST.out]; exact HRA.out, HBA.out⟩
        case measure => simp [intOf]; omega
    · have hlq' : ¬ (q : Int) < (PT.length : Int) := by omega
      have hall : idsK kind (PT.take q) = KK := by rw [List.take_of_length_le (by omega)]; exact HKKK.out
      have hz9 : RowN w.heap.size w9 (.slice va (idsK kind (PT.take q)).length vc) KK := by rw [← hall]; exact HR9.out.mono hBW
      have HZ9 := Lib.hid hz9
      clear hall hz9
      go_wp2_with fail
      go_ret
      exact ⟨_, rfl, HZ9.out, HBK.out.trans (HBQ9.out.mono HBK.out.size)⟩
/-- One of some numbers, by a number. -/
def pickP (l : List Int) (n : Int) : Int := (l[(n % (l.length : Int)).toNat]?).getD 0
theorem pick_some {l : List Int} {n : Int} (hk : 0 < l.length) : pickP l n = l[(n % (l.length : Int)).toNat]'(mod_at hk).1 := by
  unfold pickP
  rw [List.getElem?_eq_getElem (mod_at hk).1]
  rfl
theorem pick_none {l : List Int} {n : Int} (hk : l.length = 0) : pickP l n = 0 := by
  unfold pickP
  rw [List.getElem?_eq_none (by omega)]
  rfl
set_option maxHeartbeats 2000000 in
set_option maxRecDepth 100000 in
theorem pick_any (B : Nat) (l : List Int) (v : Value) (n : Int) (w : World) (hr : RowN B w v l) (hn1 : -9223372036854775808 ≤ n) (hn2 : n ≤ 9223372036854775807) (hm : l.length ≤ 1000000) :
    Calls Try.prog 21 #[v, .int .i64 n] w fun e w' => e = .returned (.int .i64 (pickP l n)) ∧ Below w.heap.size w w' := by
  obtain ⟨a, c, rfl⟩ := ownsForm hr
  have HR := Lib.hid hr
  clear hr
  obtain ⟨KK, hKK⟩ : ∃ s, Hid (pickP l n = s) := ⟨_, Lib.hid rfl⟩
  rw [hKK.out]
  go_enter Try.func21, Try.ntmps21
  by_cases hz : l.length = 0
  · have hs : KK = 0 := by rw [← hKK.out]; exact pick_none hz
    have hz1 : ((l.length : Int) == 0) = true := by rw [hz]; rfl
    have HZ := Lib.hid hz
    subst hs
    clear hz
    go_wp2_with fail
    go_ret
    exact ⟨rfl, Below.refl _ _⟩
  · have hz1 : ((l.length : Int) == 0) = false := by simpa using hz
    have hpos : 0 < l.length := by omega
    obtain ⟨m, hmm⟩ : ∃ m, m = (n % (l.length : Int)).toNat := ⟨_, rfl⟩
    have hlt : m < l.length := by rw [hmm]; exact (mod_at hpos).1
    have hmi : n % (l.length : Int) = (m : Int) := by rw [hmm]; exact (mod_at hpos).2
    have hs : KK = l[m] := by rw [← hKK.out, pick_some hpos]; subst hmm; rfl
    have hlt' : (m : Int) < (l.length : Int) := by omega
    have h0m : (0 : Int) ≤ (m : Int) := by omega
    have hk1 : (1 : Int) ≤ (l.length : Int) := by omega
    have hk2 : (l.length : Int) ≤ 1000000 := by omega
    have HS := Lib.hid hs
    have HMI := Lib.hid hmi
    obtain ⟨g, off, hvp, e0⟩ := HR.out.at hlt
    cases hvp
    clear hs hmi hmm hz
    go_wp2_with fail
    refine (mod_any n (l.length : Int) (m : Int) _ hn1 hn2 hk1 hk2 HMI.out).mono ?_
    rintro e w2 ⟨rfl, rfl⟩
    go_wp2_with fail
    go_ret
    exact ⟨by rw [HS.out]; rfl, Below.refl _ _⟩
end Go.Proofs.Ytghlmengcidmdaa.Tr
end
section
/- A program in which one statement is put for another one: it may be, its statements, its calls, its names. No program's code. Conditions: the program may be. -/
namespace Go.Proofs.Ytghlmengcidmdaa.Tr
open Go.RowKit Go.Proofs.Ytghlmengcidmdaa.Lx Go.Proofs.Ytghlmengcidmdaa.Wd
mutual
theorem putS_cnt (t : St) : ∀ s : St, cntS (putS t s) = cntS s
  | .mk i k ls nm pr x h ar th el => by
    rw [putS]
    split <;> simp only [cntS, putL_cnt t th, putL_cnt t el]
theorem putL_cnt (t : St) : ∀ l : List St, cntL (putL t l) = cntL l
  | [] => by rw [putL]
  | s :: r => by rw [putL, cntL_cons, cntL_cons, putS_cnt t s, putL_cnt t r]
end
theorem putL_len (t : St) (l : List St) : (putL t l).length = l.length := by rw [putL_map, List.length_map]
theorem putS_id (t s : St) : (putS t s).id = s.id := by
  cases s with
  | mk i k ls nm pr x h ar th el =>
    rw [putS]
    split
    · rename_i hi; exact hi.symm
    · rfl
theorem putS_in (t s : St) : (putS t s).thn = putL t s.thn ∧ (putS t s).els = putL t s.els := by
  rw [putS_eq]
  exact ⟨rfl, rfl⟩
theorem putS_out {t u : St} (h : u.id ≠ t.id) : sameF (putS t u) u := by
  rw [putS_eq]
  unfold pick
  rw [if_neg h]
  exact ⟨rfl, rfl, rfl, rfl, rfl, rfl, rfl, rfl⟩
theorem putS_at {t u : St} (h : u.id = t.id) : sameF (putS t u) t := by
  rw [putS_eq]
  unfold pick
  rw [if_pos h]
  exact ⟨rfl, rfl, rfl, rfl, rfl, rfl, rfl, rfl⟩
/-- An item put. -/
def putI (t : St) (i : It) : It := ⟨putS t i.s, i.deep, i.inn, i.els⟩
mutual
theorem preS_put (t : St) : ∀ (s : St) (deep inn : Int) (els : Bool), preS deep inn els (putS t s) = (preS deep inn els s).map (putI t)
  | .mk i k ls nm pr x h ar th el, deep, inn, els => by
    rw [preS_eq, preS_eq, putS_id, (putS_in t _).1, (putS_in t _).2]
    simp only [St.id, St.thn, St.els]
    rw [preL_put t th, preL_put t el, List.map_cons, List.map_append]
    rfl
theorem preL_put (t : St) : ∀ (l : List St) (deep inn : Int) (els : Bool), preL deep inn els (putL t l) = (preL deep inn els l).map (putI t)
  | [], deep, inn, els => by rw [putL, preL]; rfl
  | s :: r, deep, inn, els => by rw [putL, preL_cons, preL_cons, preS_put t s, preL_put t r, List.map_append]
end
theorem its_put (t : St) (f : Pc) : itsOf (putPc t f) = (itsOf f).map (putI t) := preL_put t f.body 1 0 false
theorem sts_put (t : St) (f : Pc) : stsOf (putPc t f) = (stsOf f).map (putS t) := by
  unfold stsOf
  rw [its_put, List.map_map, List.map_map]
  rfl
theorem procNs_put (t : St) (p : Pr) : procNs (putPr t p) = procNs p := by
  unfold procNs
  have h : (putPr t p).procs = p.procs.map (putPc t) := rfl
  rw [h, List.map_map]
  rfl
theorem pcOf_put (t : St) (l : List Pc) (s : ByteArray) : pcOf (l.map (putPc t)) s = (pcOf l s).map (putPc t) := by
  unfold pcOf
  rw [List.find?_map]
  rfl
theorem head_put (t : St) (p : Pr) : headFault (putPr t p) = headFault p := by
  unfold headFault
  rw [procNs_put]
  have h : (putPr t p).procs = p.procs.map (putPc t) := rfl
  rw [h, pcOf_put]
  cases pcOf p.procs sMain <;> rfl
theorem known_same {g procs : List ByteArray} {f : Pc} {u v : St} (h : sameF u v) : knownS g f procs u = knownS g f procs v := by
  obtain ⟨h1, h2, h3, h4, h5, h6, h7, h8⟩ := h
  unfold knownS saidS saidN
  rw [h2, h4, h5, h6, h8]
theorem known_put {g procs : List ByteArray} {f : Pc} {t u : St} : knownS g (putPc t f) procs u = knownS g f procs u := rfl
/-- Has a statement what its kind has: what stands in it is only counted. -/
theorem fields_len {s u : St} (h : sameF s u) (h1 : s.thn.length = u.thn.length) (h2 : s.els.length = u.els.length) : fieldsB s = fieldsB u := by
  obtain ⟨f1, f2, f3, f4, f5, f6, f7, f8⟩ := h
  unfold fieldsB okK moreI hasI thenI otherI nameI procI xI
  rw [f2, f4, f5, f6, f7, f8, h1, h2]
/-- The statement that is put, with what stood in the other one. -/
def withIn (t s : St) : St := .mk t.id t.kind t.labels t.nm t.proc t.x t.has t.args s.thn s.els
mutual
theorem may_putS {t s : St} (hn : namesB t.labels = true) (hf : fieldsB (withIn t s) = true) : ∀ (u : St) (nest n : Int), rowS 200 12 nest n u = true → findS t.id u = some s → rowS 200 12 nest n (putS t u) = true
  | .mk i k ls nm pr x h ar th el, nest, n => fun hr hs => by
    have hr0 := hr
    rw [rowS_eq] at hr ⊢
    have e1 : (putS t (.mk i k ls nm pr x h ar th el)).id = i := putS_id t _
    have e2 : (putS t (.mk i k ls nm pr x h ar th el)).thn = putL t th := (putS_in t _).1
    have e3 : (putS t (.mk i k ls nm pr x h ar th el)).els = putL t el := (putS_in t _).2
    rw [e1, e2, e3]
    simp only [Bool.and_eq_true, decide_eq_true_eq, beq_iff_eq, St.id, St.labels, St.thn, St.els] at hr
    simp only [Bool.and_eq_true, decide_eq_true_eq, beq_iff_eq]
    rw [findS] at hs
    rw [putL_cnt]
    by_cases hi : i = t.id
    · rw [if_pos hi] at hs
      cases hs
      have hsf := putS_at (t := t) (u := .mk i k ls nm pr x h ar th el) hi
      have hlab : (putS t (.mk i k ls nm pr x h ar th el)).labels = t.labels := hsf.2.2.1
      have hn1 := hr.1.1.1.1.2
      rw [put_outL t th _ _ hr.1.2 (by omega), put_outL t el _ _ hr.2 (by omega), hlab]
      refine ⟨⟨⟨⟨hr.1.1.1.1, hn⟩, ?_⟩, hr.1.2⟩, hr.2⟩
      rw [← hf]
      refine fields_len ?_ ?_ ?_
      · exact hsf
      · rw [(putS_in t _).1, putL_len]; rfl
      · rw [(putS_in t _).2, putL_len]; rfl
    · rw [if_neg hi] at hs
      have hsf := putS_out (t := t) (u := .mk i k ls nm pr x h ar th el) hi
      have hlab : (putS t (.mk i k ls nm pr x h ar th el)).labels = ls := hsf.2.2.1
      have hfl : fieldsB (putS t (.mk i k ls nm pr x h ar th el)) = fieldsB (.mk i k ls nm pr x h ar th el) := fields_len hsf (by rw [(putS_in t _).1, putL_len]) (by rw [(putS_in t _).2, putL_len])
      rw [hlab, hfl]
      cases hh : findL t.id th with
      | some u =>
        rw [hh] at hs
        cases hs
        have hg := findL_range t.id th _ _ hr.1.2 (by rw [hh]; rfl)
        refine ⟨⟨hr.1.1, may_putL hn hf th _ _ hr.1.2 hh⟩, ?_⟩
        rw [put_outL t el _ _ hr.2 (by omega)]
        exact hr.2
      | none =>
        rw [hh] at hs
        have hg := findL_range t.id el _ _ hr.2 (by simp only at hs; rw [hs]; rfl)
        refine ⟨⟨hr.1.1, ?_⟩, may_putL hn hf el _ _ hr.2 hs⟩
        rw [put_outL t th _ _ hr.1.2 (by omega)]
        exact hr.1.2
theorem may_putL {t s : St} (hn : namesB t.labels = true) (hf : fieldsB (withIn t s) = true) : ∀ (l : List St) (nest n : Int), rowsL 200 12 nest n l = true → findL t.id l = some s → rowsL 200 12 nest n (putL t l) = true
  | [], nest, n => fun _ hs => by rw [findL] at hs; cases hs
  | u :: r, nest, n => fun hr hs => by
    rw [rowsL_cons] at hr
    simp only [Bool.and_eq_true, decide_eq_true_eq] at hr
    rw [putL, rowsL_cons, putS_cnt]
    simp only [Bool.and_eq_true, decide_eq_true_eq]
    rw [findL] at hs
    cases hh : findS t.id u with
    | some a =>
      rw [hh] at hs
      cases hs
      have hg := findS_range t.id u _ _ hr.1.2 (by rw [hh]; rfl)
      refine ⟨⟨hr.1.1, may_putS hn hf u _ _ hr.1.2 hh⟩, ?_⟩
      rw [put_outL t r _ _ hr.2 (by omega)]
      exact hr.2
    | none =>
      rw [hh] at hs
      have hg := findL_range t.id r _ _ hr.2 (by simp only at hs; rw [hs]; rfl)
      refine ⟨⟨hr.1.1, ?_⟩, may_putL hn hf r _ _ hr.2 hs⟩
      rw [put_outS t u _ _ hr.1.2 (by omega)]
      exact hr.1.2
end
theorem mayPc_parts {n : Int} {f : Pc} : mayPc n f = true ↔ headPc f = true ∧ f.params.all (fun a => isName (bl a.nm)) = true ∧ rowsL 200 12 1 n f.body = true := by
  unfold mayPc
  rw [Bool.and_eq_true, Bool.and_eq_true, and_assoc]
theorem may_putPs {t s : St} (hn : namesB t.labels = true) (hf : fieldsB (withIn t s) = true) : ∀ (l : List Pc) (n : Int) (nm : ByteArray), mayPs n l = true → findP t.id l = some (nm, s) → mayPs n (l.map (putPc t)) = true := by
  intro l
  induction l with
  | nil => intro n nm _ h; rw [findP] at h; cases h
  | cons f r ih =>
    intro n nm h hs
    rw [mayPs, Bool.and_eq_true] at h
    rw [findP] at hs
    have hbody : (putPc t f).body = putL t f.body := rfl
    rw [List.map_cons, mayPs, Bool.and_eq_true, hbody, putL_cnt]
    cases hh : findL t.id f.body with
    | some a =>
      rw [hh] at hs
      cases hs
      have hg := findL_range t.id f.body _ _ (mayPc_rows h.1) (by rw [hh]; rfl)
      obtain ⟨m1, m2, m3⟩ := mayPc_parts.1 h.1
      refine ⟨mayPc_parts.2 ⟨m1, m2, may_putL hn hf f.body _ _ m3 hh⟩, ?_⟩
      rw [put_outPs t r _ h.2 (by omega)]
      exact h.2
    | none =>
      rw [hh] at hs
      have hg := findP_range t.id r _ h.2 (by simp only at hs; rw [hs]; rfl)
      have : putPc t f = f := by unfold putPc; rw [put_outL t f.body _ _ (mayPc_rows h.1) (by omega)]
      rw [this]
      exact ⟨h.1, ih _ nm h.2 hs⟩
theorem may_put {p : Pr} (hp : mayP p = true) {t s : St} {nm : ByteArray} (hs : findP t.id p.procs = some (nm, s)) (hn : namesB t.labels = true) (hf : fieldsB (withIn t s) = true) : mayP (putPr t p) = true := by
  unfold mayP at hp ⊢
  have h1 : (putPr t p).globals = p.globals := rfl
  have h2 : (putPr t p).procs = p.procs.map (putPc t) := rfl
  rw [h1, h2, List.length_map]
  simp only [Bool.and_eq_true] at hp ⊢
  exact ⟨hp.1, may_putPs hn hf _ _ _ hp.2 hs⟩
end Go.Proofs.Ytghlmengcidmdaa.Tr
end
section
/- A statement by its id; what the checks tell of a program in which one statement is put for another. No program's code. Conditions: the program may be. -/
namespace Go.Proofs.Ytghlmengcidmdaa.Tr
open Go.RowKit Go.Proofs.Ytghlmengcidmdaa.Lx Go.Proofs.Ytghlmengcidmdaa.Wd
/-- Two of one id stand in one procedure, and are one. -/
theorem same_pc {p : Pr} (h : mayP p = true) {j k : Nat} (hj : j < p.procs.length) (hk : k < p.procs.length) {u v : St} (hu : u ∈ stsOf p.procs[j]) (hv : v ∈ stsOf p.procs[k]) (he : u.id = v.id) : j = k := by
  rcases Nat.lt_trichotomy j k with h1 | h1 | h1
  · have := pcs_order (mayP_procs h) j k hj hk h1 u hu v hv; omega
  · exact h1
  · have := pcs_order (mayP_procs h) k j hk hj h1 v hv u hu; omega
theorem find_two {id : Int} : ∀ {l : List Pc}, (∀ f ∈ l, ((flatOf f).find? fun i => i.s.id == id).map It.s = findL id f.body) → findP id l = (find6 id l).map fun q => (q.2, q.1.s) := by
  intro l
  induction l with
  | nil => intro _; rfl
  | cons f r ih =>
    intro h
    have h1 := h f List.mem_cons_self
    rw [findP, find6, ← h1, ih fun g hg => h g (List.mem_cons_of_mem _ hg)]
    cases (flatOf f).find? (fun i => i.s.id == id) <;> rfl
theorem findP_six {p : Pr} (h : mayP p = true) (id : Int) : findP id p.procs = (find6 id p.procs).map fun q => (q.2, q.1.s) := find_two fun _ hf => mayP_flat h hf id
/-- A statement that is picked. -/
structure Picked (p : Pr) (id : Int) (s : St) (k : Nat) : Prop where
  lt : k < p.procs.length
  mem : ∃ t ∈ itsOf (p.procs[k]'lt), t.s = s ∧ find6 id p.procs = some (t, (p.procs[k]'lt).nm)
  id : s.id = id
theorem Picked.st {p : Pr} {id : Int} {s : St} {k : Nat} (h : Picked p id s k) : s ∈ stsOf (p.procs[k]'h.lt) := by
  obtain ⟨t, h1, rfl, -⟩ := h.mem
  exact List.mem_map.2 ⟨t, h1, rfl⟩
theorem Picked.it {p : Pr} {id : Int} {s : St} {k : Nat} (h : Picked p id s k) : (it6 p id).s = s ∧ nm6 p id = (p.procs[k]'h.lt).nm := by
  obtain ⟨t, -, h2, h3⟩ := h.mem
  unfold it6 nm6
  rw [h3]
  exact ⟨h2, rfl⟩
theorem Picked.find {p : Pr} {id : Int} {s : St} {k : Nat} (h : Picked p id s k) (hm : mayP p = true) : findP id p.procs = some ((p.procs[k]'h.lt).nm, s) := by
  obtain ⟨t, -, h2, h3⟩ := h.mem
  rw [findP_six hm, h3]
  subst h2
  rfl
theorem ids_in {p : Pr} (h : mayP p = true) {kind id : Int} (hid : id ∈ idsP p kind) : ∃ s k, Picked p id s k ∧ isKind kind s = true := by
  unfold idsP idsK at hid
  obtain ⟨t, ht, rfl⟩ := List.mem_map.1 hid
  obtain ⟨ht1, ht2⟩ := List.mem_filter.1 ht
  obtain ⟨k, hk, htk⟩ := all_its_mem h ht1
  exact ⟨t.s, k, ⟨hk, ⟨t, htk, rfl, find6_its h hk htk⟩, rfl⟩, ht2⟩
theorem pick_mem {l : List Int} {n : Int} (h : pickP l n ≠ 0) : pickP l n ∈ l := by
  rcases Nat.eq_zero_or_pos l.length with h0 | h0
  · exact absurd (pick_none h0) h
  · rw [pick_some h0]
    exact List.getElem_mem _
theorem picked {p : Pr} (h : mayP p = true) {kind n : Int} (h0 : pickP (idsP p kind) n ≠ 0) : ∃ s k, Picked p (pickP (idsP p kind) n) s k ∧ isKind kind s = true := ids_in h (pick_mem h0)
/-- Names well, the statement put known: names well. -/
theorem scope_put_ok {p : Pr} (h : (scopeP p).1 = 0) {t s : St} {k : Nat} (hs : Picked p t.id s k) (hm : mayP (putPr t p) = true) (hk : knownS p.globals (p.procs[k]'hs.lt) (procNs p) t = true) : scopeP (putPr t p) = (0, 0) := by
  obtain ⟨h1, h2, h3⟩ := scope_code h
  refine scope_ok hm (by rw [head_put]; exact h2) fun j hj => ?_
  have hj' : j < p.procs.length := by rwa [show (putPr t p).procs = p.procs.map (putPc t) from rfl, List.length_map] at hj
  have he : (putPr t p).procs[j] = putPc t p.procs[j] := List.getElem_map _
  obtain ⟨g1, g2, g3⟩ := pc_parts (h3 _ (List.getElem_mem hj'))
  rw [he, procNs_put]
  show pcFault p.globals (procNs p) _ = none
  refine pc_ok g1 g2 fun m hmm => ?_
  have hmm' : m < (stsOf p.procs[j]).length := by rwa [sts_put, List.length_map] at hmm
  have he2 : (stsOf (putPc t p.procs[j]))[m] = putS t (stsOf p.procs[j])[m] := by simp only [sts_put]; exact List.getElem_map _
  rw [he2, known_put]
  by_cases hid : (stsOf p.procs[j])[m].id = t.id
  · rw [known_same (putS_at hid)]
    have : j = k := same_pc h1 hj' hs.lt (List.getElem_mem hmm') hs.st (by rw [hid, hs.id])
    subst this
    exact hk
  · rw [known_same (putS_out hid)]
    exact g3 _ (List.getElem_mem hmm')
end Go.Proofs.Ytghlmengcidmdaa.Tr
end
section
/- A call turned by an argument: an argument less, one more, one handed in the other way. No program's code. Conditions: calls are well. -/
namespace Go.Proofs.Ytghlmengcidmdaa.Tr
open Go.RowKit Go.Proofs.Ytghlmengcidmdaa.Lx Go.Proofs.Ytghlmengcidmdaa.Wd
theorem name_may (s : ByteArray) : mayE 20 (eName s) = isName (bl s) := by
  unfold eName
  rw [mayE]
  simp [kidsOf, headE, Ex.op, Ex.n, Ex.nm, Ex.ks]
theorem names_none : namesOf eNone = [] := by kernel_rfl
theorem picked_row {p : Pr} (h : mayP p = true) {id : Int} {s : St} {k : Nat} (hs : Picked p id s k) : fieldsB s = true ∧ namesB s.labels = true := by
  obtain ⟨e, m, hr⟩ := findP_row (mayP_procs h) (hs.find h)
  rw [rowS_eq] at hr
  simp only [Bool.and_eq_true] at hr
  exact ⟨hr.1.1.2, hr.1.1.1.2⟩
end Go.Proofs.Ytghlmengcidmdaa.Tr
end
section
/- Room in a program in which one statement is put for another. No program's code. Conditions: the program may be, and is not heavy. -/
namespace Go.Proofs.Ytghlmengcidmdaa.Tr
open Go.RowKit Go.Proofs.Ytghlmengcidmdaa.Lx Go.Proofs.Ytghlmengcidmdaa.Wd
theorem said_same {u v : St} (h : sameF u v) : saidS u = saidS v := by
  obtain ⟨h1, h2, h3, h4, h5, h6, h7, h8⟩ := h
  unfold saidS saidN
  rw [h2, h4, h6, h8]
theorem labs_out {t : St} : ∀ {l : List St}, (∀ u ∈ l, u.id ≠ t.id) → labLs (l.map (putS t)) = labLs l := by
  intro l
  induction l with
  | nil => intro _; rfl
  | cons s r ih =>
    intro h
    rw [List.map_cons, labLs_cons, labLs_cons, ih fun u hu => h u (List.mem_cons_of_mem _ hu), (putS_out (h s List.mem_cons_self)).2.2.1]
theorem labs_put {t : St} : ∀ {l : List St}, (l.map St.id).Nodup → (labLs (l.map (putS t))).length ≤ (labLs l).length + t.labels.length := by
  intro l
  induction l with
  | nil => intro _; simp [labLs]
  | cons s r ih =>
    intro h
    rw [List.map_cons, List.nodup_cons] at h
    rw [List.map_cons, labLs_cons, labLs_cons, List.length_append, List.length_append]
    by_cases hid : s.id = t.id
    · have hr : ∀ u ∈ r, u.id ≠ t.id := fun u hu e => h.1 (List.mem_map.2 ⟨u, hu, by rw [e, hid]⟩)
      rw [labs_out hr, (putS_at hid).2.2.1]
      omega
    · have := ih h.2
      rw [(putS_out hid).2.2.1]
      omega
theorem upTo_nodup (n : Int) (m : Nat) : (upTo n m).Nodup := by
  rw [List.nodup_iff_pairwise_ne, List.pairwise_iff_getElem]
  intro i j hi hj hij he
  rw [upTo_get, upTo_get] at he
  omega
theorem sts_ids {f : Pc} {n : Int} (h : mayPc n f = true) : (stsOf f).map St.id = upTo n (cntL f.body) := by
  rw [← its_ids h]
  unfold stsOf
  rw [List.map_map]
  rfl
theorem cnt_put (t : St) (l : List Pc) : cntP (l.map (putPc t)) = cntP l := by
  unfold cntP
  rw [List.map_map]
  congr 1
  refine List.map_congr_left fun f _ => ?_
  exact putL_cnt t f.body
theorem room_put {p : Pr} (hm : mayP p = true) (hw : wtPr p ≤ 20000) {t : St} (h1 : (saidS t).length ≤ 200000) (h2 : t.labels.length ≤ 100000) : RoomP (putPr t p) := by
  have hp : (putPr t p).procs = p.procs.map (putPc t) := rfl
  have R : RoomP p := RoomP.of (Nat.le_trans hw (by decide))
  have hmem : ∀ f' ∈ (putPr t p).procs, ∃ k, ∃ hk : k < p.procs.length, f' = putPc t p.procs[k] := fun f' hf => by
    rw [hp] at hf
    obtain ⟨f, hf1, rfl⟩ := List.mem_map.1 hf
    obtain ⟨k, hk, rfl⟩ := List.getElem_of_mem hf1
    exact ⟨k, hk, rfl⟩
  have hlab : ∀ f ∈ p.procs, (labsOf f).length ≤ 20000 := fun f hf => by
    have h3 : wtPc f ≤ 20000 := by
      unfold wtPr at hw
      have := sum_mem wtPc p.procs f hf
      omega
    unfold wtPc at h3
    unfold labsOf stsOf itsOf
    have h4 := preL_labs f.body 1 0 false
    have h5 := wtTs_len f.fin
    rw [List.length_append]
    omega
  refine ⟨by rw [hp, cnt_put]; exact R.cnt, by rw [hp, List.length_map]; exact R.procs, R.glob, fun f' hf => ?_, fun f' hf s' hs => ?_, fun f' hf => ?_⟩
  · obtain ⟨k, hk, rfl⟩ := hmem f' hf
    exact R.own p.procs[k] (List.getElem_mem hk)
  · obtain ⟨k, hk, rfl⟩ := hmem f' hf
    rw [sts_put] at hs
    obtain ⟨u, hu, rfl⟩ := List.mem_map.1 hs
    by_cases hid : u.id = t.id
    · rw [said_same (putS_at hid)]; omega
    · rw [said_same (putS_out hid)]; exact R.said _ (List.getElem_mem hk) u hu
  · obtain ⟨k, hk, rfl⟩ := hmem f' hf
    have h3 := hlab _ (List.getElem_mem hk)
    obtain ⟨n, -, hn⟩ := mayPs_at (mayP_procs hm) (by omega) k hk
    have h4 := labs_put (t := t) (l := stsOf p.procs[k]) (by rw [sts_ids hn]; exact upTo_nodup _ _)
    unfold labsOf at h3 ⊢
    rw [sts_put]
    have h5 : (putPc t p.procs[k]).fin = p.procs[k].fin := rfl
    rw [h5]
    rw [List.length_append] at h3 ⊢
    omega
theorem picked_wt {p : Pr} (hw : wtPr p ≤ 20000) {id : Int} {s : St} {k : Nat} (hs : Picked p id s k) : wtS s ≤ 20000 := by
  have h1 := sts_wt hs.st
  have h2 : wtPc (p.procs[k]'hs.lt) ≤ 20000 := by
    unfold wtPr at hw
    have := sum_mem wtPc p.procs _ (List.getElem_mem hs.lt)
    omega
  unfold wtPc at h2
  omega
end Go.Proofs.Ytghlmengcidmdaa.Tr
end
section
/- Labels, where they stand, the innermost loops, the first fault of jumps: plain. No program's code. Conditions: as each says. -/
namespace Go.Proofs.Ytghlmengcidmdaa.Tr
open Go.RowKit Go.Proofs.Ytghlmengcidmdaa.Lx Go.Proofs.Ytghlmengcidmdaa.Wd
/- The innermost loops of statements, in the order of ids. -/
theorem loops_len (f : Pc) : (loopsOf f).length = (stsOf f).length := by rw [sts_len]; exact loopsL_len 0 f.body
end Go.Proofs.Ytghlmengcidmdaa.Tr
end
section
/- Where jumps are well: each label stands at one place, all jumps lead somewhere. No program's code. Conditions: as each says. -/
namespace Go.Proofs.Ytghlmengcidmdaa.Tr
open Go.RowKit Go.Proofs.Ytghlmengcidmdaa.Lx Go.Proofs.Ytghlmengcidmdaa.Wd
theorem jump_code {p : Pr} (h : (jumpP p).1 = 0) : (scopeP p).1 = 0 ∧ ∀ f ∈ p.procs, pcJump f = none := by
  unfold jumpP at h
  split at h
  · rename_i hs
    refine ⟨hs, fun f hf => ?_⟩
    unfold jumpAt at h
    cases hx : p.procs.findSome? pcJump with
    | some i => rw [hx] at h; exact absurd h (by simp)
    | none =>
      rw [List.findSome?_eq_none_iff] at hx
      exact hx f hf
  · exact absurd h (by decide)
theorem jumpGo_none {f : Pc} : ∀ (Z : List (St × Int)) (seen : List ByteArray), jumpGo f seen Z = none → (∀ x ∈ Z, leadsP f x.1 x.2 = true) ∧ twiceB (seen ++ labLs (Z.map Prod.fst) ++ f.fin) = false := by
  intro Z
  induction Z with
  | nil =>
    intro seen h
    rw [jumpGo] at h
    refine ⟨fun x hx => (by cases hx), ?_⟩
    have : labLs (([] : List (St × Int)).map Prod.fst) = [] := rfl
    rw [this, List.append_nil]
    cases ht : twiceB (seen ++ f.fin) with
    | false => rfl
    | true => rw [ht] at h; simp at h
  | cons x r ih =>
    intro seen h
    obtain ⟨s, lp⟩ := x
    rw [jumpGo] at h
    split at h
    · cases h
    · rename_i hc
      have hc' : (twiceB (seen ++ s.labels) || !leadsP f s lp) = false := by simpa using hc
      rw [Bool.or_eq_false_iff] at hc'
      obtain ⟨h1, h2⟩ := ih _ h
      refine ⟨fun y hy => ?_, ?_⟩
      · rcases List.mem_cons.1 hy with rfl | hy
        · simpa using hc'.2
        · exact h1 y hy
      · rw [List.map_cons, labLs_cons, ← List.append_assoc]
        exact h2
theorem it6_st {p : Pr} (h : mayP p = true) {f : Pc} (hf : f ∈ p.procs) {t : St} (ht : t ∈ stsOf f) : (it6 p t.id).s = t ∧ 0 < t.id := by
  obtain ⟨k, hk, rfl⟩ := List.getElem_of_mem hf
  obtain ⟨i, hi, rfl⟩ := List.mem_map.1 ht
  refine ⟨?_, ?_⟩
  · unfold it6
    rw [find6_its h hk hi]
    rfl
  · exact pcs_above (mayP_procs h) k hk _ ht
end Go.Proofs.Ytghlmengcidmdaa.Tr
end
