/- Parts of IdsW, JumpP, JumpU, JumpOneW: walks and plain laws that later texts use. Conditions: as each statement says. -/
import Derived.Test.YtghlmengcidmdaaJa0
import Derived.Test.YtghlmengcidmdaaJa1
import Derived.Test.YtghlmengcidmdaaJa10
import Derived.Test.YtghlmengcidmdaaJa11
import Derived.Test.YtghlmengcidmdaaJa12
import Derived.Test.YtghlmengcidmdaaJa13
import Derived.Test.YtghlmengcidmdaaJa14
import Derived.Test.YtghlmengcidmdaaJa15
import Derived.Test.YtghlmengcidmdaaJa16
import Derived.Test.YtghlmengcidmdaaJa17
import Derived.Test.YtghlmengcidmdaaJa18
import Derived.Test.YtghlmengcidmdaaJa19
import Derived.Test.YtghlmengcidmdaaJa2
import Derived.Test.YtghlmengcidmdaaJa20
import Derived.Test.YtghlmengcidmdaaJa21
import Derived.Test.YtghlmengcidmdaaJa22
import Derived.Test.YtghlmengcidmdaaJa3
import Derived.Test.YtghlmengcidmdaaJa4
import Derived.Test.YtghlmengcidmdaaJa5
import Derived.Test.YtghlmengcidmdaaJa6
import Derived.Test.YtghlmengcidmdaaJa7
import Derived.Test.YtghlmengcidmdaaJa8
import Derived.Test.YtghlmengcidmdaaJa9
import Derived.Test.YtghlmengcidmdaaJd0
import Derived.Test.YtghlmengcidmdaaJd1
import Derived.Test.YtghlmengcidmdaaJd2
import Derived.Deep.DeepCutAuto
import Derived.IntWalk
import Derived.Outline
import Derived.Deep.CutBlock
import Derived.BigQuiet
import Derived.OrdersHeld
import Derived.Deep.RegionHeld3
import Derived.Deep.Slices
import Derived.Deep.Fields
import Derived.Lib.SmallJoins
import Derived.SliceStrings
import Derived.ChangeSlices
import Derived.Deep.RegionLaw
import Derived.Deep.AppendLies
import Derived.WalkKit
import Derived.Test.YtghlmengcidmdaaRows
import Derived.WalkSpells
import Derived.Lib.Hide
import Derived.Below
import Derived.Deep.QuietTactic
import Derived.WalkSmall
import Derived.StillTailTactics
import Derived.Deep.RegionWith
import Derived.Laws.Cover3
import Derived.RegionTactic
import Derived.Laws.StructEq
import Derived.Laws.BitsAllLaws
import Derived.Maps.Range
import Derived.Deep.Upon
import Derived.Maps.AppendAt
import Derived.Laws.OwnMore
import Derived.OwnWalk
import Derived.OneCell
import Derived.Deep.MidRow
section
/- What Stmt, ProcOf, Ids and Pick of the reference tell. Conditions: what they are handed lies in memory. -/
namespace Go.Proofs.Ytghlmengcidmdaa.Tr
open Go.RowKit Go.Proofs.Ytghlmengcidmdaa.Lx Go.Proofs.Ytghlmengcidmdaa.Wd
set_option linter.unusedSimpArgs false
theorem box_part {w : World} {g : Nat} {xs rest : List Value} (h : BoxAt w g (xs ++ rest)) : BoxAt w g xs := fun j u hu => h j u (by rw [List.getElem?_append_left (List.getElem?_eq_some_iff.1 hu).1]; exact hu)
/-- A statement that is told. -/
def StTold (d : Nat) (s : St) (w : World) (e : Ending) (w' : World) : Prop := ∃ (la ka aa ta ea : Option Addr) (lc kc ac tc ec : Nat), e = .returned (.agg #[.int .i64 s.id, .int .i64 s.kind, .slice la s.labels.length lc, .string s.nm, .string s.proc, .int .i64 s.x.op, .int .i64 s.x.n, .string s.x.nm, .slice ka s.x.ks.length kc, .bool s.has, .slice aa s.args.length ac, .slice ta s.thn.length tc, .slice ea s.els.length ec]) ∧ Hang d w' s (.slice la s.labels.length lc) (.slice ka s.x.ks.length kc) (.slice aa s.args.length ac) (.slice ta s.thn.length tc) (.slice ea s.els.length ec) ∧ OkE s.x ∧ InI s.id ∧ InI s.kind ∧ s.nm.size ≤ 9223372036854775807 ∧ s.proc.size ≤ 9223372036854775807 ∧ Below w.heap.size w w'
set_option maxHeartbeats 4000000 in
set_option maxRecDepth 100000 in
theorem stmt6_any (d : Nat) (p : Pr) (gv pv : Value) (id : Int) (w : World) (hp : PrC (cw w) (d + 1) gv pv p) :
    Calls Try.prog 23 #[.agg #[gv, pv], .int .i64 id] w (StTold (d + 1) (it6 p id).s w) := by
  obtain ⟨ga, gc, rfl, hgl1, hgl2⟩ := hp.1.form
  obtain ⟨pa, pc, rfl, hl1, hl2⟩ := hp.2.form
  have hpl : p.procs.length ≤ 9223372036854775807 := Nat.le_trans hl1 hl2
  have HP := Lib.hid hp
  clear hp hl1 hl2 hgl1 hgl2
  obtain ⟨t, ht⟩ : ∃ t, Hid (it6 p id = t) := ⟨_, Lib.hid rfl⟩
  obtain ⟨NM, hNM⟩ : ∃ t, Hid (nm6 p id = t) := ⟨_, Lib.hid rfl⟩
  obtain ⟨HS, hHS⟩ : ∃ t, Hid (has6 p id = t) := ⟨_, Lib.hid rfl⟩
  rw [ht.out]
  go_enter Try.func23, Try.ntmps23
  go_upto_region 1 with fail
  refine cut_world (fun wx => Below w.heap.size w wx ∧ wx.heap.size = w.heap.size + 1 + 1 ∧ BoxAt wx w.heap.size [.slice ga p.globals.length gc, .slice pa p.procs.length pc] ∧ BoxAt wx (w.heap.size + 1) [.int .i64 0, .int .i64 0, .slice none 0 0, .string ⟨#[]⟩, .string ⟨#[]⟩, .int .i64 0, .int .i64 0, .string ⟨#[]⟩, .slice none 0 0, .bool false, .slice none 0 0, .slice none 0 0, .slice none 0 0] ∧ Free wx (w.heap.size + 1)) ⟨(boxed w _).alloc (by simp) _, by simp, (box_new w #[.slice ga p.globals.length gc, .slice pa p.procs.length pc] 25).next (boxed _ _), box_two w _ #[.int .i64 0, .int .i64 0, .slice none 0 0, .string ⟨#[]⟩, .string ⟨#[]⟩, .int .i64 0, .int .i64 0, .string ⟨#[]⟩, .slice none 0 0, .bool false, .slice none 0 0, .slice none 0 0, .slice none 0 0] 41, free_two w _ _ _⟩ ?_
  rintro w1 ⟨hb1, hz1', hx1, hr1, hf1⟩
  obtain ⟨R, hR⟩ : ∃ R, R = w.heap.size + 1 := ⟨_, rfl⟩
  rw [← hR] at hr1 hf1
  try rw [← hR]
  have hRw : w.heap.size < R := by omega
  have hR1 : R < w1.heap.size := by omega
  have HB1 := Lib.hid hb1
  have HX1 := Lib.hid hx1
  have HR1 := Lib.hid hr1
  have HF1 := Lib.hid hf1
  have HP1 := Lib.hid (PrC.mono (low_next hb1) (PrC.mono low_all HP.out))
  clear hb1 hx1 hr1 hf1 hz1' hR
  have x0 := HX1.out 0 _ rfl
  have x1 := HX1.out 1 _ rfl
  go_wp2_with fail
  refine (find7_any w.heap.size d p _ _ id _ HB1.out.size HP1.out).mono ?_
  rw [ht.out, hNM.out, hHS.out]
  rintro e w2 ⟨la, ka, aa, ta, ea, lc, kc, ac, tc, ec, rfl, hh2, hok2, i1, i2, i3, i4, i5, i6, hb2⟩
  have HH2 := Lib.hid hh2
  have HOK2 := Lib.hid hok2
  have HJ2 := Lib.hid (And.intro i1 (And.intro i2 (And.intro i3 i4)))
  clear hh2 hok2 i1 i2 i3 i4 i5 i6 x0 x1
  have HR2 := Lib.hid (HR1.out.next hb2)
  have HF2 := Lib.hid (HF1.out.next hR1 hb2)
  have HB2 := Lib.hid (HB1.out.trans (hb2.mono HB1.out.size))
  have hR2 : R < w2.heap.size := by have := hb2.size; omega
  clear hb2
  go_upto_region 2 with fail
  refine cut_world (fun wx => Below w2.heap.size w2 wx ∧ BoxAt wx w2.heap.size [.int .i64 t.s.id, .int .i64 t.s.kind, .slice la t.s.labels.length lc, .string t.s.nm, .string t.s.proc, .int .i64 t.s.x.op, .int .i64 t.s.x.n, .string t.s.x.nm, .slice ka t.s.x.ks.length kc, .bool t.s.has, .slice aa t.s.args.length ac, .slice ta t.s.thn.length tc, .slice ea t.s.els.length ec, .int .i64 t.deep, .int .i64 t.inn, .bool t.els]) ⟨boxed w2 _, box_new w2 #[.int .i64 t.s.id, .int .i64 t.s.kind, .slice la t.s.labels.length lc, .string t.s.nm, .string t.s.proc, .int .i64 t.s.x.op, .int .i64 t.s.x.n, .string t.s.x.nm, .slice ka t.s.x.ks.length kc, .bool t.s.has, .slice aa t.s.args.length ac, .slice ta t.s.thn.length tc, .slice ea t.s.els.length ec, .int .i64 t.deep, .int .i64 t.inn, .bool t.els] 76⟩ ?_
  rintro w3 ⟨hb3, ht3⟩
  have HT3 := Lib.hid ht3
  have HLE3 := Lib.hid (low_next (B := w.heap.size) hb3)
  have HR3 := Lib.hid (HR2.out.next hb3)
  have HF3 := Lib.hid (HF2.out.next hR2 hb3)
  have HB3 := Lib.hid (HB2.out.trans (hb3.mono HB2.out.size))
  have hR3 : R < w3.heap.size := by have := hb3.size; omega
  have hne : R ≠ w2.heap.size := by omega
  clear hb3 ht3
  have hok : Below w.heap.size w (w3.setCells R 0 [.int .i64 t.s.id, .int .i64 t.s.kind, .slice la t.s.labels.length lc, .string t.s.nm, .string t.s.proc, .int .i64 t.s.x.op, .int .i64 t.s.x.n, .string t.s.x.nm, .slice ka t.s.x.ks.length kc, .bool t.s.has, .slice aa t.s.args.length ac, .slice ta t.s.thn.length tc, .slice ea t.s.els.length ec]) := setCells_below _ _ HB3.out (Nat.le_of_lt hRw)
  have hq : BoxAt (w3.setCells R 0 [.int .i64 t.s.id, .int .i64 t.s.kind, .slice la t.s.labels.length lc, .string t.s.nm, .string t.s.proc, .int .i64 t.s.x.op, .int .i64 t.s.x.n, .string t.s.x.nm, .slice ka t.s.x.ks.length kc, .bool t.s.has, .slice aa t.s.args.length ac, .slice ta t.s.thn.length tc, .slice ea t.s.els.length ec]) R [.int .i64 t.s.id, .int .i64 t.s.kind, .slice la t.s.labels.length lc, .string t.s.nm, .string t.s.proc, .int .i64 t.s.x.op, .int .i64 t.s.x.n, .string t.s.x.nm, .slice ka t.s.x.ks.length kc, .bool t.s.has, .slice aa t.s.args.length ac, .slice ta t.s.thn.length tc, .slice ea t.s.els.length ec] := box_over (old := [.int .i64 0, .int .i64 0, .slice none 0 0, .string ⟨#[]⟩, .string ⟨#[]⟩, .int .i64 0, .int .i64 0, .string ⟨#[]⟩, .slice none 0 0, .bool false, .slice none 0 0, .slice none 0 0, .slice none 0 0]) (xs := [.int .i64 t.s.id, .int .i64 t.s.kind, .slice la t.s.labels.length lc, .string t.s.nm, .string t.s.proc, .int .i64 t.s.x.op, .int .i64 t.s.x.n, .string t.s.x.nm, .slice ka t.s.x.ks.length kc, .bool t.s.has, .slice aa t.s.args.length ac, .slice ta t.s.thn.length tc, .slice ea t.s.els.length ec]) (rest := []) HR3.out HF3.out rfl
  have hth : w3.there R 0 13 := box_there (n := 13) HR3.out HF3.out (by simp)
  have HHZ : Hid (Hang (d + 1) (w3.setCells R 0 [.int .i64 t.s.id, .int .i64 t.s.kind, .slice la t.s.labels.length lc, .string t.s.nm, .string t.s.proc, .int .i64 t.s.x.op, .int .i64 t.s.x.n, .string t.s.x.nm, .slice ka t.s.x.ks.length kc, .bool t.s.has, .slice aa t.s.args.length ac, .slice ta t.s.thn.length tc, .slice ea t.s.els.length ec]) t.s (.slice la t.s.labels.length lc) (.slice ka t.s.x.ks.length kc) (.slice aa t.s.args.length ac) (.slice ta t.s.thn.length tc) (.slice ea t.s.els.length ec)) := Lib.hid (HH2.out _ (Cs.le_trans HLE3.out (fun g j u ⟨hg, hu⟩ => setCells_cell hu (by omega))))
  have q0 := hq 0 _ rfl
  have q1 := hq 1 _ rfl
  have q2 := hq 2 _ rfl
  have q3 := hq 3 _ rfl
  have q4 := hq 4 _ rfl
  have q5 := hq 5 _ rfl
  have q6 := hq 6 _ rfl
  have q7 := hq 7 _ rfl
  have q8 := hq 8 _ rfl
  have q9 := hq 9 _ rfl
  have q10 := hq 10 _ rfl
  have q11 := hq 11 _ rfl
  have q12 := hq 12 _ rfl
  go_wp2_with (first | refine wpList_load_mid rfl 41 (.tmp 15) rfl w2.heap.size 0 rfl [.int .i64 t.s.id, .int .i64 t.s.kind, .slice la t.s.labels.length lc, .string t.s.nm, .string t.s.proc, .int .i64 t.s.x.op, .int .i64 t.s.x.n, .string t.s.x.nm, .slice ka t.s.x.ks.length kc, .bool t.s.has, .slice aa t.s.args.length ac, .slice ta t.s.thn.length tc, .slice ea t.s.els.length ec] _ (fun j v hv => by rw [Nat.zero_add]; exact box_part (xs := [.int .i64 t.s.id, .int .i64 t.s.kind, .slice la t.s.labels.length lc, .string t.s.nm, .string t.s.proc, .int .i64 t.s.x.op, .int .i64 t.s.x.n, .string t.s.x.nm, .slice ka t.s.x.ks.length kc, .bool t.s.has, .slice aa t.s.args.length ac, .slice ta t.s.thn.length tc, .slice ea t.s.els.length ec]) (rest := [.int .i64 t.deep, .int .i64 t.inn, .bool t.els]) HT3.out j v hv) Try.underlying41 rfl (by kernel_rfl) ?_ | refine wpList_store_mid rfl 41 (.tmp 4) (.tmp 16) rfl R 0 #[.int .i64 t.s.id, .int .i64 t.s.kind, .slice la t.s.labels.length lc, .string t.s.nm, .string t.s.proc, .int .i64 t.s.x.op, .int .i64 t.s.x.n, .string t.s.x.nm, .slice ka t.s.x.ks.length kc, .bool t.s.has, .slice aa t.s.args.length ac, .slice ta t.s.thn.length tc, .slice ea t.s.els.length ec] rfl rfl hth (by kernel_rfl) (by simp [Value.oneCell']) ?_)
  refine bodyPost_ret (v := .agg #[.int .i64 t.s.id, .int .i64 t.s.kind, .slice la t.s.labels.length lc, .string t.s.nm, .string t.s.proc, .int .i64 t.s.x.op, .int .i64 t.s.x.n, .string t.s.x.nm, .slice ka t.s.x.ks.length kc, .bool t.s.has, .slice aa t.s.args.length ac, .slice ta t.s.thn.length tc, .slice ea t.s.els.length ec]) (by simp [results, Try.results23, go_sem, q0, q1, q2, q3, q4, q5, q6, q7, q8, q9, q10, q11, q12]) rfl ?_
  obtain ⟨i1, i2, i3, i4⟩ := HJ2.out
  exact ⟨la, ka, aa, ta, ea, lc, kc, ac, tc, ec, rfl, HHZ.out, HOK2.out, i1, i2, i3, i4, hok⟩
end Go.Proofs.Ytghlmengcidmdaa.Tr
end
section
/- Labels, where they stand, the innermost loops, the first fault of jumps: plain. No program's code. Conditions: as each says. -/
namespace Go.Proofs.Ytghlmengcidmdaa.Tr
open Go.RowKit Go.Proofs.Ytghlmengcidmdaa.Lx Go.Proofs.Ytghlmengcidmdaa.Wd
/- The innermost loops of statements, in the order of ids. -/
theorem loops_len (f : Pc) : (loopsOf f).length = (stsOf f).length := by rw [sts_len]; exact loopsL_len 0 f.body
end Go.Proofs.Ytghlmengcidmdaa.Tr
end
section
/- Where jumps are well: each label stands at one place, all jumps lead somewhere. No program's code. Conditions: as each says. -/
namespace Go.Proofs.Ytghlmengcidmdaa.Tr
open Go.RowKit Go.Proofs.Ytghlmengcidmdaa.Lx Go.Proofs.Ytghlmengcidmdaa.Wd
theorem jump_code {p : Pr} (h : (jumpP p).1 = 0) : (scopeP p).1 = 0 ∧ ∀ f ∈ p.procs, pcJump f = none := by
  unfold jumpP at h
  split at h
  · rename_i hs
    refine ⟨hs, fun f hf => ?_⟩
    unfold jumpAt at h
    cases hx : p.procs.findSome? pcJump with
    | some i => rw [hx] at h; exact absurd h (by simp)
    | none =>
      rw [List.findSome?_eq_none_iff] at hx
      exact hx f hf
  · exact absurd h (by decide)
theorem jumpGo_none {f : Pc} : ∀ (Z : List (St × Int)) (seen : List ByteArray), jumpGo f seen Z = none → (∀ x ∈ Z, leadsP f x.1 x.2 = true) ∧ twiceB (seen ++ labLs (Z.map Prod.fst) ++ f.fin) = false := by
  intro Z
  induction Z with
  | nil =>
    intro seen h
    rw [jumpGo] at h
    refine ⟨fun x hx => (by cases hx), ?_⟩
    have : labLs (([] : List (St × Int)).map Prod.fst) = [] := rfl
    rw [this, List.append_nil]
    cases ht : twiceB (seen ++ f.fin) with
    | false => rfl
    | true => rw [ht] at h; simp at h
  | cons x r ih =>
    intro seen h
    obtain ⟨s, lp⟩ := x
    rw [jumpGo] at h
    split at h
    · cases h
    · rename_i hc
      have hc' : (twiceB (seen ++ s.labels) || !leadsP f s lp) = false := by simpa using hc
      rw [Bool.or_eq_false_iff] at hc'
      obtain ⟨h1, h2⟩ := ih _ h
      refine ⟨fun y hy => ?_, ?_⟩
      · rcases List.mem_cons.1 hy with rfl | hy
        · simpa using hc'.2
        · exact h1 y hy
      · rw [List.map_cons, labLs_cons, ← List.append_assoc]
        exact h2
theorem zip_fst {α β : Type} : ∀ (l : List α) (m : List β), m.length = l.length → (l.zip m).map Prod.fst = l := by
  intro l
  induction l with
  | nil => intro m _; rfl
  | cons a r ih =>
    intro m h
    cases m with
    | nil => simp at h
    | cons b s => rw [List.zip_cons_cons, List.map_cons, ih s (by simpa using h)]
theorem jump_parts {f : Pc} (h : pcJump f = none) : twiceB (labsOf f) = false ∧ ∀ (q : Nat) (s : St) (lp : Int), (stsOf f)[q]? = some s → (loopsOf f)[q]? = some lp → leadsP f s lp = true := by
  obtain ⟨h1, h2⟩ := jumpGo_none _ _ h
  refine ⟨?_, fun q s lp hs hl => ?_⟩
  · rw [List.nil_append, zip_fst _ _ (loops_len f)] at h2
    exact h2
  · have hz : ((stsOf f).zip (loopsOf f))[q]? = some (s, lp) := by
      rw [List.getElem?_zip_eq_some]
      exact ⟨hs, hl⟩
    exact h1 _ (List.mem_of_getElem? hz)
theorem goto_in {f : Pc} (h : pcJump f = none) {s : St} (hs : s ∈ stsOf f) (hk : s.kind = 10) : inB s.nm (labsOf f) = true := by
  obtain ⟨q, hq, rfl⟩ := List.getElem_of_mem hs
  have hl : q < (loopsOf f).length := by rw [loops_len]; exact hq
  have := (jump_parts h).2 q _ _ (List.getElem?_eq_getElem hq) (List.getElem?_eq_getElem hl)
  unfold leadsP at this
  rwa [if_neg (by omega), if_pos hk] at this
/-- Where a label stands. -/
theorem label_one {f : Pc} (h : pcJump f = none) {s : ByteArray} (hs : s ∈ labsOf f) : (∃ t ∈ stsOf f, s ∈ t.labels ∧ bearP f s = (t.id, true) ∧ inB s f.fin = false) ∨ (bearP f s = (-1, true) ∧ inB s f.fin = true) := by
  have hn := nodup_of (jump_parts h).1
  unfold labsOf at hn hs
  rw [List.nodup_append] at hn
  unfold bearP
  cases hf : (stsOf f).find? (fun t => inB s t.labels) with
  | some t =>
    left
    have h1' := List.find?_some hf
    have h1 := inB_iff.1 h1'
    have h2 := List.mem_of_find?_eq_some hf
    exact ⟨t, h2, h1, rfl, inB_no.2 fun h3 => hn.2.2 s (labLs_mem.2 ⟨t, h2, h1⟩) s h3 rfl⟩
  | none =>
    right
    rw [List.find?_eq_none] at hf
    have h3 : s ∈ f.fin := by
      rcases List.mem_append.1 hs with h | h
      · obtain ⟨t, ht, hl⟩ := labLs_mem.1 h
        exact absurd (inB_iff.2 hl) (hf t ht)
      · exact h
    have h4 := inB_iff.2 h3
    exact ⟨by simp only; rw [h4]; rfl, h4⟩
theorem it6_st {p : Pr} (h : mayP p = true) {f : Pc} (hf : f ∈ p.procs) {t : St} (ht : t ∈ stsOf f) : (it6 p t.id).s = t ∧ 0 < t.id := by
  obtain ⟨k, hk, rfl⟩ := List.getElem_of_mem hf
  obtain ⟨i, hi, rfl⟩ := List.mem_map.1 ht
  refine ⟨?_, ?_⟩
  · unfold it6
    rw [find6_its h hk hi]
    rfl
  · exact pcs_above (mayP_procs h) k hk _ ht
end Go.Proofs.Ytghlmengcidmdaa.Tr
end
section
/- The law JumpOne, walked: it returns true. Conditions: the arguments lie in memory. -/
namespace Go.Proofs.Ytghlmengcidmdaa.Tr
open Go.RowKit Go.Proofs.Ytghlmengcidmdaa.Lx Go.Proofs.Ytghlmengcidmdaa.Wd
set_option linter.unusedSimpArgs false
theorem run_labels (a0 a1 a3 a4 a5 a6 a7 a8 a9 a10 a11 a12 : Value) (lv : Value) (w : World) : (Instr.field 41 (.agg #[a0, a1, lv, a3, a4, a5, a6, a7, a8, a9, a10, a11, a12]) 2).run Try.prog w = .ok lv w := by kernel_rfl
set_option maxHeartbeats 8000000 in
set_option maxRecDepth 100000 in
theorem law_jumpOne {w : World} (d : Nat) (p : Pr) (gv pv : Value) (hp : PrC (cw w) d gv pv p) (n : Int) (hn0 : (Lit.int .i64 n).wf = true) :
    Calls Try.prog 15 #[.agg #[gv, pv], .int .i64 n] w fun e w' => e = .returned (.bool true) ∧ Below w.heap.size w w' := by
  obtain ⟨ga, gc, rfl, -, -⟩ := hp.1.form
  obtain ⟨pa, pc, rfl, hpl1, hpl2⟩ := hp.2.form
  have hpl : p.procs.length ≤ 9223372036854775807 := Nat.le_trans hpl1 hpl2
  have HP := Lib.hid hp
  clear hp hpl1 hpl2
  have hn : InI n := wf_in hn0
  clear hn0
  go_enter Try.func15, Try.ntmps15
  go_upto_region 1 with fail
  refine cut_world (fun wx => Below w.heap.size w wx ∧ BoxAt wx w.heap.size [.slice ga p.globals.length gc, .slice pa p.procs.length pc]) ⟨boxed _ _, box_new w #[.slice ga p.globals.length gc, .slice pa p.procs.length pc] 25⟩ ?_
  rintro w1 ⟨hb1, hx1⟩
  have HB1 := Lib.hid hb1
  have HX1 := Lib.hid hx1
  have HP1 := Lib.hid (PrC.mono (cw_next hb1) HP.out)
  clear hb1 hx1
  have p0 := HX1.out 0 _ rfl
  have p1 := HX1.out 1 _ rfl
  go_wp2_with fail
  refine (jumping_any _).mono ?_
  rintro e w2 ⟨rfl, hb2⟩
  have HX2 := Lib.hid (HX1.out.next hb2)
  have HP2 := Lib.hid (PrC.mono (cw_next hb2) HP1.out)
  have HB2 := Lib.hid (HB1.out.trans (hb2.mono HB1.out.size))
  clear hb2
  clear p0 p1
  have p0 := HX2.out 0 _ rfl
  have p1 := HX2.out 1 _ rfl
  go_wp2_with fail
  refine (fits_any d p _ _ _ HP2.out).mono ?_
  rintro e w3 ⟨b1, hf1, rfl, hb3⟩
  have HF1 := Lib.hid hf1
  clear hf1
  have HX3 := Lib.hid (HX2.out.next hb3)
  have HP3 := Lib.hid (PrC.mono (cw_next hb3) HP2.out)
  have HB3 := Lib.hid (HB2.out.trans (hb3.mono HB2.out.size))
  clear hb3
  clear p0 p1
  cases b1 with
  | false =>
    have p0 := HX3.out 0 _ rfl
    have p1 := HX3.out 1 _ rfl
    go_wp2_with fail
    go_ret
    exact ⟨rfl, HB3.out⟩
  | true =>
    have HWP := Lib.hid (HF1.out (by simp))
    have HROOM := Lib.hid (RoomP.of (Nat.le_trans HWP.out (by decide)))
    clear HF1
    have p0 := HX3.out 0 _ rfl
    have p1 := HX3.out 1 _ rfl
    go_wp2_with fail
    refine (scheck_any d p _ _ _ HP3.out HROOM.out).mono ?_
    rintro e w4 ⟨rfl, hb4⟩
    obtain ⟨SC, hSC⟩ : ∃ r, Hid ((scopeP p).1 = r) := ⟨_, Lib.hid rfl⟩
    obtain ⟨SI, hSI⟩ : ∃ r, Hid ((scopeP p).2 = r) := ⟨_, Lib.hid rfl⟩
    rw [hSC.out, hSI.out]
    have HX4 := Lib.hid (HX3.out.next hb4)
    have HP4 := Lib.hid (PrC.mono (cw_next hb4) HP3.out)
    have HB4 := Lib.hid (HB3.out.trans (hb4.mono HB3.out.size))
    clear hb4
    clear p0 p1
    have hfd := run_code SC SI
    by_cases hz : SC = 0
    · have hz1 : (SC == 0) = true := by simpa using hz
      have hz2 : (SC != 0) = false := by rw [bne, hz1]; rfl
      have HWELL := Lib.hid (hSC.out.trans hz)
      have HMAY := Lib.hid (scope_code HWELL.out).1
      clear hz
      have p0 := HX4.out 0 _ rfl
      have p1 := HX4.out 1 _ rfl
      go_wp2_with fail
      refine (jcheck_any d p _ _ _ HP4.out HROOM.out).mono ?_
      rintro e w5 ⟨rfl, hb5⟩
      obtain ⟨JC, hJC⟩ : ∃ r, Hid ((jumpP p).1 = r) := ⟨_, Lib.hid rfl⟩
      obtain ⟨JI, hJI⟩ : ∃ r, Hid ((jumpP p).2 = r) := ⟨_, Lib.hid rfl⟩
      rw [hJC.out, hJI.out]
      have hfj := run_code JC JI
      have HX5 := Lib.hid (HX4.out.next hb5)
      have HP5 := Lib.hid (PrC.mono (cw_next hb5) HP4.out)
      have HB5 := Lib.hid (HB4.out.trans (hb5.mono HB4.out.size))
      clear hb5 p0 p1 hz1 hz2 hfd
      by_cases hj : JC = 0
      · have hj1 : (JC == 0) = true := by simpa using hj
        have hj2 : (JC != 0) = false := by rw [bne, hj1]; rfl
        have HJOK := Lib.hid (jump_code (hJC.out.trans hj)).2
        clear hj
        go_upto_region 7 with fail
        clear hj1 hj2 hfj
        have p0 := HX5.out 0 _ rfl
        have p1 := HX5.out 1 _ rfl
        go_wp2_with fail
        refine (procat_any d p _ _ n _ HP5.out hn.1 hn.2 HROOM.out.procs).mono ?_
        rintro e w6 ⟨rfl, hb6⟩
        have HX6 := Lib.hid (HX5.out.next hb6)
        have HP6 := Lib.hid (PrC.mono (cw_next hb6) HP5.out)
        have HB6 := Lib.hid (HB5.out.trans (hb6.mono HB5.out.size))
        clear hb6
        clear p0 p1
        have hpos := well_procs HWELL.out
        obtain ⟨m, hmm⟩ : ∃ m, m = (n % (p.procs.length : Int)).toNat := ⟨_, rfl⟩
        have hlm : m < p.procs.length := by rw [hmm]; exact (mod_at hpos).1
        have hpa : procAtP p n = (p.procs[m]).nm := by rw [procAt_some hpos]; subst hmm; rfl
        obtain ⟨f, hf⟩ : ∃ f, p.procs[m] = f := ⟨_, rfl⟩
        have hmem : f ∈ p.procs := by rw [← hf]; exact List.getElem_mem hlm
        rw [hf] at hpa
        rw [hpa]
        have HPC := Lib.hid (well_pc hmem HWELL.out)
        have hwpc : wellPc p f.nm = some f := by
          unfold wellPc
          rw [if_pos HWELL.out]
          have h1 := HPC.out
          unfold pcIn at h1
          rwa [if_pos HMAY.out] at h1
        have HLABS : Hid (jlabsP p f.nm = labsOf f) := Lib.hid (by unfold jlabsP; rw [hwpc])
        have HATP : Hid (∀ s, jatP p f.nm s = bearP f s) := Lib.hid (fun s => by unfold jatP; rw [hwpc])
        have HJF := Lib.hid (HJOK.out f hmem)
        have HMEM := Lib.hid hmem
        have HFLAT := Lib.hid (flat_its HMAY.out hmem)
        have hll : (labsOf f).length ≤ 300000 := HROOM.out.labs f hmem
        have HP6 := Lib.hid (PrC.le6 (show d ≤ d + 1 by omega) HP6.out)
        clear hmm hpa hf hlm hpos hmem hwpc
        have p0 := HX6.out 0 _ rfl
        have p1 := HX6.out 1 _ rfl
        go_wp2_with fail
        refine (sproc_any (d + 1) p _ _ f.nm _ HP6.out HWP.out).mono ?_
        intro e w7 hpm
        rw [HPC.out] at hpm
        obtain ⟨a1, a2, a3, a4, c1, c2, c3, c4, rfl, hh7, hn7, hb7⟩ := hpm
        have HH7 := Lib.hid hh7
        clear hh7 hn7
        have HX7 := Lib.hid (HX6.out.next hb7)
        have HP7 := Lib.hid (PrC.mono (cw_next hb7) HP6.out)
        have HB7 := Lib.hid (HB6.out.trans (hb7.mono HB6.out.size))
        clear hb7
        clear p0 p1
        go_upto_region 9 with fail
        refine cut_world (fun wx => Below w7.heap.size w7 wx ∧ BoxAt wx w7.heap.size [.string f.nm, .slice a1 f.params.length c1, .slice a2 f.vars.length c2, .slice a3 f.body.length c3, .slice a4 f.fin.length c4]) ⟨boxed w7 _, box_new w7 #[.string f.nm, .slice a1 f.params.length c1, .slice a2 f.vars.length c2, .slice a3 f.body.length c3, .slice a4 f.fin.length c4] 55⟩ ?_
        rintro w8 ⟨hb8, hy8⟩
        have HY8 := Lib.hid hy8
        have HH8 := Lib.hid (HH7.out.next hb8)
        have HX8 := Lib.hid (HX7.out.next hb8)
        have HP8 := Lib.hid (PrC.mono (cw_next hb8) HP7.out)
        have HB8 := Lib.hid (HB7.out.trans (hb8.mono HB7.out.size))
        clear hb8 hy8
        have p0 := HX8.out 0 _ rfl
        have p1 := HX8.out 1 _ rfl
        go_wp2_with fail
        refine (jlabels_any (d + 1) p _ _ f.nm _ HP8.out HROOM.out).mono ?_
        rintro e w9 ⟨v9, rfl, hr9, hb9⟩
        rw [HLABS.out] at hr9
        have HLONE := Lib.hid (fun s hs => label_one HJF.out (s := s) hs)
        have HNOD := Lib.hid (nodup_of (jump_parts HJF.out).1)
        have HGOTO := Lib.hid (fun s hs hk => goto_in HJF.out (s := s) hs hk)
        obtain ⟨LL, hLL⟩ : ∃ L, Hid (labsOf f = L) := ⟨_, Lib.hid rfl⟩
        rw [hLL.out] at hr9 hll HLONE HNOD HGOTO
        have HS9 := Lib.hid (hr9.strs (by omega))
        obtain ⟨va, vc, rfl⟩ := ownsForm hr9.1
        have HY9 := Lib.hid (HY8.out.next hb9)
        have HH9 := Lib.hid (HH8.out.next hb9)
        clear hr9
        have HX9 := Lib.hid (HX8.out.next hb9)
        have HP9 := Lib.hid (PrC.mono (cw_next hb9) HP8.out)
        have HB9 := Lib.hid (HB8.out.trans (hb9.mono HB8.out.size))
        clear hb9
        clear p0 p1
        go_wp2_with fail
        obtain ⟨W9, hW9⟩ : ∃ x : World, x = w9 := ⟨_, rfl⟩
        subst hW9
        go_loopw [45] (fun i wr => ∃ q : Nat, q ≤ LL.length ∧ i = .int .i64 q ∧ Below W9.heap.size W9 wr) (fun i _ => (LL.length - intOf i).toNat)
        case atStart => exact ⟨0, by omega, rfl, Below.refl _ _⟩
        case round =>
          obtain ⟨q, hq, rfl, hbq⟩ := hrel
          obtain ⟨wq, hwq⟩ : ∃ x : World, x = wr := ⟨_, rfl⟩
          subst hwq
          have HBQ := Lib.hid hbq
          have HSQ := Lib.hid (HS9.out.next hbq)
          have HYQ := Lib.hid (HY9.out.next hbq)
          have HHQ := Lib.hid (HH9.out.next hbq)
          have HXQ := Lib.hid (HX9.out.next hbq)
          have HPQ := Lib.hid (PrC.mono (cw_next hbq) HP9.out)
          have HBQW := Lib.hid (HB9.out.trans (hbq.mono HB9.out.size))
          clear hbq
          by_cases hlt : q < LL.length
          · have hlt' : (q : Int) < (LL.length : Int) := by omega
            have h0q : (0 : Int) ≤ (q : Int) := by omega
            have hne : LL ≠ [] := by intro h; rw [h] at hlt; simp at hlt
            obtain ⟨gs, os, caps, hvs, hcs⟩ := HSQ.out.cells hne
            simp only [Value.slice.injEq] at hvs
            obtain ⟨rfl, -, rfl⟩ := hvs
            obtain ⟨-, c0⟩ := hcs q hlt
            have HCS := Lib.hid hcs
            have hone := HLONE.out LL[q] (List.getElem_mem hlt)
            have hpre : ∀ k (hk : k < LL.length), k < q → (LL[k].toList == LL[q].toList) = false := fun k hk hkq => same_no.2 fun he => by
              have := nodup_get HNOD.out hk hlt he
              omega
            obtain ⟨s, hs⟩ : ∃ s, Hid (LL[q] = s) := ⟨_, Lib.hid rfl⟩
            rw [hs.out] at c0 hone
            simp only [hs.out] at hpre
            have HONE := Lib.hid hone
            have HPRE := Lib.hid hpre
            clear hcs hne hone hpre
            go_wp2_with fail
            go_loop [11] (fun x => ∃ k : Nat, k ≤ q ∧ x = .int .i64 k) (fun x => (q - intOf x).toNat)
            case atStart => exact ⟨0, by omega, rfl⟩
            case round =>
              obtain ⟨k, hk, rfl⟩ := hrel
              by_cases hkq : k < q
              · have hkq' : (k : Int) < (q : Int) := by omega
                have h0k : (0 : Int) ≤ (k : Int) := by omega
                have hkl : k < LL.length := by omega
                have hkl' : (k : Int) < (LL.length : Int) := by omega
                obtain ⟨-, c1⟩ := HCS.out k hkl
                have hne2 := HPRE.out k hkl hkq
                obtain ⟨s2, hs2⟩ : ∃ s, Hid (LL[k] = s) := ⟨_, Lib.hid rfl⟩
                rw [hs2.out] at c1 hne2
                have hw : IntKind.i64.wrap ((k : Int) + 1) = (k : Int) + 1 := IntWalk.i64_in _ (by omega)
                go_wp2_with fail
                go_round
                case rel => exact ⟨k + 1, by omega, by first | rfl | go_num⟩
                case measure => first | (simp [intOf]; done) | (simp [intOf]; omega)
              · have hkq' : ¬ (k : Int) < (q : Int) := by omega
                have hkk : k = q := by omega
                subst hkk
                clear c0
                have p0 := HXQ.out 0 _ rfl
                have p1 := HXQ.out 1 _ rfl
                go_wp2_with fail
                refine (jat_any (d + 1) p _ _ f.nm s _ HPQ.out HROOM.out).mono ?_
                rw [HATP.out]
                rintro e wa ⟨rfl, hba⟩
                have HYA := Lib.hid (HYQ.out.next hba)
                have HHA := Lib.hid (HHQ.out.next hba)
                have HBQA := Lib.hid (HBQ.out.trans (hba.mono HBQ.out.size))
                have HXA := Lib.hid (HXQ.out.next hba)
                have HPA := Lib.hid (PrC.mono (cw_next hba) HPQ.out)
                clear hba p0 p1
                have y4 := HYA.out 4 _ rfl
                rcases HONE.out with ⟨u, hu1, hu2, hu3, hu4⟩ | ⟨hu3, hu4⟩
                · obtain ⟨hit, hupos⟩ := it6_st HMAY.out HMEM.out hu1
                  have hne3 : (u.id == -1) = false := by simp only [beq_eq_false_iff_ne]; omega
                  have hne4 : (u.id != -1) = true := by rw [bne, hne3]; rfl
                  have HIT := Lib.hid hit
                  have HU2 := Lib.hid (inB_iff.2 hu2)
                  have HU4 := Lib.hid hu4
                  rw [hu3]
                  clear hu1 hu2 hu3 hu4 hit hupos
                  go_wp2_with fail
                  refine (in_any f.fin _ s _ (StrC.to HHA.out.fin)).mono ?_
                  rw [show (at_ s f.fin).isSome = false from HU4.out]
                  rintro e w' ⟨rfl, rfl⟩
                  have p0 := HXA.out 0 _ rfl
                  have p1 := HXA.out 1 _ rfl
                  go_wp2_with fail
                  refine (stmt6_any d p _ _ u.id _ HPA.out).mono ?_
                  rw [HIT.out]
                  rintro e wb ⟨la, ka, aa, ta, ea, lc, kc, ac, tc, ec, rfl, hhb, -, -, -, -, -, hbb⟩
                  have HLB := Lib.hid (StrC.to hhb.lab)
                  have HBQB := Lib.hid (HBQA.out.trans (hbb.mono HBQA.out.size))
                  clear hhb hbb p0 p1
                  have hfield := fun w => run_labels (.int .i64 u.id) (.int .i64 u.kind) (.string u.nm) (.string u.proc) (.int .i64 u.x.op) (.int .i64 u.x.n) (.string u.x.nm) (.slice ka u.x.ks.length kc) (.bool u.has) (.slice aa u.args.length ac) (.slice ta u.thn.length tc) (.slice ea u.els.length ec) (.slice la u.labels.length lc) w
                  go_wp2_with fail
                  refine (in_any u.labels _ s _ HLB.out).mono ?_
                  rw [show (at_ s u.labels).isSome = true from HU2.out]
                  rintro e w' ⟨rfl, rfl⟩
                  clear hfield
                  go_wp2_with fail
                  go_roundw
                  case rel => exact ⟨k + 1, by omega, by go_num, HBQB.out⟩
                  case measure => simp [intOf]; omega
                · have HU4 := Lib.hid hu4
                  rw [hu3]
                  clear hu3 hu4
                  go_wp2_with fail
                  refine (in_any f.fin _ s _ (StrC.to HHA.out.fin)).mono ?_
                  rw [show (at_ s f.fin).isSome = true from HU4.out]
                  rintro e w' ⟨rfl, rfl⟩
                  go_wp2_with fail
                  go_roundw
                  case rel => exact ⟨k + 1, by omega, by go_num, HBQA.out⟩
                  case measure => simp [intOf]; omega
          · have hlt' : ¬ (q : Int) < (LL.length : Int) := by omega
            go_upto_region 22 with fail
            have y0 := HYQ.out 0 _ rfl
            have y1 := HYQ.out 1 _ rfl
            have y2 := HYQ.out 2 _ rfl
            have y3 := HYQ.out 3 _ rfl
            have y4 := HYQ.out 4 _ rfl
            go_wp2_with fail
            refine (flatOf_any (d + 1) f _ _ _ _ _ HHQ.out.body).mono ?_
            rintro e wa ⟨v4, rfl, hs4, hba⟩
            rw [HFLAT.out] at hs4
            obtain ⟨PT, hPT⟩ : ∃ L, Hid (itsOf f = L) := ⟨_, Lib.hid rfl⟩
            have hpart : ∀ t ∈ PT, t.s ∈ stsOf f := fun t ht => List.mem_map.2 ⟨t, by rw [hPT.out]; exact ht, rfl⟩
            rw [hPT.out] at hs4
            obtain ⟨ia, ic, rfl, hil1, hil2⟩ := hs4.form
            have hil : PT.length ≤ 9223372036854775807 := Nat.le_trans hil1 hil2
            have HLA := Lib.hid hs4
            have HPART := Lib.hid hpart
            have HSA := Lib.hid (HSQ.out.next hba)
            have HBA := Lib.hid (HBQW.out.trans (hba.mono HBQW.out.size))
            clear hs4 hba hil1 hil2 hpart y0 y1 y2 y3 y4
            go_wp2_with fail
            obtain ⟨WA, hWA⟩ : ∃ x : World, x = wa := ⟨_, rfl⟩
            subst hWA
            go_loopw [96] (fun i wr => ∃ r : Nat, r ≤ PT.length ∧ i = .int .i64 r ∧ Below WA.heap.size WA wr) (fun i _ => (PT.length - intOf i).toNat)
            case atStart => exact ⟨0, by omega, rfl, Below.refl _ _⟩
            case round =>
              obtain ⟨r, hr, rfl, hbr⟩ := hrel
              obtain ⟨w6, hw6⟩ : ∃ x : World, x = wr := ⟨_, rfl⟩
              subst hw6
              have HBR := Lib.hid hbr
              have HL6 := Lib.hid (SlAt.imp HLA.out fun _ _ _ _ => ItAt.mono (cw_next hbr))
              have HS6 := Lib.hid (HSA.out.next hbr)
              have HB6 := Lib.hid (HBA.out.trans (hbr.mono HBA.out.size))
              clear hbr
              by_cases hlr : r < PT.length
              · have hlr' : (r : Int) < (PT.length : Int) := by omega
                have h0r : (0 : Int) ≤ (r : Int) := by omega
                obtain ⟨gi, oi, hvi, hfi⟩ := its6_at HL6.out hlr
                cases hvi
                have hst := HPART.out PT[r] (List.getElem_mem hlr)
                obtain ⟨t, ht⟩ : ∃ t, Hid (PT[r] = t) := ⟨_, Lib.hid rfl⟩
                rw [ht.out] at hfi hst
                have HST := Lib.hid hst
                obtain ⟨la, ka, aa, ta, ea, lc, kc, ac, tc, ec, hrest⟩ := it_open hfi
                have HCE := Lib.hid hrest.1
                clear hfi hrest hst
                have HI0 : Hid (BoxAt (w6.alloc (.cells #[.int .i64 0, .int .i64 0, .slice none 0 0, .string ⟨#[]⟩, .string ⟨#[]⟩, .int .i64 0, .int .i64 0, .string ⟨#[]⟩, .slice none 0 0, .bool false, .slice none 0 0, .slice none 0 0, .slice none 0 0, .int .i64 0, .int .i64 0, .bool false] 76)) w6.heap.size [.int .i64 0, .int .i64 0, .slice none 0 0, .string ⟨#[]⟩, .string ⟨#[]⟩, .int .i64 0, .int .i64 0, .string ⟨#[]⟩, .slice none 0 0, .bool false, .slice none 0 0, .slice none 0 0, .slice none 0 0, .int .i64 0, .int .i64 0, .bool false]) := Lib.hid (box_new w6 #[.int .i64 0, .int .i64 0, .slice none 0 0, .string ⟨#[]⟩, .string ⟨#[]⟩, .int .i64 0, .int .i64 0, .string ⟨#[]⟩, .slice none 0 0, .bool false, .slice none 0 0, .slice none 0 0, .slice none 0 0, .int .i64 0, .int .i64 0, .bool false] 76)
                have HF0 : Hid (Free (w6.alloc (.cells #[.int .i64 0, .int .i64 0, .slice none 0 0, .string ⟨#[]⟩, .string ⟨#[]⟩, .int .i64 0, .int .i64 0, .string ⟨#[]⟩, .slice none 0 0, .bool false, .slice none 0 0, .slice none 0 0, .slice none 0 0, .int .i64 0, .int .i64 0, .bool false] 76)) w6.heap.size) := Lib.hid (fun j => by simp [go_sem])
                have hzi := World.size_alloc w6 (.cells #[.int .i64 0, .int .i64 0, .slice none 0 0, .string ⟨#[]⟩, .string ⟨#[]⟩, .int .i64 0, .int .i64 0, .string ⟨#[]⟩, .slice none 0 0, .bool false, .slice none 0 0, .slice none 0 0, .slice none 0 0, .int .i64 0, .int .i64 0, .bool false] 76)
                go_upto_region 25 with (first | refine wpList_load_mid rfl 76 (.tmp 98) rfl gi (oi + r * 16) rfl [.int .i64 t.s.id, .int .i64 t.s.kind, .slice la t.s.labels.length lc, .string t.s.nm, .string t.s.proc, .int .i64 t.s.x.op, .int .i64 t.s.x.n, .string t.s.x.nm, .slice ka t.s.x.ks.length kc, .bool t.s.has, .slice aa t.s.args.length ac, .slice ta t.s.thn.length tc, .slice ea t.s.els.length ec, .int .i64 t.deep, .int .i64 t.inn, .bool t.els] _ (fun j v hv => HCE.out j v hv) Try.underlying76 rfl (by kernel_rfl) ?_ | refine wpList_store_mid rfl 76 (.tmp 15) (.tmp 99) rfl w6.heap.size 0 #[.int .i64 t.s.id, .int .i64 t.s.kind, .slice la t.s.labels.length lc, .string t.s.nm, .string t.s.proc, .int .i64 t.s.x.op, .int .i64 t.s.x.n, .string t.s.x.nm, .slice ka t.s.x.ks.length kc, .bool t.s.has, .slice aa t.s.args.length ac, .slice ta t.s.thn.length tc, .slice ea t.s.els.length ec, .int .i64 t.deep, .int .i64 t.inn, .bool t.els] rfl rfl (box_there (n := 16) HI0.out HF0.out (by simp)) (by kernel_rfl) (by simp [Value.oneCell']) ?_)
                refine cut_world (fun wx => Below w6.heap.size w6 wx ∧ BoxAt wx w6.heap.size [.int .i64 t.s.id, .int .i64 t.s.kind, .slice la t.s.labels.length lc, .string t.s.nm, .string t.s.proc, .int .i64 t.s.x.op, .int .i64 t.s.x.n, .string t.s.x.nm, .slice ka t.s.x.ks.length kc, .bool t.s.has, .slice aa t.s.args.length ac, .slice ta t.s.thn.length tc, .slice ea t.s.els.length ec, .int .i64 t.deep, .int .i64 t.inn, .bool t.els]) ⟨setCells_below _ _ (boxed w6 _) (Nat.le_refl _), box_over (old := [.int .i64 0, .int .i64 0, .slice none 0 0, .string ⟨#[]⟩, .string ⟨#[]⟩, .int .i64 0, .int .i64 0, .string ⟨#[]⟩, .slice none 0 0, .bool false, .slice none 0 0, .slice none 0 0, .slice none 0 0, .int .i64 0, .int .i64 0, .bool false]) (xs := [.int .i64 t.s.id, .int .i64 t.s.kind, .slice la t.s.labels.length lc, .string t.s.nm, .string t.s.proc, .int .i64 t.s.x.op, .int .i64 t.s.x.n, .string t.s.x.nm, .slice ka t.s.x.ks.length kc, .bool t.s.has, .slice aa t.s.args.length ac, .slice ta t.s.thn.length tc, .slice ea t.s.els.length ec, .int .i64 t.deep, .int .i64 t.inn, .bool t.els]) (rest := []) HI0.out HF0.out rfl⟩ ?_
                clear hzi HI0 HF0
                rintro w7' ⟨hb7', ht7⟩
                have t1 := ht7 1 _ rfl
                have t3 := ht7 3 _ rfl
                have HS7 := Lib.hid (HS6.out.next hb7')
                have HBR7 := Lib.hid (HBR.out.trans (hb7'.mono HBR.out.size))
                clear hb7' ht7
                by_cases h10 : t.s.kind = 10
                · have hb10 : (t.s.kind == 10) = true := by rw [h10]; rfl
                  have HGT := Lib.hid (HGOTO.out t.s HST.out h10)
                  clear h10
                  go_wp2_with fail
                  refine (in_any LL _ t.s.nm _ HS7.out).mono ?_
                  rw [show (at_ t.s.nm LL).isSome = true from HGT.out]
                  rintro e w' ⟨rfl, rfl⟩
                  go_wp2_with fail
                  go_roundw
                  case rel => exact ⟨r + 1, by omega, by go_num, HBR7.out⟩
                  case measure => simp [intOf]; omega
                · have hb10 : (t.s.kind == 10) = false := by simpa using h10
                  clear h10
                  go_wp2_with fail
                  go_roundw
                  case rel => exact ⟨r + 1, by omega, by go_num, HBR7.out⟩
                  case measure => simp [intOf]; omega
              · have hlr' : ¬ (r : Int) < (PT.length : Int) := by omega
                go_wp2_with fail
                go_ret
                exact ⟨rfl, HB6.out⟩
      · have hj1 : (JC == 0) = false := by simpa using hj
        have hj2 : (JC != 0) = true := by rw [bne, hj1]; rfl
        have HJ0 := Lib.hid hj
        clear hj
        go_wp2_with fail
        go_ret
        exact ⟨rfl, HB5.out⟩
    · have hz1 : (SC == 0) = false := by simpa using hz
      have hz2 : (SC != 0) = true := by rw [bne, hz1]; rfl
      have HZ := Lib.hid hz
      clear hz
      go_wp2_with fail
      go_ret
      exact ⟨rfl, HB4.out⟩
end Go.Proofs.Ytghlmengcidmdaa.Tr
end
