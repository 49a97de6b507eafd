/- Parts of IdsW, FittingW, ArityAllW: walks and plain laws that later texts use. Conditions: as each statement says. -/
import Derived.Test.YtghlmengcidmdaaSa0
import Derived.Test.YtghlmengcidmdaaSa1
import Derived.Test.YtghlmengcidmdaaSa10
import Derived.Test.YtghlmengcidmdaaSa11
import Derived.Test.YtghlmengcidmdaaSa12
import Derived.Test.YtghlmengcidmdaaSa13
import Derived.Test.YtghlmengcidmdaaSa14
import Derived.Test.YtghlmengcidmdaaSa15
import Derived.Test.YtghlmengcidmdaaSa16
import Derived.Test.YtghlmengcidmdaaSa17
import Derived.Test.YtghlmengcidmdaaSa18
import Derived.Test.YtghlmengcidmdaaSa19
import Derived.Test.YtghlmengcidmdaaSa2
import Derived.Test.YtghlmengcidmdaaSa20
import Derived.Test.YtghlmengcidmdaaSa21
import Derived.Test.YtghlmengcidmdaaSa22
import Derived.Test.YtghlmengcidmdaaSa23
import Derived.Test.YtghlmengcidmdaaSa24
import Derived.Test.YtghlmengcidmdaaSa25
import Derived.Test.YtghlmengcidmdaaSa26
import Derived.Test.YtghlmengcidmdaaSa27
import Derived.Test.YtghlmengcidmdaaSa28
import Derived.Test.YtghlmengcidmdaaSa29
import Derived.Test.YtghlmengcidmdaaSa3
import Derived.Test.YtghlmengcidmdaaSa30
import Derived.Test.YtghlmengcidmdaaSa31
import Derived.Test.YtghlmengcidmdaaSa32
import Derived.Test.YtghlmengcidmdaaSa33
import Derived.Test.YtghlmengcidmdaaSa34
import Derived.Test.YtghlmengcidmdaaSa35
import Derived.Test.YtghlmengcidmdaaSa36
import Derived.Test.YtghlmengcidmdaaSa37
import Derived.Test.YtghlmengcidmdaaSa38
import Derived.Test.YtghlmengcidmdaaSa39
import Derived.Test.YtghlmengcidmdaaSa4
import Derived.Test.YtghlmengcidmdaaSa40
import Derived.Test.YtghlmengcidmdaaSa5
import Derived.Test.YtghlmengcidmdaaSa6
import Derived.Test.YtghlmengcidmdaaSa7
import Derived.Test.YtghlmengcidmdaaSa8
import Derived.Test.YtghlmengcidmdaaSa9
import Derived.Test.YtghlmengcidmdaaSg0
import Derived.Test.YtghlmengcidmdaaSg1
import Derived.OrdersHeld
import Derived.Deep.RegionHeld3
import Derived.Outline
import Derived.RegionTactic
import Derived.Deep.QuietTactic
import Derived.BigQuiet
import Derived.Laws.StructEq
import Derived.Deep.RegionLaw
import Derived.Deep.DeepCutAuto
import Derived.WalkKit
import Derived.Test.YtghlmengcidmdaaRows
import Derived.WalkSpells
import Derived.Lib.Hide
import Derived.Below
import Derived.Laws.BitsAllLaws
import Derived.Maps.Range
import Derived.Lib.SmallJoins
import Derived.Deep.Upon
import Derived.Maps.AppendAt
import Derived.Laws.OwnMore
import Derived.WalkSmall
import Derived.Deep.Slices
import Derived.Deep.Fields
import Derived.SliceStrings
import Derived.ChangeSlices
import Derived.IntWalk
import Derived.StillTailTactics
import Derived.Deep.CutBlock
import Derived.Deep.RegionWith
import Derived.Laws.Cover3
import Derived.OwnWalk
import Derived.OneCell
import Derived.Deep.AppendLies
import Derived.Deep.MidRow
section
/- What Stmt, ProcOf, Ids and Pick of the reference tell. Conditions: what they are handed lies in memory. -/
namespace Go.Proofs.Ytghlmengcidmdaa.Tr
open Go.RowKit Go.Proofs.Ytghlmengcidmdaa.Lx Go.Proofs.Ytghlmengcidmdaa.Wd
set_option linter.unusedSimpArgs false
theorem PrC.le6 {C : Cs} {d e : Nat} {gv pv : Value} {p : Pr} (hde : d ≤ e) (h : PrC C d gv pv p) : PrC C e gv pv p := ⟨h.1, SlAt.imp h.2 fun _ _ _ _ q => PcAt.le q hde⟩
theorem box_part {w : World} {g : Nat} {xs rest : List Value} (h : BoxAt w g (xs ++ rest)) : BoxAt w g xs := fun j u hu => h j u (by rw [List.getElem?_append_left (List.getElem?_eq_some_iff.1 hu).1]; exact hu)
/-- No statement. -/
def zIt : It := ⟨zSt, 0, 0, false⟩
/-- The item, the procedure's name, the statement of an id. -/
def it6 (p : Pr) (id : Int) : It := ((find6 id p.procs).map Prod.fst).getD zIt
def nm6 (p : Pr) (id : Int) : ByteArray := ((find6 id p.procs).map Prod.snd).getD ⟨#[]⟩
def has6 (p : Pr) (id : Int) : Bool := (find6 id p.procs).isSome
theorem zHang (d : Nat) (w : World) : Hang (d + 1) w zSt (.slice none 0 0) (.slice none 0 0) (.slice none 0 0) (.slice none 0 0) (.slice none 0 0) := ⟨StrC.none _, ExC.none _ _, SlAt.nil, SlAt.nil, SlAt.nil⟩
theorem inI0 : InI 0 := by constructor <;> decide
theorem zOk : OkE zSt.x := ⟨inI0, inI0, by decide⟩
def Found7 (B d : Nat) (t : It) (nm : ByteArray) (b : Bool) (w : World) (e : Ending) (w' : World) : Prop := ∃ (la ka aa ta ea : Option Addr) (lc kc ac tc ec : Nat), e = .returned (.tuple #[.agg #[.int .i64 t.s.id, .int .i64 t.s.kind, .slice la t.s.labels.length lc, .string t.s.nm, .string t.s.proc, .int .i64 t.s.x.op, .int .i64 t.s.x.n, .string t.s.x.nm, .slice ka t.s.x.ks.length kc, .bool t.s.has, .slice aa t.s.args.length ac, .slice ta t.s.thn.length tc, .slice ea t.s.els.length ec, .int .i64 t.deep, .int .i64 t.inn, .bool t.els], .string nm, .bool b]) ∧ (∀ w2, Cs.le (lowC B w') (cw w2) → Hang d w2 t.s (.slice la t.s.labels.length lc) (.slice ka t.s.x.ks.length kc) (.slice aa t.s.args.length ac) (.slice ta t.s.thn.length tc) (.slice ea t.s.els.length ec)) ∧ OkE t.s.x ∧ InI t.s.id ∧ InI t.s.kind ∧ t.s.nm.size ≤ 9223372036854775807 ∧ t.s.proc.size ≤ 9223372036854775807 ∧ InI t.deep ∧ InI t.inn ∧ Below w.heap.size w w'
theorem find7_any (B d : Nat) (p : Pr) (gv pv : Value) (id : Int) (w : World) (hBw : B ≤ w.heap.size) (hp : PrC (lowC B w) (d + 1) gv pv p) :
    Calls Try.prog 56 #[.agg #[gv, pv], .int .i64 id] w (Found7 B (d + 1) (it6 p id) (nm6 p id) (has6 p id) w) := by
  refine (find6_any B (d + 1) p gv pv id w hBw hp).mono ?_
  intro e w' h
  unfold it6 nm6 has6
  cases hf : find6 id p.procs with
  | some q =>
    obtain ⟨t, nm⟩ := q
    rw [hf] at h
    exact h
  | none =>
    rw [hf] at h
    obtain ⟨rfl, hb⟩ := h
    exact ⟨none, none, none, none, none, 0, 0, 0, 0, 0, rfl, fun w2 _ => zHang d w2, zOk, inI0, inI0, by decide, by decide, inI0, inI0, hb⟩
/-- A statement that is told. -/
def StTold (d : Nat) (s : St) (w : World) (e : Ending) (w' : World) : Prop := ∃ (la ka aa ta ea : Option Addr) (lc kc ac tc ec : Nat), e = .returned (.agg #[.int .i64 s.id, .int .i64 s.kind, .slice la s.labels.length lc, .string s.nm, .string s.proc, .int .i64 s.x.op, .int .i64 s.x.n, .string s.x.nm, .slice ka s.x.ks.length kc, .bool s.has, .slice aa s.args.length ac, .slice ta s.thn.length tc, .slice ea s.els.length ec]) ∧ Hang d w' s (.slice la s.labels.length lc) (.slice ka s.x.ks.length kc) (.slice aa s.args.length ac) (.slice ta s.thn.length tc) (.slice ea s.els.length ec) ∧ OkE s.x ∧ InI s.id ∧ InI s.kind ∧ s.nm.size ≤ 9223372036854775807 ∧ s.proc.size ≤ 9223372036854775807 ∧ Below w.heap.size w w'
set_option maxHeartbeats 4000000 in
set_option maxRecDepth 100000 in
theorem stmt6_any (d : Nat) (p : Pr) (gv pv : Value) (id : Int) (w : World) (hp : PrC (cw w) (d + 1) gv pv p) :
    Calls Try.prog 23 #[.agg #[gv, pv], .int .i64 id] w (StTold (d + 1) (it6 p id).s w) := by
  obtain ⟨ga, gc, rfl, hgl1, hgl2⟩ := hp.1.form
  obtain ⟨pa, pc, rfl, hl1, hl2⟩ := hp.2.form
  have hpl : p.procs.length ≤ 9223372036854775807 := Nat.le_trans hl1 hl2
  have HP := Lib.hid hp
  clear hp hl1 hl2 hgl1 hgl2
  obtain ⟨t, ht⟩ : ∃ t, Hid (it6 p id = t) := ⟨_, Lib.hid rfl⟩
  obtain ⟨NM, hNM⟩ : ∃ t, Hid (nm6 p id = t) := ⟨_, Lib.hid rfl⟩
  obtain ⟨HS, hHS⟩ : ∃ t, Hid (has6 p id = t) := ⟨_, Lib.hid rfl⟩
  rw [ht.out]
  go_enter Try.func23, Try.ntmps23
  go_upto_region 1 with fail
  refine cut_world (fun wx => Below w.heap.size w wx ∧ wx.heap.size = w.heap.size + 1 + 1 ∧ BoxAt wx w.heap.size [.slice ga p.globals.length gc, .slice pa p.procs.length pc] ∧ BoxAt wx (w.heap.size + 1) [.int .i64 0, .int .i64 0, .slice none 0 0, .string ⟨#[]⟩, .string ⟨#[]⟩, .int .i64 0, .int .i64 0, .string ⟨#[]⟩, .slice none 0 0, .bool false, .slice none 0 0, .slice none 0 0, .slice none 0 0] ∧ Free wx (w.heap.size + 1)) ⟨(boxed w _).alloc (by simp) _, by simp, (box_new w #[.slice ga p.globals.length gc, .slice pa p.procs.length pc] 25).next (boxed _ _), box_two w _ #[.int .i64 0, .int .i64 0, .slice none 0 0, .string ⟨#[]⟩, .string ⟨#[]⟩, .int .i64 0, .int .i64 0, .string ⟨#[]⟩, .slice none 0 0, .bool false, .slice none 0 0, .slice none 0 0, .slice none 0 0] 41, free_two w _ _ _⟩ ?_
  rintro w1 ⟨hb1, hz1', hx1, hr1, hf1⟩
  obtain ⟨R, hR⟩ : ∃ R, R = w.heap.size + 1 := ⟨_, rfl⟩
  rw [← hR] at hr1 hf1
  try rw [← hR]
  have hRw : w.heap.size < R := by omega
  have hR1 : R < w1.heap.size := by omega
  have HB1 := Lib.hid hb1
  have HX1 := Lib.hid hx1
  have HR1 := Lib.hid hr1
  have HF1 := Lib.hid hf1
  have HP1 := Lib.hid (PrC.mono (low_next hb1) (PrC.mono low_all HP.out))
  clear hb1 hx1 hr1 hf1 hz1' hR
  have x0 := HX1.out 0 _ rfl
  have x1 := HX1.out 1 _ rfl
  go_wp2_with fail
  refine (find7_any w.heap.size d p _ _ id _ HB1.out.size HP1.out).mono ?_
  rw [ht.out, hNM.out, hHS.out]
  rintro e w2 ⟨la, ka, aa, ta, ea, lc, kc, ac, tc, ec, rfl, hh2, hok2, i1, i2, i3, i4, i5, i6, hb2⟩
  have HH2 := Lib.hid hh2
  have HOK2 := Lib.hid hok2
  have HJ2 := Lib.hid (And.intro i1 (And.intro i2 (And.intro i3 i4)))
  clear hh2 hok2 i1 i2 i3 i4 i5 i6 x0 x1
  have HR2 := Lib.hid (HR1.out.next hb2)
  have HF2 := Lib.hid (HF1.out.next hR1 hb2)
  have HB2 := Lib.hid (HB1.out.trans (hb2.mono HB1.out.size))
  have hR2 : R < w2.heap.size := by have := hb2.size; omega
  clear hb2
  go_upto_region 2 with fail
  refine cut_world (fun wx => Below w2.heap.size w2 wx ∧ BoxAt wx w2.heap.size [.int .i64 t.s.id, .int .i64 t.s.kind, .slice la t.s.labels.length lc, .string t.s.nm, .string t.s.proc, .int .i64 t.s.x.op, .int .i64 t.s.x.n, .string t.s.x.nm, .slice ka t.s.x.ks.length kc, .bool t.s.has, .slice aa t.s.args.length ac, .slice ta t.s.thn.length tc, .slice ea t.s.els.length ec, .int .i64 t.deep, .int .i64 t.inn, .bool t.els]) ⟨boxed w2 _, box_new w2 #[.int .i64 t.s.id, .int .i64 t.s.kind, .slice la t.s.labels.length lc, .string t.s.nm, .string t.s.proc, .int .i64 t.s.x.op, .int .i64 t.s.x.n, .string t.s.x.nm, .slice ka t.s.x.ks.length kc, .bool t.s.has, .slice aa t.s.args.length ac, .slice ta t.s.thn.length tc, .slice ea t.s.els.length ec, .int .i64 t.deep, .int .i64 t.inn, .bool t.els] 76⟩ ?_
  rintro w3 ⟨hb3, ht3⟩
  have HT3 := Lib.hid ht3
  have HLE3 := Lib.hid (low_next (B := w.heap.size) hb3)
  have HR3 := Lib.hid (HR2.out.next hb3)
  have HF3 := Lib.hid (HF2.out.next hR2 hb3)
  have HB3 := Lib.hid (HB2.out.trans (hb3.mono HB2.out.size))
  have hR3 : R < w3.heap.size := by have := hb3.size; omega
  have hne : R ≠ w2.heap.size := by omega
  clear hb3 ht3
  have hok : Below w.heap.size w (w3.setCells R 0 [.int .i64 t.s.id, .int .i64 t.s.kind, .slice la t.s.labels.length lc, .string t.s.nm, .string t.s.proc, .int .i64 t.s.x.op, .int .i64 t.s.x.n, .string t.s.x.nm, .slice ka t.s.x.ks.length kc, .bool t.s.has, .slice aa t.s.args.length ac, .slice ta t.s.thn.length tc, .slice ea t.s.els.length ec]) := setCells_below _ _ HB3.out (Nat.le_of_lt hRw)
  have hq : BoxAt (w3.setCells R 0 [.int .i64 t.s.id, .int .i64 t.s.kind, .slice la t.s.labels.length lc, .string t.s.nm, .string t.s.proc, .int .i64 t.s.x.op, .int .i64 t.s.x.n, .string t.s.x.nm, .slice ka t.s.x.ks.length kc, .bool t.s.has, .slice aa t.s.args.length ac, .slice ta t.s.thn.length tc, .slice ea t.s.els.length ec]) R [.int .i64 t.s.id, .int .i64 t.s.kind, .slice la t.s.labels.length lc, .string t.s.nm, .string t.s.proc, .int .i64 t.s.x.op, .int .i64 t.s.x.n, .string t.s.x.nm, .slice ka t.s.x.ks.length kc, .bool t.s.has, .slice aa t.s.args.length ac, .slice ta t.s.thn.length tc, .slice ea t.s.els.length ec] := box_over (old := [.int .i64 0, .int .i64 0, .slice none 0 0, .string ⟨#[]⟩, .string ⟨#[]⟩, .int .i64 0, .int .i64 0, .string ⟨#[]⟩, .slice none 0 0, .bool false, .slice none 0 0, .slice none 0 0, .slice none 0 0]) (xs := [.int .i64 t.s.id, .int .i64 t.s.kind, .slice la t.s.labels.length lc, .string t.s.nm, .string t.s.proc, .int .i64 t.s.x.op, .int .i64 t.s.x.n, .string t.s.x.nm, .slice ka t.s.x.ks.length kc, .bool t.s.has, .slice aa t.s.args.length ac, .slice ta t.s.thn.length tc, .slice ea t.s.els.length ec]) (rest := []) HR3.out HF3.out rfl
  have hth : w3.there R 0 13 := box_there (n := 13) HR3.out HF3.out (by simp)
  have HHZ : Hid (Hang (d + 1) (w3.setCells R 0 [.int .i64 t.s.id, .int .i64 t.s.kind, .slice la t.s.labels.length lc, .string t.s.nm, .string t.s.proc, .int .i64 t.s.x.op, .int .i64 t.s.x.n, .string t.s.x.nm, .slice ka t.s.x.ks.length kc, .bool t.s.has, .slice aa t.s.args.length ac, .slice ta t.s.thn.length tc, .slice ea t.s.els.length ec]) t.s (.slice la t.s.labels.length lc) (.slice ka t.s.x.ks.length kc) (.slice aa t.s.args.length ac) (.slice ta t.s.thn.length tc) (.slice ea t.s.els.length ec)) := Lib.hid (HH2.out _ (Cs.le_trans HLE3.out (fun g j u ⟨hg, hu⟩ => setCells_cell hu (by omega))))
  have q0 := hq 0 _ rfl
  have q1 := hq 1 _ rfl
  have q2 := hq 2 _ rfl
  have q3 := hq 3 _ rfl
  have q4 := hq 4 _ rfl
  have q5 := hq 5 _ rfl
  have q6 := hq 6 _ rfl
  have q7 := hq 7 _ rfl
  have q8 := hq 8 _ rfl
  have q9 := hq 9 _ rfl
  have q10 := hq 10 _ rfl
  have q11 := hq 11 _ rfl
  have q12 := hq 12 _ rfl
  go_wp2_with (first | refine wpList_load_mid rfl 41 (.tmp 15) rfl w2.heap.size 0 rfl [.int .i64 t.s.id, .int .i64 t.s.kind, .slice la t.s.labels.length lc, .string t.s.nm, .string t.s.proc, .int .i64 t.s.x.op, .int .i64 t.s.x.n, .string t.s.x.nm, .slice ka t.s.x.ks.length kc, .bool t.s.has, .slice aa t.s.args.length ac, .slice ta t.s.thn.length tc, .slice ea t.s.els.length ec] _ (fun j v hv => by rw [Nat.zero_add]; exact box_part (xs := [.int .i64 t.s.id, .int .i64 t.s.kind, .slice la t.s.labels.length lc, .string t.s.nm, .string t.s.proc, .int .i64 t.s.x.op, .int .i64 t.s.x.n, .string t.s.x.nm, .slice ka t.s.x.ks.length kc, .bool t.s.has, .slice aa t.s.args.length ac, .slice ta t.s.thn.length tc, .slice ea t.s.els.length ec]) (rest := [.int .i64 t.deep, .int .i64 t.inn, .bool t.els]) HT3.out j v hv) Try.underlying41 rfl (by kernel_rfl) ?_ | refine wpList_store_mid rfl 41 (.tmp 4) (.tmp 16) rfl R 0 #[.int .i64 t.s.id, .int .i64 t.s.kind, .slice la t.s.labels.length lc, .string t.s.nm, .string t.s.proc, .int .i64 t.s.x.op, .int .i64 t.s.x.n, .string t.s.x.nm, .slice ka t.s.x.ks.length kc, .bool t.s.has, .slice aa t.s.args.length ac, .slice ta t.s.thn.length tc, .slice ea t.s.els.length ec] rfl rfl hth (by kernel_rfl) (by simp [Value.oneCell']) ?_)
  refine bodyPost_ret (v := .agg #[.int .i64 t.s.id, .int .i64 t.s.kind, .slice la t.s.labels.length lc, .string t.s.nm, .string t.s.proc, .int .i64 t.s.x.op, .int .i64 t.s.x.n, .string t.s.x.nm, .slice ka t.s.x.ks.length kc, .bool t.s.has, .slice aa t.s.args.length ac, .slice ta t.s.thn.length tc, .slice ea t.s.els.length ec]) (by simp [results, Try.results23, go_sem, q0, q1, q2, q3, q4, q5, q6, q7, q8, q9, q10, q11, q12]) rfl ?_
  obtain ⟨i1, i2, i3, i4⟩ := HJ2.out
  exact ⟨la, ka, aa, ta, ea, lc, kc, ac, tc, ec, rfl, HHZ.out, HOK2.out, i1, i2, i3, i4, hok⟩
theorem RowN.nil (B : Nat) (w : World) : RowN B w (.slice none 0 0) [] := World.ownsRow_nil _ _ _ _
theorem RowN.next {B : Nat} {w w' : World} {v : Value} {l : List Int} (h : RowN B w v l) (hb : Below w.heap.size w w') : RowN B w' v l := ownsBelow h hb
theorem RowN.lt {B : Nat} {w : World} {v : Value} {l : List Int} (h : RowN B w v l) : ∀ g, v.ownBlock = some g → B ≤ g ∧ g < w.heap.size := World.ownsRow.lt h
theorem RowN.mono {B B' : Nat} {w : World} {v : Value} {l : List Int} (h : RowN B w v l) (hb : B' ≤ B) : RowN B' w v l := Go.Joins.ownsRow_le h hb
theorem RowN.one {B : Nat} {w : World} {v : Value} {l : List Int} {n : Int} (h : w.ownsRow B 3 1 v (l.length + 1) (l.map (Value.int .i64) ++ [.int .i64 n])) : RowN B w v (l ++ [n]) := by
  unfold RowN; simpa using h
theorem RowN.at {B n c : Nat} {w : World} {a : Option Addr} {l : List Int} (h : RowN B w (.slice a n c) l) {k : Nat} (hk : k < l.length) : ∃ g off, a = some ⟨g, off, none⟩ ∧ w.cell? ⟨g, off + k, none⟩ = some (.int .i64 l[k]) := by
  have hown := h
  unfold RowN at hown
  rcases hown.2 with ⟨hv, hn⟩ | ⟨g, cap, cur, hv, h1, h2, h3, h4, h5, h6⟩
  · omega
  · injection hv with e1 e2 e3
    refine ⟨g, 0, e1, ?_⟩
    have := hown.cells (g := g) (by rw [e1]; rfl) k (.int .i64 l[k]) (by rw [List.getElem?_map, List.getElem?_eq_getElem hk]; rfl)
    rw [Addr.add_lit, Nat.zero_add] at this
    rw [Nat.zero_add]
    exact this
theorem one_num (w : World) (s : Int) (T : TypeId) : ∀ (j : Nat) u, ([.int .i64 s] : List Value)[j]? = some u → (w.alloc (.cells #[.int .i64 s] T)).cell? ((⟨w.heap.size, 0, none⟩ : Addr).add j) = some u := by
  intro j u h
  match j, h with
  | 0, h => cases h; rw [Addr.add_lit]; simp [go_sem]
theorem int_cells {s : Int} : ∀ u ∈ [Value.int .i64 s], u.oneCell' = true := by
  intro u hu
  simp at hu
  subst hu; rfl
/-- The ids of the statements of a kind. -/
def isKind (kind : Int) (s : St) : Bool := kind == 0 || s.kind == kind
def idsK (kind : Int) (l : List It) : List Int := (l.filter fun t => isKind kind t.s).map fun t => t.s.id
def idsP (p : Pr) (kind : Int) : List Int := idsK kind (allOf p)
theorem idsK_len (kind : Int) (l : List It) : (idsK kind l).length ≤ l.length := by unfold idsK; rw [List.length_map]; exact List.length_filter_le _ _
theorem idsK_yes {kind : Int} {l : List It} {k : Nat} (hk : k < l.length) (h : isKind kind l[k].s = true) : idsK kind (l.take (k + 1)) = idsK kind (l.take k) ++ [l[k].s.id] := by
  unfold idsK
  rw [List.take_succ_eq_append_getElem hk, List.filter_append, List.map_append, List.filter_cons, if_pos h]
  rfl
theorem idsK_no {kind : Int} {l : List It} {k : Nat} (hk : k < l.length) (h : isKind kind l[k].s = false) : idsK kind (l.take (k + 1)) = idsK kind (l.take k) := by
  unfold idsK
  rw [List.take_succ_eq_append_getElem hk, List.filter_append, List.map_append, List.filter_cons, if_neg (by rw [h]; exact Bool.false_ne_true)]
  simp
def IdsMade (l : List Int) (w : World) (e : Ending) (w' : World) : Prop := ∃ v, e = .returned v ∧ RowN w.heap.size w' v l ∧ Below w.heap.size w w'
set_option maxHeartbeats 4000000 in
set_option maxRecDepth 100000 in
theorem ids_any (d : Nat) (p : Pr) (gv pv : Value) (kind : Int) (w : World) (hp : PrC (cw w) d gv pv p) :
    Calls Try.prog 22 #[.agg #[gv, pv], .int .i64 kind] w (IdsMade (idsP p kind) w) := by
  obtain ⟨i0, hi, hz0, hz1, hz2⟩ := info_parts infoInt
  obtain ⟨ga, gc, rfl, hgl1, hgl2⟩ := hp.1.form
  obtain ⟨pa, pc, rfl, hl1, hl2⟩ := hp.2.form
  have hpl : p.procs.length ≤ 9223372036854775807 := Nat.le_trans hl1 hl2
  have HP := Lib.hid hp
  clear hp hl1 hl2 hgl1 hgl2
  obtain ⟨KK, hKK⟩ : ∃ L, Hid (idsP p kind = L) := ⟨_, Lib.hid rfl⟩
  rw [hKK.out]
  go_enter Try.func22, Try.ntmps22
  go_upto_region 1 with fail
  refine cut_world (fun wx => Below w.heap.size w wx ∧ BoxAt wx w.heap.size [.slice ga p.globals.length gc, .slice pa p.procs.length pc]) ⟨boxed _ _, box_new w #[.slice ga p.globals.length gc, .slice pa p.procs.length pc] 25⟩ ?_
  rintro w1 ⟨hb1, hx1⟩
  have HB1 := Lib.hid hb1
  have HX1 := Lib.hid hx1
  have HP1 := Lib.hid (PrC.mono (cw_next hb1) HP.out)
  clear hb1 hx1
  have x0 := HX1.out 0 _ rfl
  have x1 := HX1.out 1 _ rfl
  go_wp2_with fail
  refine (allOf_any d p _ _ _ HP1.out).mono ?_
  rintro e wK ⟨v, rows, rfl, hrow, hbK⟩
  have hsl := hrow.sl
  have hlen := allOf_len p
  obtain ⟨PT, hPT⟩ : ∃ L, Hid (allOf p = L) := ⟨_, Lib.hid rfl⟩
  have hkk : idsK kind PT = KK := by rw [← hPT.out]; exact hKK.out
  have HKKK := Lib.hid hkk
  clear hkk
  rw [hPT.out] at hsl hlen
  obtain ⟨ia, ic, rfl, hil1, hil2⟩ := hsl.form
  have hil : PT.length ≤ 9223372036854775807 := Nat.le_trans hil1 hil2
  have HLK := Lib.hid hsl
  have HLEN := Lib.hid hlen
  have HBK := Lib.hid (HB1.out.trans (hbK.mono HB1.out.size))
  clear hsl hrow hbK x0 x1 hil1 hil2 hlen
  go_wp2_with fail
  obtain ⟨WK, hWK⟩ : ∃ x : World, x = wK := ⟨_, rfl⟩
  subst hWK
  have hBW : w.heap.size ≤ WK.heap.size := HBK.out.size
  go_loopw [11, 5] (fun i v wr => ∃ (q : Nat) (v0 : Value), q ≤ PT.length ∧ i = .int .i64 q ∧ v = v0 ∧ RowN WK.heap.size wr v0 (idsK kind (PT.take q)) ∧ Below WK.heap.size WK wr) (fun i _ _ => (PT.length - intOf i).toNat)
  case atStart => exact ⟨0, _, by omega, rfl, rfl, RowN.nil _ _, Below.refl _ _⟩
  case round =>
    obtain ⟨q, v0, hq, rfl, rfl, hr9, hbq⟩ := hrel
    obtain ⟨w9, hw9⟩ : ∃ x : World, x = wr := ⟨_, rfl⟩
    subst hw9
    have HBQ9 := Lib.hid hbq
    have HR9 := Lib.hid hr9
    have HL9 := Lib.hid (SlAt.imp HLK.out fun _ _ _ _ => ItAt.mono (cw_next hbq))
    obtain ⟨va, vc, rfl⟩ := ownsForm hr9
    clear hr9 hbq
    by_cases hlq : q < PT.length
    · have hlq' : (q : Int) < (PT.length : Int) := by omega
      have h0q : (0 : Int) ≤ (q : Int) := by omega
      obtain ⟨gi, oi, hvi, hfi⟩ := its6_at HL9.out hlq
      cases hvi
      have hyes := idsK_yes (kind := kind) hlq
      have hno := idsK_no (kind := kind) hlq
      have hlk : (idsK kind (PT.take q)).length ≤ 401 := Nat.le_trans (idsK_len _ _) (by rw [List.length_take]; have := HLEN.out; omega)
      obtain ⟨LK, hLK⟩ : ∃ L, Hid (idsK kind (PT.take q) = L) := ⟨_, Lib.hid rfl⟩
      obtain ⟨t, ht⟩ : ∃ t, Hid (PT[q] = t) := ⟨_, Lib.hid rfl⟩
      rw [ht.out] at hfi
      rw [hLK.out] at hlk
      rw [ht.out, hLK.out] at hyes hno
      have HYES := Lib.hid hyes
      have HNO := Lib.hid hno
      have HRL : Hid (RowN WK.heap.size w9 (.slice va (idsK kind (PT.take q)).length vc) LK) := Lib.hid (by rw [← hLK.out]; exact HR9.out)
      rw [hLK.out] at HRL
      try rw [hLK.out]
      clear HR9 hyes hno
      obtain ⟨la, ka, aa, ta, ea, lc, kc, ac, tc, ec, hrest⟩ := it_open hfi
      have hce := hrest.1
      have HCE := Lib.hid hce
      clear hfi hce hrest
      have HI0 : Hid (BoxAt (w9.alloc (.cells #[.int .i64 0, .int .i64 0, .slice none 0 0, .string ⟨#[]⟩, .string ⟨#[]⟩, .int .i64 0, .int .i64 0, .string ⟨#[]⟩, .slice none 0 0, .bool false, .slice none 0 0, .slice none 0 0, .slice none 0 0, .int .i64 0, .int .i64 0, .bool false] 76)) w9.heap.size [.int .i64 0, .int .i64 0, .slice none 0 0, .string ⟨#[]⟩, .string ⟨#[]⟩, .int .i64 0, .int .i64 0, .string ⟨#[]⟩, .slice none 0 0, .bool false, .slice none 0 0, .slice none 0 0, .slice none 0 0, .int .i64 0, .int .i64 0, .bool false]) := Lib.hid (box_new w9 #[.int .i64 0, .int .i64 0, .slice none 0 0, .string ⟨#[]⟩, .string ⟨#[]⟩, .int .i64 0, .int .i64 0, .string ⟨#[]⟩, .slice none 0 0, .bool false, .slice none 0 0, .slice none 0 0, .slice none 0 0, .int .i64 0, .int .i64 0, .bool false] 76)
      have HF0 : Hid (Free (w9.alloc (.cells #[.int .i64 0, .int .i64 0, .slice none 0 0, .string ⟨#[]⟩, .string ⟨#[]⟩, .int .i64 0, .int .i64 0, .string ⟨#[]⟩, .slice none 0 0, .bool false, .slice none 0 0, .slice none 0 0, .slice none 0 0, .int .i64 0, .int .i64 0, .bool false] 76)) w9.heap.size) := Lib.hid (fun j => by simp [go_sem])
      have hzi := World.size_alloc w9 (.cells #[.int .i64 0, .int .i64 0, .slice none 0 0, .string ⟨#[]⟩, .string ⟨#[]⟩, .int .i64 0, .int .i64 0, .string ⟨#[]⟩, .slice none 0 0, .bool false, .slice none 0 0, .slice none 0 0, .slice none 0 0, .int .i64 0, .int .i64 0, .bool false] 76)
      go_upto_region 5 with (first | refine wpList_load_mid rfl 76 (.tmp 13) rfl gi (oi + q * 16) rfl [.int .i64 t.s.id, .int .i64 t.s.kind, .slice la t.s.labels.length lc, .string t.s.nm, .string t.s.proc, .int .i64 t.s.x.op, .int .i64 t.s.x.n, .string t.s.x.nm, .slice ka t.s.x.ks.length kc, .bool t.s.has, .slice aa t.s.args.length ac, .slice ta t.s.thn.length tc, .slice ea t.s.els.length ec, .int .i64 t.deep, .int .i64 t.inn, .bool t.els] _ (fun j v hv => HCE.out j v hv) Try.underlying76 rfl (by kernel_rfl) ?_ | refine wpList_store_mid rfl 76 (.tmp 7) (.tmp 14) rfl w9.heap.size 0 #[.int .i64 t.s.id, .int .i64 t.s.kind, .slice la t.s.labels.length lc, .string t.s.nm, .string t.s.proc, .int .i64 t.s.x.op, .int .i64 t.s.x.n, .string t.s.x.nm, .slice ka t.s.x.ks.length kc, .bool t.s.has, .slice aa t.s.args.length ac, .slice ta t.s.thn.length tc, .slice ea t.s.els.length ec, .int .i64 t.deep, .int .i64 t.inn, .bool t.els] rfl rfl (box_there (n := 16) HI0.out HF0.out (by simp)) (by kernel_rfl) (by simp [Value.oneCell']) ?_)
      refine cut_world (fun wx => Below w9.heap.size w9 wx ∧ BoxAt wx w9.heap.size [.int .i64 t.s.id, .int .i64 t.s.kind, .slice la t.s.labels.length lc, .string t.s.nm, .string t.s.proc, .int .i64 t.s.x.op, .int .i64 t.s.x.n, .string t.s.x.nm, .slice ka t.s.x.ks.length kc, .bool t.s.has, .slice aa t.s.args.length ac, .slice ta t.s.thn.length tc, .slice ea t.s.els.length ec, .int .i64 t.deep, .int .i64 t.inn, .bool t.els]) ⟨setCells_below _ _ (boxed w9 _) (Nat.le_refl _), box_over (old := [.int .i64 0, .int .i64 0, .slice none 0 0, .string ⟨#[]⟩, .string ⟨#[]⟩, .int .i64 0, .int .i64 0, .string ⟨#[]⟩, .slice none 0 0, .bool false, .slice none 0 0, .slice none 0 0, .slice none 0 0, .int .i64 0, .int .i64 0, .bool false]) (xs := [.int .i64 t.s.id, .int .i64 t.s.kind, .slice la t.s.labels.length lc, .string t.s.nm, .string t.s.proc, .int .i64 t.s.x.op, .int .i64 t.s.x.n, .string t.s.x.nm, .slice ka t.s.x.ks.length kc, .bool t.s.has, .slice aa t.s.args.length ac, .slice ta t.s.thn.length tc, .slice ea t.s.els.length ec, .int .i64 t.deep, .int .i64 t.inn, .bool t.els]) (rest := []) HI0.out HF0.out rfl⟩ ?_
      clear hzi HI0 HF0
      rintro wa ⟨hba, hta⟩
      have t0 := hta 0 _ rfl
      have t1 := hta 1 _ rfl
      have HTA := Lib.hid hta
      have HRA := Lib.hid (HRL.out.next hba)
      have HBA := Lib.hid (HBQ9.out.trans (hba.mono HBQ9.out.size))
      have hWa : WK.heap.size ≤ wa.heap.size := HBA.out.size
      clear hba hta
      cases hk : isKind kind t.s with
      | true =>
        have HST := Lib.hid (HYES.out hk)
        have HKK : Hid ((kind == 0) = true ∨ (kind == 0) = false ∧ (t.s.kind == kind) = true) := Lib.hid (by unfold isKind at hk; cases h : (kind == 0) <;> rw [h] at hk <;> simp_all)
        clear hk
        refine HKK.out.elim (fun hk0 => ?_) (fun hk0 => ?_)
        · go_wp2_with (at_builtin; refine wpList_append_lies _ rfl (.tmp 24) (.tmp 28) 33 rfl WK.heap.size 3 i0 (.int .i64 0) 1 8 Try.underlying33 hi hz0 hz1 hz2 rfl (by decide) _ _ _ rfl ((HRA.out.next (boxed _ _))) ⟨_, 0, none⟩ 1 1 [.int .i64 t.s.id] rfl rfl ?c1 int_cells (by decide) ?c3 ?c4 ?c5 _ rfl ?_)
          case c1 => exact one_num _ _ _
          case c3 => unfold maxLen; omega
          case c4 => omega
          case c5 => first | omega | (simp; omega)
          intro g4 cap4 w4 hown4 hg4 hat4 hlt4
          have hgg := (grown_of (boxed wa _) _).trans hg4
          have HR4 := Lib.hid (RowN.one hown4)
          have HG4 := Lib.hid hgg
          clear hown4 hg4 hat4 hlt4 hgg
          go_wp2_with fail
          go_roundw
          case rel =>
            refine ⟨q + 1, _, by omega, by go_num, rfl, ?_, HBA.out.grown HG4.out HBA.out.size fun q hq => ?_⟩
            · rw [HST.out]; exact HR4.out
            · have := (HRA.out.lt q hq).1; omega
          case measure => simp [intOf]; omega
        · obtain ⟨hk0, hk1⟩ := hk0
          go_wp2_with (at_builtin; refine wpList_append_lies _ rfl (.tmp 24) (.tmp 28) 33 rfl WK.heap.size 3 i0 (.int .i64 0) 1 8 Try.underlying33 hi hz0 hz1 hz2 rfl (by decide) _ _ _ rfl ((HRA.out.next (boxed _ _))) ⟨_, 0, none⟩ 1 1 [.int .i64 t.s.id] rfl rfl ?c1 int_cells (by decide) ?c3 ?c4 ?c5 _ rfl ?_)
          case c1 => exact one_num _ _ _
          case c3 => unfold maxLen; omega
          case c4 => omega
          case c5 => first | omega | (simp; omega)
          intro g4 cap4 w4 hown4 hg4 hat4 hlt4
          have hgg := (grown_of (boxed wa _) _).trans hg4
          have HR4 := Lib.hid (RowN.one hown4)
          have HG4 := Lib.hid hgg
          clear hown4 hg4 hat4 hlt4 hgg
          go_wp2_with fail
          go_roundw
          case rel =>
            refine ⟨q + 1, _, by omega, by go_num, rfl, ?_, HBA.out.grown HG4.out HBA.out.size fun q hq => ?_⟩
            · rw [HST.out]; exact HR4.out
            · have := (HRA.out.lt q hq).1; omega
          case measure => simp [intOf]; omega
      | false =>
        have HST := Lib.hid (HNO.out hk)
        have hkk : (kind == 0) = false ∧ (t.s.kind == kind) = false := by unfold isKind at hk; rw [Bool.or_eq_false_iff] at hk; exact hk
        obtain ⟨hk0, hk1⟩ := hkk
        clear hk
        go_wp2_with fail
        go_roundw
        case rel => exact ⟨q + 1, _, by omega, by go_num, rfl, by rw [HST.out]; exact HRA.out, HBA.out⟩
        case measure => simp [intOf]; omega
    · have hlq' : ¬ (q : Int) < (PT.length : Int) := by omega
      have hall : idsK kind (PT.take q) = KK := by rw [List.take_of_length_le (by omega)]; exact HKKK.out
      have hz9 : RowN w.heap.size w9 (.slice va (idsK kind (PT.take q)).length vc) KK := by rw [← hall]; exact HR9.out.mono hBW
      have HZ9 := Lib.hid hz9
      clear hall hz9
      go_wp2_with fail
      go_ret
      exact ⟨_, rfl, HZ9.out, HBK.out.trans (HBQ9.out.mono HBK.out.size)⟩
/-- One of some numbers, by a number. -/
def pickP (l : List Int) (n : Int) : Int := (l[(n % (l.length : Int)).toNat]?).getD 0
theorem pick_some {l : List Int} {n : Int} (hk : 0 < l.length) : pickP l n = l[(n % (l.length : Int)).toNat]'(mod_at hk).1 := by
  unfold pickP
  rw [List.getElem?_eq_getElem (mod_at hk).1]
  rfl
theorem pick_none {l : List Int} {n : Int} (hk : l.length = 0) : pickP l n = 0 := by
  unfold pickP
  rw [List.getElem?_eq_none (by omega)]
  rfl
set_option maxHeartbeats 2000000 in
set_option maxRecDepth 100000 in
theorem pick_any (B : Nat) (l : List Int) (v : Value) (n : Int) (w : World) (hr : RowN B w v l) (hn1 : -9223372036854775808 ≤ n) (hn2 : n ≤ 9223372036854775807) (hm : l.length ≤ 1000000) :
    Calls Try.prog 21 #[v, .int .i64 n] w fun e w' => e = .returned (.int .i64 (pickP l n)) ∧ Below w.heap.size w w' := by
  obtain ⟨a, c, rfl⟩ := ownsForm hr
  have HR := Lib.hid hr
  clear hr
  obtain ⟨KK, hKK⟩ : ∃ s, Hid (pickP l n = s) := ⟨_, Lib.hid rfl⟩
  rw [hKK.out]
  go_enter Try.func21, Try.ntmps21
  by_cases hz : l.length = 0
  · have hs : KK = 0 := by rw [← hKK.out]; exact pick_none hz
    have hz1 : ((l.length : Int) == 0) = true := by rw [hz]; rfl
    have HZ := Lib.hid hz
    subst hs
    clear hz
    go_wp2_with fail
    go_ret
    exact ⟨rfl, Below.refl _ _⟩
  · have hz1 : ((l.length : Int) == 0) = false := by simpa using hz
    have hpos : 0 < l.length := by omega
    obtain ⟨m, hmm⟩ : ∃ m, m = (n % (l.length : Int)).toNat := ⟨_, rfl⟩
    have hlt : m < l.length := by rw [hmm]; exact (mod_at hpos).1
    have hmi : n % (l.length : Int) = (m : Int) := by rw [hmm]; exact (mod_at hpos).2
    have hs : KK = l[m] := by rw [← hKK.out, pick_some hpos]; subst hmm; rfl
    have hlt' : (m : Int) < (l.length : Int) := by omega
    have h0m : (0 : Int) ≤ (m : Int) := by omega
    have hk1 : (1 : Int) ≤ (l.length : Int) := by omega
    have hk2 : (l.length : Int) ≤ 1000000 := by omega
    have HS := Lib.hid hs
    have HMI := Lib.hid hmi
    obtain ⟨g, off, hvp, e0⟩ := HR.out.at hlt
    cases hvp
    clear hs hmi hmm hz
    go_wp2_with fail
    refine (mod_any n (l.length : Int) (m : Int) _ hn1 hn2 hk1 hk2 HMI.out).mono ?_
    rintro e w2 ⟨rfl, rfl⟩
    go_wp2_with fail
    go_ret
    exact ⟨by rw [HS.out]; rfl, Below.refl _ _⟩
end Go.Proofs.Ytghlmengcidmdaa.Tr
end
section
/- What fitting of the laws on arity tells: true. Conditions: none. -/
namespace Go.Proofs.Ytghlmengcidmdaa.Tr
open Go.RowKit Go.Proofs.Ytghlmengcidmdaa.Lx Go.Proofs.Ytghlmengcidmdaa.Wd
theorem fault_diff (a b : Int) (w : World) : (binOp .neq 30 (.agg #[.int .i64 a, .int .i64 b]) (.agg #[.int .i64 a, .int .i64 b])).run Try.prog w = .ok (.bool false) w := by
  simp only [go_sem]
  simp [go_sem]
/-- The call in the program that some told. -/
def sS2 : St := .mk 2 4 [] sG sP eNone false [.mk false noT (eNum 3), .mk true sV eNone] [] []
def sF1 : Pc := ⟨sMain, [], [sV], someMain, []⟩
theorem some_p0 : someP.procs[0]'(by decide) = sF1 := rfl
theorem some_b1 : sF1.body[1]'(by decide) = sS2 := rfl
theorem some_fit : (decide ((scopeP someP).1 = 0) && fitsP someP sS2) = true := by kernel_rfl
theorem none_arity : arityP ⟨[], []⟩ = (1, 0) := by kernel_rfl
theorem Hang.le {d e : Nat} {w : World} {s : St} {lv kv av tv ev : Value} (h : Hang d w s lv kv av tv ev) (hde : d ≤ e) : Hang e w s lv kv av tv ev := ⟨h.lab, h.kid.le hde, SlAt.imp h.arg (fun _ _ _ _ q => ArAt.le q hde), StC.le h.thn hde, StC.le h.els hde⟩
theorem sts_open {C : Cs} {d : Nat} {a : Option Addr} {n c : Nat} {l : List St} (h : StC C (d + 1) (.slice a n c) l) {k : Nat} (hk : k < l.length) : ∃ g off, a = some ⟨g, off, none⟩ ∧ StAt C d (StC C d) g (off + k * 13) l[k] := by
  have hne : l ≠ [] := by intro h; rw [h] at hk; simp at hk
  obtain ⟨g, off, cap', hv, _, hcells⟩ := SlAt.cells h hne
  simp only [Value.slice.injEq] at hv
  exact ⟨g, off, hv.1, hcells k hk⟩
set_option maxHeartbeats 2000000 in
set_option maxRecDepth 100000 in
theorem fitting_any (w : World) : Calls Try.prog 16 #[] w fun e w' => e = .returned (.bool true) ∧ Below w.heap.size w w' := by
  go_enter Try.func16, Try.ntmps16
  go_wp2_with fail
  refine (some_any _).mono ?_
  rintro e w1 ⟨gv, pv, rfl, hp, hb1⟩
  obtain ⟨ga, gc, rfl, -, -⟩ := hp.1.form
  obtain ⟨pa, pc, rfl, -, -⟩ := hp.2.form
  have HP1 := Lib.hid hp
  have HB1 := Lib.hid hb1
  clear hp hb1
  go_upto_region 2 with fail
  refine cut_world (fun wx => Below w1.heap.size w1 wx ∧ BoxAt wx w1.heap.size [.slice ga someP.globals.length gc, .slice pa someP.procs.length pc]) ⟨boxed w1 _, box_new w1 #[.slice ga someP.globals.length gc, .slice pa someP.procs.length pc] 25⟩ ?_
  rintro w2 ⟨hb2, hx2⟩
  have HX2 := Lib.hid hx2
  have HP2 := Lib.hid (PrC.mono (cw_next hb2) HP1.out)
  have HB2 := Lib.hid (HB1.out.trans (hb2.mono HB1.out.size))
  clear hb2 hx2
  have x1 : w2.cell? ⟨w1.heap.size, 1, none⟩ = some (.slice pa 2 pc) := HX2.out 1 _ rfl
  obtain ⟨g, off, hvp, qv, vv, bv, fv, p0, p1, p2, p3, p4, hnm, hps, hvs, hbody, hfin⟩ := procs_at HP2.out.2 (k := 0) (by decide)
  cases hvp
  rw [some_p0] at p0 hnm hps hvs hbody hfin
  obtain ⟨ba, bc, rfl, -, -⟩ := hbody.form
  have e3 : w2.cell? ⟨g, off + 3, none⟩ = some (.slice ba 4 bc) := p3
  obtain ⟨gb, ob, hvb, hst⟩ := sts_open hbody (k := 1) (by decide)
  cases hvb
  rw [some_b1] at hst
  obtain ⟨la, ka, aa, ta, ea, lc, kc, ac, tc, ec, hce, hha, -⟩ := st_open hst
  have HCE := Lib.hid hce
  have HHA := Lib.hid (hha w2 (fun _ _ _ h => h))
  clear p0 p1 p2 p3 p4 hnm hps hvs hbody hfin hst hce hha
  go_upto_region 3 with (refine wpList_load_mid rfl 41 (.tmp 9) rfl gb (ob + 13) rfl [.int .i64 sS2.id, .int .i64 sS2.kind, .slice la sS2.labels.length lc, .string sS2.nm, .string sS2.proc, .int .i64 sS2.x.op, .int .i64 sS2.x.n, .string sS2.x.nm, .slice ka sS2.x.ks.length kc, .bool sS2.has, .slice aa sS2.args.length ac, .slice ta sS2.thn.length tc, .slice ea sS2.els.length ec] _ (fun j v hv => HCE.out j v hv) Try.underlying41 rfl (by kernel_rfl) ?_)
  refine cut_world (fun wx => Below w2.heap.size w2 wx ∧ BoxAt wx w2.heap.size [.int .i64 sS2.id, .int .i64 sS2.kind, .slice la sS2.labels.length lc, .string sS2.nm, .string sS2.proc, .int .i64 sS2.x.op, .int .i64 sS2.x.n, .string sS2.x.nm, .slice ka sS2.x.ks.length kc, .bool sS2.has, .slice aa sS2.args.length ac, .slice ta sS2.thn.length tc, .slice ea sS2.els.length ec]) ⟨boxed w2 _, box_new w2 #[.int .i64 sS2.id, .int .i64 sS2.kind, .slice la sS2.labels.length lc, .string sS2.nm, .string sS2.proc, .int .i64 sS2.x.op, .int .i64 sS2.x.n, .string sS2.x.nm, .slice ka sS2.x.ks.length kc, .bool sS2.has, .slice aa sS2.args.length ac, .slice ta sS2.thn.length tc, .slice ea sS2.els.length ec] 41⟩ ?_
  rintro w3 ⟨hb3, ht3⟩
  have HT3 := Lib.hid ht3
  have HX3 := Lib.hid (HX2.out.next hb3)
  have HP3 := Lib.hid (PrC.mono (cw_next hb3) HP2.out)
  have HH3 := Lib.hid (HHA.out.next hb3)
  have HB3 := Lib.hid (HB2.out.trans (hb3.mono HB2.out.size))
  clear hb3 ht3 x1 e3
  have x0 := HX3.out 0 _ rfl
  have x1 := HX3.out 1 _ rfl
  go_wp2_with (refine wpList_load_mid rfl 41 (.tmp 2) rfl w2.heap.size 0 rfl [.int .i64 sS2.id, .int .i64 sS2.kind, .slice la sS2.labels.length lc, .string sS2.nm, .string sS2.proc, .int .i64 sS2.x.op, .int .i64 sS2.x.n, .string sS2.x.nm, .slice ka sS2.x.ks.length kc, .bool sS2.has, .slice aa sS2.args.length ac, .slice ta sS2.thn.length tc, .slice ea sS2.els.length ec] _ (fun j v hv => by rw [Nat.zero_add]; exact HT3.out j v hv) Try.underlying41 rfl (by kernel_rfl) ?_)
  refine (sFits_any 3 someP _ _ sS2 la ka aa ta ea lc kc ac tc ec _ HP3.out (Hang.le HH3.out (by omega)) (RoomP.of (Nat.le_trans some_wt6 (by decide)))).mono ?_
  rw [some_fit]
  rintro e w4 ⟨rfl, hb4⟩
  have HB4 := Lib.hid (HB3.out.trans (hb4.mono HB3.out.size))
  clear hb4 x0 x1
  go_wp2_with fail
  refine (scheckA_any 3 ⟨[], []⟩ _ _ _ ⟨SlAt.nil, SlAt.nil⟩ (RoomP.of (by unfold wtPr wtTs; simp))).mono ?_
  rw [none_arity]
  rintro e w5 ⟨rfl, hb5⟩
  have HB5 := Lib.hid (HB4.out.trans (hb5.mono HB4.out.size))
  clear hb5
  have heq := fault_same 1 0
  go_wp2_with fail
  go_ret
  exact ⟨rfl, HB5.out⟩
end Go.Proofs.Ytghlmengcidmdaa.Tr
end
section
/- The law ArityAll, walked: it returns true. Conditions: the arguments lie in memory. -/
namespace Go.Proofs.Ytghlmengcidmdaa.Tr
open Go.RowKit Go.Proofs.Ytghlmengcidmdaa.Lx Go.Proofs.Ytghlmengcidmdaa.Wd
set_option linter.unusedSimpArgs false
set_option maxHeartbeats 4000000 in
set_option maxRecDepth 100000 in
theorem law_arityAll {w : World} (d : Nat) (p : Pr) (gv pv : Value) (hp : PrC (cw w) d gv pv p) (n : Int) (hn0 : (Lit.int .i64 n).wf = true) :
    Calls Try.prog 3 #[.agg #[gv, pv], .int .i64 n] w fun e w' => e = .returned (.bool true) ∧ Below w.heap.size w w' := by
  obtain ⟨ga, gc, rfl, -, -⟩ := hp.1.form
  obtain ⟨pa, pc, rfl, hpl1, hpl2⟩ := hp.2.form
  have hpl : p.procs.length ≤ 9223372036854775807 := Nat.le_trans hpl1 hpl2
  have HP := Lib.hid hp
  clear hp hpl1 hpl2
  have hn : InI n := wf_in hn0
  clear hn0
  go_enter Try.func3, Try.ntmps3
  go_upto_region 1 with fail
  refine cut_world (fun wx => Below w.heap.size w wx ∧ BoxAt wx w.heap.size [.slice ga p.globals.length gc, .slice pa p.procs.length pc]) ⟨boxed _ _, box_new w #[.slice ga p.globals.length gc, .slice pa p.procs.length pc] 25⟩ ?_
  rintro w1 ⟨hb1, hx1⟩
  have HB1 := Lib.hid hb1
  have HX1 := Lib.hid hx1
  have HP1 := Lib.hid (PrC.mono (cw_next hb1) HP.out)
  clear hb1 hx1
  have p0 := HX1.out 0 _ rfl
  have p1 := HX1.out 1 _ rfl
  go_wp2_with fail
  refine (fitting_any _).mono ?_
  rintro e w2 ⟨rfl, hb2⟩
  have HX2 := Lib.hid (HX1.out.next hb2)
  have HP2 := Lib.hid (PrC.mono (cw_next hb2) HP1.out)
  have HB2 := Lib.hid (HB1.out.trans (hb2.mono HB1.out.size))
  clear hb2
  clear p0 p1
  have p0 := HX2.out 0 _ rfl
  have p1 := HX2.out 1 _ rfl
  go_wp2_with fail
  refine (fits_any d p _ _ _ HP2.out).mono ?_
  rintro e w3 ⟨b1, hf1, rfl, hb3⟩
  have HF1 := Lib.hid hf1
  clear hf1
  have HX3 := Lib.hid (HX2.out.next hb3)
  have HP3 := Lib.hid (PrC.mono (cw_next hb3) HP2.out)
  have HB3 := Lib.hid (HB2.out.trans (hb3.mono HB2.out.size))
  clear hb3
  clear p0 p1
  cases b1 with
  | false =>
    have p0 := HX3.out 0 _ rfl
    have p1 := HX3.out 1 _ rfl
    go_wp2_with fail
    go_ret
    exact ⟨rfl, HB3.out⟩
  | true =>
    have HWP := Lib.hid (HF1.out (by simp))
    have HROOM := Lib.hid (RoomP.of (Nat.le_trans HWP.out (by decide)))
    clear HF1
    go_upto_region 5 with fail
    have hq : Below w3.heap.size w3 w3.drew := (Below.refl _ _).drew
    obtain ⟨F1, hF1⟩ : ∃ k, Hid ((arityP p).1 = k) := ⟨_, Lib.hid rfl⟩
    obtain ⟨F2, hF2⟩ : ∃ k, Hid ((arityP p).2 = k) := ⟨_, Lib.hid rfl⟩
    refine wp_region_z (fun w' => BoxAt w' w.heap.size [.slice ga p.globals.length gc, .slice pa p.procs.length pc]) 5 (by kernel_rfl) (HX3.out.next hq) (fun hS => ?_)
    show wpAnyZ _ _ _ _ _ _ 5 #[false, false, false, false, false] _ _
    refine' wpAnyN_take (i := 0) (oi := _) (v := _) rfl (by kernel_rfl) (by kernel_rfl) (by kernel_rfl) (by rfl) (fun _ _ _ h => h) (Or.inl ⟨by rfl, ?hya0⟩) hS ?resta0
    case hya0 => (intro w hSw; have c0 := hSw 0 _ rfl; have c1 := hSw 1 _ rfl; clear hSw; go_simp; (try with_reducible rfl))
    try simp only [Act.put, List.getElem_toArray, List.getElem_cons_succ, List.getElem_cons_zero, List.setIfInBounds_toArray, List.set_cons_zero, List.set_cons_succ]
    refine' wpAnyN_take (i := 2) (oi := _) (v := _) rfl (by kernel_rfl) (by kernel_rfl) (by kernel_rfl) (by rfl) (fun _ _ _ h => h) (Or.inl ⟨by rfl, ?hya2⟩) hS ?resta2
    case hya2 => (intro w hSw; have c0 := hSw 0 _ rfl; have c1 := hSw 1 _ rfl; clear hSw; go_simp; (try with_reducible rfl))
    try simp only [Act.put, List.getElem_toArray, List.getElem_cons_succ, List.getElem_cons_zero, List.setIfInBounds_toArray, List.set_cons_zero, List.set_cons_succ]
    refine' wpAnyZ_step (i := 1) (o := _) rfl (by kernel_rfl) (fun K hK => ?_)
    go_simp
    go_at_call 18
    refine (scheckA_any d p _ _ _ (PrC.mono (cw_next hq) HP3.out) HROOM.out).mono ?_
    rintro e w4 ⟨rfl, hb4⟩
    rw [hF1.out, hF2.out]
    have L4 := Lib.hid (below_then hb4 hq)
    clear hb4
    refine hK _ _ (fun _ => HX3.out.next L4.out) ?_
    clear hK K
    try simp only [Act.put, List.getElem_toArray, List.getElem_cons_succ, List.getElem_cons_zero, List.setIfInBounds_toArray, List.set_cons_zero, List.set_cons_succ]
    refine' wpAnyZ_step (i := 3) (o := _) rfl (by kernel_rfl) (fun K hK => ?_)
    go_simp
    go_at_call 19
    refine (rArity_any d p _ _ _ (PrC.mono (cw_next L4.out) HP3.out) HROOM.out).mono ?_
    rintro e w5 ⟨rfl, hb5⟩
    rw [hF1.out, hF2.out]
    have L5 := Lib.hid (L4.out.trans (hb5.mono L4.out.size))
    clear hb5
    refine hK _ _ (fun _ => HX3.out.next L5.out) ?_
    clear hK K
    try simp only [Act.put, List.getElem_toArray, List.getElem_cons_succ, List.getElem_cons_zero, List.setIfInBounds_toArray, List.set_cons_zero, List.set_cons_succ]
    refine' wpAnyZ_step (i := 4) (o := _) rfl (by kernel_rfl) (fun K hK => ?_)
    have heq := fault_diff F1 F2
    go_simp
    refine hK _ _ (fun _ => HX3.out.next L5.out) ?_
    clear hK K
    try simp only [Act.put, List.getElem_toArray, List.getElem_cons_succ, List.getElem_cons_zero, List.setIfInBounds_toArray, List.set_cons_zero, List.set_cons_succ]
    refine wpAnyZ_done (by kernel_rfl) ?_ _
    have HX5 := Lib.hid (HX3.out.next L5.out)
    have HP5 := Lib.hid (PrC.mono (cw_next L5.out) HP3.out)
    have HB5 := Lib.hid (HB3.out.trans (L5.out.mono HB3.out.size))
    clear hS hq
    have p0 := HX5.out 0 _ rfl
    have p1 := HX5.out 1 _ rfl
    go_wp2_with fail
    refine (mayP_any d p _ _ _ HP5.out).mono ?_
    rintro e w6 ⟨rfl, hb6⟩
    obtain ⟨m1, hm1⟩ : ∃ m, Hid (mayP p = m) := ⟨_, Lib.hid rfl⟩
    rw [hm1.out]
    have HX6 := Lib.hid (HX5.out.next hb6)
    have HP6 := Lib.hid (PrC.mono (cw_next hb6) HP5.out)
    have HB6 := Lib.hid (HB5.out.trans (hb6.mono HB5.out.size))
    clear hb6
    clear p0 p1
    cases m1 with
    | false =>
      go_wp2_with fail
      go_ret
      exact ⟨rfl, HB6.out⟩
    | true =>
      have HP6 := Lib.hid (PrC.le6 (show d ≤ d + 1 by omega) HP6.out)
      have p0 := HX6.out 0 _ rfl
      have p1 := HX6.out 1 _ rfl
      go_wp2_with fail
      refine (ids_any (d + 1) p _ _ 0 _ HP6.out).mono ?_
      rintro e w7 ⟨v7, rfl, hr7, hb7⟩
      have HR7 := Lib.hid hr7
      have hlen : (idsP p 0).length ≤ 1000000 := Nat.le_trans (idsK_len _ _) (Nat.le_trans (allOf_len p) (by omega))
      clear hr7
      have HX7 := Lib.hid (HX6.out.next hb7)
      have HP7 := Lib.hid (PrC.mono (cw_next hb7) HP6.out)
      have HB7 := Lib.hid (HB6.out.trans (hb7.mono HB6.out.size))
      clear hb7
      clear p0 p1
      go_wp2_with fail
      refine (pick_any _ (idsP p 0) _ n _ HR7.out hn.1 hn.2 hlen).mono ?_
      rintro e w8 ⟨rfl, hb8⟩
      obtain ⟨ID, hID⟩ : ∃ k, Hid (pickP (idsP p 0) n = k) := ⟨_, Lib.hid rfl⟩
      rw [hID.out]
      have HX8 := Lib.hid (HX7.out.next hb8)
      have HP8 := Lib.hid (PrC.mono (cw_next hb8) HP7.out)
      have HB8 := Lib.hid (HB7.out.trans (hb8.mono HB7.out.size))
      clear hb8 hlen
      have p0 := HX8.out 0 _ rfl
      have p1 := HX8.out 1 _ rfl
      go_wp2_with fail
      refine (stmt6_any d p _ _ ID _ HP8.out).mono ?_
      rintro e w9 ⟨la, ka, aa, ta, ea, lc, kc, ac, tc, ec, rfl, hh9, hok9, i1, i2, i3, i4, hb9⟩
      obtain ⟨s, hs⟩ : ∃ k, Hid ((it6 p ID).s = k) := ⟨_, Lib.hid rfl⟩
      rw [hs.out] at hh9 i3 i4
      rw [hs.out]
      have HH9 := Lib.hid hh9
      clear hh9 hok9 i1 i2 i3 i4
      have HX9 := Lib.hid (HX8.out.next hb9)
      have HP9 := Lib.hid (PrC.mono (cw_next hb9) HP8.out)
      have HB9 := Lib.hid (HB8.out.trans (hb9.mono HB8.out.size))
      clear hb9
      clear p0 p1
      go_upto_region 11 with fail
      refine cut_world (fun wx => Below w9.heap.size w9 wx ∧ BoxAt wx w9.heap.size [.int .i64 s.id, .int .i64 s.kind, .slice la s.labels.length lc, .string s.nm, .string s.proc, .int .i64 s.x.op, .int .i64 s.x.n, .string s.x.nm, .slice ka s.x.ks.length kc, .bool s.has, .slice aa s.args.length ac, .slice ta s.thn.length tc, .slice ea s.els.length ec]) ⟨boxed w9 _, box_new w9 #[.int .i64 s.id, .int .i64 s.kind, .slice la s.labels.length lc, .string s.nm, .string s.proc, .int .i64 s.x.op, .int .i64 s.x.n, .string s.x.nm, .slice ka s.x.ks.length kc, .bool s.has, .slice aa s.args.length ac, .slice ta s.thn.length tc, .slice ea s.els.length ec] 41⟩ ?_
      rintro wa ⟨hba, hta⟩
      have HTA := Lib.hid hta
      have HHA := Lib.hid (HH9.out.next hba)
      have HXA := Lib.hid (HX9.out.next hba)
      have HPA := Lib.hid (PrC.mono (cw_next hba) HP9.out)
      have HBA := Lib.hid (HB9.out.trans (hba.mono HB9.out.size))
      clear hba hta
      by_cases hz : ID = 0
      · have hz1 : (ID == 0) = true := by simpa using hz
        clear hz
        go_quiet (fail)
        go_wp2_with fail
        go_ret
        exact ⟨rfl, by first | exact below_drewN HBA.out _ | exact HBA.out.drew | exact HBA.out⟩
      · have hz1 : (ID == 0) = false := by simpa using hz
        clear hz
        have hq : Below wa.heap.size wa wa.drew := (Below.refl _ _).drew
        obtain ⟨RES, hRES⟩ : ∃ b, Hid ((decide ((scopeP p).1 = 0) && fitsP p s) = b) := ⟨_, Lib.hid rfl⟩
        have hkk : (RES == RES) = true := by simp
        refine wp_region_z (fun w' => BoxAt w' w.heap.size [.slice ga p.globals.length gc, .slice pa p.procs.length pc] ∧ BoxAt w' w9.heap.size [.int .i64 s.id, .int .i64 s.kind, .slice la s.labels.length lc, .string s.nm, .string s.proc, .int .i64 s.x.op, .int .i64 s.x.n, .string s.x.nm, .slice ka s.x.ks.length kc, .bool s.has, .slice aa s.args.length ac, .slice ta s.thn.length tc, .slice ea s.els.length ec]) 11 (by kernel_rfl) ⟨HXA.out.next hq, HTA.out.next hq⟩ (fun hS => ?_)
        show wpAnyZ _ _ _ _ _ _ 12 #[false, false, false, false, false, false, false, false, false, false, false, false] _ _
        refine' wpAnyZ_take (i := 0) (oi := _) (v := _) rfl (by kernel_rfl) (by kernel_rfl) (by kernel_rfl) (by kernel_rfl) (fun _ _ _ h => h) (Or.inl ⟨by rfl, ?hy0⟩) hS ?rest0
        case hy0 => (intro w hSw; clear hSw; go_simp; (try with_reducible rfl))
        try simp only [Act.put, List.getElem_toArray, List.getElem_cons_succ, List.getElem_cons_zero, List.setIfInBounds_toArray, List.set_cons_zero, List.set_cons_succ]
        refine' wpAnyZ_take (i := 1) (oi := _) (v := _) rfl (by kernel_rfl) (by kernel_rfl) (by kernel_rfl) (by kernel_rfl) (fun _ _ _ h => h) (Or.inl ⟨by rfl, ?hy1⟩) hS ?rest1
        case hy1 => (intro w hSw; clear hSw; go_simp; (try with_reducible rfl))
        try simp only [Act.put, List.getElem_toArray, List.getElem_cons_succ, List.getElem_cons_zero, List.setIfInBounds_toArray, List.set_cons_zero, List.set_cons_succ]
        refine' wpAnyZ_take (i := 2) (oi := _) (v := _) rfl (by kernel_rfl) (by kernel_rfl) (by kernel_rfl) (by kernel_rfl) (fun _ _ _ h => h) (Or.inl ⟨by rfl, ?hy2⟩) hS ?rest2
        case hy2 => (intro w hSw; clear hSw; go_simp; (try with_reducible rfl))
        try simp only [Act.put, List.getElem_toArray, List.getElem_cons_succ, List.getElem_cons_zero, List.setIfInBounds_toArray, List.set_cons_zero, List.set_cons_succ]
        refine' wpAnyZ_take (i := 3) (oi := _) (v := _) rfl (by kernel_rfl) (by kernel_rfl) (by kernel_rfl) (by kernel_rfl) (fun _ _ _ h => h) (Or.inl ⟨by rfl, ?hy3⟩) hS ?rest3
        case hy3 => (intro w hSw; have c0 := hSw.1 0 _ rfl; have c1 := hSw.1 1 _ rfl; clear hSw; go_simp; (try with_reducible rfl))
        try simp only [Act.put, List.getElem_toArray, List.getElem_cons_succ, List.getElem_cons_zero, List.setIfInBounds_toArray, List.set_cons_zero, List.set_cons_succ]
        refine' wpAnyZ_take (i := 4) (oi := _) (v := .agg #[.int .i64 s.id, .int .i64 s.kind, .slice la s.labels.length lc, .string s.nm, .string s.proc, .int .i64 s.x.op, .int .i64 s.x.n, .string s.x.nm, .slice ka s.x.ks.length kc, .bool s.has, .slice aa s.args.length ac, .slice ta s.thn.length tc, .slice ea s.els.length ec]) rfl (by kernel_rfl) (by kernel_rfl) (by kernel_rfl) (by kernel_rfl) (fun _ _ _ h => h) (yieldsIf_load_mid (by rfl) 41 (.tmp 6) rfl w9.heap.size 0 (by rfl) [.int .i64 s.id, .int .i64 s.kind, .slice la s.labels.length lc, .string s.nm, .string s.proc, .int .i64 s.x.op, .int .i64 s.x.n, .string s.x.nm, .slice ka s.x.ks.length kc, .bool s.has, .slice aa s.args.length ac, .slice ta s.thn.length tc, .slice ea s.els.length ec] _ (fun w' hSw j v hv => by rw [Nat.zero_add]; exact hSw.2 j v hv) Try.underlying41 rfl (by kernel_rfl)) hS ?rest4
        try simp only [Act.put, List.getElem_toArray, List.getElem_cons_succ, List.getElem_cons_zero, List.setIfInBounds_toArray, List.set_cons_zero, List.set_cons_succ]
        refine' wpAnyZ_take (i := 6) (oi := _) (v := _) rfl (by kernel_rfl) (by kernel_rfl) (by kernel_rfl) (by kernel_rfl) (fun _ _ _ h => h) (Or.inl ⟨by rfl, ?hy6⟩) hS ?rest6
        case hy6 => (intro w hSw; have c0 := hSw.1 0 _ rfl; have c1 := hSw.1 1 _ rfl; clear hSw; go_simp; (try with_reducible rfl))
        try simp only [Act.put, List.getElem_toArray, List.getElem_cons_succ, List.getElem_cons_zero, List.setIfInBounds_toArray, List.set_cons_zero, List.set_cons_succ]
        refine' wpAnyZ_take (i := 7) (oi := _) (v := .agg #[.int .i64 s.id, .int .i64 s.kind, .slice la s.labels.length lc, .string s.nm, .string s.proc, .int .i64 s.x.op, .int .i64 s.x.n, .string s.x.nm, .slice ka s.x.ks.length kc, .bool s.has, .slice aa s.args.length ac, .slice ta s.thn.length tc, .slice ea s.els.length ec]) rfl (by kernel_rfl) (by kernel_rfl) (by kernel_rfl) (by kernel_rfl) (fun _ _ _ h => h) (yieldsIf_load_mid (by rfl) 41 (.tmp 6) rfl w9.heap.size 0 (by rfl) [.int .i64 s.id, .int .i64 s.kind, .slice la s.labels.length lc, .string s.nm, .string s.proc, .int .i64 s.x.op, .int .i64 s.x.n, .string s.x.nm, .slice ka s.x.ks.length kc, .bool s.has, .slice aa s.args.length ac, .slice ta s.thn.length tc, .slice ea s.els.length ec] _ (fun w' hSw j v hv => by rw [Nat.zero_add]; exact hSw.2 j v hv) Try.underlying41 rfl (by kernel_rfl)) hS ?rest7
        try simp only [Act.put, List.getElem_toArray, List.getElem_cons_succ, List.getElem_cons_zero, List.setIfInBounds_toArray, List.set_cons_zero, List.set_cons_succ]
        refine' wpAnyZ_step (i := 5) (o := _) rfl (by kernel_rfl) (fun K hK => ?_)
        go_simp
        go_at_call 24
        refine (sFits_any (d + 1) p _ _ s la ka aa ta ea lc kc ac tc ec _ (PrC.mono (cw_next hq) HPA.out) (HHA.out.next hq) HROOM.out).mono ?_
        rintro e wb ⟨rfl, hbb⟩
        rw [hRES.out]
        have LB := Lib.hid (below_then hbb hq)
        clear hbb
        refine hK _ _ (fun _ => ⟨HXA.out.next LB.out, HTA.out.next LB.out⟩) ?_
        clear hK K
        try simp only [Act.put, List.getElem_toArray, List.getElem_cons_succ, List.getElem_cons_zero, List.setIfInBounds_toArray, List.set_cons_zero, List.set_cons_succ]
        refine' wpAnyZ_step (i := 8) (o := _) rfl (by kernel_rfl) (fun K hK => ?_)
        go_simp
        go_at_call 25
        refine (rFits_any (d + 1) p _ _ s la ka aa ta ea lc kc ac tc ec _ (PrC.mono (cw_next LB.out) HPA.out) (HHA.out.next LB.out) HROOM.out).mono ?_
        rintro e wc ⟨rfl, hbc⟩
        rw [hRES.out]
        have LC := Lib.hid (LB.out.trans (hbc.mono LB.out.size))
        clear hbc
        refine hK _ _ (fun _ => ⟨HXA.out.next LC.out, HTA.out.next LC.out⟩) ?_
        clear hK K
        try simp only [Act.put, List.getElem_toArray, List.getElem_cons_succ, List.getElem_cons_zero, List.setIfInBounds_toArray, List.set_cons_zero, List.set_cons_succ]
        refine' wpAnyZ_step (i := 9) (o := _) rfl (by kernel_rfl) (fun K hK => ?_)
        go_simp
        refine hK _ _ (fun _ => ⟨HXA.out.next LC.out, HTA.out.next LC.out⟩) ?_
        clear hK K
        try simp only [Act.put, List.getElem_toArray, List.getElem_cons_succ, List.getElem_cons_zero, List.setIfInBounds_toArray, List.set_cons_zero, List.set_cons_succ]
        refine' wpAnyZ_step (i := 10) (o := _) rfl (by kernel_rfl) (fun K hK => ?_)
        go_simp
        refine hK _ _ (fun _ => ⟨HXA.out.next LC.out, HTA.out.next LC.out⟩) ?_
        clear hK K
        try simp only [Act.put, List.getElem_toArray, List.getElem_cons_succ, List.getElem_cons_zero, List.setIfInBounds_toArray, List.set_cons_zero, List.set_cons_succ]
        refine' wpAnyZ_step (i := 11) (o := _) rfl (by kernel_rfl) (fun K hK => ?_)
        go_simp
        refine hK _ _ (fun h => absurd rfl h) ?_
        clear hK K
        try simp only [Act.put, List.getElem_toArray, List.getElem_cons_succ, List.getElem_cons_zero, List.setIfInBounds_toArray, List.set_cons_zero, List.set_cons_succ]
        refine wpAnyZ_done (by kernel_rfl) ?_ _
        have HBZ := Lib.hid (HBA.out.trans (LC.out.mono HBA.out.size))
        clear hS hq
        go_wp2_with fail
        go_ret
        exact ⟨rfl, HBZ.out⟩
end Go.Proofs.Ytghlmengcidmdaa.Tr
end
