/- Parts of ArityP, Find6W, ScopedW, OneP, ArityW, TMod, ProcAtW, IdsW, PutM, PutN: walks and plain laws that later texts use. Conditions: as each statement says. -/
import Derived.Test.YtghlmengcidmdaaJa0
import Derived.Test.YtghlmengcidmdaaJa1
import Derived.Test.YtghlmengcidmdaaJa2
import Derived.Test.YtghlmengcidmdaaJa3
import Derived.Test.YtghlmengcidmdaaJa4
import Derived.Test.YtghlmengcidmdaaJa5
import Derived.Test.YtghlmengcidmdaaJa6
import Derived.Test.YtghlmengcidmdaaJa7
import Derived.Test.YtghlmengcidmdaaJa8
import Derived.Test.YtghlmengcidmdaaJa9
import Derived.Test.YtghlmengcidmdaaJa10
import Derived.Test.YtghlmengcidmdaaJa11
import Derived.Test.YtghlmengcidmdaaJa12
import Derived.Test.YtghlmengcidmdaaJa13
import Derived.Test.YtghlmengcidmdaaJa14
import Derived.Test.YtghlmengcidmdaaJa15
import Derived.Test.YtghlmengcidmdaaJa16
import Derived.Test.YtghlmengcidmdaaJa17
import Derived.Deep.QuietTactic
import Derived.BigQuiet
import Derived.Deep.DeepCutAuto
import Derived.Deep.CutBlock
import Derived.Deep.RegionHeld3
import Derived.IntWalk
import Derived.StillTailTactics
import Derived.Deep.RegionLaw
import Derived.WalkKit
import Derived.Test.YtghlmengcidmdaaRows
import Derived.WalkSpells
import Derived.Lib.Hide
import Derived.Below
import Derived.Laws.BitsAllLaws
import Derived.Outline
import Derived.Laws.StructEq
import Derived.Maps.Range
import Derived.Lib.SmallJoins
import Derived.Deep.Upon
import Derived.Maps.AppendAt
import Derived.Laws.OwnMore
import Derived.Deep.AppendLies
import Derived.Deep.RegionWith
import Derived.Laws.Cover3
import Derived.WalkSmall
import Derived.RegionTactic
import Derived.OrdersHeld
import Derived.OwnWalk
import Derived.OneCell
import Derived.Deep.Slices
import Derived.Deep.Fields
import Derived.SliceStrings
import Derived.ChangeSlices
import Derived.Deep.MidRow
section
/- Calls held against procedures: plain. No program's code. Conditions: none. -/
namespace Go.Proofs.Ytghlmengcidmdaa.Tr
open Go.RowKit Go.Proofs.Ytghlmengcidmdaa.Lx Go.Proofs.Ytghlmengcidmdaa.Wd
/-- All statements of a program, in the order of ids. -/
def allSts (p : Pr) : List St := (p.procs.map stsOf).flatten
end Go.Proofs.Ytghlmengcidmdaa.Tr
end
section
/- What Find, Stmt and ProcOf of the reference tell: a statement by its id, where it stands. Conditions: the program lies in memory. -/
namespace Go.Proofs.Ytghlmengcidmdaa.Tr
open Go.RowKit Go.Proofs.Ytghlmengcidmdaa.Lx Go.Proofs.Ytghlmengcidmdaa.Wd
set_option linter.unusedSimpArgs false
/-- The first statement of an id, as the reference finds it. -/
def find6 (id : Int) : List Pc → Option (It × ByteArray)
  | [] => none
  | f :: r => match (flatOf f).find? (fun i => i.s.id == id) with
    | some i => some (i, f.nm)
    | none => find6 id r
theorem find6_none {id : Int} : ∀ {l : List Pc}, (∀ j (hj : j < l.length), (flatOf l[j]).find? (fun i => i.s.id == id) = none) → find6 id l = none := by
  intro l
  induction l with
  | nil => intro _; rfl
  | cons f r ih =>
    intro h
    have h0 := h 0 (by simp)
    rw [List.getElem_cons_zero] at h0
    rw [find6, h0]
    exact ih fun j hj => by have := h (j + 1) (by simpa using hj); rwa [List.getElem_cons_succ] at this
theorem find6_some {id : Int} : ∀ {l : List Pc} {k : Nat} (hk : k < l.length) {i : It}, (∀ j (hj : j < l.length), j < k → (flatOf l[j]).find? (fun i => i.s.id == id) = none) → (flatOf l[k]).find? (fun i => i.s.id == id) = some i → find6 id l = some (i, l[k].nm) := by
  intro l
  induction l with
  | nil => intro k hk; exact absurd hk (by simp)
  | cons f r ih =>
    intro k hk i h0 h1
    cases k with
    | zero =>
      rw [List.getElem_cons_zero] at h1
      rw [find6, h1]
      rfl
    | succ k =>
      have h2 := h0 0 (by simp) (by omega)
      rw [List.getElem_cons_zero] at h2
      rw [find6, h2]
      rw [List.getElem_cons_succ] at h1
      exact ih (by simpa using hk) (fun j hj hjk => by have := h0 (j + 1) (by simpa using hj) (by omega); rwa [List.getElem_cons_succ] at this) h1
theorem setCells_cell {w : World} {R g j : Nat} {u : Value} {vs : List Value} (h : w.cell? ⟨g, j, none⟩ = some u) (hg : g ≠ R) : (w.setCells R 0 vs).cell? ⟨g, j, none⟩ = some u := by
  rw [World.cell?_setCells_out R vs 0 w ⟨g, j, none⟩ (fun hb _ => absurd hb hg)]
  exact h
theorem setCells_box {w : World} {R g : Nat} {cs vs : List Value} (h : BoxAt w g cs) (hg : R ≠ g) : BoxAt (w.setCells R 0 vs) g cs := fun j u hu => setCells_cell (h j u hu) (Ne.symm hg)
/-- An item of a row whose things hang low. -/
theorem row_open {B d n c : Nat} {w : World} {ia : Option Addr} {l : List It} {rows : List (List Value)} (h : RowT B d w (.slice ia n c) l rows) {q : Nat} (hq : q < l.length) : ∃ g off, ia = some ⟨g, off, none⟩ ∧ ∃ (la ka aa ta ea : Option Addr) (lc kc ac tc ec : Nat),
    (∀ j u, ([.int .i64 l[q].s.id, .int .i64 l[q].s.kind, .slice la l[q].s.labels.length lc, .string l[q].s.nm, .string l[q].s.proc, .int .i64 l[q].s.x.op, .int .i64 l[q].s.x.n, .string l[q].s.x.nm, .slice ka l[q].s.x.ks.length kc, .bool l[q].s.has, .slice aa l[q].s.args.length ac, .slice ta l[q].s.thn.length tc, .slice ea l[q].s.els.length ec, .int .i64 l[q].deep, .int .i64 l[q].inn, .bool l[q].els] : List Value)[j]? = some u → w.cell? ⟨g, off + q * 16 + j, none⟩ = some u)
    ∧ (∀ w', Cs.le (lowC B w) (cw w') → Hang d w' l[q].s (.slice la l[q].s.labels.length lc) (.slice ka l[q].s.x.ks.length kc) (.slice aa l[q].s.args.length ac) (.slice ta l[q].s.thn.length tc) (.slice ea l[q].s.els.length ec)) ∧ OkE l[q].s.x ∧ InI l[q].s.id ∧ InI l[q].s.kind ∧ l[q].s.nm.size ≤ 9223372036854775807 ∧ l[q].s.proc.size ≤ 9223372036854775807 ∧ InI l[q].deep ∧ InI l[q].inn := by
  have hlen := h.len
  have hown := h.own
  rcases h.own.2 with ⟨hv, hn⟩ | ⟨g, cap, cur, hv, h1, h2, h3, h4, h5, h6⟩
  · omega
  · injection hv with e1 e2 e3
    refine ⟨g, 0, e1, ?_⟩
    obtain ⟨kv, lv, av, tv, ev, hc, k1, k2, k3, k4, k5, k6, k7, k8, k9, k10, k11, k12⟩ := h.each q hq (by omega)
    obtain ⟨la, lc, rfl, -, -⟩ := k7.form
    obtain ⟨aa, ac, rfl, -, -⟩ := k8.form
    obtain ⟨ta, tc, rfl, -, -⟩ := k9.form
    obtain ⟨ea, ec, rfl, -, -⟩ := k10.form
    obtain ⟨ka, kc, rfl, -, -⟩ := k2.form
    refine ⟨la, ka, aa, ta, ea, lc, kc, ac, tc, ec, fun j u hu => ?_, fun w' hle => ⟨StrC.mono hle k7, ExC.mono hle k2, SlAt.imp k8 (fun _ _ _ _ => ArAt.mono hle), StC.mono hle k9, StC.mono hle k10⟩, k1, k3, k4, k5, k6, k11, k12⟩
    have := hown.cells (g := g) (by rw [e1]; rfl) (q * 16 + j) u (flat_get rows q j u h.wide (by omega) (by rw [hc]; exact hu))
    rw [Addr.add_lit, Nat.zero_add] at this
    rw [Nat.zero_add]
    exact this
def Found6 (B d : Nat) (r : Option (It × ByteArray)) (w : World) (e : Ending) (w' : World) : Prop := match r with
  | some (t, nm) => ∃ (la ka aa ta ea : Option Addr) (lc kc ac tc ec : Nat), e = .returned (.tuple #[.agg #[.int .i64 t.s.id, .int .i64 t.s.kind, .slice la t.s.labels.length lc, .string t.s.nm, .string t.s.proc, .int .i64 t.s.x.op, .int .i64 t.s.x.n, .string t.s.x.nm, .slice ka t.s.x.ks.length kc, .bool t.s.has, .slice aa t.s.args.length ac, .slice ta t.s.thn.length tc, .slice ea t.s.els.length ec, .int .i64 t.deep, .int .i64 t.inn, .bool t.els], .string nm, .bool true]) ∧ (∀ w2, Cs.le (lowC B w') (cw w2) → Hang d w2 t.s (.slice la t.s.labels.length lc) (.slice ka t.s.x.ks.length kc) (.slice aa t.s.args.length ac) (.slice ta t.s.thn.length tc) (.slice ea t.s.els.length ec)) ∧ OkE t.s.x ∧ InI t.s.id ∧ InI t.s.kind ∧ t.s.nm.size ≤ 9223372036854775807 ∧ t.s.proc.size ≤ 9223372036854775807 ∧ InI t.deep ∧ InI t.inn ∧ Below w.heap.size w w'
  | none => e = .returned (.tuple #[.agg #[.int .i64 0, .int .i64 0, .slice none 0 0, .string ⟨#[]⟩, .string ⟨#[]⟩, .int .i64 0, .int .i64 0, .string ⟨#[]⟩, .slice none 0 0, .bool false, .slice none 0 0, .slice none 0 0, .slice none 0 0, .int .i64 0, .int .i64 0, .bool false], .string ⟨#[]⟩, .bool false]) ∧ Below w.heap.size w w'
set_option maxHeartbeats 8000000 in
set_option maxRecDepth 100000 in
theorem find6_any (B d : Nat) (p : Pr) (gv pv : Value) (id : Int) (w : World) (hBw : B ≤ w.heap.size) (hp : PrC (lowC B w) d gv pv p) :
    Calls Try.prog 56 #[.agg #[gv, pv], .int .i64 id] w (Found6 B d (find6 id p.procs) w) := by
  obtain ⟨ga, gc, rfl, hgl1, hgl2⟩ := hp.1.form
  obtain ⟨pa, pc, rfl, hl1, hl2⟩ := hp.2.form
  have hpl : p.procs.length ≤ 9223372036854775807 := Nat.le_trans hl1 hl2
  have HP := Lib.hid hp
  clear hp hl1 hl2 hgl1 hgl2
  go_enter Try.func56, Try.ntmps56
  go_upto_region 1 with fail
  refine cut_world (fun wx => Below w.heap.size w wx ∧ wx.heap.size = w.heap.size + 1 + 1 ∧ BoxAt wx w.heap.size [.slice ga p.globals.length gc, .slice pa p.procs.length pc] ∧ BoxAt wx (w.heap.size + 1) [.int .i64 0, .int .i64 0, .slice none 0 0, .string ⟨#[]⟩, .string ⟨#[]⟩, .int .i64 0, .int .i64 0, .string ⟨#[]⟩, .slice none 0 0, .bool false, .slice none 0 0, .slice none 0 0, .slice none 0 0, .int .i64 0, .int .i64 0, .bool false] ∧ Free wx (w.heap.size + 1)) ⟨(boxed w _).alloc (by simp) _, by simp, (box_new w #[.slice ga p.globals.length gc, .slice pa p.procs.length pc] 25).next (boxed _ _), box_two w _ #[.int .i64 0, .int .i64 0, .slice none 0 0, .string ⟨#[]⟩, .string ⟨#[]⟩, .int .i64 0, .int .i64 0, .string ⟨#[]⟩, .slice none 0 0, .bool false, .slice none 0 0, .slice none 0 0, .slice none 0 0, .int .i64 0, .int .i64 0, .bool false] 76, free_two w _ _ _⟩ ?_
  rintro w1 ⟨hb1, hz1', hx1, hr1, hf1⟩
  obtain ⟨R, hR⟩ : ∃ R, R = w.heap.size + 1 := ⟨_, rfl⟩
  rw [← hR] at hr1 hf1
  try rw [← hR]
  have hRw : w.heap.size < R := by omega
  have hR1 : R < w1.heap.size := by omega
  have HB1 := Lib.hid hb1
  have HX1 := Lib.hid hx1
  have HR1 := Lib.hid hr1
  have HF1 := Lib.hid hf1
  have HP1 := Lib.hid (PrC.mono (low_next hb1) HP.out)
  clear hb1 hx1 hr1 hf1 hz1' hR
  have x1 := HX1.out 1 _ rfl
  go_wp2_with fail
  clear x1
  go_loopw [14] (fun i wr => ∃ k : Nat, k ≤ p.procs.length ∧ i = .int .i64 k ∧ (∀ j (hj : j < p.procs.length), j < k → (flatOf p.procs[j]).find? (fun i => i.s.id == id) = none) ∧ Below w1.heap.size w1 wr) (fun i _ => (p.procs.length - intOf i).toNat)
  case atStart => exact ⟨0, by omega, rfl, fun j _ h => absurd h (by omega), Below.refl _ _⟩
  case round =>
    obtain ⟨k, hk, rfl, hno, hbr⟩ := hrel
    obtain ⟨w2, hw2⟩ : ∃ x : World, x = wr := ⟨_, rfl⟩
    subst hw2
    have HNO := Lib.hid hno
    have HBR2 := Lib.hid hbr
    have HX2 := Lib.hid (HX1.out.next hbr)
    have HR2 := Lib.hid (HR1.out.next hbr)
    have HF2 := Lib.hid (HF1.out.next hR1 hbr)
    have HB2 := Lib.hid (HB1.out.trans (hbr.mono HB1.out.size))
    have hR2 : R < w2.heap.size := by have := hbr.size; omega
    have HP2 := Lib.hid (PrC.mono (low_next hbr) HP1.out)
    clear hno hbr
    by_cases hlt : k < p.procs.length
    · have hlt' : (k : Int) < (p.procs.length : Int) := by omega
      have h0k : (0 : Int) ≤ (k : Int) := by omega
      obtain ⟨g, off, hvp, qv, vv, bv, fv, p0, p1, p2, p3, p4, hnm, hps, hvs, hbody, hfin⟩ := procs_at HP2.out.2 hlt
      cases hvp
      obtain ⟨f, hf⟩ : ∃ f, Hid (p.procs[k] = f) := ⟨_, Lib.hid rfl⟩
      rw [hf.out] at p0 hnm hps hvs hbody hfin
      obtain ⟨a1, c1, rfl, -, -⟩ := hps.form
      obtain ⟨a2, c2, rfl, -, -⟩ := hvs.form
      obtain ⟨a3, c3, rfl, -, -⟩ := hbody.form
      obtain ⟨a4, c4, rfl, -, -⟩ := hfin.form
      have e0 : w2.cell? ⟨g, off + k * 5, none⟩ = _ := p0.2
      have e1 : w2.cell? ⟨g, off + k * 5 + 1, none⟩ = _ := p1.2
      have e2 : w2.cell? ⟨g, off + k * 5 + 2, none⟩ = _ := p2.2
      have e3 : w2.cell? ⟨g, off + k * 5 + 3, none⟩ = _ := p3.2
      have e4 : w2.cell? ⟨g, off + k * 5 + 4, none⟩ = _ := p4.2
      have HNM := Lib.hid hnm
      have HH1 := Lib.hid hps
      have HH2 := Lib.hid hvs
      have HH3 := Lib.hid hbody
      have HH4 := Lib.hid hfin
      clear p0 p1 p2 p3 p4 hnm hps hvs hbody hfin
      have HK := Lib.hid hf.out
      go_upto_region 4 with fail
      refine cut_world (fun wx => Below w2.heap.size w2 wx ∧ BoxAt wx w2.heap.size [.string f.nm, .slice a1 f.params.length c1, .slice a2 f.vars.length c2, .slice a3 f.body.length c3, .slice a4 f.fin.length c4]) ⟨boxed w2 _, box_new w2 #[.string f.nm, .slice a1 f.params.length c1, .slice a2 f.vars.length c2, .slice a3 f.body.length c3, .slice a4 f.fin.length c4] 55⟩ ?_
      clear e0 e1 e2 e3 e4
      rintro w3 ⟨hb3, hy3⟩
      have HY3 := Lib.hid hy3
      have HX3 := Lib.hid (HX2.out.next hb3)
      have HR3 := Lib.hid (HR2.out.next hb3)
      have HF3 := Lib.hid (HF2.out.next hR2 hb3)
      have HB3 := Lib.hid (HB2.out.trans (hb3.mono HB2.out.size))
      have HBR3 := Lib.hid (HBR2.out.trans (hb3.mono HBR2.out.size))
      have hR3 : R < w3.heap.size := by have := hb3.size; omega
      have HC3 := Lib.hid (StC.mono (low_next hb3) HH3.out)
      clear hb3 hy3
      have y0 := HY3.out 0 _ rfl
      have y1 := HY3.out 1 _ rfl
      have y2 := HY3.out 2 _ rfl
      have y3 := HY3.out 3 _ rfl
      have y4 := HY3.out 4 _ rfl
      go_wp2_with fail
      refine (flatB_any B d f _ _ _ _ _ (Nat.le_trans hBw HB3.out.size) HC3.out).mono ?_
      rintro e w4 ⟨pv4, rows, rfl, hi4, hb4⟩
      obtain ⟨x1, x2, -, hil1, hil2⟩ := hi4.sl.form
      obtain ⟨ia, ic, rfl⟩ := ownsForm hi4.own
      obtain ⟨PT, hPT⟩ : ∃ L, Hid (flatOf f = L) := ⟨_, Lib.hid rfl⟩
      have hil : (flatOf f).length ≤ 9223372036854775807 := Nat.le_trans hil1 hil2
      rw [hPT.out] at hi4 hil
      rw [hPT.out]
      have HI4 := Lib.hid hi4
      have HX4 := Lib.hid (HX3.out.next hb4)
      have HR4 := Lib.hid (HR3.out.next hb4)
      have HF4 := Lib.hid (HF3.out.next hR3 hb4)
      have HB4 := Lib.hid (HB3.out.trans (hb4.mono HB3.out.size))
      have HY4 := Lib.hid (HY3.out.next hb4)
      have HBR4 := Lib.hid (HBR3.out.trans (hb4.mono HBR3.out.size))
      have hR4 : R < w4.heap.size := by have := hb4.size; omega
      clear hi4 hb4 hil1 hil2 y0 y1 y2 y3 y4
      go_wp2_with fail
      obtain ⟨W4, hW4⟩ : ∃ x : World, x = w4 := ⟨_, rfl⟩
      subst hW4
      go_loopw [21] (fun i wr => ∃ q : Nat, q ≤ PT.length ∧ i = .int .i64 q ∧ (∀ j (hj : j < PT.length), j < q → (PT[j].s.id == id) = false) ∧ Below W4.heap.size W4 wr) (fun i _ => (PT.length - intOf i).toNat)
      case atStart => exact ⟨0, by omega, rfl, fun j _ h => absurd h (by omega), Below.refl _ _⟩
      case round =>
        obtain ⟨q, hq, rfl, hnq, hbq⟩ := hrel
        obtain ⟨w5, hw5⟩ : ∃ x : World, x = wr := ⟨_, rfl⟩
        subst hw5
        have HNQ := Lib.hid hnq
        have HBQ5 := Lib.hid hbq
        have HX5 := Lib.hid (HX4.out.next hbq)
        have HR5 := Lib.hid (HR4.out.next hbq)
        have HF5 := Lib.hid (HF4.out.next hR4 hbq)
        have HB5 := Lib.hid (HB4.out.trans (hbq.mono HB4.out.size))
        have HY5 := Lib.hid (HY4.out.next hbq)
        have HBR5 := Lib.hid (HBR4.out.trans (hbq.mono HBR4.out.size))
        have hR5 : R < w5.heap.size := by have := hbq.size; omega
        have HI5 := Lib.hid (HI4.out.next hbq)
        clear hnq hbq
        by_cases hlq : q < PT.length
        · have hlq' : (q : Int) < (PT.length : Int) := by omega
          have h0q : (0 : Int) ≤ (q : Int) := by omega
          obtain ⟨gi, oi, hvi, la, ka, aa, ta, ea, lc, kc, ac, tc, ec, hfi⟩ := row_open HI5.out hlq
          cases hvi
          have hfa := fun h => fst_at hlq (f := fun i : It => i.s.id == id) (fun j hj hjk => HNQ.out j hj hjk) h
          obtain ⟨t, ht⟩ : ∃ t, Hid (PT[q] = t) := ⟨_, Lib.hid rfl⟩
          rw [ht.out] at hfi hfa
          obtain ⟨hce, hha, hok, j1, j2, j3, j4, j5, j6⟩ := hfi
          have HCE := Lib.hid hce
          have HHA := Lib.hid hha
          have HFA := Lib.hid hfa
          have HOK := Lib.hid hok
          have HJ := Lib.hid (And.intro j1 (And.intro j2 (And.intro j3 (And.intro j4 (And.intro j5 j6)))))
          clear hce hha hfa hok j1 j2 j3 j4 j5 j6
          have HI0 : Hid (BoxAt (w5.alloc (.cells #[.int .i64 0, .int .i64 0, .slice none 0 0, .string ⟨#[]⟩, .string ⟨#[]⟩, .int .i64 0, .int .i64 0, .string ⟨#[]⟩, .slice none 0 0, .bool false, .slice none 0 0, .slice none 0 0, .slice none 0 0, .int .i64 0, .int .i64 0, .bool false] 76)) w5.heap.size [.int .i64 0, .int .i64 0, .slice none 0 0, .string ⟨#[]⟩, .string ⟨#[]⟩, .int .i64 0, .int .i64 0, .string ⟨#[]⟩, .slice none 0 0, .bool false, .slice none 0 0, .slice none 0 0, .slice none 0 0, .int .i64 0, .int .i64 0, .bool false]) := Lib.hid (box_new w5 #[.int .i64 0, .int .i64 0, .slice none 0 0, .string ⟨#[]⟩, .string ⟨#[]⟩, .int .i64 0, .int .i64 0, .string ⟨#[]⟩, .slice none 0 0, .bool false, .slice none 0 0, .slice none 0 0, .slice none 0 0, .int .i64 0, .int .i64 0, .bool false] 76)
          have HF0 : Hid (Free (w5.alloc (.cells #[.int .i64 0, .int .i64 0, .slice none 0 0, .string ⟨#[]⟩, .string ⟨#[]⟩, .int .i64 0, .int .i64 0, .string ⟨#[]⟩, .slice none 0 0, .bool false, .slice none 0 0, .slice none 0 0, .slice none 0 0, .int .i64 0, .int .i64 0, .bool false] 76)) w5.heap.size) := Lib.hid (fun j => by simp [go_sem])
          have hzi := World.size_alloc w5 (.cells #[.int .i64 0, .int .i64 0, .slice none 0 0, .string ⟨#[]⟩, .string ⟨#[]⟩, .int .i64 0, .int .i64 0, .string ⟨#[]⟩, .slice none 0 0, .bool false, .slice none 0 0, .slice none 0 0, .slice none 0 0, .int .i64 0, .int .i64 0, .bool false] 76)
          go_upto_region 7 with (first | refine wpList_load_mid rfl 76 (.tmp 23) rfl gi (oi + q * 16) rfl [.int .i64 t.s.id, .int .i64 t.s.kind, .slice la t.s.labels.length lc, .string t.s.nm, .string t.s.proc, .int .i64 t.s.x.op, .int .i64 t.s.x.n, .string t.s.x.nm, .slice ka t.s.x.ks.length kc, .bool t.s.has, .slice aa t.s.args.length ac, .slice ta t.s.thn.length tc, .slice ea t.s.els.length ec, .int .i64 t.deep, .int .i64 t.inn, .bool t.els] _ (fun j v hv => HCE.out j v hv) Try.underlying76 rfl (by kernel_rfl) ?_ | refine wpList_store_mid rfl 76 (.tmp 10) (.tmp 24) rfl w5.heap.size 0 #[.int .i64 t.s.id, .int .i64 t.s.kind, .slice la t.s.labels.length lc, .string t.s.nm, .string t.s.proc, .int .i64 t.s.x.op, .int .i64 t.s.x.n, .string t.s.x.nm, .slice ka t.s.x.ks.length kc, .bool t.s.has, .slice aa t.s.args.length ac, .slice ta t.s.thn.length tc, .slice ea t.s.els.length ec, .int .i64 t.deep, .int .i64 t.inn, .bool t.els] rfl rfl (box_there (n := 16) HI0.out HF0.out (by simp)) (by kernel_rfl) (by simp [Value.oneCell']) ?_)
          refine cut_world (fun wx => Below w5.heap.size w5 wx ∧ BoxAt wx w5.heap.size [.int .i64 t.s.id, .int .i64 t.s.kind, .slice la t.s.labels.length lc, .string t.s.nm, .string t.s.proc, .int .i64 t.s.x.op, .int .i64 t.s.x.n, .string t.s.x.nm, .slice ka t.s.x.ks.length kc, .bool t.s.has, .slice aa t.s.args.length ac, .slice ta t.s.thn.length tc, .slice ea t.s.els.length ec, .int .i64 t.deep, .int .i64 t.inn, .bool t.els]) ⟨setCells_below _ _ (boxed w5 _) (Nat.le_refl _), box_over (old := [.int .i64 0, .int .i64 0, .slice none 0 0, .string ⟨#[]⟩, .string ⟨#[]⟩, .int .i64 0, .int .i64 0, .string ⟨#[]⟩, .slice none 0 0, .bool false, .slice none 0 0, .slice none 0 0, .slice none 0 0, .int .i64 0, .int .i64 0, .bool false]) (xs := [.int .i64 t.s.id, .int .i64 t.s.kind, .slice la t.s.labels.length lc, .string t.s.nm, .string t.s.proc, .int .i64 t.s.x.op, .int .i64 t.s.x.n, .string t.s.x.nm, .slice ka t.s.x.ks.length kc, .bool t.s.has, .slice aa t.s.args.length ac, .slice ta t.s.thn.length tc, .slice ea t.s.els.length ec, .int .i64 t.deep, .int .i64 t.inn, .bool t.els]) (rest := []) HI0.out HF0.out rfl⟩ ?_
          clear hzi HI0 HF0
          rintro w6 ⟨hb6, ht6⟩
          have HT6 := Lib.hid ht6
          have hRI : R < w5.heap.size := hR5
          have hYlt : w2.heap.size < w5.heap.size := by have := cell_lt (HY5.out 0 _ rfl); exact this
          have HR6 := Lib.hid (HR5.out.next hb6)
          have HF6 := Lib.hid (HF5.out.next hR5 hb6)
          have HB6 := Lib.hid (HB5.out.trans (hb6.mono HB5.out.size))
          have HY6 := Lib.hid (HY5.out.next hb6)
          have HBQ6 := Lib.hid (HBQ5.out.trans (hb6.mono HBQ5.out.size))
          have hR6 : R < w6.heap.size := by have := hb6.size; omega
          have HLE6 := Lib.hid (low_next (B := B) hb6)
          clear hb6 ht6
          have t0 := HT6.out 0 _ rfl
          cases hid : (t.s.id == id) with
          | false =>
            have HID := Lib.hid hid
            go_wp2_with fail
            go_roundw
            case rel =>
              refine ⟨q + 1, by omega, by go_num, fun j hj hjk => ?_, HBQ6.out⟩
              rcases Nat.lt_or_ge j q with h | h
              · exact HNQ.out j hj h
              · obtain rfl : j = q := by omega
                rw [ht.out]; exact HID.out
            case measure => simp [intOf]; omega
          | true =>
            have hfd : find6 id p.procs = some (t, f.nm) := by
              have := find6_some (id := id) hlt (i := t) (fun j hj hjk => HNO.out j hj hjk) (by rw [hf.out, hPT.out]; exact HFA.out hid)
              rw [this, hf.out]
            have HFD := Lib.hid hfd
            clear hfd
            go_upto_region 8 with fail
            clear t0 hid
            have hq8 : Below w6.heap.size w6 w6.drew := (Below.refl _ _).drew
            refine wp_region_z (fun w' => BoxAt w' w5.heap.size [.int .i64 t.s.id, .int .i64 t.s.kind, .slice la t.s.labels.length lc, .string t.s.nm, .string t.s.proc, .int .i64 t.s.x.op, .int .i64 t.s.x.n, .string t.s.x.nm, .slice ka t.s.x.ks.length kc, .bool t.s.has, .slice aa t.s.args.length ac, .slice ta t.s.thn.length tc, .slice ea t.s.els.length ec, .int .i64 t.deep, .int .i64 t.inn, .bool t.els] ∧ BoxAt w' w2.heap.size [.string f.nm, .slice a1 f.params.length c1, .slice a2 f.vars.length c2, .slice a3 f.body.length c3, .slice a4 f.fin.length c4]) 5 (by kernel_rfl) ⟨HT6.out.next hq8, HY6.out.next hq8⟩ (fun hS => ?_)
            show wpAnyZ _ _ _ _ _ _ 6 #[false, false, false, false, false, false] _ _
            refine' wpAnyZ_take (i := 0) (oi := _) (v := .agg #[.int .i64 t.s.id, .int .i64 t.s.kind, .slice la t.s.labels.length lc, .string t.s.nm, .string t.s.proc, .int .i64 t.s.x.op, .int .i64 t.s.x.n, .string t.s.x.nm, .slice ka t.s.x.ks.length kc, .bool t.s.has, .slice aa t.s.args.length ac, .slice ta t.s.thn.length tc, .slice ea t.s.els.length ec, .int .i64 t.deep, .int .i64 t.inn, .bool t.els]) rfl (by kernel_rfl) (by kernel_rfl) (by kernel_rfl) (by kernel_rfl) (fun _ _ _ h => h) (yieldsIf_load_mid (by rfl) 76 (.tmp 10) rfl w5.heap.size 0 (by rfl) [.int .i64 t.s.id, .int .i64 t.s.kind, .slice la t.s.labels.length lc, .string t.s.nm, .string t.s.proc, .int .i64 t.s.x.op, .int .i64 t.s.x.n, .string t.s.x.nm, .slice ka t.s.x.ks.length kc, .bool t.s.has, .slice aa t.s.args.length ac, .slice ta t.s.thn.length tc, .slice ea t.s.els.length ec, .int .i64 t.deep, .int .i64 t.inn, .bool t.els] _ (fun w' hSw j v hv => by rw [Nat.zero_add]; exact hSw.1 j v hv) Try.underlying76 rfl (by kernel_rfl)) hS ?rest0
            try simp only [Act.put, List.getElem_toArray, List.getElem_cons_succ, List.getElem_cons_zero, List.setIfInBounds_toArray, List.set_cons_zero, List.set_cons_succ]
            refine' wpAnyZ_take (i := 1) (oi := _) (v := _) rfl (by kernel_rfl) (by kernel_rfl) (by kernel_rfl) (by kernel_rfl) (fun _ _ _ h => h) (Or.inl ⟨by rfl, ?hy1⟩) hS ?rest1
            case hy1 => (intro w hSw; have c0 := hSw.2 0 _ rfl; clear hSw; go_simp; (try with_reducible rfl))
            try simp only [Act.put, List.getElem_toArray, List.getElem_cons_succ, List.getElem_cons_zero, List.setIfInBounds_toArray, List.set_cons_zero, List.set_cons_succ]
            refine' wpAnyZ_take (i := 2) (oi := _) (v := _) rfl (by kernel_rfl) (by kernel_rfl) (by kernel_rfl) (by kernel_rfl) (fun _ _ _ h => h) (Or.inl ⟨by rfl, ?hy2⟩) hS ?rest2
            case hy2 => (intro w hSw; have c0 := hSw.2 0 _ rfl; clear hSw; go_simp; (try with_reducible rfl))
            try simp only [Act.put, List.getElem_toArray, List.getElem_cons_succ, List.getElem_cons_zero, List.setIfInBounds_toArray, List.set_cons_zero, List.set_cons_succ]
            have HR7 := Lib.hid (HR6.out.next hq8)
            have HF7 := Lib.hid (HF6.out.next hR6 hq8)
            have HT7 := Lib.hid (HT6.out.next hq8)
            have HY7 := Lib.hid (HY6.out.next hq8)
            have hne1 : R ≠ w5.heap.size := by omega
            have hne2 : R ≠ w2.heap.size := by have := HX2.out; omega
            refine' wpAnyZ_step (i := 3) (o := _) rfl (by kernel_rfl) (fun K hK => ?_)
            rw [if_pos (by rfl)]
            refine wp_store_mid 76 (.tmp 4) (.tmp 30) rfl R 0 #[.int .i64 t.s.id, .int .i64 t.s.kind, .slice la t.s.labels.length lc, .string t.s.nm, .string t.s.proc, .int .i64 t.s.x.op, .int .i64 t.s.x.n, .string t.s.x.nm, .slice ka t.s.x.ks.length kc, .bool t.s.has, .slice aa t.s.args.length ac, .slice ta t.s.thn.length tc, .slice ea t.s.els.length ec, .int .i64 t.deep, .int .i64 t.inn, .bool t.els] rfl rfl (box_there (n := 16) HR7.out HF7.out (by simp)) (by kernel_rfl) (by simp [Value.oneCell']) ?_
            have hS8 : BoxAt (w6.drew.setCells R 0 [.int .i64 t.s.id, .int .i64 t.s.kind, .slice la t.s.labels.length lc, .string t.s.nm, .string t.s.proc, .int .i64 t.s.x.op, .int .i64 t.s.x.n, .string t.s.x.nm, .slice ka t.s.x.ks.length kc, .bool t.s.has, .slice aa t.s.args.length ac, .slice ta t.s.thn.length tc, .slice ea t.s.els.length ec, .int .i64 t.deep, .int .i64 t.inn, .bool t.els]) w5.heap.size [.int .i64 t.s.id, .int .i64 t.s.kind, .slice la t.s.labels.length lc, .string t.s.nm, .string t.s.proc, .int .i64 t.s.x.op, .int .i64 t.s.x.n, .string t.s.x.nm, .slice ka t.s.x.ks.length kc, .bool t.s.has, .slice aa t.s.args.length ac, .slice ta t.s.thn.length tc, .slice ea t.s.els.length ec, .int .i64 t.deep, .int .i64 t.inn, .bool t.els] ∧ BoxAt (w6.drew.setCells R 0 [.int .i64 t.s.id, .int .i64 t.s.kind, .slice la t.s.labels.length lc, .string t.s.nm, .string t.s.proc, .int .i64 t.s.x.op, .int .i64 t.s.x.n, .string t.s.x.nm, .slice ka t.s.x.ks.length kc, .bool t.s.has, .slice aa t.s.args.length ac, .slice ta t.s.thn.length tc, .slice ea t.s.els.length ec, .int .i64 t.deep, .int .i64 t.inn, .bool t.els]) w2.heap.size [.string f.nm, .slice a1 f.params.length c1, .slice a2 f.vars.length c2, .slice a3 f.body.length c3, .slice a4 f.fin.length c4] := ⟨setCells_box HT7.out hne1, setCells_box HY7.out hne2⟩
            refine hK _ _ (fun _ => hS8) ?_
            clear hK K
            try simp only [Act.put, List.getElem_toArray, List.getElem_cons_succ, List.getElem_cons_zero, List.setIfInBounds_toArray, List.set_cons_zero, List.set_cons_succ]
            refine' wpAnyZ_step (i := 4) (o := _) rfl (by kernel_rfl) (fun K hK => ?_)
            go_simp
            refine hK _ _ (fun _ => hS8) ?_
            clear hK K
            try simp only [Act.put, List.getElem_toArray, List.getElem_cons_succ, List.getElem_cons_zero, List.setIfInBounds_toArray, List.set_cons_zero, List.set_cons_succ]
            refine' wpAnyZ_step (i := 5) (o := _) rfl (by kernel_rfl) (fun K hK => ?_)
            go_simp
            refine hK _ _ (fun h => absurd rfl h) ?_
            clear hK K
            try simp only [Act.put, List.getElem_toArray, List.getElem_cons_succ, List.getElem_cons_zero, List.setIfInBounds_toArray, List.set_cons_zero, List.set_cons_succ]
            refine wpAnyZ_done (by kernel_rfl) ?_ _
            have hq : BoxAt (w6.drew.setCells R 0 [.int .i64 t.s.id, .int .i64 t.s.kind, .slice la t.s.labels.length lc, .string t.s.nm, .string t.s.proc, .int .i64 t.s.x.op, .int .i64 t.s.x.n, .string t.s.x.nm, .slice ka t.s.x.ks.length kc, .bool t.s.has, .slice aa t.s.args.length ac, .slice ta t.s.thn.length tc, .slice ea t.s.els.length ec, .int .i64 t.deep, .int .i64 t.inn, .bool t.els]) R [.int .i64 t.s.id, .int .i64 t.s.kind, .slice la t.s.labels.length lc, .string t.s.nm, .string t.s.proc, .int .i64 t.s.x.op, .int .i64 t.s.x.n, .string t.s.x.nm, .slice ka t.s.x.ks.length kc, .bool t.s.has, .slice aa t.s.args.length ac, .slice ta t.s.thn.length tc, .slice ea t.s.els.length ec, .int .i64 t.deep, .int .i64 t.inn, .bool t.els] := box_over (old := [.int .i64 0, .int .i64 0, .slice none 0 0, .string ⟨#[]⟩, .string ⟨#[]⟩, .int .i64 0, .int .i64 0, .string ⟨#[]⟩, .slice none 0 0, .bool false, .slice none 0 0, .slice none 0 0, .slice none 0 0, .int .i64 0, .int .i64 0, .bool false]) (xs := [.int .i64 t.s.id, .int .i64 t.s.kind, .slice la t.s.labels.length lc, .string t.s.nm, .string t.s.proc, .int .i64 t.s.x.op, .int .i64 t.s.x.n, .string t.s.x.nm, .slice ka t.s.x.ks.length kc, .bool t.s.has, .slice aa t.s.args.length ac, .slice ta t.s.thn.length tc, .slice ea t.s.els.length ec, .int .i64 t.deep, .int .i64 t.inn, .bool t.els]) (rest := []) HR7.out HF7.out rfl
            have hb8 : Below w.heap.size w (w6.drew.setCells R 0 [.int .i64 t.s.id, .int .i64 t.s.kind, .slice la t.s.labels.length lc, .string t.s.nm, .string t.s.proc, .int .i64 t.s.x.op, .int .i64 t.s.x.n, .string t.s.x.nm, .slice ka t.s.x.ks.length kc, .bool t.s.has, .slice aa t.s.args.length ac, .slice ta t.s.thn.length tc, .slice ea t.s.els.length ec, .int .i64 t.deep, .int .i64 t.inn, .bool t.els]) := setCells_below _ _ (HB6.out.trans (hq8.mono HB6.out.size)) (Nat.le_of_lt hRw)
            have hle : Cs.le (lowC B w6) (lowC B (w6.drew.setCells R 0 [.int .i64 t.s.id, .int .i64 t.s.kind, .slice la t.s.labels.length lc, .string t.s.nm, .string t.s.proc, .int .i64 t.s.x.op, .int .i64 t.s.x.n, .string t.s.x.nm, .slice ka t.s.x.ks.length kc, .bool t.s.has, .slice aa t.s.args.length ac, .slice ta t.s.thn.length tc, .slice ea t.s.els.length ec, .int .i64 t.deep, .int .i64 t.inn, .bool t.els])) := fun g j u ⟨hg, hu⟩ => ⟨hg, setCells_cell (cell_next hq8 hu) (by omega)⟩
            have HHZ := Lib.hid (fun w2 h => HHA.out w2 (Cs.le_trans HLE6.out (Cs.le_trans hle h)))
            have HB8 := Lib.hid hb8
            clear hS hS8 hq8 hb8 hle
            have q0 := hq 0 _ rfl
            have q1 := hq 1 _ rfl
            have q2 := hq 2 _ rfl
            have q3 := hq 3 _ rfl
            have q4 := hq 4 _ rfl
            have q5 := hq 5 _ rfl
            have q6 := hq 6 _ rfl
            have q7 := hq 7 _ rfl
            have q8 := hq 8 _ rfl
            have q9 := hq 9 _ rfl
            have q10 := hq 10 _ rfl
            have q11 := hq 11 _ rfl
            have q12 := hq 12 _ rfl
            have q13 := hq 13 _ rfl
            have q14 := hq 14 _ rfl
            have q15 := hq 15 _ rfl
            go_wp2_with fail
            refine bodyPost_ret (v := .tuple #[.agg #[.int .i64 t.s.id, .int .i64 t.s.kind, .slice la t.s.labels.length lc, .string t.s.nm, .string t.s.proc, .int .i64 t.s.x.op, .int .i64 t.s.x.n, .string t.s.x.nm, .slice ka t.s.x.ks.length kc, .bool t.s.has, .slice aa t.s.args.length ac, .slice ta t.s.thn.length tc, .slice ea t.s.els.length ec, .int .i64 t.deep, .int .i64 t.inn, .bool t.els], .string f.nm, .bool true]) (by simp [results, Try.results56, go_sem, q0, q1, q2, q3, q4, q5, q6, q7, q8, q9, q10, q11, q12, q13, q14, q15]) rfl ?_
            rw [show find6 id p.procs = some (t, f.nm) from HFD.out]
            obtain ⟨j1, j2, j3, j4, j5, j6⟩ := HJ.out
            exact ⟨la, ka, aa, ta, ea, lc, kc, ac, tc, ec, rfl, HHZ.out, HOK.out, j1, j2, j3, j4, j5, j6, HB8.out⟩
        · have hlq' : ¬ (q : Int) < (PT.length : Int) := by omega
          have hnf : (flatOf f).find? (fun i => i.s.id == id) = none := by rw [hPT.out]; exact fst_no fun j hj => HNQ.out j hj (by omega)
          have HNF := Lib.hid hnf
          clear hnf
          go_wp2_with fail
          go_roundw
          case rel =>
            refine ⟨k + 1, by omega, by go_num, fun j hj hjk => ?_, HBR5.out⟩
            rcases Nat.lt_or_ge j k with h | h
            · exact HNO.out j hj h
            · obtain rfl : j = k := by omega
              rw [hf.out]; exact HNF.out
          case measure => simp [intOf]; omega
    · have hlt' : ¬ (k : Int) < (p.procs.length : Int) := by omega
      have hfd : find6 id p.procs = none := find6_none fun j hj => HNO.out j hj (by omega)
      have HFD := Lib.hid hfd
      clear hfd
      have hok : Below w.heap.size w (w2.setCells R 0 [.int .i64 0, .int .i64 0, .slice none 0 0, .string ⟨#[]⟩, .string ⟨#[]⟩, .int .i64 0, .int .i64 0, .string ⟨#[]⟩, .slice none 0 0, .bool false, .slice none 0 0, .slice none 0 0, .slice none 0 0, .int .i64 0, .int .i64 0, .bool false]) := setCells_below _ _ HB2.out (Nat.le_of_lt hRw)
      have hq : BoxAt (w2.setCells R 0 [.int .i64 0, .int .i64 0, .slice none 0 0, .string ⟨#[]⟩, .string ⟨#[]⟩, .int .i64 0, .int .i64 0, .string ⟨#[]⟩, .slice none 0 0, .bool false, .slice none 0 0, .slice none 0 0, .slice none 0 0, .int .i64 0, .int .i64 0, .bool false]) R [.int .i64 0, .int .i64 0, .slice none 0 0, .string ⟨#[]⟩, .string ⟨#[]⟩, .int .i64 0, .int .i64 0, .string ⟨#[]⟩, .slice none 0 0, .bool false, .slice none 0 0, .slice none 0 0, .slice none 0 0, .int .i64 0, .int .i64 0, .bool false] := box_over (old := [.int .i64 0, .int .i64 0, .slice none 0 0, .string ⟨#[]⟩, .string ⟨#[]⟩, .int .i64 0, .int .i64 0, .string ⟨#[]⟩, .slice none 0 0, .bool false, .slice none 0 0, .slice none 0 0, .slice none 0 0, .int .i64 0, .int .i64 0, .bool false]) (xs := [.int .i64 0, .int .i64 0, .slice none 0 0, .string ⟨#[]⟩, .string ⟨#[]⟩, .int .i64 0, .int .i64 0, .string ⟨#[]⟩, .slice none 0 0, .bool false, .slice none 0 0, .slice none 0 0, .slice none 0 0, .int .i64 0, .int .i64 0, .bool false]) (rest := []) HR2.out HF2.out rfl
      have hth : w2.there R 0 16 := box_there (n := 16) HR2.out HF2.out (by simp)
      have q0 := hq 0 _ rfl
      have q1 := hq 1 _ rfl
      have q2 := hq 2 _ rfl
      have q3 := hq 3 _ rfl
      have q4 := hq 4 _ rfl
      have q5 := hq 5 _ rfl
      have q6 := hq 6 _ rfl
      have q7 := hq 7 _ rfl
      have q8 := hq 8 _ rfl
      have q9 := hq 9 _ rfl
      have q10 := hq 10 _ rfl
      have q11 := hq 11 _ rfl
      have q12 := hq 12 _ rfl
      have q13 := hq 13 _ rfl
      have q14 := hq 14 _ rfl
      have q15 := hq 15 _ rfl
      go_wp2_with (refine wpList_store_mid rfl 76 (.tmp 4) (.tmp 35) rfl R 0 #[.int .i64 0, .int .i64 0, .slice none 0 0, .string ⟨#[]⟩, .string ⟨#[]⟩, .int .i64 0, .int .i64 0, .string ⟨#[]⟩, .slice none 0 0, .bool false, .slice none 0 0, .slice none 0 0, .slice none 0 0, .int .i64 0, .int .i64 0, .bool false] rfl rfl hth (by kernel_rfl) (by simp [Value.oneCell']) ?_)
      refine bodyPost_ret (v := .tuple #[.agg #[.int .i64 0, .int .i64 0, .slice none 0 0, .string ⟨#[]⟩, .string ⟨#[]⟩, .int .i64 0, .int .i64 0, .string ⟨#[]⟩, .slice none 0 0, .bool false, .slice none 0 0, .slice none 0 0, .slice none 0 0, .int .i64 0, .int .i64 0, .bool false], .string ⟨#[]⟩, .bool false]) (by simp [results, Try.results56, go_sem, q0, q1, q2, q3, q4, q5, q6, q7, q8, q9, q10, q11, q12, q13, q14, q15]) rfl ?_
      rw [show find6 id p.procs = none from HFD.out]
      exact ⟨rfl, hok⟩
end Go.Proofs.Ytghlmengcidmdaa.Tr
end
section
/- What scoped of the laws on scope tells: true. Conditions: none. -/
namespace Go.Proofs.Ytghlmengcidmdaa.Tr
open Go.RowKit Go.Proofs.Ytghlmengcidmdaa.Lx Go.Proofs.Ytghlmengcidmdaa.Wd
/-- The code of a fault, the place of a fault. -/
theorem run_code (c i : Int) (w : World) : (Instr.field 30 (.agg #[.int .i64 c, .int .i64 i]) 0).run Try.prog w = .ok (.int .i64 c) w := by kernel_rfl
theorem some_wt6 : wtPr someP ≤ 20000 := of_decide_eq_true (by kernel_rfl)
end Go.Proofs.Ytghlmengcidmdaa.Tr
end
section
/- What holds of a program whose names are well. No program's code. Conditions: as each statement says. -/
namespace Go.Proofs.Ytghlmengcidmdaa.Tr
open Go.RowKit Go.Proofs.Ytghlmengcidmdaa.Lx Go.Proofs.Ytghlmengcidmdaa.Wd
theorem scope_code {p : Pr} (h : (scopeP p).1 = 0) : mayP p = true ∧ headFault p = false ∧ ∀ f ∈ p.procs, pcFault p.globals (procNs p) f = none := by
  unfold scopeP at h
  cases h1 : mayP p with
  | false => rw [h1] at h; simp at h
  | true =>
    rw [h1] at h
    cases h2 : headFault p with
    | true => rw [h2] at h; simp at h
    | false =>
      rw [h2] at h
      cases h3 : p.procs.findSome? (pcFault p.globals (procNs p)) with
      | some i => rw [h3] at h; simp at h
      | none => exact ⟨rfl, rfl, by rw [List.findSome?_eq_none_iff] at h3; exact h3⟩
theorem head_parts {p : Pr} (h : headFault p = false) : twiceB p.globals = false ∧ twiceB (procNs p) = false ∧ ∃ f, pcOf p.procs sMain = some f ∧ f.params = [] := by
  unfold headFault at h
  rw [Bool.or_eq_false_iff, Bool.or_eq_false_iff] at h
  refine ⟨h.1.1, h.1.2, ?_⟩
  cases h3 : pcOf p.procs sMain with
  | none => rw [h3] at h; simp at h
  | some f =>
    rw [h3] at h
    refine ⟨f, rfl, ?_⟩
    have := h.2
    simp only [decide_eq_false_iff_not] at this
    exact List.eq_nil_of_length_eq_zero (by omega)
theorem nodup_of {l : List ByteArray} (h : twiceB l = false) : l.Nodup := by
  unfold twiceB at h
  simpa using h
theorem nodup_get {l : List ByteArray} (h : l.Nodup) {i j : Nat} (hi : i < l.length) (hj : j < l.length) (he : l[i] = l[j]) : i = j := (List.getElem_inj (h₀ := hi) (h₁ := hj) h).1 he
theorem pc_first {l : List Pc} (h : twiceB (l.map Pc.nm) = false) {k : Nat} (hk : k < l.length) : pcOf l l[k].nm = some l[k] := by
  unfold pcOf
  refine fst_at hk (fun j hj hjk => ?_) (same_text.2 rfl)
  rw [same_no]
  intro he
  have := nodup_get (nodup_of h) (i := j) (j := k) (by simpa using hj) (by simpa using hk) (by simpa using he)
  omega
/-- A procedure's name, by a number. -/
def procAtP (p : Pr) (n : Int) : ByteArray := match p.procs[(n % (p.procs.length : Int)).toNat]? with
  | some f => f.nm
  | none => ⟨#[]⟩
theorem mod_at {n : Int} {k : Nat} (hk : 0 < k) : (n % (k : Int)).toNat < k ∧ n % (k : Int) = ((n % (k : Int)).toNat : Int) := by
  have h0 := Int.emod_nonneg n (b := (k : Int)) (by omega)
  have h1 := Int.emod_lt_of_pos n (b := (k : Int)) (by omega)
  omega
theorem procAt_some {p : Pr} {n : Int} (hk : 0 < p.procs.length) : procAtP p n = (p.procs[(n % (p.procs.length : Int)).toNat]'(mod_at hk).1).nm := by
  unfold procAtP
  rw [List.getElem?_eq_getElem (mod_at hk).1]
theorem procAt_none {p : Pr} {n : Int} (hk : p.procs.length = 0) : procAtP p n = ⟨#[]⟩ := by
  unfold procAtP
  rw [List.getElem?_eq_none (by omega)]
section
variable {p : Pr} {f : Pc} (hf : f ∈ p.procs) (h : (scopeP p).1 = 0)
include hf h
theorem well_pc : pcIn p f.nm = some f := by
  obtain ⟨h1, h2, -⟩ := scope_code h
  obtain ⟨-, h4, -⟩ := head_parts h2
  obtain ⟨k, hk, rfl⟩ := List.getElem_of_mem hf
  unfold pcIn
  rw [if_pos h1]
  exact pc_first h4 hk
end
end Go.Proofs.Ytghlmengcidmdaa.Tr
end
section
/- What Fits and Check of arity, CallFits, arity and Arity of the reference tell. Conditions: what they are handed lies in memory, and there is room. -/
namespace Go.Proofs.Ytghlmengcidmdaa.Tr
open Go.RowKit Go.Proofs.Ytghlmengcidmdaa.Lx Go.Proofs.Ytghlmengcidmdaa.Wd
set_option linter.unusedSimpArgs false
theorem all_its_l : ∀ (l : List Pc) (out : List It), mayPs out.length l = true → out.length + cntP l ≤ 200 → allPs l out = out ++ (l.map itsOf).flatten := by
  intro l
  induction l with
  | nil => intro out _ _; simp [allPs]
  | cons f r ih =>
    intro out h hl
    rw [mayPs, Bool.and_eq_true] at h
    have hc : cntP (f :: r) = cntL f.body + cntP r := by unfold cntP; simp
    have h2 := mayPc_rows h.1
    have hf : flatOf f = itsOf f := by
      unfold flatOf itsOf
      rw [flatL_pre f.body 1 0 _ false [] h2 (by simp; omega), List.nil_append]
    have hfl : (itsOf f).length = cntL f.body := by unfold itsOf; exact preL_len _ _ _ _
    have hlen : (out ++ flatOf f).length = out.length + cntL f.body := by rw [List.length_append, hf, hfl]
    rw [allPs_cons, hlen, if_neg (by omega), ih _ (by rw [hlen]; have := h.2; push_cast; exact this) (by rw [hlen]; omega), hf, List.map_cons, List.flatten_cons, List.append_assoc]
theorem all_its {p : Pr} (h : mayP p = true) : (allOf p).map It.s = allSts p := by
  unfold allOf allSts
  have hc := mayP_cnt h
  rw [all_its_l p.procs [] (mayP_procs h) (by simpa using hc), List.nil_append, List.map_flatten, List.map_map]
  rfl
end Go.Proofs.Ytghlmengcidmdaa.Tr
end
section
/- What Mod of the reference computes: the rest, never below 0. Conditions: the divisor is at least 1 and at most 1000000. -/
namespace Go.Proofs.Ytghlmengcidmdaa.Tr
open Go.RowKit
theorem ret_i64 {a b : Int} (h : a = b) : Ending.returned (.int .i64 a) = .returned (.int .i64 b) := by rw [h]
theorem mod_any (n k r : Int) (w : World) (hn1 : -9223372036854775808 ≤ n) (hn2 : n ≤ 9223372036854775807) (hk1 : 1 ≤ k) (hk2 : k ≤ 1000000) (hr : n % k = r) :
    Calls Try.prog 28 #[.int .i64 n, .int .i64 k] w fun e w' => e = .returned (.int .i64 r) ∧ w = w' := by
  have h0 := Int.emod_nonneg n (b := k) (by omega)
  have h1 := Int.emod_lt_of_pos n (b := k) (by omega)
  have hk : ¬ k < 1 := by omega
  have HR := Lib.hid hr
  clear hr
  by_cases hneg : 0 ≤ n
  · have hr0 : decide (n % k < 0) = false := by simpa using h0
    go_enter Try.func28, Try.ntmps28
    go_wp2
    go_ret
    exact ⟨ret_i64 HR.out, rfl⟩
  · have ht := Int.tmod_eq_emod (a := n) (b := k)
    by_cases hz : n % k = 0
    · have hd : k ∣ n := Int.dvd_of_emod_eq_zero hz
      rw [if_pos (.inr hd), hz] at ht
      have HT : Hid (n.tmod k = 0) := Lib.hid (by omega)
      have hr0 : decide (n.tmod k < 0) = false := by rw [HT.out]; rfl
      have HZ := Lib.hid hz
      clear ht hd hz h0 h1
      go_enter Try.func28, Try.ntmps28
      go_wp2
      go_ret
      exact ⟨ret_i64 (by rw [HT.out, ← HR.out, HZ.out]), rfl⟩
    · have hd : ¬ k ∣ n := fun h => hz (Int.emod_eq_zero_of_dvd h)
      rw [if_neg (by simp; omega)] at ht
      have b1 : -1000000 ≤ n.tmod k := by omega
      have b2 : n.tmod k < 0 := by omega
      have b3 : n.tmod k + k = r := by have := HR.out; omega
      have HB := Lib.hid b3
      have hr0 : decide (n.tmod k < 0) = true := by simpa using b2
      have hsum : wrap64 (n.tmod k + k) = n.tmod k + k := IntWalk.wrap64_in _ (by omega)
      have HS := Lib.hid hsum
      clear ht hd hz h0 h1 b3 hsum
      go_enter Try.func28, Try.ntmps28
      go_wp2
      go_ret
      exact ⟨ret_i64 (by first | exact HB.out | (rw [HS.out]; exact HB.out)), rfl⟩
end Go.Proofs.Ytghlmengcidmdaa.Tr
end
section
/- What ProcAt of the reference tells: a procedure's name, by a number. Conditions: the program lies in memory; the number is one of 64 bits. -/
namespace Go.Proofs.Ytghlmengcidmdaa.Tr
open Go.RowKit Go.Proofs.Ytghlmengcidmdaa.Lx Go.Proofs.Ytghlmengcidmdaa.Wd
set_option maxHeartbeats 2000000 in
set_option maxRecDepth 100000 in
theorem procat_any (d : Nat) (p : Pr) (gv pv : Value) (n : Int) (w : World) (hp : PrC (cw w) d gv pv p) (hn1 : -9223372036854775808 ≤ n) (hn2 : n ≤ 9223372036854775807) (hm : p.procs.length ≤ 1000000) :
    Calls Try.prog 40 #[.agg #[gv, pv], .int .i64 n] w fun e w' => e = .returned (.string (procAtP p n)) ∧ Below w.heap.size w w' := by
  obtain ⟨ga, gc, rfl, hgl1, hgl2⟩ := hp.1.form
  obtain ⟨pa, pc, rfl, hl1, hl2⟩ := hp.2.form
  have hpl : p.procs.length ≤ 9223372036854775807 := Nat.le_trans hl1 hl2
  have HP := Lib.hid hp
  clear hp hl1 hl2 hgl1 hgl2
  obtain ⟨KK, hKK⟩ : ∃ s, Hid (procAtP p n = s) := ⟨_, Lib.hid rfl⟩
  rw [hKK.out]
  go_enter Try.func40, Try.ntmps40
  go_upto_region 1 with fail
  refine cut_world (fun wx => Below w.heap.size w wx ∧ BoxAt wx w.heap.size [.slice ga p.globals.length gc, .slice pa p.procs.length pc]) ⟨boxed w _, box_new w #[.slice ga p.globals.length gc, .slice pa p.procs.length pc] 25⟩ ?_
  rintro w1 ⟨hb1, hx1⟩
  have HB1 := Lib.hid hb1
  have HP1 := Lib.hid (PrC.mono (cw_next hb1) HP.out)
  have x1 := hx1 1 _ rfl
  clear hb1 hx1
  by_cases hz : p.procs.length = 0
  · have hs : KK = ⟨#[]⟩ := by rw [← hKK.out]; exact procAt_none hz
    have hz1 : ((p.procs.length : Int) == 0) = true := by rw [hz]; rfl
    have HZ := Lib.hid hz
    subst hs
    clear hz
    go_wp2_with fail
    go_ret
    exact ⟨rfl, HB1.out⟩
  · have hz1 : ((p.procs.length : Int) == 0) = false := by simpa using hz
    have hpos : 0 < p.procs.length := by omega
    obtain ⟨m, hmm⟩ : ∃ m, m = (n % (p.procs.length : Int)).toNat := ⟨_, rfl⟩
    have hlt : m < p.procs.length := by rw [hmm]; exact (mod_at hpos).1
    have hmi : n % (p.procs.length : Int) = (m : Int) := by rw [hmm]; exact (mod_at hpos).2
    have hs : KK = (p.procs[m]).nm := by rw [← hKK.out, procAt_some hpos]; subst hmm; rfl
    have hlt' : (m : Int) < (p.procs.length : Int) := by omega
    have h0m : (0 : Int) ≤ (m : Int) := by omega
    have hk1 : (1 : Int) ≤ (p.procs.length : Int) := by omega
    have hk2 : (p.procs.length : Int) ≤ 1000000 := by omega
    have HS := Lib.hid hs
    have HMI := Lib.hid hmi
    obtain ⟨g, off, hvp, qv, vv, bv, fv, p0, p1, p2, p3, p4, hnm, hps, hvs, hbody, hfin⟩ := procs_at HP1.out.2 hlt
    cases hvp
    have e0 : w1.cell? ⟨g, off + m * 5, none⟩ = _ := p0
    clear p0 p1 p2 p3 p4 hnm hps hvs hbody hfin hs hmi hmm hz
    go_upto_region 3 with fail
    go_quiet ((go_at_call 28; exact Calls.quiet_of_same ((mod_any n (p.procs.length : Int) (m : Int) _ hn1 hn2 hk1 hk2 HMI.out).mono fun e w' h => ⟨h.1, h.2.symm⟩)))
    go_wp2_with fail
    go_ret
    exact ⟨by rw [HS.out]; rfl, by first | exact below_drewN HB1.out _ | exact HB1.out.drew⟩
end Go.Proofs.Ytghlmengcidmdaa.Tr
end
section
/- What Stmt, ProcOf, Ids and Pick of the reference tell. Conditions: what they are handed lies in memory. -/
namespace Go.Proofs.Ytghlmengcidmdaa.Tr
open Go.RowKit Go.Proofs.Ytghlmengcidmdaa.Lx Go.Proofs.Ytghlmengcidmdaa.Wd
set_option linter.unusedSimpArgs false
theorem PrC.le6 {C : Cs} {d e : Nat} {gv pv : Value} {p : Pr} (hde : d ≤ e) (h : PrC C d gv pv p) : PrC C e gv pv p := ⟨h.1, SlAt.imp h.2 fun _ _ _ _ q => PcAt.le q hde⟩
/-- No statement. -/
def zIt : It := ⟨zSt, 0, 0, false⟩
/-- The item, the procedure's name, the statement of an id. -/
def it6 (p : Pr) (id : Int) : It := ((find6 id p.procs).map Prod.fst).getD zIt
def nm6 (p : Pr) (id : Int) : ByteArray := ((find6 id p.procs).map Prod.snd).getD ⟨#[]⟩
def has6 (p : Pr) (id : Int) : Bool := (find6 id p.procs).isSome
theorem zHang (d : Nat) (w : World) : Hang (d + 1) w zSt (.slice none 0 0) (.slice none 0 0) (.slice none 0 0) (.slice none 0 0) (.slice none 0 0) := ⟨StrC.none _, ExC.none _ _, SlAt.nil, SlAt.nil, SlAt.nil⟩
theorem inI0 : InI 0 := by constructor <;> decide
theorem zOk : OkE zSt.x := ⟨inI0, inI0, by decide⟩
def Found7 (B d : Nat) (t : It) (nm : ByteArray) (b : Bool) (w : World) (e : Ending) (w' : World) : Prop := ∃ (la ka aa ta ea : Option Addr) (lc kc ac tc ec : Nat), e = .returned (.tuple #[.agg #[.int .i64 t.s.id, .int .i64 t.s.kind, .slice la t.s.labels.length lc, .string t.s.nm, .string t.s.proc, .int .i64 t.s.x.op, .int .i64 t.s.x.n, .string t.s.x.nm, .slice ka t.s.x.ks.length kc, .bool t.s.has, .slice aa t.s.args.length ac, .slice ta t.s.thn.length tc, .slice ea t.s.els.length ec, .int .i64 t.deep, .int .i64 t.inn, .bool t.els], .string nm, .bool b]) ∧ (∀ w2, Cs.le (lowC B w') (cw w2) → Hang d w2 t.s (.slice la t.s.labels.length lc) (.slice ka t.s.x.ks.length kc) (.slice aa t.s.args.length ac) (.slice ta t.s.thn.length tc) (.slice ea t.s.els.length ec)) ∧ OkE t.s.x ∧ InI t.s.id ∧ InI t.s.kind ∧ t.s.nm.size ≤ 9223372036854775807 ∧ t.s.proc.size ≤ 9223372036854775807 ∧ InI t.deep ∧ InI t.inn ∧ Below w.heap.size w w'
theorem find7_any (B d : Nat) (p : Pr) (gv pv : Value) (id : Int) (w : World) (hBw : B ≤ w.heap.size) (hp : PrC (lowC B w) (d + 1) gv pv p) :
    Calls Try.prog 56 #[.agg #[gv, pv], .int .i64 id] w (Found7 B (d + 1) (it6 p id) (nm6 p id) (has6 p id) w) := by
  refine (find6_any B (d + 1) p gv pv id w hBw hp).mono ?_
  intro e w' h
  unfold it6 nm6 has6
  cases hf : find6 id p.procs with
  | some q =>
    obtain ⟨t, nm⟩ := q
    rw [hf] at h
    exact h
  | none =>
    rw [hf] at h
    obtain ⟨rfl, hb⟩ := h
    exact ⟨none, none, none, none, none, 0, 0, 0, 0, 0, rfl, fun w2 _ => zHang d w2, zOk, inI0, inI0, by decide, by decide, inI0, inI0, hb⟩
end Go.Proofs.Ytghlmengcidmdaa.Tr
end
section
/- A program in which one statement is put for another one: it may be, its statements, its calls, its names. No program's code. Conditions: the program may be. -/
namespace Go.Proofs.Ytghlmengcidmdaa.Tr
open Go.RowKit Go.Proofs.Ytghlmengcidmdaa.Lx Go.Proofs.Ytghlmengcidmdaa.Wd
/-- Ids go up by one. -/
def upTo (n : Int) (m : Nat) : List Int := (List.range m).map fun (k : Nat) => n + 1 + (k : Int)
theorem upTo_add (n : Int) (a b : Nat) : upTo n (a + b) = upTo n a ++ upTo (n + a) b := by
  unfold upTo
  rw [List.range_add, List.map_append, List.map_map]
  congr 1
  refine List.map_congr_left fun k _ => ?_
  simp only [Function.comp_apply]
  push_cast
  omega
theorem upTo_len (n : Int) (m : Nat) : (upTo n m).length = m := by unfold upTo; rw [List.length_map, List.length_range]
theorem upTo_get {n : Int} {m k : Nat} (h : k < (upTo n m).length) : (upTo n m)[k] = n + 1 + k := by simp [upTo]
mutual
theorem preS_ids : ∀ (s : St) (deep inn nest n : Int) (els : Bool), rowS 200 12 nest n s = true → (preS deep inn els s).map (fun i => i.s.id) = upTo n (cntS s)
  | .mk i k ls nm pr x h ar th el, deep, inn, nest, n, els => fun hr => by
    rw [rowS_eq] at hr
    simp only [Bool.and_eq_true, decide_eq_true_eq, beq_iff_eq, St.id, St.labels, St.thn, St.els] at hr
    rw [preS, List.map_cons, List.map_append]
    rw [preL_ids th _ _ _ _ _ hr.1.2, preL_ids el _ _ _ _ _ hr.2, cntS, Nat.add_assoc, upTo_add n 1, upTo_add]
    have h1 : i = n + 1 := hr.1.1.1.1.2
    have h2 : upTo n 1 = [n + 1] := by simp [upTo]
    rw [h2, List.singleton_append]
    exact congrArg (fun x => x :: (upTo (n + 1) (cntL th) ++ upTo (n + 1 + (cntL th : Int)) (cntL el))) h1
theorem preL_ids : ∀ (l : List St) (deep inn nest n : Int) (els : Bool), rowsL 200 12 nest n l = true → (preL deep inn els l).map (fun i => i.s.id) = upTo n (cntL l)
  | [], deep, inn, nest, n, els => fun _ => by rw [preL, cntL]; rfl
  | s :: r, deep, inn, nest, n, els => fun hr => by
    rw [rowsL_cons] at hr
    simp only [Bool.and_eq_true, decide_eq_true_eq] at hr
    rw [preL_cons, List.map_append, preS_ids s _ _ _ _ _ hr.1.2, preL_ids r _ _ _ _ _ hr.2, cntL_cons, upTo_add]
end
theorem its_ids {f : Pc} {n : Int} (h : mayPc n f = true) : (itsOf f).map (fun i => i.s.id) = upTo n (cntL f.body) := preL_ids f.body 1 0 1 n false (mayPc_rows h)
theorem pcs_ids : ∀ (l : List Pc) (n : Int), mayPs n l = true → ((l.map stsOf).flatten).map St.id = upTo n (cntP l) := by
  intro l
  induction l with
  | nil => intro n _; rfl
  | cons f r ih =>
    intro n h
    rw [mayPs, Bool.and_eq_true] at h
    have e : cntP (f :: r) = cntL f.body + cntP r := by unfold cntP; rw [List.map_cons, List.sum_cons]
    rw [List.map_cons, List.flatten_cons, List.map_append, ih _ h.2, e, upTo_add, ← its_ids h.1]
    unfold stsOf
    rw [List.map_map]
    rfl
theorem all_ids {p : Pr} (h : mayP p = true) : (allSts p).map St.id = upTo 0 (cntP p.procs) := pcs_ids _ _ (mayP_procs h)
theorem all_len2 {p : Pr} (h : mayP p = true) : (allSts p).length = cntP p.procs := by
  have := congrArg List.length (all_ids h)
  rwa [List.length_map, upTo_len] at this
theorem all_id {p : Pr} (h : mayP p = true) {k : Nat} (hk : k < (allSts p).length) : (allSts p)[k].id = k + 1 := by
  have h1 : ((allSts p).map St.id)[k]'(by rw [List.length_map]; exact hk) = (upTo 0 (cntP p.procs))[k]'(by rw [upTo_len, ← all_len2 h]; exact hk) := by simp only [all_ids h]
  rw [List.getElem_map, upTo_get] at h1
  omega
end Go.Proofs.Ytghlmengcidmdaa.Tr
end
section
/- A statement by its id; what the checks tell of a program in which one statement is put for another. No program's code. Conditions: the program may be. -/
namespace Go.Proofs.Ytghlmengcidmdaa.Tr
open Go.RowKit Go.Proofs.Ytghlmengcidmdaa.Lx Go.Proofs.Ytghlmengcidmdaa.Wd
theorem mayPs_at : ∀ {l : List Pc} {n : Int}, mayPs n l = true → 0 ≤ n → ∀ k (hk : k < l.length), ∃ m, n ≤ m ∧ mayPc m l[k] = true := by
  intro l
  induction l with
  | nil => intro n _ _ k hk; exact absurd hk (by simp)
  | cons f r ih =>
    intro n h h0 k hk
    rw [mayPs, Bool.and_eq_true] at h
    cases k with
    | zero => exact ⟨n, Int.le_refl _, h.1⟩
    | succ k =>
      obtain ⟨m, h1, h2⟩ := ih h.2 (by omega) k (by simpa using hk)
      exact ⟨m, by omega, by rwa [List.getElem_cons_succ]⟩
theorem sts_len (f : Pc) : (stsOf f).length = cntL f.body := by unfold stsOf itsOf; rw [List.length_map, preL_len]
theorem its_len (f : Pc) : (itsOf f).length = cntL f.body := by unfold itsOf; exact preL_len _ _ _ _
theorem its_at_id {f : Pc} {n : Int} (h : mayPc n f = true) {k : Nat} (hk : k < (itsOf f).length) : (itsOf f)[k].s.id = n + 1 + k := by
  have h1 : ((itsOf f).map (fun i => i.s.id))[k]'(by rw [List.length_map]; exact hk) = (upTo n (cntL f.body))[k]'(by rw [upTo_len, ← its_len]; exact hk) := by simp only [its_ids h]
  rwa [List.getElem_map, upTo_get] at h1
theorem sts_get {f : Pc} {k : Nat} (hk : k < (stsOf f).length) : (stsOf f)[k] = ((itsOf f)[k]'(by unfold stsOf at hk; rwa [List.length_map] at hk)).s := by simp [stsOf]
theorem sts_at_id {f : Pc} {n : Int} (h : mayPc n f = true) {k : Nat} (hk : k < (stsOf f).length) : (stsOf f)[k].id = n + 1 + k := by rw [sts_get hk, its_at_id h]
theorem sts_range {f : Pc} {n : Int} (h : mayPc n f = true) {u : St} (hu : u ∈ stsOf f) : n < u.id ∧ u.id ≤ n + cntL f.body := by
  obtain ⟨k, hk, rfl⟩ := List.getElem_of_mem hu
  have := sts_at_id h hk
  rw [sts_len] at hk
  omega
theorem pcs_above : ∀ {l : List Pc} {n : Int}, mayPs n l = true → ∀ k (hk : k < l.length), ∀ u ∈ stsOf l[k], n < u.id := by
  intro l
  induction l with
  | nil => intro n _ k hk; exact absurd hk (by simp)
  | cons f r ih =>
    intro n h k hk u hu
    rw [mayPs, Bool.and_eq_true] at h
    cases k with
    | zero => exact (sts_range h.1 hu).1
    | succ k => have := ih h.2 k (by simpa using hk) u hu; omega
theorem pcs_order : ∀ {l : List Pc} {n : Int}, mayPs n l = true → ∀ j k (hj : j < l.length) (hk : k < l.length), j < k → ∀ u ∈ stsOf l[j], ∀ v ∈ stsOf l[k], u.id < v.id := by
  intro l
  induction l with
  | nil => intro n _ j k hj; exact absurd hj (by simp)
  | cons f r ih =>
    intro n h j k hj hk hjk u hu v hv
    rw [mayPs, Bool.and_eq_true] at h
    cases k with
    | zero => omega
    | succ k =>
      cases j with
      | zero =>
        have h1 := (sts_range h.1 hu).2
        have h2 := pcs_above h.2 k (by simpa using hk) v hv
        omega
      | succ j => exact ih h.2 j k (by simpa using hj) (by simpa using hk) (by omega) u hu v hv
theorem flat_itsL : ∀ {l : List Pc} {n : Int}, mayPs n l = true → 0 ≤ n → n + cntP l ≤ 200 → ∀ f ∈ l, flatOf f = itsOf f := by
  intro l
  induction l with
  | nil => intro n _ _ _ f hf; cases hf
  | cons g r ih =>
    intro n h h0 h2 f hf
    rw [mayPs, Bool.and_eq_true] at h
    have e : ((cntP (g :: r) : Nat) : Int) = cntL g.body + cntP r := by unfold cntP; rw [List.map_cons, List.sum_cons]; push_cast; rfl
    rcases List.mem_cons.1 hf with rfl | hf
    · unfold flatOf itsOf
      rw [flatL_pre f.body 1 0 n false [] (mayPc_rows h.1) (by simp; omega), List.nil_append]
    · exact ih h.2 (by omega) (by omega) f hf
theorem flat_its {p : Pr} (h : mayP p = true) {f : Pc} (hf : f ∈ p.procs) : flatOf f = itsOf f := flat_itsL (mayP_procs h) (by omega) (by have := mayP_cnt h; omega) f hf
theorem find6_its {p : Pr} (h : mayP p = true) {k : Nat} (hk : k < p.procs.length) {t : It} (ht : t ∈ itsOf p.procs[k]) : find6 t.s.id p.procs = some (t, p.procs[k].nm) := by
  obtain ⟨m, -, hm⟩ := mayPs_at (mayP_procs h) (by omega) k hk
  obtain ⟨q, hq, rfl⟩ := List.getElem_of_mem ht
  have hst : ∀ (x : It) (j : Nat) (hj : j < p.procs.length), x ∈ itsOf p.procs[j] → x.s ∈ stsOf p.procs[j] := fun x j hj hx => List.mem_map.2 ⟨x, hx, rfl⟩
  refine find6_some hk (fun j hj hjk => ?_) ?_
  · rw [flat_its h (List.getElem_mem hj), List.find?_eq_none]
    intro x hx he
    have h1 := pcs_order (mayP_procs h) j k hj hk hjk x.s (hst x j hj hx) _ (hst _ k hk (List.getElem_mem hq))
    simp only [beq_iff_eq] at he
    omega
  · rw [flat_its h (List.getElem_mem hk)]
    refine fst_at hq (fun j hj hjk => ?_) (by simp)
    rw [its_at_id hm, its_at_id hm]
    simp only [beq_eq_false_iff_ne]
    omega
theorem all_its_mem {p : Pr} (h : mayP p = true) {t : It} (ht : t ∈ allOf p) : ∃ k, ∃ hk : k < p.procs.length, t ∈ itsOf p.procs[k] := by
  have h1 : allOf p = (p.procs.map itsOf).flatten := by
    unfold allOf
    rw [all_its_l p.procs [] (by simpa using mayP_procs h) (by have := mayP_cnt h; simp; omega), List.nil_append]
  rw [h1] at ht
  obtain ⟨l, hl, htl⟩ := List.mem_flatten.1 ht
  obtain ⟨f, hf, rfl⟩ := List.mem_map.1 hl
  obtain ⟨k, hk, rfl⟩ := List.getElem_of_mem hf
  exact ⟨k, hk, htl⟩
end Go.Proofs.Ytghlmengcidmdaa.Tr
end
