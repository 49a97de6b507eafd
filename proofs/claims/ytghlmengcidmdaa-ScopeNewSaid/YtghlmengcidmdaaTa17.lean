/- Parts of Find6W, FitsA, ScopedW, OneP: walks and plain laws that later texts use. Conditions: as each statement says. -/
import Derived.Test.YtghlmengcidmdaaTa0
import Derived.Test.YtghlmengcidmdaaTa1
import Derived.Test.YtghlmengcidmdaaTa2
import Derived.Test.YtghlmengcidmdaaTa3
import Derived.Test.YtghlmengcidmdaaTa4
import Derived.Test.YtghlmengcidmdaaTa5
import Derived.Test.YtghlmengcidmdaaTa6
import Derived.Test.YtghlmengcidmdaaTa7
import Derived.Test.YtghlmengcidmdaaTa8
import Derived.Test.YtghlmengcidmdaaTa9
import Derived.Test.YtghlmengcidmdaaTa10
import Derived.Test.YtghlmengcidmdaaTa11
import Derived.Test.YtghlmengcidmdaaTa12
import Derived.Test.YtghlmengcidmdaaTa13
import Derived.Test.YtghlmengcidmdaaTa14
import Derived.Test.YtghlmengcidmdaaTa15
import Derived.Test.YtghlmengcidmdaaTa16
import Derived.Deep.DeepCutAuto
import Derived.Deep.RegionHeld3
import Derived.Deep.RegionLaw
import Derived.Deep.AppendLies
import Derived.RegionTactic
import Derived.Deep.QuietTactic
import Derived.BigQuiet
import Derived.Deep.CutBlock
import Derived.IntWalk
import Derived.StillTailTactics
import Derived.WalkKit
import Derived.Test.YtghlmengcidmdaaRows
import Derived.WalkSpells
import Derived.Lib.Hide
import Derived.Below
import Derived.WalkSmall
import Derived.Deep.RegionWith
import Derived.Laws.Cover3
import Derived.Laws.BitsAllLaws
import Derived.Maps.Range
import Derived.Outline
import Derived.Lib.SmallJoins
import Derived.Deep.Upon
import Derived.Maps.AppendAt
import Derived.Laws.OwnMore
import Derived.Deep.MidRow
import Derived.OwnWalk
import Derived.OneCell
import Derived.Laws.StructEq
import Derived.OrdersHeld
import Derived.Deep.Slices
import Derived.Deep.Fields
import Derived.SliceStrings
import Derived.ChangeSlices
section
/- What Find, Stmt and ProcOf of the reference tell: a statement by its id, where it stands. Conditions: the program lies in memory. -/
namespace Go.Proofs.Ytghlmengcidmdaa.Tr
open Go.RowKit Go.Proofs.Ytghlmengcidmdaa.Lx Go.Proofs.Ytghlmengcidmdaa.Wd
set_option linter.unusedSimpArgs false
/-- The first statement of an id, as the reference finds it. -/
def find6 (id : Int) : List Pc → Option (It × ByteArray)
  | [] => none
  | f :: r => match (flatOf f).find? (fun i => i.s.id == id) with
    | some i => some (i, f.nm)
    | none => find6 id r
theorem find6_none {id : Int} : ∀ {l : List Pc}, (∀ j (hj : j < l.length), (flatOf l[j]).find? (fun i => i.s.id == id) = none) → find6 id l = none := by
  intro l
  induction l with
  | nil => intro _; rfl
  | cons f r ih =>
    intro h
    have h0 := h 0 (by simp)
    rw [List.getElem_cons_zero] at h0
    rw [find6, h0]
    exact ih fun j hj => by have := h (j + 1) (by simpa using hj); rwa [List.getElem_cons_succ] at this
theorem find6_some {id : Int} : ∀ {l : List Pc} {k : Nat} (hk : k < l.length) {i : It}, (∀ j (hj : j < l.length), j < k → (flatOf l[j]).find? (fun i => i.s.id == id) = none) → (flatOf l[k]).find? (fun i => i.s.id == id) = some i → find6 id l = some (i, l[k].nm) := by
  intro l
  induction l with
  | nil => intro k hk; exact absurd hk (by simp)
  | cons f r ih =>
    intro k hk i h0 h1
    cases k with
    | zero =>
      rw [List.getElem_cons_zero] at h1
      rw [find6, h1]
      rfl
    | succ k =>
      have h2 := h0 0 (by simp) (by omega)
      rw [List.getElem_cons_zero] at h2
      rw [find6, h2]
      rw [List.getElem_cons_succ] at h1
      exact ih (by simpa using hk) (fun j hj hjk => by have := h0 (j + 1) (by simpa using hj) (by omega); rwa [List.getElem_cons_succ] at this) h1
theorem setCells_cell {w : World} {R g j : Nat} {u : Value} {vs : List Value} (h : w.cell? ⟨g, j, none⟩ = some u) (hg : g ≠ R) : (w.setCells R 0 vs).cell? ⟨g, j, none⟩ = some u := by
  rw [World.cell?_setCells_out R vs 0 w ⟨g, j, none⟩ (fun hb _ => absurd hb hg)]
  exact h
theorem setCells_box {w : World} {R g : Nat} {cs vs : List Value} (h : BoxAt w g cs) (hg : R ≠ g) : BoxAt (w.setCells R 0 vs) g cs := fun j u hu => setCells_cell (h j u hu) (Ne.symm hg)
/-- An item of a row whose things hang low. -/
theorem row_open {B d n c : Nat} {w : World} {ia : Option Addr} {l : List It} {rows : List (List Value)} (h : RowT B d w (.slice ia n c) l rows) {q : Nat} (hq : q < l.length) : ∃ g off, ia = some ⟨g, off, none⟩ ∧ ∃ (la ka aa ta ea : Option Addr) (lc kc ac tc ec : Nat),
    (∀ j u, ([.int .i64 l[q].s.id, .int .i64 l[q].s.kind, .slice la l[q].s.labels.length lc, .string l[q].s.nm, .string l[q].s.proc, .int .i64 l[q].s.x.op, .int .i64 l[q].s.x.n, .string l[q].s.x.nm, .slice ka l[q].s.x.ks.length kc, .bool l[q].s.has, .slice aa l[q].s.args.length ac, .slice ta l[q].s.thn.length tc, .slice ea l[q].s.els.length ec, .int .i64 l[q].deep, .int .i64 l[q].inn, .bool l[q].els] : List Value)[j]? = some u → w.cell? ⟨g, off + q * 16 + j, none⟩ = some u)
    ∧ (∀ w', Cs.le (lowC B w) (cw w') → Hang d w' l[q].s (.slice la l[q].s.labels.length lc) (.slice ka l[q].s.x.ks.length kc) (.slice aa l[q].s.args.length ac) (.slice ta l[q].s.thn.length tc) (.slice ea l[q].s.els.length ec)) ∧ OkE l[q].s.x ∧ InI l[q].s.id ∧ InI l[q].s.kind ∧ l[q].s.nm.size ≤ 9223372036854775807 ∧ l[q].s.proc.size ≤ 9223372036854775807 ∧ InI l[q].deep ∧ InI l[q].inn := by
  have hlen := h.len
  have hown := h.own
  rcases h.own.2 with ⟨hv, hn⟩ | ⟨g, cap, cur, hv, h1, h2, h3, h4, h5, h6⟩
  · omega
  · injection hv with e1 e2 e3
    refine ⟨g, 0, e1, ?_⟩
    obtain ⟨kv, lv, av, tv, ev, hc, k1, k2, k3, k4, k5, k6, k7, k8, k9, k10, k11, k12⟩ := h.each q hq (by omega)
    obtain ⟨la, lc, rfl, -, -⟩ := k7.form
    obtain ⟨aa, ac, rfl, -, -⟩ := k8.form
    obtain ⟨ta, tc, rfl, -, -⟩ := k9.form
    obtain ⟨ea, ec, rfl, -, -⟩ := k10.form
    obtain ⟨ka, kc, rfl, -, -⟩ := k2.form
    refine ⟨la, ka, aa, ta, ea, lc, kc, ac, tc, ec, fun j u hu => ?_, fun w' hle => ⟨StrC.mono hle k7, ExC.mono hle k2, SlAt.imp k8 (fun _ _ _ _ => ArAt.mono hle), StC.mono hle k9, StC.mono hle k10⟩, k1, k3, k4, k5, k6, k11, k12⟩
    have := hown.cells (g := g) (by rw [e1]; rfl) (q * 16 + j) u (flat_get rows q j u h.wide (by omega) (by rw [hc]; exact hu))
    rw [Addr.add_lit, Nat.zero_add] at this
    rw [Nat.zero_add]
    exact this
def Found6 (B d : Nat) (r : Option (It × ByteArray)) (w : World) (e : Ending) (w' : World) : Prop := match r with
  | some (t, nm) => ∃ (la ka aa ta ea : Option Addr) (lc kc ac tc ec : Nat), e = .returned (.tuple #[.agg #[.int .i64 t.s.id, .int .i64 t.s.kind, .slice la t.s.labels.length lc, .string t.s.nm, .string t.s.proc, .int .i64 t.s.x.op, .int .i64 t.s.x.n, .string t.s.x.nm, .slice ka t.s.x.ks.length kc, .bool t.s.has, .slice aa t.s.args.length ac, .slice ta t.s.thn.length tc, .slice ea t.s.els.length ec, .int .i64 t.deep, .int .i64 t.inn, .bool t.els], .string nm, .bool true]) ∧ (∀ w2, Cs.le (lowC B w') (cw w2) → Hang d w2 t.s (.slice la t.s.labels.length lc) (.slice ka t.s.x.ks.length kc) (.slice aa t.s.args.length ac) (.slice ta t.s.thn.length tc) (.slice ea t.s.els.length ec)) ∧ OkE t.s.x ∧ InI t.s.id ∧ InI t.s.kind ∧ t.s.nm.size ≤ 9223372036854775807 ∧ t.s.proc.size ≤ 9223372036854775807 ∧ InI t.deep ∧ InI t.inn ∧ Below w.heap.size w w'
  | none => e = .returned (.tuple #[.agg #[.int .i64 0, .int .i64 0, .slice none 0 0, .string ⟨#[]⟩, .string ⟨#[]⟩, .int .i64 0, .int .i64 0, .string ⟨#[]⟩, .slice none 0 0, .bool false, .slice none 0 0, .slice none 0 0, .slice none 0 0, .int .i64 0, .int .i64 0, .bool false], .string ⟨#[]⟩, .bool false]) ∧ Below w.heap.size w w'
set_option maxHeartbeats 8000000 in
set_option maxRecDepth 100000 in
theorem find6_any (B d : Nat) (p : Pr) (gv pv : Value) (id : Int) (w : World) (hBw : B ≤ w.heap.size) (hp : PrC (lowC B w) d gv pv p) :
    Calls Try.prog 56 #[.agg #[gv, pv], .int .i64 id] w (Found6 B d (find6 id p.procs) w) := by
  obtain ⟨ga, gc, rfl, hgl1, hgl2⟩ := hp.1.form
  obtain ⟨pa, pc, rfl, hl1, hl2⟩ := hp.2.form
  have hpl : p.procs.length ≤ 9223372036854775807 := Nat.le_trans hl1 hl2
  have HP := Lib.hid hp
  clear hp hl1 hl2 hgl1 hgl2
  go_enter Try.func56, Try.ntmps56
  go_upto_region 1 with fail
  refine cut_world (fun wx => Below w.heap.size w wx ∧ wx.heap.size = w.heap.size + 1 + 1 ∧ BoxAt wx w.heap.size [.slice ga p.globals.length gc, .slice pa p.procs.length pc] ∧ BoxAt wx (w.heap.size + 1) [.int .i64 0, .int .i64 0, .slice none 0 0, .string ⟨#[]⟩, .string ⟨#[]⟩, .int .i64 0, .int .i64 0, .string ⟨#[]⟩, .slice none 0 0, .bool false, .slice none 0 0, .slice none 0 0, .slice none 0 0, .int .i64 0, .int .i64 0, .bool false] ∧ Free wx (w.heap.size + 1)) ⟨(boxed w _).alloc (by simp) _, by simp, (box_new w #[.slice ga p.globals.length gc, .slice pa p.procs.length pc] 25).next (boxed _ _), box_two w _ #[.int .i64 0, .int .i64 0, .slice none 0 0, .string ⟨#[]⟩, .string ⟨#[]⟩, .int .i64 0, .int .i64 0, .string ⟨#[]⟩, .slice none 0 0, .bool false, .slice none 0 0, .slice none 0 0, .slice none 0 0, .int .i64 0, .int .i64 0, .bool false] 76, free_two w _ _ _⟩ ?_
  rintro w1 ⟨hb1, hz1', hx1, hr1, hf1⟩
  obtain ⟨R, hR⟩ : ∃ R, R = w.heap.size + 1 := ⟨_, rfl⟩
  rw [← hR] at hr1 hf1
  try rw [← hR]
  have hRw : w.heap.size < R := by omega
  have hR1 : R < w1.heap.size := by omega
  have HB1 := Lib.hid hb1
  have HX1 := Lib.hid hx1
  have HR1 := Lib.hid hr1
  have HF1 := Lib.hid hf1
  have HP1 := Lib.hid (PrC.mono (low_next hb1) HP.out)
  clear hb1 hx1 hr1 hf1 hz1' hR
  have x1 := HX1.out 1 _ rfl
  go_wp2_with fail
  clear x1
  go_loopw [14] (fun i wr => ∃ k : Nat, k ≤ p.procs.length ∧ i = .int .i64 k ∧ (∀ j (hj : j < p.procs.length), j < k → (flatOf p.procs[j]).find? (fun i => i.s.id == id) = none) ∧ Below w1.heap.size w1 wr) (fun i _ => (p.procs.length - intOf i).toNat)
  case atStart => exact ⟨0, by omega, rfl, fun j _ h => absurd h (by omega), Below.refl _ _⟩
  case round =>
    obtain ⟨k, hk, rfl, hno, hbr⟩ := hrel
    obtain ⟨w2, hw2⟩ : ∃ x : World, x = wr := ⟨_, rfl⟩
    subst hw2
    have HNO := Lib.hid hno
    have HBR2 := Lib.hid hbr
    have HX2 := Lib.hid (HX1.out.next hbr)
    have HR2 := Lib.hid (HR1.out.next hbr)
    have HF2 := Lib.hid (HF1.out.next hR1 hbr)
    have HB2 := Lib.hid (HB1.out.trans (hbr.mono HB1.out.size))
    have hR2 : R < w2.heap.size := by have := hbr.size; omega
    have HP2 := Lib.hid (PrC.mono (low_next hbr) HP1.out)
    clear hno hbr
    by_cases hlt : k < p.procs.length
    · have hlt' : (k : Int) < (p.procs.length : Int) := by omega
      have h0k : (0 : Int) ≤ (k : Int) := by omega
      obtain ⟨g, off, hvp, qv, vv, bv, fv, p0, p1, p2, p3, p4, hnm, hps, hvs, hbody, hfin⟩ := procs_at HP2.out.2 hlt
      cases hvp
      obtain ⟨f, hf⟩ : ∃ f, Hid (p.procs[k] = f) := ⟨_, Lib.hid rfl⟩
      rw [hf.out] at p0 hnm hps hvs hbody hfin
      obtain ⟨a1, c1, rfl, -, -⟩ := hps.form
      obtain ⟨a2, c2, rfl, -, -⟩ := hvs.form
      obtain ⟨a3, c3, rfl, -, -⟩ := hbody.form
      obtain ⟨a4, c4, rfl, -, -⟩ := hfin.form
      have e0 : w2.cell? ⟨g, off + k * 5, none⟩ = _ := p0.2
      have e1 : w2.cell? ⟨g, off + k * 5 + 1, none⟩ = _ := p1.2
      have e2 : w2.cell? ⟨g, off + k * 5 + 2, none⟩ = _ := p2.2
      have e3 : w2.cell? ⟨g, off + k * 5 + 3, none⟩ = _ := p3.2
      have e4 : w2.cell? ⟨g, off + k * 5 + 4, none⟩ = _ := p4.2
      have HNM := Lib.hid hnm
      have HH1 := Lib.hid hps
      have HH2 := Lib.hid hvs
      have HH3 := Lib.hid hbody
      have HH4 := Lib.hid hfin
      clear p0 p1 p2 p3 p4 hnm hps hvs hbody hfin
      have HK := Lib.hid hf.out
      go_upto_region 4 with fail
      refine cut_world (fun wx => Below w2.heap.size w2 wx ∧ BoxAt wx w2.heap.size [.string f.nm, .slice a1 f.params.length c1, .slice a2 f.vars.length c2, .slice a3 f.body.length c3, .slice a4 f.fin.length c4]) ⟨boxed w2 _, box_new w2 #[.string f.nm, .slice a1 f.params.length c1, .slice a2 f.vars.length c2, .slice a3 f.body.length c3, .slice a4 f.fin.length c4] 55⟩ ?_
      clear e0 e1 e2 e3 e4
      rintro w3 ⟨hb3, hy3⟩
      have HY3 := Lib.hid hy3
      have HX3 := Lib.hid (HX2.out.next hb3)
      have HR3 := Lib.hid (HR2.out.next hb3)
      have HF3 := Lib.hid (HF2.out.next hR2 hb3)
      have HB3 := Lib.hid (HB2.out.trans (hb3.mono HB2.out.size))
      have HBR3 := Lib.hid (HBR2.out.trans (hb3.mono HBR2.out.size))
      have hR3 : R < w3.heap.size := by have := hb3.size; omega
      have HC3 := Lib.hid (StC.mono (low_next hb3) HH3.out)
      clear hb3 hy3
      have y0 := HY3.out 0 _ rfl
      have y1 := HY3.out 1 _ rfl
      have y2 := HY3.out 2 _ rfl
      have y3 := HY3.out 3 _ rfl
      have y4 := HY3.out 4 _ rfl
      go_wp2_with fail
      refine (flatB_any B d f _ _ _ _ _ (Nat.le_trans hBw HB3.out.size) HC3.out).mono ?_
      rintro e w4 ⟨pv4, rows, rfl, hi4, hb4⟩
      obtain ⟨x1, x2, -, hil1, hil2⟩ := hi4.sl.form
      obtain ⟨ia, ic, rfl⟩ := ownsForm hi4.own
      obtain ⟨PT, hPT⟩ : ∃ L, Hid (flatOf f = L) := ⟨_, Lib.hid rfl⟩
      have hil : (flatOf f).length ≤ 9223372036854775807 := Nat.le_trans hil1 hil2
      rw [hPT.out] at hi4 hil
      rw [hPT.out]
      have HI4 := Lib.hid hi4
      have HX4 := Lib.hid (HX3.out.next hb4)
      have HR4 := Lib.hid (HR3.out.next hb4)
      have HF4 := Lib.hid (HF3.out.next hR3 hb4)
      have HB4 := Lib.hid (HB3.out.trans (hb4.mono HB3.out.size))
      have HY4 := Lib.hid (HY3.out.next hb4)
      have HBR4 := Lib.hid (HBR3.out.trans (hb4.mono HBR3.out.size))
      have hR4 : R < w4.heap.size := by have := hb4.size; omega
      clear hi4 hb4 hil1 hil2 y0 y1 y2 y3 y4
      go_wp2_with fail
      obtain ⟨W4, hW4⟩ : ∃ x : World, x = w4 := ⟨_, rfl⟩
      subst hW4
      go_loopw [21] (fun i wr => ∃ q : Nat, q ≤ PT.length ∧ i = .int .i64 q ∧ (∀ j (hj : j < PT.length), j < q → (PT[j].s.id == id) = false) ∧ Below W4.heap.size W4 wr) (fun i _ => (PT.length - intOf i).toNat)
      case atStart => exact ⟨0, by omega, rfl, fun j _ h => absurd h (by omega), Below.refl _ _⟩
      case round =>
        obtain ⟨q, hq, rfl, hnq, hbq⟩ := hrel
        obtain ⟨w5, hw5⟩ : ∃ x : World, x = wr := ⟨_, rfl⟩
        subst hw5
        have HNQ := Lib.hid hnq
        have HBQ5 := Lib.hid hbq
        have HX5 := Lib.hid (HX4.out.next hbq)
        have HR5 := Lib.hid (HR4.out.next hbq)
        have HF5 := Lib.hid (HF4.out.next hR4 hbq)
        have HB5 := Lib.hid (HB4.out.trans (hbq.mono HB4.out.size))
        have HY5 := Lib.hid (HY4.out.next hbq)
        have HBR5 := Lib.hid (HBR4.out.trans (hbq.mono HBR4.out.size))
        have hR5 : R < w5.heap.size := by have := hbq.size; omega
        have HI5 := Lib.hid (HI4.out.next hbq)
        clear hnq hbq
        by_cases hlq : q < PT.length
        · have hlq' : (q : Int) < (PT.length : Int) := by omega
          have h0q : (0 : Int) ≤ (q : Int) := by omega
          obtain ⟨gi, oi, hvi, la, ka, aa, ta, ea, lc, kc, ac, tc, ec, hfi⟩ := row_open HI5.out hlq
          cases hvi
          have hfa := fun h => fst_at hlq (f := fun i : It => i.s.id == id) (fun j hj hjk => HNQ.out j hj hjk) h
          obtain ⟨t, ht⟩ : ∃ t, Hid (PT[q] = t) := ⟨_, Lib.hid rfl⟩
          rw [ht.out] at hfi hfa
          obtain ⟨hce, hha, hok, j1, j2, j3, j4, j5, j6⟩ := hfi
          have HCE := Lib.hid hce
          have HHA := Lib.hid hha
          have HFA := Lib.hid hfa
          have HOK := Lib.hid hok
          have HJ := Lib.hid (And.intro j1 (And.intro j2 (And.intro j3 (And.intro j4 (And.intro j5 j6)))))
          clear hce hha hfa hok j1 j2 j3 j4 j5 j6
          have HI0 : Hid (BoxAt (w5.alloc (.cells #[.int .i64 0, .int .i64 0, .slice none 0 0, .string ⟨#[]⟩, .string ⟨#[]⟩, .int .i64 0, .int .i64 0, .string ⟨#[]⟩, .slice none 0 0, .bool false, .slice none 0 0, .slice none 0 0, .slice none 0 0, .int .i64 0, .int .i64 0, .bool false] 76)) w5.heap.size [.int .i64 0, .int .i64 0, .slice none 0 0, .string ⟨#[]⟩, .string ⟨#[]⟩, .int .i64 0, .int .i64 0, .string ⟨#[]⟩, .slice none 0 0, .bool false, .slice none 0 0, .slice none 0 0, .slice none 0 0, .int .i64 0, .int .i64 0, .bool false]) := Lib.hid (box_new w5 #[.int .i64 0, .int .i64 0, .slice none 0 0, .string ⟨#[]⟩, .string ⟨#[]⟩, .int .i64 0, .int .i64 0, .string ⟨#[]⟩, .slice none 0 0, .bool false, .slice none 0 0, .slice none 0 0, .slice none 0 0, .int .i64 0, .int .i64 0, .bool false] 76)
          have HF0 : Hid (Free (w5.alloc (.cells #[.int .i64 0, .int .i64 0, .slice none 0 0, .string ⟨#[]⟩, .string ⟨#[]⟩, .int .i64 0, .int .i64 0, .string ⟨#[]⟩, .slice none 0 0, .bool false, .slice none 0 0, .slice none 0 0, .slice none 0 0, .int .i64 0, .int .i64 0, .bool false] 76)) w5.heap.size) := Lib.hid (fun j => by simp [go_sem])
          have hzi := World.size_alloc w5 (.cells #[.int .i64 0, .int .i64 0, .slice none 0 0, .string ⟨#[]⟩, .string ⟨#[]⟩, .int .i64 0, .int .i64 0, .string ⟨#[]⟩, .slice none 0 0, .bool false, .slice none 0 0, .slice none 0 0, .slice none 0 0, .int .i64 0, .int .i64 0, .bool false] 76)
          go_upto_region 7 with (first | refine wpList_load_mid rfl 76 (.tmp 23) rfl gi (oi + q * 16) rfl [.int .i64 t.s.id, .int .i64 t.s.kind, .slice la t.s.labels.length lc, .string t.s.nm, .string t.s.proc, .int .i64 t.s.x.op, .int .i64 t.s.x.n, .string t.s.x.nm, .slice ka t.s.x.ks.length kc, .bool t.s.has, .slice aa t.s.args.length ac, .slice ta t.s.thn.length tc, .slice ea t.s.els.length ec, .int .i64 t.deep, .int .i64 t.inn, .bool t.els] _ (fun j v hv => HCE.out j v hv) Try.underlying76 rfl (by kernel_rfl) ?_ | refine wpList_store_mid rfl 76 (.tmp 10) (.tmp 24) rfl w5.heap.size 0 #[.int .i64 t.s.id, .int .i64 t.s.kind, .slice la t.s.labels.length lc, .string t.s.nm, .string t.s.proc, .int .i64 t.s.x.op, .int .i64 t.s.x.n, .string t.s.x.nm, .slice ka t.s.x.ks.length kc, .bool t.s.has, .slice aa t.s.args.length ac, .slice ta t.s.thn.length tc, .slice ea t.s.els.length ec, .int .i64 t.deep, .int .i64 t.inn, .bool t.els] rfl rfl (box_there (n := 16) HI0.out HF0.out (by simp)) (by kernel_rfl) (by simp [Value.oneCell']) ?_)
          refine cut_world (fun wx => Below w5.heap.size w5 wx ∧ BoxAt wx w5.heap.size [.int .i64 t.s.id, .int .i64 t.s.kind, .slice la t.s.labels.length lc, .string t.s.nm, .string t.s.proc, .int .i64 t.s.x.op, .int .i64 t.s.x.n, .string t.s.x.nm, .slice ka t.s.x.ks.length kc, .bool t.s.has, .slice aa t.s.args.length ac, .slice ta t.s.thn.length tc, .slice ea t.s.els.length ec, .int .i64 t.deep, .int .i64 t.inn, .bool t.els]) ⟨setCells_below _ _ (boxed w5 _) (Nat.le_refl _), box_over (old := [.int .i64 0, .int .i64 0, .slice none 0 0, .string ⟨#[]⟩, .string ⟨#[]⟩, .int .i64 0, .int .i64 0, .string ⟨#[]⟩, .slice none 0 0, .bool false, .slice none 0 0, .slice none 0 0, .slice none 0 0, .int .i64 0, .int .i64 0, .bool false]) (xs := [.int .i64 t.s.id, .int .i64 t.s.kind, .slice la t.s.labels.length lc, .string t.s.nm, .string t.s.proc, .int .i64 t.s.x.op, .int .i64 t.s.x.n, .string t.s.x.nm, .slice ka t.s.x.ks.length kc, .bool t.s.has, .slice aa t.s.args.length ac, .slice ta t.s.thn.length tc, .slice ea t.s.els.length ec, .int .i64 t.deep, .int .i64 t.inn, .bool t.els]) (rest := []) HI0.out HF0.out rfl⟩ ?_
          clear hzi HI0 HF0
          rintro w6 ⟨hb6, ht6⟩
          have HT6 := Lib.hid ht6
          have hRI : R < w5.heap.size := hR5
          have hYlt : w2.heap.size < w5.heap.size := by have := cell_lt (HY5.out 0 _ rfl); exact this
          have HR6 := Lib.hid (HR5.out.next hb6)
          have HF6 := Lib.hid (HF5.out.next hR5 hb6)
          have HB6 := Lib.hid (HB5.out.trans (hb6.mono HB5.out.size))
          have HY6 := Lib.hid (HY5.out.next hb6)
          have HBQ6 := Lib.hid (HBQ5.out.trans (hb6.mono HBQ5.out.size))
          have hR6 : R < w6.heap.size := by have := hb6.size; omega
          have HLE6 := Lib.hid (low_next (B := B) hb6)
          clear hb6 ht6
          have t0 := HT6.out 0 _ rfl
          cases hid : (t.s.id == id) with
          | false =>
            have HID := Lib.hid hid
            go_wp2_with fail
            go_roundw
            case rel =>
              refine ⟨q + 1, by omega, by go_num, fun j hj hjk => ?_, HBQ6.out⟩
              rcases Nat.lt_or_ge j q with h | h
              · exact HNQ.out j hj h
              · obtain rfl : j = q := by omega
                rw [ht.out]; exact HID.out
            case measure => simp [intOf]; omega
          | true =>
            have hfd : find6 id p.procs = some (t, f.nm) := by
              have := find6_some (id := id) hlt (i := t) (fun j hj hjk => HNO.out j hj hjk) (by rw [hf.out, hPT.out]; exact HFA.out hid)
              rw [this, hf.out]
            have HFD := Lib.hid hfd
            clear hfd
            go_upto_region 8 with fail
            clear t0 hid
            have hq8 : Below w6.heap.size w6 w6.drew := (Below.refl _ _).drew
            refine wp_region_z (fun w' => BoxAt w' w5.heap.size [.int .i64 t.s.id, .int .i64 t.s.kind, .slice la t.s.labels.length lc, .string t.s.nm, .string t.s.proc, .int .i64 t.s.x.op, .int .i64 t.s.x.n, .string t.s.x.nm, .slice ka t.s.x.ks.length kc, .bool t.s.has, .slice aa t.s.args.length ac, .slice ta t.s.thn.length tc, .slice ea t.s.els.length ec, .int .i64 t.deep, .int .i64 t.inn, .bool t.els] ∧ BoxAt w' w2.heap.size [.string f.nm, .slice a1 f.params.length c1, .slice a2 f.vars.length c2, .slice a3 f.body.length c3, .slice a4 f.fin.length c4]) 5 (by kernel_rfl) ⟨HT6.out.next hq8, HY6.out.next hq8⟩ (fun hS => ?_)
            show wpAnyZ _ _ _ _ _ _ 6 #[false, false, false, false, false, false] _ _
            refine' wpAnyZ_take (i := 0) (oi := _) (v := .agg #[.int .i64 t.s.id, .int .i64 t.s.kind, .slice la t.s.labels.length lc, .string t.s.nm, .string t.s.proc, .int .i64 t.s.x.op, .int .i64 t.s.x.n, .string t.s.x.nm, .slice ka t.s.x.ks.length kc, .bool t.s.has, .slice aa t.s.args.length ac, .slice ta t.s.thn.length tc, .slice ea t.s.els.length ec, .int .i64 t.deep, .int .i64 t.inn, .bool t.els]) rfl (by kernel_rfl) (by kernel_rfl) (by kernel_rfl) (by kernel_rfl) (fun _ _ _ h => h) (yieldsIf_load_mid (by rfl) 76 (.tmp 10) rfl w5.heap.size 0 (by rfl) [.int .i64 t.s.id, .int .i64 t.s.kind, .slice la t.s.labels.length lc, .string t.s.nm, .string t.s.proc, .int .i64 t.s.x.op, .int .i64 t.s.x.n, .string t.s.x.nm, .slice ka t.s.x.ks.length kc, .bool t.s.has, .slice aa t.s.args.length ac, .slice ta t.s.thn.length tc, .slice ea t.s.els.length ec, .int .i64 t.deep, .int .i64 t.inn, .bool t.els] _ (fun w' hSw j v hv => by rw [Nat.zero_add]; exact hSw.1 j v hv) Try.underlying76 rfl (by kernel_rfl)) hS ?rest0
            try simp only [Act.put, List.getElem_toArray, List.getElem_cons_succ, List.getElem_cons_zero, List.setIfInBounds_toArray, List.set_cons_zero, List.set_cons_succ]
            refine' wpAnyZ_take (i := 1) (oi := _) (v := _) rfl (by kernel_rfl) (by kernel_rfl) (by kernel_rfl) (by kernel_rfl) (fun _ _ _ h => h) (Or.inl ⟨by rfl, ?hy1⟩) hS ?rest1
            case hy1 => (intro w hSw; have c0 := hSw.2 0 _ rfl; clear hSw; go_simp; (try with_reducible rfl))
            try simp only [Act.put, List.getElem_toArray, List.getElem_cons_succ, List.getElem_cons_zero, List.setIfInBounds_toArray, List.set_cons_zero, List.set_cons_succ]
            refine' wpAnyZ_take (i := 2) (oi := _) (v := _) rfl (by kernel_rfl) (by kernel_rfl) (by kernel_rfl) (by kernel_rfl) (fun _ _ _ h => h) (Or.inl ⟨by rfl, ?hy2⟩) hS ?rest2
            case hy2 => (intro w hSw; have c0 := hSw.2 0 _ rfl; clear hSw; go_simp; (try with_reducible rfl))
            try simp only [Act.put, List.getElem_toArray, List.getElem_cons_succ, List.getElem_cons_zero, List.setIfInBounds_toArray, List.set_cons_zero, List.set_cons_succ]
            have HR7 := Lib.hid (HR6.out.next hq8)
            have HF7 := Lib.hid (HF6.out.next hR6 hq8)
            have HT7 := Lib.hid (HT6.out.next hq8)
            have HY7 := Lib.hid (HY6.out.next hq8)
            have hne1 : R ≠ w5.heap.size := by omega
            have hne2 : R ≠ w2.heap.size := by have := HX2.out; omega
            refine' wpAnyZ_step (i := 3) (o := _) rfl (by kernel_rfl) (fun K hK => ?_)
            rw [if_pos (by rfl)]
            refine wp_store_mid 76 (.tmp 4) (.tmp 30) rfl R 0 #[.int .i64 t.s.id, .int .i64 t.s.kind, .slice la t.s.labels.length lc, .string t.s.nm, .string t.s.proc, .int .i64 t.s.x.op, .int .i64 t.s.x.n, .string t.s.x.nm, .slice ka t.s.x.ks.length kc, .bool t.s.has, .slice aa t.s.args.length ac, .slice ta t.s.thn.length tc, .slice ea t.s.els.length ec, .int .i64 t.deep, .int .i64 t.inn, .bool t.els] rfl rfl (box_there (n := 16) HR7.out HF7.out (by simp)) (by kernel_rfl) (by simp [Value.oneCell']) ?_
            have hS8 : BoxAt (w6.drew.setCells R 0 [.int .i64 t.s.id, .int .i64 t.s.kind, .slice la t.s.labels.length lc, .string t.s.nm, .string t.s.proc, .int .i64 t.s.x.op, .int .i64 t.s.x.n, .string t.s.x.nm, .slice ka t.s.x.ks.length kc, .bool t.s.has, .slice aa t.s.args.length ac, .slice ta t.s.thn.length tc, .slice ea t.s.els.length ec, .int .i64 t.deep, .int .i64 t.inn, .bool t.els]) w5.heap.size [.int .i64 t.s.id, .int .i64 t.s.kind, .slice la t.s.labels.length lc, .string t.s.nm, .string t.s.proc, .int .i64 t.s.x.op, .int .i64 t.s.x.n, .string t.s.x.nm, .slice ka t.s.x.ks.length kc, .bool t.s.has, .slice aa t.s.args.length ac, .slice ta t.s.thn.length tc, .slice ea t.s.els.length ec, .int .i64 t.deep, .int .i64 t.inn, .bool t.els] ∧ BoxAt (w6.drew.setCells R 0 [.int .i64 t.s.id, .int .i64 t.s.kind, .slice la t.s.labels.length lc, .string t.s.nm, .string t.s.proc, .int .i64 t.s.x.op, .int .i64 t.s.x.n, .string t.s.x.nm, .slice ka t.s.x.ks.length kc, .bool t.s.has, .slice aa t.s.args.length ac, .slice ta t.s.thn.length tc, .slice ea t.s.els.length ec, .int .i64 t.deep, .int .i64 t.inn, .bool t.els]) w2.heap.size [.string f.nm, .slice a1 f.params.length c1, .slice a2 f.vars.length c2, .slice a3 f.body.length c3, .slice a4 f.fin.length c4] := ⟨setCells_box HT7.out hne1, setCells_box HY7.out hne2⟩
            refine hK _ _ (fun _ => hS8) ?_
            clear hK K
            try simp only [Act.put, List.getElem_toArray, List.getElem_cons_succ, List.getElem_cons_zero, List.setIfInBounds_toArray, List.set_cons_zero, List.set_cons_succ]
            refine' wpAnyZ_step (i := 4) (o := _) rfl (by kernel_rfl) (fun K hK => ?_)
            go_simp
            refine hK _ _ (fun _ => hS8) ?_
            clear hK K
            try simp only [Act.put, List.getElem_toArray, List.getElem_cons_succ, List.getElem_cons_zero, List.setIfInBounds_toArray, List.set_cons_zero, List.set_cons_succ]
            refine' wpAnyZ_step (i := 5) (o := _) rfl (by kernel_rfl) (fun K hK => ?_)
            go_simp
            refine hK _ _ (fun h => absurd rfl h) ?_
            clear hK K
            try simp only [Act.put, List.getElem_toArray, List.getElem_cons_succ, List.getElem_cons_zero, List.setIfInBounds_toArray, List.set_cons_zero, List.set_cons_succ]
            refine wpAnyZ_done (by kernel_rfl) ?_ _
            have hq : BoxAt (w6.drew.setCells R 0 [.int .i64 t.s.id, .int .i64 t.s.kind, .slice la t.s.labels.length lc, .string t.s.nm, .string t.s.proc, .int .i64 t.s.x.op, .int .i64 t.s.x.n, .string t.s.x.nm, .slice ka t.s.x.ks.length kc, .bool t.s.has, .slice aa t.s.args.length ac, .slice ta t.s.thn.length tc, .slice ea t.s.els.length ec, .int .i64 t.deep, .int .i64 t.inn, .bool t.els]) R [.int .i64 t.s.id, .int .i64 t.s.kind, .slice la t.s.labels.length lc, .string t.s.nm, .string t.s.proc, .int .i64 t.s.x.op, .int .i64 t.s.x.n, .string t.s.x.nm, .slice ka t.s.x.ks.length kc, .bool t.s.has, .slice aa t.s.args.length ac, .slice ta t.s.thn.length tc, .slice ea t.s.els.length ec, .int .i64 t.deep, .int .i64 t.inn, .bool t.els] := box_over (old := [.int .i64 0, .int .i64 0, .slice none 0 0, .string ⟨#[]⟩, .string ⟨#[]⟩, .int .i64 0, .int .i64 0, .string ⟨#[]⟩, .slice none 0 0, .bool false, .slice none 0 0, .slice none 0 0, .slice none 0 0, .int .i64 0, .int .i64 0, .bool false]) (xs := [.int .i64 t.s.id, .int .i64 t.s.kind, .slice la t.s.labels.length lc, .string t.s.nm, .string t.s.proc, .int .i64 t.s.x.op, .int .i64 t.s.x.n, .string t.s.x.nm, .slice ka t.s.x.ks.length kc, .bool t.s.has, .slice aa t.s.args.length ac, .slice ta t.s.thn.length tc, .slice ea t.s.els.length ec, .int .i64 t.deep, .int .i64 t.inn, .bool t.els]) (rest := []) HR7.out HF7.out rfl
            have hb8 : Below w.heap.size w (w6.drew.setCells R 0 [.int .i64 t.s.id, .int .i64 t.s.kind, .slice la t.s.labels.length lc, .string t.s.nm, .string t.s.proc, .int .i64 t.s.x.op, .int .i64 t.s.x.n, .string t.s.x.nm, .slice ka t.s.x.ks.length kc, .bool t.s.has, .slice aa t.s.args.length ac, .slice ta t.s.thn.length tc, .slice ea t.s.els.length ec, .int .i64 t.deep, .int .i64 t.inn, .bool t.els]) := setCells_below _ _ (HB6.out.trans (hq8.mono HB6.out.size)) (Nat.le_of_lt hRw)
            have hle : Cs.le (lowC B w6) (lowC B (w6.drew.setCells R 0 [.int .i64 t.s.id, .int .i64 t.s.kind, .slice la t.s.labels.length lc, .string t.s.nm, .string t.s.proc, .int .i64 t.s.x.op, .int .i64 t.s.x.n, .string t.s.x.nm, .slice ka t.s.x.ks.length kc, .bool t.s.has, .slice aa t.s.args.length ac, .slice ta t.s.thn.length tc, .slice ea t.s.els.length ec, .int .i64 t.deep, .int .i64 t.inn, .bool t.els])) := fun g j u ⟨hg, hu⟩ => ⟨hg, setCells_cell (cell_next hq8 hu) (by omega)⟩
            have HHZ := Lib.hid (fun w2 h => HHA.out w2 (Cs.le_trans HLE6.out (Cs.le_trans hle h)))
            have HB8 := Lib.hid hb8
            clear hS hS8 hq8 hb8 hle
            have q0 := hq 0 _ rfl
            have q1 := hq 1 _ rfl
            have q2 := hq 2 _ rfl
            have q3 := hq 3 _ rfl
            have q4 := hq 4 _ rfl
            have q5 := hq 5 _ rfl
            have q6 := hq 6 _ rfl
            have q7 := hq 7 _ rfl
            have q8 := hq 8 _ rfl
            have q9 := hq 9 _ rfl
            have q10 := hq 10 _ rfl
            have q11 := hq 11 _ rfl
            have q12 := hq 12 _ rfl
            have q13 := hq 13 _ rfl
            have q14 := hq 14 _ rfl
            have q15 := hq 15 _ rfl
            go_wp2_with fail
            refine bodyPost_ret (v := .tuple #[.agg #[.int .i64 t.s.id, .int .i64 t.s.kind, .slice la t.s.labels.length lc, .string t.s.nm, .string t.s.proc, .int .i64 t.s.x.op, .int .i64 t.s.x.n, .string t.s.x.nm, .slice ka t.s.x.ks.length kc, .bool t.s.has, .slice aa t.s.args.length ac, .slice ta t.s.thn.length tc, .slice ea t.s.els.length ec, .int .i64 t.deep, .int .i64 t.inn, .bool t.els], .string f.nm, .bool true]) (by simp [results, Try.results56, go_sem, q0, q1, q2, q3, q4, q5, q6, q7, q8, q9, q10, q11, q12, q13, q14, q15]) rfl ?_
            rw [show find6 id p.procs = some (t, f.nm) from HFD.out]
            obtain ⟨j1, j2, j3, j4, j5, j6⟩ := HJ.out
            exact ⟨la, ka, aa, ta, ea, lc, kc, ac, tc, ec, rfl, HHZ.out, HOK.out, j1, j2, j3, j4, j5, j6, HB8.out⟩
        · have hlq' : ¬ (q : Int) < (PT.length : Int) := by omega
          have hnf : (flatOf f).find? (fun i => i.s.id == id) = none := by rw [hPT.out]; exact fst_no fun j hj => HNQ.out j hj (by omega)
          have HNF := Lib.hid hnf
          clear hnf
          go_wp2_with fail
          go_roundw
          case rel =>
            refine ⟨k + 1, by omega, by go_num, fun j hj hjk => ?_, HBR5.out⟩
            rcases Nat.lt_or_ge j k with h | h
            · exact HNO.out j hj h
            · obtain rfl : j = k := by omega
              rw [hf.out]; exact HNF.out
          case measure => simp [intOf]; omega
    · have hlt' : ¬ (k : Int) < (p.procs.length : Int) := by omega
      have hfd : find6 id p.procs = none := find6_none fun j hj => HNO.out j hj (by omega)
      have HFD := Lib.hid hfd
      clear hfd
      have hok : Below w.heap.size w (w2.setCells R 0 [.int .i64 0, .int .i64 0, .slice none 0 0, .string ⟨#[]⟩, .string ⟨#[]⟩, .int .i64 0, .int .i64 0, .string ⟨#[]⟩, .slice none 0 0, .bool false, .slice none 0 0, .slice none 0 0, .slice none 0 0, .int .i64 0, .int .i64 0, .bool false]) := setCells_below _ _ HB2.out (Nat.le_of_lt hRw)
      have hq : BoxAt (w2.setCells R 0 [.int .i64 0, .int .i64 0, .slice none 0 0, .string ⟨#[]⟩, .string ⟨#[]⟩, .int .i64 0, .int .i64 0, .string ⟨#[]⟩, .slice none 0 0, .bool false, .slice none 0 0, .slice none 0 0, .slice none 0 0, .int .i64 0, .int .i64 0, .bool false]) R [.int .i64 0, .int .i64 0, .slice none 0 0, .string ⟨#[]⟩, .string ⟨#[]⟩, .int .i64 0, .int .i64 0, .string ⟨#[]⟩, .slice none 0 0, .bool false, .slice none 0 0, .slice none 0 0, .slice none 0 0, .int .i64 0, .int .i64 0, .bool false] := box_over (old := [.int .i64 0, .int .i64 0, .slice none 0 0, .string ⟨#[]⟩, .string ⟨#[]⟩, .int .i64 0, .int .i64 0, .string ⟨#[]⟩, .slice none 0 0, .bool false, .slice none 0 0, .slice none 0 0, .slice none 0 0, .int .i64 0, .int .i64 0, .bool false]) (xs := [.int .i64 0, .int .i64 0, .slice none 0 0, .string ⟨#[]⟩, .string ⟨#[]⟩, .int .i64 0, .int .i64 0, .string ⟨#[]⟩, .slice none 0 0, .bool false, .slice none 0 0, .slice none 0 0, .slice none 0 0, .int .i64 0, .int .i64 0, .bool false]) (rest := []) HR2.out HF2.out rfl
      have hth : w2.there R 0 16 := box_there (n := 16) HR2.out HF2.out (by simp)
      have q0 := hq 0 _ rfl
      have q1 := hq 1 _ rfl
      have q2 := hq 2 _ rfl
      have q3 := hq 3 _ rfl
      have q4 := hq 4 _ rfl
      have q5 := hq 5 _ rfl
      have q6 := hq 6 _ rfl
      have q7 := hq 7 _ rfl
      have q8 := hq 8 _ rfl
      have q9 := hq 9 _ rfl
      have q10 := hq 10 _ rfl
      have q11 := hq 11 _ rfl
      have q12 := hq 12 _ rfl
      have q13 := hq 13 _ rfl
      have q14 := hq 14 _ rfl
      have q15 := hq 15 _ rfl
      go_wp2_with (refine wpList_store_mid rfl 76 (.tmp 4) (.tmp 35) rfl R 0 #[.int .i64 0, .int .i64 0, .slice none 0 0, .string ⟨#[]⟩, .string ⟨#[]⟩, .int .i64 0, .int .i64 0, .string ⟨#[]⟩, .slice none 0 0, .bool false, .slice none 0 0, .slice none 0 0, .slice none 0 0, .int .i64 0, .int .i64 0, .bool false] rfl rfl hth (by kernel_rfl) (by simp [Value.oneCell']) ?_)
      refine bodyPost_ret (v := .tuple #[.agg #[.int .i64 0, .int .i64 0, .slice none 0 0, .string ⟨#[]⟩, .string ⟨#[]⟩, .int .i64 0, .int .i64 0, .string ⟨#[]⟩, .slice none 0 0, .bool false, .slice none 0 0, .slice none 0 0, .slice none 0 0, .int .i64 0, .int .i64 0, .bool false], .string ⟨#[]⟩, .bool false]) (by simp [results, Try.results56, go_sem, q0, q1, q2, q3, q4, q5, q6, q7, q8, q9, q10, q11, q12, q13, q14, q15]) rfl ?_
      rw [show find6 id p.procs = none from HFD.out]
      exact ⟨rfl, hok⟩
end Go.Proofs.Ytghlmengcidmdaa.Tr
end
section
/- What same and fits of arity, callFits of the reference tell. Conditions: what they are handed lies in memory. -/
namespace Go.Proofs.Ytghlmengcidmdaa.Tr
open Go.RowKit Go.Proofs.Ytghlmengcidmdaa.Lx Go.Proofs.Ytghlmengcidmdaa.Wd
set_option linter.unusedSimpArgs false
set_option maxHeartbeats 2000000 in
set_option maxRecDepth 100000 in
theorem same_any (d : Nat) (l : List Pa) (m : List Ar) (qa aa : Option Addr) (qc ac : Nat) (w : World) (hl : SlAt 2 (PaAt (cw w)) (.slice qa l.length qc) l) (hm : SlAt 6 (ArAt (cw w) d) (.slice aa m.length ac) m) :
    Calls Try.prog 117 #[.slice qa l.length qc, .slice aa m.length ac] w fun e w' => e = .returned (.bool (sameP l m)) ∧ Below w.heap.size w w' := by
  have HL := Lib.hid hl
  have HM := Lib.hid hm
  obtain ⟨x1, x2, -, h1, h2⟩ := hl.form
  obtain ⟨x3, x4, -, h3, h4⟩ := hm.form
  have hll : l.length ≤ 9223372036854775807 := Nat.le_trans h1 h2
  have hml : m.length ≤ 9223372036854775807 := Nat.le_trans h3 h4
  obtain ⟨KK, hKK⟩ : ∃ b, Hid (sameP l m = b) := ⟨_, Lib.hid rfl⟩
  rw [hKK.out]
  clear hl hm h1 h2 h3 h4
  by_cases hlen : l.length = m.length
  · have hle : ((l.length : Int) == (m.length : Int)) = true := by rw [hlen]; simp
    have hle2 : ((l.length : Int) != (m.length : Int)) = false := by rw [bne, hle]; rfl
    have HLEN := Lib.hid hlen
    clear hlen
    go_enter Try.func117, Try.ntmps117
    go_wp2_with fail
    clear hle hle2
    go_loopw [14] (fun i wr => ∃ k : Nat, k ≤ l.length ∧ i = .int .i64 k ∧ (∀ j (h1 : j < l.length) (h2 : j < m.length), j < k → l[j].ref = m[j].ref) ∧ Below w.heap.size w wr) (fun i _ => (l.length - intOf i).toNat)
    case atStart => exact ⟨0, by omega, rfl, fun j _ _ h => absurd h (by omega), Below.refl _ _⟩
    case round =>
      obtain ⟨k, hk, rfl, hno, hbr⟩ := hrel
      obtain ⟨wq, hwq⟩ : ∃ x : World, x = wr := ⟨_, rfl⟩
      subst hwq
      have HNO := Lib.hid hno
      have HBR := Lib.hid hbr
      clear hno hbr
      by_cases hlt : k < l.length
      · have hlt' : (k : Int) < (l.length : Int) := by omega
        have h0k : (0 : Int) ≤ (k : Int) := by omega
        have hltm : k < m.length := by rw [← HLEN.out]; exact hlt
        have hltm' : (k : Int) < (m.length : Int) := by omega
        have hne : l ≠ [] := by intro h; rw [h] at hlt; simp at hlt
        have hnem : m ≠ [] := by intro h; rw [h] at hltm; simp at hltm
        obtain ⟨g, off, cap', hv, _, hcells⟩ := SlAt.cells HL.out hne
        simp only [Value.slice.injEq] at hv
        obtain ⟨rfl, -, rfl⟩ := hv
        obtain ⟨gm, om, capm, hvm, _, hcm⟩ := SlAt.cells HM.out hnem
        simp only [Value.slice.injEq] at hvm
        obtain ⟨rfl, -, rfl⟩ := hvm
        obtain ⟨p0, p1, -⟩ := hcells k hlt
        have q0 := (hcm k hltm).1
        obtain ⟨b1, hb1⟩ : ∃ b, Hid (l[k].ref = b) := ⟨_, Lib.hid rfl⟩
        obtain ⟨b2, hb2⟩ : ∃ b, Hid (m[k].ref = b) := ⟨_, Lib.hid rfl⟩
        obtain ⟨nm, hnm⟩ : ∃ b, Hid (l[k].nm = b) := ⟨_, Lib.hid rfl⟩
        rw [hb1.out] at p1
        rw [hnm.out] at p0
        rw [hb2.out] at q0
        have e0 : wq.cell? ⟨g, off + k * 2, none⟩ = _ := cell_next HBR.out p0
        have e1 : wq.cell? ⟨g, off + k * 2 + 1, none⟩ = _ := cell_next HBR.out p1
        have e2 : wq.cell? ⟨gm, om + k * 6, none⟩ = _ := cell_next HBR.out q0
        have E2 := Lib.hid e2
        clear hcells hcm hne hnem p0 p1 q0 e2
        go_upto_region 6 with fail
        refine cut_world (fun wx => Below wq.heap.size wq wx ∧ BoxAt wx wq.heap.size [.string nm, .bool b1]) ⟨boxed wq _, box_new wq #[.string nm, .bool b1] 62⟩ ?_
        clear e0 e1
        rintro w2 ⟨hb2', hx2⟩
        have x1 := hx2 1 _ rfl
        have e2 := cell_next hb2' E2.out
        have HB2 := Lib.hid hb2'
        clear hb2' hx2
        by_cases hbb : b1 = b2
        · subst hbb
          have hb3 : (b1 != b1) = false := by simp
          go_quiet (fail)
          go_wp2_with fail
          go_roundw
          case rel =>
            refine ⟨k + 1, by omega, by go_num, fun j h1 h2 hjk => ?_, HBR.out.trans ((HB2.out.trans ?_).mono HBR.out.size)⟩
            · rcases Nat.lt_or_ge j k with h | h
              · exact HNO.out j h1 h2 h
              · obtain rfl : j = k := by omega
                rw [hb1.out, hb2.out]
            · first | exact below_drewN (Below.refl _ _) _ | exact (Below.refl _ _).drew
          case measure => simp [intOf]; omega
        · have hb3 : (b1 != b2) = true := by simpa using hbb
          have hb4 : (b1 == b2) = false := by simpa using hbb
          have HBB := Lib.hid hbb
          clear hbb
          go_quiet (fail)
          go_wp2_with fail
          go_ret
          refine ⟨?_, HBR.out.trans ((HB2.out.trans ?_).mono HBR.out.size)⟩
          · rw [← hKK.out, same_bad hlt hltm (by rw [hb1.out, hb2.out]; exact HBB.out)]; rfl
          · first | exact below_drewN (Below.refl _ _) _ | exact (Below.refl _ _).drew
      · have hlt' : ¬ (k : Int) < (l.length : Int) := by omega
        go_wp2_with fail
        go_ret
        exact ⟨by rw [← hKK.out, same_good HLEN.out fun j h1 h2 => HNO.out j h1 h2 (by omega)]; rfl, HBR.out⟩
  · have hle : ((l.length : Int) == (m.length : Int)) = false := by simp; omega
    have hle2 : ((l.length : Int) != (m.length : Int)) = true := by rw [bne, hle]; rfl
    have hk : KK = false := by rw [← hKK.out]; exact same_len hlen
    subst hk
    have HLEN := Lib.hid hlen
    clear hlen
    go_enter Try.func117, Try.ntmps117
    go_wp2_with fail
    go_ret
    exact ⟨rfl, Below.refl _ _⟩
set_option maxHeartbeats 4000000 in
set_option maxRecDepth 100000 in
theorem sfits_any (d : Nat) (p : Pr) (gv pv : Value) (s : St) (la ka aa ta ea : Option Addr) (lc kc ac tc ec : Nat) (w : World) (hp : PrC (cw w) d gv pv p) (hh : Hang d w s (.slice la s.labels.length lc) (.slice ka s.x.ks.length kc) (.slice aa s.args.length ac) (.slice ta s.thn.length tc) (.slice ea s.els.length ec)) :
    Calls Try.prog 66 #[.agg #[gv, pv], .agg #[.int .i64 s.id, .int .i64 s.kind, .slice la s.labels.length lc, .string s.nm, .string s.proc, .int .i64 s.x.op, .int .i64 s.x.n, .string s.x.nm, .slice ka s.x.ks.length kc, .bool s.has, .slice aa s.args.length ac, .slice ta s.thn.length tc, .slice ea s.els.length ec]] w fun e w' => e = .returned (.bool (fitsP p s)) ∧ Below w.heap.size w w' := by
  have HH := Lib.hid hh
  clear hh
  obtain ⟨ga, gc, rfl, hgl1, hgl2⟩ := hp.1.form
  obtain ⟨pa, pc, rfl, hl1, hl2⟩ := hp.2.form
  have hpl : p.procs.length ≤ 9223372036854775807 := Nat.le_trans hl1 hl2
  have HP := Lib.hid hp
  clear hp hl1 hl2 hgl1 hgl2
  obtain ⟨KK, hKK⟩ : ∃ b, Hid (fitsP p s = b) := ⟨_, Lib.hid rfl⟩
  rw [hKK.out]
  go_enter Try.func66, Try.ntmps66
  go_upto_region 1 with fail
  refine cut_world (fun wx => Below w.heap.size w wx ∧ BoxAt wx w.heap.size [.slice ga p.globals.length gc, .slice pa p.procs.length pc] ∧ BoxAt wx (w.heap.size + 1) [.int .i64 s.id, .int .i64 s.kind, .slice la s.labels.length lc, .string s.nm, .string s.proc, .int .i64 s.x.op, .int .i64 s.x.n, .string s.x.nm, .slice ka s.x.ks.length kc, .bool s.has, .slice aa s.args.length ac, .slice ta s.thn.length tc, .slice ea s.els.length ec]) ⟨(boxed w _).alloc (by simp) _, (box_new w #[.slice ga p.globals.length gc, .slice pa p.procs.length pc] 25).next (boxed _ _), box_two w _ #[.int .i64 s.id, .int .i64 s.kind, .slice la s.labels.length lc, .string s.nm, .string s.proc, .int .i64 s.x.op, .int .i64 s.x.n, .string s.x.nm, .slice ka s.x.ks.length kc, .bool s.has, .slice aa s.args.length ac, .slice ta s.thn.length tc, .slice ea s.els.length ec] 41⟩ ?_
  rintro w1 ⟨hb1, hx1, hs1⟩
  have HB1 := Lib.hid hb1
  have HX1 := Lib.hid hx1
  have HS1 := Lib.hid hs1
  have HP1 := Lib.hid (PrC.mono (cw_next hb1) HP.out)
  have HH1 := Lib.hid (HH.out.next hb1)
  clear hb1 hx1 hs1
  have s1 := HS1.out 1 _ rfl
  cases hk4 : (s.kind == 4) with
  | false =>
    have hkb2 : (s.kind != 4) = true := by rw [bne, hk4]; rfl
    have hk : KK = false := by rw [← hKK.out]; exact fits_kind hk4
    subst hk
    go_wp2_with fail
    go_ret
    exact ⟨rfl, HB1.out⟩
  | true =>
    have hkb2 : (s.kind != 4) = false := by rw [bne, hk4]; rfl
    have HK4 := Lib.hid hk4
    have x1 := HX1.out 1 _ rfl
    go_wp2_with fail
    clear x1 s1 hk4 hkb2
    go_loopw [13] (fun i wr => ∃ k : Nat, k ≤ p.procs.length ∧ i = .int .i64 k ∧ (∀ j (hj : j < p.procs.length), j < k → (p.procs[j].nm.toList == s.proc.toList) = false) ∧ Below w1.heap.size w1 wr) (fun i _ => (p.procs.length - intOf i).toNat)
    case atStart => exact ⟨0, by omega, rfl, fun j _ h => absurd h (by omega), Below.refl _ _⟩
    case round =>
      obtain ⟨k, hk, rfl, hno, hbr⟩ := hrel
      obtain ⟨wq, hwq⟩ : ∃ x : World, x = wr := ⟨_, rfl⟩
      subst hwq
      have HNO := Lib.hid hno
      have HBR := Lib.hid hbr
      have HPQ := Lib.hid (PrC.mono (cw_next hbr) HP1.out)
      have HSQ := Lib.hid (HS1.out.next hbr)
      have HHQ := Lib.hid (HH1.out.next hbr)
      have HBQ := Lib.hid (HB1.out.trans (hbr.mono HB1.out.size))
      clear hno hbr
      by_cases hlt : k < p.procs.length
      · have hlt' : (k : Int) < (p.procs.length : Int) := by omega
        have h0k : (0 : Int) ≤ (k : Int) := by omega
        have hfa := fun h => fst_at hlt (f := fun f : Pc => f.nm.toList == s.proc.toList) (fun j hj hjk => HNO.out j hj hjk) h
        obtain ⟨g, off, hvp, qv, vv, bv, fv, p0, p1, p2, p3, p4, hnm, hps, hvs, hbody, hfin⟩ := procs_at HPQ.out.2 hlt
        cases hvp
        obtain ⟨f, hf⟩ : ∃ f, Hid (p.procs[k] = f) := ⟨_, Lib.hid rfl⟩
        rw [hf.out] at p0 hnm hps hvs hbody hfin
        obtain ⟨a1, c1, rfl, -, -⟩ := hps.form
        obtain ⟨a2, c2, rfl, -, -⟩ := hvs.form
        obtain ⟨a3, c3, rfl, -, -⟩ := hbody.form
        obtain ⟨a4, c4, rfl, -, -⟩ := hfin.form
        have e0 : wq.cell? ⟨g, off + k * 5, none⟩ = _ := p0
        have e1 : wq.cell? ⟨g, off + k * 5 + 1, none⟩ = _ := p1
        have e2 : wq.cell? ⟨g, off + k * 5 + 2, none⟩ = _ := p2
        have e3 : wq.cell? ⟨g, off + k * 5 + 3, none⟩ = _ := p3
        have e4 : wq.cell? ⟨g, off + k * 5 + 4, none⟩ = _ := p4
        have HNM := Lib.hid hnm
        have HH1p := Lib.hid hps
        have HH2 := Lib.hid hvs
        have HH3 := Lib.hid hbody
        have HH4 := Lib.hid hfin
        clear p0 p1 p2 p3 p4 hnm hps hvs hbody hfin
        rw [hf.out] at hfa
        have HFA := Lib.hid hfa
        clear hfa
        go_upto_region 6 with fail
        refine cut_world (fun wx => Below wq.heap.size wq wx ∧ BoxAt wx wq.heap.size [.string f.nm, .slice a1 f.params.length c1, .slice a2 f.vars.length c2, .slice a3 f.body.length c3, .slice a4 f.fin.length c4]) ⟨boxed wq _, box_new wq #[.string f.nm, .slice a1 f.params.length c1, .slice a2 f.vars.length c2, .slice a3 f.body.length c3, .slice a4 f.fin.length c4] 55⟩ ?_
        clear e0 e1 e2 e3 e4
        rintro w5 ⟨hb5, hy5⟩
        have HB5 := Lib.hid hb5
        have HBW5 := Lib.hid (HBQ.out.trans (hb5.mono HBQ.out.size))
        have HS5 := Lib.hid (HSQ.out.next hb5)
        have HQ5 := Lib.hid (SlAt.imp HH1p.out fun _ _ _ _ => PaAt.mono (cw_next hb5))
        have HA5 := Lib.hid (HHQ.out.next hb5).arg
        have y0 := hy5 0 _ rfl
        have y1 := hy5 1 _ rfl
        have s4 := HS5.out 4 _ rfl
        have s10 := HS5.out 10 _ rfl
        clear hb5 hy5
        cases hc : (f.nm.toList == s.proc.toList) with
        | true =>
          have hk : KK = sameP f.params s.args := by rw [← hKK.out]; exact fits_some HK4.out (HFA.out hc)
          have HK := Lib.hid hk
          clear hk
          go_wp2_with fail
          refine (same_any d f.params s.args _ _ _ _ _ HQ5.out HA5.out).mono ?_
          rintro e w6 ⟨rfl, hb6⟩
          rw [← HK.out]
          have HBZ := Lib.hid (HBW5.out.trans (hb6.mono HBW5.out.size))
          clear hb6
          go_wp2_with fail
          go_ret
          exact ⟨rfl, HBZ.out⟩
        | false =>
          have HC := Lib.hid hc
          go_wp2_with fail
          go_roundw
          case rel =>
            refine ⟨k + 1, by omega, by go_num, fun j hj hjk => ?_, HBR.out.trans (HB5.out.mono HBR.out.size)⟩
            rcases Nat.lt_or_ge j k with h | h
            · exact HNO.out j hj h
            · obtain rfl : j = k := by omega
              rw [hf.out]; exact HC.out
          case measure => simp [intOf]; omega
      · have hlt' : ¬ (k : Int) < (p.procs.length : Int) := by omega
        have hfn : p.procs.find? (fun f : Pc => f.nm.toList == s.proc.toList) = none := fst_no fun j hj => HNO.out j hj (by omega)
        have hk : KK = false := by rw [← hKK.out]; exact fits_none hfn
        subst hk
        clear hfn
        go_wp2_with fail
        go_ret
        exact ⟨rfl, HBQ.out⟩
end Go.Proofs.Ytghlmengcidmdaa.Tr
end
section
/- What scoped of the laws on scope tells: true. Conditions: none. -/
namespace Go.Proofs.Ytghlmengcidmdaa.Tr
open Go.RowKit Go.Proofs.Ytghlmengcidmdaa.Lx Go.Proofs.Ytghlmengcidmdaa.Wd
/-- The code of a fault, the place of a fault. -/
theorem run_code (c i : Int) (w : World) : (Instr.field 30 (.agg #[.int .i64 c, .int .i64 i]) 0).run Try.prog w = .ok (.int .i64 c) w := by kernel_rfl
theorem some_wt6 : wtPr someP ≤ 20000 := of_decide_eq_true (by kernel_rfl)
end Go.Proofs.Ytghlmengcidmdaa.Tr
end
section
/- What holds of a program whose names are well. No program's code. Conditions: as each statement says. -/
namespace Go.Proofs.Ytghlmengcidmdaa.Tr
open Go.RowKit Go.Proofs.Ytghlmengcidmdaa.Lx Go.Proofs.Ytghlmengcidmdaa.Wd
theorem scope_code {p : Pr} (h : (scopeP p).1 = 0) : mayP p = true ∧ headFault p = false ∧ ∀ f ∈ p.procs, pcFault p.globals (procNs p) f = none := by
  unfold scopeP at h
  cases h1 : mayP p with
  | false => rw [h1] at h; simp at h
  | true =>
    rw [h1] at h
    cases h2 : headFault p with
    | true => rw [h2] at h; simp at h
    | false =>
      rw [h2] at h
      cases h3 : p.procs.findSome? (pcFault p.globals (procNs p)) with
      | some i => rw [h3] at h; simp at h
      | none => exact ⟨rfl, rfl, by rw [List.findSome?_eq_none_iff] at h3; exact h3⟩
theorem pc_parts {g procs : List ByteArray} {f : Pc} (h : pcFault g procs f = none) : twiceB (ownNs f) = false ∧ ((ownNs f).any fun n => inB n g) = false ∧ ∀ s ∈ stsOf f, knownS g f procs s = true := by
  unfold pcFault at h
  cases h1 : twiceB (ownNs f) with
  | true => rw [h1] at h; simp at h
  | false =>
    cases h2 : (ownNs f).any fun n => inB n g with
    | true => rw [h1, h2] at h; simp at h
    | false =>
      rw [h1, h2, Bool.or_false, if_neg Bool.false_ne_true, Option.map_eq_none_iff, List.find?_eq_none] at h
      exact ⟨rfl, rfl, fun s hs => by have := h s hs; simpa using this⟩
theorem head_parts {p : Pr} (h : headFault p = false) : twiceB p.globals = false ∧ twiceB (procNs p) = false ∧ ∃ f, pcOf p.procs sMain = some f ∧ f.params = [] := by
  unfold headFault at h
  rw [Bool.or_eq_false_iff, Bool.or_eq_false_iff] at h
  refine ⟨h.1.1, h.1.2, ?_⟩
  cases h3 : pcOf p.procs sMain with
  | none => rw [h3] at h; simp at h
  | some f =>
    rw [h3] at h
    refine ⟨f, rfl, ?_⟩
    have := h.2
    simp only [decide_eq_false_iff_not] at this
    exact List.eq_nil_of_length_eq_zero (by omega)
theorem nodup_of {l : List ByteArray} (h : twiceB l = false) : l.Nodup := by
  unfold twiceB at h
  simpa using h
theorem nodup_get {l : List ByteArray} (h : l.Nodup) {i j : Nat} (hi : i < l.length) (hj : j < l.length) (he : l[i] = l[j]) : i = j := (List.getElem_inj (h₀ := hi) (h₁ := hj) h).1 he
theorem pc_first {l : List Pc} (h : twiceB (l.map Pc.nm) = false) {k : Nat} (hk : k < l.length) : pcOf l l[k].nm = some l[k] := by
  unfold pcOf
  refine fst_at hk (fun j hj hjk => ?_) (same_text.2 rfl)
  rw [same_no]
  intro he
  have := nodup_get (nodup_of h) (i := j) (j := k) (by simpa using hj) (by simpa using hk) (by simpa using he)
  omega
theorem mod_at {n : Int} {k : Nat} (hk : 0 < k) : (n % (k : Int)).toNat < k ∧ n % (k : Int) = ((n % (k : Int)).toNat : Int) := by
  have h0 := Int.emod_nonneg n (b := (k : Int)) (by omega)
  have h1 := Int.emod_lt_of_pos n (b := (k : Int)) (by omega)
  omega
section
variable {p : Pr} {f : Pc} (hf : f ∈ p.procs) (h : (scopeP p).1 = 0)
include hf h
theorem well_pc : pcIn p f.nm = some f := by
  obtain ⟨h1, h2, -⟩ := scope_code h
  obtain ⟨-, h4, -⟩ := head_parts h2
  obtain ⟨k, hk, rfl⟩ := List.getElem_of_mem hf
  unfold pcIn
  rw [if_pos h1]
  exact pc_first h4 hk
theorem well_vars : varsIn p f.nm = p.globals ++ (f.params.map Pa.nm ++ f.vars) := by
  unfold varsIn
  rw [well_pc hf h]
  rfl
end
end Go.Proofs.Ytghlmengcidmdaa.Tr
end
