/- Parts of FlatW, BTMay, BEqB: walks and plain laws that later texts use. Conditions: as each statement says. -/
import Derived.Test.YtghlmengcidmdaaJa0
import Derived.Test.YtghlmengcidmdaaJa1
import Derived.Test.YtghlmengcidmdaaJa2
import Derived.Test.YtghlmengcidmdaaJa3
import Derived.Test.YtghlmengcidmdaaJa4
import Derived.WalkKit
import Derived.Test.YtghlmengcidmdaaRows
import Derived.WalkSpells
import Derived.Lib.Hide
import Derived.Below
import Derived.Deep.QuietTactic
import Derived.BigQuiet
import Derived.WalkSmall
import Derived.IntWalk
import Derived.StillTailTactics
import Derived.Deep.RegionLaw
import Derived.Deep.DeepCutAuto
import Derived.RegionTactic
import Derived.Laws.BitsAllLaws
import Derived.Deep.RegionHeld3
import Derived.OwnWalk
import Derived.OneCell
import Derived.Deep.AppendLies
import Derived.Maps.Range
import Derived.Outline
import Derived.Lib.SmallJoins
import Derived.Deep.Upon
import Derived.Maps.AppendAt
import Derived.Laws.OwnMore
import Derived.Deep.RegionWith
import Derived.Laws.Cover3
import Derived.Deep.Slices
import Derived.Deep.Fields
import Derived.SliceStrings
import Derived.ChangeSlices
import Derived.Laws.StructEq
section
/- What flat, Flat of the reference make: a row's statements one by one. Conditions: it lies in memory. -/
namespace Go.Proofs.Ytghlmengcidmdaa.Tr
open Go.RowKit Go.Proofs.Ytghlmengcidmdaa.Lx Go.Proofs.Ytghlmengcidmdaa.Wd
/-- A statement, how deep it stands, in whom, in whose Else. -/
structure It where
  s : St
  deep : Int
  inn : Int
  els : Bool
mutual
def flatS : St → Int → List It → List It
  | .mk id _ _ _ _ _ _ _ th el, deep, out => if deep ≤ 12 then flatL el (deep + 1) id true (flatL th (deep + 1) id false out) else out
def flatL : List St → Int → Int → Bool → List It → List It
  | [], _, _, _, out => out
  | s :: r, deep, inn, els, out => if out.length ≤ 200 then flatL r deep inn els (flatS s deep (out ++ [⟨s, deep, inn, els⟩])) else out
end
theorem flatS_eq (s : St) (deep : Int) (out : List It) : flatS s deep out = if deep ≤ 12 then flatL s.els (deep + 1) s.id true (flatL s.thn (deep + 1) s.id false out) else out := by cases s; simp only [flatS, St.thn, St.els, St.id]
theorem flatL_cons (s : St) (r : List St) (deep inn : Int) (els : Bool) (out : List It) : flatL (s :: r) deep inn els out = if out.length ≤ 200 then flatL r deep inn els (flatS s deep (out ++ [⟨s, deep, inn, els⟩])) else out := by simp only [flatL]
theorem flatL_stop (l : List St) (deep inn : Int) (els : Bool) (out : List It) (h : 200 < out.length) : flatL l deep inn els out = out := by
  cases l with
  | nil => simp only [flatL]
  | cons s r => rw [flatL_cons, if_neg (by omega)]
theorem flatL_append (a b : List St) (deep inn : Int) (els : Bool) : ∀ out : List It, flatL (a ++ b) deep inn els out = flatL b deep inn els (flatL a deep inn els out) := by
  induction a with
  | nil => intro out; simp only [List.nil_append, flatL]
  | cons s r ih =>
    intro out
    rw [List.cons_append, flatL_cons, flatL_cons]
    split
    · exact ih _
    · exact (flatL_stop b _ _ _ _ (by omega)).symm
mutual
theorem flatS_len : ∀ (s : St) (deep : Int) (out : List It), out.length ≤ 201 → (flatS s deep out).length ≤ 201
  | .mk id k ls nm pr x h ar th el, deep, out => fun hl => by
    rw [flatS]
    split
    · exact flatL_len el _ _ _ _ (flatL_len th _ _ _ _ hl)
    · exact hl
theorem flatL_len : ∀ (l : List St) (deep inn : Int) (els : Bool) (out : List It), out.length ≤ 201 → (flatL l deep inn els out).length ≤ 201
  | [], _, _, _, out => fun hl => by rw [flatL]; exact hl
  | s :: r, deep, inn, els, out => fun hl => by
    rw [flatL]
    split
    · exact flatL_len r _ _ _ _ (flatS_len s _ _ (by simp; omega))
    · exact hl
end
def itCells (i : It) (kv lv av tv ev : Value) : List Value := stCells i.s kv lv av tv ev ++ [.int .i64 i.deep, .int .i64 i.inn, .bool i.els]
/-- A row of such items: what hangs on them lies below. -/
def ItQ (d : Nat) (C : Cs) (c : List Value) (i : It) : Prop := ∃ kv lv av tv ev, c = itCells i kv lv av tv ev ∧ OkE i.s.x ∧ ExC C d kv i.s.x.ks ∧ InI i.s.id ∧ InI i.s.kind ∧ i.s.nm.size ≤ 9223372036854775807 ∧ i.s.proc.size ≤ 9223372036854775807 ∧
    StrC C lv i.s.labels ∧ SlAt 6 (ArAt C d) av i.s.args ∧ StC C d tv i.s.thn ∧ StC C d ev i.s.els ∧ InI i.deep ∧ InI i.inn
theorem ItQ.mono {C D : Cs} (h : Cs.le C D) {d : Nat} {c : List Value} {i : It} (q : ItQ d C c i) : ItQ d D c i := by
  obtain ⟨kv, lv, av, tv, ev, h1, h2, h3, h4, h5, h6, h7, h8, h9, h10, h11, h12, h13⟩ := q
  exact ⟨kv, lv, av, tv, ev, h1, h2, ExC.mono h h3, h4, h5, h6, h7, StrC.mono h h8, SlAt.imp h9 (fun _ _ _ _ => ArAt.mono h), StC.mono h h10, StC.mono h h11, h12, h13⟩
structure RowT (B d : Nat) (w : World) (v : Value) (l : List It) (rows : List (List Value)) : Prop where
  len : rows.length = l.length
  own : w.ownsRow B 76 16 v l.length rows.flatten
  wide : ∀ r ∈ rows, r.length = 16
  each : ∀ i (h : i < l.length) (h' : i < rows.length), ItQ d (lowC B w) rows[i] l[i]
theorem RowT.nil (B d : Nat) (w : World) : RowT B d w (.slice none 0 0) [] [] := ⟨rfl, World.ownsRow_nil _ _ _ _, fun r h => (by cases h), fun i h => (by cases h)⟩
theorem RowT.next {B d : Nat} {w w' : World} {v : Value} {l : List It} {rows : List (List Value)} (h : RowT B d w v l rows) (hb : Below w.heap.size w w') : RowT B d w' v l rows :=
  ⟨h.len, ownsBelow h.own hb, h.wide, fun i h1 h2 => ItQ.mono (low_next hb) (h.each i h1 h2)⟩
theorem RowT.more {B d : Nat} {w w3 w4 : World} {v v4 : Value} {l : List It} {rows : List (List Value)} {c : List Value} {x : It} (h : RowT B d w v l rows) (hb : Below w.heap.size w w3) (hg : w3.grownBy w4 v.ownBlock)
    (hx : ItQ d (lowC B w) c x) (hown : w4.ownsRow B 76 16 v4 (l.length + 1) (rows.flatten ++ c)) : RowT B d w4 v4 (l ++ [x]) (rows ++ [c]) := by
  have hlen := h.len
  have le : Cs.le (lowC B w) (lowC B w4) := Cs.le_trans (low_next hb) (low_grown hg fun g hg => (h.own.lt g hg).1)
  refine ⟨by simp [hlen], by simpa using hown, fun r hr => ?_, fun i h1 h2 => ?_⟩
  · rcases List.mem_append.1 hr with hr | hr
    · exact h.wide r hr
    · simp at hr
      rw [hr]
      obtain ⟨kv, lv, av, tv, ev, h1, -⟩ := hx
      rw [h1]; rfl
  · simp only [List.getElem_append]
    simp at h1 h2
    by_cases hi : i < l.length
    · rw [dif_pos hi, dif_pos (by omega)]
      exact ItQ.mono le (h.each i hi (by omega))
    · rw [dif_neg hi, dif_neg (by omega)]
      have e1 : i - l.length = 0 := by omega
      have e2 : i - rows.length = 0 := by omega
      simp only [e1, e2, List.getElem_cons_zero]
      exact ItQ.mono le hx
theorem infoItem : (Try.prog.info? 76).map (fun i => (i.zero, i.size, i.bytes)) = some (some (.agg #[.int .i64 0, .int .i64 0, .slice none 0 0, .string ⟨#[]⟩, .string ⟨#[]⟩, .int .i64 0, .int .i64 0, .string ⟨#[]⟩, .slice none 0 0, .bool false, .slice none 0 0, .slice none 0 0, .slice none 0 0, .int .i64 0, .int .i64 0, .bool false]), 16, 232) := by kernel_rfl
/-- What flat leaves: the row with more items behind; nothing that was there is turned but that row's own block. -/
def Gr (w : World) (v : Value) (w' : World) (v' : Value) : Prop := w.grownBy w' v.ownBlock ∧ ∀ g, v'.ownBlock = some g → v.ownBlock = some g ∨ w.heap.size ≤ g
theorem Gr.then {w a b : World} {v v1 v2 : Value} (h1 : Gr w v a v1) (h2 : Gr a v1 b v2) : Gr w v b v2 :=
  ⟨h1.1.andThen h2.1 fun j hj => (h1.2 j hj).elim Or.inr Or.inl, fun g hg => (h2.2 g hg).elim (h1.2 g) fun h => Or.inr (Nat.le_trans h1.1.size h)⟩
theorem Gr.drew {w w' : World} {v v' : Value} (h : Gr w.drew v w' v') : Gr w v w' v' := ⟨(grown_of ((Below.refl _ _).drew) _).trans h.1, h.2⟩
def Flats (B d : Nat) (v : Value) (l : List It) (w : World) (e : Ending) (w' : World) : Prop :=
  ∃ v' rows, e = .returned v' ∧ RowT B d w' v' l rows ∧ Gr w v w' v'
theorem it_cells {s : St} {deep inn : Int} {els : Bool} {ka la aa ta ea : Option Addr} {kc lc ac tc ec : Nat} : ∀ u ∈ itCells (It.mk s deep inn els) (.slice ka s.x.ks.length kc) (.slice la s.labels.length lc) (.slice aa s.args.length ac) (.slice ta s.thn.length tc) (.slice ea s.els.length ec), u.oneCell' = true := by
  intro u hu
  simp [itCells, stCells] at hu
  rcases hu with h | h | h | h | h | h | h | h | h | h | h | h | h | h | h | h <;> (subst h; rfl)
set_option maxHeartbeats 4000000 in
set_option maxRecDepth 100000 in
theorem flat_any (B D : Nat) : ∀ (d : Nat) (l : List St) (lv v : Value) (deep inn : Int) (els : Bool) (items : List It) (rows : List (List Value)) (w : World), d ≤ D → StC (lowC B w) d lv l → RowT B D w v items rows → B ≤ w.heap.size → 1 ≤ deep → deep ≤ 14 → InI inn → items.length ≤ 201 →
    Calls Try.prog 111 #[lv, .int .i64 deep, .int .i64 inn, .bool els, v] w (Flats B D v (flatL l deep inn els items) w) := by
  intro d
  induction d with
  | zero => intro l lv v deep inn els items rows w _ h; exact h.elim
  | succ d ih =>
    intro l lv v deep inn els items rows w hdD hl hr hB hd1 hd2 hin hlen
    obtain ⟨i0, hi, hz0, hz1, hz2⟩ := info_parts infoItem
    have IH := Lib.hid ih
    obtain ⟨a, cap, rfl, hc1, hc2⟩ := hl.form
    obtain ⟨va, vc, rfl⟩ := ownsForm hr.own
    have HL := Lib.hid hl
    have HR := Lib.hid hr
    have HIN := Lib.hid hin
    clear ih hl hr hin
    go_enter Try.func111, Try.ntmps111
    go_wp2_with fail
    go_loopw [4, 11] (fun s4 i wr => ∃ (k : Nat) (vr : Value) (its : List It) (rows : List (List Value)), k ≤ l.length ∧ i = .int .i64 k ∧ s4 = vr ∧ flatL (l.take k) deep inn els items = its ∧ its.length ≤ 201 ∧ RowT B D wr vr its rows ∧ Gr w (.slice va items.length vc) wr vr) (fun _ i _ => (l.length - intOf i).toNat)
    case atStart => exact ⟨0, _, items, rows, by omega, rfl, rfl, by simp only [List.take_zero, flatL], hlen, HR.out, World.grownBy.refl _ _, fun g hg => .inl hg⟩
    case round =>
      obtain ⟨k, vr, its, rows, hk, rfl, rfl, hfl, hlen2, hr2, hg2⟩ := hrel
      have HFL := Lib.hid hfl
      have HR2 := Lib.hid hr2
      have HG2 := Lib.hid hg2
      have hsz2 := hg2.1.size
      have hle2 : Cs.le (lowC B w) (lowC B wr) := low_grown hg2.1 fun g hg => (HR.out.own.lt g hg).1
      obtain ⟨va2, vc2, rfl⟩ := ownsForm hr2.own
      obtain ⟨w0, hw0⟩ : ∃ w0 : World, w0 = wr := ⟨_, rfl⟩
      subst hw0
      have hBw : B ≤ w0.heap.size := Nat.le_trans hB hsz2
      clear hfl hr2 hg2
      by_cases hlt : k < l.length
      · have hlt' : (k : Int) < (l.length : Int) := by omega
        by_cases h200 : its.length ≤ 200
        · have h200' : (its.length : Int) ≤ 200 := by omega
          have h0k : (0 : Int) ≤ (k : Int) := by omega
          have hne : l ≠ [] := by intro h; rw [h] at hlt; simp at hlt
          obtain ⟨g, off, cap', hv, _, hcells⟩ := SlAt.cells (show SlAt 13 (StAt (lowC B w0) d (StC (lowC B w0) d)) (.slice a l.length cap) l from StC.mono hle2 HL.out) hne
          simp only [Value.slice.injEq] at hv
          obtain ⟨rfl, -, rfl⟩ := hv
          have hst := hcells k hlt
          obtain ⟨s, hs⟩ : ∃ s, Hid (l[k] = s) := ⟨_, Lib.hid rfl⟩
          rw [hs.out] at hst
          obtain ⟨lv, av, tv, ev, p0, p1, p2, p3, p4, ⟨kv, p5, p6, p7, p8, hok, hk1⟩, p9, p10, p11, p12, j1, j2, j3, j4, hl1, ha1, ht1, he1⟩ := hst
          obtain ⟨la, lc, rfl, -, -⟩ := hl1.form
          obtain ⟨aa, ac, rfl, -, -⟩ := ha1.form
          obtain ⟨ta, tc, rfl, -, -⟩ := ht1.form
          obtain ⟨ea, ec, rfl, -, -⟩ := he1.form
          obtain ⟨ka, kc, rfl, -, -⟩ := hk1.form
          have hIQ : ItQ D (lowC B w0) (itCells (It.mk s deep inn els) (.slice ka s.x.ks.length kc) (.slice la s.labels.length lc) (.slice aa s.args.length ac) (.slice ta s.thn.length tc) (.slice ea s.els.length ec)) ⟨s, deep, inn, els⟩ := ⟨_, _, _, _, _, rfl, hok, hk1.le (by omega), j1, j2, j3, j4, hl1, SlAt.imp ha1 (fun _ _ _ _ q => q.le (by omega)), ht1.le (by omega), he1.le (by omega), show InI deep from by unfold InI; omega, HIN.out⟩
          have HIQ := Lib.hid hIQ
          have HT := Lib.hid ht1
          have HE := Lib.hid he1
          have HJ1 := Lib.hid j1
          have hgB := p0.1
          have HP0 := Lib.hid p0.2
          have HP11 := Lib.hid p11.2
          have HP12 := Lib.hid p12.2
          have e0 : w0.cell? ⟨g, off + k * 13, none⟩ = _ := p0.2
          have e1 : w0.cell? ⟨g, off + k * 13 + 1, none⟩ = _ := p1.2
          have e2 : w0.cell? ⟨g, off + k * 13 + 2, none⟩ = _ := p2.2
          have e3 : w0.cell? ⟨g, off + k * 13 + 3, none⟩ = _ := p3.2
          have e4 : w0.cell? ⟨g, off + k * 13 + 4, none⟩ = _ := p4.2
          have e5 : w0.cell? ⟨g, off + k * 13 + 5, none⟩ = _ := p5.2
          have e6 : w0.cell? ⟨g, off + k * 13 + 6, none⟩ = _ := p6.2
          have e7 : w0.cell? ⟨g, off + k * 13 + 7, none⟩ = _ := p7.2
          have e8 : w0.cell? ⟨g, off + k * 13 + 8, none⟩ = _ := p8.2
          have e9 : w0.cell? ⟨g, off + k * 13 + 9, none⟩ = _ := p9.2
          have e10 : w0.cell? ⟨g, off + k * 13 + 10, none⟩ = _ := p10.2
          have e11 : w0.cell? ⟨g, off + k * 13 + 11, none⟩ = _ := p11.2
          have e12 : w0.cell? ⟨g, off + k * 13 + 12, none⟩ = _ := p12.2
          clear hcells hne hle2 hIQ hok hk1 hl1 ha1 ht1 he1 j1 j2 j3 j4 p0 p1 p2 p3 p4 p5 p6 p7 p8 p9 p10 p11 p12
          go_wp2_with (at_builtin; refine wpList_append_lies _ rfl (.tmp 23) (.tmp 32) 83 rfl B 76 i0 (.agg #[.int .i64 0, .int .i64 0, .slice none 0 0, .string ⟨#[]⟩, .string ⟨#[]⟩, .int .i64 0, .int .i64 0, .string ⟨#[]⟩, .slice none 0 0, .bool false, .slice none 0 0, .slice none 0 0, .slice none 0 0, .int .i64 0, .int .i64 0, .bool false]) 16 232 Try.underlying83 hi hz0 hz1 hz2 rfl (by decide) _ _ _ rfl (HR2.out.own.alloc _) ⟨_, 0, none⟩ 1 1 (itCells (It.mk s deep inn els) (.slice ka s.x.ks.length kc) (.slice la s.labels.length lc) (.slice aa s.args.length ac) (.slice ta s.thn.length tc) (.slice ea s.els.length ec)) rfl rfl ?c1 it_cells (by decide) ?c3 ?c4 ?c5 _ rfl ?_)
          case c1 => intro j u h; exact h
          case c3 => unfold maxLen; omega
          case c4 => omega
          case c5 => first | omega | (simp; omega)
          intro g4 cap4 w4 hown4 hg4 hat4 hlt4
          have hr4 := HR2.out.more (boxed w0 _) hg4 HIQ.out hown4
          have hG4 : Gr w (.slice va items.length vc) w4 (.slice (some ⟨g4, 0, none⟩) (its.length + 1) cap4) := HG2.out.then ⟨(grown_of (boxed w0 _) _).trans hg4, fun q hq => by
            have hqq : g4 = q := by { simpa [Value.ownBlock] using hq }
            subst hqq
            rcases hat4 with h | h
            · exact .inl h
            · right; first | omega | (simp at h; omega)⟩
          have hle4 : Cs.le (lowC B w0) (lowC B w4) := Cs.le_trans (low_next (boxed w0 _)) (low_grown hg4 fun q hq => (HR2.out.own.lt q hq).1)
          have q0 := (hle4 _ _ _ ⟨hgB, HP0.out⟩).2
          have q11 := (hle4 _ _ _ ⟨hgB, HP11.out⟩).2
          have q12 := (hle4 _ _ _ ⟨hgB, HP12.out⟩).2
          have HT4 := Lib.hid (StC.mono hle4 HT.out)
          have HE4 := Lib.hid (StC.mono hle4 HE.out)
          have HR4 := Lib.hid hr4
          have HG4 := Lib.hid hG4
          have hsz4 := hG4.1.size
          have hstep : Hid (flatL (l.take (k + 1)) deep inn els items = flatS s deep (its ++ [⟨s, deep, inn, els⟩])) := Lib.hid (by
            rw [List.take_succ_eq_append_getElem hlt, flatL_append, HFL.out, hs.out, flatL_cons, if_pos h200, flatL])
          clear e0 e1 e2 e3 e4 e5 e6 e7 e8 e9 e10 e11 e12 hown4 hg4 hat4 hr4 hG4 hle4 HIQ
          by_cases h12 : deep ≤ 12
          · have hw1 : wrap64 (deep + 1) = deep + 1 := by unfold wrap64; omega
            rw [flatS_eq, if_pos h12] at hstep
            have hw2 : IntKind.i64.wrap (deep + 1) = deep + 1 := IntWalk.i64_in _ (by omega)
            have HQ0 := Lib.hid (show w4.cell? ⟨g, off + k * 13, none⟩ = _ from q0)
            have HQ11 := Lib.hid (show w4.cell? ⟨g, off + k * 13 + 11, none⟩ = _ from q11)
            have HQ12 := Lib.hid (show w4.cell? ⟨g, off + k * 13 + 12, none⟩ = _ from q12)
            have hq3 : Below w4.heap.size w4 w4.drew := (Below.refl _ _).drew
            obtain ⟨L1, hL1⟩ : ∃ L, Hid (flatL s.thn (deep + 1) s.id false (its ++ [⟨s, deep, inn, els⟩]) = L) := ⟨_, Lib.hid rfl⟩
            have hL1n : L1.length ≤ 201 := by rw [← hL1.out]; exact flatL_len _ _ _ _ _ (by simp; omega)
            rw [hL1.out] at hstep
            clear q0 q11 q12
            go_upto_region 6 with fail
            go_region_held3 (fun w' => w'.cell? ⟨g, off + k * 13, none⟩ = some (.int .i64 s.id) ∧ w'.cell? ⟨g, off + k * 13 + 11, none⟩ = some (.slice ta s.thn.length tc))
              (first
                | exact ⟨cell_next hq3 HQ0.out, cell_next hq3 HQ11.out⟩
                | exact ⟨x0, x11⟩)
              ((go_split_ands; go_at_call 111; refine (IH.out s.thn _ _ (deep + 1) s.id false (its ++ [⟨s, deep, inn, els⟩]) _ _ (by omega) (StC.mono (low_next hq3) HT4.out) (HR4.out.next hq3) (by have := hq3.size; omega) (by omega) (by omega) HJ1.out (by simp; omega)).mono ?_; rintro e w8 ⟨v8, rows8, rfl, hr8, hg8⟩; rw [hL1.out] at hr8; have hle8 : Cs.le (lowC B w4) (lowC B w8) := Cs.le_trans (low_next hq3) (low_grown hg8.1 fun q hq => (HR4.out.own.lt q hq).1); have x0 := (hle8 _ _ _ ⟨hgB, HQ0.out⟩).2; have x11 := (hle8 _ _ _ ⟨hgB, HQ11.out⟩).2))
            have HR8 := Lib.hid hr8
            have HG8 := Lib.hid (HG4.out.then hg8.drew)
            have HY0 := Lib.hid (show w8.cell? ⟨g, off + k * 13, none⟩ = _ from (hle8 _ _ _ ⟨hgB, HQ0.out⟩).2)
            have HY12 := Lib.hid (show w8.cell? ⟨g, off + k * 13 + 12, none⟩ = _ from (hle8 _ _ _ ⟨hgB, HQ12.out⟩).2)
            have HE8 := Lib.hid (StC.mono hle8 HE4.out)
            obtain ⟨va8, vc8, rfl⟩ := ownsForm hr8.own
            have hsz8 := HG8.out.1.size
            have hq8 : Below w8.heap.size w8 w8.drew := (Below.refl _ _).drew
            obtain ⟨L2, hL2⟩ : ∃ L, Hid (flatL s.els (deep + 1) s.id true L1 = L) := ⟨_, Lib.hid rfl⟩
            have hL2n : L2.length ≤ 201 := by rw [← hL2.out]; exact flatL_len _ _ _ _ _ hL1n
            rw [hL2.out] at hstep
            clear hr8 hg8 hle8 hq3
            go_upto_region 7 with fail
            go_region_held3 (fun w' => w'.cell? ⟨g, off + k * 13, none⟩ = some (.int .i64 s.id) ∧ w'.cell? ⟨g, off + k * 13 + 12, none⟩ = some (.slice ea s.els.length ec))
              (first
                | exact ⟨cell_next hq8 HY0.out, cell_next hq8 HY12.out⟩
                | exact ⟨x0, x12⟩)
              ((go_split_ands; go_at_call 111; refine (IH.out s.els _ _ (deep + 1) s.id true L1 _ _ (by omega) (StC.mono (low_next hq8) HE8.out) (HR8.out.next hq8) (by have := hq8.size; omega) (by omega) (by omega) HJ1.out hL1n).mono ?_; rintro e w9 ⟨v9, rows9, rfl, hr9, hg9⟩; rw [hL2.out] at hr9; have hle9 : Cs.le (lowC B w8) (lowC B w9) := Cs.le_trans (low_next hq8) (low_grown hg9.1 fun q hq => (HR8.out.own.lt q hq).1); have x0 := (hle9 _ _ _ ⟨hgB, HY0.out⟩).2; have x12 := (hle9 _ _ _ ⟨hgB, HY12.out⟩).2))
            have HR9 := Lib.hid hr9
            have HG9 := Lib.hid (HG8.out.then hg9.drew)
            clear hr9 hg9 hle9 hq8
            go_wp2_with fail
            go_roundw
            case rel => exact ⟨k + 1, _, L2, rows9, by omega, by go_num, rfl, hstep.out, hL2n, HR9.out, HG9.out⟩
            case measure => simp [intOf]; omega
          · have h12' : ¬ deep ≤ 12 := h12
            rw [flatS_eq, if_neg h12] at hstep
            clear q0 q11 q12
            go_wp2_with fail
            go_roundw
            case rel => exact ⟨k + 1, _, _, _, by omega, by go_num, rfl, hstep.out, by simp; omega, HR4.out, HG4.out⟩
            case measure => simp [intOf]; omega
        · have h200' : ¬ (its.length : Int) ≤ 200 := by omega
          clear hle2
          go_wp2_with fail
          go_ret
          refine ⟨_, rows, rfl, ?_, HG2.out⟩
          have : flatL l deep inn els items = its := by
            rw [← List.take_append_drop k l, flatL_append, HFL.out]
            exact flatL_stop _ _ _ _ _ (by omega)
          rw [this]
          exact HR2.out
      · have hlt' : ¬ (k : Int) < (l.length : Int) := by omega
        clear hle2
        go_wp2_with fail
        go_ret
        refine ⟨_, rows, rfl, ?_, HG2.out⟩
        rw [List.take_of_length_le (by omega)] at HFL
        rw [HFL.out]
        exact HR2.out
end Go.Proofs.Ytghlmengcidmdaa.Tr
end
section
/- What names, named, none, worth, handed of tree compute. Conditions: the arguments lie in memory.
   What worth, handed of tree compute. Conditions: the arguments lie in memory. -/
section
namespace Go.Proofs.Ytghlmengcidmdaa.Tr
open Go.RowKit Go.Proofs.Ytghlmengcidmdaa.Lx Go.Proofs.Ytghlmengcidmdaa.Wd
def namesB (l : List ByteArray) : Bool := l.all fun s => isName (bl s)
def namedB (s : ByteArray) (is : Bool) : Bool := if is then isName (bl s) else noName s
def noneE (x : Ex) : Bool := x.op == 0 && x.n == 0 && noName x.nm && x.ks.isEmpty
def worthB (x : Ex) (is : Bool) : Bool := if is then mayE 20 x else noneE x
def handedB (l : List Ar) : Bool := l.all fun a => namedB a.nm a.ref && worthB a.x (!a.ref)
theorem all_take {α : Type} (f : α → Bool) (l : List α) {k : Nat} (hk : k < l.length) (h : (l.take k).all f = true) (hf : f l[k] = true) : (l.take (k + 1)).all f = true := by
  rw [List.take_succ_eq_append_getElem hk, List.all_append, h]
  simp [hf]
theorem all_no {α : Type} (f : α → Bool) (l : List α) {k : Nat} (hk : k < l.length) (hf : f l[k] = false) : l.all f = false := by
  cases h : l.all f with
  | false => rfl
  | true =>
    have := List.all_eq_true.1 h l[k] (List.getElem_mem hk)
    rw [hf] at this; cases this
set_option maxHeartbeats 1000000 in
theorem tnames_any (l : List ByteArray) (v : Value) (w : World) (hl : StrsAt w v l) :
    Calls Try.prog 69 #[v] w fun e w' => e = .returned (.bool (namesB l)) ∧ w = w' := by
  obtain ⟨a, cap, rfl, hc1, hc2⟩ := hl.form
  have HL := Lib.hid hl
  clear hl
  go_enter Try.func69, Try.ntmps69
  go_wp2_with fail
  go_loop [7] (fun i => ∃ k : Nat, k ≤ l.length ∧ i = .int .i64 k ∧ (l.take k).all (fun s => isName (bl s)) = true) (fun i => (l.length - intOf i).toNat)
  case atStart => exact ⟨0, by omega, rfl, rfl⟩
  case round =>
    obtain ⟨k, hk, rfl, hall⟩ := hrel
    have HALL := Lib.hid hall
    by_cases hlt : k < l.length
    · have hlt' : (k : Int) < (l.length : Int) := by omega
      have hne : l ≠ [] := by intro h; rw [h] at hlt; simp at hlt
      obtain ⟨g, off, cap', hv, hcells⟩ := HL.out.cells hne
      simp only [Value.slice.injEq] at hv
      obtain ⟨rfl, -, rfl⟩ := hv
      obtain ⟨hs, c0⟩ := hcells k hlt
      obtain ⟨s, hs2⟩ : ∃ s, Hid (l[k] = s) := ⟨_, Lib.hid rfl⟩
      rw [hs2.out] at c0 hs
      clear hcells hne hall
      obtain ⟨b, hb⟩ : ∃ b, Hid (isName (bl s) = b) := ⟨_, Lib.hid rfl⟩
      go_wp2_with fail
      refine (name_any s _ hs).mono ?_
      rintro e w' ⟨rfl, rfl⟩
      rw [hb.out]
      cases b with
      | true =>
        go_wp2_with fail
        go_round
        case rel => exact ⟨k + 1, by omega, by go_num, all_take _ _ hlt HALL.out (by rw [hs2.out]; exact hb.out)⟩
        case measure => simp [intOf]; omega
      | false =>
        have he : namesB l = false := all_no _ _ hlt (by rw [hs2.out]; exact hb.out)
        have HE := Lib.hid he
        clear he
        go_wp2_with fail
        go_ret
        rw [HE.out]
        exact ⟨rfl, rfl⟩
    · have hlt' : ¬ (k : Int) < (l.length : Int) := by omega
      have he : namesB l = true := by
        have := HALL.out
        rwa [List.take_of_length_le (by omega)] at this
      have HE := Lib.hid he
      clear he hall
      go_wp2_with fail
      go_ret
      rw [HE.out]
      exact ⟨rfl, rfl⟩
theorem tnamed_any (s : ByteArray) (is : Bool) (w : World) (hs : s.size ≤ 9223372036854775807) :
    Calls Try.prog 136 #[.string s, .bool is] w fun e w' => e = .returned (.bool (namedB s is)) ∧ w = w' := by
  unfold namedB
  cases is with
  | true =>
    obtain ⟨b, hb⟩ : ∃ b, Hid (isName (bl s) = b) := ⟨_, Lib.hid rfl⟩
    rw [if_pos rfl, hb.out]
    go_enter Try.func136, Try.ntmps136
    go_wp2_with fail
    refine (name_any s _ hs).mono ?_
    rintro e w' ⟨rfl, rfl⟩
    rw [hb.out]
    cases b with
    | true =>
      go_wp2_with fail
      go_ret
      exact ⟨rfl, rfl⟩
    | false =>
      go_wp2_with fail
      go_ret
      exact ⟨rfl, rfl⟩
  | false =>
    rw [if_neg (by simp)]
    cases hm : noName s with
    | true =>
      obtain ⟨-, n1, n2⟩ := bool_toList.1 hm
      clear hm
      go_enter Try.func136, Try.ntmps136
      go_wp2_with fail
      go_ret
      exact ⟨rfl, rfl⟩
    | false =>
      obtain ⟨n1, n2⟩ := bool_toList.2 hm
      clear hm
      go_enter Try.func136, Try.ntmps136
      go_wp2_with fail
      go_ret
      exact ⟨rfl, rfl⟩
theorem tnone_any (x : Ex) (a : Option Addr) (cap : Nat) (w : World) :
    Calls Try.prog 150 #[exV x (.slice a x.ks.length cap)] w fun e w' => e = .returned (.bool (noneE x)) ∧ Below w.heap.size w w' := by
  have HB := Lib.hid (boxed w (.cells #[.int .i64 x.op, .int .i64 x.n, .string x.nm, .slice a x.ks.length cap] 37))
  unfold exV noneE
  cases h1 : (x.op == 0) with
  | false =>
    go_enter Try.func150, Try.ntmps150
    go_wp2_with fail
    go_ret
    exact ⟨rfl, HB.out⟩
  | true =>
    cases h2 : (x.n == 0) with
    | false =>
      go_enter Try.func150, Try.ntmps150
      go_wp2_with fail
      go_ret
      exact ⟨rfl, HB.out⟩
    | true =>
      cases hm : noName x.nm with
      | false =>
        obtain ⟨n1, n2⟩ := bool_toList.2 hm
        clear hm
        go_enter Try.func150, Try.ntmps150
        go_wp2_with fail
        go_ret
        exact ⟨rfl, HB.out⟩
      | true =>
        obtain ⟨-, n1, n2⟩ := bool_toList.1 hm
        clear hm
        cases h4 : x.ks.isEmpty with
        | false =>
          have b4 : ((x.ks.length : Int) == 0) = false := by
            cases hq : x.ks with
            | nil => rw [hq] at h4; cases h4
            | cons a b => simp; omega
          clear h4
          go_enter Try.func150, Try.ntmps150
          go_wp2_with fail
          go_ret
          exact ⟨rfl, HB.out⟩
        | true =>
          have b4 : ((x.ks.length : Int) == 0) = true := by
            cases hq : x.ks with
            | nil => rfl
            | cons a b => rw [hq] at h4; cases h4
          clear h4
          go_enter Try.func150, Try.ntmps150
          go_wp2_with fail
          go_ret
          exact ⟨rfl, HB.out⟩
end Go.Proofs.Ytghlmengcidmdaa.Tr
end
section
namespace Go.Proofs.Ytghlmengcidmdaa.Tr
open Go.RowKit Go.Proofs.Ytghlmengcidmdaa.Lx Go.Proofs.Ytghlmengcidmdaa.Wd
set_option maxHeartbeats 1000000 in
theorem worth_any' (d : Nat) (x : Ex) (kv : Value) (is : Bool) (w : World) (hok : OkE x) (hk : ExK d w kv x.ks) :
    Calls Try.prog 137 #[exV x kv, .bool is] w fun e w' => e = .returned (.bool (worthB x is)) ∧ Below w.heap.size w w' := by
  obtain ⟨a, cap, rfl, -, -⟩ := hk.form
  have hbox := boxed w (.cells #[.int .i64 x.op, .int .i64 x.n, .string x.nm, .slice a x.ks.length cap] 37)
  have HB := Lib.hid hbox
  have HK := Lib.hid (hk.next hbox)
  have HOK := Lib.hid hok
  clear hbox hk hok
  unfold worthB
  cases is with
  | true =>
    obtain ⟨b, hb⟩ : ∃ b, Hid (mayE 20 x = b) := ⟨_, Lib.hid rfl⟩
    rw [if_pos rfl, hb.out]
    unfold exV
    go_enter Try.func137, Try.ntmps137
    go_wp2_with fail
    refine (mayExpr_any d x _ _ HOK.out HK.out).mono ?_
    rintro e w' ⟨rfl, hbe⟩
    rw [hb.out]
    have HB2 := Lib.hid (HB.out.trans (hbe.mono HB.out.size))
    clear hbe
    cases b with
    | true =>
      go_wp2_with fail
      go_ret
      exact ⟨rfl, HB2.out⟩
    | false =>
      go_wp2_with fail
      go_ret
      exact ⟨rfl, HB2.out⟩
  | false =>
    obtain ⟨b, hb⟩ : ∃ b, Hid (noneE x = b) := ⟨_, Lib.hid rfl⟩
    rw [if_neg (by simp), hb.out]
    unfold exV
    go_enter Try.func137, Try.ntmps137
    go_wp2_with fail
    refine (tnone_any x a cap _).mono ?_
    rintro e w' ⟨rfl, hbe⟩
    rw [hb.out]
    have HB2 := Lib.hid (HB.out.trans (hbe.mono HB.out.size))
    clear hbe
    cases b with
    | true =>
      go_wp2_with fail
      go_ret
      exact ⟨rfl, HB2.out⟩
    | false =>
      go_wp2_with fail
      go_ret
      exact ⟨rfl, HB2.out⟩
set_option maxHeartbeats 2000000 in
theorem handed_any (d : Nat) (l : List Ar) (v : Value) (w : World) (hl : SlAt 6 (ArAt (cw w) d) v l) :
    Calls Try.prog 138 #[v] w fun e w' => e = .returned (.bool (handedB l)) ∧ Below w.heap.size w w' := by
  obtain ⟨a, cap, rfl, hc1, hc2⟩ := hl.form
  have HL := Lib.hid hl
  clear hl
  go_enter Try.func138, Try.ntmps138
  go_wp2_with fail
  go_loopw [7] (fun i wr => ∃ k : Nat, k ≤ l.length ∧ i = .int .i64 k ∧ Below w.heap.size w wr ∧ (l.take k).all (fun a => namedB a.nm a.ref && worthB a.x (!a.ref)) = true) (fun i _ => (l.length - intOf i).toNat)
  case atStart => exact ⟨0, by omega, rfl, Below.refl _ _, rfl⟩
  case round =>
    obtain ⟨k, hk, rfl, hbel, hall⟩ := hrel
    have HALL := Lib.hid hall
    have HBEL := Lib.hid hbel
    by_cases hlt : k < l.length
    · have hlt' : (k : Int) < (l.length : Int) := by omega
      have hne : l ≠ [] := by intro h; rw [h] at hlt; simp at hlt
      obtain ⟨g, off, cap', hv, _, hcells⟩ := SlAt.cells (SlAt.imp HL.out fun _ _ _ _ => ArAt.mono (cw_next hbel)) hne
      simp only [Value.slice.injEq] at hv
      obtain ⟨rfl, -, rfl⟩ := hv
      obtain ⟨r0, r1, r2, kx, r3, r4, r5, r6, hokx, hxx⟩ := hcells k hlt
      obtain ⟨ar, har⟩ : ∃ ar, Hid (l[k] = ar) := ⟨_, Lib.hid rfl⟩
      rw [har.out] at r0 r1 r2 r3 r4 r5 hokx hxx
      obtain ⟨xa, xc, rfl, -, -⟩ := hxx.form
      have d0 : wr.cell? ⟨g, off + k * 6, none⟩ = _ := r0
      have d1 : wr.cell? ⟨g, off + k * 6 + 1, none⟩ = _ := r1
      have d2 : wr.cell? ⟨g, off + k * 6 + 2, none⟩ = _ := r3
      have d3 : wr.cell? ⟨g, off + k * 6 + 3, none⟩ = _ := r4
      have d4 : wr.cell? ⟨g, off + k * 6 + 4, none⟩ = _ := r5
      have d5 : wr.cell? ⟨g, off + k * 6 + 5, none⟩ = _ := r6
      have hkb := boxed wr (.cells #[.bool ar.ref, .string ar.nm, .int .i64 ar.x.op, .int .i64 ar.x.n, .string ar.x.nm, .slice xa ar.x.ks.length xc] 49)
      have HKB := Lib.hid hkb
      have HXX := Lib.hid (ExC.to (ExC.mono (cw_next hkb) hxx))
      have HOKX := Lib.hid hokx
      have hnm := r2
      clear hcells r0 r1 r3 r4 r5 r6 hxx hokx hne hbel hkb hall
      obtain ⟨b1, hb1⟩ : ∃ b1, Hid (namedB ar.nm ar.ref = b1) := ⟨_, Lib.hid rfl⟩
      obtain ⟨b2, hb2⟩ : ∃ b2, Hid (worthB ar.x (!ar.ref) = b2) := ⟨_, Lib.hid rfl⟩
      go_wp2_with fail
      refine (tnamed_any ar.nm ar.ref _ hnm).mono ?_
      rintro e w' ⟨rfl, rfl⟩
      rw [hb1.out]
      cases b1 with
      | false =>
        have he : handedB l = false := all_no _ _ hlt (by rw [har.out, hb1.out]; rfl)
        have HE := Lib.hid he
        clear he
        go_wp2_with fail
        go_ret
        rw [HE.out]
        exact ⟨rfl, HBEL.out.trans (HKB.out.mono HBEL.out.size)⟩
      | true =>
        go_wp2_with fail
        refine (worth_any' d ar.x _ (!ar.ref) _ HOKX.out HXX.out).mono ?_
        rintro e w' ⟨rfl, hbe⟩
        rw [hb2.out]
        have HB2 := Lib.hid (HBEL.out.trans ((HKB.out.trans (hbe.mono HKB.out.size)).mono HBEL.out.size))
        clear hbe
        cases b2 with
        | true =>
          go_wp2_with fail
          go_roundw
          case rel => exact ⟨k + 1, by omega, by go_num, HB2.out, all_take _ _ hlt HALL.out (by rw [har.out, hb1.out, hb2.out]; rfl)⟩
          case measure => simp [intOf]; omega
        | false =>
          have he : handedB l = false := all_no _ _ hlt (by rw [har.out, hb1.out, hb2.out]; rfl)
          have HE := Lib.hid he
          clear he
          go_wp2_with fail
          go_ret
          rw [HE.out]
          exact ⟨rfl, HB2.out⟩
    · have hlt' : ¬ (k : Int) < (l.length : Int) := by omega
      have he : handedB l = true := by
        have := HALL.out
        rwa [List.take_of_length_le (by omega)] at this
      have HE := Lib.hid he
      clear he hall hbel
      go_wp2_with fail
      go_ret
      rw [HE.out]
      exact ⟨rfl, HBEL.out⟩
end Go.Proofs.Ytghlmengcidmdaa.Tr
end
end
section
/- What tree.same, slices.EqualFunc of statements compute. Conditions: the arguments lie in memory.
   What slices.Equal of parameters computes. Conditions: the parameters lie in memory.
   What tree.Eq computes: are two programs the same? Conditions: the programs lie in memory. -/
section
namespace Go.Proofs.Ytghlmengcidmdaa.Tr
open Go.RowKit Go.Proofs.Ytghlmengcidmdaa.Lx Go.Proofs.Ytghlmengcidmdaa.Wd
/-- What hangs on a statement. -/
structure Hang (d : Nat) (w : World) (s : St) (lv kv av tv ev : Value) : Prop where
  lab : StrC (cw w) lv s.labels
  kid : ExC (cw w) d kv s.x.ks
  arg : SlAt 6 (ArAt (cw w) d) av s.args
  thn : StC (cw w) d tv s.thn
  els : StC (cw w) d ev s.els
theorem Hang.next {d : Nat} {w w' : World} {s : St} {lv kv av tv ev : Value} (h : Hang d w s lv kv av tv ev) (hb : Below w.heap.size w w') : Hang d w' s lv kv av tv ev :=
  ⟨StrC.mono (cw_next hb) h.lab, ExC.mono (cw_next hb) h.kid, SlAt.imp h.arg (fun _ _ _ _ => ArAt.mono (cw_next hb)), h.thn.next hb, h.els.next hb⟩
end Go.Proofs.Ytghlmengcidmdaa.Tr
end
section
namespace Go.Proofs.Ytghlmengcidmdaa.Tr
open Go.RowKit Go.Proofs.Ytghlmengcidmdaa.Lx Go.Proofs.Ytghlmengcidmdaa.Wd
end Go.Proofs.Ytghlmengcidmdaa.Tr
end
section
namespace Go.Proofs.Ytghlmengcidmdaa.Tr
open Go.RowKit Go.Proofs.Ytghlmengcidmdaa.Lx Go.Proofs.Ytghlmengcidmdaa.Wd
/-- What hangs on a procedure. -/
structure HangP (d : Nat) (w : World) (f : Pc) (qv vv bv fv : Value) : Prop where
  par : SlAt 2 (PaAt (cw w)) qv f.params
  vars : StrC (cw w) vv f.vars
  body : StC (cw w) d bv f.body
  fin : StrC (cw w) fv f.fin
theorem HangP.next {d : Nat} {w w' : World} {f : Pc} {qv vv bv fv : Value} (h : HangP d w f qv vv bv fv) (hb : Below w.heap.size w w') : HangP d w' f qv vv bv fv :=
  ⟨SlAt.imp h.par (fun _ _ _ _ => PaAt.mono (cw_next hb)), StrC.mono (cw_next hb) h.vars, h.body.next hb, StrC.mono (cw_next hb) h.fin⟩
end Go.Proofs.Ytghlmengcidmdaa.Tr
end
end
