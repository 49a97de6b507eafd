/- Parts of FlatW: walks and plain laws that later texts use. Conditions: as each statement says. -/
import Derived.Test.YtghlmengcidmdaaSa0
import Derived.Test.YtghlmengcidmdaaSa1
import Derived.Test.YtghlmengcidmdaaSa2
import Derived.Test.YtghlmengcidmdaaSa3
import Derived.Test.YtghlmengcidmdaaSa4
import Derived.Test.YtghlmengcidmdaaSa5
import Derived.Test.YtghlmengcidmdaaSa6
import Derived.Test.YtghlmengcidmdaaSa7
import Derived.Test.YtghlmengcidmdaaSa8
import Derived.Test.YtghlmengcidmdaaSa9
import Derived.Test.YtghlmengcidmdaaSa10
import Derived.Test.YtghlmengcidmdaaSa11
import Derived.Test.YtghlmengcidmdaaSa12
import Derived.IntWalk
import Derived.Deep.QuietTactic
import Derived.BigQuiet
import Derived.StillTailTactics
import Derived.Deep.RegionHeld3
import Derived.Deep.DeepCutAuto
import Derived.Deep.RegionLaw
import Derived.Deep.RegionWith
import Derived.Laws.Cover3
import Derived.WalkKit
import Derived.Test.YtghlmengcidmdaaRows
import Derived.WalkSpells
import Derived.Lib.Hide
import Derived.Below
import Derived.Laws.BitsAllLaws
import Derived.RegionTactic
import Derived.Maps.Range
import Derived.Outline
import Derived.Lib.SmallJoins
import Derived.Deep.Upon
import Derived.Maps.AppendAt
import Derived.Laws.OwnMore
import Derived.OwnWalk
import Derived.OneCell
import Derived.Deep.AppendLies
import Derived.Deep.Slices
import Derived.Deep.Fields
import Derived.SliceStrings
import Derived.ChangeSlices
import Derived.WalkSmall
/- What flat, Flat of the reference make: a row's statements one by one. Conditions: it lies in memory. -/
namespace Go.Proofs.Ytghlmengcidmdaa.Tr
open Go.RowKit Go.Proofs.Ytghlmengcidmdaa.Lx Go.Proofs.Ytghlmengcidmdaa.Wd
/-- A statement, how deep it stands, in whom, in whose Else. -/
structure It where
  s : St
  deep : Int
  inn : Int
  els : Bool
mutual
def flatS : St → Int → List It → List It
  | .mk id _ _ _ _ _ _ _ th el, deep, out => if deep ≤ 12 then flatL el (deep + 1) id true (flatL th (deep + 1) id false out) else out
def flatL : List St → Int → Int → Bool → List It → List It
  | [], _, _, _, out => out
  | s :: r, deep, inn, els, out => if out.length ≤ 200 then flatL r deep inn els (flatS s deep (out ++ [⟨s, deep, inn, els⟩])) else out
end
theorem flatS_eq (s : St) (deep : Int) (out : List It) : flatS s deep out = if deep ≤ 12 then flatL s.els (deep + 1) s.id true (flatL s.thn (deep + 1) s.id false out) else out := by cases s; simp only [flatS, St.thn, St.els, St.id]
theorem flatL_cons (s : St) (r : List St) (deep inn : Int) (els : Bool) (out : List It) : flatL (s :: r) deep inn els out = if out.length ≤ 200 then flatL r deep inn els (flatS s deep (out ++ [⟨s, deep, inn, els⟩])) else out := by simp only [flatL]
theorem flatL_stop (l : List St) (deep inn : Int) (els : Bool) (out : List It) (h : 200 < out.length) : flatL l deep inn els out = out := by
  cases l with
  | nil => simp only [flatL]
  | cons s r => rw [flatL_cons, if_neg (by omega)]
theorem flatL_append (a b : List St) (deep inn : Int) (els : Bool) : ∀ out : List It, flatL (a ++ b) deep inn els out = flatL b deep inn els (flatL a deep inn els out) := by
  induction a with
  | nil => intro out; simp only [List.nil_append, flatL]
  | cons s r ih =>
    intro out
    rw [List.cons_append, flatL_cons, flatL_cons]
    split
    · exact ih _
    · exact (flatL_stop b _ _ _ _ (by omega)).symm
mutual
theorem flatS_len : ∀ (s : St) (deep : Int) (out : List It), out.length ≤ 201 → (flatS s deep out).length ≤ 201
  | .mk id k ls nm pr x h ar th el, deep, out => fun hl => by
    rw [flatS]
    split
    · exact flatL_len el _ _ _ _ (flatL_len th _ _ _ _ hl)
    · exact hl
theorem flatL_len : ∀ (l : List St) (deep inn : Int) (els : Bool) (out : List It), out.length ≤ 201 → (flatL l deep inn els out).length ≤ 201
  | [], _, _, _, out => fun hl => by rw [flatL]; exact hl
  | s :: r, deep, inn, els, out => fun hl => by
    rw [flatL]
    split
    · exact flatL_len r _ _ _ _ (flatS_len s _ _ (by simp; omega))
    · exact hl
end
def itCells (i : It) (kv lv av tv ev : Value) : List Value := stCells i.s kv lv av tv ev ++ [.int .i64 i.deep, .int .i64 i.inn, .bool i.els]
/-- A row of such items: what hangs on them lies below. -/
def ItQ (d : Nat) (C : Cs) (c : List Value) (i : It) : Prop := ∃ kv lv av tv ev, c = itCells i kv lv av tv ev ∧ OkE i.s.x ∧ ExC C d kv i.s.x.ks ∧ InI i.s.id ∧ InI i.s.kind ∧ i.s.nm.size ≤ 9223372036854775807 ∧ i.s.proc.size ≤ 9223372036854775807 ∧
    StrC C lv i.s.labels ∧ SlAt 6 (ArAt C d) av i.s.args ∧ StC C d tv i.s.thn ∧ StC C d ev i.s.els ∧ InI i.deep ∧ InI i.inn
theorem ItQ.mono {C D : Cs} (h : Cs.le C D) {d : Nat} {c : List Value} {i : It} (q : ItQ d C c i) : ItQ d D c i := by
  obtain ⟨kv, lv, av, tv, ev, h1, h2, h3, h4, h5, h6, h7, h8, h9, h10, h11, h12, h13⟩ := q
  exact ⟨kv, lv, av, tv, ev, h1, h2, ExC.mono h h3, h4, h5, h6, h7, StrC.mono h h8, SlAt.imp h9 (fun _ _ _ _ => ArAt.mono h), StC.mono h h10, StC.mono h h11, h12, h13⟩
structure RowT (B d : Nat) (w : World) (v : Value) (l : List It) (rows : List (List Value)) : Prop where
  len : rows.length = l.length
  own : w.ownsRow B 76 16 v l.length rows.flatten
  wide : ∀ r ∈ rows, r.length = 16
  each : ∀ i (h : i < l.length) (h' : i < rows.length), ItQ d (lowC B w) rows[i] l[i]
theorem RowT.nil (B d : Nat) (w : World) : RowT B d w (.slice none 0 0) [] [] := ⟨rfl, World.ownsRow_nil _ _ _ _, fun r h => (by cases h), fun i h => (by cases h)⟩
theorem RowT.next {B d : Nat} {w w' : World} {v : Value} {l : List It} {rows : List (List Value)} (h : RowT B d w v l rows) (hb : Below w.heap.size w w') : RowT B d w' v l rows :=
  ⟨h.len, ownsBelow h.own hb, h.wide, fun i h1 h2 => ItQ.mono (low_next hb) (h.each i h1 h2)⟩
theorem RowT.more {B d : Nat} {w w3 w4 : World} {v v4 : Value} {l : List It} {rows : List (List Value)} {c : List Value} {x : It} (h : RowT B d w v l rows) (hb : Below w.heap.size w w3) (hg : w3.grownBy w4 v.ownBlock)
    (hx : ItQ d (lowC B w) c x) (hown : w4.ownsRow B 76 16 v4 (l.length + 1) (rows.flatten ++ c)) : RowT B d w4 v4 (l ++ [x]) (rows ++ [c]) := by
  have hlen := h.len
  have le : Cs.le (lowC B w) (lowC B w4) := Cs.le_trans (low_next hb) (low_grown hg fun g hg => (h.own.lt g hg).1)
  refine ⟨by simp [hlen], by simpa using hown, fun r hr => ?_, fun i h1 h2 => ?_⟩
  · rcases List.mem_append.1 hr with hr | hr
    · exact h.wide r hr
    · simp at hr
      rw [hr]
      obtain ⟨kv, lv, av, tv, ev, h1, -⟩ := hx
      rw [h1]; rfl
  · simp only [List.getElem_append]
    simp at h1 h2
    by_cases hi : i < l.length
    · rw [dif_pos hi, dif_pos (by omega)]
      exact ItQ.mono le (h.each i hi (by omega))
    · rw [dif_neg hi, dif_neg (by omega)]
      have e1 : i - l.length = 0 := by omega
      have e2 : i - rows.length = 0 := by omega
      simp only [e1, e2, List.getElem_cons_zero]
      exact ItQ.mono le hx
theorem infoItem : (Try.prog.info? 76).map (fun i => (i.zero, i.size, i.bytes)) = some (some (.agg #[.int .i64 0, .int .i64 0, .slice none 0 0, .string ⟨#[]⟩, .string ⟨#[]⟩, .int .i64 0, .int .i64 0, .string ⟨#[]⟩, .slice none 0 0, .bool false, .slice none 0 0, .slice none 0 0, .slice none 0 0, .int .i64 0, .int .i64 0, .bool false]), 16, 232) := by kernel_rfl
/-- What flat leaves: the row with more items behind; nothing that was there is turned but that row's own block. -/
def Gr (w : World) (v : Value) (w' : World) (v' : Value) : Prop := w.grownBy w' v.ownBlock ∧ ∀ g, v'.ownBlock = some g → v.ownBlock = some g ∨ w.heap.size ≤ g
theorem Gr.then {w a b : World} {v v1 v2 : Value} (h1 : Gr w v a v1) (h2 : Gr a v1 b v2) : Gr w v b v2 :=
  ⟨h1.1.andThen h2.1 fun j hj => (h1.2 j hj).elim Or.inr Or.inl, fun g hg => (h2.2 g hg).elim (h1.2 g) fun h => Or.inr (Nat.le_trans h1.1.size h)⟩
theorem Gr.drew {w w' : World} {v v' : Value} (h : Gr w.drew v w' v') : Gr w v w' v' := ⟨(grown_of ((Below.refl _ _).drew) _).trans h.1, h.2⟩
def Flats (B d : Nat) (v : Value) (l : List It) (w : World) (e : Ending) (w' : World) : Prop :=
  ∃ v' rows, e = .returned v' ∧ RowT B d w' v' l rows ∧ Gr w v w' v'
theorem it_cells {s : St} {deep inn : Int} {els : Bool} {ka la aa ta ea : Option Addr} {kc lc ac tc ec : Nat} : ∀ u ∈ itCells (It.mk s deep inn els) (.slice ka s.x.ks.length kc) (.slice la s.labels.length lc) (.slice aa s.args.length ac) (.slice ta s.thn.length tc) (.slice ea s.els.length ec), u.oneCell' = true := by
  intro u hu
  simp [itCells, stCells] at hu
  rcases hu with h | h | h | h | h | h | h | h | h | h | h | h | h | h | h | h <;> (subst h; rfl)
set_option maxHeartbeats 4000000 in
set_option maxRecDepth 100000 in
theorem flat_any (B D : Nat) : ∀ (d : Nat) (l : List St) (lv v : Value) (deep inn : Int) (els : Bool) (items : List It) (rows : List (List Value)) (w : World), d ≤ D → StC (lowC B w) d lv l → RowT B D w v items rows → B ≤ w.heap.size → 1 ≤ deep → deep ≤ 14 → InI inn → items.length ≤ 201 →
    Calls Try.prog 111 #[lv, .int .i64 deep, .int .i64 inn, .bool els, v] w (Flats B D v (flatL l deep inn els items) w) := by
  intro d
  induction d with
  | zero => intro l lv v deep inn els items rows w _ h; exact h.elim
  | succ d ih =>
    intro l lv v deep inn els items rows w hdD hl hr hB hd1 hd2 hin hlen
    obtain ⟨i0, hi, hz0, hz1, hz2⟩ := info_parts infoItem
    have IH := Lib.hid ih
    obtain ⟨a, cap, rfl, hc1, hc2⟩ := hl.form
    obtain ⟨va, vc, rfl⟩ := ownsForm hr.own
    have HL := Lib.hid hl
    have HR := Lib.hid hr
    have HIN := Lib.hid hin
    clear ih hl hr hin
    go_enter Try.func111, Try.ntmps111
    go_wp2_with fail
    go_loopw [4, 11] (fun s4 i wr => ∃ (k : Nat) (vr : Value) (its : List It) (rows : List (List Value)), k ≤ l.length ∧ i = .int .i64 k ∧ s4 = vr ∧ flatL (l.take k) deep inn els items = its ∧ its.length ≤ 201 ∧ RowT B D wr vr its rows ∧ Gr w (.slice va items.length vc) wr vr) (fun _ i _ => (l.length - intOf i).toNat)
    case atStart => exact ⟨0, _, items, rows, by omega, rfl, rfl, by simp only [List.take_zero, flatL], hlen, HR.out, World.grownBy.refl _ _, fun g hg => .inl hg⟩
    case round =>
      obtain ⟨k, vr, its, rows, hk, rfl, rfl, hfl, hlen2, hr2, hg2⟩ := hrel
      have HFL := Lib.hid hfl
      have HR2 := Lib.hid hr2
      have HG2 := Lib.hid hg2
      have hsz2 := hg2.1.size
      have hle2 : Cs.le (lowC B w) (lowC B wr) := low_grown hg2.1 fun g hg => (HR.out.own.lt g hg).1
      obtain ⟨va2, vc2, rfl⟩ := ownsForm hr2.own
      obtain ⟨w0, hw0⟩ : ∃ w0 : World, w0 = wr := ⟨_, rfl⟩
      subst hw0
      have hBw : B ≤ w0.heap.size := Nat.le_trans hB hsz2
      clear hfl hr2 hg2
      by_cases hlt : k < l.length
      · have hlt' : (k : Int) < (l.length : Int) := by omega
        by_cases h200 : its.length ≤ 200
        · have h200' : (its.length : Int) ≤ 200 := by omega
          have h0k : (0 : Int) ≤ (k : Int) := by omega
          have hne : l ≠ [] := by intro h; rw [h] at hlt; simp at hlt
          obtain ⟨g, off, cap', hv, _, hcells⟩ := SlAt.cells (show SlAt 13 (StAt (lowC B w0) d (StC (lowC B w0) d)) (.slice a l.length cap) l from StC.mono hle2 HL.out) hne
          simp only [Value.slice.injEq] at hv
          obtain ⟨rfl, -, rfl⟩ := hv
          have hst := hcells k hlt
          obtain ⟨s, hs⟩ : ∃ s, Hid (l[k] = s) := ⟨_, Lib.hid rfl⟩
          rw [hs.out] at hst
          obtain ⟨lv, av, tv, ev, p0, p1, p2, p3, p4, ⟨kv, p5, p6, p7, p8, hok, hk1⟩, p9, p10, p11, p12, j1, j2, j3, j4, hl1, ha1, ht1, he1⟩ := hst
          obtain ⟨la, lc, rfl, -, -⟩ := hl1.form
          obtain ⟨aa, ac, rfl, -, -⟩ := ha1.form
          obtain ⟨ta, tc, rfl, -, -⟩ := ht1.form
          obtain ⟨ea, ec, rfl, -, -⟩ := he1.form
          obtain ⟨ka, kc, rfl, -, -⟩ := hk1.form
          have hIQ : ItQ D (lowC B w0) (itCells (It.mk s deep inn els) (.slice ka s.x.ks.length kc) (.slice la s.labels.length lc) (.slice aa s.args.length ac) (.slice ta s.thn.length tc) (.slice ea s.els.length ec)) ⟨s, deep, inn, els⟩ := ⟨_, _, _, _, _, rfl, hok, hk1.le (by omega), j1, j2, j3, j4, hl1, SlAt.imp ha1 (fun _ _ _ _ q => q.le (by omega)), ht1.le (by omega), he1.le (by omega), show InI deep from by unfold InI; omega, HIN.out⟩
          have HIQ := Lib.hid hIQ
          have HT := Lib.hid ht1
          have HE := Lib.hid he1
          have HJ1 := Lib.hid j1
          have hgB := p0.1
          have HP0 := Lib.hid p0.2
          have HP11 := Lib.hid p11.2
          have HP12 := Lib.hid p12.2
          have e0 : w0.cell? ⟨g, off + k * 13, none⟩ = _ := p0.2
          have e1 : w0.cell? ⟨g, off + k * 13 + 1, none⟩ = _ := p1.2
          have e2 : w0.cell? ⟨g, off + k * 13 + 2, none⟩ = _ := p2.2
          have e3 : w0.cell? ⟨g, off + k * 13 + 3, none⟩ = _ := p3.2
          have e4 : w0.cell? ⟨g, off + k * 13 + 4, none⟩ = _ := p4.2
          have e5 : w0.cell? ⟨g, off + k * 13 + 5, none⟩ = _ := p5.2
          have e6 : w0.cell? ⟨g, off + k * 13 + 6, none⟩ = _ := p6.2
          have e7 : w0.cell? ⟨g, off + k * 13 + 7, none⟩ = _ := p7.2
          have e8 : w0.cell? ⟨g, off + k * 13 + 8, none⟩ = _ := p8.2
          have e9 : w0.cell? ⟨g, off + k * 13 + 9, none⟩ = _ := p9.2
          have e10 : w0.cell? ⟨g, off + k * 13 + 10, none⟩ = _ := p10.2
          have e11 : w0.cell? ⟨g, off + k * 13 + 11, none⟩ = _ := p11.2
          have e12 : w0.cell? ⟨g, off + k * 13 + 12, none⟩ = _ := p12.2
          clear hcells hne hle2 hIQ hok hk1 hl1 ha1 ht1 he1 j1 j2 j3 j4 p0 p1 p2 p3 p4 p5 p6 p7 p8 p9 p10 p11 p12
          go_wp2_with (at_builtin; refine wpList_append_lies _ rfl (.tmp 23) (.tmp 32) 83 rfl B 76 i0 (.agg #[.int .i64 0, .int .i64 0, .slice none 0 0, .string ⟨#[]⟩, .string ⟨#[]⟩, .int .i64 0, .int .i64 0, .string ⟨#[]⟩, .slice none 0 0, .bool false, .slice none 0 0, .slice none 0 0, .slice none 0 0, .int .i64 0, .int .i64 0, .bool false]) 16 232 Try.underlying83 hi hz0 hz1 hz2 rfl (by decide) _ _ _ rfl (HR2.out.own.alloc _) ⟨_, 0, none⟩ 1 1 (itCells (It.mk s deep inn els) (.slice ka s.x.ks.length kc) (.slice la s.labels.length lc) (.slice aa s.args.length ac) (.slice ta s.thn.length tc) (.slice ea s.els.length ec)) rfl rfl ?c1 it_cells (by decide) ?c3 ?c4 ?c5 _ rfl ?_)
          case c1 => intro j u h; exact h
          case c3 => unfold maxLen; omega
          case c4 => omega
          case c5 => first | omega | (simp; omega)
          intro g4 cap4 w4 hown4 hg4 hat4 hlt4
          have hr4 := HR2.out.more (boxed w0 _) hg4 HIQ.out hown4
          have hG4 : Gr w (.slice va items.length vc) w4 (.slice (some ⟨g4, 0, none⟩) (its.length + 1) cap4) := HG2.out.then ⟨(grown_of (boxed w0 _) _).trans hg4, fun q hq => by
            have hqq : g4 = q := by { simpa [Value.ownBlock] using hq }
            subst hqq
            rcases hat4 with h | h
            · exact .inl h
            · right; first | omega | (simp at h; omega)⟩
          have hle4 : Cs.le (lowC B w0) (lowC B w4) := Cs.le_trans (low_next (boxed w0 _)) (low_grown hg4 fun q hq => (HR2.out.own.lt q hq).1)
          have q0 := (hle4 _ _ _ ⟨hgB, HP0.out⟩).2
          have q11 := (hle4 _ _ _ ⟨hgB, HP11.out⟩).2
          have q12 := (hle4 _ _ _ ⟨hgB, HP12.out⟩).2
          have HT4 := Lib.hid (StC.mono hle4 HT.out)
          have HE4 := Lib.hid (StC.mono hle4 HE.out)
          have HR4 := Lib.hid hr4
          have HG4 := Lib.hid hG4
          have hsz4 := hG4.1.size
          have hstep : Hid (flatL (l.take (k + 1)) deep inn els items = flatS s deep (its ++ [⟨s, deep, inn, els⟩])) := Lib.hid (by
            rw [List.take_succ_eq_append_getElem hlt, flatL_append, HFL.out, hs.out, flatL_cons, if_pos h200, flatL])
          clear e0 e1 e2 e3 e4 e5 e6 e7 e8 e9 e10 e11 e12 hown4 hg4 hat4 hr4 hG4 hle4 HIQ
          by_cases h12 : deep ≤ 12
          · have hw1 : wrap64 (deep + 1) = deep + 1 := by unfold wrap64; omega
            rw [flatS_eq, if_pos h12] at hstep
            have hw2 : IntKind.i64.wrap (deep + 1) = deep + 1 := IntWalk.i64_in _ (by omega)
            have HQ0 := Lib.hid (show w4.cell? ⟨g, off + k * 13, none⟩ = _ from q0)
            have HQ11 := Lib.hid (show w4.cell? ⟨g, off + k * 13 + 11, none⟩ = _ from q11)
            have HQ12 := Lib.hid (show w4.cell? ⟨g, off + k * 13 + 12, none⟩ = _ from q12)
            have hq3 : Below w4.heap.size w4 w4.drew := (Below.refl _ _).drew
            obtain ⟨L1, hL1⟩ : ∃ L, Hid (flatL s.thn (deep + 1) s.id false (its ++ [⟨s, deep, inn, els⟩]) = L) := ⟨_, Lib.hid rfl⟩
            have hL1n : L1.length ≤ 201 := by rw [← hL1.out]; exact flatL_len _ _ _ _ _ (by simp; omega)
            rw [hL1.out] at hstep
            clear q0 q11 q12
            go_upto_region 6 with fail
            go_region_held3 (fun w' => w'.cell? ⟨g, off + k * 13, none⟩ = some (.int .i64 s.id) ∧ w'.cell? ⟨g, off + k * 13 + 11, none⟩ = some (.slice ta s.thn.length tc))
              (first
                | exact ⟨cell_next hq3 HQ0.out, cell_next hq3 HQ11.out⟩
                | exact ⟨x0, x11⟩)
              ((go_split_ands; go_at_call 111; refine (IH.out s.thn _ _ (deep + 1) s.id false (its ++ [⟨s, deep, inn, els⟩]) _ _ (by omega) (StC.mono (low_next hq3) HT4.out) (HR4.out.next hq3) (by have := hq3.size; omega) (by omega) (by omega) HJ1.out (by simp; omega)).mono ?_; rintro e w8 ⟨v8, rows8, rfl, hr8, hg8⟩; rw [hL1.out] at hr8; have hle8 : Cs.le (lowC B w4) (lowC B w8) := Cs.le_trans (low_next hq3) (low_grown hg8.1 fun q hq => (HR4.out.own.lt q hq).1); have x0 := (hle8 _ _ _ ⟨hgB, HQ0.out⟩).2; have x11 := (hle8 _ _ _ ⟨hgB, HQ11.out⟩).2))
            have HR8 := Lib.hid hr8
            have HG8 := Lib.hid (HG4.out.then hg8.drew)
            have HY0 := Lib.hid (show w8.cell? ⟨g, off + k * 13, none⟩ = _ from (hle8 _ _ _ ⟨hgB, HQ0.out⟩).2)
            have HY12 := Lib.hid (show w8.cell? ⟨g, off + k * 13 + 12, none⟩ = _ from (hle8 _ _ _ ⟨hgB, HQ12.out⟩).2)
            have HE8 := Lib.hid (StC.mono hle8 HE4.out)
            obtain ⟨va8, vc8, rfl⟩ := ownsForm hr8.own
            have hsz8 := HG8.out.1.size
            have hq8 : Below w8.heap.size w8 w8.drew := (Below.refl _ _).drew
            obtain ⟨L2, hL2⟩ : ∃ L, Hid (flatL s.els (deep + 1) s.id true L1 = L) := ⟨_, Lib.hid rfl⟩
            have hL2n : L2.length ≤ 201 := by rw [← hL2.out]; exact flatL_len _ _ _ _ _ hL1n
            rw [hL2.out] at hstep
            clear hr8 hg8 hle8 hq3
            go_upto_region 7 with fail
            go_region_held3 (fun w' => w'.cell? ⟨g, off + k * 13, none⟩ = some (.int .i64 s.id) ∧ w'.cell? ⟨g, off + k * 13 + 12, none⟩ = some (.slice ea s.els.length ec))
              (first
                | exact ⟨cell_next hq8 HY0.out, cell_next hq8 HY12.out⟩
                | exact ⟨x0, x12⟩)
              ((go_split_ands; go_at_call 111; refine (IH.out s.els _ _ (deep + 1) s.id true L1 _ _ (by omega) (StC.mono (low_next hq8) HE8.out) (HR8.out.next hq8) (by have := hq8.size; omega) (by omega) (by omega) HJ1.out hL1n).mono ?_; rintro e w9 ⟨v9, rows9, rfl, hr9, hg9⟩; rw [hL2.out] at hr9; have hle9 : Cs.le (lowC B w8) (lowC B w9) := Cs.le_trans (low_next hq8) (low_grown hg9.1 fun q hq => (HR8.out.own.lt q hq).1); have x0 := (hle9 _ _ _ ⟨hgB, HY0.out⟩).2; have x12 := (hle9 _ _ _ ⟨hgB, HY12.out⟩).2))
            have HR9 := Lib.hid hr9
            have HG9 := Lib.hid (HG8.out.then hg9.drew)
            clear hr9 hg9 hle9 hq8
            go_wp2_with fail
            go_roundw
            case rel => exact ⟨k + 1, _, L2, rows9, by omega, by go_num, rfl, hstep.out, hL2n, HR9.out, HG9.out⟩
            case measure => simp [intOf]; omega
          · have h12' : ¬ deep ≤ 12 := h12
            rw [flatS_eq, if_neg h12] at hstep
            clear q0 q11 q12
            go_wp2_with fail
            go_roundw
            case rel => exact ⟨k + 1, _, _, _, by omega, by go_num, rfl, hstep.out, by simp; omega, HR4.out, HG4.out⟩
            case measure => simp [intOf]; omega
        · have h200' : ¬ (its.length : Int) ≤ 200 := by omega
          clear hle2
          go_wp2_with fail
          go_ret
          refine ⟨_, rows, rfl, ?_, HG2.out⟩
          have : flatL l deep inn els items = its := by
            rw [← List.take_append_drop k l, flatL_append, HFL.out]
            exact flatL_stop _ _ _ _ _ (by omega)
          rw [this]
          exact HR2.out
      · have hlt' : ¬ (k : Int) < (l.length : Int) := by omega
        clear hle2
        go_wp2_with fail
        go_ret
        refine ⟨_, rows, rfl, ?_, HG2.out⟩
        rw [List.take_of_length_le (by omega)] at HFL
        rw [HFL.out]
        exact HR2.out
end Go.Proofs.Ytghlmengcidmdaa.Tr
