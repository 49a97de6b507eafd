/- What Marred of the reference makes: a program with other ids. Conditions: the program lies in memory, is light, and may be. -/
import Derived.Test.YtnbclbphggmenaaMarL
import Derived.Test.YtnbclbphggmenaaCopyP
import Derived.Laws.Rows
import Derived.Deep.RegionHeld3
namespace Go.Proofs.Ytnbclbphggmenaa.Tr
open Go.RowKit Go.Proofs.Ytnbclbphggmenaa.Lx Go.Proofs.Ytnbclbphggmenaa.Wd
theorem flat_take {z : Nat} : ∀ (rows : List (List Value)) (i : Nat), (∀ r ∈ rows, r.length = z) → (rows.take i).flatten.length = min i rows.length * z := by
  intro rows
  induction rows with
  | nil => intro i _; simp
  | cons r rs ih =>
    intro i hw
    cases i with
    | zero => simp
    | succ i =>
      rw [List.take_succ_cons, List.flatten_cons, List.length_append, ih i (fun x hx => hw x (by simp [hx])), hw r (by simp), List.length_cons]
      rw [show min (i + 1) (rs.length + 1) = min i rs.length + 1 by omega, Nat.succ_mul]
      omega
theorem flat_set {z : Nat} : ∀ (rows : List (List Value)) (i j : Nat) (u : Value), (∀ r ∈ rows, r.length = z) → (h : i < rows.length) → j < z → (rows.set i (rows[i].set j u)).flatten = rows.flatten.set (i * z + j) u := by
  intro rows
  induction rows with
  | nil => intro i j u _ h; cases h
  | cons r rs ih =>
    intro i j u hw h hj
    have hr := hw r (by simp)
    cases i with
    | zero =>
      rw [List.getElem_cons_zero, List.set_cons_zero, List.flatten_cons, List.flatten_cons, Nat.zero_mul, Nat.zero_add, List.set_append_left _ _ (by omega)]
    | succ i =>
      rw [List.getElem_cons_succ, List.set_cons_succ, List.flatten_cons, List.flatten_cons, ih i j u (fun x hx => hw x (by simp [hx])) (by simpa using h) hj, List.set_append_right _ _ (by rw [hr, Nat.succ_mul]; omega)]
      rw [show (i + 1) * z + j - r.length = i * z + j by rw [hr, Nat.succ_mul]; omega]
/-- A cell of the row itself is written: another thing stands there. -/
theorem Acc.upd {α : Type} {Q : Cs → List Value → α → Prop} {B : Nat} {t : TypeId} {z : Nat} {w : World} {v : Value} {l : List α} {rows : List (List Value)} (hQ : ∀ C D c x, Cs.le C D → Q C c x → Q D c x) (h : Acc Q B t z w v l rows) {g : Nat} (hv : v.ownBlock = some g)
    {i j : Nat} {u : Value} {x : α} (hi : i < l.length) (hi' : i < rows.length) (hj : j < z) (hx : Q (newC B v (w.setCell ⟨g, i * z + j, none⟩ u)) (rows[i].set j u) x) : Acc Q B t z (w.setCell ⟨g, i * z + j, none⟩ u) v (l.set i x) (rows.set i (rows[i].set j u)) := by
  have hlen := h.len
  refine ⟨by rw [List.length_set, List.length_set]; exact hlen, ?_, fun r hr => ?_, fun k h1 h2 => ?_⟩
  · rcases h.own.2 with ⟨hn, -⟩ | ⟨g', cap, cur, hv', h1, h2, h3, h4, h5, h6⟩
    · rw [hn] at hv; cases hv
    · have hgg : g' = g := by rw [hv'] at hv; simpa [Value.ownBlock] using hv
      subst hgg
      rw [List.length_set, flat_set rows i j u h.wide hi' hj]
      refine ⟨by rw [List.length_set]; exact h.own.1, .inr ⟨g', cap, cur.setIfInBounds (i * z + j) u, hv', h1, heap_setCell_same w g' _ cur t u h2, h3, h4, by rw [Array.size_setIfInBounds]; exact h5, ?_⟩⟩
      rw [Array.toList_setIfInBounds, List.take_set, h6]
  · rcases List.mem_or_eq_of_mem_set hr with hr | rfl
    · exact h.wide r hr
    · rw [List.length_set]; exact h.wide _ (List.getElem_mem hi')
  · simp only [List.length_set] at h1 h2
    by_cases hk : k = i
    · subst hk
      simp only [List.getElem_set_self]
      exact hx
    · rw [List.getElem_set_ne (fun e => hk e.symm), List.getElem_set_ne (fun e => hk e.symm)]
      exact hQ _ _ _ _ (only_set fun hh => hh.2 hv) (h.each k h1 h2)
/-- A cell of the row. -/
theorem Acc.cell {α : Type} {Q : Cs → List Value → α → Prop} {B : Nat} {t : TypeId} {z : Nat} {w : World} {v : Value} {l : List α} {rows : List (List Value)} (h : Acc Q B t z w v l rows) {g : Nat} (hv : v.ownBlock = some g) {i j : Nat} {u : Value} (hi : i < rows.length) (hu : rows[i][j]? = some u) : w.cell? ⟨g, i * z + j, none⟩ = some u := by
  have := h.own.cells hv (i * z + j) u (flat_get rows i j u h.wide hi hu)
  rw [Addr.add_lit, Nat.zero_add] at this
  exact this
theorem Acc.soft {α : Type} {Q : Cs → List Value → α → Prop} {B : Nat} {t : TypeId} {z : Nat} {w : World} {v : Value} {l : List α} {rows : List (List Value)} (h : Acc Q B t z w v l rows) {g : Nat} (hv : v.ownBlock = some g) : Free w g := fun j => by
  rcases h.own.2 with ⟨hn, -⟩ | ⟨g', cap, cur, hv', h1, h2, -⟩
  · rw [hn] at hv; cases hv
  · have hgg : g' = g := by rw [hv'] at hv; simpa [Value.ownBlock] using hv
    subst hgg
    simp [World.frozen?, h2]
def marPc (b m : Int) (f : Pc) : Pc := ⟨f.nm, f.params, f.vars, marL b m f.body, f.fin⟩
def marPr (b m : Int) (p : Pr) : Pr := ⟨p.globals, p.procs.map (marPc b m)⟩
def mixP (h : Pc → Pc) (k : Nat) (l : List Pc) : List Pc := (l.take k).map h ++ l.drop k
theorem mix_len (h : Pc → Pc) (k : Nat) (l : List Pc) (hk : k ≤ l.length) : (mixP h k l).length = l.length := by unfold mixP; simp; omega
theorem mix_at (h : Pc → Pc) (k : Nat) (l : List Pc) (hk : k < l.length) (hk' : k < (mixP h k l).length) : (mixP h k l)[k] = l[k] := by
  have hh : (mixP h k l)[k]? = some l[k] := by
    unfold mixP
    rw [List.getElem?_append_right (by simp; omega), List.getElem?_drop]
    have e : k + (k - ((l.take k).map h).length) = k := by simp; omega
    rw [e, List.getElem?_eq_getElem hk]
  exact (List.getElem?_eq_some_iff.1 hh).2
theorem mix_step (h : Pc → Pc) (k : Nat) (l : List Pc) (hk : k < l.length) : (mixP h k l).set k (h l[k]) = mixP h (k + 1) l := by
  unfold mixP
  rw [List.set_append_right _ _ (by simp; omega)]
  have e : k - ((l.take k).map h).length = 0 := by simp; omega
  rw [e, List.drop_eq_getElem_cons hk, List.set_cons_zero, List.take_succ_eq_append_getElem hk, List.map_append]
  simp
theorem mayP_rowok {p : Pr} (h : mayP p = true) : ∀ f ∈ p.procs, RowOk f.body := fun f hf => by
  obtain ⟨m, h0, -, h2⟩ := mayPs_rows p.procs 0 (by unfold mayP at h; simp only [Bool.and_eq_true] at h; exact h.2) (by omega) (by omega) f hf
  exact ⟨_, m, h0, h2⟩
set_option maxHeartbeats 4000000 in
set_option maxRecDepth 100000 in
theorem marP_any (b m : Int) (hb0 : 0 ≤ b) (hb1 : b ≤ 8) (hm0 : -300 ≤ m) (hm1 : m ≤ 599) (d : Nat) (p : Pr) (gv pv : Value) (w : World) (hp : PrC (cw w) d gv pv p) (hwp : wtPr p ≤ 20000) (hmay : mayP p = true) :
    Calls Try.prog 42 #[.agg #[gv, pv], .int .i64 b, .int .i64 m] w (ProgMade (d + 1) (marPr b m p) w) := by
  obtain ⟨ga, gc, rfl, -, -⟩ := hp.1.form
  obtain ⟨pa, pc, rfl, hl1, hl2⟩ := hp.2.form
  have HP := Lib.hid hp
  have HWP := Lib.hid hwp
  have HMAY := Lib.hid hmay
  have hplen : p.procs.length ≤ 9223372036854775807 := Nat.le_trans hl1 hl2
  clear hp hwp hmay hl1 hl2
  go_enter Try.func42, Try.ntmps42
  go_upto_region 1 with fail
  refine cut_world (fun wx => Below w.heap.size w wx ∧ w.heap.size + 1 < wx.heap.size ∧ BoxAt wx w.heap.size [.slice ga p.globals.length gc, .slice pa p.procs.length pc] ∧ BoxAt wx (w.heap.size + 1) [.slice none 0 0, .slice none 0 0] ∧ Free wx (w.heap.size + 1)) ⟨?_, by simp, ?_, ?_, ?_⟩ ?_
  · exact (boxed w _).alloc (by simp) _
  · exact (box_new w #[.slice ga p.globals.length gc, .slice pa p.procs.length pc] 46).next (boxed _ _)
  · exact box_two w _ #[.slice none 0 0, .slice none 0 0] 46
  · exact fun j => by simp [go_sem]
  rintro w1 ⟨hb1, hz1, hx1, hr1, hf1⟩
  have HB1 := Lib.hid hb1
  have HX1 := Lib.hid hx1
  have HR1 := Lib.hid hr1
  have HF1 := Lib.hid hf1
  have HP1 := Lib.hid (PrC.mono (cw_next hb1) HP.out)
  have e0 := hx1 0 _ rfl
  have e1 := hx1 1 _ rfl
  clear hb1 hx1 hr1 hf1
  go_wp2_with fail
  refine (copyP_row d p _ _ _ HP1.out HWP.out).mono ?_
  rw [put_sameP HMAY.out]
  rintro e w2 ⟨gv2, pv2, B, rows, rfl, hB2, hg2, hacc2, hb2⟩
  obtain ⟨ga2, gc2, rfl, -, -⟩ := hg2.form
  obtain ⟨pa2, pc2, rfl⟩ := ownsForm hacc2.own
  have HG2 := Lib.hid hg2
  have HACC2 := Lib.hid hacc2
  have HB2 := Lib.hid (HB1.out.trans (hb2.mono HB1.out.size))
  have HX2 := Lib.hid (HX1.out.next hb2)
  have HR2 := Lib.hid (HR1.out.next hb2)
  have HF2 := Lib.hid (HF1.out.next hz1 hb2)
  have hz2 : w.heap.size + 1 < w2.heap.size := Nat.lt_of_lt_of_le hz1 hb2.size
  have hBz : w.heap.size + 1 < B := Nat.lt_of_lt_of_le hz1 hB2
  clear hg2 hacc2 hb2 e0 e1
  go_upto_region 2 with fail
  refine cut_world (fun wx => Below w2.heap.size w2 wx ∧ w2.heap.size < wx.heap.size ∧ BoxAt wx w2.heap.size [.slice ga2 p.globals.length gc2, .slice pa2 p.procs.length pc2]) ⟨boxed _ _, by simp, box_new w2 #[.slice ga2 p.globals.length gc2, .slice pa2 p.procs.length pc2] 46⟩ ?_
  rintro w3 ⟨hb3, hz3, hq3⟩
  have HB3 := Lib.hid (HB2.out.trans (hb3.mono HB2.out.size))
  have HX3 := Lib.hid (HX2.out.next hb3)
  have HR3 := Lib.hid (HR2.out.next hb3)
  have HF3 := Lib.hid (HF2.out.next hz2 hb3)
  have HQ3 := Lib.hid hq3
  have HACC3 := Lib.hid (HACC2.out.next (PcQ.mono _) hb3)
  have HG3 := Lib.hid (StrC.mono (only_le (fun _ h => h) (cw_next hb3)) HG2.out)
  have q1 := hq3 1 _ rfl
  have hown3 : ∀ g, (Value.slice pa2 p.procs.length pc2).ownBlock = some g → B ≤ g ∧ g < w2.heap.size := HACC2.out.own.lt
  have HOWN3 := Lib.hid hown3
  clear hb3 hq3 hown3 HX1 HX2 HR1 HR2 HF1 HF2 HACC2 HG2
  go_wp2_with fail
  go_loopw [14] (fun i wr => ∃ (k : Nat) (rows : List (List Value)), k ≤ p.procs.length ∧ i = .int .i64 k ∧ Acc (PcQ (d + 1)) B 58 5 wr (.slice pa2 p.procs.length pc2) (mixP (marPc b m) k p.procs) rows ∧ Below w.heap.size w wr ∧ w3.heap.size ≤ wr.heap.size ∧ (∀ g j u, (Value.slice pa2 p.procs.length pc2).ownBlock ≠ some g → w3.cell? ⟨g, j, none⟩ = some u → wr.cell? ⟨g, j, none⟩ = some u) ∧ Free wr (w.heap.size + 1)) (fun i _ => (p.procs.length - intOf i).toNat)
  case atStart => exact ⟨0, rows, by omega, rfl, by unfold mixP; rw [List.take_zero, List.drop_zero]; exact HACC3.out, HB3.out, Nat.le_refl _, fun _ _ _ _ h => h, HF3.out⟩
  case round =>
    obtain ⟨w4, hw4⟩ : ∃ w4 : World, w4 = wr := ⟨_, rfl⟩
    subst hw4
    obtain ⟨k, rows, hk, rfl, hacc, hbel, hsz, hkeep, hfr⟩ := hrel
    have HACC := Lib.hid hacc
    have HBEL := Lib.hid hbel
    have HKEEP := Lib.hid hkeep
    have HFR := Lib.hid hfr
    have hneX : (Value.slice pa2 p.procs.length pc2).ownBlock ≠ some w.heap.size := fun e => by have := (HOWN3.out _ e).1; omega
    have hneR : (Value.slice pa2 p.procs.length pc2).ownBlock ≠ some (w.heap.size + 1) := fun e => by have := (HOWN3.out _ e).1; omega
    have hneQ : (Value.slice pa2 p.procs.length pc2).ownBlock ≠ some w2.heap.size := fun e => by have := (HOWN3.out _ e).2; omega
    have x1 := hkeep _ _ _ hneX (HX3.out 1 _ rfl)
    have y1 := hkeep _ _ _ hneQ (HQ3.out 1 _ rfl)
    by_cases hlt : k < p.procs.length
    · have hlt' : (k : Int) < (p.procs.length : Int) := by omega
      have h0k : (0 : Int) ≤ (k : Int) := by omega
      have hne : p.procs ≠ [] := by intro h; rw [h] at hlt; simp at hlt
      have hml := mix_len (marPc b m) k p.procs hk
      obtain ⟨gq, hgq⟩ : ∃ gq, (Value.slice pa2 p.procs.length pc2).ownBlock = some gq := by
        rcases hacc.own.2 with ⟨-, hn⟩ | ⟨g, cap, cur, hv, -⟩
        · omega
        · exact ⟨g, by rw [hv]; rfl⟩
      have hpa : pa2 = some ⟨gq, 0, none⟩ := by
        rcases hacc.own.2 with ⟨hv, hn⟩ | ⟨g, cap, cur, hv, -⟩
        · omega
        · injection hv with e1 e2 e3
          rw [e1] at hgq ⊢
          simp [Value.ownBlock] at hgq
          rw [hgq]
      obtain ⟨g, off, cap', hv, _, hcells⟩ := SlAt.cells (PrC.mono (cw_next hbel) HP.out).2 hne
      simp only [Value.slice.injEq] at hv
      obtain ⟨rfl, -, rfl⟩ := hv
      obtain ⟨qv1, vv1, bv1, fv1, p0, p1, p2, p3, p4, hnm, hq1, hv1, hb1', hf1⟩ := hcells k hlt
      obtain ⟨f, hf⟩ : ∃ f, Hid (p.procs[k] = f) := ⟨_, Lib.hid rfl⟩
      rw [hf.out] at p0 hnm hq1 hv1 hb1' hf1
      obtain ⟨ba1, bc1, rfl, -, -⟩ := hb1'.form
      have e3 : w4.cell? ⟨g, off + k * 5 + 3, none⟩ = _ := p3
      have hwg : g < w.heap.size := by
        obtain ⟨g', off', cap'', hv', -, hc'⟩ := HP.out.2.cells hne
        simp only [Value.slice.injEq, Option.some.injEq, Addr.mk.injEq] at hv'
        obtain ⟨_, _, _, _, q0, -⟩ := hc' k hlt
        have := cell_lt q0
        omega
      have hneG : gq ≠ g := fun e => by have := (HOWN3.out gq hgq).1; omega
      have HBD := Lib.hid hb1'
      have hfm : f ∈ p.procs := by rw [← hf.out]; exact List.getElem_mem hlt
      have hfw := wtPr_mem HWP.out f hfm
      have hfo := mayP_rowok HMAY.out f hfm
      have HFW := Lib.hid hfw
      have HFO := Lib.hid hfo
      have hrl : k < rows.length := by rw [hacc.len, hml]; exact hlt
      obtain ⟨row, hrow⟩ : ∃ row, Hid (rows[k] = row) := ⟨_, Lib.hid rfl⟩
      have hpq := hacc.each k (by rw [hml]; exact hlt) hrl
      rw [mix_at _ _ _ hlt, hf.out, hrow.out] at hpq
      obtain ⟨pv9, vv9, bv9, fv9, hr9, hnm9, hpp9, hvv9, hbb9, hff9⟩ := hpq
      have HPP9 := Lib.hid hpp9
      have HVV9 := Lib.hid hvv9
      have HFF9 := Lib.hid hff9
      have hc9 : w4.cell? ⟨gq, k * 5 + 3, none⟩ = some bv9 := hacc.cell hgq hrl (by rw [hrow.out, hr9]; rfl)
      have HC9 := Lib.hid hc9
      have HR9 := Lib.hid hr9
      have hsoft := hacc.soft hgq
      have HSOFT := Lib.hid hsoft
      have hgz : gq < w4.heap.size := (hacc.own.lt gq hgq).2
      subst hpa
      have KA0 := Lib.hid (cell_next ((Below.refl _ _).drew) x1 : w4.drew.cell? _ = _)
      have KA1 := Lib.hid (cell_next ((Below.refl _ _).drew) y1 : w4.drew.cell? _ = _)
      have KA2 := Lib.hid (cell_next ((Below.refl _ _).drew) e3 : w4.drew.cell? _ = _)
      have hnX : gq ≠ w.heap.size := fun e => hneX (by rw [hgq, e])
      have hnQ : gq ≠ w2.heap.size := fun e => hneQ (by rw [hgq, e])
      obtain ⟨L, hL⟩ : ∃ L, Hid (marL b m f.body = L) := ⟨_, Lib.hid rfl⟩
      clear hcells p0 p1 p2 p3 p4 hq1 hv1 hb1' hf1 hne hacc hkeep hbel hfr hpp9 hvv9 hff9 hbb9 hc9 hr9 hsoft x1 y1 e3 hfw hfo hnm
      go_upto_region 5 with fail
      go_region_held3 (fun w' => w'.cell? ⟨w.heap.size, 1, none⟩ = some (.slice (some ⟨g, off, none⟩) p.procs.length pc) ∧ w'.cell? ⟨w2.heap.size, 1, none⟩ = some (.slice (some ⟨gq, 0, none⟩) p.procs.length pc2) ∧ w'.cell? ⟨g, off + k * 5 + 3, none⟩ = some (.slice ba1 f.body.length bc1))
        (first
          | with_reducible exact ⟨KA0.out, KA1.out, KA2.out⟩
          | with_reducible exact ⟨KB0.out, KB1.out, KB2.out⟩
          | with_reducible exact ⟨far1 hnX KB0.out, far1 hnQ KB1.out, far1 hneG KB2.out⟩)
        ((go_split_ands
          go_at_call 79
          refine (mar_any b m hb0 hb1 hm0 hm1 d f.body _ w4.drew (StC.next HBD.out ((Below.refl _ _).drew)) HFW.out HFO.out).mono ?_
          rw [hL.out]
          rintro e w5 ⟨v5, rfl, hst5, hb5⟩
          obtain ⟨ba5, bc5, rfl, -, -⟩ := hst5.form
          have HST5 := Lib.hid hst5
          have hb5' := ((Below.refl w4.heap.size w4).drew).trans (hb5.mono (by simp))
          have HB5 := Lib.hid hb5'
          have z3 := cell_next hb5' HC9.out
          have fz3 := HSOFT.out.next hgz hb5' (k * 5 + 3)
          have KB0 := Lib.hid (cell_next hb5 KA0.out)
          have KB1 := Lib.hid (cell_next hb5 KA1.out)
          have KB2 := Lib.hid (cell_next hb5 KA2.out)))
      all_goals
        have hx6 : PcQ (d + 1) (newC B (.slice (some ⟨gq, 0, none⟩) p.procs.length pc2) (w5.setCell ⟨gq, k * 5 + 3, none⟩ (.slice ba5 L.length bc5))) (row.set 3 (.slice ba5 L.length bc5)) (marPc b m f) := by
          have hle : Cs.le (newC B (.slice (some ⟨gq, 0, none⟩) p.procs.length pc2) w4) (newC B (.slice (some ⟨gq, 0, none⟩) p.procs.length pc2) (w5.setCell ⟨gq, k * 5 + 3, none⟩ (.slice ba5 L.length bc5))) :=
            Cs.le_trans (only_le (fun _ h => h) (cw_next HB5.out)) (only_set fun h => h.2 hgq)
          have hle2 : Cs.le (nwC w4.drew.heap.size w5) (newC B (.slice (some ⟨gq, 0, none⟩) p.procs.length pc2) (w5.setCell ⟨gq, k * 5 + 3, none⟩ (.slice ba5 L.length bc5))) :=
            Cs.le_trans (only_set (S := fun g => w4.drew.heap.size ≤ g) (b := gq) (by simp; omega)) (only_le (fun g h => ⟨by have := (HOWN3.out gq hgq).1; simp at h; omega, fun e => by rw [hgq] at e; injection e with e; simp at h; omega⟩) (fun _ _ _ h => h))
          rw [HR9.out]
          refine ⟨pv9, vv9, .slice ba5 L.length bc5, fv9, rfl, hnm9, SlAt.imp HPP9.out (fun _ _ _ _ => PaAt.mono hle), StrC.mono hle HVV9.out, ?_, StrC.mono hle HFF9.out⟩
          show StC _ _ _ (marL b m f.body)
          rw [hL.out]
          exact (StC.mono hle2 HST5.out).up
        have hacc6 := (HACC.out.next (PcQ.mono _) HB5.out).upd (PcQ.mono _) hgq (i := k) (j := 3) (u := .slice ba5 L.length bc5) (x := marPc b m f) (by rw [hml]; exact hlt) hrl (by decide) (by rw [hrow.out]; exact hx6)
        rw [show (mixP (marPc b m) k p.procs).set k (marPc b m f) = mixP (marPc b m) (k + 1) p.procs from by rw [← hf.out]; exact mix_step _ _ _ hlt] at hacc6
        have HACC6 := Lib.hid hacc6
        have hz5 := HB5.out.size
        have HB6 : Hid (Below w.heap.size w (w5.setCell ⟨gq, k * 5 + 3, none⟩ (.slice ba5 L.length bc5))) := Lib.hid ((HBEL.out.trans (HB5.out.mono HBEL.out.size)).setCell (p := ⟨gq, k * 5 + 3, none⟩) (by have := (HOWN3.out gq hgq).1; show w.heap.size ≤ gq; omega) _)
        have HK6 : Hid (∀ g j u, (Value.slice (some ⟨gq, 0, none⟩) p.procs.length pc2).ownBlock ≠ some g → w3.cell? ⟨g, j, none⟩ = some u → (w5.setCell ⟨gq, k * 5 + 3, none⟩ (.slice ba5 L.length bc5)).cell? ⟨g, j, none⟩ = some u) := Lib.hid (fun g j u hn hu => far1 (fun e => hn (by rw [hgq, e])) (cell_next HB5.out (HKEEP.out g j u hn hu)))
        have hzR : w.heap.size + 1 < w4.heap.size := by omega
        have HFR6 := Lib.hid ((HFR.out.next hzR HB5.out).set (b := gq) (j := k * 5 + 3) (x := .slice ba5 L.length bc5))
        clear hx6 hacc6
        go_wp2_with fail
        go_roundw
        case rel => exact ⟨k + 1, _, by omega, by go_num, HACC6.out, HB6.out, by rw [World.size_setCell]; omega, HK6.out, HFR6.out⟩
        case measure => simp [intOf]; omega
    · have hlt' : ¬ (k : Int) < (p.procs.length : Int) := by omega
      have hke : k = p.procs.length := by omega
      subst hke
      have hmix : mixP (marPc b m) p.procs.length p.procs = (marPr b m p).procs := by unfold mixP marPr; simp
      rw [hmix] at HACC
      have y0 := hkeep _ _ _ hneQ (HQ3.out 0 _ rfl)
      have r0 := hkeep _ _ _ hneR (HR3.out 0 _ rfl)
      have r1 := hkeep _ _ _ hneR (HR3.out 1 _ rfl)
      have f0 := hfr 0
      have f1 := hfr 1
      have HGL : Hid (StrC (only (fun g => w1.heap.size ≤ g ∧ g < B) (cw w4)) (.slice ga2 p.globals.length gc2) p.globals) := Lib.hid (StrC.mono (fun g j u h => ⟨h.1, HKEEP.out g j u (fun e => by have := (HOWN3.out _ e).1; have := h.1.2; omega) h.2⟩) HG3.out)
      generalize hn2 : p.procs.length = n2 at *
      clear hacc hkeep hbel hfr x1 hmix
      go_wp2_with fail
      have q0 : ((w4.setCell ⟨w.heap.size + 1, 0, none⟩ (.slice ga2 p.globals.length gc2)).setCell ⟨w.heap.size + 1, 1, none⟩ (.slice pa2 n2 pc2)).cell? ⟨w.heap.size + 1, 0, none⟩ = some (.slice ga2 p.globals.length gc2) := cell_set_ne (cell_set r0) (by decide)
      have q1 : ((w4.setCell ⟨w.heap.size + 1, 0, none⟩ (.slice ga2 p.globals.length gc2)).setCell ⟨w.heap.size + 1, 1, none⟩ (.slice pa2 n2 pc2)).cell? ⟨w.heap.size + 1, 1, none⟩ = some (.slice pa2 n2 pc2) := cell_set (cell_set_ne r1 (by decide))
      have hrow : ProgRow (d + 1) (marPr b m p) w (.returned (.agg #[.slice ga2 p.globals.length gc2, .slice pa2 n2 pc2])) ((w4.setCell ⟨w.heap.size + 1, 0, none⟩ (.slice ga2 p.globals.length gc2)).setCell ⟨w.heap.size + 1, 1, none⟩ (.slice pa2 n2 pc2)) := by
        have hs := HB1.out.size
        refine ⟨.slice ga2 p.globals.length gc2, .slice pa2 n2 pc2, B, rows, rfl, by omega, ?_, ?_, ?_⟩
        · exact StrC.mono (Cs.le_trans (only_set (by omega)) (Cs.le_trans (only_set (by omega)) (only_le (fun g (h : w1.heap.size ≤ g ∧ g < B) => (⟨by omega, h.2⟩ : w.heap.size ≤ g ∧ g < B)) (fun _ _ _ h => h)))) HGL.out
        · exact (HACC.out.set (PcQ.mono _) (b := w.heap.size + 1) (by omega) _).set (PcQ.mono _) (b := w.heap.size + 1) (by omega) _
        · exact (HBEL.out.setCell (p := ⟨_, _, none⟩) (by simp) _).setCell (p := ⟨_, _, none⟩) (by simp) _
      exact bodyPost_ret (v := .agg #[.slice ga2 p.globals.length gc2, .slice pa2 n2 pc2]) (by simp [results, Try.results42, go_sem, q0, q1]) rfl hrow.made
end Go.Proofs.Ytnbclbphggmenaa.Tr
