/- Parts of FittingW, PutM, PutN, TurnA, PutR: walks and plain laws that later texts use. Conditions: as each statement says. -/
import Derived.Test.YtghlmengcidmdaaTa0
import Derived.Test.YtghlmengcidmdaaTa1
import Derived.Test.YtghlmengcidmdaaTa2
import Derived.Test.YtghlmengcidmdaaTa3
import Derived.Test.YtghlmengcidmdaaTa4
import Derived.Test.YtghlmengcidmdaaTa5
import Derived.Test.YtghlmengcidmdaaTa6
import Derived.Test.YtghlmengcidmdaaTa7
import Derived.Test.YtghlmengcidmdaaTa8
import Derived.Test.YtghlmengcidmdaaTa9
import Derived.Test.YtghlmengcidmdaaTa10
import Derived.Test.YtghlmengcidmdaaTa11
import Derived.Test.YtghlmengcidmdaaTa12
import Derived.Test.YtghlmengcidmdaaTa13
import Derived.Test.YtghlmengcidmdaaTa14
import Derived.Test.YtghlmengcidmdaaTa15
import Derived.Test.YtghlmengcidmdaaTa16
import Derived.Test.YtghlmengcidmdaaTa17
import Derived.Test.YtghlmengcidmdaaTa18
import Derived.Deep.DeepCutAuto
import Derived.Deep.RegionLaw
import Derived.Deep.RegionHeld3
import Derived.Deep.QuietTactic
import Derived.BigQuiet
import Derived.RegionTactic
import Derived.Deep.MidRow
import Derived.Deep.CutBlock
import Derived.Laws.StructEq
import Derived.OrdersHeld
import Derived.Deep.AppendLies
import Derived.IntWalk
import Derived.StillTailTactics
import Derived.WalkKit
import Derived.Test.YtghlmengcidmdaaRows
import Derived.WalkSpells
import Derived.Lib.Hide
import Derived.Below
import Derived.WalkSmall
import Derived.Deep.RegionWith
import Derived.Laws.Cover3
import Derived.Laws.BitsAllLaws
import Derived.Maps.Range
import Derived.Outline
import Derived.Lib.SmallJoins
import Derived.Deep.Upon
import Derived.Maps.AppendAt
import Derived.Laws.OwnMore
import Derived.OwnWalk
import Derived.OneCell
import Derived.Deep.Slices
import Derived.Deep.Fields
import Derived.SliceStrings
import Derived.ChangeSlices
section
/- What fitting of the laws on arity tells: true. Conditions: none. -/
namespace Go.Proofs.Ytghlmengcidmdaa.Tr
open Go.RowKit Go.Proofs.Ytghlmengcidmdaa.Lx Go.Proofs.Ytghlmengcidmdaa.Wd
/-- The call in the program that some told. -/
def sS2 : St := .mk 2 4 [] sG sP eNone false [.mk false noT (eNum 3), .mk true sV eNone] [] []
def sF1 : Pc := ⟨sMain, [], [sV], someMain, []⟩
theorem some_p0 : someP.procs[0]'(by decide) = sF1 := rfl
theorem some_b1 : sF1.body[1]'(by decide) = sS2 := rfl
theorem some_fit : (decide ((scopeP someP).1 = 0) && fitsP someP sS2) = true := by kernel_rfl
theorem none_arity : arityP ⟨[], []⟩ = (1, 0) := by kernel_rfl
theorem Hang.le {d e : Nat} {w : World} {s : St} {lv kv av tv ev : Value} (h : Hang d w s lv kv av tv ev) (hde : d ≤ e) : Hang e w s lv kv av tv ev := ⟨h.lab, h.kid.le hde, SlAt.imp h.arg (fun _ _ _ _ q => ArAt.le q hde), StC.le h.thn hde, StC.le h.els hde⟩
theorem sts_open {C : Cs} {d : Nat} {a : Option Addr} {n c : Nat} {l : List St} (h : StC C (d + 1) (.slice a n c) l) {k : Nat} (hk : k < l.length) : ∃ g off, a = some ⟨g, off, none⟩ ∧ StAt C d (StC C d) g (off + k * 13) l[k] := by
  have hne : l ≠ [] := by intro h; rw [h] at hk; simp at hk
  obtain ⟨g, off, cap', hv, _, hcells⟩ := SlAt.cells h hne
  simp only [Value.slice.injEq] at hv
  exact ⟨g, off, hv.1, hcells k hk⟩
set_option maxHeartbeats 2000000 in
set_option maxRecDepth 100000 in
theorem fitting_any (w : World) : Calls Try.prog 16 #[] w fun e w' => e = .returned (.bool true) ∧ Below w.heap.size w w' := by
  go_enter Try.func16, Try.ntmps16
  go_wp2_with fail
  refine (some_any _).mono ?_
  rintro e w1 ⟨gv, pv, rfl, hp, hb1⟩
  obtain ⟨ga, gc, rfl, -, -⟩ := hp.1.form
  obtain ⟨pa, pc, rfl, -, -⟩ := hp.2.form
  have HP1 := Lib.hid hp
  have HB1 := Lib.hid hb1
  clear hp hb1
  go_upto_region 2 with fail
  refine cut_world (fun wx => Below w1.heap.size w1 wx ∧ BoxAt wx w1.heap.size [.slice ga someP.globals.length gc, .slice pa someP.procs.length pc]) ⟨boxed w1 _, box_new w1 #[.slice ga someP.globals.length gc, .slice pa someP.procs.length pc] 25⟩ ?_
  rintro w2 ⟨hb2, hx2⟩
  have HX2 := Lib.hid hx2
  have HP2 := Lib.hid (PrC.mono (cw_next hb2) HP1.out)
  have HB2 := Lib.hid (HB1.out.trans (hb2.mono HB1.out.size))
  clear hb2 hx2
  have x1 : w2.cell? ⟨w1.heap.size, 1, none⟩ = some (.slice pa 2 pc) := HX2.out 1 _ rfl
  obtain ⟨g, off, hvp, qv, vv, bv, fv, p0, p1, p2, p3, p4, hnm, hps, hvs, hbody, hfin⟩ := procs_at HP2.out.2 (k := 0) (by decide)
  cases hvp
  rw [some_p0] at p0 hnm hps hvs hbody hfin
  obtain ⟨ba, bc, rfl, -, -⟩ := hbody.form
  have e3 : w2.cell? ⟨g, off + 3, none⟩ = some (.slice ba 4 bc) := p3
  obtain ⟨gb, ob, hvb, hst⟩ := sts_open hbody (k := 1) (by decide)
  cases hvb
  rw [some_b1] at hst
  obtain ⟨la, ka, aa, ta, ea, lc, kc, ac, tc, ec, hce, hha, -⟩ := st_open hst
  have HCE := Lib.hid hce
  have HHA := Lib.hid (hha w2 (fun _ _ _ h => h))
  clear p0 p1 p2 p3 p4 hnm hps hvs hbody hfin hst hce hha
  go_upto_region 3 with (refine wpList_load_mid rfl 41 (.tmp 9) rfl gb (ob + 13) rfl [.int .i64 sS2.id, .int .i64 sS2.kind, .slice la sS2.labels.length lc, .string sS2.nm, .string sS2.proc, .int .i64 sS2.x.op, .int .i64 sS2.x.n, .string sS2.x.nm, .slice ka sS2.x.ks.length kc, .bool sS2.has, .slice aa sS2.args.length ac, .slice ta sS2.thn.length tc, .slice ea sS2.els.length ec] _ (fun j v hv => HCE.out j v hv) Try.underlying41 rfl (by kernel_rfl) ?_)
  refine cut_world (fun wx => Below w2.heap.size w2 wx ∧ BoxAt wx w2.heap.size [.int .i64 sS2.id, .int .i64 sS2.kind, .slice la sS2.labels.length lc, .string sS2.nm, .string sS2.proc, .int .i64 sS2.x.op, .int .i64 sS2.x.n, .string sS2.x.nm, .slice ka sS2.x.ks.length kc, .bool sS2.has, .slice aa sS2.args.length ac, .slice ta sS2.thn.length tc, .slice ea sS2.els.length ec]) ⟨boxed w2 _, box_new w2 #[.int .i64 sS2.id, .int .i64 sS2.kind, .slice la sS2.labels.length lc, .string sS2.nm, .string sS2.proc, .int .i64 sS2.x.op, .int .i64 sS2.x.n, .string sS2.x.nm, .slice ka sS2.x.ks.length kc, .bool sS2.has, .slice aa sS2.args.length ac, .slice ta sS2.thn.length tc, .slice ea sS2.els.length ec] 41⟩ ?_
  rintro w3 ⟨hb3, ht3⟩
  have HT3 := Lib.hid ht3
  have HX3 := Lib.hid (HX2.out.next hb3)
  have HP3 := Lib.hid (PrC.mono (cw_next hb3) HP2.out)
  have HH3 := Lib.hid (HHA.out.next hb3)
  have HB3 := Lib.hid (HB2.out.trans (hb3.mono HB2.out.size))
  clear hb3 ht3 x1 e3
  have x0 := HX3.out 0 _ rfl
  have x1 := HX3.out 1 _ rfl
  go_wp2_with (refine wpList_load_mid rfl 41 (.tmp 2) rfl w2.heap.size 0 rfl [.int .i64 sS2.id, .int .i64 sS2.kind, .slice la sS2.labels.length lc, .string sS2.nm, .string sS2.proc, .int .i64 sS2.x.op, .int .i64 sS2.x.n, .string sS2.x.nm, .slice ka sS2.x.ks.length kc, .bool sS2.has, .slice aa sS2.args.length ac, .slice ta sS2.thn.length tc, .slice ea sS2.els.length ec] _ (fun j v hv => by rw [Nat.zero_add]; exact HT3.out j v hv) Try.underlying41 rfl (by kernel_rfl) ?_)
  refine (sFits_any 3 someP _ _ sS2 la ka aa ta ea lc kc ac tc ec _ HP3.out (Hang.le HH3.out (by omega)) (RoomP.of (Nat.le_trans some_wt6 (by decide)))).mono ?_
  rw [some_fit]
  rintro e w4 ⟨rfl, hb4⟩
  have HB4 := Lib.hid (HB3.out.trans (hb4.mono HB3.out.size))
  clear hb4 x0 x1
  go_wp2_with fail
  refine (scheckA_any 3 ⟨[], []⟩ _ _ _ ⟨SlAt.nil, SlAt.nil⟩ (RoomP.of (by unfold wtPr wtTs; simp))).mono ?_
  rw [none_arity]
  rintro e w5 ⟨rfl, hb5⟩
  have HB5 := Lib.hid (HB4.out.trans (hb5.mono HB4.out.size))
  clear hb5
  have heq := fault_same 1 0
  go_wp2_with fail
  go_ret
  exact ⟨rfl, HB5.out⟩
end Go.Proofs.Ytghlmengcidmdaa.Tr
end
section
/- A program in which one statement is put for another one: it may be, its statements, its calls, its names. No program's code. Conditions: the program may be. -/
namespace Go.Proofs.Ytghlmengcidmdaa.Tr
open Go.RowKit Go.Proofs.Ytghlmengcidmdaa.Lx Go.Proofs.Ytghlmengcidmdaa.Wd
mutual
theorem putS_cnt (t : St) : ∀ s : St, cntS (putS t s) = cntS s
  | .mk i k ls nm pr x h ar th el => by
    rw [putS]
    split <;> simp only [cntS, putL_cnt t th, putL_cnt t el]
theorem putL_cnt (t : St) : ∀ l : List St, cntL (putL t l) = cntL l
  | [] => by rw [putL]
  | s :: r => by rw [putL, cntL_cons, cntL_cons, putS_cnt t s, putL_cnt t r]
end
theorem putL_len (t : St) (l : List St) : (putL t l).length = l.length := by rw [putL_map, List.length_map]
theorem putS_id (t s : St) : (putS t s).id = s.id := by
  cases s with
  | mk i k ls nm pr x h ar th el =>
    rw [putS]
    split
    · rename_i hi; exact hi.symm
    · rfl
theorem putS_in (t s : St) : (putS t s).thn = putL t s.thn ∧ (putS t s).els = putL t s.els := by
  rw [putS_eq]
  exact ⟨rfl, rfl⟩
theorem putS_out {t u : St} (h : u.id ≠ t.id) : sameF (putS t u) u := by
  rw [putS_eq]
  unfold pick
  rw [if_neg h]
  exact ⟨rfl, rfl, rfl, rfl, rfl, rfl, rfl, rfl⟩
theorem putS_at {t u : St} (h : u.id = t.id) : sameF (putS t u) t := by
  rw [putS_eq]
  unfold pick
  rw [if_pos h]
  exact ⟨rfl, rfl, rfl, rfl, rfl, rfl, rfl, rfl⟩
/-- An item put. -/
def putI (t : St) (i : It) : It := ⟨putS t i.s, i.deep, i.inn, i.els⟩
mutual
theorem preS_put (t : St) : ∀ (s : St) (deep inn : Int) (els : Bool), preS deep inn els (putS t s) = (preS deep inn els s).map (putI t)
  | .mk i k ls nm pr x h ar th el, deep, inn, els => by
    rw [preS_eq, preS_eq, putS_id, (putS_in t _).1, (putS_in t _).2]
    simp only [St.id, St.thn, St.els]
    rw [preL_put t th, preL_put t el, List.map_cons, List.map_append]
    rfl
theorem preL_put (t : St) : ∀ (l : List St) (deep inn : Int) (els : Bool), preL deep inn els (putL t l) = (preL deep inn els l).map (putI t)
  | [], deep, inn, els => by rw [putL, preL]; rfl
  | s :: r, deep, inn, els => by rw [putL, preL_cons, preL_cons, preS_put t s, preL_put t r, List.map_append]
end
theorem its_put (t : St) (f : Pc) : itsOf (putPc t f) = (itsOf f).map (putI t) := preL_put t f.body 1 0 false
theorem sts_put (t : St) (f : Pc) : stsOf (putPc t f) = (stsOf f).map (putS t) := by
  unfold stsOf
  rw [its_put, List.map_map, List.map_map]
  rfl
theorem all_put (t : St) (p : Pr) : allSts (putPr t p) = (allSts p).map (putS t) := by
  unfold allSts
  have h : (putPr t p).procs = p.procs.map (putPc t) := rfl
  rw [h, List.map_map, List.map_flatten, List.map_map]
  congr 1
  refine List.map_congr_left fun f _ => ?_
  exact sts_put t f
theorem procNs_put (t : St) (p : Pr) : procNs (putPr t p) = procNs p := by
  unfold procNs
  have h : (putPr t p).procs = p.procs.map (putPc t) := rfl
  rw [h, List.map_map]
  rfl
theorem pcOf_put (t : St) (l : List Pc) (s : ByteArray) : pcOf (l.map (putPc t)) s = (pcOf l s).map (putPc t) := by
  unfold pcOf
  rw [List.find?_map]
  rfl
theorem head_put (t : St) (p : Pr) : headFault (putPr t p) = headFault p := by
  unfold headFault
  rw [procNs_put]
  have h : (putPr t p).procs = p.procs.map (putPc t) := rfl
  rw [h, pcOf_put]
  cases pcOf p.procs sMain <;> rfl
theorem known_same {g procs : List ByteArray} {f : Pc} {u v : St} (h : sameF u v) : knownS g f procs u = knownS g f procs v := by
  obtain ⟨h1, h2, h3, h4, h5, h6, h7, h8⟩ := h
  unfold knownS saidS saidN
  rw [h2, h4, h5, h6, h8]
theorem known_put {g procs : List ByteArray} {f : Pc} {t u : St} : knownS g (putPc t f) procs u = knownS g f procs u := rfl
theorem fits_same {p : Pr} {u v : St} (h : sameF u v) : fitsP p u = fitsP p v := by
  obtain ⟨h1, h2, h3, h4, h5, h6, h7, h8⟩ := h
  unfold fitsP
  rw [h2, h5, h8]
theorem fits_put {p : Pr} {t u : St} : fitsP (putPr t p) u = fitsP p u := by
  unfold fitsP
  have h : (putPr t p).procs = p.procs.map (putPc t) := rfl
  rw [h, pcOf_put]
  cases pcOf p.procs u.proc <;> rfl
theorem bad_same {p : Pr} {u v : St} (h : sameF u v) : badCall p u = badCall p v := by
  unfold badCall
  rw [fits_same h, h.2.1]
theorem bad_put {p : Pr} {t u : St} : badCall (putPr t p) u = badCall p u := by
  unfold badCall
  rw [fits_put]
/-- Has a statement what its kind has: what stands in it is only counted. -/
theorem fields_len {s u : St} (h : sameF s u) (h1 : s.thn.length = u.thn.length) (h2 : s.els.length = u.els.length) : fieldsB s = fieldsB u := by
  obtain ⟨f1, f2, f3, f4, f5, f6, f7, f8⟩ := h
  unfold fieldsB okK moreI hasI thenI otherI nameI procI xI
  rw [f2, f4, f5, f6, f7, f8, h1, h2]
/-- The statement that is put, with what stood in the other one. -/
def withIn (t s : St) : St := .mk t.id t.kind t.labels t.nm t.proc t.x t.has t.args s.thn s.els
mutual
theorem may_putS {t s : St} (hn : namesB t.labels = true) (hf : fieldsB (withIn t s) = true) : ∀ (u : St) (nest n : Int), rowS 200 12 nest n u = true → findS t.id u = some s → rowS 200 12 nest n (putS t u) = true
  | .mk i k ls nm pr x h ar th el, nest, n => fun hr hs => by
    have hr0 := hr
    rw [rowS_eq] at hr ⊢
    have e1 : (putS t (.mk i k ls nm pr x h ar th el)).id = i := putS_id t _
    have e2 : (putS t (.mk i k ls nm pr x h ar th el)).thn = putL t th := (putS_in t _).1
    have e3 : (putS t (.mk i k ls nm pr x h ar th el)).els = putL t el := (putS_in t _).2
    rw [e1, e2, e3]
    simp only [Bool.and_eq_true, decide_eq_true_eq, beq_iff_eq, St.id, St.labels, St.thn, St.els] at hr
    simp only [Bool.and_eq_true, decide_eq_true_eq, beq_iff_eq]
    rw [findS] at hs
    rw [putL_cnt]
    by_cases hi : i = t.id
    · rw [if_pos hi] at hs
      cases hs
      have hsf := putS_at (t := t) (u := .mk i k ls nm pr x h ar th el) hi
      have hlab : (putS t (.mk i k ls nm pr x h ar th el)).labels = t.labels := hsf.2.2.1
      have hn1 := hr.1.1.1.1.2
      rw [put_outL t th _ _ hr.1.2 (by omega), put_outL t el _ _ hr.2 (by omega), hlab]
      refine ⟨⟨⟨⟨hr.1.1.1.1, hn⟩, ?_⟩, hr.1.2⟩, hr.2⟩
      rw [← hf]
      refine fields_len ?_ ?_ ?_
      · exact hsf
      · rw [(putS_in t _).1, putL_len]; rfl
      · rw [(putS_in t _).2, putL_len]; rfl
    · rw [if_neg hi] at hs
      have hsf := putS_out (t := t) (u := .mk i k ls nm pr x h ar th el) hi
      have hlab : (putS t (.mk i k ls nm pr x h ar th el)).labels = ls := hsf.2.2.1
      have hfl : fieldsB (putS t (.mk i k ls nm pr x h ar th el)) = fieldsB (.mk i k ls nm pr x h ar th el) := fields_len hsf (by rw [(putS_in t _).1, putL_len]) (by rw [(putS_in t _).2, putL_len])
      rw [hlab, hfl]
      cases hh : findL t.id th with
      | some u =>
        rw [hh] at hs
        cases hs
        have hg := findL_range t.id th _ _ hr.1.2 (by rw [hh]; rfl)
        refine ⟨⟨hr.1.1, may_putL hn hf th _ _ hr.1.2 hh⟩, ?_⟩
        rw [put_outL t el _ _ hr.2 (by omega)]
        exact hr.2
      | none =>
        rw [hh] at hs
        have hg := findL_range t.id el _ _ hr.2 (by simp only at hs; rw [hs]; rfl)
        refine ⟨⟨hr.1.1, ?_⟩, may_putL hn hf el _ _ hr.2 hs⟩
        rw [put_outL t th _ _ hr.1.2 (by omega)]
        exact hr.1.2
theorem may_putL {t s : St} (hn : namesB t.labels = true) (hf : fieldsB (withIn t s) = true) : ∀ (l : List St) (nest n : Int), rowsL 200 12 nest n l = true → findL t.id l = some s → rowsL 200 12 nest n (putL t l) = true
  | [], nest, n => fun _ hs => by rw [findL] at hs; cases hs
  | u :: r, nest, n => fun hr hs => by
    rw [rowsL_cons] at hr
    simp only [Bool.and_eq_true, decide_eq_true_eq] at hr
    rw [putL, rowsL_cons, putS_cnt]
    simp only [Bool.and_eq_true, decide_eq_true_eq]
    rw [findL] at hs
    cases hh : findS t.id u with
    | some a =>
      rw [hh] at hs
      cases hs
      have hg := findS_range t.id u _ _ hr.1.2 (by rw [hh]; rfl)
      refine ⟨⟨hr.1.1, may_putS hn hf u _ _ hr.1.2 hh⟩, ?_⟩
      rw [put_outL t r _ _ hr.2 (by omega)]
      exact hr.2
    | none =>
      rw [hh] at hs
      have hg := findL_range t.id r _ _ hr.2 (by simp only at hs; rw [hs]; rfl)
      refine ⟨⟨hr.1.1, ?_⟩, may_putL hn hf r _ _ hr.2 hs⟩
      rw [put_outS t u _ _ hr.1.2 (by omega)]
      exact hr.1.2
end
theorem mayPc_parts {n : Int} {f : Pc} : mayPc n f = true ↔ headPc f = true ∧ f.params.all (fun a => isName (bl a.nm)) = true ∧ rowsL 200 12 1 n f.body = true := by
  unfold mayPc
  rw [Bool.and_eq_true, Bool.and_eq_true, and_assoc]
theorem may_putPs {t s : St} (hn : namesB t.labels = true) (hf : fieldsB (withIn t s) = true) : ∀ (l : List Pc) (n : Int) (nm : ByteArray), mayPs n l = true → findP t.id l = some (nm, s) → mayPs n (l.map (putPc t)) = true := by
  intro l
  induction l with
  | nil => intro n nm _ h; rw [findP] at h; cases h
  | cons f r ih =>
    intro n nm h hs
    rw [mayPs, Bool.and_eq_true] at h
    rw [findP] at hs
    have hbody : (putPc t f).body = putL t f.body := rfl
    rw [List.map_cons, mayPs, Bool.and_eq_true, hbody, putL_cnt]
    cases hh : findL t.id f.body with
    | some a =>
      rw [hh] at hs
      cases hs
      have hg := findL_range t.id f.body _ _ (mayPc_rows h.1) (by rw [hh]; rfl)
      obtain ⟨m1, m2, m3⟩ := mayPc_parts.1 h.1
      refine ⟨mayPc_parts.2 ⟨m1, m2, may_putL hn hf f.body _ _ m3 hh⟩, ?_⟩
      rw [put_outPs t r _ h.2 (by omega)]
      exact h.2
    | none =>
      rw [hh] at hs
      have hg := findP_range t.id r _ h.2 (by simp only at hs; rw [hs]; rfl)
      have : putPc t f = f := by unfold putPc; rw [put_outL t f.body _ _ (mayPc_rows h.1) (by omega)]
      rw [this]
      exact ⟨h.1, ih _ nm h.2 hs⟩
theorem may_put {p : Pr} (hp : mayP p = true) {t s : St} {nm : ByteArray} (hs : findP t.id p.procs = some (nm, s)) (hn : namesB t.labels = true) (hf : fieldsB (withIn t s) = true) : mayP (putPr t p) = true := by
  unfold mayP at hp ⊢
  have h1 : (putPr t p).globals = p.globals := rfl
  have h2 : (putPr t p).procs = p.procs.map (putPc t) := rfl
  rw [h1, h2, List.length_map]
  simp only [Bool.and_eq_true] at hp ⊢
  exact ⟨hp.1, may_putPs hn hf _ _ _ hp.2 hs⟩
/-- Ids go up by one. -/
def upTo (n : Int) (m : Nat) : List Int := (List.range m).map fun (k : Nat) => n + 1 + (k : Int)
theorem upTo_add (n : Int) (a b : Nat) : upTo n (a + b) = upTo n a ++ upTo (n + a) b := by
  unfold upTo
  rw [List.range_add, List.map_append, List.map_map]
  congr 1
  refine List.map_congr_left fun k _ => ?_
  simp only [Function.comp_apply]
  push_cast
  omega
theorem upTo_len (n : Int) (m : Nat) : (upTo n m).length = m := by unfold upTo; rw [List.length_map, List.length_range]
theorem upTo_get {n : Int} {m k : Nat} (h : k < (upTo n m).length) : (upTo n m)[k] = n + 1 + k := by simp [upTo]
mutual
theorem preS_ids : ∀ (s : St) (deep inn nest n : Int) (els : Bool), rowS 200 12 nest n s = true → (preS deep inn els s).map (fun i => i.s.id) = upTo n (cntS s)
  | .mk i k ls nm pr x h ar th el, deep, inn, nest, n, els => fun hr => by
    rw [rowS_eq] at hr
    simp only [Bool.and_eq_true, decide_eq_true_eq, beq_iff_eq, St.id, St.labels, St.thn, St.els] at hr
    rw [preS, List.map_cons, List.map_append]
    rw [preL_ids th _ _ _ _ _ hr.1.2, preL_ids el _ _ _ _ _ hr.2, cntS, Nat.add_assoc, upTo_add n 1, upTo_add]
    have h1 : i = n + 1 := hr.1.1.1.1.2
    have h2 : upTo n 1 = [n + 1] := by simp [upTo]
    rw [h2, List.singleton_append]
    exact congrArg (fun x => x :: (upTo (n + 1) (cntL th) ++ upTo (n + 1 + (cntL th : Int)) (cntL el))) h1
theorem preL_ids : ∀ (l : List St) (deep inn nest n : Int) (els : Bool), rowsL 200 12 nest n l = true → (preL deep inn els l).map (fun i => i.s.id) = upTo n (cntL l)
  | [], deep, inn, nest, n, els => fun _ => by rw [preL, cntL]; rfl
  | s :: r, deep, inn, nest, n, els => fun hr => by
    rw [rowsL_cons] at hr
    simp only [Bool.and_eq_true, decide_eq_true_eq] at hr
    rw [preL_cons, List.map_append, preS_ids s _ _ _ _ _ hr.1.2, preL_ids r _ _ _ _ _ hr.2, cntL_cons, upTo_add]
end
theorem its_ids {f : Pc} {n : Int} (h : mayPc n f = true) : (itsOf f).map (fun i => i.s.id) = upTo n (cntL f.body) := preL_ids f.body 1 0 1 n false (mayPc_rows h)
theorem pcs_ids : ∀ (l : List Pc) (n : Int), mayPs n l = true → ((l.map stsOf).flatten).map St.id = upTo n (cntP l) := by
  intro l
  induction l with
  | nil => intro n _; rfl
  | cons f r ih =>
    intro n h
    rw [mayPs, Bool.and_eq_true] at h
    have e : cntP (f :: r) = cntL f.body + cntP r := by unfold cntP; rw [List.map_cons, List.sum_cons]
    rw [List.map_cons, List.flatten_cons, List.map_append, ih _ h.2, e, upTo_add, ← its_ids h.1]
    unfold stsOf
    rw [List.map_map]
    rfl
theorem all_ids {p : Pr} (h : mayP p = true) : (allSts p).map St.id = upTo 0 (cntP p.procs) := pcs_ids _ _ (mayP_procs h)
theorem all_len2 {p : Pr} (h : mayP p = true) : (allSts p).length = cntP p.procs := by
  have := congrArg List.length (all_ids h)
  rwa [List.length_map, upTo_len] at this
theorem all_id {p : Pr} (h : mayP p = true) {k : Nat} (hk : k < (allSts p).length) : (allSts p)[k].id = k + 1 := by
  have h1 : ((allSts p).map St.id)[k]'(by rw [List.length_map]; exact hk) = (upTo 0 (cntP p.procs))[k]'(by rw [upTo_len, ← all_len2 h]; exact hk) := by simp only [all_ids h]
  rw [List.getElem_map, upTo_get] at h1
  omega
end Go.Proofs.Ytghlmengcidmdaa.Tr
end
section
/- A statement by its id; what the checks tell of a program in which one statement is put for another. No program's code. Conditions: the program may be. -/
namespace Go.Proofs.Ytghlmengcidmdaa.Tr
open Go.RowKit Go.Proofs.Ytghlmengcidmdaa.Lx Go.Proofs.Ytghlmengcidmdaa.Wd
theorem mayPs_at : ∀ {l : List Pc} {n : Int}, mayPs n l = true → 0 ≤ n → ∀ k (hk : k < l.length), ∃ m, n ≤ m ∧ mayPc m l[k] = true := by
  intro l
  induction l with
  | nil => intro n _ _ k hk; exact absurd hk (by simp)
  | cons f r ih =>
    intro n h h0 k hk
    rw [mayPs, Bool.and_eq_true] at h
    cases k with
    | zero => exact ⟨n, Int.le_refl _, h.1⟩
    | succ k =>
      obtain ⟨m, h1, h2⟩ := ih h.2 (by omega) k (by simpa using hk)
      exact ⟨m, by omega, by rwa [List.getElem_cons_succ]⟩
theorem sts_len (f : Pc) : (stsOf f).length = cntL f.body := by unfold stsOf itsOf; rw [List.length_map, preL_len]
theorem its_len (f : Pc) : (itsOf f).length = cntL f.body := by unfold itsOf; exact preL_len _ _ _ _
theorem its_at_id {f : Pc} {n : Int} (h : mayPc n f = true) {k : Nat} (hk : k < (itsOf f).length) : (itsOf f)[k].s.id = n + 1 + k := by
  have h1 : ((itsOf f).map (fun i => i.s.id))[k]'(by rw [List.length_map]; exact hk) = (upTo n (cntL f.body))[k]'(by rw [upTo_len, ← its_len]; exact hk) := by simp only [its_ids h]
  rwa [List.getElem_map, upTo_get] at h1
theorem sts_get {f : Pc} {k : Nat} (hk : k < (stsOf f).length) : (stsOf f)[k] = ((itsOf f)[k]'(by unfold stsOf at hk; rwa [List.length_map] at hk)).s := by simp [stsOf]
theorem sts_at_id {f : Pc} {n : Int} (h : mayPc n f = true) {k : Nat} (hk : k < (stsOf f).length) : (stsOf f)[k].id = n + 1 + k := by rw [sts_get hk, its_at_id h]
theorem sts_range {f : Pc} {n : Int} (h : mayPc n f = true) {u : St} (hu : u ∈ stsOf f) : n < u.id ∧ u.id ≤ n + cntL f.body := by
  obtain ⟨k, hk, rfl⟩ := List.getElem_of_mem hu
  have := sts_at_id h hk
  rw [sts_len] at hk
  omega
theorem pcs_above : ∀ {l : List Pc} {n : Int}, mayPs n l = true → ∀ k (hk : k < l.length), ∀ u ∈ stsOf l[k], n < u.id := by
  intro l
  induction l with
  | nil => intro n _ k hk; exact absurd hk (by simp)
  | cons f r ih =>
    intro n h k hk u hu
    rw [mayPs, Bool.and_eq_true] at h
    cases k with
    | zero => exact (sts_range h.1 hu).1
    | succ k => have := ih h.2 k (by simpa using hk) u hu; omega
theorem pcs_order : ∀ {l : List Pc} {n : Int}, mayPs n l = true → ∀ j k (hj : j < l.length) (hk : k < l.length), j < k → ∀ u ∈ stsOf l[j], ∀ v ∈ stsOf l[k], u.id < v.id := by
  intro l
  induction l with
  | nil => intro n _ j k hj; exact absurd hj (by simp)
  | cons f r ih =>
    intro n h j k hj hk hjk u hu v hv
    rw [mayPs, Bool.and_eq_true] at h
    cases k with
    | zero => omega
    | succ k =>
      cases j with
      | zero =>
        have h1 := (sts_range h.1 hu).2
        have h2 := pcs_above h.2 k (by simpa using hk) v hv
        omega
      | succ j => exact ih h.2 j k (by simpa using hj) (by simpa using hk) (by omega) u hu v hv
/-- Two of one id stand in one procedure, and are one. -/
theorem same_pc {p : Pr} (h : mayP p = true) {j k : Nat} (hj : j < p.procs.length) (hk : k < p.procs.length) {u v : St} (hu : u ∈ stsOf p.procs[j]) (hv : v ∈ stsOf p.procs[k]) (he : u.id = v.id) : j = k := by
  rcases Nat.lt_trichotomy j k with h1 | h1 | h1
  · have := pcs_order (mayP_procs h) j k hj hk h1 u hu v hv; omega
  · exact h1
  · have := pcs_order (mayP_procs h) k j hk hj h1 v hv u hu; omega
theorem flat_itsL : ∀ {l : List Pc} {n : Int}, mayPs n l = true → 0 ≤ n → n + cntP l ≤ 200 → ∀ f ∈ l, flatOf f = itsOf f := by
  intro l
  induction l with
  | nil => intro n _ _ _ f hf; cases hf
  | cons g r ih =>
    intro n h h0 h2 f hf
    rw [mayPs, Bool.and_eq_true] at h
    have e : ((cntP (g :: r) : Nat) : Int) = cntL g.body + cntP r := by unfold cntP; rw [List.map_cons, List.sum_cons]; push_cast; rfl
    rcases List.mem_cons.1 hf with rfl | hf
    · unfold flatOf itsOf
      rw [flatL_pre f.body 1 0 n false [] (mayPc_rows h.1) (by simp; omega), List.nil_append]
    · exact ih h.2 (by omega) (by omega) f hf
theorem flat_its {p : Pr} (h : mayP p = true) {f : Pc} (hf : f ∈ p.procs) : flatOf f = itsOf f := flat_itsL (mayP_procs h) (by omega) (by have := mayP_cnt h; omega) f hf
theorem find6_its {p : Pr} (h : mayP p = true) {k : Nat} (hk : k < p.procs.length) {t : It} (ht : t ∈ itsOf p.procs[k]) : find6 t.s.id p.procs = some (t, p.procs[k].nm) := by
  obtain ⟨m, -, hm⟩ := mayPs_at (mayP_procs h) (by omega) k hk
  obtain ⟨q, hq, rfl⟩ := List.getElem_of_mem ht
  have hst : ∀ (x : It) (j : Nat) (hj : j < p.procs.length), x ∈ itsOf p.procs[j] → x.s ∈ stsOf p.procs[j] := fun x j hj hx => List.mem_map.2 ⟨x, hx, rfl⟩
  refine find6_some hk (fun j hj hjk => ?_) ?_
  · rw [flat_its h (List.getElem_mem hj), List.find?_eq_none]
    intro x hx he
    have h1 := pcs_order (mayP_procs h) j k hj hk hjk x.s (hst x j hj hx) _ (hst _ k hk (List.getElem_mem hq))
    simp only [beq_iff_eq] at he
    omega
  · rw [flat_its h (List.getElem_mem hk)]
    refine fst_at hq (fun j hj hjk => ?_) (by simp)
    rw [its_at_id hm, its_at_id hm]
    simp only [beq_eq_false_iff_ne]
    omega
theorem find_two {id : Int} : ∀ {l : List Pc}, (∀ f ∈ l, ((flatOf f).find? fun i => i.s.id == id).map It.s = findL id f.body) → findP id l = (find6 id l).map fun q => (q.2, q.1.s) := by
  intro l
  induction l with
  | nil => intro _; rfl
  | cons f r ih =>
    intro h
    have h1 := h f List.mem_cons_self
    rw [findP, find6, ← h1, ih fun g hg => h g (List.mem_cons_of_mem _ hg)]
    cases (flatOf f).find? (fun i => i.s.id == id) <;> rfl
theorem findP_six {p : Pr} (h : mayP p = true) (id : Int) : findP id p.procs = (find6 id p.procs).map fun q => (q.2, q.1.s) := find_two fun _ hf => mayP_flat h hf id
/-- A statement that is picked. -/
structure Picked (p : Pr) (id : Int) (s : St) (k : Nat) : Prop where
  lt : k < p.procs.length
  mem : ∃ t ∈ itsOf (p.procs[k]'lt), t.s = s ∧ find6 id p.procs = some (t, (p.procs[k]'lt).nm)
  id : s.id = id
theorem Picked.st {p : Pr} {id : Int} {s : St} {k : Nat} (h : Picked p id s k) : s ∈ stsOf (p.procs[k]'h.lt) := by
  obtain ⟨t, h1, rfl, -⟩ := h.mem
  exact List.mem_map.2 ⟨t, h1, rfl⟩
theorem Picked.it {p : Pr} {id : Int} {s : St} {k : Nat} (h : Picked p id s k) : (it6 p id).s = s ∧ nm6 p id = (p.procs[k]'h.lt).nm := by
  obtain ⟨t, -, h2, h3⟩ := h.mem
  unfold it6 nm6
  rw [h3]
  exact ⟨h2, rfl⟩
theorem Picked.find {p : Pr} {id : Int} {s : St} {k : Nat} (h : Picked p id s k) (hm : mayP p = true) : findP id p.procs = some ((p.procs[k]'h.lt).nm, s) := by
  obtain ⟨t, -, h2, h3⟩ := h.mem
  rw [findP_six hm, h3]
  subst h2
  rfl
theorem Picked.all {p : Pr} {id : Int} {s : St} {k : Nat} (h : Picked p id s k) : s ∈ allSts p := by
  unfold allSts
  exact List.mem_flatten.2 ⟨_, List.mem_map.2 ⟨_, List.getElem_mem h.lt, rfl⟩, h.st⟩
theorem all_its_mem {p : Pr} (h : mayP p = true) {t : It} (ht : t ∈ allOf p) : ∃ k, ∃ hk : k < p.procs.length, t ∈ itsOf p.procs[k] := by
  have h1 : allOf p = (p.procs.map itsOf).flatten := by
    unfold allOf
    rw [all_its_l p.procs [] (by simpa using mayP_procs h) (by have := mayP_cnt h; simp; omega), List.nil_append]
  rw [h1] at ht
  obtain ⟨l, hl, htl⟩ := List.mem_flatten.1 ht
  obtain ⟨f, hf, rfl⟩ := List.mem_map.1 hl
  obtain ⟨k, hk, rfl⟩ := List.getElem_of_mem hf
  exact ⟨k, hk, htl⟩
theorem ids_in {p : Pr} (h : mayP p = true) {kind id : Int} (hid : id ∈ idsP p kind) : ∃ s k, Picked p id s k ∧ isKind kind s = true := by
  unfold idsP idsK at hid
  obtain ⟨t, ht, rfl⟩ := List.mem_map.1 hid
  obtain ⟨ht1, ht2⟩ := List.mem_filter.1 ht
  obtain ⟨k, hk, htk⟩ := all_its_mem h ht1
  exact ⟨t.s, k, ⟨hk, ⟨t, htk, rfl, find6_its h hk htk⟩, rfl⟩, ht2⟩
theorem pick_mem {l : List Int} {n : Int} (h : pickP l n ≠ 0) : pickP l n ∈ l := by
  rcases Nat.eq_zero_or_pos l.length with h0 | h0
  · exact absurd (pick_none h0) h
  · rw [pick_some h0]
    exact List.getElem_mem _
theorem picked {p : Pr} (h : mayP p = true) {kind n : Int} (h0 : pickP (idsP p kind) n ≠ 0) : ∃ s k, Picked p (pickP (idsP p kind) n) s k ∧ isKind kind s = true := ids_in h (pick_mem h0)
/-- Names well, the statement put known: names well. -/
theorem scope_put_ok {p : Pr} (h : (scopeP p).1 = 0) {t s : St} {k : Nat} (hs : Picked p t.id s k) (hm : mayP (putPr t p) = true) (hk : knownS p.globals (p.procs[k]'hs.lt) (procNs p) t = true) : scopeP (putPr t p) = (0, 0) := by
  obtain ⟨h1, h2, h3⟩ := scope_code h
  refine scope_ok hm (by rw [head_put]; exact h2) fun j hj => ?_
  have hj' : j < p.procs.length := by rwa [show (putPr t p).procs = p.procs.map (putPc t) from rfl, List.length_map] at hj
  have he : (putPr t p).procs[j] = putPc t p.procs[j] := List.getElem_map _
  obtain ⟨g1, g2, g3⟩ := pc_parts (h3 _ (List.getElem_mem hj'))
  rw [he, procNs_put]
  show pcFault p.globals (procNs p) _ = none
  refine pc_ok g1 g2 fun m hmm => ?_
  have hmm' : m < (stsOf p.procs[j]).length := by rwa [sts_put, List.length_map] at hmm
  have he2 : (stsOf (putPc t p.procs[j]))[m] = putS t (stsOf p.procs[j])[m] := by simp only [sts_put]; exact List.getElem_map _
  rw [he2, known_put]
  by_cases hid : (stsOf p.procs[j])[m].id = t.id
  · rw [known_same (putS_at hid)]
    have : j = k := same_pc h1 hj' hs.lt (List.getElem_mem hmm') hs.st (by rw [hid, hs.id])
    subst this
    exact hk
  · rw [known_same (putS_out hid)]
    exact g3 _ (List.getElem_mem hmm')
/-- Calls well, the statement put a call that does not fit: that is told. -/
theorem arity_put_bad {p : Pr} (hm : mayP p = true) (h : (arityAt p).1 = 0) {t s : St} {k : Nat} (hs : Picked p t.id s k) (hk : badCall p t = true) : arityAt (putPr t p) = (6, t.id) := by
  have hall : ∀ u ∈ allSts p, badCall p u = false := by
    unfold arityAt at h
    cases hf : (allSts p).find? (badCall p) with
    | some u => rw [hf] at h; simp at h
    | none =>
      rw [List.find?_eq_none] at hf
      intro u hu
      have := hf u hu
      simpa using this
  obtain ⟨m, hml, hms⟩ := List.getElem_of_mem hs.all
  have hid : (allSts p)[m].id = t.id := by rw [hms, hs.id]
  have hget : ∀ j (hj : j < (allSts (putPr t p)).length), ∃ hj' : j < (allSts p).length, (allSts (putPr t p))[j] = putS t (allSts p)[j] := fun j hj => by
    have hj' : j < (allSts p).length := by rwa [all_put, List.length_map] at hj
    exact ⟨hj', by simp only [all_put]; exact List.getElem_map _⟩
  have hmm : m < (allSts (putPr t p)).length := by rw [all_put, List.length_map]; exact hml
  obtain ⟨_, he⟩ := hget m hmm
  have hB : badCall (putPr t p) (allSts (putPr t p))[m] = true := by
    rw [he, bad_put, bad_same (putS_at hid)]
    exact hk
  have hA : ∀ j (hj : j < (allSts (putPr t p)).length), j < m → badCall (putPr t p) (allSts (putPr t p))[j] = false := fun j hj hjm => by
    obtain ⟨hjl, he2⟩ := hget j hj
    have hne : (allSts p)[j].id ≠ t.id := fun e => by
      rw [← hid, all_id hm hjl, all_id hm hml] at e
      omega
    rw [he2, bad_put, bad_same (putS_out hne)]
    exact hall _ (List.getElem_mem hjl)
  rw [arity_bad hmm hA hB, he, putS_id, hid]
end Go.Proofs.Ytghlmengcidmdaa.Tr
end
section
/- A call turned by an argument: an argument less, one more, one handed in the other way. No program's code. Conditions: calls are well. -/
namespace Go.Proofs.Ytghlmengcidmdaa.Tr
open Go.RowKit Go.Proofs.Ytghlmengcidmdaa.Lx Go.Proofs.Ytghlmengcidmdaa.Wd
/-- A name by reference, a name by its value. -/
def refA (s : ByteArray) : Ar := .mk true s eNone
def valA (s : ByteArray) : Ar := .mk false noT (eName s)
/-- The arguments turned at q, as m tells (0: one more, 1: one less, else: the other way). -/
def turnA (l0 : ByteArray) (m : Int) (q : Nat) (args : List Ar) : List Ar :=
  if args.length = 0 ∨ m = 0 then args ++ [refA l0] else if m = 1 then args.take q ++ args.drop (q + 1)
  else match args[q]? with
  | some a => if a.ref then args.set q (valA a.nm) else args.set q (refA l0)
  | none => args
/-- A statement with other arguments. -/
def setArgs (s : St) (rs : List Ar) : St := .mk s.id s.kind s.labels s.nm s.proc s.x s.has rs s.thn s.els
theorem same_parts {l : List Pa} {m : List Ar} (h : sameP l m = true) : l.length = m.length ∧ ∀ k (h1 : k < l.length) (h2 : k < m.length), l[k].ref = m[k].ref := by
  unfold sameP at h
  rw [Bool.and_eq_true, decide_eq_true_eq, List.all_eq_true] at h
  refine ⟨h.1, fun k h1 h2 => ?_⟩
  have hk : k < (l.zip m).length := by rw [List.length_zip]; omega
  have := h.2 _ (List.getElem_mem hk)
  rw [List.getElem_zip] at this
  simpa using this
theorem turnA_same {ps : List Pa} {l0 : ByteArray} {m : Int} {q : Nat} {args : List Ar} (h : sameP ps args = true) (hq : args.length = 0 ∨ q < args.length) : sameP ps (turnA l0 m q args) = false := by
  obtain ⟨h1, h2⟩ := same_parts h
  unfold turnA
  by_cases c1 : args.length = 0 ∨ m = 0
  · rw [if_pos c1]
    exact same_len (by rw [List.length_append, List.length_singleton]; omega)
  · rw [if_neg c1]
    have hql : q < args.length := by
      rcases hq with h | h
      · exact absurd (.inl h) c1
      · exact h
    by_cases c2 : m = 1
    · rw [if_pos c2]
      exact same_len (by rw [List.length_append, List.length_take, List.length_drop]; omega)
    · rw [if_neg c2, List.getElem?_eq_getElem hql]
      simp only
      have hr := h2 q (by omega) hql
      cases hb : args[q].ref with
      | true =>
        rw [if_pos rfl]
        refine same_bad (k := q) (by omega) (by rw [List.length_set]; exact hql) ?_
        rw [List.getElem_set_self, hr, hb]
        exact Bool.noConfusion
      | false =>
        rw [if_neg Bool.false_ne_true]
        refine same_bad (k := q) (by omega) (by rw [List.length_set]; exact hql) ?_
        rw [List.getElem_set_self, hr, hb]
        exact Bool.noConfusion
theorem name_may (s : ByteArray) : mayE 20 (eName s) = isName (bl s) := by
  unfold eName
  rw [mayE]
  simp [kidsOf, headE, Ex.op, Ex.n, Ex.nm, Ex.ks]
theorem names_none : namesOf eNone = [] := by kernel_rfl
theorem names_name (s : ByteArray) : ∀ n ∈ namesOf (eName s), n = s := by
  unfold namesOf
  split
  · intro n hn
    rw [namesE_succ] at hn
    simpa [eName, ownN, addN, at_, Ex.ks, Ex.op, Ex.nm] using hn
  · intro n hn; cases hn
theorem turnA_mem {l0 : ByteArray} {m : Int} {q : Nat} {args : List Ar} : ∀ a ∈ turnA l0 m q args, a ∈ args ∨ a = refA l0 ∨ ∃ b ∈ args, b.ref = true ∧ a = valA b.nm := by
  intro a ha
  unfold turnA at ha
  split at ha
  · rcases List.mem_append.1 ha with h | h
    · exact .inl h
    · exact .inr (.inl (by simpa using h))
  · split at ha
    · rcases List.mem_append.1 ha with h | h
      · exact .inl (List.mem_of_mem_take h)
      · exact .inl (List.mem_of_mem_drop h)
    · split at ha
      · rename_i b hb
        have hb' := List.mem_of_getElem? hb
        split at ha
        · rename_i hr
          rcases List.mem_or_eq_of_mem_set ha with h | h
          · exact .inl h
          · exact .inr (.inr ⟨b, hb', hr, h⟩)
        · rcases List.mem_or_eq_of_mem_set ha with h | h
          · exact .inl h
          · exact .inr (.inl h)
      · exact .inl ha
theorem turnA_len {l0 : ByteArray} {m : Int} {q : Nat} {args : List Ar} : (turnA l0 m q args).length ≤ args.length + 1 := by
  unfold turnA
  split
  · simp
  · split
    · simp only [List.length_append, List.length_take, List.length_drop]; omega
    · split
      · split <;> simp
      · omega
theorem hand_iff {l : List Ar} : handedB l = true ↔ ∀ a ∈ l, namedB a.nm a.ref = true ∧ worthB a.x (!a.ref) = true := by
  unfold handedB
  rw [List.all_eq_true]
  constructor
  · intro h a ha
    have := h a ha
    rwa [Bool.and_eq_true] at this
  · intro h a ha
    rw [Bool.and_eq_true]
    exact h a ha
theorem ref_hand {s : ByteArray} (h : isName (bl s) = true) : namedB (refA s).nm (refA s).ref = true ∧ worthB (refA s).x (!(refA s).ref) = true := ⟨h, (by kernel_rfl : worthB eNone false = true)⟩
theorem val_hand {s : ByteArray} (h : isName (bl s) = true) : namedB (valA s).nm (valA s).ref = true ∧ worthB (valA s).x (!(valA s).ref) = true := ⟨(by kernel_rfl : namedB noT false = true), by
  show mayE 20 (eName s) = true
  rw [name_may]; exact h⟩
theorem turnA_hand {l0 : ByteArray} {m : Int} {q : Nat} {args : List Ar} (h : handedB args = true) (h0 : isName (bl l0) = true) : handedB (turnA l0 m q args) = true := by
  rw [hand_iff] at h ⊢
  intro a ha
  rcases turnA_mem a ha with h1 | rfl | ⟨b, hb, hr, rfl⟩
  · exact h a h1
  · exact ref_hand h0
  · have h2 := (h b hb).1
    rw [hr] at h2
    exact val_hand h2
theorem turnA_said {l0 : ByteArray} {m : Int} {q : Nat} {args : List Ar} : ∀ n ∈ ((turnA l0 m q args).map saidA).flatten, n = l0 ∨ n ∈ (args.map saidA).flatten := by
  intro n hn
  obtain ⟨l, hl, hnl⟩ := List.mem_flatten.1 hn
  obtain ⟨a, ha, rfl⟩ := List.mem_map.1 hl
  rcases turnA_mem a ha with h1 | rfl | ⟨b, hb, hr, rfl⟩
  · exact .inr (List.mem_flatten.2 ⟨_, List.mem_map.2 ⟨a, h1, rfl⟩, hnl⟩)
  · left
    have : saidA (refA l0) = [l0] := by
      unfold saidA refA
      simp only [Ar.ref, Ar.nm, Ar.x]
      rw [names_none]
      rfl
    rw [this] at hnl
    simpa using hnl
  · right
    have h1 : n = b.nm := by
      unfold saidA valA at hnl
      simp only [Ar.ref, Ar.nm, Ar.x] at hnl
      rcases List.mem_append.1 hnl with h | h
      · cases h
      · exact names_name _ n h
    refine List.mem_flatten.2 ⟨_, List.mem_map.2 ⟨b, hb, rfl⟩, ?_⟩
    unfold saidA
    rw [hr, h1]
    simp
theorem fields_args {s : St} {rs : List Ar} (hk : s.kind = 4) (h : fieldsB s = true) (ha : handedB rs = true) : fieldsB (setArgs s rs) = true := by
  unfold fieldsB at h ⊢
  simp only [Bool.and_eq_true] at h ⊢
  obtain ⟨⟨⟨⟨⟨h1, h2⟩, h3⟩, h4⟩, h5⟩, h6⟩ := h
  refine ⟨⟨⟨⟨⟨h1, ?_⟩, h3⟩, h4⟩, h5⟩, ha⟩
  have hp : procI s = true := by unfold procI; rw [hk]; rfl
  have hp2 : procI (setArgs s rs) = true := hp
  unfold moreI at h2 ⊢
  rw [hp] at h2
  rw [hp2]
  simp only [Bool.not_true, Bool.false_and, Bool.or_false] at h2 ⊢
  exact h2
theorem picked_row {p : Pr} (h : mayP p = true) {id : Int} {s : St} {k : Nat} (hs : Picked p id s k) : fieldsB s = true ∧ namesB s.labels = true := by
  obtain ⟨e, m, hr⟩ := findP_row (mayP_procs h) (hs.find h)
  rw [rowS_eq] at hr
  simp only [Bool.and_eq_true] at hr
  exact ⟨hr.1.1.2, hr.1.1.1.2⟩
theorem may_glob {p : Pr} (h : mayP p = true) : namesB p.globals = true := by
  unfold mayP at h
  simp only [Bool.and_eq_true] at h
  exact h.1.2
theorem may_own {p : Pr} (h : mayP p = true) {f : Pc} (hf : f ∈ p.procs) : ∀ s ∈ ownNs f, isName (bl s) = true := by
  obtain ⟨k, hk, rfl⟩ := List.getElem_of_mem hf
  obtain ⟨m, -, hm⟩ := mayPs_at (mayP_procs h) (by omega) k hk
  obtain ⟨h1, h2, -⟩ := mayPc_parts.1 hm
  unfold headPc at h1
  simp only [Bool.and_eq_true] at h1
  intro s hs
  unfold ownNs at hs
  rcases List.mem_append.1 hs with hs | hs
  · obtain ⟨a, ha, rfl⟩ := List.mem_map.1 hs
    exact List.all_eq_true.1 h2 a ha
  · exact List.all_eq_true.1 h1.1.2 s hs
theorem vars_name {p : Pr} (h : (scopeP p).1 = 0) {f : Pc} (hf : f ∈ p.procs) {s : ByteArray} (hs : s ∈ varsIn p f.nm) : isName (bl s) = true ∧ kindP p.globals f s ≠ 0 := by
  have hm := (scope_code h).1
  rw [well_vars hf h] at hs
  have hk : s ∈ p.globals ∨ s ∈ ownNs f := List.mem_append.1 hs
  refine ⟨?_, fun e => ?_⟩
  · rcases hk with h1 | h1
    · exact List.all_eq_true.1 (may_glob hm) s h1
    · exact may_own hm hf s h1
  · rw [kind_zero] at e
    rcases hk with h1 | h1
    · exact e.2 h1
    · exact e.1 h1
theorem arity_code {p : Pr} (h : (arityP p).1 = 0) : (scopeP p).1 = 0 ∧ (arityAt p).1 = 0 := by
  unfold arityP at h
  split at h
  · rename_i h1; exact ⟨h1, h⟩
  · exact absurd h (by decide)
theorem arity_fits {p : Pr} (h : (arityAt p).1 = 0) {s : St} (hs : s ∈ allSts p) (hk : s.kind = 4) : fitsP p s = true := by
  unfold arityAt at h
  cases hf : (allSts p).find? (badCall p) with
  | some u => rw [hf] at h; simp at h
  | none =>
    rw [List.find?_eq_none] at hf
    have := hf s hs
    unfold badCall at this
    rw [hk] at this
    simpa using this
theorem fits_parts {p : Pr} {s : St} (h : fitsP p s = true) : ∃ f, pcOf p.procs s.proc = some f ∧ sameP f.params s.args = true := by
  unfold fitsP at h
  rw [Bool.and_eq_true] at h
  cases hf : pcOf p.procs s.proc with
  | none => rw [hf] at h; simp at h
  | some f => rw [hf] at h; exact ⟨f, rfl, h.2⟩
/-- The law's plain part. -/
theorem arity_turned {p : Pr} (h : (arityP p).1 = 0) {id : Int} {s : St} {k : Nat} (hs : Picked p id s k) (hk : isKind 4 s = true) {l0 : ByteArray} (hl0 : l0 ∈ varsIn p (p.procs[k]'hs.lt).nm) {m : Int} {q : Nat} (hq : s.args.length = 0 ∨ q < s.args.length) :
    arityP (putPr (setArgs s (turnA l0 m q s.args)) p) = (6, id) ∧ (decide ((scopeP p).1 = 0) && fitsP p (setArgs s (turnA l0 m q s.args))) = false := by
  obtain ⟨h1, h2⟩ := arity_code h
  have hm := (scope_code h1).1
  have hk4 : s.kind = 4 := by unfold isKind at hk; simpa using hk
  obtain ⟨t, ht⟩ : ∃ t, t = setArgs s (turnA l0 m q s.args) := ⟨_, rfl⟩
  have hid : t.id = id := by rw [ht]; exact hs.id
  have htk : t.kind = 4 := by rw [ht]; exact hk4
  have hs' : Picked p t.id s k := by rw [hid]; exact hs
  obtain ⟨hfb, hlb⟩ := picked_row hm hs
  obtain ⟨hn0, hkn⟩ := vars_name h1 (List.getElem_mem hs.lt) hl0
  have hh : handedB s.args = true := by
    unfold fieldsB at hfb
    simp only [Bool.and_eq_true] at hfb
    exact hfb.2
  have hft : fieldsB (withIn t s) = true := by
    rw [ht]
    exact (fields_args (s := s) (rs := turnA l0 m q s.args) hk4 hfb (turnA_hand hh hn0) : fieldsB (setArgs s (turnA l0 m q s.args)) = true)
  have hmt : mayP (putPr t p) = true := may_put hm (hs'.find hm) (by rw [ht]; exact hlb) hft
  have hkt : knownS p.globals (p.procs[k]'hs.lt) (procNs p) t = true := by
    have hks := (pc_parts ((scope_code h1).2.2 _ (List.getElem_mem hs.lt))).2.2 s hs.st
    unfold knownS at hks ⊢
    rw [Bool.and_eq_true] at hks ⊢
    refine ⟨?_, by rw [ht]; exact hks.2⟩
    rw [List.all_eq_true] at hks ⊢
    intro n hn
    have hn2 : n = l0 ∨ n ∈ saidS s := by
      rw [ht] at hn
      unfold saidS at hn ⊢
      rcases List.mem_append.1 hn with h3 | h3
      · exact .inr (List.mem_append_left _ h3)
      · rcases turnA_said n h3 with h4 | h4
        · exact .inl h4
        · exact .inr (List.mem_append_right _ h4)
    rcases hn2 with rfl | h3
    · simpa using hkn
    · exact hks.1 n h3
  have hsc := scope_put_ok h1 hs' hmt hkt
  have hbad : fitsP p t = false := by
    obtain ⟨f, hf1, hf2⟩ := fits_parts (arity_fits h2 hs.all hk4)
    have : pcOf p.procs t.proc = some f := by rw [ht]; exact hf1
    rw [fits_some (by rw [htk]; rfl) this, ht]
    exact turnA_same hf2 hq
  have hbc : badCall p t = true := by unfold badCall; rw [hbad, htk]; rfl
  have har := arity_put_bad hm h2 hs' hbc
  rw [ht] at hsc har hbad hid
  refine ⟨?_, by rw [hbad, Bool.and_false]⟩
  unfold arityP
  rw [hsc, har, hid]
  rfl
end Go.Proofs.Ytghlmengcidmdaa.Tr
end
section
/- Room in a program in which one statement is put for another. No program's code. Conditions: the program may be, and is not heavy. -/
namespace Go.Proofs.Ytghlmengcidmdaa.Tr
open Go.RowKit Go.Proofs.Ytghlmengcidmdaa.Lx Go.Proofs.Ytghlmengcidmdaa.Wd
theorem said_same {u v : St} (h : sameF u v) : saidS u = saidS v := by
  obtain ⟨h1, h2, h3, h4, h5, h6, h7, h8⟩ := h
  unfold saidS saidN
  rw [h2, h4, h6, h8]
theorem labs_out {t : St} : ∀ {l : List St}, (∀ u ∈ l, u.id ≠ t.id) → labLs (l.map (putS t)) = labLs l := by
  intro l
  induction l with
  | nil => intro _; rfl
  | cons s r ih =>
    intro h
    rw [List.map_cons, labLs_cons, labLs_cons, ih fun u hu => h u (List.mem_cons_of_mem _ hu), (putS_out (h s List.mem_cons_self)).2.2.1]
theorem labs_put {t : St} : ∀ {l : List St}, (l.map St.id).Nodup → (labLs (l.map (putS t))).length ≤ (labLs l).length + t.labels.length := by
  intro l
  induction l with
  | nil => intro _; simp [labLs]
  | cons s r ih =>
    intro h
    rw [List.map_cons, List.nodup_cons] at h
    rw [List.map_cons, labLs_cons, labLs_cons, List.length_append, List.length_append]
    by_cases hid : s.id = t.id
    · have hr : ∀ u ∈ r, u.id ≠ t.id := fun u hu e => h.1 (List.mem_map.2 ⟨u, hu, by rw [e, hid]⟩)
      rw [labs_out hr, (putS_at hid).2.2.1]
      omega
    · have := ih h.2
      rw [(putS_out hid).2.2.1]
      omega
theorem upTo_nodup (n : Int) (m : Nat) : (upTo n m).Nodup := by
  rw [List.nodup_iff_pairwise_ne, List.pairwise_iff_getElem]
  intro i j hi hj hij he
  rw [upTo_get, upTo_get] at he
  omega
theorem sts_ids {f : Pc} {n : Int} (h : mayPc n f = true) : (stsOf f).map St.id = upTo n (cntL f.body) := by
  rw [← its_ids h]
  unfold stsOf
  rw [List.map_map]
  rfl
theorem cnt_put (t : St) (l : List Pc) : cntP (l.map (putPc t)) = cntP l := by
  unfold cntP
  rw [List.map_map]
  congr 1
  refine List.map_congr_left fun f _ => ?_
  exact putL_cnt t f.body
theorem room_put {p : Pr} (hm : mayP p = true) (hw : wtPr p ≤ 20000) {t : St} (h1 : (saidS t).length ≤ 200000) (h2 : t.labels.length ≤ 100000) : RoomP (putPr t p) := by
  have hp : (putPr t p).procs = p.procs.map (putPc t) := rfl
  have R : RoomP p := RoomP.of (Nat.le_trans hw (by decide))
  have hmem : ∀ f' ∈ (putPr t p).procs, ∃ k, ∃ hk : k < p.procs.length, f' = putPc t p.procs[k] := fun f' hf => by
    rw [hp] at hf
    obtain ⟨f, hf1, rfl⟩ := List.mem_map.1 hf
    obtain ⟨k, hk, rfl⟩ := List.getElem_of_mem hf1
    exact ⟨k, hk, rfl⟩
  have hlab : ∀ f ∈ p.procs, (labsOf f).length ≤ 20000 := fun f hf => by
    have h3 : wtPc f ≤ 20000 := by
      unfold wtPr at hw
      have := sum_mem wtPc p.procs f hf
      omega
    unfold wtPc at h3
    unfold labsOf stsOf itsOf
    have h4 := preL_labs f.body 1 0 false
    have h5 := wtTs_len f.fin
    rw [List.length_append]
    omega
  refine ⟨by rw [hp, cnt_put]; exact R.cnt, by rw [hp, List.length_map]; exact R.procs, R.glob, fun f' hf => ?_, fun f' hf s' hs => ?_, fun f' hf => ?_⟩
  · obtain ⟨k, hk, rfl⟩ := hmem f' hf
    exact R.own p.procs[k] (List.getElem_mem hk)
  · obtain ⟨k, hk, rfl⟩ := hmem f' hf
    rw [sts_put] at hs
    obtain ⟨u, hu, rfl⟩ := List.mem_map.1 hs
    by_cases hid : u.id = t.id
    · rw [said_same (putS_at hid)]; omega
    · rw [said_same (putS_out hid)]; exact R.said _ (List.getElem_mem hk) u hu
  · obtain ⟨k, hk, rfl⟩ := hmem f' hf
    have h3 := hlab _ (List.getElem_mem hk)
    obtain ⟨n, -, hn⟩ := mayPs_at (mayP_procs hm) (by omega) k hk
    have h4 := labs_put (t := t) (l := stsOf p.procs[k]) (by rw [sts_ids hn]; exact upTo_nodup _ _)
    unfold labsOf at h3 ⊢
    rw [sts_put]
    have h5 : (putPc t p.procs[k]).fin = p.procs[k].fin := rfl
    rw [h5]
    rw [List.length_append] at h3 ⊢
    omega
theorem picked_wt {p : Pr} (hw : wtPr p ≤ 20000) {id : Int} {s : St} {k : Nat} (hs : Picked p id s k) : wtS s ≤ 20000 := by
  have h1 := sts_wt hs.st
  have h2 : wtPc (p.procs[k]'hs.lt) ≤ 20000 := by
    unfold wtPr at hw
    have := sum_mem wtPc p.procs _ (List.getElem_mem hs.lt)
    omega
  unfold wtPc at h2
  omega
theorem turnA_sum {l0 : ByteArray} {m : Int} {q : Nat} {args : List Ar} (f : Ar → Nat) (c : Nat) (h1 : f (refA l0) ≤ c) (h2 : ∀ b ∈ args, f (valA b.nm) ≤ c) : ((turnA l0 m q args).map f).sum ≤ (args.map f).sum + c := by
  have hset : ∀ (l : List Ar) (q : Nat) (a : Ar), f a ≤ c → ((l.set q a).map f).sum ≤ (l.map f).sum + c := by
    intro l
    induction l with
    | nil => intro q a _; simp
    | cons b r ih =>
      intro q a ha
      cases q with
      | zero => simp only [List.set_cons_zero, List.map_cons, List.sum_cons]; omega
      | succ q => simp only [List.set_cons_succ, List.map_cons, List.sum_cons]; have := ih q a ha; omega
  have hcut : ∀ (l : List Ar) (q : Nat), ((l.take q ++ l.drop (q + 1)).map f).sum ≤ (l.map f).sum := by
    intro l
    induction l with
    | nil => intro q; simp
    | cons b r ih =>
      intro q
      cases q with
      | zero => simp
      | succ q => simp only [List.take_succ_cons, List.drop_succ_cons, List.cons_append, List.map_cons, List.sum_cons]; have := ih q; omega
  unfold turnA
  split
  · rw [List.map_append, List.sum_append]; simp; omega
  · split
    · have := hcut args q; omega
    · split
      · rename_i b hb
        have hb' := List.mem_of_getElem? hb
        split
        · exact hset _ _ _ (h2 b hb')
        · exact hset _ _ _ h1
      · omega
theorem names_one (s : ByteArray) : (namesOf (eName s)).length ≤ 1 := by
  unfold namesOf
  split
  · rw [namesE_succ]
    simp [eName, ownN, addN, at_, Ex.ks, Ex.op, Ex.nm]
  · simp
theorem turnA_saidn {s : St} {l0 : ByteArray} {m : Int} {q : Nat} : (saidS (setArgs s (turnA l0 m q s.args))).length ≤ (saidS s).length + 1 := by
  have h1 : (saidA (refA l0)).length ≤ 1 := by
    unfold saidA refA
    simp only [Ar.ref, Ar.nm, Ar.x]
    rw [names_none]
    simp
  have h2 : ∀ b ∈ s.args, (saidA (valA b.nm)).length ≤ 1 := fun b _ => by
    unfold saidA valA
    simp only [Ar.ref, Ar.x, Bool.false_eq_true, if_false, List.nil_append]
    exact names_one _
  have h3 := turnA_sum (l0 := l0) (m := m) (q := q) (args := s.args) (fun a => (saidA a).length) 1 h1 h2
  unfold saidS
  have e1 : saidN (setArgs s (turnA l0 m q s.args)) = saidN s := rfl
  have e2 : namesOf (setArgs s (turnA l0 m q s.args)).x = namesOf s.x := rfl
  have e3 : (setArgs s (turnA l0 m q s.args)).args = turnA l0 m q s.args := rfl
  rw [e1, e2, e3]
  simp only [List.length_append, List.length_flatten, List.map_map]
  have h4 : ((turnA l0 m q s.args).map (List.length ∘ saidA)).sum ≤ (s.args.map (List.length ∘ saidA)).sum + 1 := h3
  omega
theorem turnA_light {s : St} (h : wtS s ≤ 20000) {l0 : ByteArray} {m : Int} {q : Nat} : LightS (setArgs s (turnA l0 m q s.args)) := by
  obtain ⟨h1, h2, h3, h4⟩ := LightS.of h
  refine ⟨h1, h2, ?_, ?_⟩
  · have := turnA_len (l0 := l0) (m := m) (q := q) (args := s.args)
    have h5 : (setArgs s (turnA l0 m q s.args)).args = turnA l0 m q s.args := rfl
    rw [h5]
    have h6 := h
    rw [wtS_eq] at h6
    have := wtAr_len s.args
    omega
  · intro a ha
    rcases turnA_mem a ha with h5 | rfl | ⟨b, hb, -, rfl⟩
    · exact h4 a h5
    · have : wt (refA l0).x = 1 := by kernel_rfl
      omega
    · have h6 : wt (valA b.nm).x = 1 + b.nm.size := by
        show wt (eName b.nm) = _
        rw [wt_eq]
        simp [eName, Ex.nm, Ex.ks, wts]
      have h7 := h
      rw [wtS_eq] at h7
      have h8 := sum_mem wtAr s.args b hb
      have h10 : wtAr b = wt b.x + 1 + b.nm.size := rfl
      have h9 : 1 ≤ wt b.x := by rw [wt_eq]; omega
      omega
end Go.Proofs.Ytghlmengcidmdaa.Tr
end
