/- Parts of FitsW, FlatW: walks and plain laws that later texts use. Conditions: as each statement says. -/
import Derived.Test.YtghlmengcidmdaaTa0
import Derived.Test.YtghlmengcidmdaaTa1
import Derived.Test.YtghlmengcidmdaaTa2
import Derived.Test.YtghlmengcidmdaaTa3
import Derived.Deep.DeepCutAuto
import Derived.Maps.Range
import Derived.Outline
import Derived.Lib.SmallJoins
import Derived.Deep.Upon
import Derived.Maps.AppendAt
import Derived.Laws.OwnMore
import Derived.Deep.QuietTactic
import Derived.BigQuiet
import Derived.OwnWalk
import Derived.OneCell
import Derived.Deep.AppendLies
import Derived.Deep.RegionLaw
import Derived.Deep.RegionHeld3
import Derived.RegionTactic
import Derived.Deep.Slices
import Derived.Deep.Fields
import Derived.SliceStrings
import Derived.ChangeSlices
import Derived.IntWalk
import Derived.StillTailTactics
import Derived.WalkKit
import Derived.Test.YtghlmengcidmdaaRows
import Derived.WalkSpells
import Derived.Lib.Hide
import Derived.Below
import Derived.WalkSmall
import Derived.Deep.RegionWith
import Derived.Laws.Cover3
import Derived.Laws.BitsAllLaws
section
/- What weighTexts, weighStmts, Fits of the reference compute: how much a program is. Conditions: it lies in memory. -/
namespace Go.Proofs.Ytghlmengcidmdaa.Tr
open Go.RowKit Go.Proofs.Ytghlmengcidmdaa.Lx Go.Proofs.Ytghlmengcidmdaa.Wd
theorem below_then {a b c : World} (h2 : Below b.heap.size b c) (h1 : Below a.heap.size a b) : Below a.heap.size a c := h1.trans (h2.mono h1.size)
theorem wtTs_take {l : List ByteArray} {k : Nat} (hk : k < l.length) : wtTs (l.take (k + 1)) = wtTs (l.take k) + (1 + l[k].size) := by
  unfold wtTs
  rw [List.take_succ_eq_append_getElem hk, List.map_append, List.sum_append]
  simp
theorem wtL_snoc (l : List St) (s : St) : wtL (l ++ [s]) = wtL l + wtS s := by
  induction l with
  | nil => simp [wtL]
  | cons a r ih => rw [List.cons_append, wtL_cons, wtL_cons, ih]; omega
set_option maxHeartbeats 2000000 in
theorem weighTexts_any (l : List ByteArray) (v : Value) (n : Int) (w : World) (h0 : 0 ≤ n) (h1 : n ≤ 20001) (hl : StrsAt w v l) :
    Calls Try.prog 62 #[v, .int .i64 n] w (Weighs n (wtTs l) w) := by
  obtain ⟨a, cap, rfl, hc1, hc2⟩ := hl.form
  have HL := Lib.hid hl
  clear hl
  go_enter Try.func62, Try.ntmps62
  go_wp2_with fail
  go_loopw [1, 5] (fun mv i wr => ∃ (k : Nat) (m : Int), k ≤ l.length ∧ i = .int .i64 k ∧ mv = .int .i64 m ∧ 0 ≤ m ∧ m ≤ 20001 ∧ (m ≤ 20000 → m = n + wtTs (l.take k)) ∧ Below w.heap.size w wr) (fun _ i _ => (l.length - intOf i).toNat)
  case atStart => exact ⟨0, n, by omega, rfl, rfl, h0, h1, fun h => by simp [wtTs], Below.refl _ _⟩
  case round =>
    obtain ⟨k, m, hk, rfl, rfl, hm0, hm1, hm2, hbel⟩ := hrel
    have HM := Lib.hid hm2
    have HBel := Lib.hid hbel
    clear hm2
    by_cases hlt : k < l.length
    · have hlt' : (k : Int) < (l.length : Int) := by omega
      have hne : l ≠ [] := by intro h; rw [h] at hlt; simp at hlt
      by_cases hmost : m ≤ 20000
      · obtain ⟨g, off, cap', hv, hcells⟩ := (HL.out.next hbel).cells hne
        simp only [Value.slice.injEq] at hv
        obtain ⟨rfl, -, rfl⟩ := hv
        obtain ⟨hs, c0⟩ := hcells k hlt
        obtain ⟨s, hs2⟩ : ∃ s, Hid (l[k] = s) := ⟨_, Lib.hid rfl⟩
        rw [hs2.out] at c0 hs
        have hb := wtT_bd s m hm0
        obtain ⟨t, ht⟩ : ∃ t, Hid (wtT s m = t) := ⟨_, Lib.hid rfl⟩
        rw [ht.out] at hb
        obtain ⟨hb0, hb1, hb2⟩ := hb
        have HB2 := Lib.hid hb2
        clear hcells hne hbel hb2
        go_wp2_with fail
        refine (weighText_any _ _ _ hm0 hm1 hs).mono ?_
        rintro e w' ⟨rfl, rfl⟩
        rw [ht.out]
        go_wp2_with fail
        go_roundw
        case rel =>
          refine ⟨k + 1, t, by omega, by go_num, rfl, hb0, hb1, fun h => ?_, HBel.out⟩
          have h1 := HB2.out h
          have h2 := HM.out hmost
          rw [wtTs_take hlt, hs2.out]
          push_cast
          omega
        case measure => simp [intOf]; omega
      · have hmost' : ¬ m ≤ 20000 := hmost
        clear hbel
        go_wp2_with fail
        go_ret
        exact ⟨m, hm0, hm1, fun h => by omega, rfl, HBel.out⟩
    · have hlt' : ¬ (k : Int) < (l.length : Int) := by omega
      clear hbel
      go_wp2_with fail
      go_ret
      refine ⟨m, hm0, hm1, fun h => ?_, rfl, HBel.out⟩
      have h2 := HM.out h
      rw [List.take_of_length_le (by omega)] at h2
      exact h2
set_option maxHeartbeats 4000000 in
set_option maxRecDepth 100000 in
theorem weighStmts_any : ∀ (d : Nat) (l : List St) (v : Value) (n : Int) (w : World), 0 ≤ n → n ≤ 20001 → StC (cw w) d v l →
    Calls Try.prog 64 #[v, .int .i64 n] w (Weighs n (wtL l) w) := by
  intro d
  induction d with
  | zero => intro l v n w _ _ h; exact h.elim
  | succ d ih =>
    intro l v n w h0 h1 hl
    have IH := Lib.hid ih
    obtain ⟨a, cap, rfl, hc1, hc2⟩ := hl.form
    have HL := Lib.hid hl
    clear ih hl
    go_enter Try.func64, Try.ntmps64
    go_wp2_with fail
    go_loopw [1, 5] (fun mv i wr => ∃ (k : Nat) (m : Int), k ≤ l.length ∧ i = .int .i64 k ∧ mv = .int .i64 m ∧ 0 ≤ m ∧ m ≤ 20001 ∧ (m ≤ 20000 → m = n + wtL (l.take k)) ∧ Below w.heap.size w wr) (fun _ i _ => (l.length - intOf i).toNat)
    case atStart => exact ⟨0, n, by omega, rfl, rfl, h0, h1, fun h => by simp [wtL], Below.refl _ _⟩
    case round =>
      obtain ⟨k, m, hk, rfl, rfl, hm0, hm1, hm2, hbel⟩ := hrel
      have HM := Lib.hid hm2
      have HBel := Lib.hid hbel
      obtain ⟨w0, hw0⟩ : ∃ w0 : World, w0 = wr := ⟨_, rfl⟩
      subst hw0
      clear hm2
      by_cases hlt : k < l.length
      · have hlt' : (k : Int) < (l.length : Int) := by omega
        by_cases hmost : m ≤ 20000
        · have h0k : (0 : Int) ≤ (k : Int) := by omega
          have hnel : l ≠ [] := by intro h; rw [h] at hlt; simp at hlt
          obtain ⟨g, off, capg, hvg, _, hcellsg⟩ := SlAt.cells (StC.next HL.out hbel) hnel
          simp only [Value.slice.injEq] at hvg
          obtain ⟨rfl, -, rfl⟩ := hvg
          have hsts := hcellsg k hlt
          obtain ⟨s, hs⟩ : ∃ s, Hid (l[k] = s) := ⟨_, Lib.hid rfl⟩
          rw [hs.out] at hsts
          obtain ⟨lv, av, tv, ev, p0, p1, p2, p3, p4, ⟨kv, p5, p6, p7, p8, hok, hk1⟩, p9, p10, p11, p12, j1, j2, j3, j4, hl1, ha1, ht1, he1⟩ := hsts
          obtain ⟨la, lc, rfl, bl1, bl2⟩ := hl1.form
          obtain ⟨aa, ac, rfl, ba1, ba2⟩ := ha1.form
          obtain ⟨ta, tc, rfl, bt1, bt2⟩ := ht1.form
          obtain ⟨ea, ec, rfl, be1, be2⟩ := he1.form
          have HML := Lib.hid (Nat.le_trans bl1 bl2)
          have HMA := Lib.hid (Nat.le_trans ba1 ba2)
          have HMT := Lib.hid (Nat.le_trans bt1 bt2)
          have HME := Lib.hid (Nat.le_trans be1 be2)
          clear bl1 bl2 ba1 ba2 bt1 bt2 be1 be2
          obtain ⟨ka, kc, rfl, -, -⟩ := hk1.form
          have e0 : w0.cell? ⟨g, off + k * 13, none⟩ = _ := p0
          have e1 : w0.cell? ⟨g, off + k * 13 + 1, none⟩ = _ := p1
          have e2 : w0.cell? ⟨g, off + k * 13 + 2, none⟩ = _ := p2
          have e3 : w0.cell? ⟨g, off + k * 13 + 3, none⟩ = _ := p3
          have e4 : w0.cell? ⟨g, off + k * 13 + 4, none⟩ = _ := p4
          have e5 : w0.cell? ⟨g, off + k * 13 + 5, none⟩ = _ := p5
          have e6 : w0.cell? ⟨g, off + k * 13 + 6, none⟩ = _ := p6
          have e7 : w0.cell? ⟨g, off + k * 13 + 7, none⟩ = _ := p7
          have e8 : w0.cell? ⟨g, off + k * 13 + 8, none⟩ = _ := p8
          have e9 : w0.cell? ⟨g, off + k * 13 + 9, none⟩ = _ := p9
          have e10 : w0.cell? ⟨g, off + k * 13 + 10, none⟩ = _ := p10
          have e11 : w0.cell? ⟨g, off + k * 13 + 11, none⟩ = _ := p11
          have e12 : w0.cell? ⟨g, off + k * 13 + 12, none⟩ = _ := p12
          have HLB := Lib.hid hl1
          have HKB := Lib.hid hk1
          have HAB := Lib.hid ha1
          have HTB := Lib.hid ht1
          have HEB := Lib.hid he1
          have HOK := Lib.hid hok
          have HJ1 := Lib.hid j1
          have HJ2 := Lib.hid j2
          have HJ3 := Lib.hid j3
          have HJ4 := Lib.hid j4
          clear hcellsg hnel p0 p1 p2 p3 p4 p5 p6 p7 p8 p9 p10 p11 p12 hok hk1 hl1 ha1 ht1 he1 j1 j2 j3 j4
          clear hbel
          go_upto_region 5 with fail
          refine cut_world (fun wx => Below w0.heap.size w0 wx ∧ w0.heap.size < wx.heap.size ∧ BoxAt wx w0.heap.size (stCells s (.slice ka s.x.ks.length kc) (.slice la s.labels.length lc) (.slice aa s.args.length ac) (.slice ta s.thn.length tc) (.slice ea s.els.length ec))) ⟨?_, ?_, ?_⟩ ?_
          · first | exact boxed _ _ | exact (boxed _ _).drew
          · simp
          · first | exact box_new w0 #[.int .i64 s.id, .int .i64 s.kind, .slice la s.labels.length lc, .string s.nm, .string s.proc, .int .i64 s.x.op, .int .i64 s.x.n, .string s.x.nm, .slice ka s.x.ks.length kc, .bool s.has, .slice aa s.args.length ac, .slice ta s.thn.length tc, .slice ea s.els.length ec] 41 | exact (box_new w0 #[.int .i64 s.id, .int .i64 s.kind, .slice la s.labels.length lc, .string s.nm, .string s.proc, .int .i64 s.x.op, .int .i64 s.x.n, .string s.x.nm, .slice ka s.x.ks.length kc, .bool s.has, .slice aa s.args.length ac, .slice ta s.thn.length tc, .slice ea s.els.length ec] 41).next ((Below.refl _ _).drew)
          clear e0 e1 e2 e3 e4 e5 e6 e7 e8 e9 e10 e11 e12
          rintro w1 ⟨hb, hz, hbx⟩
          have HB := Lib.hid (HBel.out.trans (hb.mono HBel.out.size))
          have HBX := Lib.hid hbx
          have HLB1 := Lib.hid (StrC.to (StrC.mono (cw_next hb) HLB.out))
          have HKB1 := Lib.hid (ExC.to (ExC.mono (cw_next hb) HKB.out))
          have HAB1 := Lib.hid (SlAt.imp HAB.out (fun _ _ _ _ => ArAt.mono (cw_next hb)))
          have HTB1 := Lib.hid (StC.next HTB.out hb)
          have HEB1 := Lib.hid (StC.next HEB.out hb)
          have hb0 := hb
          clear hb hbx HLB HKB HAB HTB HEB
          have hq : Below w1.heap.size w1 w1.drew := (Below.refl _ _).drew
          go_region_held3 (fun w' => w'.cell? ⟨w0.heap.size, 2, none⟩ = some (.slice la s.labels.length lc) ∧ w'.cell? ⟨w0.heap.size, 3, none⟩ = some (.string s.nm) ∧ w'.cell? ⟨w0.heap.size, 4, none⟩ = some (.string s.proc) ∧ w'.cell? ⟨w0.heap.size, 5, none⟩ = some (.int .i64 s.x.op) ∧ w'.cell? ⟨w0.heap.size, 6, none⟩ = some (.int .i64 s.x.n) ∧ w'.cell? ⟨w0.heap.size, 7, none⟩ = some (.string s.x.nm) ∧ w'.cell? ⟨w0.heap.size, 8, none⟩ = some (.slice ka s.x.ks.length kc) ∧ Below w1.heap.size w1 w')
            (exact ⟨cell_next hq (HBX.out 2 _ rfl), cell_next hq (HBX.out 3 _ rfl), cell_next hq (HBX.out 4 _ rfl), cell_next hq (HBX.out 5 _ rfl), cell_next hq (HBX.out 6 _ rfl), cell_next hq (HBX.out 7 _ rfl), cell_next hq (HBX.out 8 _ rfl), hq⟩)
            (first
              | (go_split_ands; go_at_call 115; refine (weighExpr_any d s.x _ m _ hm0 hm1 HOK.out (HKB1.out.next (by assumption))).mono ?_; rintro e w8 ⟨m1, a1, b1, c1, rfl, hb8⟩; have C1 := Lib.hid c1; clear c1; have hq := below_then hb8 (by assumption))
              | (go_split_ands; go_at_call 62; refine (weighTexts_any s.labels _ m1 _ a1 b1 (HLB1.out.next (by assumption))).mono ?_; rintro e w8 ⟨m2, a2, b2, c2, rfl, hb8⟩; have C2 := Lib.hid c2; clear c2; have hq := below_then hb8 (by assumption))
              | (go_split_ands; go_at_call 63; refine (weighText_any _ _ _ ?_ ?_ ?_).mono ?_
                 · first | exact t3a | exact a2
                 · first | exact t3b | exact b2
                 · first | exact HJ3.out | exact HJ4.out
                 rintro e w8 ⟨rfl, rfl⟩
                 first
                   | (obtain ⟨t3, ht3⟩ : ∃ t, wtT s.nm m2 = t := ⟨_, rfl⟩; have bd := wtT_bd s.nm m2 a2; rw [ht3] at bd ⊢; obtain ⟨t3a, t3b, bd⟩ := bd; have t3c := Lib.hid bd; clear bd ht3)
                   | (obtain ⟨t4, ht4⟩ : ∃ t, wtT s.proc t3 = t := ⟨_, rfl⟩; have bd := wtT_bd s.proc t3 t3a; rw [ht4] at bd ⊢; obtain ⟨t4a, t4b, bd⟩ := bd; have t4c := Lib.hid bd; clear bd ht4)))
          all_goals
            obtain ⟨w2, hw2⟩ : ∃ w2 : World, w2 = w8 := ⟨_, rfl⟩
            subst hw2
            have HQ := Lib.hid hq
            have n10 := cell_next hq (HBX.out 10 _ rfl)
            have HT4 : Hid (t4 ≤ 20000 → t4 = m + (wt s.x + wtTs s.labels + (1 + s.nm.size) + (1 + s.proc.size))) := Lib.hid fun h => by
              have h4 := t4c.out h
              have h3 := t3c.out (by omega)
              have h2 := C2.out (by omega)
              have h1 := C1.out (by omega)
              omega
            clear t3c t4c C1 C2 t3a t3b a1 a2 b1 b2 hq
            go_wp2_with fail
            go_loopw [1, 7] (fun mv i wr => ∃ (q : Nat) (r : Int), q ≤ s.args.length ∧ i = .int .i64 q ∧ mv = .int .i64 r ∧ 0 ≤ r ∧ r ≤ 20001 ∧ (r ≤ 20000 → r = t4 + ((s.args.take q).map wtAr).sum) ∧ Below w1.heap.size w1 wr) (fun _ i _ => (s.args.length - intOf i).toNat)
            case atStart => exact ⟨0, t4, by omega, rfl, rfl, t4a, t4b, fun h => by simp, HQ.out⟩
            case round =>
              obtain ⟨q, r, hq, rfl, rfl, hr0, hr1, hr2, hb2⟩ := hrel
              have HR := Lib.hid hr2
              have HB2 := Lib.hid hb2
              have m10 := cell_next hb2 (HBX.out 10 _ rfl)
              obtain ⟨w3, hw3⟩ : ∃ w3 : World, w3 = wr := ⟨_, rfl⟩
              subst hw3
              clear hr2 n10
              by_cases hqt : q < s.args.length
              · have hqt' : (q : Int) < (s.args.length : Int) := by omega
                have h0q : (0 : Int) ≤ (q : Int) := by omega
                by_cases hrm : r ≤ 20000
                · obtain ⟨g2, off2, cap2, hv2, _, hcs⟩ := SlAt.cells (SlAt.imp HAB1.out (fun _ _ _ _ => ArAt.mono (cw_next hb2))) (show s.args ≠ [] from by intro h; rw [h] at hqt; simp at hqt)
                  simp only [Value.slice.injEq] at hv2
                  obtain ⟨rfl, -, rfl⟩ := hv2
                  have hat := hcs q hqt
                  obtain ⟨b, hb⟩ : ∃ b, Hid (s.args[q] = b) := ⟨_, Lib.hid rfl⟩
                  rw [hb.out] at hat
                  obtain ⟨-, x1, hx1, kv2, x2, x3, x4, x5, hok2, hk2⟩ := hat
                  obtain ⟨ka2, kc2, rfl, -, -⟩ := hk2.form
                  have z1 : w3.cell? ⟨g2, off2 + q * 6 + 1, none⟩ = _ := x1
                  have z2 : w3.cell? ⟨g2, off2 + q * 6 + 2, none⟩ = _ := x2
                  have z3 : w3.cell? ⟨g2, off2 + q * 6 + 2 + 1, none⟩ = _ := x3
                  have z4 : w3.cell? ⟨g2, off2 + q * 6 + 2 + 2, none⟩ = _ := x4
                  have z5 : w3.cell? ⟨g2, off2 + q * 6 + 2 + 3, none⟩ = _ := x5
                  have HZ1 := Lib.hid z1
                  have HZ2 := Lib.hid z2
                  have HZ3 := Lib.hid z3
                  have HZ4 := Lib.hid z4
                  have HZ5 := Lib.hid z5
                  have HM10 := Lib.hid m10
                  have HOK2 := Lib.hid hok2
                  have HK2 := Lib.hid hk2.to
                  clear hcs x1 x2 x3 x4 x5 hok2 hk2
                  have hq3 : Below w3.heap.size w3 w3.drew := (Below.refl _ _).drew
                  go_upto_region 9 with fail
                  go_region_held3 (fun w' => w'.cell? ⟨w0.heap.size, 10, none⟩ = some (.slice (some ⟨g2, off2, none⟩) s.args.length ac) ∧ w'.cell? ⟨g2, off2 + q * 6 + 1, none⟩ = some (.string b.nm) ∧ w'.cell? ⟨g2, off2 + q * 6 + 2, none⟩ = some (.int .i64 b.x.op) ∧ w'.cell? ⟨g2, off2 + q * 6 + 3, none⟩ = some (.int .i64 b.x.n) ∧ w'.cell? ⟨g2, off2 + q * 6 + 4, none⟩ = some (.string b.x.nm) ∧ w'.cell? ⟨g2, off2 + q * 6 + 5, none⟩ = some (.slice ka2 b.x.ks.length kc2) ∧ Below w3.heap.size w3 w')
                    (exact ⟨cell_next hq3 HM10.out, cell_next hq3 HZ1.out, cell_next hq3 HZ2.out, cell_next hq3 HZ3.out, cell_next hq3 HZ4.out, cell_next hq3 HZ5.out, hq3⟩)
                    (first
                      | (go_split_ands; go_at_call 115; refine (weighExpr_any d b.x _ r _ hr0 hr1 HOK2.out (HK2.out.next (by assumption))).mono ?_; rintro e w8 ⟨m1, a1, b1, c1, rfl, hb8⟩; have C1 := Lib.hid c1; clear c1; have hq3 := below_then hb8 (by assumption))
                      | (go_split_ands; go_at_call 63; refine (weighText_any b.nm m1 _ a1 b1 hx1).mono ?_; rintro e w8 ⟨rfl, rfl⟩; obtain ⟨t5, ht5⟩ : ∃ t, wtT b.nm m1 = t := ⟨_, rfl⟩; have bd := wtT_bd b.nm m1 a1; rw [ht5] at bd ⊢; obtain ⟨t5a, t5b, bd⟩ := bd; have t5c := Lib.hid bd; clear bd ht5))
                  all_goals
                    have HQ3 := Lib.hid hq3
                    have HT5 : Hid (t5 ≤ 20000 → t5 = r + wtAr b) := Lib.hid fun h => by
                      have h2 := t5c.out h
                      have h1 := C1.out (by omega)
                      unfold wtAr
                      cases b
                      simp only [Ar.x, Ar.nm] at *
                      omega
                    clear t5c C1 a1 b1 hq3
                    have hma := HMA.out
                    go_wp2_with fail
                    go_roundw
                    case rel =>
                      refine ⟨q + 1, t5, by omega, by go_num, rfl, t5a, t5b, fun h => ?_, HB2.out.trans (HQ3.out.mono HB2.out.size)⟩
                      have h1 := HT5.out h
                      have h2 := HR.out hrm
                      rw [List.take_succ_eq_append_getElem hqt, List.map_append, List.sum_append, hb.out]
                      simp only [List.map_cons, List.map_nil, List.sum_cons, List.sum_nil]
                      push_cast
                      omega
                    case measure => simp [intOf]; omega
                · have hrm' : ¬ r ≤ 20000 := hrm
                  go_upto_region 10 with fail
                  have m11 := cell_next hb2 (HBX.out 11 _ rfl)
                  have m12 := cell_next hb2 (HBX.out 12 _ rfl)
                  have HM11 := Lib.hid m11
                  have HM12 := Lib.hid m12
                  have hq3 : Below w3.heap.size w3 w3.drew := (Below.refl _ _).drew
                  go_region_held3 (fun w' => w'.cell? ⟨w0.heap.size, 11, none⟩ = some (.slice ta s.thn.length tc) ∧ w'.cell? ⟨w0.heap.size, 12, none⟩ = some (.slice ea s.els.length ec) ∧ Below w3.heap.size w3 w')
                    (exact ⟨cell_next hq3 HM11.out, cell_next hq3 HM12.out, hq3⟩)
                    ((go_split_ands; go_at_call 64
                      first
                       | (refine (IH.out s.els _ f1 _ f1a f1b (HEB1.out.next (HB2.out.trans ((‹Below w3.heap.size w3 _›).mono HB2.out.size)))).mono ?_; rintro e w8 ⟨f2, f2a, f2b, c2, rfl, hb8⟩; have F2 := Lib.hid c2; clear c2; have hq3 := below_then hb8 (by assumption))
                       | (refine (IH.out s.thn _ r _ hr0 hr1 (HTB1.out.next (HB2.out.trans ((‹Below w3.heap.size w3 _›).mono HB2.out.size)))).mono ?_; rintro e w8 ⟨f1, f1a, f1b, c1, rfl, hb8⟩; have F1 := Lib.hid c1; clear c1; have hq3 := below_then hb8 (by assumption))))
                  all_goals
                    have HQ3 := Lib.hid hq3
                    clear hq3
                    go_wp2_with fail
                    go_roundw
                    case rel =>
                      refine ⟨k + 1, f2, by omega, by go_num, rfl, f2a, f2b, fun h => ?_, HB.out.trans ((HB2.out.trans (HQ3.out.mono HB2.out.size)).mono HB.out.size)⟩
                      have h2 := F2.out h
                      have h1 := F1.out (by omega)
                      have h3 := HR.out (by omega)
                      have h4 := HT4.out (by omega)
                      have h5 := HM.out (by omega)
                      rw [List.take_succ_eq_append_getElem hlt, wtL_snoc, hs.out, wtS_eq]
                      push_cast
                      clear hrm
                      omega
                    case measure => simp [intOf]; omega
              · have hqt' : ¬ (q : Int) < (s.args.length : Int) := by omega
                go_upto_region 10 with fail
                have m11 := cell_next hb2 (HBX.out 11 _ rfl)
                have m12 := cell_next hb2 (HBX.out 12 _ rfl)
                have HM11 := Lib.hid m11
                have HM12 := Lib.hid m12
                have hq3 : Below w3.heap.size w3 w3.drew := (Below.refl _ _).drew
                go_region_held3 (fun w' => w'.cell? ⟨w0.heap.size, 11, none⟩ = some (.slice ta s.thn.length tc) ∧ w'.cell? ⟨w0.heap.size, 12, none⟩ = some (.slice ea s.els.length ec) ∧ Below w3.heap.size w3 w')
                  (exact ⟨cell_next hq3 HM11.out, cell_next hq3 HM12.out, hq3⟩)
                  ((go_split_ands; go_at_call 64
                    first
                     | (refine (IH.out s.els _ f1 _ f1a f1b (HEB1.out.next (HB2.out.trans ((‹Below w3.heap.size w3 _›).mono HB2.out.size)))).mono ?_; rintro e w8 ⟨f2, f2a, f2b, c2, rfl, hb8⟩; have F2 := Lib.hid c2; clear c2; have hq3 := below_then hb8 (by assumption))
                     | (refine (IH.out s.thn _ r _ hr0 hr1 (HTB1.out.next (HB2.out.trans ((‹Below w3.heap.size w3 _›).mono HB2.out.size)))).mono ?_; rintro e w8 ⟨f1, f1a, f1b, c1, rfl, hb8⟩; have F1 := Lib.hid c1; clear c1; have hq3 := below_then hb8 (by assumption))))
                all_goals
                  have HQ3 := Lib.hid hq3
                  clear hq3
                  go_wp2_with fail
                  go_roundw
                  case rel =>
                    refine ⟨k + 1, f2, by omega, by go_num, rfl, f2a, f2b, fun h => ?_, HB.out.trans ((HB2.out.trans (HQ3.out.mono HB2.out.size)).mono HB.out.size)⟩
                    have h2 := F2.out h
                    have h1 := F1.out (by omega)
                    have h3 := HR.out (by omega)
                    have h4 := HT4.out (by omega)
                    have h5 := HM.out (by omega)
                    rw [List.take_succ_eq_append_getElem hlt, wtL_snoc, hs.out, wtS_eq]
                    push_cast
                    rw [List.take_of_length_le (by omega)] at h3
                    omega
                  case measure => simp [intOf]; omega
        · have hmost' : ¬ m ≤ 20000 := hmost
          clear hbel
          go_wp2_with fail
          go_ret
          exact ⟨m, hm0, hm1, fun h => by omega, rfl, HBel.out⟩
      · have hlt' : ¬ (k : Int) < (l.length : Int) := by omega
        clear hbel
        go_wp2_with fail
        go_ret
        refine ⟨m, hm0, hm1, fun h => ?_, rfl, HBel.out⟩
        have h2 := HM.out h
        rw [List.take_of_length_le (by omega)] at h2
        exact h2
def wtPc (f : Pc) : Nat := (1 + f.nm.size) + wtTs f.vars + wtTs f.fin + (f.params.map fun x => 1 + x.nm.size).sum + wtL f.body
def wtPr (p : Pr) : Nat := wtTs p.globals + (p.procs.map wtPc).sum
theorem sum_mem {α : Type} (f : α → Nat) : ∀ (l : List α) (x : α), x ∈ l → f x ≤ (l.map f).sum := by
  intro l
  induction l with
  | nil => intro x h; cases h
  | cons a r ih =>
    intro x h
    rw [List.map_cons, List.sum_cons]
    rcases List.mem_cons.1 h with rfl | h
    · omega
    · have := ih x h; omega
set_option maxHeartbeats 4000000 in
set_option maxRecDepth 100000 in
theorem fits_any (d : Nat) (p : Pr) (gv pv : Value) (w : World) (hp : PrC (cw w) d gv pv p) :
    Calls Try.prog 17 #[.agg #[gv, pv]] w (Fitting (wtPr p) w) := by
  obtain ⟨ga, gc, rfl, -, -⟩ := hp.1.form
  obtain ⟨pa, pc, rfl, hc1, hc2⟩ := hp.2.form
  have hbox := boxed w (.cells #[.slice ga p.globals.length gc, .slice pa p.procs.length pc] 25)
  have HB := Lib.hid hbox
  have HP := Lib.hid (PrC.mono (cw_next hbox) hp)
  have HLEN := Lib.hid (Nat.le_trans hc1 hc2)
  clear hbox hp
  go_enter Try.func17, Try.ntmps17
  go_wp2_with fail
  refine (weighTexts_any p.globals _ 0 _ (by omega) (by omega) (StrC.to HP.out.1)).mono ?_
  rintro e w1 ⟨m0, a0, b0, c0, rfl, hb⟩
  have C0 := Lib.hid c0
  have g1 := cell_next (g := w.heap.size) (j := 1) (u := .slice pa p.procs.length pc) hb (by simp [go_sem])
  have HG1 := Lib.hid g1
  replace HP := Lib.hid (PrC.mono (cw_next hb) HP.out)
  replace HB := Lib.hid (HB.out.trans (hb.mono HB.out.size))
  clear hb c0
  go_wp2_with fail
  go_loopw [3, 4] (fun mv i wr => ∃ (k : Nat) (m : Int), k ≤ p.procs.length ∧ i = .int .i64 k ∧ mv = .int .i64 m ∧ 0 ≤ m ∧ m ≤ 20001 ∧ (m ≤ 20000 → m = wtTs p.globals + ((p.procs.take k).map wtPc).sum) ∧ Below w1.heap.size w1 wr) (fun _ i _ => (p.procs.length - intOf i).toNat)
  case atStart => exact ⟨0, m0, by omega, rfl, rfl, a0, b0, fun h => by have := C0.out h; simp; omega, Below.refl _ _⟩
  case round =>
    obtain ⟨k, m, hk, rfl, rfl, hm0, hm1, hm2, hbel⟩ := hrel
    have HM := Lib.hid hm2
    have HBel := Lib.hid hbel
    have g1 := cell_next hbel HG1.out
    have hlen := HLEN.out
    obtain ⟨w0, hw0⟩ : ∃ w0 : World, w0 = wr := ⟨_, rfl⟩
    subst hw0
    clear hm2
    by_cases hlt : k < p.procs.length
    · have hlt' : (k : Int) < (p.procs.length : Int) := by omega
      by_cases hmost : m ≤ 20000
      · have h0k : (0 : Int) ≤ (k : Int) := by omega
        have hne : p.procs ≠ [] := by intro h; rw [h] at hlt; simp at hlt
        obtain ⟨g, off, cap', hv, _, hcells⟩ := SlAt.cells (PrC.mono (cw_next hbel) HP.out).2 hne
        simp only [Value.slice.injEq] at hv
        obtain ⟨rfl, -, rfl⟩ := hv
        have hat := hcells k hlt
        obtain ⟨f, hf⟩ : ∃ f, Hid (p.procs[k] = f) := ⟨_, Lib.hid rfl⟩
        rw [hf.out] at hat
        obtain ⟨pv, vv, bv, fv, p0, p1, p2, p3, p4, hnm, hps, hvs, hbody, hfin⟩ := hat
        obtain ⟨a1, c1, rfl, bp1, bp2⟩ := hps.form
        obtain ⟨a2, c2, rfl, -, -⟩ := hvs.form
        obtain ⟨a3, c3, rfl, -, -⟩ := hbody.form
        obtain ⟨a4, c4, rfl, -, -⟩ := hfin.form
        have e0 : w0.cell? ⟨g, off + k * 5, none⟩ = _ := p0
        have e1 : w0.cell? ⟨g, off + k * 5 + 1, none⟩ = _ := p1
        have e2 : w0.cell? ⟨g, off + k * 5 + 2, none⟩ = _ := p2
        have e3 : w0.cell? ⟨g, off + k * 5 + 3, none⟩ = _ := p3
        have e4 : w0.cell? ⟨g, off + k * 5 + 4, none⟩ = _ := p4
        have HPS := Lib.hid hps
        have HVS := Lib.hid hvs
        have HBODY := Lib.hid hbody
        have HFIN := Lib.hid hfin
        have HPL := Lib.hid (Nat.le_trans bp1 bp2)
        clear hcells hne p0 p1 p2 p3 p4 hps hvs hbody hfin hbel bp1 bp2
        go_upto_region 6 with fail
        refine cut_world (fun wx => Below w0.heap.size w0 wx ∧ w0.heap.size < wx.heap.size ∧ BoxAt wx w0.heap.size [.string f.nm, .slice a1 f.params.length c1, .slice a2 f.vars.length c2, .slice a3 f.body.length c3, .slice a4 f.fin.length c4]) ⟨?_, ?_, ?_⟩ ?_
        · exact boxed _ _
        · simp
        · exact box_new w0 #[.string f.nm, .slice a1 f.params.length c1, .slice a2 f.vars.length c2, .slice a3 f.body.length c3, .slice a4 f.fin.length c4] 55
        clear e0 e1 e2 e3 e4 g1
        rintro w2 ⟨hb, hz, hbx⟩
        have HB2 := Lib.hid (HBel.out.trans (hb.mono HBel.out.size))
        have HBX := Lib.hid hbx
        have HPS2 := Lib.hid (SlAt.imp HPS.out (fun _ _ _ _ => PaAt.mono (cw_next hb)))
        have HVS2 := Lib.hid (StrC.to (StrC.mono (cw_next hb) HVS.out))
        have HBODY2 := Lib.hid (StC.next HBODY.out hb)
        have HFIN2 := Lib.hid (StrC.to (StrC.mono (cw_next hb) HFIN.out))
        clear hb hbx HPS HVS HBODY HFIN
        have hq : Below w2.heap.size w2 w2.drew := (Below.refl _ _).drew
        go_region_held3 (fun w' => w'.cell? ⟨w0.heap.size, 0, none⟩ = some (.string f.nm) ∧ w'.cell? ⟨w0.heap.size, 2, none⟩ = some (.slice a2 f.vars.length c2) ∧ w'.cell? ⟨w0.heap.size, 4, none⟩ = some (.slice a4 f.fin.length c4) ∧ Below w2.heap.size w2 w')
          (exact ⟨cell_next hq (HBX.out 0 _ rfl), cell_next hq (HBX.out 2 _ rfl), cell_next hq (HBX.out 4 _ rfl), hq⟩)
          (first
            | (go_split_ands; go_at_call 63; refine (weighText_any _ _ _ hm0 hm1 hnm).mono ?_; rintro e w8 ⟨rfl, rfl⟩; obtain ⟨t6, ht6⟩ : ∃ t, wtT f.nm m = t := ⟨_, rfl⟩; have bd := wtT_bd f.nm m hm0; rw [ht6] at bd ⊢; obtain ⟨t6a, t6b, bd⟩ := bd; have t6c := Lib.hid bd; clear bd ht6)
            | ((go_split_ands; go_at_call 62
                first
                  | (refine (weighTexts_any f.fin _ _ _ y1a y1b (HFIN2.out.next (by assumption))).mono ?_; rintro e w8 ⟨y2, y2a, y2b, y2c, rfl, hb8⟩; have Y2 := Lib.hid y2c; clear y2c; have hq := below_then hb8 (by assumption))
                  | (refine (weighTexts_any f.vars _ _ _ t6a t6b (HVS2.out.next (by assumption))).mono ?_; rintro e w8 ⟨y1, y1a, y1b, y1c, rfl, hb8⟩; have Y1 := Lib.hid y1c; clear y1c; have hq := below_then hb8 (by assumption)))))
        all_goals
          obtain ⟨w3, hw3⟩ : ∃ w3 : World, w3 = w8 := ⟨_, rfl⟩
          subst hw3
          have HQ := Lib.hid hq
          have nn1 := cell_next hq (HBX.out 1 _ rfl)
          have HT4 : Hid (y2 ≤ 20000 → y2 = m + ((1 + f.nm.size + wtTs f.vars + wtTs f.fin : Nat) : Int)) := Lib.hid fun h => by
            have h4 := Y2.out h
            have h3 := Y1.out (by omega)
            have h2 := t6c.out (by omega)
            omega
          clear t6c Y1 Y2 t6a y1a t6b y1b hq
          go_wp2_with fail
          go_loopw [3, 6] (fun mv i wr => ∃ (q : Nat) (r : Int), q ≤ f.params.length ∧ i = .int .i64 q ∧ mv = .int .i64 r ∧ 0 ≤ r ∧ r ≤ 20001 ∧ (r ≤ 20000 → r = y2 + ((((f.params.take q).map fun x => 1 + x.nm.size).sum : Nat) : Int)) ∧ Below w2.heap.size w2 wr) (fun _ i _ => (f.params.length - intOf i).toNat)
          case atStart => exact ⟨0, y2, by omega, rfl, rfl, y2a, y2b, fun h => by simp, HQ.out⟩
          case round =>
            obtain ⟨q, r, hq, rfl, rfl, hr0, hr1, hr2, hb2⟩ := hrel
            have HR := Lib.hid hr2
            have HB3 := Lib.hid hb2
            have m1 := cell_next hb2 (HBX.out 1 _ rfl)
            have m3 := cell_next hb2 (HBX.out 3 _ rfl)
            have hpl := HPL.out
            clear hr2 nn1
            by_cases hqt : q < f.params.length
            · have hqt' : (q : Int) < (f.params.length : Int) := by omega
              have h0q : (0 : Int) ≤ (q : Int) := by omega
              by_cases hrm : r ≤ 20000
              · obtain ⟨g2, off2, cap2, hv2, _, hcs⟩ := SlAt.cells (SlAt.imp HPS2.out (fun _ _ _ _ => PaAt.mono (cw_next hb2))) (show f.params ≠ [] from by intro h; rw [h] at hqt; simp at hqt)
                simp only [Value.slice.injEq] at hv2
                obtain ⟨rfl, -, rfl⟩ := hv2
                have hat := hcs q hqt
                obtain ⟨b, hb⟩ : ∃ b, Hid (f.params[q] = b) := ⟨_, Lib.hid rfl⟩
                rw [hb.out] at hat
                obtain ⟨x0, -, hx0⟩ := hat
                have z0 : wr.cell? ⟨g2, off2 + q * 2, none⟩ = _ := x0
                clear hcs x0 hb2
                go_wp2_with fail
                refine (weighText_any _ _ _ hr0 hr1 hx0).mono ?_
                rintro e w8 ⟨rfl, rfl⟩
                obtain ⟨t5, ht5⟩ : ∃ t, wtT b.nm r = t := ⟨_, rfl⟩
                have bd := wtT_bd b.nm r hr0
                rw [ht5] at bd ⊢
                obtain ⟨t5a, t5b, bd⟩ := bd
                have t5c := Lib.hid bd
                clear bd ht5
                go_wp2_with fail
                go_roundw
                case rel =>
                  refine ⟨q + 1, t5, by omega, by go_num, rfl, t5a, t5b, fun h => ?_, HB3.out⟩
                  have h1 := t5c.out h
                  have h2 := HR.out hrm
                  rw [List.take_succ_eq_append_getElem hqt, List.map_append, List.sum_append, hb.out]
                  simp only [List.map_cons, List.map_nil, List.sum_cons, List.sum_nil]
                  push_cast
                  omega
                case measure => simp [intOf]; omega
              · have hrm' : ¬ r ≤ 20000 := hrm
                clear hb2
                go_wp2_with fail
                refine (weighStmts_any d f.body _ r _ hr0 hr1 (HBODY2.out.next HB3.out)).mono ?_
                rintro e w8 ⟨f2, f2a, f2b, c2, rfl, hb8⟩
                have F2 := Lib.hid c2
                have HB8 := Lib.hid hb8
                clear c2 hb8
                go_wp2_with fail
                go_roundw
                case rel =>
                  refine ⟨k + 1, f2, by omega, by go_num, rfl, f2a, f2b, fun h => ?_, HB2.out.trans ((HB3.out.trans (HB8.out.mono HB3.out.size)).mono HB2.out.size)⟩
                  have h2 := F2.out h
                  have h3 := HR.out (by omega)
                  have h4 := HT4.out (by omega)
                  have h5 := HM.out (by omega)
                  rw [List.take_succ_eq_append_getElem hlt, List.map_append, List.sum_append, hf.out]
                  simp only [List.map_cons, List.map_nil, List.sum_cons, List.sum_nil]
                  rw [show wtPc f = (1 + f.nm.size) + wtTs f.vars + wtTs f.fin + (f.params.map fun x => 1 + x.nm.size).sum + wtL f.body from rfl]
                  push_cast
                  clear hrm
                  omega
                case measure => simp [intOf]; omega
            · have hqt' : ¬ (q : Int) < (f.params.length : Int) := by omega
              clear hb2
              go_wp2_with fail
              refine (weighStmts_any d f.body _ r _ hr0 hr1 (HBODY2.out.next HB3.out)).mono ?_
              rintro e w8 ⟨f2, f2a, f2b, c2, rfl, hb8⟩
              have F2 := Lib.hid c2
              have HB8 := Lib.hid hb8
              clear c2 hb8
              go_wp2_with fail
              go_roundw
              case rel =>
                refine ⟨k + 1, f2, by omega, by go_num, rfl, f2a, f2b, fun h => ?_, HB2.out.trans ((HB3.out.trans (HB8.out.mono HB3.out.size)).mono HB2.out.size)⟩
                have h2 := F2.out h
                have h3 := HR.out (by omega)
                have h4 := HT4.out (by omega)
                have h5 := HM.out (by omega)
                rw [List.take_succ_eq_append_getElem hlt, List.map_append, List.sum_append, hf.out]
                simp only [List.map_cons, List.map_nil, List.sum_cons, List.sum_nil]
                rw [show wtPc f = (1 + f.nm.size) + wtTs f.vars + wtTs f.fin + (f.params.map fun x => 1 + x.nm.size).sum + wtL f.body from rfl]
                push_cast
                rw [List.take_of_length_le (by omega)] at h3
                omega
              case measure => simp [intOf]; omega
      · have hmost' : ¬ m ≤ 20000 := hmost
        clear hbel
        go_wp2_with fail
        go_ret
        exact ⟨false, (fun h => by cases h), rfl, HB.out.trans (HBel.out.mono HB.out.size)⟩
    · have hlt' : ¬ (k : Int) < (p.procs.length : Int) := by omega
      clear hbel
      go_wp2_with fail
      go_ret
      refine ⟨decide (m ≤ 20000), fun h => ?_, rfl, HB.out.trans (HBel.out.mono HB.out.size)⟩
      have h1 : m ≤ 20000 := by simpa using h
      have h2 := HM.out h1
      rw [List.take_of_length_le (by omega)] at h2
      unfold wtPr
      omega
end Go.Proofs.Ytghlmengcidmdaa.Tr
end
section
/- What flat, Flat of the reference make: a row's statements one by one. Conditions: it lies in memory. -/
namespace Go.Proofs.Ytghlmengcidmdaa.Tr
open Go.RowKit Go.Proofs.Ytghlmengcidmdaa.Lx Go.Proofs.Ytghlmengcidmdaa.Wd
/-- A statement, how deep it stands, in whom, in whose Else. -/
structure It where
  s : St
  deep : Int
  inn : Int
  els : Bool
mutual
def flatS : St → Int → List It → List It
  | .mk id _ _ _ _ _ _ _ th el, deep, out => if deep ≤ 12 then flatL el (deep + 1) id true (flatL th (deep + 1) id false out) else out
def flatL : List St → Int → Int → Bool → List It → List It
  | [], _, _, _, out => out
  | s :: r, deep, inn, els, out => if out.length ≤ 200 then flatL r deep inn els (flatS s deep (out ++ [⟨s, deep, inn, els⟩])) else out
end
theorem flatS_eq (s : St) (deep : Int) (out : List It) : flatS s deep out = if deep ≤ 12 then flatL s.els (deep + 1) s.id true (flatL s.thn (deep + 1) s.id false out) else out := by cases s; simp only [flatS, St.thn, St.els, St.id]
theorem flatL_cons (s : St) (r : List St) (deep inn : Int) (els : Bool) (out : List It) : flatL (s :: r) deep inn els out = if out.length ≤ 200 then flatL r deep inn els (flatS s deep (out ++ [⟨s, deep, inn, els⟩])) else out := by simp only [flatL]
theorem flatL_stop (l : List St) (deep inn : Int) (els : Bool) (out : List It) (h : 200 < out.length) : flatL l deep inn els out = out := by
  cases l with
  | nil => simp only [flatL]
  | cons s r => rw [flatL_cons, if_neg (by omega)]
theorem flatL_append (a b : List St) (deep inn : Int) (els : Bool) : ∀ out : List It, flatL (a ++ b) deep inn els out = flatL b deep inn els (flatL a deep inn els out) := by
  induction a with
  | nil => intro out; simp only [List.nil_append, flatL]
  | cons s r ih =>
    intro out
    rw [List.cons_append, flatL_cons, flatL_cons]
    split
    · exact ih _
    · exact (flatL_stop b _ _ _ _ (by omega)).symm
mutual
theorem flatS_len : ∀ (s : St) (deep : Int) (out : List It), out.length ≤ 201 → (flatS s deep out).length ≤ 201
  | .mk id k ls nm pr x h ar th el, deep, out => fun hl => by
    rw [flatS]
    split
    · exact flatL_len el _ _ _ _ (flatL_len th _ _ _ _ hl)
    · exact hl
theorem flatL_len : ∀ (l : List St) (deep inn : Int) (els : Bool) (out : List It), out.length ≤ 201 → (flatL l deep inn els out).length ≤ 201
  | [], _, _, _, out => fun hl => by rw [flatL]; exact hl
  | s :: r, deep, inn, els, out => fun hl => by
    rw [flatL]
    split
    · exact flatL_len r _ _ _ _ (flatS_len s _ _ (by simp; omega))
    · exact hl
end
def itCells (i : It) (kv lv av tv ev : Value) : List Value := stCells i.s kv lv av tv ev ++ [.int .i64 i.deep, .int .i64 i.inn, .bool i.els]
/-- A row of such items: what hangs on them lies below. -/
def ItQ (d : Nat) (C : Cs) (c : List Value) (i : It) : Prop := ∃ kv lv av tv ev, c = itCells i kv lv av tv ev ∧ OkE i.s.x ∧ ExC C d kv i.s.x.ks ∧ InI i.s.id ∧ InI i.s.kind ∧ i.s.nm.size ≤ 9223372036854775807 ∧ i.s.proc.size ≤ 9223372036854775807 ∧
    StrC C lv i.s.labels ∧ SlAt 6 (ArAt C d) av i.s.args ∧ StC C d tv i.s.thn ∧ StC C d ev i.s.els ∧ InI i.deep ∧ InI i.inn
theorem ItQ.mono {C D : Cs} (h : Cs.le C D) {d : Nat} {c : List Value} {i : It} (q : ItQ d C c i) : ItQ d D c i := by
  obtain ⟨kv, lv, av, tv, ev, h1, h2, h3, h4, h5, h6, h7, h8, h9, h10, h11, h12, h13⟩ := q
  exact ⟨kv, lv, av, tv, ev, h1, h2, ExC.mono h h3, h4, h5, h6, h7, StrC.mono h h8, SlAt.imp h9 (fun _ _ _ _ => ArAt.mono h), StC.mono h h10, StC.mono h h11, h12, h13⟩
structure RowT (B d : Nat) (w : World) (v : Value) (l : List It) (rows : List (List Value)) : Prop where
  len : rows.length = l.length
  own : w.ownsRow B 76 16 v l.length rows.flatten
  wide : ∀ r ∈ rows, r.length = 16
  each : ∀ i (h : i < l.length) (h' : i < rows.length), ItQ d (lowC B w) rows[i] l[i]
theorem RowT.nil (B d : Nat) (w : World) : RowT B d w (.slice none 0 0) [] [] := ⟨rfl, World.ownsRow_nil _ _ _ _, fun r h => (by cases h), fun i h => (by cases h)⟩
theorem RowT.next {B d : Nat} {w w' : World} {v : Value} {l : List It} {rows : List (List Value)} (h : RowT B d w v l rows) (hb : Below w.heap.size w w') : RowT B d w' v l rows :=
  ⟨h.len, ownsBelow h.own hb, h.wide, fun i h1 h2 => ItQ.mono (low_next hb) (h.each i h1 h2)⟩
theorem RowT.more {B d : Nat} {w w3 w4 : World} {v v4 : Value} {l : List It} {rows : List (List Value)} {c : List Value} {x : It} (h : RowT B d w v l rows) (hb : Below w.heap.size w w3) (hg : w3.grownBy w4 v.ownBlock)
    (hx : ItQ d (lowC B w) c x) (hown : w4.ownsRow B 76 16 v4 (l.length + 1) (rows.flatten ++ c)) : RowT B d w4 v4 (l ++ [x]) (rows ++ [c]) := by
  have hlen := h.len
  have le : Cs.le (lowC B w) (lowC B w4) := Cs.le_trans (low_next hb) (low_grown hg fun g hg => (h.own.lt g hg).1)
  refine ⟨by simp [hlen], by simpa using hown, fun r hr => ?_, fun i h1 h2 => ?_⟩
  · rcases List.mem_append.1 hr with hr | hr
    · exact h.wide r hr
    · simp at hr
      rw [hr]
      obtain ⟨kv, lv, av, tv, ev, h1, -⟩ := hx
      rw [h1]; rfl
  · simp only [List.getElem_append]
    simp at h1 h2
    by_cases hi : i < l.length
    · rw [dif_pos hi, dif_pos (by omega)]
      exact ItQ.mono le (h.each i hi (by omega))
    · rw [dif_neg hi, dif_neg (by omega)]
      have e1 : i - l.length = 0 := by omega
      have e2 : i - rows.length = 0 := by omega
      simp only [e1, e2, List.getElem_cons_zero]
      exact ItQ.mono le hx
theorem infoItem : (Try.prog.info? 76).map (fun i => (i.zero, i.size, i.bytes)) = some (some (.agg #[.int .i64 0, .int .i64 0, .slice none 0 0, .string ⟨#[]⟩, .string ⟨#[]⟩, .int .i64 0, .int .i64 0, .string ⟨#[]⟩, .slice none 0 0, .bool false, .slice none 0 0, .slice none 0 0, .slice none 0 0, .int .i64 0, .int .i64 0, .bool false]), 16, 232) := by kernel_rfl
/-- What flat leaves: the row with more items behind; nothing that was there is turned but that row's own block. -/
def Gr (w : World) (v : Value) (w' : World) (v' : Value) : Prop := w.grownBy w' v.ownBlock ∧ ∀ g, v'.ownBlock = some g → v.ownBlock = some g ∨ w.heap.size ≤ g
theorem Gr.then {w a b : World} {v v1 v2 : Value} (h1 : Gr w v a v1) (h2 : Gr a v1 b v2) : Gr w v b v2 :=
  ⟨h1.1.andThen h2.1 fun j hj => (h1.2 j hj).elim Or.inr Or.inl, fun g hg => (h2.2 g hg).elim (h1.2 g) fun h => Or.inr (Nat.le_trans h1.1.size h)⟩
theorem Gr.drew {w w' : World} {v v' : Value} (h : Gr w.drew v w' v') : Gr w v w' v' := ⟨(grown_of ((Below.refl _ _).drew) _).trans h.1, h.2⟩
def Flats (B d : Nat) (v : Value) (l : List It) (w : World) (e : Ending) (w' : World) : Prop :=
  ∃ v' rows, e = .returned v' ∧ RowT B d w' v' l rows ∧ Gr w v w' v'
theorem it_cells {s : St} {deep inn : Int} {els : Bool} {ka la aa ta ea : Option Addr} {kc lc ac tc ec : Nat} : ∀ u ∈ itCells (It.mk s deep inn els) (.slice ka s.x.ks.length kc) (.slice la s.labels.length lc) (.slice aa s.args.length ac) (.slice ta s.thn.length tc) (.slice ea s.els.length ec), u.oneCell' = true := by
  intro u hu
  simp [itCells, stCells] at hu
  rcases hu with h | h | h | h | h | h | h | h | h | h | h | h | h | h | h | h <;> (subst h; rfl)
set_option maxHeartbeats 4000000 in
set_option maxRecDepth 100000 in
theorem flat_any (B D : Nat) : ∀ (d : Nat) (l : List St) (lv v : Value) (deep inn : Int) (els : Bool) (items : List It) (rows : List (List Value)) (w : World), d ≤ D → StC (lowC B w) d lv l → RowT B D w v items rows → B ≤ w.heap.size → 1 ≤ deep → deep ≤ 14 → InI inn → items.length ≤ 201 →
    Calls Try.prog 111 #[lv, .int .i64 deep, .int .i64 inn, .bool els, v] w (Flats B D v (flatL l deep inn els items) w) := by
  intro d
  induction d with
  | zero => intro l lv v deep inn els items rows w _ h; exact h.elim
  | succ d ih =>
    intro l lv v deep inn els items rows w hdD hl hr hB hd1 hd2 hin hlen
    obtain ⟨i0, hi, hz0, hz1, hz2⟩ := info_parts infoItem
    have IH := Lib.hid ih
    obtain ⟨a, cap, rfl, hc1, hc2⟩ := hl.form
    obtain ⟨va, vc, rfl⟩ := ownsForm hr.own
    have HL := Lib.hid hl
    have HR := Lib.hid hr
    have HIN := Lib.hid hin
    clear ih hl hr hin
    go_enter Try.func111, Try.ntmps111
    go_wp2_with fail
    go_loopw [4, 11] (fun s4 i wr => ∃ (k : Nat) (vr : Value) (its : List It) (rows : List (List Value)), k ≤ l.length ∧ i = .int .i64 k ∧ s4 = vr ∧ flatL (l.take k) deep inn els items = its ∧ its.length ≤ 201 ∧ RowT B D wr vr its rows ∧ Gr w (.slice va items.length vc) wr vr) (fun _ i _ => (l.length - intOf i).toNat)
    case atStart => exact ⟨0, _, items, rows, by omega, rfl, rfl, by simp only [List.take_zero, flatL], hlen, HR.out, World.grownBy.refl _ _, fun g hg => .inl hg⟩
    case round =>
      obtain ⟨k, vr, its, rows, hk, rfl, rfl, hfl, hlen2, hr2, hg2⟩ := hrel
      have HFL := Lib.hid hfl
      have HR2 := Lib.hid hr2
      have HG2 := Lib.hid hg2
      have hsz2 := hg2.1.size
      have hle2 : Cs.le (lowC B w) (lowC B wr) := low_grown hg2.1 fun g hg => (HR.out.own.lt g hg).1
      obtain ⟨va2, vc2, rfl⟩ := ownsForm hr2.own
      obtain ⟨w0, hw0⟩ : ∃ w0 : World, w0 = wr := ⟨_, rfl⟩
      subst hw0
      have hBw : B ≤ w0.heap.size := Nat.le_trans hB hsz2
      clear hfl hr2 hg2
      by_cases hlt : k < l.length
      · have hlt' : (k : Int) < (l.length : Int) := by omega
        by_cases h200 : its.length ≤ 200
        · have h200' : (its.length : Int) ≤ 200 := by omega
          have h0k : (0 : Int) ≤ (k : Int) := by omega
          have hne : l ≠ [] := by intro h; rw [h] at hlt; simp at hlt
          obtain ⟨g, off, cap', hv, _, hcells⟩ := SlAt.cells (show SlAt 13 (StAt (lowC B w0) d (StC (lowC B w0) d)) (.slice a l.length cap) l from StC.mono hle2 HL.out) hne
          simp only [Value.slice.injEq] at hv
          obtain ⟨rfl, -, rfl⟩ := hv
          have hst := hcells k hlt
          obtain ⟨s, hs⟩ : ∃ s, Hid (l[k] = s) := ⟨_, Lib.hid rfl⟩
          rw [hs.out] at hst
          obtain ⟨lv, av, tv, ev, p0, p1, p2, p3, p4, ⟨kv, p5, p6, p7, p8, hok, hk1⟩, p9, p10, p11, p12, j1, j2, j3, j4, hl1, ha1, ht1, he1⟩ := hst
          obtain ⟨la, lc, rfl, -, -⟩ := hl1.form
          obtain ⟨aa, ac, rfl, -, -⟩ := ha1.form
          obtain ⟨ta, tc, rfl, -, -⟩ := ht1.form
          obtain ⟨ea, ec, rfl, -, -⟩ := he1.form
          obtain ⟨ka, kc, rfl, -, -⟩ := hk1.form
          have hIQ : ItQ D (lowC B w0) (itCells (It.mk s deep inn els) (.slice ka s.x.ks.length kc) (.slice la s.labels.length lc) (.slice aa s.args.length ac) (.slice ta s.thn.length tc) (.slice ea s.els.length ec)) ⟨s, deep, inn, els⟩ := ⟨_, _, _, _, _, rfl, hok, hk1.le (by omega), j1, j2, j3, j4, hl1, SlAt.imp ha1 (fun _ _ _ _ q => q.le (by omega)), ht1.le (by omega), he1.le (by omega), show InI deep from by unfold InI; omega, HIN.out⟩
          have HIQ := Lib.hid hIQ
          have HT := Lib.hid ht1
          have HE := Lib.hid he1
          have HJ1 := Lib.hid j1
          have hgB := p0.1
          have HP0 := Lib.hid p0.2
          have HP11 := Lib.hid p11.2
          have HP12 := Lib.hid p12.2
          have e0 : w0.cell? ⟨g, off + k * 13, none⟩ = _ := p0.2
          have e1 : w0.cell? ⟨g, off + k * 13 + 1, none⟩ = _ := p1.2
          have e2 : w0.cell? ⟨g, off + k * 13 + 2, none⟩ = _ := p2.2
          have e3 : w0.cell? ⟨g, off + k * 13 + 3, none⟩ = _ := p3.2
          have e4 : w0.cell? ⟨g, off + k * 13 + 4, none⟩ = _ := p4.2
          have e5 : w0.cell? ⟨g, off + k * 13 + 5, none⟩ = _ := p5.2
          have e6 : w0.cell? ⟨g, off + k * 13 + 6, none⟩ = _ := p6.2
          have e7 : w0.cell? ⟨g, off + k * 13 + 7, none⟩ = _ := p7.2
          have e8 : w0.cell? ⟨g, off + k * 13 + 8, none⟩ = _ := p8.2
          have e9 : w0.cell? ⟨g, off + k * 13 + 9, none⟩ = _ := p9.2
          have e10 : w0.cell? ⟨g, off + k * 13 + 10, none⟩ = _ := p10.2
          have e11 : w0.cell? ⟨g, off + k * 13 + 11, none⟩ = _ := p11.2
          have e12 : w0.cell? ⟨g, off + k * 13 + 12, none⟩ = _ := p12.2
          clear hcells hne hle2 hIQ hok hk1 hl1 ha1 ht1 he1 j1 j2 j3 j4 p0 p1 p2 p3 p4 p5 p6 p7 p8 p9 p10 p11 p12
          go_wp2_with (at_builtin; refine wpList_append_lies _ rfl (.tmp 23) (.tmp 32) 83 rfl B 76 i0 (.agg #[.int .i64 0, .int .i64 0, .slice none 0 0, .string ⟨#[]⟩, .string ⟨#[]⟩, .int .i64 0, .int .i64 0, .string ⟨#[]⟩, .slice none 0 0, .bool false, .slice none 0 0, .slice none 0 0, .slice none 0 0, .int .i64 0, .int .i64 0, .bool false]) 16 232 Try.underlying83 hi hz0 hz1 hz2 rfl (by decide) _ _ _ rfl (HR2.out.own.alloc _) ⟨_, 0, none⟩ 1 1 (itCells (It.mk s deep inn els) (.slice ka s.x.ks.length kc) (.slice la s.labels.length lc) (.slice aa s.args.length ac) (.slice ta s.thn.length tc) (.slice ea s.els.length ec)) rfl rfl ?c1 it_cells (by decide) ?c3 ?c4 ?c5 _ rfl ?_)
          case c1 => intro j u h; exact h
          case c3 => unfold maxLen; omega
          case c4 => omega
          case c5 => first | omega | (simp; omega)
          intro g4 cap4 w4 hown4 hg4 hat4 hlt4
          have hr4 := HR2.out.more (boxed w0 _) hg4 HIQ.out hown4
          have hG4 : Gr w (.slice va items.length vc) w4 (.slice (some ⟨g4, 0, none⟩) (its.length + 1) cap4) := HG2.out.then ⟨(grown_of (boxed w0 _) _).trans hg4, fun q hq => by
            have hqq : g4 = q := by { simpa [Value.ownBlock] using hq }
            subst hqq
            rcases hat4 with h | h
            · exact .inl h
            · right; first | omega | (simp at h; omega)⟩
          have hle4 : Cs.le (lowC B w0) (lowC B w4) := Cs.le_trans (low_next (boxed w0 _)) (low_grown hg4 fun q hq => (HR2.out.own.lt q hq).1)
          have q0 := (hle4 _ _ _ ⟨hgB, HP0.out⟩).2
          have q11 := (hle4 _ _ _ ⟨hgB, HP11.out⟩).2
          have q12 := (hle4 _ _ _ ⟨hgB, HP12.out⟩).2
          have HT4 := Lib.hid (StC.mono hle4 HT.out)
          have HE4 := Lib.hid (StC.mono hle4 HE.out)
          have HR4 := Lib.hid hr4
          have HG4 := Lib.hid hG4
          have hsz4 := hG4.1.size
          have hstep : Hid (flatL (l.take (k + 1)) deep inn els items = flatS s deep (its ++ [⟨s, deep, inn, els⟩])) := Lib.hid (by
            rw [List.take_succ_eq_append_getElem hlt, flatL_append, HFL.out, hs.out, flatL_cons, if_pos h200, flatL])
          clear e0 e1 e2 e3 e4 e5 e6 e7 e8 e9 e10 e11 e12 hown4 hg4 hat4 hr4 hG4 hle4 HIQ
          by_cases h12 : deep ≤ 12
          · have hw1 : wrap64 (deep + 1) = deep + 1 := by unfold wrap64; omega
            rw [flatS_eq, if_pos h12] at hstep
            have hw2 : IntKind.i64.wrap (deep + 1) = deep + 1 := IntWalk.i64_in _ (by omega)
            have HQ0 := Lib.hid (show w4.cell? ⟨g, off + k * 13, none⟩ = _ from q0)
            have HQ11 := Lib.hid (show w4.cell? ⟨g, off + k * 13 + 11, none⟩ = _ from q11)
            have HQ12 := Lib.hid (show w4.cell? ⟨g, off + k * 13 + 12, none⟩ = _ from q12)
            have hq3 : Below w4.heap.size w4 w4.drew := (Below.refl _ _).drew
            obtain ⟨L1, hL1⟩ : ∃ L, Hid (flatL s.thn (deep + 1) s.id false (its ++ [⟨s, deep, inn, els⟩]) = L) := ⟨_, Lib.hid rfl⟩
            have hL1n : L1.length ≤ 201 := by rw [← hL1.out]; exact flatL_len _ _ _ _ _ (by simp; omega)
            rw [hL1.out] at hstep
            clear q0 q11 q12
            go_upto_region 6 with fail
            go_region_held3 (fun w' => w'.cell? ⟨g, off + k * 13, none⟩ = some (.int .i64 s.id) ∧ w'.cell? ⟨g, off + k * 13 + 11, none⟩ = some (.slice ta s.thn.length tc))
              (first
                | exact ⟨cell_next hq3 HQ0.out, cell_next hq3 HQ11.out⟩
                | exact ⟨x0, x11⟩)
              ((go_split_ands; go_at_call 111; refine (IH.out s.thn _ _ (deep + 1) s.id false (its ++ [⟨s, deep, inn, els⟩]) _ _ (by omega) (StC.mono (low_next hq3) HT4.out) (HR4.out.next hq3) (by have := hq3.size; omega) (by omega) (by omega) HJ1.out (by simp; omega)).mono ?_; rintro e w8 ⟨v8, rows8, rfl, hr8, hg8⟩; rw [hL1.out] at hr8; have hle8 : Cs.le (lowC B w4) (lowC B w8) := Cs.le_trans (low_next hq3) (low_grown hg8.1 fun q hq => (HR4.out.own.lt q hq).1); have x0 := (hle8 _ _ _ ⟨hgB, HQ0.out⟩).2; have x11 := (hle8 _ _ _ ⟨hgB, HQ11.out⟩).2))
            have HR8 := Lib.hid hr8
            have HG8 := Lib.hid (HG4.out.then hg8.drew)
            have HY0 := Lib.hid (show w8.cell? ⟨g, off + k * 13, none⟩ = _ from (hle8 _ _ _ ⟨hgB, HQ0.out⟩).2)
            have HY12 := Lib.hid (show w8.cell? ⟨g, off + k * 13 + 12, none⟩ = _ from (hle8 _ _ _ ⟨hgB, HQ12.out⟩).2)
            have HE8 := Lib.hid (StC.mono hle8 HE4.out)
            obtain ⟨va8, vc8, rfl⟩ := ownsForm hr8.own
            have hsz8 := HG8.out.1.size
            have hq8 : Below w8.heap.size w8 w8.drew := (Below.refl _ _).drew
            obtain ⟨L2, hL2⟩ : ∃ L, Hid (flatL s.els (deep + 1) s.id true L1 = L) := ⟨_, Lib.hid rfl⟩
            have hL2n : L2.length ≤ 201 := by rw [← hL2.out]; exact flatL_len _ _ _ _ _ hL1n
            rw [hL2.out] at hstep
            clear hr8 hg8 hle8 hq3
            go_upto_region 7 with fail
            go_region_held3 (fun w' => w'.cell? ⟨g, off + k * 13, none⟩ = some (.int .i64 s.id) ∧ w'.cell? ⟨g, off + k * 13 + 12, none⟩ = some (.slice ea s.els.length ec))
              (first
                | exact ⟨cell_next hq8 HY0.out, cell_next hq8 HY12.out⟩
                | exact ⟨x0, x12⟩)
              ((go_split_ands; go_at_call 111; refine (IH.out s.els _ _ (deep + 1) s.id true L1 _ _ (by omega) (StC.mono (low_next hq8) HE8.out) (HR8.out.next hq8) (by have := hq8.size; omega) (by omega) (by omega) HJ1.out hL1n).mono ?_; rintro e w9 ⟨v9, rows9, rfl, hr9, hg9⟩; rw [hL2.out] at hr9; have hle9 : Cs.le (lowC B w8) (lowC B w9) := Cs.le_trans (low_next hq8) (low_grown hg9.1 fun q hq => (HR8.out.own.lt q hq).1); have x0 := (hle9 _ _ _ ⟨hgB, HY0.out⟩).2; have x12 := (hle9 _ _ _ ⟨hgB, HY12.out⟩).2))
            have HR9 := Lib.hid hr9
            have HG9 := Lib.hid (HG8.out.then hg9.drew)
            clear hr9 hg9 hle9 hq8
            go_wp2_with fail
            go_roundw
            case rel => exact ⟨k + 1, _, L2, rows9, by omega, by go_num, rfl, hstep.out, hL2n, HR9.out, HG9.out⟩
            case measure => simp [intOf]; omega
          · have h12' : ¬ deep ≤ 12 := h12
            rw [flatS_eq, if_neg h12] at hstep
            clear q0 q11 q12
            go_wp2_with fail
            go_roundw
            case rel => exact ⟨k + 1, _, _, _, by omega, by go_num, rfl, hstep.out, by simp; omega, HR4.out, HG4.out⟩
            case measure => simp [intOf]; omega
        · have h200' : ¬ (its.length : Int) ≤ 200 := by omega
          clear hle2
          go_wp2_with fail
          go_ret
          refine ⟨_, rows, rfl, ?_, HG2.out⟩
          have : flatL l deep inn els items = its := by
            rw [← List.take_append_drop k l, flatL_append, HFL.out]
            exact flatL_stop _ _ _ _ _ (by omega)
          rw [this]
          exact HR2.out
      · have hlt' : ¬ (k : Int) < (l.length : Int) := by omega
        clear hle2
        go_wp2_with fail
        go_ret
        refine ⟨_, rows, rfl, ?_, HG2.out⟩
        rw [List.take_of_length_le (by omega)] at HFL
        rw [HFL.out]
        exact HR2.out
end Go.Proofs.Ytghlmengcidmdaa.Tr
end
