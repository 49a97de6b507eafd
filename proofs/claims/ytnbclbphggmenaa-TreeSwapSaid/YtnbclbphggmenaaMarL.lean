/- What marred of the reference makes: a row with other ids. Conditions: it lies in memory, is light, and may be. -/
import Derived.Test.YtnbclbphggmenaaPutL
import Derived.Test.YtnbclbphggmenaaPutP
import Derived.Test.YtnbclbphggmenaaBTreed
namespace Go.Proofs.Ytnbclbphggmenaa.Tr
open Go.RowKit Go.Proofs.Ytnbclbphggmenaa.Lx Go.Proofs.Ytnbclbphggmenaa.Wd
mutual
def marS (b m : Int) : St → St
  | .mk i k ls nm pr x h ar th el => .mk (i * b + m) k ls nm pr x h ar (marL b m th) (marL b m el)
def marL (b m : Int) : List St → List St
  | [] => []
  | s :: r => marS b m s :: marL b m r
end
theorem marS_eq (b m : Int) (s : St) : marS b m s = .mk (s.id * b + m) s.kind s.labels s.nm s.proc s.x s.has s.args (marL b m s.thn) (marL b m s.els) := by cases s; simp only [marS, St.id, St.kind, St.labels, St.nm, St.proc, St.x, St.has, St.args, St.thn, St.els]
theorem marL_map (b m : Int) : ∀ l : List St, marL b m l = l.map (marS b m) := by
  intro l
  induction l with
  | nil => simp only [marL, List.map_nil]
  | cons s r ih => simp only [marL, List.map_cons, ih]
theorem marL_snoc (b m : Int) (l : List St) (s : St) : marL b m (l ++ [s]) = marL b m l ++ [marS b m s] := by rw [marL_map, marL_map, List.map_append]; rfl
/-- A row that may be, somewhere. -/
def RowOk (l : List St) : Prop := ∃ nest n, 0 ≤ n ∧ rowsL 200 12 nest n l = true
theorem RowOk.mem : ∀ {l : List St}, RowOk l → ∀ s ∈ l, 1 ≤ s.id ∧ s.id ≤ 200 ∧ RowOk s.thn ∧ RowOk s.els := by
  intro l
  induction l with
  | nil => intro _ s h; cases h
  | cons a r ih =>
    intro ⟨nest, n, h0, hr⟩ s hs
    rw [rowsL_cons] at hr
    simp only [Bool.and_eq_true, decide_eq_true_eq] at hr
    rcases List.mem_cons.1 hs with rfl | hs
    · have h1 := hr.1.2
      rw [rowS_eq] at h1
      simp only [Bool.and_eq_true, decide_eq_true_eq, beq_iff_eq] at h1
      exact ⟨by omega, by omega, ⟨_, _, by omega, h1.1.2⟩, ⟨_, _, by omega, h1.2⟩⟩
    · exact ih ⟨_, _, by omega, hr.2⟩ s hs
set_option maxHeartbeats 4000000 in
set_option maxRecDepth 100000 in
theorem mar_any (b m : Int) (hb0 : 0 ≤ b) (hb1 : b ≤ 8) (hm0 : -300 ≤ m) (hm1 : m ≤ 599) :
    ∀ (d : Nat) (l : List St) (v : Value) (w : World), StC (cw w) d v l → wtL l ≤ 20000 → RowOk l →
    Calls Try.prog 79 #[v, .int .i64 b, .int .i64 m] w (PutMade d (marL b m l) w) := by
  intro d
  induction d with
  | zero => intro l v w h; exact h.elim
  | succ d ih =>
    intro l v w hl hwl hrow
    have IH := Lib.hid ih
    obtain ⟨i0, hi, hz0q, hz1, hz2⟩ := info_parts infoSt
    obtain ⟨a, cap, rfl, hc1, hc2⟩ := hl.form
    have HL := Lib.hid hl
    have HROW := Lib.hid hrow
    have hlen := Nat.le_trans (wtL_len l) hwl
    have HWL := Lib.hid hwl
    clear ih hl hwl hrow
    go_enter Try.func79, Try.ntmps79
    go_wp2_with fail
    go_loopw [13, 7] (fun i o wr => ∃ (k : Nat) (v : Value) (rows : List (List Value)), k ≤ l.length ∧ i = .int .i64 k ∧ o = v ∧ Acc (StQ d) w.heap.size 53 13 wr v (marL b m (l.take k)) rows ∧ Below w.heap.size w wr) (fun i _ _ => (l.length - intOf i).toNat)
    case atStart => exact ⟨0, _, [], by omega, rfl, rfl, by simp only [List.take_zero, marL]; exact Acc.nil _ _ _ _ _, Below.refl _ _⟩
    case round =>
      obtain ⟨k, v, rows, hk, rfl, rfl, hacc, hbel⟩ := hrel
      have hcl : (marL b m (l.take k)).length = k := by rw [marL_map, List.length_map, List.length_take]; omega
      obtain ⟨va0, vc0, hv0⟩ := ownsForm hacc.own
      rw [hcl] at hv0
      subst hv0
      have HCL := Lib.hid hcl
      have HACC := Lib.hid hacc
      have HBel := Lib.hid hbel
      have hwbel := hbel
      have HWB := Lib.hid hwbel
      obtain ⟨w0, hw0⟩ : ∃ w0 : World, w0 = wr := ⟨_, rfl⟩
      subst hw0
      clear hcl hacc
      by_cases hlt : k < l.length
      · have hlt' : (k : Int) < (l.length : Int) := by omega
        have h0k : (0 : Int) ≤ (k : Int) := by omega
        have hnel : l ≠ [] := by intro h; rw [h] at hlt; simp at hlt
        obtain ⟨g, off, capg, hvg, _, hcellsg⟩ := SlAt.cells (StC.next HL.out hwbel) hnel
        simp only [Value.slice.injEq] at hvg
        obtain ⟨rfl, -, rfl⟩ := hvg
        have hsts := hcellsg k hlt
        obtain ⟨s, hs⟩ : ∃ s, Hid (l[k] = s) := ⟨_, Lib.hid rfl⟩
        rw [hs.out] at hsts
        obtain ⟨lv, av, tv, ev, p0, p1, p2, p3, p4, ⟨kv, p5, p6, p7, p8, hok, hk1⟩, p9, p10, p11, p12, j1, j2, j3, j4, hl1, ha1, ht1, he1⟩ := hsts
        obtain ⟨la, lc, rfl, bl1, bl2⟩ := hl1.form
        obtain ⟨aa, ac, rfl, ba1, ba2⟩ := ha1.form
        obtain ⟨ta, tc, rfl, bt1, bt2⟩ := ht1.form
        obtain ⟨ea, ec, rfl, be1, be2⟩ := he1.form
        have HML := Lib.hid (Nat.le_trans bl1 bl2)
        have HMA := Lib.hid (Nat.le_trans ba1 ba2)
        have HMT := Lib.hid (Nat.le_trans bt1 bt2)
        have HME := Lib.hid (Nat.le_trans be1 be2)
        clear bl1 bl2 ba1 ba2 bt1 bt2 be1 be2
        obtain ⟨ka, kc, rfl, -, -⟩ := hk1.form
        have e0 : w0.cell? ⟨g, off + k * 13, none⟩ = _ := p0
        have e1 : w0.cell? ⟨g, off + k * 13 + 1, none⟩ = _ := p1
        have e2 : w0.cell? ⟨g, off + k * 13 + 2, none⟩ = _ := p2
        have e3 : w0.cell? ⟨g, off + k * 13 + 3, none⟩ = _ := p3
        have e4 : w0.cell? ⟨g, off + k * 13 + 4, none⟩ = _ := p4
        have e5 : w0.cell? ⟨g, off + k * 13 + 5, none⟩ = _ := p5
        have e6 : w0.cell? ⟨g, off + k * 13 + 6, none⟩ = _ := p6
        have e7 : w0.cell? ⟨g, off + k * 13 + 7, none⟩ = _ := p7
        have e8 : w0.cell? ⟨g, off + k * 13 + 8, none⟩ = _ := p8
        have e9 : w0.cell? ⟨g, off + k * 13 + 9, none⟩ = _ := p9
        have e10 : w0.cell? ⟨g, off + k * 13 + 10, none⟩ = _ := p10
        have e11 : w0.cell? ⟨g, off + k * 13 + 11, none⟩ = _ := p11
        have e12 : w0.cell? ⟨g, off + k * 13 + 12, none⟩ = _ := p12
        have HLB := Lib.hid hl1
        have HKB := Lib.hid hk1
        have HAB := Lib.hid ha1
        have HTB := Lib.hid ht1
        have HEB := Lib.hid he1
        have HOK := Lib.hid hok
        have HJ1 := Lib.hid j1
        have HJ2 := Lib.hid j2
        have HJ3 := Lib.hid j3
        have HJ4 := Lib.hid j4
        clear hcellsg hnel p0 p1 p2 p3 p4 p5 p6 p7 p8 p9 p10 p11 p12 hok hk1 hl1 ha1 ht1 he1 j1 j2 j3 j4
        clear hwbel hbel
        have hws : wtS s ≤ 20000 := Nat.le_trans (by rw [← hs.out]; exact wtL_mem (List.getElem_mem hlt)) HWL.out
        have HWS := Lib.hid hws
        have hro := HROW.out.mem _ (List.getElem_mem hlt)
        rw [hs.out] at hro
        have HRO := Lib.hid hro
        have hp0 : 0 ≤ s.id * b := Int.mul_nonneg (by omega) hb0
        have hp1 : s.id * b ≤ 1600 := by
          have h1 : s.id * b ≤ s.id * 8 := Int.mul_le_mul_of_nonneg_left hb1 (by omega)
          omega
        have hid0 := hro.1
        have hid1 := hro.2.1
        clear hws hro
        go_upto_region 5 with fail
        refine cut_world (fun wx => Below w0.heap.size w0 wx ∧ w0.heap.size < wx.heap.size ∧ BoxAt wx w0.heap.size (stCells s (.slice ka s.x.ks.length kc) (.slice la s.labels.length lc) (.slice aa s.args.length ac) (.slice ta s.thn.length tc) (.slice ea s.els.length ec))) ⟨?_, ?_, ?_⟩ ?_
        · first | exact boxed _ _ | exact (boxed _ _).drew
        · simp
        · first | exact box_new w0 #[.int .i64 s.id, .int .i64 s.kind, .slice la s.labels.length lc, .string s.nm, .string s.proc, .int .i64 s.x.op, .int .i64 s.x.n, .string s.x.nm, .slice ka s.x.ks.length kc, .bool s.has, .slice aa s.args.length ac, .slice ta s.thn.length tc, .slice ea s.els.length ec] 53 | exact (box_new w0 #[.int .i64 s.id, .int .i64 s.kind, .slice la s.labels.length lc, .string s.nm, .string s.proc, .int .i64 s.x.op, .int .i64 s.x.n, .string s.x.nm, .slice ka s.x.ks.length kc, .bool s.has, .slice aa s.args.length ac, .slice ta s.thn.length tc, .slice ea s.els.length ec] 53).next ((Below.refl _ _).drew)
        clear e0 e1 e2 e3 e4 e5 e6 e7 e8 e9 e10 e11 e12
        rintro w1 ⟨hb, hz, hbx⟩
        have HB1 := Lib.hid hb
        have HBX := Lib.hid hbx
        have HH1 := Lib.hid (Hang.mk (d := d) (s := s) (StrC.mono (cw_next hb) HLB.out) (ExC.mono (cw_next hb) HKB.out) (SlAt.imp HAB.out (fun _ _ _ _ => ArAt.mono (cw_next hb))) (StC.next HTB.out hb) (StC.next HEB.out hb))
        have x0 := hbx 0 _ rfl
        have x1 := hbx 1 _ rfl
        have x2 := hbx 2 _ rfl
        have x3 := hbx 3 _ rfl
        have x4 := hbx 4 _ rfl
        have x5 := hbx 5 _ rfl
        have x6 := hbx 6 _ rfl
        have x7 := hbx 7 _ rfl
        have x8 := hbx 8 _ rfl
        have x9 := hbx 9 _ rfl
        have x10 := hbx 10 _ rfl
        have x11 := hbx 11 _ rfl
        have x12 := hbx 12 _ rfl
        clear hb hbx HLB HKB HAB HEB
        go_wp2_with fail
        have hone := copyOne_any d s ka la aa ta ea kc lc ac tc ec w1 HOK.out HJ3.out HJ4.out HH1.out (LightS.of HWS.out)
        unfold stCells at hone
        refine hone.mono ?_
        clear hone
        rintro e w2 ⟨ka2, kc2, la2, lc2, aa2, ac2, rfl, hk2, hl2, ha2, hb2⟩
        unfold stCells
        have HK2 := Lib.hid hk2
        have HL2 := Lib.hid hl2
        have HA2 := Lib.hid ha2
        have HB2 := Lib.hid hb2
        have HBX2 := Lib.hid (HBX.out.next hb2)
        clear hk2 hl2 ha2 hb2 x0 x1 x2 x3 x4 x5 x6 x7 x8 x9 x10 x11 x12
        go_upto_region 6 with fail
        refine cut_world (fun wx => Below w2.heap.size w2 wx ∧ w2.heap.size < wx.heap.size ∧ BoxAt wx w2.heap.size [.int .i64 s.id, .int .i64 s.kind, .slice la2 s.labels.length lc2, .string s.nm, .string s.proc, .int .i64 s.x.op, .int .i64 s.x.n, .string s.x.nm, .slice ka2 s.x.ks.length kc2, .bool s.has, .slice aa2 s.args.length ac2, .slice none 0 0, .slice none 0 0] ∧ Free wx w2.heap.size) ⟨boxed _ _, by simp, box_new w2 #[.int .i64 s.id, .int .i64 s.kind, .slice la2 s.labels.length lc2, .string s.nm, .string s.proc, .int .i64 s.x.op, .int .i64 s.x.n, .string s.x.nm, .slice ka2 s.x.ks.length kc2, .bool s.has, .slice aa2 s.args.length ac2, .slice none 0 0, .slice none 0 0] 53, fun j => by simp [go_sem]⟩ ?_
        rintro w3 ⟨hb3, hz3, hy3, hf3⟩
        have HB3o := Lib.hid hb3
        have HY3o := Lib.hid hy3
        have HF3o := Lib.hid hf3
        have x0 := HBX2.out.next hb3 0 _ rfl
        have y0 := hy3 0 _ rfl
        have f0 := hf3 0
        obtain ⟨M, hM⟩ : ∃ M, Hid (s.id * b + m = M) := ⟨_, Lib.hid rfl⟩
        have hMi : InI M := by rw [← hM.out]; unfold InI; omega
        have HMI := Lib.hid hMi
        have hMe := hM.out
        clear hb3 hy3 hf3 hMi
        go_upto_region 7 with fail
        refine cut_world (fun wx => Below w2.heap.size w2 wx ∧ w2.heap.size < wx.heap.size ∧ BoxAt wx w2.heap.size [.int .i64 M, .int .i64 s.kind, .slice la2 s.labels.length lc2, .string s.nm, .string s.proc, .int .i64 s.x.op, .int .i64 s.x.n, .string s.x.nm, .slice ka2 s.x.ks.length kc2, .bool s.has, .slice aa2 s.args.length ac2, .slice none 0 0, .slice none 0 0] ∧ Free wx w2.heap.size) ⟨HB3o.out.setCell (p := ⟨w2.heap.size, 0, none⟩) (Nat.le_refl _) _, by rw [World.size_setCell]; exact hz3, HY3o.out.put (j := 0) (x := .int .i64 M) (by simp), HF3o.out.set⟩ ?_
        clear x0 y0 f0 HB3o HY3o HF3o hz3 hMe
        rintro w3 ⟨hb3, hz3, hy3, hf3⟩
        have HB3 := Lib.hid hb3
        have HY3 := Lib.hid hy3
        have HF3 := Lib.hid hf3
        have HBX3 := Lib.hid (HBX2.out.next hb3)
        have HB13 := Lib.hid ((HB1.out.trans (HB2.out.mono HB1.out.size)).trans (hb3.mono (Nat.le_trans HB1.out.size HB2.out.size)))
        have HB03 := Lib.hid HB13.out
        have x0 := HBX3.out 0 _ rfl
        clear hb3 hy3 hf3
        have hq : Below w3.heap.size w3 w3.drew := (Below.refl _ _).drew
        have hneX : w2.heap.size ≠ w0.heap.size := by have := cell_lt (HBX2.out 0 _ rfl); omega
        have KA0 := Lib.hid (cell_next hq (HBX3.out 11 _ rfl))
        have KA1 := Lib.hid (cell_next hq (HBX3.out 12 _ rfl))
        have HH3 := Lib.hid (HH1.out.next (HB2.out.trans (HB3.out.mono HB2.out.size)))
        obtain ⟨L4, hL4⟩ : ∃ L, Hid (marL b m s.thn = L) := ⟨_, Lib.hid rfl⟩
        obtain ⟨L5, hL5⟩ : ∃ L, Hid (marL b m s.els = L) := ⟨_, Lib.hid rfl⟩
        clear x0
        go_region_held3 (fun w' => w'.cell? ⟨w0.heap.size, 11, none⟩ = some (.slice ta s.thn.length tc) ∧ w'.cell? ⟨w0.heap.size, 12, none⟩ = some (.slice ea s.els.length ec))
          (first
            | with_reducible exact ⟨KA0.out, KA1.out⟩
            | with_reducible exact ⟨KB0.out, KB1.out⟩
            | with_reducible exact ⟨KC0.out, KC1.out⟩
            | with_reducible exact ⟨far1 hneX KC0.out, far1 hneX KC1.out⟩
            | with_reducible exact ⟨far1 hneX (far1 hneX KC0.out), far1 hneX (far1 hneX KC1.out)⟩)
          (first
            | (go_at_call 79
               have hq5 := hq4
               refine (show Calls Try.prog 79 #[.slice ea s.els.length ec, .int .i64 b, .int .i64 m] w4 (PutMade d (marL b m s.els) w4) from IH.out s.els _ w4 (HH3.out.next hq4).els (by have := HWS.out; rw [wtS_eq] at this; omega) HRO.out.2.2.2).mono ?_
               rw [hL5.out]
               rintro e w5 ⟨v5, rfl, hst5, hb5⟩
               obtain ⟨ea5, ec5, rfl, -, -⟩ := hst5.form
               have HST5 := Lib.hid hst5
               have hq5 := below_then hb5 hq4
               have HB5 := Lib.hid hb5
               have hy5 := HY3.out.next hq5
               have hf5 := HF3.out.next hz3 hq5
               have HY5 := Lib.hid hy5
               have HF5 := Lib.hid hf5
               have y11 := hy5 11 _ rfl
               have y12 := hy5 12 _ rfl
               have f11 := hf5 11
               have f12 := hf5 12
               have KC0 := Lib.hid (cell_next hb5 KB0.out)
               have KC1 := Lib.hid (cell_next hb5 KB1.out))
            | (go_at_call 79
               refine (show Calls Try.prog 79 #[.slice ta s.thn.length tc, .int .i64 b, .int .i64 m] w3.drew (PutMade d (marL b m s.thn) w3.drew) from IH.out s.thn _ w3.drew (HH3.out.next hq).thn (by have := HWS.out; rw [wtS_eq] at this; omega) HRO.out.2.2.1).mono ?_
               rw [hL4.out]
               rintro e w4 ⟨v4, rfl, hst4, hb4⟩
               obtain ⟨ta4, tc4, rfl, -, -⟩ := hst4.form
               have HST4 := Lib.hid hst4
               have hq4 := below_then hb4 hq
               have KB0 := Lib.hid (cell_next hb4 KA0.out)
               have KB1 := Lib.hid (cell_next hb4 KA1.out)))
        all_goals
          have n1 := HB1.out.size
          have n2 := HB2.out.size
          have n4 := hq4.size
          have n5 := hq5.size
          have hb25 := HB3.out.trans (hq5.mono HB3.out.size)
          have hb05 := HB13.out.trans (hq5.mono HB13.out.size)
          go_upto_region 8 with fail
          refine cut_world (fun wx => Below w0.heap.size w0 wx ∧ w5.heap.size ≤ wx.heap.size ∧ BoxAt wx w2.heap.size [.int .i64 M, .int .i64 s.kind, .slice la2 s.labels.length lc2, .string s.nm, .string s.proc, .int .i64 s.x.op, .int .i64 s.x.n, .string s.x.nm, .slice ka2 s.x.ks.length kc2, .bool s.has, .slice aa2 s.args.length ac2, .slice ta4 L4.length tc4, .slice ea5 L5.length ec5] ∧ StQ d (nwC w0.heap.size wx) [.int .i64 M, .int .i64 s.kind, .slice la2 s.labels.length lc2, .string s.nm, .string s.proc, .int .i64 s.x.op, .int .i64 s.x.n, .string s.x.nm, .slice ka2 s.x.ks.length kc2, .bool s.has, .slice aa2 s.args.length ac2, .slice ta4 L4.length tc4, .slice ea5 L5.length ec5] (marS b m s)) ⟨?_, ?_, ?_, ?_⟩ ?_
          · exact ((hb05.setCell (p := ⟨_, _, none⟩) (by simp; omega) _).setCell (p := ⟨_, _, none⟩) (by simp; omega) _)
          · simp only [World.size_setCell]; exact Nat.le_refl _
          · first
              | exact (HY5.out.put (j := 11) (x := .slice ta4 L4.length tc4) (by simp)).put (j := 12) (x := .slice ea5 L5.length ec5) (by simp)
              | exact (HY5.out.put (j := 12) (x := .slice ea5 L5.length ec5) (by simp)).put (j := 11) (x := .slice ta4 L4.length tc4) (by simp)
          · have hs3 : w2.heap.size < w3.drew.heap.size := by simp; omega
            refine ⟨.slice ka2 s.x.ks.length kc2, .slice la2 s.labels.length lc2, .slice aa2 s.args.length ac2, .slice ta4 L4.length tc4, .slice ea5 L5.length ec5, ?_, ?_, ?_, ?_, ?_, ?_, ?_, ?_, ?_, ?_, ?_⟩
            · rw [marS_eq, hM.out]; rfl
            · rw [marS_eq]; exact HOK.out
            · rw [marS_eq]; exact ExC.mono (Cs.le_trans (le_ne (B := w1.heap.size) (B' := w0.heap.size) (Y := w2.heap.size) (w := w2) (w' := w5) hb25 (by omega) (.inr (Nat.le_refl _))) (Cs.le_trans (only_set (by simp)) (Cs.le_trans (only_set (by simp)) (only_le (fun g h => h.1) (fun _ _ _ h => h))))) HK2.out
            · rw [marS_eq, hM.out]; exact HMI.out
            · rw [marS_eq]; exact HJ2.out
            · rw [marS_eq]; exact HJ3.out
            · rw [marS_eq]; exact HJ4.out
            · rw [marS_eq]; exact StrC.mono (Cs.le_trans (le_ne (B := w1.heap.size) (B' := w0.heap.size) (Y := w2.heap.size) (w := w2) (w' := w5) hb25 (by omega) (.inr (Nat.le_refl _))) (Cs.le_trans (only_set (by simp)) (Cs.le_trans (only_set (by simp)) (only_le (fun g h => h.1) (fun _ _ _ h => h))))) HL2.out
            · rw [marS_eq]; exact SlAt.imp HA2.out (fun _ _ _ _ q => ArAt.mono (Cs.le_trans (le_ne (B := w1.heap.size) (B' := w0.heap.size) (Y := w2.heap.size) (w := w2) (w' := w5) hb25 (by omega) (.inr (Nat.le_refl _))) (Cs.le_trans (only_set (by simp)) (Cs.le_trans (only_set (by simp)) (only_le (fun g h => h.1) (fun _ _ _ h => h))))) q)
            · rw [marS_eq]; show StC _ _ _ (marL b m s.thn); rw [hL4.out]; exact StC.mono (Cs.le_trans (le_ne (B' := w0.heap.size) (Y := w2.heap.size) HB5.out (by omega) (.inl hs3)) (Cs.le_trans (only_set (by simp)) (Cs.le_trans (only_set (by simp)) (only_le (fun g h => h.1) (fun _ _ _ h => h))))) HST4.out
            · rw [marS_eq]; show StC _ _ _ (marL b m s.els); rw [hL5.out]; exact StC.mono (Cs.le_trans (le_ne (B' := w0.heap.size) (Y := w2.heap.size) (Below.refl _ _) (by omega) (.inl (by omega))) (Cs.le_trans (only_set (by simp)) (Cs.le_trans (only_set (by simp)) (only_le (fun g h => h.1) (fun _ _ _ h => h))))) HST5.out
          rintro w6 ⟨hb6, hz6, hy6, hq6⟩
          have HB6 := Lib.hid hb6
          have HQ6 := Lib.hid hq6
          have b0 := hy6 0 _ rfl
          have b1 := hy6 1 _ rfl
          have b2 := hy6 2 _ rfl
          have b3 := hy6 3 _ rfl
          have b4 := hy6 4 _ rfl
          have b5 := hy6 5 _ rfl
          have b6 := hy6 6 _ rfl
          have b7 := hy6 7 _ rfl
          have b8 := hy6 8 _ rfl
          have b9 := hy6 9 _ rfl
          have b10 := hy6 10 _ rfl
          have b11 := hy6 11 _ rfl
          have b12 := hy6 12 _ rfl
          have hown6 := ownsBelow HACC.out.own hb6
          rw [HCL.out] at hown6
          have HOWN6 := Lib.hid hown6
          have hz0 := HBel.out.size
          have hz6' := hb6.size
          clear hb6 hy6 hq6 hown6 y11 y12 f11 f12 hb25 hb05
          go_wp2_with (at_builtin; refine wpList_append_lies _ rfl (.tmp 38) (.tmp 40) 51 rfl w.heap.size 53 i0 (.agg #[.int .i64 0, .int .i64 0, .slice none 0 0, .string ⟨#[]⟩, .string ⟨#[]⟩, .int .i64 0, .int .i64 0, .string ⟨#[]⟩, .slice none 0 0, .bool false, .slice none 0 0, .slice none 0 0, .slice none 0 0]) 13 208 Try.underlying51 hi hz0q hz1 hz2 rfl (by decide) _ _ _ rfl (HOWN6.out.alloc _) ⟨_, 0, none⟩ 1 1 [.int .i64 M, .int .i64 s.kind, .slice la2 s.labels.length lc2, .string s.nm, .string s.proc, .int .i64 s.x.op, .int .i64 s.x.n, .string s.x.nm, .slice ka2 s.x.ks.length kc2, .bool s.has, .slice aa2 s.args.length ac2, .slice ta4 L4.length tc4, .slice ea5 L5.length ec5] rfl rfl ?_ (by simp [Value.oneCell']) (by decide) ?_ ?_ ?_ _ rfl ?_)
          · intro j u h
            rw [Addr.add_lit, World.cell?_alloc_new]
            simpa using h
          · unfold maxLen; omega
          · omega
          · simp only [World.size_alloc]
            omega
          intro g10 cap10 w10 hown10 hg10 hat10 hlt10
          have HOWN10 := Lib.hid hown10
          have HG10 := Lib.hid hg10
          have HAT10 := Lib.hid hat10
          clear hown10 hg10 hat10 hlt10
          go_wp2_with fail
          go_roundw
          case rel =>
            refine ⟨k + 1, .slice (some ⟨g10, 0, none⟩) (k + 1) cap10, rows ++ [[.int .i64 M, .int .i64 s.kind, .slice la2 s.labels.length lc2, .string s.nm, .string s.proc, .int .i64 s.x.op, .int .i64 s.x.n, .string s.x.nm, .slice ka2 s.x.ks.length kc2, .bool s.has, .slice aa2 s.args.length ac2, .slice ta4 L4.length tc4, .slice ea5 L5.length ec5]], by omega, by go_num, rfl, ?_, ?_⟩
            · have hm := HACC.out.more (v4 := .slice (some ⟨g10, 0, none⟩) (k + 1) cap10) (c := [.int .i64 M, .int .i64 s.kind, .slice la2 s.labels.length lc2, .string s.nm, .string s.proc, .int .i64 s.x.op, .int .i64 s.x.n, .string s.x.nm, .slice ka2 s.x.ks.length kc2, .bool s.has, .slice aa2 s.args.length ac2, .slice ta4 L4.length tc4, .slice ea5 L5.length ec5]) (x := marS b m s) (StQ.mono d) (Below.refl _ _) HBel.out.size HB6.out (boxed w6 _) HG10.out (fun z hz => by have hzz : g10 = z := by { simpa [Value.ownBlock] using hz }; subst hzz; exact HAT10.out.imp id fun h => by { (try simp only [World.size_alloc] at h); omega }) rfl HQ6.out (by rw [HCL.out]; exact HOWN10.out)
              rw [List.take_succ_eq_append_getElem hlt, hs.out, marL_snoc]
              exact hm
            · exact (HBel.out.trans ((HB6.out.trans ((boxed w6 _).mono HB6.out.size)).mono HBel.out.size)).grown HG10.out (by simp only [World.size_alloc]; omega) fun z hz => (HACC.out.own.lt z hz).1
          case measure => simp [intOf]; omega
      · have hlt' : ¬ (k : Int) < (l.length : Int) := by omega
        have hke : k = l.length := by omega
        subst hke
        rw [List.take_length] at HACC
        clear hbel hwbel
        go_wp2_with fail
        go_ret
        have hst := Acc.stC HACC.out (by rw [marL_map, List.length_map]; omega)
        exact ⟨_, rfl, hst, HWB.out⟩
end Go.Proofs.Ytnbclbphggmenaa.Tr
