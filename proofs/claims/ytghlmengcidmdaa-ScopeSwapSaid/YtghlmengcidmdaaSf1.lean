/- Parts of SwapL: walks and plain laws that later texts use. Conditions: as each statement says. -/
import Derived.Test.YtghlmengcidmdaaSa0
import Derived.Test.YtghlmengcidmdaaSa1
import Derived.Test.YtghlmengcidmdaaSa10
import Derived.Test.YtghlmengcidmdaaSa11
import Derived.Test.YtghlmengcidmdaaSa12
import Derived.Test.YtghlmengcidmdaaSa14
import Derived.Test.YtghlmengcidmdaaSa2
import Derived.Test.YtghlmengcidmdaaSa20
import Derived.Test.YtghlmengcidmdaaSa3
import Derived.Test.YtghlmengcidmdaaSa4
import Derived.Test.YtghlmengcidmdaaSa5
import Derived.Test.YtghlmengcidmdaaSa6
import Derived.Test.YtghlmengcidmdaaSa7
import Derived.Test.YtghlmengcidmdaaSa8
import Derived.Test.YtghlmengcidmdaaSa9
import Derived.Test.YtghlmengcidmdaaSf0
import Derived.Outline
import Derived.OrdersHeld
import Derived.Deep.RegionHeld3
import Derived.Deep.RegionLaw
import Derived.Deep.DeepCutAuto
import Derived.IntWalk
import Derived.Deep.QuietTactic
import Derived.BigQuiet
import Derived.Deep.RegionWith
import Derived.Laws.Cover3
import Derived.OwnWalk
import Derived.OneCell
import Derived.Deep.AppendLies
import Derived.Laws.StructEq
import Derived.WalkKit
import Derived.Test.YtghlmengcidmdaaRows
import Derived.WalkSpells
import Derived.Lib.Hide
import Derived.Below
import Derived.Laws.BitsAllLaws
import Derived.WalkSmall
import Derived.StillTailTactics
import Derived.RegionTactic
import Derived.Maps.Range
import Derived.Lib.SmallJoins
import Derived.Deep.Upon
import Derived.Maps.AppendAt
import Derived.Laws.OwnMore
import Derived.Deep.Slices
import Derived.Deep.Fields
import Derived.SliceStrings
import Derived.ChangeSlices
/- What SwapStmts of the reference makes: a row with two names changed for each other. Conditions: it lies in memory and is light. -/
namespace Go.Proofs.Ytghlmengcidmdaa.Tr
open Go.RowKit Go.Proofs.Ytghlmengcidmdaa.Lx Go.Proofs.Ytghlmengcidmdaa.Wd
def swA (a b : ByteArray) (x : Ar) : Ar := .mk x.ref (other a b x.nm) (mapE (other a b) x.x)
mutual
def swS (a b : ByteArray) : St → St
  | .mk i k ls nm pr x h ar th el => .mk i k (ls.map (other a b)) (other a b nm) (other a b pr) (mapE (other a b) x) h (ar.map (swA a b)) (swL a b th) (swL a b el)
def swL (a b : ByteArray) : List St → List St
  | [] => []
  | s :: r => swS a b s :: swL a b r
end
theorem swS_eq (a b : ByteArray) (s : St) : swS a b s = .mk s.id s.kind (s.labels.map (other a b)) (other a b s.nm) (other a b s.proc) (mapE (other a b) s.x) s.has (s.args.map (swA a b)) (swL a b s.thn) (swL a b s.els) := by cases s; simp only [swS, St.id, St.kind, St.labels, St.nm, St.proc, St.x, St.has, St.args, St.thn, St.els]
theorem swL_map (a b : ByteArray) : ∀ l : List St, swL a b l = l.map (swS a b) := by
  intro l
  induction l with
  | nil => simp only [swL, List.map_nil]
  | cons s r ih => simp only [swL, List.map_cons, ih]
theorem swL_snoc (a b : ByteArray) (l : List St) (s : St) : swL a b (l ++ [s]) = swL a b l ++ [swS a b s] := by rw [swL_map, swL_map, List.map_append]; rfl
mutual
def FewS : St → Prop
  | .mk _ _ ls _ _ x _ ar th el => ls.length ≤ 20000 ∧ ar.length ≤ 20000 ∧ (∀ d, lim d x.ks) ∧ (∀ y ∈ ar, ∀ d, lim d y.x.ks) ∧ (th.length ≤ 20000 ∧ FewL th) ∧ (el.length ≤ 20000 ∧ FewL el)
def FewL : List St → Prop
  | [] => True
  | s :: r => FewS s ∧ FewL r
end
theorem FewS_eq (s : St) : FewS s = (s.labels.length ≤ 20000 ∧ s.args.length ≤ 20000 ∧ (∀ d, lim d s.x.ks) ∧ (∀ y ∈ s.args, ∀ d, lim d y.x.ks) ∧ (s.thn.length ≤ 20000 ∧ FewL s.thn) ∧ (s.els.length ≤ 20000 ∧ FewL s.els)) := by cases s; simp only [FewS, St.labels, St.args, St.x, St.thn, St.els]
theorem FewL.mem : ∀ {l : List St}, FewL l → ∀ s ∈ l, FewS s := by
  intro l
  induction l with
  | nil => intro _ s h; cases h
  | cons x r ih =>
    intro h s hs
    rw [FewL] at h
    rcases List.mem_cons.1 hs with rfl | hs
    · exact h.1
    · exact ih h.2 s hs
mutual
theorem fewS_of : ∀ s : St, wtS s ≤ 20000 → FewS s
  | .mk i k ls nm pr x h ar th el => fun hw => by
    have hl := LightS.of hw
    rw [wtS] at hw
    have h1 := wtTs_len ls
    have h2 := wtAr_len ar
    have h3 := wtL_len th
    have h4 := wtL_len el
    rw [FewS]
    exact ⟨by omega, by omega, fun d => lim_ex hl.1 d, fun y hy d => lim_ex (hl.2.2.2 y hy) d, ⟨by omega, fewL_of th (by omega)⟩, ⟨by omega, fewL_of el (by omega)⟩⟩
theorem fewL_of : ∀ l : List St, wtL l ≤ 20000 → FewL l
  | [] => fun _ => by rw [FewL]; trivial
  | s :: r => fun hw => by
    rw [wtL] at hw
    rw [FewL]
    exact ⟨fewS_of s (by omega), fewL_of r (by omega)⟩
end
theorem other_le {a b s : ByteArray} (ha : a.size ≤ 9223372036854775807) (hb : b.size ≤ 9223372036854775807) (hs : s.size ≤ 9223372036854775807) : (other a b s).size ≤ 9223372036854775807 := other_size ha hb hs
set_option linter.unusedSimpArgs false
set_option maxHeartbeats 8000000 in
set_option maxRecDepth 100000 in
theorem swL_any (a b : ByteArray) (ha : a.size ≤ 9223372036854775807) (hb : b.size ≤ 9223372036854775807) :
    ∀ (d : Nat) (l : List St) (v : Value) (w : World), StC (cw w) d v l → l.length ≤ 20000 → FewL l →
    Calls Try.prog 96 #[v, .string a, .string b] w (PutMade d (swL a b l) w) := by
  intro d
  induction d with
  | zero => intro l v w h; exact h.elim
  | succ d ih =>
    intro l v w hl hlen hwl
    have IH := Lib.hid ih
    obtain ⟨i0, hi, hz0q, hz1, hz2⟩ := info_parts infoSt
    obtain ⟨i1, hi', hz0', hz1', hz2'⟩ := info_parts infoAr
    obtain ⟨la0, cap, rfl, hc1, hc2⟩ := hl.form
    have HL := Lib.hid hl
    have HWL := Lib.hid hwl
    have HSA := Lib.hid ha
    have HSB := Lib.hid hb
    clear ih hl hwl ha hb
    go_enter Try.func96, Try.ntmps96
    go_wp2_with fail
    go_loopw [15, 7] (fun i o wr => ∃ (k : Nat) (v : Value) (rows : List (List Value)), k ≤ l.length ∧ i = .int .i64 k ∧ o = v ∧ Acc (StQ d) w.heap.size 41 13 wr v (swL a b (l.take k)) rows ∧ Below w.heap.size w wr) (fun i _ _ => (l.length - intOf i).toNat)
    case atStart => exact ⟨0, _, [], by omega, rfl, rfl, by simp only [List.take_zero, swL]; exact Acc.nil _ _ _ _ _, Below.refl _ _⟩
    case round =>
      obtain ⟨k, v, rows, hk, rfl, rfl, hacc, hbel⟩ := hrel
      have hcl : (swL a b (l.take k)).length = k := by rw [swL_map, List.length_map, List.length_take]; omega
      obtain ⟨va0, vc0, hv0⟩ := ownsForm hacc.own
      rw [hcl] at hv0
      subst hv0
      have HCL := Lib.hid hcl
      have HACC := Lib.hid hacc
      have HBel := Lib.hid hbel
      have hwbel := hbel
      have HWB := Lib.hid hwbel
      obtain ⟨w0, hw0⟩ : ∃ w0 : World, w0 = wr := ⟨_, rfl⟩
      subst hw0
      clear hcl hacc
      by_cases hlt : k < l.length
      · have hlt' : (k : Int) < (l.length : Int) := by omega
        have h0k : (0 : Int) ≤ (k : Int) := by omega
        have hnel : l ≠ [] := by intro h; rw [h] at hlt; simp at hlt
        obtain ⟨g, off, capg, hvg, _, hcellsg⟩ := SlAt.cells (StC.next HL.out hwbel) hnel
        simp only [Value.slice.injEq] at hvg
        obtain ⟨rfl, -, rfl⟩ := hvg
        have hsts := hcellsg k hlt
        obtain ⟨s, hs⟩ : ∃ s, Hid (l[k] = s) := ⟨_, Lib.hid rfl⟩
        rw [hs.out] at hsts
        obtain ⟨lv, av, tv, ev, p0, p1, p2, p3, p4, ⟨kv, p5, p6, p7, p8, hok, hk1⟩, p9, p10, p11, p12, j1, j2, j3, j4, hl1, ha1, ht1, he1⟩ := hsts
        obtain ⟨la, lc, rfl, bl1, bl2⟩ := hl1.form
        obtain ⟨aa, ac, rfl, ba1, ba2⟩ := ha1.form
        obtain ⟨ta, tc, rfl, bt1, bt2⟩ := ht1.form
        obtain ⟨ea, ec, rfl, be1, be2⟩ := he1.form
        have HML := Lib.hid (Nat.le_trans bl1 bl2)
        have HMA := Lib.hid (Nat.le_trans ba1 ba2)
        have HMT := Lib.hid (Nat.le_trans bt1 bt2)
        have HME := Lib.hid (Nat.le_trans be1 be2)
        clear bl1 bl2 ba1 ba2 bt1 bt2 be1 be2
        obtain ⟨ka, kc, rfl, -, -⟩ := hk1.form
        have e0 : w0.cell? ⟨g, off + k * 13, none⟩ = _ := p0
        have e1 : w0.cell? ⟨g, off + k * 13 + 1, none⟩ = _ := p1
        have e2 : w0.cell? ⟨g, off + k * 13 + 2, none⟩ = _ := p2
        have e3 : w0.cell? ⟨g, off + k * 13 + 3, none⟩ = _ := p3
        have e4 : w0.cell? ⟨g, off + k * 13 + 4, none⟩ = _ := p4
        have e5 : w0.cell? ⟨g, off + k * 13 + 5, none⟩ = _ := p5
        have e6 : w0.cell? ⟨g, off + k * 13 + 6, none⟩ = _ := p6
        have e7 : w0.cell? ⟨g, off + k * 13 + 7, none⟩ = _ := p7
        have e8 : w0.cell? ⟨g, off + k * 13 + 8, none⟩ = _ := p8
        have e9 : w0.cell? ⟨g, off + k * 13 + 9, none⟩ = _ := p9
        have e10 : w0.cell? ⟨g, off + k * 13 + 10, none⟩ = _ := p10
        have e11 : w0.cell? ⟨g, off + k * 13 + 11, none⟩ = _ := p11
        have e12 : w0.cell? ⟨g, off + k * 13 + 12, none⟩ = _ := p12
        have HLB := Lib.hid hl1
        have HKB := Lib.hid hk1
        have HAB := Lib.hid ha1
        have HTB := Lib.hid ht1
        have HEB := Lib.hid he1
        have HOK := Lib.hid hok
        have HJ1 := Lib.hid j1
        have HJ2 := Lib.hid j2
        have HJ3 := Lib.hid j3
        have HJ4 := Lib.hid j4
        clear hcellsg hnel p0 p1 p2 p3 p4 p5 p6 p7 p8 p9 p10 p11 p12 hok hk1 hl1 ha1 ht1 he1 j1 j2 j3 j4
        clear hwbel hbel
        have hws : FewS s := by rw [← hs.out]; exact HWL.out.mem _ (List.getElem_mem hlt)
        have HWS := Lib.hid hws
        clear hws
        go_upto_region 5 with fail
        refine cut_world (fun wx => Below w0.heap.size w0 wx ∧ w0.heap.size < wx.heap.size ∧ Free wx w0.heap.size ∧ BoxAt wx w0.heap.size (stCells s (.slice ka s.x.ks.length kc) (.slice la s.labels.length lc) (.slice aa s.args.length ac) (.slice ta s.thn.length tc) (.slice ea s.els.length ec))) ⟨?_, ?_, fun j => by simp [go_sem], ?_⟩ ?_
        · first | exact boxed _ _ | exact (boxed _ _).drew
        · simp
        · first | exact box_new w0 #[.int .i64 s.id, .int .i64 s.kind, .slice la s.labels.length lc, .string s.nm, .string s.proc, .int .i64 s.x.op, .int .i64 s.x.n, .string s.x.nm, .slice ka s.x.ks.length kc, .bool s.has, .slice aa s.args.length ac, .slice ta s.thn.length tc, .slice ea s.els.length ec] 41 | exact (box_new w0 #[.int .i64 s.id, .int .i64 s.kind, .slice la s.labels.length lc, .string s.nm, .string s.proc, .int .i64 s.x.op, .int .i64 s.x.n, .string s.x.nm, .slice ka s.x.ks.length kc, .bool s.has, .slice aa s.args.length ac, .slice ta s.thn.length tc, .slice ea s.els.length ec] 41).next ((Below.refl _ _).drew)
        clear e0 e1 e2 e3 e4 e5 e6 e7 e8 e9 e10 e11 e12
        rintro w1 ⟨hb, hz, hfx, hbx⟩
        have HB1 := Lib.hid hb
        have HBX := Lib.hid hbx
        have HFX := Lib.hid hfx
        have HH1 := Lib.hid (Hang.mk (d := d) (s := s) (StrC.mono (cw_next hb) HLB.out) (ExC.mono (cw_next hb) HKB.out) (SlAt.imp HAB.out (fun _ _ _ _ => ArAt.mono (cw_next hb))) (StC.next HTB.out hb) (StC.next HEB.out hb))
        clear hb hbx hfx HLB HKB HAB HEB HTB
        have hq : Below w1.heap.size w1 w1.drew := (Below.refl _ _).drew
        obtain ⟨LB, hLB⟩ : ∃ L, Hid (s.labels.map (other a b) = L) := ⟨_, Lib.hid rfl⟩
        obtain ⟨NM, hNM⟩ : ∃ L, Hid (other a b s.nm = L) := ⟨_, Lib.hid rfl⟩
        obtain ⟨PR, hPR⟩ : ∃ L, Hid (other a b s.proc = L) := ⟨_, Lib.hid rfl⟩
        obtain ⟨X, hX⟩ : ∃ L, Hid (mapE (other a b) s.x = L) := ⟨_, Lib.hid rfl⟩
        have hlab : s.labels.length ≤ 1000000 := by have := HWS.out; rw [FewS_eq] at this; omega
        have HLIM : Hid (lim d s.x.ks) := Lib.hid (by have := HWS.out; rw [FewS_eq] at this; exact this.2.2.1 d)
        have hx01 : w0.heap.size < w1.heap.size := cell_lt (HBX.out 0 _ rfl)
        go_cut [10] (fun ax wx => ∃ (Y : Nat) (la2 ka2 : Option Addr) (lc2 kc2 : Nat), ax = .pointer (some ⟨Y, 0, none⟩) ∧ w1.heap.size ≤ Y ∧ Y < wx.heap.size ∧ Below w1.heap.size w1 wx ∧ BoxAt wx Y [.int .i64 s.id, .int .i64 s.kind, .slice la2 LB.length lc2, .string NM, .string PR, .int .i64 X.op, .int .i64 X.n, .string X.nm, .slice ka2 X.ks.length kc2, .bool s.has, .slice none 0 0, .slice none 0 0, .slice none 0 0] ∧ Free wx Y ∧
          StrC (only (fun g => w1.heap.size ≤ g ∧ g ≠ Y) (cw wx)) (.slice la2 LB.length lc2) LB ∧ ExC (only (fun g => w1.heap.size ≤ g ∧ g ≠ Y) (cw wx)) d (.slice ka2 X.ks.length kc2) X.ks ∧ OkE X)
        case first =>
          have hqA : Below w1.heap.size w1 (w1.alloc (.cells #[.int .i64 0, .int .i64 0, .slice none 0 0, .string ⟨#[]⟩, .string ⟨#[]⟩, .int .i64 0, .int .i64 0, .string ⟨#[]⟩, .slice none 0 0, .bool false, .slice none 0 0, .slice none 0 0, .slice none 0 0] 41)).drew := (boxed w1 _).drew
          have HYA := Lib.hid ((box_new w1 #[.int .i64 0, .int .i64 0, .slice none 0 0, .string ⟨#[]⟩, .string ⟨#[]⟩, .int .i64 0, .int .i64 0, .string ⟨#[]⟩, .slice none 0 0, .bool false, .slice none 0 0, .slice none 0 0, .slice none 0 0] 41).next ((Below.refl _ _).drew))
          have HYFA : Hid (Free (w1.alloc (.cells #[.int .i64 0, .int .i64 0, .slice none 0 0, .string ⟨#[]⟩, .string ⟨#[]⟩, .int .i64 0, .int .i64 0, .string ⟨#[]⟩, .slice none 0 0, .bool false, .slice none 0 0, .slice none 0 0, .slice none 0 0] 41)).drew w1.heap.size) := Lib.hid (Free.next (fun j => by simp [go_sem]) (by simp) ((Below.refl _ _).drew))
          have KD0 := Lib.hid (cell_next hqA (HBX.out 0 _ rfl))
          have KD1 := Lib.hid (cell_next hqA (HBX.out 1 _ rfl))
          have KD2 := Lib.hid (cell_next hqA (HBX.out 2 _ rfl))
          have KD3 := Lib.hid (cell_next hqA (HBX.out 3 _ rfl))
          have KD4 := Lib.hid (cell_next hqA (HBX.out 4 _ rfl))
          have KD5 := Lib.hid (cell_next hqA (HBX.out 5 _ rfl))
          have KD6 := Lib.hid (cell_next hqA (HBX.out 6 _ rfl))
          have KD7 := Lib.hid (cell_next hqA (HBX.out 7 _ rfl))
          have KD8 := Lib.hid (cell_next hqA (HBX.out 8 _ rfl))
          have KD9 := Lib.hid (cell_next hqA (HBX.out 9 _ rfl))
          have hne1 : w1.heap.size ≠ w0.heap.size := by omega
          have K0 := Lib.hid (cell_next hq (HBX.out 0 _ rfl))
          have K1 := Lib.hid (cell_next hq (HBX.out 1 _ rfl))
          have K2 := Lib.hid (cell_next hq (HBX.out 2 _ rfl))
          have K3 := Lib.hid (cell_next hq (HBX.out 3 _ rfl))
          have K4 := Lib.hid (cell_next hq (HBX.out 4 _ rfl))
          have K5 := Lib.hid (cell_next hq (HBX.out 5 _ rfl))
          have K6 := Lib.hid (cell_next hq (HBX.out 6 _ rfl))
          have K7 := Lib.hid (cell_next hq (HBX.out 7 _ rfl))
          have K8 := Lib.hid (cell_next hq (HBX.out 8 _ rfl))
          have K9 := Lib.hid (cell_next hq (HBX.out 9 _ rfl))
          go_region_held3 (fun w' => w'.cell? ⟨w0.heap.size, 0, none⟩ = some (.int .i64 s.id) ∧ w'.cell? ⟨w0.heap.size, 1, none⟩ = some (.int .i64 s.kind) ∧ w'.cell? ⟨w0.heap.size, 2, none⟩ = some (.slice la s.labels.length lc) ∧ w'.cell? ⟨w0.heap.size, 3, none⟩ = some (.string s.nm) ∧ w'.cell? ⟨w0.heap.size, 4, none⟩ = some (.string s.proc) ∧ w'.cell? ⟨w0.heap.size, 5, none⟩ = some (.int .i64 s.x.op) ∧ w'.cell? ⟨w0.heap.size, 6, none⟩ = some (.int .i64 s.x.n) ∧ w'.cell? ⟨w0.heap.size, 7, none⟩ = some (.string s.x.nm) ∧ w'.cell? ⟨w0.heap.size, 8, none⟩ = some (.slice ka s.x.ks.length kc) ∧ w'.cell? ⟨w0.heap.size, 9, none⟩ = some (.bool s.has))
            (first
              | with_reducible exact ⟨K0.out, K1.out, K2.out, K3.out, K4.out, K5.out, K6.out, K7.out, K8.out, K9.out⟩
              | with_reducible exact ⟨KD0.out, KD1.out, KD2.out, KD3.out, KD4.out, KD5.out, KD6.out, KD7.out, KD8.out, KD9.out⟩
              | with_reducible exact ⟨KB0.out, KB1.out, KB2.out, KB3.out, KB4.out, KB5.out, KB6.out, KB7.out, KB8.out, KB9.out⟩
              | with_reducible exact ⟨KC0.out, KC1.out, KC2.out, KC3.out, KC4.out, KC5.out, KC6.out, KC7.out, KC8.out, KC9.out⟩
              | with_reducible exact ⟨pfar13 hne1 KC0.out, pfar13 hne1 KC1.out, pfar13 hne1 KC2.out, pfar13 hne1 KC3.out, pfar13 hne1 KC4.out, pfar13 hne1 KC5.out, pfar13 hne1 KC6.out, pfar13 hne1 KC7.out, pfar13 hne1 KC8.out, pfar13 hne1 KC9.out⟩
              | with_reducible exact ⟨pfar13 hne2 KC0.out, pfar13 hne2 KC1.out, pfar13 hne2 KC2.out, pfar13 hne2 KC3.out, pfar13 hne2 KC4.out, pfar13 hne2 KC5.out, pfar13 hne2 KC6.out, pfar13 hne2 KC7.out, pfar13 hne2 KC8.out, pfar13 hne2 KC9.out⟩
              | with_reducible exact ⟨KE0.out, KE1.out, KE2.out, KE3.out, KE4.out, KE5.out, KE6.out, KE7.out, KE8.out, KE9.out⟩
              | with_reducible exact ⟨KF0.out, KF1.out, KF2.out, KF3.out, KF4.out, KF5.out, KF6.out, KF7.out, KF8.out, KF9.out⟩
              | with_reducible exact ⟨KG0.out, KG1.out, KG2.out, KG3.out, KG4.out, KG5.out, KG6.out, KG7.out, KG8.out, KG9.out⟩)
            (first
              | (go_at_call 95
                 refine (other_any _ a b _).mono ?_
                 rintro e w' ⟨rfl, rfl⟩
                 first | rw [hNM.out] | rw [hPR.out])
              | (go_at_call 46
                 refine (swapTexts_any s.labels _ a b _ (StrsAt.next (StrC.to HH1.out.lab) (by first | with_reducible exact hq | with_reducible exact hqA)) hlab HSA.out HSB.out).mono ?_
                 rw [hLB.out]
                 rintro e w2 ⟨lv2, rfl, hlv2, hb2⟩
                 obtain ⟨la2, lc2, rfl, -, -⟩ := hlv2.form
                 have HLV2 := Lib.hid hlv2
                 have hs2 : w1.heap.size ≤ w2.heap.size := by { have h := hb2.size; simp at h; omega }
                 first
                   | ((with_reducible have hY := HYA.out.next hb2)
                      have hYF : Free w2 w1.heap.size := Free.next HYFA.out (by simp) hb2)
                   | (with_reducible have hcheck := below_then hb2 hq)
                 have hq2 := below_then hb2 (by first | with_reducible exact hq | with_reducible exact hqA)
                 have HYB := Lib.hid (box_new w2 #[.int .i64 0, .int .i64 0, .slice none 0 0, .string ⟨#[]⟩, .string ⟨#[]⟩, .int .i64 0, .int .i64 0, .string ⟨#[]⟩, .slice none 0 0, .bool false, .slice none 0 0, .slice none 0 0, .slice none 0 0] 41)
                 have hq2A := hq2.alloc hs2 (.cells #[.int .i64 0, .int .i64 0, .slice none 0 0, .string ⟨#[]⟩, .string ⟨#[]⟩, .int .i64 0, .int .i64 0, .string ⟨#[]⟩, .slice none 0 0, .bool false, .slice none 0 0, .slice none 0 0, .slice none 0 0] 41)
                 have KE0 := Lib.hid (cell_next hq2A (HBX.out 0 _ rfl))
                 have KE1 := Lib.hid (cell_next hq2A (HBX.out 1 _ rfl))
                 have KE2 := Lib.hid (cell_next hq2A (HBX.out 2 _ rfl))
                 have KE3 := Lib.hid (cell_next hq2A (HBX.out 3 _ rfl))
                 have KE4 := Lib.hid (cell_next hq2A (HBX.out 4 _ rfl))
                 have KE5 := Lib.hid (cell_next hq2A (HBX.out 5 _ rfl))
                 have KE6 := Lib.hid (cell_next hq2A (HBX.out 6 _ rfl))
                 have KE7 := Lib.hid (cell_next hq2A (HBX.out 7 _ rfl))
                 have KE8 := Lib.hid (cell_next hq2A (HBX.out 8 _ rfl))
                 have KE9 := Lib.hid (cell_next hq2A (HBX.out 9 _ rfl))
                 have hne2 : w2.heap.size ≠ w0.heap.size := by omega
                 have KB0 := Lib.hid (cell_next hq2 (HBX.out 0 _ rfl))
                 have KB1 := Lib.hid (cell_next hq2 (HBX.out 1 _ rfl))
                 have KB2 := Lib.hid (cell_next hq2 (HBX.out 2 _ rfl))
                 have KB3 := Lib.hid (cell_next hq2 (HBX.out 3 _ rfl))
                 have KB4 := Lib.hid (cell_next hq2 (HBX.out 4 _ rfl))
                 have KB5 := Lib.hid (cell_next hq2 (HBX.out 5 _ rfl))
                 have KB6 := Lib.hid (cell_next hq2 (HBX.out 6 _ rfl))
                 have KB7 := Lib.hid (cell_next hq2 (HBX.out 7 _ rfl))
                 have KB8 := Lib.hid (cell_next hq2 (HBX.out 8 _ rfl))
                 have KB9 := Lib.hid (cell_next hq2 (HBX.out 9 _ rfl)))
              | (go_at_call 128
                 refine (swapExpr_any a b HSA.out HSB.out d s.x _ _ HOK.out ((HH1.out.kid.to).next (by first | with_reducible exact hq2 | with_reducible exact hq2A)) HLIM.out).mono ?_
                 rw [hX.out]
                 rintro e w3 ⟨kv3, rfl, hok3, hkv3, hb3⟩
                 obtain ⟨ka3, kc3, rfl, -, -⟩ := hkv3.form
                 unfold exV
                 have HKV3 := Lib.hid hkv3
                 have HOK3 := Lib.hid hok3
                 have hs3 : w2.heap.size ≤ w3.heap.size := by { have h := hb3.size; first | exact h | (simp at h; omega) }
                 have hq3 := below_then hb3 (by first | with_reducible exact hq2 | with_reducible exact hq2A)
                 have KC0 := Lib.hid (cell_next hq3 (HBX.out 0 _ rfl))
                 have KC1 := Lib.hid (cell_next hq3 (HBX.out 1 _ rfl))
                 have KC2 := Lib.hid (cell_next hq3 (HBX.out 2 _ rfl))
                 have KC3 := Lib.hid (cell_next hq3 (HBX.out 3 _ rfl))
                 have KC4 := Lib.hid (cell_next hq3 (HBX.out 4 _ rfl))
                 have KC5 := Lib.hid (cell_next hq3 (HBX.out 5 _ rfl))
                 have KC6 := Lib.hid (cell_next hq3 (HBX.out 6 _ rfl))
                 have KC7 := Lib.hid (cell_next hq3 (HBX.out 7 _ rfl))
                 have KC8 := Lib.hid (cell_next hq3 (HBX.out 8 _ rfl))
                 have KC9 := Lib.hid (cell_next hq3 (HBX.out 9 _ rfl))
                 have KF0 := Lib.hid (cell_next (boxed w3 (.cells #[.int .i64 0, .int .i64 0, .slice none 0 0, .string ⟨#[]⟩, .string ⟨#[]⟩, .int .i64 0, .int .i64 0, .string ⟨#[]⟩, .slice none 0 0, .bool false, .slice none 0 0, .slice none 0 0, .slice none 0 0] 41)) KC0.out)
                 have KG0 := Lib.hid (cell_next (boxed w3 (.cells #[.int .i64 s.id, .int .i64 s.kind, .slice la2 LB.length lc2, .string NM, .string PR, .int .i64 X.op, .int .i64 X.n, .string X.nm, .slice ka3 X.ks.length kc3, .bool s.has, .slice none 0 0, .slice none 0 0, .slice none 0 0] 41)) KC0.out)
                 have KF1 := Lib.hid (cell_next (boxed w3 (.cells #[.int .i64 0, .int .i64 0, .slice none 0 0, .string ⟨#[]⟩, .string ⟨#[]⟩, .int .i64 0, .int .i64 0, .string ⟨#[]⟩, .slice none 0 0, .bool false, .slice none 0 0, .slice none 0 0, .slice none 0 0] 41)) KC1.out)
                 have KG1 := Lib.hid (cell_next (boxed w3 (.cells #[.int .i64 s.id, .int .i64 s.kind, .slice la2 LB.length lc2, .string NM, .string PR, .int .i64 X.op, .int .i64 X.n, .string X.nm, .slice ka3 X.ks.length kc3, .bool s.has, .slice none 0 0, .slice none 0 0, .slice none 0 0] 41)) KC1.out)
                 have KF2 := Lib.hid (cell_next (boxed w3 (.cells #[.int .i64 0, .int .i64 0, .slice none 0 0, .string ⟨#[]⟩, .string ⟨#[]⟩, .int .i64 0, .int .i64 0, .string ⟨#[]⟩, .slice none 0 0, .bool false, .slice none 0 0, .slice none 0 0, .slice none 0 0] 41)) KC2.out)
                 have KG2 := Lib.hid (cell_next (boxed w3 (.cells #[.int .i64 s.id, .int .i64 s.kind, .slice la2 LB.length lc2, .string NM, .string PR, .int .i64 X.op, .int .i64 X.n, .string X.nm, .slice ka3 X.ks.length kc3, .bool s.has, .slice none 0 0, .slice none 0 0, .slice none 0 0] 41)) KC2.out)
                 have KF3 := Lib.hid (cell_next (boxed w3 (.cells #[.int .i64 0, .int .i64 0, .slice none 0 0, .string ⟨#[]⟩, .string ⟨#[]⟩, .int .i64 0, .int .i64 0, .string ⟨#[]⟩, .slice none 0 0, .bool false, .slice none 0 0, .slice none 0 0, .slice none 0 0] 41)) KC3.out)
                 have KG3 := Lib.hid (cell_next (boxed w3 (.cells #[.int .i64 s.id, .int .i64 s.kind, .slice la2 LB.length lc2, .string NM, .string PR, .int .i64 X.op, .int .i64 X.n, .string X.nm, .slice ka3 X.ks.length kc3, .bool s.has, .slice none 0 0, .slice none 0 0, .slice none 0 0] 41)) KC3.out)
                 have KF4 := Lib.hid (cell_next (boxed w3 (.cells #[.int .i64 0, .int .i64 0, .slice none 0 0, .string ⟨#[]⟩, .string ⟨#[]⟩, .int .i64 0, .int .i64 0, .string ⟨#[]⟩, .slice none 0 0, .bool false, .slice none 0 0, .slice none 0 0, .slice none 0 0] 41)) KC4.out)
                 have KG4 := Lib.hid (cell_next (boxed w3 (.cells #[.int .i64 s.id, .int .i64 s.kind, .slice la2 LB.length lc2, .string NM, .string PR, .int .i64 X.op, .int .i64 X.n, .string X.nm, .slice ka3 X.ks.length kc3, .bool s.has, .slice none 0 0, .slice none 0 0, .slice none 0 0] 41)) KC4.out)
                 have KF5 := Lib.hid (cell_next (boxed w3 (.cells #[.int .i64 0, .int .i64 0, .slice none 0 0, .string ⟨#[]⟩, .string ⟨#[]⟩, .int .i64 0, .int .i64 0, .string ⟨#[]⟩, .slice none 0 0, .bool false, .slice none 0 0, .slice none 0 0, .slice none 0 0] 41)) KC5.out)
                 have KG5 := Lib.hid (cell_next (boxed w3 (.cells #[.int .i64 s.id, .int .i64 s.kind, .slice la2 LB.length lc2, .string NM, .string PR, .int .i64 X.op, .int .i64 X.n, .string X.nm, .slice ka3 X.ks.length kc3, .bool s.has, .slice none 0 0, .slice none 0 0, .slice none 0 0] 41)) KC5.out)
                 have KF6 := Lib.hid (cell_next (boxed w3 (.cells #[.int .i64 0, .int .i64 0, .slice none 0 0, .string ⟨#[]⟩, .string ⟨#[]⟩, .int .i64 0, .int .i64 0, .string ⟨#[]⟩, .slice none 0 0, .bool false, .slice none 0 0, .slice none 0 0, .slice none 0 0] 41)) KC6.out)
                 have KG6 := Lib.hid (cell_next (boxed w3 (.cells #[.int .i64 s.id, .int .i64 s.kind, .slice la2 LB.length lc2, .string NM, .string PR, .int .i64 X.op, .int .i64 X.n, .string X.nm, .slice ka3 X.ks.length kc3, .bool s.has, .slice none 0 0, .slice none 0 0, .slice none 0 0] 41)) KC6.out)
                 have KF7 := Lib.hid (cell_next (boxed w3 (.cells #[.int .i64 0, .int .i64 0, .slice none 0 0, .string ⟨#[]⟩, .string ⟨#[]⟩, .int .i64 0, .int .i64 0, .string ⟨#[]⟩, .slice none 0 0, .bool false, .slice none 0 0, .slice none 0 0, .slice none 0 0] 41)) KC7.out)
                 have KG7 := Lib.hid (cell_next (boxed w3 (.cells #[.int .i64 s.id, .int .i64 s.kind, .slice la2 LB.length lc2, .string NM, .string PR, .int .i64 X.op, .int .i64 X.n, .string X.nm, .slice ka3 X.ks.length kc3, .bool s.has, .slice none 0 0, .slice none 0 0, .slice none 0 0] 41)) KC7.out)
                 have KF8 := Lib.hid (cell_next (boxed w3 (.cells #[.int .i64 0, .int .i64 0, .slice none 0 0, .string ⟨#[]⟩, .string ⟨#[]⟩, .int .i64 0, .int .i64 0, .string ⟨#[]⟩, .slice none 0 0, .bool false, .slice none 0 0, .slice none 0 0, .slice none 0 0] 41)) KC8.out)
                 have KG8 := Lib.hid (cell_next (boxed w3 (.cells #[.int .i64 s.id, .int .i64 s.kind, .slice la2 LB.length lc2, .string NM, .string PR, .int .i64 X.op, .int .i64 X.n, .string X.nm, .slice ka3 X.ks.length kc3, .bool s.has, .slice none 0 0, .slice none 0 0, .slice none 0 0] 41)) KC8.out)
                 have KF9 := Lib.hid (cell_next (boxed w3 (.cells #[.int .i64 0, .int .i64 0, .slice none 0 0, .string ⟨#[]⟩, .string ⟨#[]⟩, .int .i64 0, .int .i64 0, .string ⟨#[]⟩, .slice none 0 0, .bool false, .slice none 0 0, .slice none 0 0, .slice none 0 0] 41)) KC9.out)
                 have KG9 := Lib.hid (cell_next (boxed w3 (.cells #[.int .i64 s.id, .int .i64 s.kind, .slice la2 LB.length lc2, .string NM, .string PR, .int .i64 X.op, .int .i64 X.n, .string X.nm, .slice ka3 X.ks.length kc3, .bool s.has, .slice none 0 0, .slice none 0 0, .slice none 0 0] 41)) KC9.out)
                 first
                   | ((with_reducible have hY3 := hY.next hb3)
                      have hYF3 := hYF.next (cell_lt (hY 0 _ rfl)) hb3
                      have y0 := hY3 0 _ rfl
                      have f0 := hYF3 0
                      have y1 := hY3 1 _ rfl
                      have f1 := hYF3 1
                      have y2 := hY3 2 _ rfl
                      have f2 := hYF3 2
                      have y3 := hY3 3 _ rfl
                      have f3 := hYF3 3
                      have y4 := hY3 4 _ rfl
                      have f4 := hYF3 4
                      have y5 := hY3 5 _ rfl
                      have f5 := hYF3 5
                      have y6 := hY3 6 _ rfl
                      have f6 := hYF3 6
                      have y7 := hY3 7 _ rfl
                      have f7 := hYF3 7
                      have y8 := hY3 8 _ rfl
                      have f8 := hYF3 8
                      have y9 := hY3 9 _ rfl
                      have f9 := hYF3 9
                      have y10 := hY3 10 _ rfl
                      have f10 := hYF3 10
                      have y11 := hY3 11 _ rfl
                      have f11 := hYF3 11
                      have y12 := hY3 12 _ rfl
                      have f12 := hYF3 12)
                   | ((with_reducible have hY3 := HYB.out.next hb3)
                      have hYF3 : Free w3 w2.heap.size := Free.next (fun j => by simp [go_sem]) (by simp) hb3
                      have y0 := hY3 0 _ rfl
                      have f0 := hYF3 0
                      have y1 := hY3 1 _ rfl
                      have f1 := hYF3 1
                      have y2 := hY3 2 _ rfl
                      have f2 := hYF3 2
                      have y3 := hY3 3 _ rfl
                      have f3 := hYF3 3
                      have y4 := hY3 4 _ rfl
                      have f4 := hYF3 4
                      have y5 := hY3 5 _ rfl
                      have f5 := hYF3 5
                      have y6 := hY3 6 _ rfl
                      have f6 := hYF3 6
                      have y7 := hY3 7 _ rfl
                      have f7 := hYF3 7
                      have y8 := hY3 8 _ rfl
                      have f8 := hYF3 8
                      have y9 := hY3 9 _ rfl
                      have f9 := hYF3 9
                      have y10 := hY3 10 _ rfl
                      have f10 := hYF3 10
                      have y11 := hY3 11 _ rfl
                      have f11 := hYF3 11
                      have y12 := hY3 12 _ rfl
                      have f12 := hYF3 12)
                   | skip))
          all_goals
            go_wp2_with fail
            go_meet
            first
              | (refine ⟨w3.heap.size, la2, ka3, lc2, kc3, (by with_reducible rfl), ?_, ?_, ?_, ?_, ?_, ?_, ?_, HOK3.out⟩
                 · omega
                 · simp
                 · exact hq3.alloc (by omega) _
                 · exact box_new w3 #[.int .i64 s.id, .int .i64 s.kind, .slice la2 LB.length lc2, .string NM, .string PR, .int .i64 X.op, .int .i64 X.n, .string X.nm, .slice ka3 X.ks.length kc3, .bool s.has, .slice none 0 0, .slice none 0 0, .slice none 0 0] 41
                 · exact fun j => by simp [go_sem]
                 · refine StrC.mono (le_ne (below_then (boxed w3 _) hb3) ?_ ?_) HLV2.out
                   · first | omega | (simp; omega) | simp
                   · right; omega
                 · refine ExC.mono (le_ne (boxed w3 _) ?_ ?_) HKV3.out
                   · first | omega | (simp; omega) | simp
                   · right; omega)
              | (refine ⟨w2.heap.size, la2, ka3, lc2, kc3, (by with_reducible rfl), ?_, ?_, ?_, ?_, ?_, ?_, ?_, HOK3.out⟩
                 · omega
                 · rw [size13]; exact cell_lt (hY3 0 _ rfl)
                 · exact below13 hq3 hs2
                 · exact pbox13 hY3
                 · exact free13 hYF3
                 · refine StrC.mono (Cs.le_trans (le_ne (below_then hb3 (boxed w2 _)) ?_ ?_) (only13 ?_)) HLV2.out
                   · first | omega | (simp; omega) | simp
                   · right; omega
                   · simp
                 · refine ExC.mono (Cs.le_trans (le_ne (Below.refl _ _) ?_ ?_) (only13 ?_)) HKV3.out
                   · first | omega | (simp; omega) | simp
                   · left; simp
                   · simp)
              | (refine ⟨w1.heap.size, la2, ka3, lc2, kc3, (by with_reducible rfl), ?_, ?_, ?_, ?_, ?_, ?_, ?_, HOK3.out⟩
                 · omega
                 · rw [size13]; exact cell_lt (hY3 0 _ rfl)
                 · exact below13 hq3 (Nat.le_refl _)
                 · exact pbox13 hY3
                 · exact free13 hYF3
                 · refine StrC.mono (Cs.le_trans (le_ne hb3 ?_ ?_) (only13 ?_)) HLV2.out
                   · first | omega | (simp; omega) | simp
                   · left; simp
                   · simp
                 · refine ExC.mono (Cs.le_trans (le_ne (Below.refl _ _) ?_ ?_) (only13 ?_)) HKV3.out
                   · first | omega | (simp; omega) | simp
                   · left; exact cell_lt (hY 0 _ rfl)
                   · simp)
        case rest =>
          obtain ⟨Y, la2, ka2, lc2, kc2, rfl, hY0, hY1, hbc, hT, hTF, hlv, hkv, hokX⟩ := hcut
          have HBC := Lib.hid hbc
          have HT := Lib.hid hT
          have HTF := Lib.hid hTF
          have HLV := Lib.hid hlv
          have HKV := Lib.hid hkv
          have HOKX := Lib.hid hokX
          have HXC := Lib.hid (HBX.out.next hbc)
          have HXF := Lib.hid (HFX.out.next hx01 hbc)
          have hszc := hbc.size
          have s10 := HXC.out 10 _ rfl
          have hargs : s.args.length ≤ 20000 := by have := HWS.out; rw [FewS_eq] at this; exact this.2.1
          clear hbc hT hTF hlv hkv hokX hlab HLIM hq
          go_wp2_with fail
          go_loopw [49] (fun i wr => ∃ (q : Nat) (v5 : Value) (rows5 : List (List Value)), q ≤ s.args.length ∧ i = .int .i64 q ∧ Below w1.heap.size w1 wr ∧ wc.heap.size ≤ wr.heap.size ∧ Cs.le (only (fun g => g < wc.heap.size ∧ g ≠ Y) (cw wc)) (cw wr) ∧
            Grow (ArQ d) 49 6 wc.heap.size Y w0.heap.size 13 [.int .i64 s.id, .int .i64 s.kind, .slice la2 LB.length lc2, .string NM, .string PR, .int .i64 X.op, .int .i64 X.n, .string X.nm, .slice ka2 X.ks.length kc2, .bool s.has, .slice none 0 0, .slice none 0 0, .slice none 0 0] 10 ((s.args.take q).map (swA a b)) wr v5 rows5) (fun i _ => (s.args.length - intOf i).toNat)
          case atStart =>
            exact ⟨0, .slice none 0 0, [], by omega, rfl, HBC.out, Nat.le_refl _, only_out, by omega, by omega, by omega, by omega, HT.out, HTF.out, fun j hj => ⟨_, HXC.out j _ (List.getElem?_eq_getElem (by simpa [stCells] using hj))⟩, HXF.out, Acc.nil _ _ _ _ _, Nat.le_refl _⟩
          case round =>
            obtain ⟨q, v5, rows5, hq, rfl, hbel5, hz5, hkeep, hG⟩ := hrel
            have HBEL5 := Lib.hid hbel5
            have HKEEP := Lib.hid hkeep
            have HG := Lib.hid hG
            obtain ⟨va5, vc5, hv5⟩ := ownsForm hG.acc.own
            have hqa : ((s.args.take q).map (swA a b)).length = q := by rw [List.length_map, List.length_take]; omega
            rw [hqa] at hv5
            subst hv5
            have HQA := Lib.hid hqa
            obtain ⟨w5, hw5⟩ : ∃ w5 : World, w5 = wr := ⟨_, rfl⟩
            subst hw5
            clear hqa s10
            by_cases hqt : q < s.args.length
            · have hqt' : (q : Int) < (s.args.length : Int) := by omega
              have h0q : (0 : Int) ≤ (q : Int) := by omega
              have hne2 : s.args ≠ [] := by intro h; rw [h] at hqt; simp at hqt
              obtain ⟨g2, off2, cap2, hv2, _, hcells2⟩ := SlAt.cells (SlAt.imp HH1.out.arg fun _ _ _ _ => ArAt.mono (cw_next hbel5)) hne2
              simp only [Value.slice.injEq] at hv2
              obtain ⟨rfl, -, rfl⟩ := hv2
              obtain ⟨r0, r1, r2, kx, r3, r4, r5, r6, hokx, hxx⟩ := hcells2 q hqt
              obtain ⟨ar, har⟩ : ∃ ar, Hid (s.args[q] = ar) := ⟨_, Lib.hid rfl⟩
              have hwa : lim d s.args[q].x.ks := by have := HWS.out; rw [FewS_eq] at this; exact this.2.2.2.1 _ (List.getElem_mem hqt) d
              rw [har.out] at r0 r1 r2 r3 r4 r5 hokx hxx hwa
              obtain ⟨xa, xc, rfl, -, -⟩ := hxx.form
              have d0 : w5.cell? ⟨g2, off2 + q * 6, none⟩ = _ := r0
              have d1 : w5.cell? ⟨g2, off2 + q * 6 + 1, none⟩ = _ := r1
              have d2 : w5.cell? ⟨g2, off2 + q * 6 + 2, none⟩ = _ := r3
              have d3 : w5.cell? ⟨g2, off2 + q * 6 + 3, none⟩ = _ := r4
              have d4 : w5.cell? ⟨g2, off2 + q * 6 + 4, none⟩ = _ := r5
              have d5 : w5.cell? ⟨g2, off2 + q * 6 + 5, none⟩ = _ := r6
              have HXX := Lib.hid hxx
              have HOKX1 := Lib.hid hokx
              have HNMX := Lib.hid r2
              have HLX := Lib.hid hwa
              clear hcells2 r0 r1 r2 r3 r4 r5 r6 hxx hokx hne2 hwa hbel5 hkeep hG
              go_upto_region 9 with fail
              refine cut_world (fun wx => Below w5.heap.size w5 wx ∧ w5.heap.size < wx.heap.size ∧ BoxAt wx w5.heap.size [.bool ar.ref, .string ar.nm, .int .i64 ar.x.op, .int .i64 ar.x.n, .string ar.x.nm, .slice xa ar.x.ks.length xc]) ⟨boxed _ _, by simp, box_new w5 #[.bool ar.ref, .string ar.nm, .int .i64 ar.x.op, .int .i64 ar.x.n, .string ar.x.nm, .slice xa ar.x.ks.length xc] 49⟩ ?_
              rintro w6 ⟨hb6, hz6, hA⟩
              clear d0 d1 d2 d3 d4 d5
              have HB6 := Lib.hid hb6
              have HA := Lib.hid hA
              have HXX6 := Lib.hid (ExC.to (ExC.mono (cw_next hb6) HXX.out))
              have Y10 := Lib.hid (cell_next hb6 (HG.out.y 10 _ rfl))
              have FY10 := Lib.hid (frozen_next hb6 (HG.out.y 10 _ rfl) (HG.out.fy 10))
              have hown6 := ownsBelow HG.out.acc.own hb6
              rw [HQA.out] at hown6
              have HOWN6 := Lib.hid hown6
              have hq6 : Below w6.heap.size w6 w6.drew := (Below.refl _ _).drew
              obtain ⟨AN, hAN⟩ : ∃ L, Hid (other a b ar.nm = L) := ⟨_, Lib.hid rfl⟩
              obtain ⟨AX, hAX⟩ : ∃ L, Hid (mapE (other a b) ar.x = L) := ⟨_, Lib.hid rfl⟩
              clear hb6 hA hown6
              refine wp_region_z (fun w' => w'.cell? ⟨Y, 10, none⟩ = some (.slice va5 q vc5) ∧ w'.cell? ⟨w5.heap.size, 0, none⟩ = some (.bool ar.ref) ∧ w'.cell? ⟨w5.heap.size, 1, none⟩ = some (.string ar.nm) ∧ w'.cell? ⟨w5.heap.size, 2, none⟩ = some (.int .i64 ar.x.op) ∧ w'.cell? ⟨w5.heap.size, 3, none⟩ = some (.int .i64 ar.x.n) ∧ w'.cell? ⟨w5.heap.size, 4, none⟩ = some (.string ar.x.nm) ∧ w'.cell? ⟨w5.heap.size, 5, none⟩ = some (.slice xa ar.x.ks.length xc)) 18 (by kernel_rfl) ⟨cell_next hq6 Y10.out, cell_next hq6 (HA.out 0 _ rfl), cell_next hq6 (HA.out 1 _ rfl), cell_next hq6 (HA.out 2 _ rfl), cell_next hq6 (HA.out 3 _ rfl), cell_next hq6 (HA.out 4 _ rfl), cell_next hq6 (HA.out 5 _ rfl)⟩ (fun hS => ?_)
              refine' wpAnyZ_take (i := 0) (oi := _) (v := _) rfl (by kernel_rfl) (by kernel_rfl) (by kernel_rfl) (by kernel_rfl) (fun _ _ _ h => h) (Or.inl ⟨by rfl, ?hy0⟩) hS ?rest0
              case hy0 => (intro w hSw; (try dsimp only at hSw); go_simp; (try with_reducible rfl))
              try simp only [Act.put, List.setIfInBounds_toArray, List.set_cons_zero, List.set_cons_succ]
              refine' wpAnyZ_take (i := 1) (oi := _) (v := _) rfl (by kernel_rfl) (by kernel_rfl) (by kernel_rfl) (by kernel_rfl) (fun _ _ _ h => h) (Or.inl ⟨by rfl, ?hy1⟩) hS ?rest1
              case hy1 => (intro w hSw; (try dsimp only at hSw); go_simp; (try with_reducible rfl))
              try simp only [Act.put, List.setIfInBounds_toArray, List.set_cons_zero, List.set_cons_succ]
              refine' wpAnyZ_take (i := 2) (oi := _) (v := _) rfl (by kernel_rfl) (by kernel_rfl) (by kernel_rfl) (by kernel_rfl) (fun _ _ _ h => h) (Or.inl ⟨by rfl, ?hy2⟩) hS ?rest2
              case hy2 => (intro w hSw; (try dsimp only at hSw); go_simp; (try with_reducible rfl))
              try simp only [Act.put, List.setIfInBounds_toArray, List.set_cons_zero, List.set_cons_succ]
              refine' wpAnyZ_take (i := 3) (oi := _) (v := _) rfl (by kernel_rfl) (by kernel_rfl) (by kernel_rfl) (by kernel_rfl) (fun _ _ _ h => h) (Or.inl ⟨by rfl, ?hy3⟩) hS ?rest3
              case hy3 => (intro w hSw; (try dsimp only at hSw); go_simp; (try with_reducible rfl))
              try simp only [Act.put, List.setIfInBounds_toArray, List.set_cons_zero, List.set_cons_succ]
              refine' wpAnyZ_take (i := 4) (oi := _) (v := _) rfl (by kernel_rfl) (by kernel_rfl) (by kernel_rfl) (by kernel_rfl) (fun _ _ _ h => h) (Or.inl ⟨by rfl, ?hy4⟩) hS ?rest4
              case hy4 => (intro w hSw; (try dsimp only at hSw); go_simp; (try with_reducible rfl))
              try simp only [Act.put, List.setIfInBounds_toArray, List.set_cons_zero, List.set_cons_succ]
              refine' wpAnyZ_take (i := 5) (oi := _) (v := _) rfl (by kernel_rfl) (by kernel_rfl) (by kernel_rfl) (by kernel_rfl) (fun _ _ _ h => h) (Or.inl ⟨by rfl, ?hy5⟩) hS ?rest5
              case hy5 => (intro w hSw; (try dsimp only at hSw); go_simp; (try with_reducible rfl))
              try simp only [Act.put, List.setIfInBounds_toArray, List.set_cons_zero, List.set_cons_succ]
              refine' wpAnyZ_take (i := 6) (oi := _) (v := _) rfl (by kernel_rfl) (by kernel_rfl) (by kernel_rfl) (by kernel_rfl) (fun _ _ _ h => h) (Or.inl ⟨by rfl, ?hy6⟩) hS ?rest6
              case hy6 => (intro w hSw; (try dsimp only at hSw); go_simp; (try with_reducible rfl))
              try simp only [Act.put, List.setIfInBounds_toArray, List.set_cons_zero, List.set_cons_succ]
              refine' wpAnyZ_take (i := 7) (oi := _) (v := _) rfl (by kernel_rfl) (by kernel_rfl) (by kernel_rfl) (by kernel_rfl) (fun _ _ _ h => h) (Or.inl ⟨by rfl, ?hy7⟩) hS ?rest7
              case hy7 => (intro w hSw; (try dsimp only at hSw); go_simp; (try with_reducible rfl))
              try simp only [Act.put, List.setIfInBounds_toArray, List.set_cons_zero, List.set_cons_succ]
              refine' wpAnyZ_take (i := 9) (oi := _) (v := _) rfl (by kernel_rfl) (by kernel_rfl) (by kernel_rfl) (by kernel_rfl) (fun _ _ _ h => h) (Or.inl ⟨by rfl, ?hy9⟩) hS ?rest9
              case hy9 => (intro w hSw; (try dsimp only at hSw); go_simp; (try with_reducible rfl))
              try simp only [Act.put, List.setIfInBounds_toArray, List.set_cons_zero, List.set_cons_succ]
              refine' wpAnyZ_take (i := 10) (oi := _) (v := _) rfl (by kernel_rfl) (by kernel_rfl) (by kernel_rfl) (by kernel_rfl) (fun _ _ _ h => h) (Or.inl ⟨by rfl, ?hy10⟩) hS ?rest10
              case hy10 => (intro w hSw; (try dsimp only at hSw); go_simp; (try with_reducible rfl))
              try simp only [Act.put, List.setIfInBounds_toArray, List.set_cons_zero, List.set_cons_succ]
              refine' wpAnyZ_take (i := 11) (oi := _) (v := _) rfl (by kernel_rfl) (by kernel_rfl) (by kernel_rfl) (by kernel_rfl) (fun _ _ _ h => h) (Or.inl ⟨by rfl, ?hy11⟩) hS ?rest11
              case hy11 => (intro w hSw; (try dsimp only at hSw); go_simp; (try with_reducible rfl))
              try simp only [Act.put, List.setIfInBounds_toArray, List.set_cons_zero, List.set_cons_succ]
              refine' wpAnyZ_take (i := 12) (oi := _) (v := _) rfl (by kernel_rfl) (by kernel_rfl) (by kernel_rfl) (by kernel_rfl) (fun _ _ _ h => h) (Or.inl ⟨by rfl, ?hy12⟩) hS ?rest12
              case hy12 => (intro w hSw; (try dsimp only at hSw); go_simp; (try with_reducible rfl))
              try simp only [Act.put, List.setIfInBounds_toArray, List.set_cons_zero, List.set_cons_succ]
              have L0 := Lib.hid (cell_next hq6 Y10.out)
              have L1 := Lib.hid (cell_next hq6 (HA.out 0 _ rfl))
              have L2 := Lib.hid (cell_next hq6 (HA.out 1 _ rfl))
              have L3 := Lib.hid (cell_next hq6 (HA.out 2 _ rfl))
              have L4 := Lib.hid (cell_next hq6 (HA.out 3 _ rfl))
              have L5 := Lib.hid (cell_next hq6 (HA.out 4 _ rfl))
              have L6 := Lib.hid (cell_next hq6 (HA.out 5 _ rfl))
              refine' wpAnyZ_step (i := 8) (o := _) rfl (by kernel_rfl) (fun K hK => ?_)
              go_simp
              go_at_call 95
              refine (other_any ar.nm a b _).mono ?_
              rintro e w' ⟨rfl, rfl⟩
              rw [hAN.out]
              refine hK _ _ (fun _ => ⟨L0.out, L1.out, L2.out, L3.out, L4.out, L5.out, L6.out⟩) ?_
              clear hK K
              try simp only [Act.put, List.setIfInBounds_toArray, List.set_cons_zero, List.set_cons_succ]
              refine' wpAnyZ_step (i := 13) (o := _) rfl (by kernel_rfl) (fun K hK => ?_)
              go_simp
              go_at_call 128
              refine (swapExpr_any a b HSA.out HSB.out d ar.x _ _ HOKX1.out (HXX6.out.next hq6) HLX.out).mono ?_
              rw [hAX.out]
              rintro e w7 ⟨kv7, rfl, hok7, hxk7, hb7⟩
              obtain ⟨ka7, kc7, rfl, -, -⟩ := hxk7.form
              unfold exV
              have HXK7 := Lib.hid hxk7
              have HOK7 := Lib.hid hok7
              have HB7 := Lib.hid (below_then hb7 hq6)
              have FY7 := Lib.hid (frozen_next HB7.out Y10.out FY10.out)
              have HOWN7 := Lib.hid (ownsBelow HOWN6.out HB7.out)
              replace L0 := Lib.hid (cell_next hb7 L0.out)
              replace L1 := Lib.hid (cell_next hb7 L1.out)
              replace L2 := Lib.hid (cell_next hb7 L2.out)
              replace L3 := Lib.hid (cell_next hb7 L3.out)
              replace L4 := Lib.hid (cell_next hb7 L4.out)
              replace L5 := Lib.hid (cell_next hb7 L5.out)
              replace L6 := Lib.hid (cell_next hb7 L6.out)
              have hbw := boxed w7 (.cells #[.bool ar.ref, .string AN, .int .i64 AX.op, .int .i64 AX.n, .string AX.nm, .slice ka7 AX.ks.length kc7] 49)
              have M0 := Lib.hid (cell_next hbw L0.out)
              have M1 := Lib.hid (cell_next hbw L1.out)
              have M2 := Lib.hid (cell_next hbw L2.out)
              have M3 := Lib.hid (cell_next hbw L3.out)
              have M4 := Lib.hid (cell_next hbw L4.out)
              have M5 := Lib.hid (cell_next hbw L5.out)
              have M6 := Lib.hid (cell_next hbw L6.out)
              have hs7 := HB7.out.size
              have hs6 := HB6.out.size
              have HB77 := Lib.hid hb7
              clear hxk7 hb7 hok7
              refine hK _ _ (fun _ => ⟨L0.out, L1.out, L2.out, L3.out, L4.out, L5.out, L6.out⟩) ?_
              clear hK K
              have hS : w7.cell? ⟨Y, 10, none⟩ = some (.slice va5 q vc5) ∧ w7.cell? ⟨w5.heap.size, 0, none⟩ = some (.bool ar.ref) ∧ w7.cell? ⟨w5.heap.size, 1, none⟩ = some (.string ar.nm) ∧ w7.cell? ⟨w5.heap.size, 2, none⟩ = some (.int .i64 ar.x.op) ∧ w7.cell? ⟨w5.heap.size, 3, none⟩ = some (.int .i64 ar.x.n) ∧ w7.cell? ⟨w5.heap.size, 4, none⟩ = some (.string ar.x.nm) ∧ w7.cell? ⟨w5.heap.size, 5, none⟩ = some (.slice xa ar.x.ks.length xc) := ⟨L0.out, L1.out, L2.out, L3.out, L4.out, L5.out, L6.out⟩
              try simp only [Act.put, List.setIfInBounds_toArray, List.set_cons_zero, List.set_cons_succ]
              refine' wpAnyZ_take (i := 14) (oi := _) (v := _) rfl (by kernel_rfl) (by kernel_rfl) (by kernel_rfl) (by kernel_rfl) (fun _ _ _ h => h) (Or.inl ⟨by rfl, ?hy14⟩) hS ?rest14
              case hy14 => (intro w hSw; (try dsimp only at hSw); go_simp; (try with_reducible rfl))
              try simp only [Act.put, List.setIfInBounds_toArray, List.set_cons_zero, List.set_cons_succ]
              refine' wpAnyZ_step (i := 15) (o := _) rfl (by kernel_rfl) (fun K hK => ?_)
              go_simp
              refine hK _ _ (fun _ => ⟨M0.out, M1.out, M2.out, M3.out, M4.out, M5.out, M6.out⟩) ?_
              clear hK K
              try simp only [Act.put, List.setIfInBounds_toArray, List.set_cons_zero, List.set_cons_succ]
              refine' wpAnyZ_step (i := 16) (o := _) rfl (by kernel_rfl) (fun K hK => ?_)
              refine step_append_lies _ (by rfl) (.tmp 54) (.tmp 68) _ (by rfl) wc.heap.size 49 i1 (.agg #[.bool false, .string ⟨#[]⟩, .int .i64 0, .int .i64 0, .string ⟨#[]⟩, .slice none 0 0]) 6 80 Try.underlying38 hi' hz0' hz1' hz2' rfl (by omega) (.slice va5 q vc5) q rows5.flatten (by rfl) (HOWN7.out.alloc _)
                ⟨w7.heap.size, 0, none⟩ 1 1 [.bool ar.ref, .string AN, .int .i64 AX.op, .int .i64 AX.n, .string AX.nm, .slice ka7 AX.ks.length kc7] (by rfl) (by rfl) (World.news_of_block (cs := #[.bool ar.ref, .string AN, .int .i64 AX.op, .int .i64 AX.n, .string AX.nm, .slice ka7 AX.ks.length kc7]) (t := 49) (fr := (0, 0)) (heap_alloc_new w7 _)) (by simp [Value.oneCell'])
                (by omega) (by unfold maxLen; omega) (by omega) (by simp; omega) (w7.heap.size + 1) (by simp) ?_
              intro g8 cap8 w8 hown8 hg8 hat8 hlt8
              have hYB : Y < wc.heap.size := hY1
              have q10 := (hg8.cell_far ⟨Y, 10, none⟩ (by simp; omega) (HG.out.own _ hYB)).trans M0.out
              have qf10 := (hg8.frozen_far ⟨Y, 10, none⟩ (by simp; omega) (HG.out.own _ hYB)).trans (frozen_next hbw L0.out FY7.out)
              have hn5 : some w5.heap.size ≠ (Value.slice va5 q vc5).ownBlock := fun e => by have h := (HG.out.acc.own.lt _ e.symm).2; omega
              have b0 := (hg8.cell_far ⟨w5.heap.size, 0, none⟩ (by simp; omega) hn5).trans M1.out
              have b1 := (hg8.cell_far ⟨w5.heap.size, 1, none⟩ (by simp; omega) hn5).trans M2.out
              have b2 := (hg8.cell_far ⟨w5.heap.size, 2, none⟩ (by simp; omega) hn5).trans M3.out
              have b3 := (hg8.cell_far ⟨w5.heap.size, 3, none⟩ (by simp; omega) hn5).trans M4.out
              have b4 := (hg8.cell_far ⟨w5.heap.size, 4, none⟩ (by simp; omega) hn5).trans M5.out
              have b5 := (hg8.cell_far ⟨w5.heap.size, 5, none⟩ (by simp; omega) hn5).trans M6.out
              refine hK _ _ (fun _ => ⟨q10, b0, b1, b2, b3, b4, b5⟩) ?_
              clear hK K
              try simp only [Act.put, List.setIfInBounds_toArray, List.set_cons_zero, List.set_cons_succ]
              refine' wpAnyZ_step (i := 17) (o := _) rfl (by kernel_rfl) (fun K hK => ?_)
              go_simp
              refine hK _ _ (fun _ => ⟨q10, b0, b1, b2, b3, b4, b5⟩) ?_
              clear hK K b0 b1 b2 b3 b4 b5
              try simp only [Act.put, List.setIfInBounds_toArray, List.set_cons_zero, List.set_cons_succ]
              refine' wpAnyZ_step (i := 18) (o := _) rfl (by kernel_rfl) (fun K hK => ?_)
              go_simp
              refine hK _ _ (fun h => absurd rfl h) ?_
              clear hK K
              try simp only [Act.put, List.setIfInBounds_toArray, List.set_cons_zero, List.set_cons_succ]
              refine wpAnyZ_done (by kernel_rfl) ?_ _
              go_wp2_with fail
              go_roundw
              case rel =>
                have hch : Below w5.heap.size w5 (w7.alloc (.cells #[.bool ar.ref, .string AN, .int .i64 AX.op, .int .i64 AX.n, .string AX.nm, .slice ka7 AX.ks.length kc7] 49)) := (HB6.out.trans (HB7.out.mono HB6.out.size)).trans (hbw.mono (Nat.le_trans HB6.out.size HB7.out.size))
                have hq9 : ArQ d (nwC w6.drew.heap.size w7) [.bool ar.ref, .string AN, .int .i64 AX.op, .int .i64 AX.n, .string AX.nm, .slice ka7 AX.ks.length kc7] (swA a b ar) := by
                  have e1 : (swA a b ar).nm = AN := hAN.out
                  have e2 : (swA a b ar).x = AX := hAX.out
                  have e3 : (swA a b ar).ref = ar.ref := rfl
                  refine ⟨.slice ka7 AX.ks.length kc7, ?_, ?_, ?_, ?_⟩
                  · rw [e1, e2, e3]
                  · rw [e1, ← hAN.out]; exact other_le HSA.out HSB.out HNMX.out
                  · rw [e2]; exact HOK7.out
                  · rw [e2]; exact HXK7.out
                refine ⟨q + 1, .slice (some ⟨g8, 0, none⟩) (q + 1) cap8, rows5 ++ [[.bool ar.ref, .string AN, .int .i64 AX.op, .int .i64 AX.n, .string AX.nm, .slice ka7 AX.ks.length kc7]], by omega, by go_num, ?_, ?_, ?_, ?_⟩
                · exact Grow.below (B := wc.heap.size) (Y := Y) (slot := 10) HBEL5.out hch hg8 (by omega) (by omega) HG.out.own
                · have := hg8.size
                  have := hch.size
                  simp only [World.size_setCell, World.size_alloc] at *
                  omega
                · refine Cs.le_trans (D := only (fun g => g < wc.heap.size ∧ g ≠ Y) (cw w5)) (fun g j u h => ⟨h.1, HKEEP.out g j u h⟩) (Cs.le_trans (grow_keep hch hg8 HG.out.own) only_out)
                · have hst8 := HG.out.step (v4 := .slice (some ⟨g8, 0, none⟩) (q + 1) cap8) (by simp) (ArQ.mono d) (HB6.out.trans (hq6.mono HB6.out.size)) HB77.out hbw hg8 (fun z hz => by have hzz : g8 = z := by { simpa [Value.ownBlock] using hz }; subst hzz; exact hat8.imp id fun h => by omega) rfl hq9 (by rw [HQA.out]; exact hown8)
                  rw [List.take_succ_eq_append_getElem hqt, List.map_append, har.out]
                  exact hst8
              case measure => simp [intOf]; omega
            · have hqt' : ¬ (q : Int) < (s.args.length : Int) := by omega
              have hqe : q = s.args.length := by omega
              subst hqe
              rw [List.take_length] at HG
              obtain ⟨AL, hAL⟩ : ∃ L, Hid (s.args.map (swA a b) = L) := ⟨_, Lib.hid rfl⟩
              rw [hAL.out] at HG
              have hal : s.args.length = AL.length := by rw [← hAL.out, List.length_map]
              have har5 := HG.out.acc.arC (by omega)
              have hY5 : BoxAt w5 Y [.int .i64 s.id, .int .i64 s.kind, .slice la2 LB.length lc2, .string NM, .string PR, .int .i64 X.op, .int .i64 X.n, .string X.nm, .slice ka2 X.ks.length kc2, .bool s.has, .slice va5 s.args.length vc5, .slice none 0 0, .slice none 0 0] := HG.out.y
              have hfy := HG.out.fy
              rw [hal] at har5 hY5
              obtain ⟨w2, hw2⟩ : ∃ w2 : World, w2 = w1 := ⟨_, rfl⟩
              have HB2 : Hid (Below w1.heap.size w1 w2) := Lib.hid (by rw [hw2]; exact Below.refl _ _)
              have HBX2 : Hid (BoxAt w2 w0.heap.size (stCells s (.slice ka s.x.ks.length kc) (.slice la s.labels.length lc) (.slice aa s.args.length ac) (.slice ta s.thn.length tc) (.slice ea s.els.length ec))) := Lib.hid (by rw [hw2]; exact HBX.out)
              have hold : Cs.le (only (fun g => w1.heap.size ≤ g ∧ g ≠ Y) (cw wc)) (only (fun g => w1.heap.size ≤ g ∧ g ≠ Y) (cw w5)) := fun g j u h => ⟨h.1, HKEEP.out g j u ⟨⟨cell_lt h.2, h.1.2⟩, h.2⟩⟩
              refine cut_world (fun wx => Below w1.heap.size w1 wx ∧ Y < wx.heap.size ∧ BoxAt wx Y [.int .i64 s.id, .int .i64 s.kind, .slice la2 LB.length lc2, .string NM, .string PR, .int .i64 X.op, .int .i64 X.n, .string X.nm, .slice ka2 X.ks.length kc2, .bool s.has, .slice va5 AL.length vc5, .slice none 0 0, .slice none 0 0] ∧ Free wx Y ∧ BoxAt wx w0.heap.size (stCells s (.slice ka s.x.ks.length kc) (.slice la s.labels.length lc) (.slice aa s.args.length ac) (.slice ta s.thn.length tc) (.slice ea s.els.length ec)) ∧ StrC (only (fun g => w1.heap.size ≤ g ∧ g ≠ Y) (cw wx)) (.slice la2 LB.length lc2) LB ∧ ExC (only (fun g => w1.heap.size ≤ g ∧ g ≠ Y) (cw wx)) d (.slice ka2 X.ks.length kc2) X.ks ∧ SlAt 6 (ArAt (only (fun g => w1.heap.size ≤ g ∧ g ≠ Y) (cw wx)) d) (.slice va5 AL.length vc5) AL) ⟨HBEL5.out, by omega, hY5, hfy, fun j u hu => HKEEP.out _ _ _ ⟨⟨by omega, by omega⟩, HXC.out j u hu⟩, StrC.mono hold HLV.out, ExC.mono hold HKV.out, SlAt.imp har5 (fun _ _ _ _ => ArAt.mono (only_le (fun g (h : wc.heap.size ≤ g) => (⟨by omega, by omega⟩ : w1.heap.size ≤ g ∧ g ≠ Y)) (fun _ _ _ h => h)))⟩ ?_
              clear har5 hY5 hfy hold hbel5 hkeep hG HKEEP HG HXC HXF HT HTF HLV HKV
              rintro w3 ⟨hb3, hz3, hy3, hf3, hx3, hlv3, hkv3, hav3⟩
              have HB3 : Hid (Below w2.heap.size w2 w3) := Lib.hid (by rw [hw2]; exact hb3)
              have HY3 := Lib.hid hy3
              have HF3 := Lib.hid hf3
              have HBX3 := Lib.hid hx3
              have HLV3 := Lib.hid hlv3
              have HKV3 := Lib.hid hkv3
              have HAV3 := Lib.hid hav3
              have HB13 := Lib.hid (HB1.out.trans (hb3.mono HB1.out.size))
              have HW12 := Lib.hid hw2
              have hw12 : w1.heap.size = w2.heap.size := by rw [hw2]
              have HWZ := Lib.hid hw12
              have x0 := HBX3.out 0 _ rfl
              clear hb3 hy3 hf3 hx3 hlv3 hkv3 hav3 hw2 hw12
              go_upto_region 11 with fail
              have hq : Below w3.heap.size w3 w3.drew := (Below.refl _ _).drew
              have hneX : Y ≠ w0.heap.size := by omega
              have KA0 := Lib.hid (cell_next hq (HBX3.out 11 _ rfl))
              have KA1 := Lib.hid (cell_next hq (HBX3.out 12 _ rfl))
              have HH3 := Lib.hid (HH1.out.next (HB2.out.trans (HB3.out.mono HB2.out.size)))
              obtain ⟨L4, hL4⟩ : ∃ L, Hid (swL a b s.thn = L) := ⟨_, Lib.hid rfl⟩
              obtain ⟨L5, hL5⟩ : ∃ L, Hid (swL a b s.els = L) := ⟨_, Lib.hid rfl⟩
              clear x0
              go_region_held3 (fun w' => w'.cell? ⟨w0.heap.size, 11, none⟩ = some (.slice ta s.thn.length tc) ∧ w'.cell? ⟨w0.heap.size, 12, none⟩ = some (.slice ea s.els.length ec))
                (first
                  | with_reducible exact ⟨KA0.out, KA1.out⟩
                  | with_reducible exact ⟨KB0.out, KB1.out⟩
                  | with_reducible exact ⟨KC0.out, KC1.out⟩
                  | with_reducible exact ⟨far1 hneX KC0.out, far1 hneX KC1.out⟩
                  | with_reducible exact ⟨far1 hneX (far1 hneX KC0.out), far1 hneX (far1 hneX KC1.out)⟩)
                (first
                  | (go_at_call 96
                     have hq5 := hq4
                     refine (show Calls Try.prog 96 #[.slice ea s.els.length ec, .string a, .string b] w4 (PutMade d (swL a b s.els) w4) from IH.out s.els _ w4 (HH3.out.next hq4).els (by have := HWS.out; rw [FewS_eq] at this; exact this.2.2.2.2.2.1) (by have := HWS.out; rw [FewS_eq] at this; exact this.2.2.2.2.2.2)).mono ?_
                     rw [hL5.out]
                     rintro e w5 ⟨v5, rfl, hst5, hb5⟩
                     obtain ⟨ea5, ec5, rfl, -, -⟩ := hst5.form
                     have HST5 := Lib.hid hst5
                     have hq5 := below_then hb5 hq4
                     have HB5 := Lib.hid hb5
                     have hy5 := HY3.out.next hq5
                     have hf5 := HF3.out.next hz3 hq5
                     have HY5 := Lib.hid hy5
                     have HF5 := Lib.hid hf5
                     have y11 := hy5 11 _ rfl
                     have y12 := hy5 12 _ rfl
                     have f11 := hf5 11
                     have f12 := hf5 12
                     have KC0 := Lib.hid (cell_next hb5 KB0.out)
                     have KC1 := Lib.hid (cell_next hb5 KB1.out))
                  | (go_at_call 96
                     refine (show Calls Try.prog 96 #[.slice ta s.thn.length tc, .string a, .string b] w3.drew (PutMade d (swL a b s.thn) w3.drew) from IH.out s.thn _ w3.drew (HH3.out.next hq).thn (by have := HWS.out; rw [FewS_eq] at this; exact this.2.2.2.2.1.1) (by have := HWS.out; rw [FewS_eq] at this; exact this.2.2.2.2.1.2)).mono ?_
                     rw [hL4.out]
                     rintro e w4 ⟨v4, rfl, hst4, hb4⟩
                     obtain ⟨ta4, tc4, rfl, -, -⟩ := hst4.form
                     have HST4 := Lib.hid hst4
                     have hq4 := below_then hb4 hq
                     have KB0 := Lib.hid (cell_next hb4 KA0.out)
                     have KB1 := Lib.hid (cell_next hb4 KA1.out)))
              all_goals
                have n1 := HB1.out.size
                have n2 := HB2.out.size
                have n4 := hq4.size
                have n5 := hq5.size
                have hb25 := HB3.out.trans (hq5.mono HB3.out.size)
                have hb05 := HB13.out.trans (hq5.mono HB13.out.size)
                go_upto_region 12 with fail
                refine cut_world (fun wx => Below w0.heap.size w0 wx ∧ w5.heap.size ≤ wx.heap.size ∧ BoxAt wx Y [.int .i64 s.id, .int .i64 s.kind, .slice la2 LB.length lc2, .string NM, .string PR, .int .i64 X.op, .int .i64 X.n, .string X.nm, .slice ka2 X.ks.length kc2, .bool s.has, .slice va5 AL.length vc5, .slice ta4 L4.length tc4, .slice ea5 L5.length ec5] ∧ StQ d (nwC w0.heap.size wx) [.int .i64 s.id, .int .i64 s.kind, .slice la2 LB.length lc2, .string NM, .string PR, .int .i64 X.op, .int .i64 X.n, .string X.nm, .slice ka2 X.ks.length kc2, .bool s.has, .slice va5 AL.length vc5, .slice ta4 L4.length tc4, .slice ea5 L5.length ec5] (swS a b s)) ⟨?_, ?_, ?_, ?_⟩ ?_
                · exact ((hb05.setCell (p := ⟨_, _, none⟩) (by simp; omega) _).setCell (p := ⟨_, _, none⟩) (by simp; omega) _)
                · simp only [World.size_setCell]; exact Nat.le_refl _
                · first
                    | exact (HY5.out.put (j := 11) (x := .slice ta4 L4.length tc4) (by simp)).put (j := 12) (x := .slice ea5 L5.length ec5) (by simp)
                    | exact (HY5.out.put (j := 12) (x := .slice ea5 L5.length ec5) (by simp)).put (j := 11) (x := .slice ta4 L4.length tc4) (by simp)
                · have hs3 : Y < w3.drew.heap.size := by simp; omega
                  refine ⟨.slice ka2 X.ks.length kc2, .slice la2 LB.length lc2, .slice va5 AL.length vc5, .slice ta4 L4.length tc4, .slice ea5 L5.length ec5, ?_, ?_, ?_, ?_, ?_, ?_, ?_, ?_, ?_, ?_, ?_⟩
                  · rw [swS_eq, hLB.out, hNM.out, hPR.out, hX.out, hAL.out, hL4.out, hL5.out]; rfl
                  · rw [swS_eq, hX.out]; exact HOKX.out
                  · rw [swS_eq, hX.out]; exact ExC.mono (Cs.le_trans (only_le (fun g (h : w1.heap.size ≤ g ∧ g ≠ Y) => (⟨by have := HB1.out.size; omega, h.2⟩ : w0.heap.size ≤ g ∧ g ≠ Y)) (cw_next hq5)) (Cs.le_trans (only_set (by simp)) (Cs.le_trans (only_set (by simp)) (only_le (fun g h => h.1) (fun _ _ _ h => h))))) HKV3.out
                  · rw [swS_eq]; exact HJ1.out
                  · rw [swS_eq]; exact HJ2.out
                  · rw [swS_eq]; exact other_le HSA.out HSB.out HJ3.out
                  · rw [swS_eq]; exact other_le HSA.out HSB.out HJ4.out
                  · rw [swS_eq, hLB.out]; exact StrC.mono (Cs.le_trans (only_le (fun g (h : w1.heap.size ≤ g ∧ g ≠ Y) => (⟨by have := HB1.out.size; omega, h.2⟩ : w0.heap.size ≤ g ∧ g ≠ Y)) (cw_next hq5)) (Cs.le_trans (only_set (by simp)) (Cs.le_trans (only_set (by simp)) (only_le (fun g h => h.1) (fun _ _ _ h => h))))) HLV3.out
                  · rw [swS_eq, hAL.out]; exact SlAt.imp HAV3.out (fun _ _ _ _ q => ArAt.mono (Cs.le_trans (only_le (fun g (h : w1.heap.size ≤ g ∧ g ≠ Y) => (⟨by have := HB1.out.size; omega, h.2⟩ : w0.heap.size ≤ g ∧ g ≠ Y)) (cw_next hq5)) (Cs.le_trans (only_set (by simp)) (Cs.le_trans (only_set (by simp)) (only_le (fun g h => h.1) (fun _ _ _ h => h))))) q)
                  · rw [swS_eq]; show StC _ _ _ (swL a b s.thn); rw [hL4.out]; exact StC.mono (Cs.le_trans (le_ne (B' := w0.heap.size) (Y := Y) HB5.out (by omega) (.inl hs3)) (Cs.le_trans (only_set (by simp)) (Cs.le_trans (only_set (by simp)) (only_le (fun g h => h.1) (fun _ _ _ h => h))))) HST4.out
                  · rw [swS_eq]; show StC _ _ _ (swL a b s.els); rw [hL5.out]; exact StC.mono (Cs.le_trans (le_ne (B' := w0.heap.size) (Y := Y) (Below.refl _ _) (by omega) (.inl (by omega))) (Cs.le_trans (only_set (by simp)) (Cs.le_trans (only_set (by simp)) (only_le (fun g h => h.1) (fun _ _ _ h => h))))) HST5.out
                rintro w6 ⟨hb6, hz6, hy6, hq6⟩
                have HB6 := Lib.hid hb6
                have HQ6 := Lib.hid hq6
                have b0 := hy6 0 _ rfl
                have b1 := hy6 1 _ rfl
                have b2 := hy6 2 _ rfl
                have b3 := hy6 3 _ rfl
                have b4 := hy6 4 _ rfl
                have b5 := hy6 5 _ rfl
                have b6 := hy6 6 _ rfl
                have b7 := hy6 7 _ rfl
                have b8 := hy6 8 _ rfl
                have b9 := hy6 9 _ rfl
                have b10 := hy6 10 _ rfl
                have b11 := hy6 11 _ rfl
                have b12 := hy6 12 _ rfl
                have hown6 := ownsBelow HACC.out.own hb6
                rw [HCL.out] at hown6
                have HOWN6 := Lib.hid hown6
                have hz0 := HBel.out.size
                have hz6' := hb6.size
                clear hb6 hy6 hq6 hown6 y11 y12 f11 f12 hb25 hb05
                go_wp2_with (at_builtin; refine wpList_append_lies _ rfl (.tmp 84) (.tmp 86) 39 rfl w.heap.size 41 i0 (.agg #[.int .i64 0, .int .i64 0, .slice none 0 0, .string ⟨#[]⟩, .string ⟨#[]⟩, .int .i64 0, .int .i64 0, .string ⟨#[]⟩, .slice none 0 0, .bool false, .slice none 0 0, .slice none 0 0, .slice none 0 0]) 13 208 Try.underlying39 hi hz0q hz1 hz2 rfl (by decide) _ _ _ rfl (HOWN6.out.alloc _) ⟨_, 0, none⟩ 1 1 [.int .i64 s.id, .int .i64 s.kind, .slice la2 LB.length lc2, .string NM, .string PR, .int .i64 X.op, .int .i64 X.n, .string X.nm, .slice ka2 X.ks.length kc2, .bool s.has, .slice va5 AL.length vc5, .slice ta4 L4.length tc4, .slice ea5 L5.length ec5] rfl rfl ?_ (by simp [Value.oneCell']) (by decide) ?_ ?_ ?_ _ rfl ?_)
                · intro j u h
                  rw [Addr.add_lit, World.cell?_alloc_new]
                  simpa using h
                · unfold maxLen; omega
                · omega
                · simp only [World.size_alloc]
                  omega
                intro g10 cap10 w10 hown10 hg10 hat10 hlt10
                have HOWN10 := Lib.hid hown10
                have HG10 := Lib.hid hg10
                have HAT10 := Lib.hid hat10
                clear hown10 hg10 hat10 hlt10
                go_wp2_with fail
                go_roundw
                case rel =>
                  refine ⟨k + 1, .slice (some ⟨g10, 0, none⟩) (k + 1) cap10, rows ++ [[.int .i64 s.id, .int .i64 s.kind, .slice la2 LB.length lc2, .string NM, .string PR, .int .i64 X.op, .int .i64 X.n, .string X.nm, .slice ka2 X.ks.length kc2, .bool s.has, .slice va5 AL.length vc5, .slice ta4 L4.length tc4, .slice ea5 L5.length ec5]], by omega, by go_num, rfl, ?_, ?_⟩
                  · have hm := HACC.out.more (v4 := .slice (some ⟨g10, 0, none⟩) (k + 1) cap10) (c := [.int .i64 s.id, .int .i64 s.kind, .slice la2 LB.length lc2, .string NM, .string PR, .int .i64 X.op, .int .i64 X.n, .string X.nm, .slice ka2 X.ks.length kc2, .bool s.has, .slice va5 AL.length vc5, .slice ta4 L4.length tc4, .slice ea5 L5.length ec5]) (x := swS a b s) (StQ.mono d) (Below.refl _ _) HBel.out.size HB6.out (boxed w6 _) HG10.out (fun z hz => by have hzz : g10 = z := by { simpa [Value.ownBlock] using hz }; subst hzz; exact HAT10.out.imp id fun h => by { (try simp only [World.size_alloc] at h); omega }) rfl HQ6.out (by rw [HCL.out]; exact HOWN10.out)
                    rw [List.take_succ_eq_append_getElem hlt, hs.out, swL_snoc]
                    exact hm
                  · exact (HBel.out.trans ((HB6.out.trans ((boxed w6 _).mono HB6.out.size)).mono HBel.out.size)).grown HG10.out (by simp only [World.size_alloc]; omega) fun z hz => (HACC.out.own.lt z hz).1
                case measure => simp [intOf]; omega
      · have hlt' : ¬ (k : Int) < (l.length : Int) := by omega
        have hke : k = l.length := by omega
        subst hke
        rw [List.take_length] at HACC
        clear hbel hwbel
        go_wp2_with fail
        go_ret
        have hst := Acc.stC HACC.out (by rw [swL_map, List.length_map]; omega)
        exact ⟨_, rfl, hst, HWB.out⟩
end Go.Proofs.Ytghlmengcidmdaa.Tr
