/- Parts of ReqW: walks and plain laws that later texts use. Conditions: as each statement says. -/
import Derived.Test.YtghlmengcidmdaaSa0
import Derived.Test.YtghlmengcidmdaaSa1
import Derived.Test.YtghlmengcidmdaaSa2
import Derived.Test.YtghlmengcidmdaaSa3
import Derived.Test.YtghlmengcidmdaaSa4
import Derived.Test.YtghlmengcidmdaaSa5
import Derived.Test.YtghlmengcidmdaaSa6
import Derived.Test.YtghlmengcidmdaaSa7
import Derived.Test.YtghlmengcidmdaaSa8
import Derived.Test.YtghlmengcidmdaaSa9
import Derived.Test.YtghlmengcidmdaaSa10
import Derived.Test.YtghlmengcidmdaaSa11
import Derived.Test.YtghlmengcidmdaaSa12
import Derived.Test.YtghlmengcidmdaaSa14
import Derived.IntWalk
import Derived.Deep.QuietTactic
import Derived.BigQuiet
import Derived.StillTailTactics
import Derived.Deep.RegionHeld3
import Derived.Deep.DeepCutAuto
import Derived.Deep.Slices
import Derived.Deep.Fields
import Derived.Lib.SmallJoins
import Derived.SliceStrings
import Derived.ChangeSlices
import Derived.Deep.RegionLaw
import Derived.Deep.RegionWith
import Derived.Laws.Cover3
import Derived.WalkKit
import Derived.Test.YtghlmengcidmdaaRows
import Derived.WalkSpells
import Derived.Lib.Hide
import Derived.Below
import Derived.Laws.BitsAllLaws
import Derived.RegionTactic
import Derived.Maps.Range
import Derived.Outline
import Derived.Deep.Upon
import Derived.Maps.AppendAt
import Derived.Laws.OwnMore
import Derived.OwnWalk
import Derived.OneCell
import Derived.Deep.AppendLies
import Derived.Laws.StructEq
import Derived.WalkSmall
/- What EqExpr, eqOne, EqStmts, Eq of the reference compute: are they the same? Conditions: the arguments lie in memory. -/
namespace Go.Proofs.Ytghlmengcidmdaa.Tr
open Go.RowKit Go.Proofs.Ytghlmengcidmdaa.Lx Go.Proofs.Ytghlmengcidmdaa.Wd
set_option maxHeartbeats 2000000 in
set_option maxRecDepth 100000 in
theorem reqExpr_any : ∀ (d : Nat) (x y : Ex) (kx ky : Value) (w : World), ExK d w kx x.ks → ExK d w ky y.ks →
    Calls Try.prog 145 #[exV x kx, exV y ky] w fun e w' => e = .returned (.bool (eqE x y)) ∧ Below w.heap.size w w' := by
  intro d
  induction d with
  | zero => intro x y kx ky w h; exact h.elim
  | succ d ih =>
    intro x y kx ky w hx hy
    have IH := Lib.hid ih
    obtain ⟨ax, cx, rfl, hx1, hx2⟩ := hx.form
    obtain ⟨ay, cy, rfl, hy1, hy2⟩ := hy.form
    have hbox : Below w.heap.size w ((w.alloc (.cells #[.int .i64 x.op, .int .i64 x.n, .string x.nm, .slice ax x.ks.length cx] 37)).alloc (.cells #[.int .i64 y.op, .int .i64 y.n, .string y.nm, .slice ay y.ks.length cy] 37)) := (boxed w _).alloc (by simp) _
    have HB := Lib.hid hbox
    have HX := Lib.hid (hx.next hbox)
    have HY := Lib.hid (hy.next hbox)
    clear hbox hx hy ih
    rw [eqE_eq]
    unfold exV
    cases h0 : (x.op == y.op) with
    | false =>
      have n0 : (x.op != y.op) = true := by unfold bne; rw [h0]; rfl
      go_enter Try.func145, Try.ntmps145
      go_wp2_with fail
      go_ret
      exact ⟨rfl, HB.out⟩
    | true =>
      have n0 : (x.op != y.op) = false := by unfold bne; rw [h0]; rfl
      cases h1 : (x.n == y.n) with
      | false =>
        have n1 : (x.n != y.n) = true := by unfold bne; rw [h1]; rfl
        go_enter Try.func145, Try.ntmps145
        go_wp2_with fail
        go_ret
        exact ⟨rfl, HB.out⟩
      | true =>
        have n1 : (x.n != y.n) = false := by unfold bne; rw [h1]; rfl
        cases h2 : (x.nm.toList == y.nm.toList) with
        | false =>
          have n2 : (x.nm.toList != y.nm.toList) = true := by unfold bne; rw [h2]; rfl
          go_enter Try.func145, Try.ntmps145
          go_wp2_with fail
          go_ret
          exact ⟨rfl, HB.out⟩
        | true =>
          have n2 : (x.nm.toList != y.nm.toList) = false := by unfold bne; rw [h2]; rfl
          by_cases hlen : x.ks.length = y.ks.length
          · have b1 : ((x.ks.length : Int) != (y.ks.length : Int)) = false := by simp [hlen]
            have HLEN := Lib.hid hlen
            clear hlen
            obtain ⟨q, hq⟩ : ∃ q, Hid (eqEs x.ks y.ks = q) := ⟨_, Lib.hid rfl⟩
            rw [hq.out]
            go_enter Try.func145, Try.ntmps145
            go_wp2_with fail
            refine cut_world (fun wx => Below w.heap.size w wx ∧ w.heap.size + 1 < wx.heap.size ∧ wx.cell? ⟨w.heap.size, 3, none⟩ = some (.slice ax x.ks.length cx) ∧ wx.cell? ⟨w.heap.size + 1, 3, none⟩ = some (.slice ay y.ks.length cy) ∧ ExK (d + 1) wx (.slice ax x.ks.length cx) x.ks ∧ ExK (d + 1) wx (.slice ay y.ks.length cy) y.ks) ⟨HB.out, by simp, by simp [go_sem], by simp [go_sem], HX.out, HY.out⟩ ?_
            rintro w1 ⟨hb, hz, c3, d3, hx, hy⟩
            clear HB HX HY
            have HB := Lib.hid hb
            have HX := Lib.hid hx
            have HY := Lib.hid hy
            have C3 := Lib.hid c3
            have D3 := Lib.hid d3
            clear hb hx hy
            go_loopw [37] (fun i wr => ∃ k : Nat, k ≤ x.ks.length ∧ i = .int .i64 k ∧ Below w1.heap.size w1 wr ∧ ∀ j (h1 : j < x.ks.length) (h2 : j < y.ks.length), j < k → eqE x.ks[j] y.ks[j] = true) (fun i _ => (x.ks.length - intOf i).toNat)
            case atStart => exact ⟨0, by omega, rfl, Below.refl _ _, fun j _ _ h => absurd h (by omega)⟩
            case round =>
              obtain ⟨k, hk, rfl, hbel, hno⟩ := hrel
              have HBel := Lib.hid hbel
              have HNO := Lib.hid hno
              replace c3 := cell_next hbel C3.out
              replace d3 := cell_next hbel D3.out
              obtain ⟨w0, hw0⟩ : ∃ w0 : World, w0 = wr := ⟨_, rfl⟩
              subst hw0
              clear hno
              by_cases hlt : k < x.ks.length
              · have hlt' : (k : Int) < (x.ks.length : Int) := by omega
                have hlt2 : k < y.ks.length := by have := HLEN.out; omega
                have hlt3 : (k : Int) < (y.ks.length : Int) := by omega
                have h0k : (0 : Int) ≤ (k : Int) := by omega
                have hne : x.ks ≠ [] := by intro h; rw [h] at hlt; simp at hlt
                have hne2 : y.ks ≠ [] := by intro h; rw [h] at hlt2; simp at hlt2
                obtain ⟨g, off, cap', hv, _, _, hcells⟩ := (HX.out.next hbel).kids hne
                simp only [Value.slice.injEq] at hv
                obtain ⟨rfl, -, rfl⟩ := hv
                obtain ⟨-, u, x0, x1, x2, x3, hku⟩ := hcells k hlt
                obtain ⟨g2, off2, cap2, hv, _, _, hcells2⟩ := (HY.out.next hbel).kids hne2
                simp only [Value.slice.injEq] at hv
                obtain ⟨rfl, -, rfl⟩ := hv
                obtain ⟨-, u2, y0, y1, y2, y3, hku2⟩ := hcells2 k hlt2
                have HKU := Lib.hid hku
                have HKU2 := Lib.hid hku2
                clear hcells hcells2 hne hne2 hbel hku hku2
                obtain ⟨r, hr⟩ : ∃ r, Hid (eqE x.ks[k] y.ks[k] = r) := ⟨_, Lib.hid rfl⟩
                have HX0 := Lib.hid x0
                have HX1 := Lib.hid x1
                have HX2 := Lib.hid x2
                have HX3 := Lib.hid x3
                have HY0 := Lib.hid y0
                have HY1 := Lib.hid y1
                have HY2 := Lib.hid y2
                have HY3 := Lib.hid y3
                have HC3 := Lib.hid c3
                have HD3 := Lib.hid d3
                obtain ⟨ka, kc, rfl, -, -⟩ := HKU.out.form
                obtain ⟨kb, ke, rfl, -, -⟩ := HKU2.out.form
                obtain ⟨X, hX⟩ : ∃ X, Hid (x.ks[k] = X) := ⟨_, Lib.hid rfl⟩
                obtain ⟨Y, hY⟩ : ∃ Y, Hid (y.ks[k] = Y) := ⟨_, Lib.hid rfl⟩
                rw [hX.out] at HKU HX0 HX1 HX2 HX3 x0 x1 x2 x3
                rw [hY.out] at HKU2 HY0 HY1 HY2 HY3 y0 y1 y2 y3
                rw [hX.out, hY.out] at hr
                have hq3 : Below w0.heap.size w0 w0.drew := (Below.refl _ _).drew
                go_upto_region 6 with fail
                go_region_held3 (fun w' => w'.cell? ⟨w.heap.size, 3, none⟩ = some (.slice (some ⟨g, off, none⟩) x.ks.length cx) ∧ w'.cell? ⟨w.heap.size + 1, 3, none⟩ = some (.slice (some ⟨g2, off2, none⟩) y.ks.length cy) ∧
                    w'.cell? ⟨g, off + k * 4, none⟩ = some (.int .i64 X.op) ∧ w'.cell? ⟨g, off + k * 4 + 1, none⟩ = some (.int .i64 X.n) ∧ w'.cell? ⟨g, off + k * 4 + 2, none⟩ = some (.string X.nm) ∧ w'.cell? ⟨g, off + k * 4 + 3, none⟩ = some (.slice ka X.ks.length kc) ∧
                    w'.cell? ⟨g2, off2 + k * 4, none⟩ = some (.int .i64 Y.op) ∧ w'.cell? ⟨g2, off2 + k * 4 + 1, none⟩ = some (.int .i64 Y.n) ∧ w'.cell? ⟨g2, off2 + k * 4 + 2, none⟩ = some (.string Y.nm) ∧ w'.cell? ⟨g2, off2 + k * 4 + 3, none⟩ = some (.slice kb Y.ks.length ke) ∧ Below w0.heap.size w0 w')
                  (exact ⟨cell_next hq3 HC3.out, cell_next hq3 HD3.out, cell_next hq3 HX0.out, cell_next hq3 HX1.out, cell_next hq3 HX2.out, cell_next hq3 HX3.out, cell_next hq3 HY0.out, cell_next hq3 HY1.out, cell_next hq3 HY2.out, cell_next hq3 HY3.out, hq3⟩)
                  ((go_split_ands; go_at_call 145; refine (IH.out X Y _ _ _ (HKU.out.next (by assumption)) (HKU2.out.next (by assumption))).mono ?_; rintro e w8 ⟨rfl, hb8⟩; rw [hr.out]; have hq3 := below_then hb8 (by assumption)))
                have HB8 := Lib.hid (HBel.out.trans (hq3.mono HBel.out.size))
                clear hq3
                cases r with
                | true =>
                  go_wp2_with fail
                  go_roundw
                  case rel =>
                    refine ⟨k + 1, by omega, by go_num, HB8.out, fun j h1 h2 hjk => ?_⟩
                    rcases Nat.lt_or_ge j k with h | h
                    · exact HNO.out j h1 h2 h
                    · obtain rfl : j = k := by omega
                      rw [hX.out, hY.out]; exact hr.out
                  case measure => simp [intOf]; omega
                | false =>
                  go_wp2_with fail
                  go_ret
                  have := eqEs_at hlt hlt2 (by rw [hX.out, hY.out]; exact hr.out)
                  rw [hq.out] at this
                  rw [this]
                  exact ⟨rfl, HB.out.trans (HB8.out.mono HB.out.size)⟩
              · have hlt' : ¬ (k : Int) < (x.ks.length : Int) := by omega
                clear hbel
                go_wp2_with fail
                go_ret
                have := eqEs_all HLEN.out fun j h1 h2 => HNO.out j h1 h2 (by have := HLEN.out; omega)
                rw [hq.out] at this
                rw [this]
                exact ⟨rfl, HB.out.trans (HBel.out.mono HB.out.size)⟩
          · have b1 : ((x.ks.length : Int) != (y.ks.length : Int)) = true := by simp; omega
            rw [eqEs_len hlen]
            go_enter Try.func145, Try.ntmps145
            go_wp2_with fail
            go_ret
            exact ⟨rfl, HB.out⟩
/-- What EqStmts tells, so deep. -/
def ReqSts (d : Nat) : Prop := ∀ (l m : List St) (lv mv : Value) (w : World), StC (cw w) d lv l → StC (cw w) d mv m →
    Calls Try.prog 82 #[lv, mv] w fun e w' => e = .returned (.bool (eqL eqS l m)) ∧ Below w.heap.size w w'
set_option maxHeartbeats 4000000 in
set_option maxRecDepth 100000 in
theorem eqOne_of (d : Nat) (hE : ReqSts d) (s t : St) (la1 aa1 ka1 ta1 ea1 la2 aa2 ka2 ta2 ea2 : Option Addr) (lc1 ac1 kc1 tc1 ec1 lc2 ac2 kc2 tc2 ec2 : Nat) (w : World) (hlim : s.args.length ≤ 9223372036854775807)
    (hs : Hang d w s (.slice la1 s.labels.length lc1) (.slice ka1 s.x.ks.length kc1) (.slice aa1 s.args.length ac1) (.slice ta1 s.thn.length tc1) (.slice ea1 s.els.length ec1))
    (ht : Hang d w t (.slice la2 t.labels.length lc2) (.slice ka2 t.x.ks.length kc2) (.slice aa2 t.args.length ac2) (.slice ta2 t.thn.length tc2) (.slice ea2 t.els.length ec2)) :
    Calls Try.prog 124 #[.agg #[.int .i64 s.id, .int .i64 s.kind, .slice la1 s.labels.length lc1, .string s.nm, .string s.proc, .int .i64 s.x.op, .int .i64 s.x.n, .string s.x.nm, .slice ka1 s.x.ks.length kc1, .bool s.has, .slice aa1 s.args.length ac1, .slice ta1 s.thn.length tc1, .slice ea1 s.els.length ec1], .agg #[.int .i64 t.id, .int .i64 t.kind, .slice la2 t.labels.length lc2, .string t.nm, .string t.proc, .int .i64 t.x.op, .int .i64 t.x.n, .string t.x.nm, .slice ka2 t.x.ks.length kc2, .bool t.has, .slice aa2 t.args.length ac2, .slice ta2 t.thn.length tc2, .slice ea2 t.els.length ec2]] w fun e w' => e = .returned (.bool (eqS s t)) ∧ Below w.heap.size w w' := by
  have hbox : Below w.heap.size w ((w.alloc (.cells #[.int .i64 s.id, .int .i64 s.kind, .slice la1 s.labels.length lc1, .string s.nm, .string s.proc, .int .i64 s.x.op, .int .i64 s.x.n, .string s.x.nm, .slice ka1 s.x.ks.length kc1, .bool s.has, .slice aa1 s.args.length ac1, .slice ta1 s.thn.length tc1, .slice ea1 s.els.length ec1] 41)).alloc (.cells #[.int .i64 t.id, .int .i64 t.kind, .slice la2 t.labels.length lc2, .string t.nm, .string t.proc, .int .i64 t.x.op, .int .i64 t.x.n, .string t.x.nm, .slice ka2 t.x.ks.length kc2, .bool t.has, .slice aa2 t.args.length ac2, .slice ta2 t.thn.length tc2, .slice ea2 t.els.length ec2] 41)) := (boxed w _).alloc (by simp) _
  have hS : BoxAt ((w.alloc (.cells #[.int .i64 s.id, .int .i64 s.kind, .slice la1 s.labels.length lc1, .string s.nm, .string s.proc, .int .i64 s.x.op, .int .i64 s.x.n, .string s.x.nm, .slice ka1 s.x.ks.length kc1, .bool s.has, .slice aa1 s.args.length ac1, .slice ta1 s.thn.length tc1, .slice ea1 s.els.length ec1] 41)).alloc (.cells #[.int .i64 t.id, .int .i64 t.kind, .slice la2 t.labels.length lc2, .string t.nm, .string t.proc, .int .i64 t.x.op, .int .i64 t.x.n, .string t.x.nm, .slice ka2 t.x.ks.length kc2, .bool t.has, .slice aa2 t.args.length ac2, .slice ta2 t.thn.length tc2, .slice ea2 t.els.length ec2] 41)) w.heap.size (#[.int .i64 s.id, .int .i64 s.kind, .slice la1 s.labels.length lc1, .string s.nm, .string s.proc, .int .i64 s.x.op, .int .i64 s.x.n, .string s.x.nm, .slice ka1 s.x.ks.length kc1, .bool s.has, .slice aa1 s.args.length ac1, .slice ta1 s.thn.length tc1, .slice ea1 s.els.length ec1] : Array Value).toList := (box_new w _ _).next (boxed _ _)
  have hT : BoxAt ((w.alloc (.cells #[.int .i64 s.id, .int .i64 s.kind, .slice la1 s.labels.length lc1, .string s.nm, .string s.proc, .int .i64 s.x.op, .int .i64 s.x.n, .string s.x.nm, .slice ka1 s.x.ks.length kc1, .bool s.has, .slice aa1 s.args.length ac1, .slice ta1 s.thn.length tc1, .slice ea1 s.els.length ec1] 41)).alloc (.cells #[.int .i64 t.id, .int .i64 t.kind, .slice la2 t.labels.length lc2, .string t.nm, .string t.proc, .int .i64 t.x.op, .int .i64 t.x.n, .string t.x.nm, .slice ka2 t.x.ks.length kc2, .bool t.has, .slice aa2 t.args.length ac2, .slice ta2 t.thn.length tc2, .slice ea2 t.els.length ec2] 41)) (w.heap.size + 1) (#[.int .i64 t.id, .int .i64 t.kind, .slice la2 t.labels.length lc2, .string t.nm, .string t.proc, .int .i64 t.x.op, .int .i64 t.x.n, .string t.x.nm, .slice ka2 t.x.ks.length kc2, .bool t.has, .slice aa2 t.args.length ac2, .slice ta2 t.thn.length tc2, .slice ea2 t.els.length ec2] : Array Value).toList := box_two w _ _ _
  have HB := Lib.hid hbox
  have HS := Lib.hid hS
  have HT := Lib.hid hT
  have HHS := Lib.hid (hs.next hbox)
  have HHT := Lib.hid (ht.next hbox)
  have HE := Lib.hid hE
  have HLIM := Lib.hid hlim
  clear hbox hS hT hs ht hE hlim
  rw [eqS_eq]
  cases h0 : (s.id == t.id) with
  | false =>
    have n0 : (s.id != t.id) = true := by unfold bne; rw [h0]; rfl
    go_enter Try.func124, Try.ntmps124
    go_wp2_with fail
    go_ret
    exact ⟨rfl, HB.out⟩
  | true =>
    have n0 : (s.id != t.id) = false := by unfold bne; rw [h0]; rfl
    cases h1 : (s.kind == t.kind) with
    | false =>
      have n1 : (s.kind != t.kind) = true := by unfold bne; rw [h1]; rfl
      go_enter Try.func124, Try.ntmps124
      go_wp2_with fail
      go_ret
      exact ⟨rfl, HB.out⟩
    | true =>
      have n1 : (s.kind != t.kind) = false := by unfold bne; rw [h1]; rfl
      cases h2 : (s.nm.toList == t.nm.toList) with
      | false =>
        have n2 : (s.nm.toList != t.nm.toList) = true := by unfold bne; rw [h2]; rfl
        go_enter Try.func124, Try.ntmps124
        go_wp2_with fail
        go_ret
        exact ⟨rfl, HB.out⟩
      | true =>
        have n2 : (s.nm.toList != t.nm.toList) = false := by unfold bne; rw [h2]; rfl
        cases h3 : (s.proc.toList == t.proc.toList) with
        | false =>
          have n3 : (s.proc.toList != t.proc.toList) = true := by unfold bne; rw [h3]; rfl
          go_enter Try.func124, Try.ntmps124
          go_wp2_with fail
          go_ret
          exact ⟨rfl, HB.out⟩
        | true =>
          have n3 : (s.proc.toList != t.proc.toList) = false := by unfold bne; rw [h3]; rfl
          cases h4 : (s.has == t.has) with
          | false =>
            have n4 : (s.has != t.has) = true := by unfold bne; rw [h4]; rfl
            go_enter Try.func124, Try.ntmps124
            go_wp2_with fail
            go_ret
            exact ⟨rfl, HB.out⟩
          | true =>
            have n4 : (s.has != t.has) = false := by unfold bne; rw [h4]; rfl
            obtain ⟨c0, hc0⟩ : ∃ c, Hid (eqT s.labels t.labels = c) := ⟨_, Lib.hid rfl⟩
            rw [hc0.out]
            obtain ⟨c1, hc1⟩ : ∃ c, Hid (eqE s.x t.x = c) := ⟨_, Lib.hid rfl⟩
            rw [hc1.out]
            obtain ⟨c2, hc2⟩ : ∃ c, Hid (eqL eqA s.args t.args = c) := ⟨_, Lib.hid rfl⟩
            rw [hc2.out]
            obtain ⟨c3, hc3⟩ : ∃ c, Hid (eqL eqS s.thn t.thn = c) := ⟨_, Lib.hid rfl⟩
            rw [hc3.out]
            obtain ⟨c4, hc4⟩ : ∃ c, Hid (eqL eqS s.els t.els = c) := ⟨_, Lib.hid rfl⟩
            rw [hc4.out]
            by_cases hlen : s.args.length = t.args.length
            · have b1 : ((s.args.length : Int) != (t.args.length : Int)) = false := by simp [hlen]
              have HLEN := Lib.hid hlen
              clear hlen
              go_enter Try.func124, Try.ntmps124
              go_wp2_with fail
              refine (eqTexts_any s.labels t.labels _ _ _ (StrC.to HHS.out.lab) (StrC.to HHT.out.lab)).mono ?_
              rintro e w0 ⟨rfl, hb0⟩
              rw [hc0.out]
              have HB := Lib.hid (HB.out.trans (hb0.mono HB.out.size))
              have HS := Lib.hid (HS.out.next hb0)
              have HT := Lib.hid (HT.out.next hb0)
              have HHS := Lib.hid (HHS.out.next hb0)
              have HHT := Lib.hid (HHT.out.next hb0)
              clear hb0
              have s5 := HS.out 5 _ rfl
              have t5 := HT.out 5 _ rfl
              have s6 := HS.out 6 _ rfl
              have t6 := HT.out 6 _ rfl
              have s7 := HS.out 7 _ rfl
              have t7 := HT.out 7 _ rfl
              have s8 := HS.out 8 _ rfl
              have t8 := HT.out 8 _ rfl
              cases c0 with
              | false =>
                go_wp2_with fail
                go_ret
                exact ⟨rfl, HB.out⟩
              | true =>
                go_wp2_with fail
                refine (reqExpr_any d s.x t.x _ _ _ HHS.out.kid.to HHT.out.kid.to).mono ?_
                rintro e w1 ⟨rfl, hb1⟩
                rw [hc1.out]
                have HB := Lib.hid (HB.out.trans (hb1.mono HB.out.size))
                have HS := Lib.hid (HS.out.next hb1)
                have HT := Lib.hid (HT.out.next hb1)
                have HHS := Lib.hid (HHS.out.next hb1)
                have HHT := Lib.hid (HHT.out.next hb1)
                clear hb1
                have s10 := HS.out 10 _ rfl
                have t10 := HT.out 10 _ rfl
                cases c1 with
                | false =>
                  go_wp2_with fail
                  go_ret
                  exact ⟨rfl, HB.out⟩
                | true =>
                  have HS1 := Lib.hid HS.out
                  have HT1 := Lib.hid HT.out
                  have HHS1 := Lib.hid HHS.out
                  have HHT1 := Lib.hid HHT.out
                  have HBW := Lib.hid HB.out
                  have s10' := s10
                  go_wp2_with fail
                  go_loopw [67] (fun i wr => ∃ k : Nat, k ≤ s.args.length ∧ i = .int .i64 k ∧ Below w1.heap.size w1 wr ∧ ∀ j (h1 : j < s.args.length) (h2 : j < t.args.length), j < k → eqA s.args[j] t.args[j] = true) (fun i _ => (s.args.length - intOf i).toNat)
                  case atStart => exact ⟨0, by omega, rfl, Below.refl _ _, fun j _ _ h => absurd h (by omega)⟩
                  case round =>
                    obtain ⟨k, hk, rfl, hbel, hno⟩ := hrel
                    have HBel := Lib.hid hbel
                    have HNO := Lib.hid hno
                    have hlim := HLIM.out
                    have m1 := cell_next hbel (HS1.out 10 _ rfl)
                    have m2 := cell_next hbel (HT1.out 10 _ rfl)
                    have HM1 := Lib.hid m1
                    have HM2 := Lib.hid m2
                    obtain ⟨w4, hw4⟩ : ∃ w4 : World, w4 = wr := ⟨_, rfl⟩
                    subst hw4
                    clear hno s10 t10 s10'
                    by_cases hlt : k < s.args.length
                    · have hlt' : (k : Int) < (s.args.length : Int) := by omega
                      have hlt2 : k < t.args.length := by have := HLEN.out; omega
                      have hlt3 : (k : Int) < (t.args.length : Int) := by omega
                      have h0k : (0 : Int) ≤ (k : Int) := by omega
                      obtain ⟨g1, o1, capg1, hv, _, hcsg1⟩ := SlAt.cells (Hang.next HHS1.out hbel).arg (show s.args ≠ [] from by intro h; rw [h] at hlt; simp at hlt)
                      simp only [Value.slice.injEq] at hv
                      obtain ⟨rfl, -, rfl⟩ := hv
                      have hatg1 := hcsg1 k hlt
                      obtain ⟨A, hA⟩ : ∃ A, Hid (s.args[k] = A) := ⟨_, Lib.hid rfl⟩
                      rw [hA.out] at hatg1
                      obtain ⟨p0, p1, -, kv, p2, p3, p4, p5, -, hkA⟩ := hatg1
                      obtain ⟨kA, cA, rfl, -, -⟩ := hkA.form
                      have HKA := Lib.hid hkA.to
                      have HZp0 : Hid (w4.cell? ⟨g1, o1 + k * 6, none⟩ = _) := Lib.hid p0
                      have HZp1 : Hid (w4.cell? ⟨g1, o1 + k * 6 + 1, none⟩ = _) := Lib.hid p1
                      have HZp2 : Hid (w4.cell? ⟨g1, o1 + k * 6 + 2, none⟩ = _) := Lib.hid p2
                      have HZp3 : Hid (w4.cell? ⟨g1, o1 + k * 6 + 3, none⟩ = _) := Lib.hid p3
                      have HZp4 : Hid (w4.cell? ⟨g1, o1 + k * 6 + 4, none⟩ = _) := Lib.hid p4
                      have HZp5 : Hid (w4.cell? ⟨g1, o1 + k * 6 + 5, none⟩ = _) := Lib.hid p5
                      clear hcsg1 hkA p0 p1 p2 p3 p4 p5
                      obtain ⟨g2, o2, capg2, hv, _, hcsg2⟩ := SlAt.cells (Hang.next HHT1.out hbel).arg (show t.args ≠ [] from by intro h; rw [h] at hlt2; simp at hlt2)
                      simp only [Value.slice.injEq] at hv
                      obtain ⟨rfl, -, rfl⟩ := hv
                      have hatg2 := hcsg2 k hlt2
                      obtain ⟨B, hB⟩ : ∃ A, Hid (t.args[k] = A) := ⟨_, Lib.hid rfl⟩
                      rw [hB.out] at hatg2
                      obtain ⟨r0, r1, -, kv, r2, r3, r4, r5, -, hkB⟩ := hatg2
                      obtain ⟨kB, cB, rfl, -, -⟩ := hkB.form
                      have HKB := Lib.hid hkB.to
                      have HZr0 : Hid (w4.cell? ⟨g2, o2 + k * 6, none⟩ = _) := Lib.hid r0
                      have HZr1 : Hid (w4.cell? ⟨g2, o2 + k * 6 + 1, none⟩ = _) := Lib.hid r1
                      have HZr2 : Hid (w4.cell? ⟨g2, o2 + k * 6 + 2, none⟩ = _) := Lib.hid r2
                      have HZr3 : Hid (w4.cell? ⟨g2, o2 + k * 6 + 3, none⟩ = _) := Lib.hid r3
                      have HZr4 : Hid (w4.cell? ⟨g2, o2 + k * 6 + 4, none⟩ = _) := Lib.hid r4
                      have HZr5 : Hid (w4.cell? ⟨g2, o2 + k * 6 + 5, none⟩ = _) := Lib.hid r5
                      clear hcsg2 hkB r0 r1 r2 r3 r4 r5
                      clear hbel m1 m2
                      obtain ⟨RA, hRA⟩ : ∃ r, Hid (A.ref = r) := ⟨_, Lib.hid rfl⟩
                      obtain ⟨RB, hRB⟩ : ∃ r, Hid (B.ref = r) := ⟨_, Lib.hid rfl⟩
                      rw [hRA.out] at HZp0
                      rw [hRB.out] at HZr0
                      by_cases hR : RA = RB
                      · subst hR
                        cases q1 : (A.nm.toList == B.nm.toList) with
                        | false =>
                          have z1 : (A.nm.toList != B.nm.toList) = true := by unfold bne; rw [q1]; rfl
                          have yp0 := HZp0.out
                          have yp1 := HZp1.out
                          have yp2 := HZp2.out
                          have yp3 := HZp3.out
                          have yp4 := HZp4.out
                          have yp5 := HZp5.out
                          have yr0 := HZr0.out
                          have yr1 := HZr1.out
                          have yr2 := HZr2.out
                          have yr3 := HZr3.out
                          have yr4 := HZr4.out
                          have yr5 := HZr5.out
                          have m1 := HM1.out
                          have m2 := HM2.out
                          go_upto_region 6 with fail
                          go_quiet (fail)
                          have HB8 := Lib.hid (below_drewN HBel.out nq)
                          go_wp2_with fail
                          go_ret
                          have hz : c2 = false := by rw [← hc2.out]; exact eqL_at hlt hlt2 (by rw [hA.out, hB.out]; unfold eqA; rw [hRA.out, hRB.out]; simp [q1])
                          subst hz
                          exact ⟨rfl, HBW.out.trans (HB8.out.mono HBW.out.size)⟩
                        | true =>
                          have z1 : (A.nm.toList != B.nm.toList) = false := by unfold bne; rw [q1]; rfl
                          obtain ⟨r, hr⟩ : ∃ r, Hid (eqE A.x B.x = r) := ⟨_, Lib.hid rfl⟩
                          have hq3 : Below w4.heap.size w4 w4.drew := (Below.refl _ _).drew
                          go_upto_region 6 with fail
                          go_region_held3 (fun w' => w'.cell? ⟨w.heap.size, 10, none⟩ = some (.slice (some ⟨g1, o1, none⟩) s.args.length ac1) ∧ w'.cell? ⟨w.heap.size + 1, 10, none⟩ = some (.slice (some ⟨g2, o2, none⟩) t.args.length ac2) ∧ w'.cell? ⟨g1, o1 + k * 6, none⟩ = some (.bool RA) ∧ w'.cell? ⟨g1, o1 + k * 6 + 1, none⟩ = some (.string A.nm) ∧ w'.cell? ⟨g1, o1 + k * 6 + 2, none⟩ = some (.int .i64 A.x.op) ∧ w'.cell? ⟨g1, o1 + k * 6 + 3, none⟩ = some (.int .i64 A.x.n) ∧ w'.cell? ⟨g1, o1 + k * 6 + 4, none⟩ = some (.string A.x.nm) ∧ w'.cell? ⟨g1, o1 + k * 6 + 5, none⟩ = some (.slice kA A.x.ks.length cA) ∧ w'.cell? ⟨g2, o2 + k * 6, none⟩ = some (.bool RA) ∧ w'.cell? ⟨g2, o2 + k * 6 + 1, none⟩ = some (.string B.nm) ∧ w'.cell? ⟨g2, o2 + k * 6 + 2, none⟩ = some (.int .i64 B.x.op) ∧ w'.cell? ⟨g2, o2 + k * 6 + 3, none⟩ = some (.int .i64 B.x.n) ∧ w'.cell? ⟨g2, o2 + k * 6 + 4, none⟩ = some (.string B.x.nm) ∧ w'.cell? ⟨g2, o2 + k * 6 + 5, none⟩ = some (.slice kB B.x.ks.length cB) ∧ Below w4.heap.size w4 w')
                            (exact ⟨cell_next hq3 HM1.out, cell_next hq3 HM2.out, cell_next hq3 HZp0.out, cell_next hq3 HZp1.out, cell_next hq3 HZp2.out, cell_next hq3 HZp3.out, cell_next hq3 HZp4.out, cell_next hq3 HZp5.out, cell_next hq3 HZr0.out, cell_next hq3 HZr1.out, cell_next hq3 HZr2.out, cell_next hq3 HZr3.out, cell_next hq3 HZr4.out, cell_next hq3 HZr5.out, hq3⟩)
                            ((go_split_ands; go_at_call 145; refine (reqExpr_any d A.x B.x _ _ _ (HKA.out.next (by assumption)) (HKB.out.next (by assumption))).mono ?_; rintro e w8 ⟨rfl, hb8⟩; rw [hr.out]; have hq3 := below_then hb8 (by assumption)))
                          have HB8 := Lib.hid (HBel.out.trans (hq3.mono HBel.out.size))
                          clear hq3
                          cases r with
                          | true =>
                            have hAB : Hid (eqA A B = true) := Lib.hid (by unfold eqA; rw [hRA.out, hRB.out, q1, hr.out]; simp)
                            go_wp2_with fail
                            go_roundw
                            case rel =>
                              refine ⟨k + 1, by omega, by go_num, HB8.out, fun j h1 h2 hjk => ?_⟩
                              rcases Nat.lt_or_ge j k with h | h
                              · exact HNO.out j h1 h2 h
                              · obtain rfl : j = k := by omega
                                rw [hA.out, hB.out]; exact hAB.out
                            case measure => simp [intOf]; omega
                          | false =>
                            go_wp2_with fail
                            go_ret
                            have hz : c2 = false := by rw [← hc2.out]; exact eqL_at hlt hlt2 (by rw [hA.out, hB.out]; unfold eqA; rw [hRA.out, hRB.out]; simp [hr.out])
                            subst hz
                            exact ⟨rfl, HBW.out.trans (HB8.out.mono HBW.out.size)⟩
                      · have HR := Lib.hid hR
                        have z0 : (RA == RB) = false := by simpa using hR
                        have z1 : (RA != RB) = true := by simpa using hR
                        have yp0 := HZp0.out
                        have yp1 := HZp1.out
                        have yp2 := HZp2.out
                        have yp3 := HZp3.out
                        have yp4 := HZp4.out
                        have yp5 := HZp5.out
                        have yr0 := HZr0.out
                        have yr1 := HZr1.out
                        have yr2 := HZr2.out
                        have yr3 := HZr3.out
                        have yr4 := HZr4.out
                        have yr5 := HZr5.out
                        have m1 := HM1.out
                        have m2 := HM2.out
                        go_upto_region 6 with fail
                        go_quiet (fail)
                        have HB8 := Lib.hid (below_drewN HBel.out nq)
                        go_wp2_with fail
                        go_ret
                        have hz : c2 = false := by rw [← hc2.out]; exact eqL_at hlt hlt2 (by rw [hA.out, hB.out]; unfold eqA; rw [hRA.out, hRB.out]; simp [HR.out])
                        subst hz
                        exact ⟨rfl, HBW.out.trans (HB8.out.mono HBW.out.size)⟩
                    · have hlt' : ¬ (k : Int) < (s.args.length : Int) := by omega
                      have hz : c2 = true := by rw [← hc2.out]; exact eqL_all HLEN.out fun j h1 h2 => HNO.out j h1 h2 (by have := HLEN.out; omega)
                      subst hz
                      have HHS := Lib.hid (HHS1.out.next hbel)
                      have HHT := Lib.hid (HHT1.out.next hbel)
                      have HS := Lib.hid (HS1.out.next hbel)
                      have HT := Lib.hid (HT1.out.next hbel)
                      have s11 := HS.out 11 _ rfl
                      have t11 := HT.out 11 _ rfl
                      have HB := Lib.hid (HBW.out.trans (hbel.mono HBW.out.size))
                      clear hbel m1 m2
                      go_wp2_with fail
                      refine (HE.out s.thn t.thn _ _ _ HHS.out.thn HHT.out.thn).mono ?_
                      rintro e w5 ⟨rfl, hb3⟩
                      rw [hc3.out]
                      have HB := Lib.hid (HB.out.trans (hb3.mono HB.out.size))
                      have HS := Lib.hid (HS.out.next hb3)
                      have HT := Lib.hid (HT.out.next hb3)
                      have HHS := Lib.hid (HHS.out.next hb3)
                      have HHT := Lib.hid (HHT.out.next hb3)
                      clear hb3 s11 t11
                      have s12 := HS.out 12 _ rfl
                      have t12 := HT.out 12 _ rfl
                      cases c3 with
                      | false =>
                        go_wp2_with fail
                        go_ret
                        exact ⟨rfl, HB.out⟩
                      | true =>
                        go_wp2_with fail
                        refine (HE.out s.els t.els _ _ _ HHS.out.els HHT.out.els).mono ?_
                        rintro e w6 ⟨rfl, hb4⟩
                        rw [hc4.out]
                        have HB := Lib.hid (HB.out.trans (hb4.mono HB.out.size))
                        clear hb4
                        go_wp2_with fail
                        go_ret
                        exact ⟨rfl, HB.out⟩
            · have b1 : ((s.args.length : Int) != (t.args.length : Int)) = true := by simp; omega
              have hz : c2 = false := by rw [← hc2.out]; exact eqL_len hlen
              subst hz
              go_enter Try.func124, Try.ntmps124
              go_wp2_with fail
              refine (eqTexts_any s.labels t.labels _ _ _ (StrC.to HHS.out.lab) (StrC.to HHT.out.lab)).mono ?_
              rintro e w0 ⟨rfl, hb0⟩
              rw [hc0.out]
              have HB := Lib.hid (HB.out.trans (hb0.mono HB.out.size))
              have HS := Lib.hid (HS.out.next hb0)
              have HT := Lib.hid (HT.out.next hb0)
              have HHS := Lib.hid (HHS.out.next hb0)
              have HHT := Lib.hid (HHT.out.next hb0)
              clear hb0
              have s5 := HS.out 5 _ rfl
              have t5 := HT.out 5 _ rfl
              have s6 := HS.out 6 _ rfl
              have t6 := HT.out 6 _ rfl
              have s7 := HS.out 7 _ rfl
              have t7 := HT.out 7 _ rfl
              have s8 := HS.out 8 _ rfl
              have t8 := HT.out 8 _ rfl
              cases c0 with
              | false =>
                go_wp2_with fail
                go_ret
                exact ⟨rfl, HB.out⟩
              | true =>
                go_wp2_with fail
                refine (reqExpr_any d s.x t.x _ _ _ HHS.out.kid.to HHT.out.kid.to).mono ?_
                rintro e w1 ⟨rfl, hb1⟩
                rw [hc1.out]
                have HB := Lib.hid (HB.out.trans (hb1.mono HB.out.size))
                have HS := Lib.hid (HS.out.next hb1)
                have HT := Lib.hid (HT.out.next hb1)
                have HHS := Lib.hid (HHS.out.next hb1)
                have HHT := Lib.hid (HHT.out.next hb1)
                clear hb1
                have s10 := HS.out 10 _ rfl
                have t10 := HT.out 10 _ rfl
                cases c1 with
                | false =>
                  go_wp2_with fail
                  go_ret
                  exact ⟨rfl, HB.out⟩
                | true =>
                  go_wp2_with fail
                  go_ret
                  exact ⟨rfl, HB.out⟩
set_option maxHeartbeats 4000000 in
set_option maxRecDepth 100000 in
theorem reqStmts_any : ∀ d, ReqSts d := by
  intro d
  induction d with
  | zero => intro l m lv mv w h; exact h.elim
  | succ d ih =>
    intro l m lv mv w hl hm
    have IH := Lib.hid ih
    obtain ⟨a, ca, rfl, hc1, hc2⟩ := hl.form
    obtain ⟨b, cb, rfl, hc3, hc4⟩ := hm.form
    have HL := Lib.hid hl
    have HM := Lib.hid hm
    obtain ⟨q, hq⟩ : ∃ q, Hid (eqL eqS l m = q) := ⟨_, Lib.hid rfl⟩
    rw [hq.out]
    clear hl hm ih
    go_enter Try.func82, Try.ntmps82
    by_cases hlen : l.length = m.length
    · have b1 : ((l.length : Int) != (m.length : Int)) = false := by simp [hlen]
      have HLEN := Lib.hid hlen
      clear hlen
      go_wp2_with fail
      go_loopw [13] (fun i wr => ∃ k : Nat, k ≤ l.length ∧ i = .int .i64 k ∧ Below w.heap.size w wr ∧ ∀ j (h1 : j < l.length) (h2 : j < m.length), j < k → eqS l[j] m[j] = true) (fun i _ => (l.length - intOf i).toNat)
      case atStart => exact ⟨0, by omega, rfl, Below.refl _ _, fun j _ _ h => absurd h (by omega)⟩
      case round =>
        obtain ⟨k, hk, rfl, hbel, hno⟩ := hrel
        have HBel := Lib.hid hbel
        have HNO := Lib.hid hno
        obtain ⟨w4, hw4⟩ : ∃ w4 : World, w4 = wr := ⟨_, rfl⟩
        subst hw4
        clear hno
        by_cases hlt : k < l.length
        · have hlt' : (k : Int) < (l.length : Int) := by omega
          have hlt2 : k < m.length := by have := HLEN.out; omega
          have hlt3 : (k : Int) < (m.length : Int) := by omega
          have h0k : (0 : Int) ≤ (k : Int) := by omega
          have hne : l ≠ [] := by intro h; rw [h] at hlt; simp at hlt
          have hne2 : m ≠ [] := by intro h; rw [h] at hlt2; simp at hlt2
          obtain ⟨g, off, cap', hv, _, hcells⟩ := SlAt.cells (StC.next HL.out hbel) hne
          simp only [Value.slice.injEq] at hv
          obtain ⟨rfl, -, rfl⟩ := hv
          have hst1 := hcells k hlt
          obtain ⟨x, hx⟩ : ∃ x, Hid (l[k] = x) := ⟨_, Lib.hid rfl⟩
          rw [hx.out] at hst1
          obtain ⟨g2, off2, cap2, hv, _, hcells2⟩ := SlAt.cells (StC.next HM.out hbel) hne2
          simp only [Value.slice.injEq] at hv
          obtain ⟨rfl, -, rfl⟩ := hv
          have hst2 := hcells2 k hlt2
          obtain ⟨y, hy⟩ : ∃ y, Hid (m[k] = y) := ⟨_, Lib.hid rfl⟩
          rw [hy.out] at hst2
          clear hcells hcells2 hne hne2
          obtain ⟨lv1, av1, tv1, ev1, p0, p1, p2, p3, p4, ⟨kv1, p5, p6, p7, p8, -, hk1⟩, p9, p10, p11, p12, -, -, -, -, hl1, ha1, ht1, he1⟩ := hst1
          obtain ⟨la1, lc1, rfl, -, -⟩ := hl1.form
          obtain ⟨aa1, ac1, rfl, lim1a, lim1b⟩ := ha1.form
          obtain ⟨ta1, tc1, rfl, -, -⟩ := ht1.form
          obtain ⟨ea1, ec1, rfl, -, -⟩ := he1.form
          obtain ⟨ka1, kc1, rfl, -, -⟩ := hk1.form
          have HLI1 := Lib.hid (Nat.le_trans lim1a lim1b)
          have HH1 := Lib.hid (Hang.mk (s := x) hl1 hk1 ha1 ht1 he1)
          have HZp0 : Hid (w4.cell? ⟨g, off + k * 13, none⟩ = _) := Lib.hid p0
          have HZp1 : Hid (w4.cell? ⟨g, off + k * 13 + 1, none⟩ = _) := Lib.hid p1
          have HZp2 : Hid (w4.cell? ⟨g, off + k * 13 + 2, none⟩ = _) := Lib.hid p2
          have HZp3 : Hid (w4.cell? ⟨g, off + k * 13 + 3, none⟩ = _) := Lib.hid p3
          have HZp4 : Hid (w4.cell? ⟨g, off + k * 13 + 4, none⟩ = _) := Lib.hid p4
          have HZp5 : Hid (w4.cell? ⟨g, off + k * 13 + 5, none⟩ = _) := Lib.hid p5
          have HZp6 : Hid (w4.cell? ⟨g, off + k * 13 + 6, none⟩ = _) := Lib.hid p6
          have HZp7 : Hid (w4.cell? ⟨g, off + k * 13 + 7, none⟩ = _) := Lib.hid p7
          have HZp8 : Hid (w4.cell? ⟨g, off + k * 13 + 8, none⟩ = _) := Lib.hid p8
          have HZp9 : Hid (w4.cell? ⟨g, off + k * 13 + 9, none⟩ = _) := Lib.hid p9
          have HZp10 : Hid (w4.cell? ⟨g, off + k * 13 + 10, none⟩ = _) := Lib.hid p10
          have HZp11 : Hid (w4.cell? ⟨g, off + k * 13 + 11, none⟩ = _) := Lib.hid p11
          have HZp12 : Hid (w4.cell? ⟨g, off + k * 13 + 12, none⟩ = _) := Lib.hid p12
          clear lim1a lim1b hl1 hk1 ha1 ht1 he1 p0 p1 p2 p3 p4 p5 p6 p7 p8 p9 p10 p11 p12
          obtain ⟨lv2, av2, tv2, ev2, r0, r1, r2, r3, r4, ⟨kv2, r5, r6, r7, r8, -, hk2⟩, r9, r10, r11, r12, -, -, -, -, hl2, ha2, ht2, he2⟩ := hst2
          obtain ⟨la2, lc2, rfl, -, -⟩ := hl2.form
          obtain ⟨aa2, ac2, rfl, lim2a, lim2b⟩ := ha2.form
          obtain ⟨ta2, tc2, rfl, -, -⟩ := ht2.form
          obtain ⟨ea2, ec2, rfl, -, -⟩ := he2.form
          obtain ⟨ka2, kc2, rfl, -, -⟩ := hk2.form
          have HLI2 := Lib.hid (Nat.le_trans lim2a lim2b)
          have HH2 := Lib.hid (Hang.mk (s := y) hl2 hk2 ha2 ht2 he2)
          have HZr0 : Hid (w4.cell? ⟨g2, off2 + k * 13, none⟩ = _) := Lib.hid r0
          have HZr1 : Hid (w4.cell? ⟨g2, off2 + k * 13 + 1, none⟩ = _) := Lib.hid r1
          have HZr2 : Hid (w4.cell? ⟨g2, off2 + k * 13 + 2, none⟩ = _) := Lib.hid r2
          have HZr3 : Hid (w4.cell? ⟨g2, off2 + k * 13 + 3, none⟩ = _) := Lib.hid r3
          have HZr4 : Hid (w4.cell? ⟨g2, off2 + k * 13 + 4, none⟩ = _) := Lib.hid r4
          have HZr5 : Hid (w4.cell? ⟨g2, off2 + k * 13 + 5, none⟩ = _) := Lib.hid r5
          have HZr6 : Hid (w4.cell? ⟨g2, off2 + k * 13 + 6, none⟩ = _) := Lib.hid r6
          have HZr7 : Hid (w4.cell? ⟨g2, off2 + k * 13 + 7, none⟩ = _) := Lib.hid r7
          have HZr8 : Hid (w4.cell? ⟨g2, off2 + k * 13 + 8, none⟩ = _) := Lib.hid r8
          have HZr9 : Hid (w4.cell? ⟨g2, off2 + k * 13 + 9, none⟩ = _) := Lib.hid r9
          have HZr10 : Hid (w4.cell? ⟨g2, off2 + k * 13 + 10, none⟩ = _) := Lib.hid r10
          have HZr11 : Hid (w4.cell? ⟨g2, off2 + k * 13 + 11, none⟩ = _) := Lib.hid r11
          have HZr12 : Hid (w4.cell? ⟨g2, off2 + k * 13 + 12, none⟩ = _) := Lib.hid r12
          clear lim2a lim2b hl2 hk2 ha2 ht2 he2 r0 r1 r2 r3 r4 r5 r6 r7 r8 r9 r10 r11 r12
          obtain ⟨r, hr⟩ : ∃ r, Hid (eqS x y = r) := ⟨_, Lib.hid rfl⟩
          clear hbel
          have hq3 : Below w4.heap.size w4 w4.drew := (Below.refl _ _).drew
          go_upto_region 6 with fail
          go_region_held3 (fun w' => w'.cell? ⟨g, off + k * 13, none⟩ = some (.int .i64 x.id) ∧ w'.cell? ⟨g, off + k * 13 + 1, none⟩ = some (.int .i64 x.kind) ∧ w'.cell? ⟨g, off + k * 13 + 2, none⟩ = some (.slice la1 x.labels.length lc1) ∧ w'.cell? ⟨g, off + k * 13 + 3, none⟩ = some (.string x.nm) ∧ w'.cell? ⟨g, off + k * 13 + 4, none⟩ = some (.string x.proc) ∧ w'.cell? ⟨g, off + k * 13 + 5, none⟩ = some (.int .i64 x.x.op) ∧ w'.cell? ⟨g, off + k * 13 + 6, none⟩ = some (.int .i64 x.x.n) ∧ w'.cell? ⟨g, off + k * 13 + 7, none⟩ = some (.string x.x.nm) ∧ w'.cell? ⟨g, off + k * 13 + 8, none⟩ = some (.slice ka1 x.x.ks.length kc1) ∧ w'.cell? ⟨g, off + k * 13 + 9, none⟩ = some (.bool x.has) ∧ w'.cell? ⟨g, off + k * 13 + 10, none⟩ = some (.slice aa1 x.args.length ac1) ∧ w'.cell? ⟨g, off + k * 13 + 11, none⟩ = some (.slice ta1 x.thn.length tc1) ∧ w'.cell? ⟨g, off + k * 13 + 12, none⟩ = some (.slice ea1 x.els.length ec1) ∧ w'.cell? ⟨g2, off2 + k * 13, none⟩ = some (.int .i64 y.id) ∧ w'.cell? ⟨g2, off2 + k * 13 + 1, none⟩ = some (.int .i64 y.kind) ∧ w'.cell? ⟨g2, off2 + k * 13 + 2, none⟩ = some (.slice la2 y.labels.length lc2) ∧ w'.cell? ⟨g2, off2 + k * 13 + 3, none⟩ = some (.string y.nm) ∧ w'.cell? ⟨g2, off2 + k * 13 + 4, none⟩ = some (.string y.proc) ∧ w'.cell? ⟨g2, off2 + k * 13 + 5, none⟩ = some (.int .i64 y.x.op) ∧ w'.cell? ⟨g2, off2 + k * 13 + 6, none⟩ = some (.int .i64 y.x.n) ∧ w'.cell? ⟨g2, off2 + k * 13 + 7, none⟩ = some (.string y.x.nm) ∧ w'.cell? ⟨g2, off2 + k * 13 + 8, none⟩ = some (.slice ka2 y.x.ks.length kc2) ∧ w'.cell? ⟨g2, off2 + k * 13 + 9, none⟩ = some (.bool y.has) ∧ w'.cell? ⟨g2, off2 + k * 13 + 10, none⟩ = some (.slice aa2 y.args.length ac2) ∧ w'.cell? ⟨g2, off2 + k * 13 + 11, none⟩ = some (.slice ta2 y.thn.length tc2) ∧ w'.cell? ⟨g2, off2 + k * 13 + 12, none⟩ = some (.slice ea2 y.els.length ec2) ∧ Below w4.heap.size w4 w')
            (exact ⟨cell_next hq3 HZp0.out, cell_next hq3 HZp1.out, cell_next hq3 HZp2.out, cell_next hq3 HZp3.out, cell_next hq3 HZp4.out, cell_next hq3 HZp5.out, cell_next hq3 HZp6.out, cell_next hq3 HZp7.out, cell_next hq3 HZp8.out, cell_next hq3 HZp9.out, cell_next hq3 HZp10.out, cell_next hq3 HZp11.out, cell_next hq3 HZp12.out, cell_next hq3 HZr0.out, cell_next hq3 HZr1.out, cell_next hq3 HZr2.out, cell_next hq3 HZr3.out, cell_next hq3 HZr4.out, cell_next hq3 HZr5.out, cell_next hq3 HZr6.out, cell_next hq3 HZr7.out, cell_next hq3 HZr8.out, cell_next hq3 HZr9.out, cell_next hq3 HZr10.out, cell_next hq3 HZr11.out, cell_next hq3 HZr12.out, hq3⟩)
            ((go_split_ands; go_at_call 124; refine (eqOne_of d IH.out x y _ _ _ _ _ _ _ _ _ _ _ _ _ _ _ _ _ _ _ _ _ HLI1.out (HH1.out.next (by assumption)) (HH2.out.next (by assumption))).mono ?_; rintro e w8 ⟨rfl, hb8⟩; rw [hr.out]; have hq3 := below_then hb8 (by assumption)))
          have HB8 := Lib.hid (HBel.out.trans (hq3.mono HBel.out.size))
          clear hq3
          cases r with
          | true =>
            go_wp2_with fail
            go_roundw
            case rel =>
              refine ⟨k + 1, by omega, by go_num, HB8.out, fun j h1 h2 hjk => ?_⟩
              rcases Nat.lt_or_ge j k with h | h
              · exact HNO.out j h1 h2 h
              · obtain rfl : j = k := by omega
                rw [hx.out, hy.out]; exact hr.out
            case measure => simp [intOf]; omega
          | false =>
            go_wp2_with fail
            go_ret
            have := eqL_at (f := eqS) hlt hlt2 (by rw [hx.out, hy.out]; exact hr.out)
            rw [hq.out] at this
            rw [this]
            exact ⟨rfl, HB8.out⟩
        · have hlt' : ¬ (k : Int) < (l.length : Int) := by omega
          clear hbel
          go_wp2_with fail
          go_ret
          have := eqL_all (f := eqS) HLEN.out fun j h1 h2 => HNO.out j h1 h2 (by have := HLEN.out; omega)
          rw [hq.out] at this
          rw [this]
          exact ⟨rfl, HBel.out⟩
    · have b1 : ((l.length : Int) != (m.length : Int)) = true := by simp; omega
      rw [eqL_len hlen] at hq
      rw [← hq.out]
      go_wp2_with fail
      go_ret
      exact ⟨rfl, Below.refl _ _⟩
end Go.Proofs.Ytghlmengcidmdaa.Tr
