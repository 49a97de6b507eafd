/- Parts of SaidW: walks and plain laws that later texts use. Conditions: as each statement says. -/
import Derived.Test.YtghlmengcidmdaaJa0
import Derived.Test.YtghlmengcidmdaaJa1
import Derived.Test.YtghlmengcidmdaaJa2
import Derived.Test.YtghlmengcidmdaaJa3
import Derived.Test.YtghlmengcidmdaaJa4
import Derived.Test.YtghlmengcidmdaaJa5
import Derived.Test.YtghlmengcidmdaaJa6
import Derived.Test.YtghlmengcidmdaaJa7
import Derived.Deep.RegionHeld3
import Derived.Deep.QuietTactic
import Derived.BigQuiet
import Derived.Deep.DeepCutAuto
import Derived.Deep.CutBlock
import Derived.WalkKit
import Derived.Test.YtghlmengcidmdaaRows
import Derived.WalkSpells
import Derived.Lib.Hide
import Derived.Below
import Derived.WalkSmall
import Derived.IntWalk
import Derived.StillTailTactics
import Derived.Deep.RegionLaw
import Derived.RegionTactic
import Derived.Laws.BitsAllLaws
import Derived.Outline
import Derived.Laws.StructEq
import Derived.OwnWalk
import Derived.OneCell
import Derived.Deep.AppendLies
import Derived.Maps.Range
import Derived.Lib.SmallJoins
import Derived.Deep.Upon
import Derived.Maps.AppendAt
import Derived.Laws.OwnMore
import Derived.Deep.RegionWith
import Derived.Laws.Cover3
import Derived.Deep.Slices
import Derived.Deep.Fields
import Derived.SliceStrings
import Derived.ChangeSlices
/- What Names of flat, Said of the reference tell: the variables that a statement names. Conditions: it lies in memory, and names not too many. -/
namespace Go.Proofs.Ytghlmengcidmdaa.Tr
open Go.RowKit Go.Proofs.Ytghlmengcidmdaa.Lx Go.Proofs.Ytghlmengcidmdaa.Wd
theorem BoxAt.grown {w w' : World} {g : Nat} {cs : List Value} {row : Option Nat} (h : BoxAt w g cs) (hg : w.grownBy w' row) (hr : some g ≠ row) : BoxAt w' g cs := fun j u hu => hg.cell (h j u hu) hr
theorem RowS.one {B : Nat} {w : World} {v : Value} {l : List ByteArray} {s : ByteArray} (h : w.ownsRow B 9 1 v (l.length + 1) (l.map Value.string ++ [.string s])) (hf : Fine l) (hs : s.size ≤ 9223372036854775807) : RowS B w v (l ++ [s]) := by
  refine ⟨by simpa using h, fun t ht => ?_⟩
  rcases List.mem_append.1 ht with ht | ht
  · exact hf t ht
  · simp at ht; rw [ht]; exact hs
theorem RowS.cat {B : Nat} {w : World} {v : Value} {l m : List ByteArray} (h : w.ownsRow B 9 1 v (l.length + m.length) (l.map Value.string ++ m.map Value.string)) (hf : Fine l) (hm : Fine m) : RowS B w v (l ++ m) := by
  refine ⟨by simpa using h, fun t ht => ?_⟩
  rcases List.mem_append.1 ht with ht | ht
  · exact hf t ht
  · exact hm t ht
theorem str_one {m : List ByteArray} : ∀ u ∈ m.map Value.string, u.oneCell' = true := by
  intro u hu
  obtain ⟨t, -, rfl⟩ := List.mem_map.1 hu
  rfl
theorem one_str (w : World) (s : ByteArray) (T : TypeId) : ∀ (j : Nat) u, ([.string s] : List Value)[j]? = some u → (w.alloc (.cells #[.string s] T)).cell? ((⟨w.heap.size, 0, none⟩ : Addr).add j) = some u := by
  intro j u h
  match j, h with
  | 0, h => cases h; rw [Addr.add_lit]; simp [go_sem]
theorem said_take {l : List Ar} {k : Nat} (h : k < l.length) : ((l.take (k + 1)).map saidA).flatten = ((l.take k).map saidA).flatten ++ saidA l[k] := by
  rw [List.take_succ_eq_append_getElem h, List.map_append, List.flatten_append]
  simp
theorem said_len {l : List Ar} {k : Nat} (h : k < l.length) : ((l.take k).map saidA).flatten.length + (saidA l[k]).length ≤ ((l.map saidA).flatten).length := by
  have h1 : l = l.take (k + 1) ++ l.drop (k + 1) := (List.take_append_drop _ _).symm
  have h2 := said_take h
  have h3 : (l.map saidA).flatten.length = ((l.take (k + 1)).map saidA).flatten.length + ((l.drop (k + 1)).map saidA).flatten.length := by
    conv => lhs; rw [h1]
    rw [List.map_append, List.flatten_append, List.length_append]
  rw [h3, h2, List.length_append]
  omega
set_option maxHeartbeats 4000000 in
set_option maxRecDepth 100000 in
theorem fnames_any (d : Nat) (s : St) (la ka aa ta ea : Option Addr) (lc kc ac tc ec : Nat) (w : World) (hh : Hang d w s (.slice la s.labels.length lc) (.slice ka s.x.ks.length kc) (.slice aa s.args.length ac) (.slice ta s.thn.length tc) (.slice ea s.els.length ec)) (hok : OkE s.x) (hnm : s.nm.size ≤ 9223372036854775807) (hmany : (saidS s).length ≤ 1000000) :
    Calls Try.prog 126 #[.agg #[.int .i64 s.id, .int .i64 s.kind, .slice la s.labels.length lc, .string s.nm, .string s.proc, .int .i64 s.x.op, .int .i64 s.x.n, .string s.x.nm, .slice ka s.x.ks.length kc, .bool s.has, .slice aa s.args.length ac, .slice ta s.thn.length tc, .slice ea s.els.length ec]] w (NamesMade (saidS s) w) := by
  obtain ⟨i0, hi, hz0, hz1, hz2⟩ := info_parts infoStr
  have HH := Lib.hid hh
  have HOK := Lib.hid hok
  have hm1 : (saidN s).length + (namesOf s.x).length + ((s.args.map saidA).flatten).length ≤ 1000000 := by
    have h := hmany
    unfold saidS at h
    rw [List.length_append, List.length_append] at h
    exact h
  have HM := Lib.hid hm1
  obtain ⟨e, he1, he2⟩ : ∃ e : Nat, s.args.length ≤ e ∧ e ≤ 9223372036854775807 := by
    obtain ⟨a', c', hv, h1, h2⟩ := hh.arg.form
    exact ⟨c', h1, h2⟩
  have hal : s.args.length ≤ 9223372036854775807 := Nat.le_trans he1 he2
  clear hh hok hmany hm1 he1 he2
  obtain ⟨L0, hL0⟩ : ∃ L, Hid (saidN s = L) := ⟨_, Lib.hid rfl⟩
  go_enter Try.func126, Try.ntmps126
  go_upto_region 2 with fail
  refine cut_world (fun wx => Below w.heap.size w wx ∧ wx.heap.size = w.heap.size + 1 ∧ BoxAt wx w.heap.size [.int .i64 s.id, .int .i64 s.kind, .slice la s.labels.length lc, .string s.nm, .string s.proc, .int .i64 s.x.op, .int .i64 s.x.n, .string s.x.nm, .slice ka s.x.ks.length kc, .bool s.has, .slice aa s.args.length ac, .slice ta s.thn.length tc, .slice ea s.els.length ec]) ⟨boxed _ _, by simp, box_new w #[.int .i64 s.id, .int .i64 s.kind, .slice la s.labels.length lc, .string s.nm, .string s.proc, .int .i64 s.x.op, .int .i64 s.x.n, .string s.x.nm, .slice ka s.x.ks.length kc, .bool s.has, .slice aa s.args.length ac, .slice ta s.thn.length tc, .slice ea s.els.length ec] 41⟩ ?_
  rintro w1 ⟨hb1, hz1', hx1⟩
  have HZ1 := Lib.hid hz1'
  have HB1 := Lib.hid hb1
  have HX1 := Lib.hid hx1
  clear hb1 hx1 hz1'
  obtain ⟨BB, hBB⟩ : ∃ b, Hid ((!(s.kind == 10) && !noName s.nm) = b) := ⟨_, Lib.hid rfl⟩
  go_cut [0, 13] (fun _ v wx => v = .bool BB ∧ w1 = wx)
  case first =>
    have x1 := HX1.out 1 _ rfl
    have x3 := HX1.out 3 _ rfl
    cases hk : (s.kind == 10) with
    | true =>
      have hl : BB = false := by rw [← hBB.out, hk]; rfl
      subst hl
      have nk : (s.kind != 10) = false := by unfold bne; rw [hk]; rfl
      clear hk
      cases hn : s.nm.toList.isEmpty with
      | true => go_wp2_with fail; go_meet; exact ⟨(by rfl), rfl⟩
      | false => go_wp2_with fail; go_meet; exact ⟨(by rfl), rfl⟩
    | false =>
      have nk : (s.kind != 10) = true := by unfold bne; rw [hk]; rfl
      cases hn : s.nm.toList.isEmpty with
      | true =>
        have hl : BB = false := by rw [← hBB.out]; unfold noName; rw [hk, hn]; rfl
        subst hl
        clear hk
        go_wp2_with fail; go_meet; exact ⟨(by rfl), rfl⟩
      | false =>
        have hl : BB = true := by rw [← hBB.out]; unfold noName; rw [hk, hn]; rfl
        subst hl
        clear hk
        go_wp2_with fail; go_meet; exact ⟨(by rfl), rfl⟩
  case rest =>
  obtain ⟨rfl, rfl⟩ := hcut
  go_upto_if 13 with fail
  go_cut [3] (fun v wx => ∃ (a : Option Addr) (c : Nat), v = .slice a L0.length c ∧ RowS (w.heap.size + 1) wx (.slice a L0.length c) L0 ∧ Below w.heap.size w wx ∧ BoxAt wx w.heap.size [.int .i64 s.id, .int .i64 s.kind, .slice la s.labels.length lc, .string s.nm, .string s.proc, .int .i64 s.x.op, .int .i64 s.x.n, .string s.x.nm, .slice ka s.x.ks.length kc, .bool s.has, .slice aa s.args.length ac, .slice ta s.thn.length tc, .slice ea s.els.length ec] ∧ w.heap.size + 1 ≤ wx.heap.size)
  case first =>
    have x3 := HX1.out 3 _ rfl
    cases BB with
    | false =>
        have hl : L0 = [] := by rw [← hL0.out]; unfold saidN; rw [hBB.out]; rfl
        subst hl
        go_wp2_with fail
        go_meet
        exact ⟨none, 0, (by rfl), RowS.nil _ _, HB1.out, HX1.out, by have := HZ1.out; omega⟩
    | true =>
        have hl : L0 = [s.nm] := by rw [← hL0.out]; unfold saidN; rw [hBB.out]; rfl
        subst hl
        go_wp2_with (at_builtin; refine wpList_append_lies _ rfl (.tmp 14) (.tmp 17) 22 rfl (w.heap.size + 1) 9 i0 (.string ⟨#[]⟩) 1 16 Try.underlying22 hi hz0 hz1 hz2 rfl (by decide) _ _ _ rfl (World.ownsRow_nil _ _ _ _) ⟨_, 0, none⟩ 1 1 [.string s.nm] rfl rfl ?c1 str_cells (by decide) ?c3 ?c4 ?c5 _ rfl ?_)
        case c1 => exact one_str _ _ _
        case c3 => unfold maxLen; omega
        case c4 => omega
        case c5 => have hz9 := HZ1.out; first | omega | (simp; omega)
        intro g4 cap4 w4 hown4 hg4 hat4 hlt4
        have hb4 : Below w1.heap.size w1 w4 := (boxed w1 _).grown hg4 (by simp) fun q hq => by cases hq
        have HB4 := Lib.hid hb4
        have HR4 := Lib.hid (RowS.one (l := []) hown4 (fun _ h => by cases h) hnm)
        have hz4 := hb4.size
        have hz4' := HZ1.out
        clear hown4 hg4 hat4 hlt4 hb4
        go_wp2_with fail
        go_meet
        exact ⟨_, _, rfl, HR4.out, HB1.out.trans (HB4.out.mono HB1.out.size), HX1.out.next HB4.out, by omega⟩
  case rest =>
    obtain ⟨a2, c2, rfl, hr2, hb2, hx2, hz2'⟩ := hcut
    obtain ⟨w2, hw2⟩ : ∃ w2 : World, w2 = wc := ⟨_, rfl⟩
    subst hw2
    have HR2 := Lib.hid hr2
    have HB2 := Lib.hid hb2
    have HX2 := Lib.hid hx2
    have x5 := hx2 5 _ rfl
    have x6 := hx2 6 _ rfl
    have x7 := hx2 7 _ rfl
    have x8 := hx2 8 _ rfl
    clear hr2 hb2 hx2 HX1 HB1
    obtain ⟨L1, hL1⟩ : ∃ L, Hid (namesOf s.x = L) := ⟨_, Lib.hid rfl⟩
    rw [hL1.out, hL0.out] at HM
    go_wp2_with fail
    have hcall := names_any d s.x _ _ HOK.out (ExC.to (HH.out.next HB2.out).kid)
    unfold exV at hcall
    refine hcall.mono ?_
    clear hcall
    rintro e w3 ⟨v3, rfl, hr3, hb3⟩
    rw [hL1.out] at hr3
    obtain ⟨a3, c3, rfl⟩ := ownsForm hr3.1
    have HS3 := Lib.hid (hr3.strs (by have := HM.out; omega))
    have HF3 := Lib.hid hr3.2
    have HB3 := Lib.hid hb3
    have HR3 := Lib.hid (HR2.out.next hb3)
    have hs3 := HB2.out.size
    have hs3' := hb3.size
    have hm0 := HM.out
    clear hr3 hb3 x5 x6 x7 x8
    go_wp2_with (at_builtin; refine wpList_append_sl _ rfl (.tmp 19) (.tmp 22) 22 rfl (w.heap.size + 1) 9 i0 (.string ⟨#[]⟩) 1 16 Try.underlying22 hi hz0 hz1 hz2 rfl (by decide) _ L0.length _ rfl (HR3.out.1) a3 L1.length c3 (L1.map Value.string) rfl HS3.out.news.2.1 ?op1 HS3.out.news.2.2 str_one ?op2 ?op3 ?op4 ?_)
    case op1 => rw [List.length_map, Nat.mul_one]
    case op2 => unfold maxLen; omega
    case op3 => omega
    case op4 => omega
    intro v4 w4 hown4 hg4 hat4
    obtain ⟨L01, hL01⟩ : ∃ L, Hid (L0 ++ L1 = L) := ⟨_, Lib.hid rfl⟩
    have hl01 : L0.length + L1.length = L01.length := by rw [← hL01.out, List.length_append]
    have hr4 : RowS (w.heap.size + 1) w4 v4 L01 := by rw [← hL01.out]; exact RowS.cat hown4 HR3.out.2 HF3.out
    have hb4 : Below w.heap.size w w4 := (HB2.out.trans (HB3.out.mono HB2.out.size)).grown hg4 (by omega) fun q hq => by have := (HR3.out.lt q hq).1; omega
    have hx4 : BoxAt w4 w.heap.size [.int .i64 s.id, .int .i64 s.kind, .slice la s.labels.length lc, .string s.nm, .string s.proc, .int .i64 s.x.op, .int .i64 s.x.n, .string s.x.nm, .slice ka s.x.ks.length kc, .bool s.has, .slice aa s.args.length ac, .slice ta s.thn.length tc, .slice ea s.els.length ec] := (HX2.out.next HB3.out).grown hg4 (fun e => by have := (HR3.out.lt _ e.symm).1; omega)
    have HR4 := Lib.hid hr4
    have HB4 := Lib.hid hb4
    have hgs := hg4.size
    have hz4 : w.heap.size + 1 ≤ w4.heap.size := by omega
    have x10 := hx4 10 _ rfl
    rw [hl01] at hm0
    have HM4 := Lib.hid hm0
    clear HR3 HS3 HF3 HB3 hown4 hg4 hat4 hr4 hb4 hx4 hs3 hs3' hgs hm0 hl01 HX2 HR2 HB2 hz2'
    go_wp2_with fail
    go_loopw [27, 3] (fun i v wr => ∃ (k : Nat) (v0 : Value), k ≤ s.args.length ∧ i = .int .i64 k ∧ v = v0 ∧ RowS (w.heap.size + 1) wr v0 (L01 ++ ((s.args.take k).map saidA).flatten) ∧ Below w.heap.size w wr ∧ w.heap.size + 1 ≤ wr.heap.size) (fun i _ _ => (s.args.length - intOf i).toNat)
    case atStart => exact ⟨0, _, by omega, rfl, rfl, by simpa using HR4.out, HB4.out, hz4⟩
    case round =>
      obtain ⟨k, v, hk, rfl, rfl, hr5, hb5, hz5⟩ := hrel
      obtain ⟨w5, hw5⟩ : ∃ w5 : World, w5 = wr := ⟨_, rfl⟩
      subst hw5
      have HB5 := Lib.hid hb5
      clear x10 hz4
      by_cases hlt : k < s.args.length
      · have hlt' : (k : Int) < (s.args.length : Int) := by omega
        have h0k : (0 : Int) ≤ (k : Int) := by omega
        have hne : s.args ≠ [] := by intro h; rw [h] at hlt; simp at hlt
        obtain ⟨g, off, cap', hv, _, hcells⟩ := SlAt.cells HH.out.arg hne
        simp only [Value.slice.injEq] at hv
        obtain ⟨rfl, -, rfl⟩ := hv
        obtain ⟨r0, r1, r2, kx, r3, r4, r5, r6, hokx, hxx⟩ := hcells k hlt
        have hsl := said_len hlt
        have hst := said_take hlt
        obtain ⟨LK, hLK⟩ : ∃ L, Hid (L01 ++ ((s.args.take k).map saidA).flatten = L) := ⟨_, Lib.hid rfl⟩
        have hlk : L01.length + ((s.args.take k).map saidA).flatten.length = LK.length := by rw [← hLK.out, List.length_append]
        obtain ⟨ar, har⟩ : ∃ ar, Hid (s.args[k] = ar) := ⟨_, Lib.hid rfl⟩
        rw [har.out] at r0 r1 r2 r3 r4 r5 hokx hxx hsl hst
        obtain ⟨LX, hLX⟩ : ∃ L, Hid (namesOf ar.x = L) := ⟨_, Lib.hid rfl⟩
        obtain ⟨LP, hLP⟩ : ∃ L, Hid ((if ar.ref then [ar.nm] else []) = L) := ⟨_, Lib.hid rfl⟩
        have hsa : saidA ar = LP ++ LX := by unfold saidA; rw [hLP.out, hLX.out]
        rw [hsa, List.length_append] at hsl
        have hroom : LK.length + LP.length + LX.length ≤ 1000000 := by have := HM4.out; omega
        have HST := Lib.hid hst
        have HSA := Lib.hid hsa
        have HROOM := Lib.hid hroom
        rw [hLK.out] at hr5
        obtain ⟨va5, vc5, rfl⟩ := ownsForm hr5.1
        obtain ⟨xa, xc, rfl, -, -⟩ := hxx.form
        have d0 : w5.cell? ⟨g, off + k * 6, none⟩ = _ := cell_next hb5 r0
        have d1 : w5.cell? ⟨g, off + k * 6 + 1, none⟩ = _ := cell_next hb5 r1
        have d2 : w5.cell? ⟨g, off + k * 6 + 2, none⟩ = _ := cell_next hb5 r3
        have d3 : w5.cell? ⟨g, off + k * 6 + 3, none⟩ = _ := cell_next hb5 r4
        have d4 : w5.cell? ⟨g, off + k * 6 + 4, none⟩ = _ := cell_next hb5 r5
        have d5 : w5.cell? ⟨g, off + k * 6 + 5, none⟩ = _ := cell_next hb5 r6
        have HR5 := Lib.hid hr5
        have HXX := Lib.hid hxx
        have HOKX := Lib.hid hokx
        have HNMX := Lib.hid r2
        clear hcells r0 r1 r2 r3 r4 r5 r6 hxx hokx hne hb5 hr5 hsl hst hsa hlk hroom
        go_upto_region 8 with fail
        refine cut_world (fun wx => Below w5.heap.size w5 wx ∧ w5.heap.size < wx.heap.size ∧ BoxAt wx w5.heap.size [.bool ar.ref, .string ar.nm, .int .i64 ar.x.op, .int .i64 ar.x.n, .string ar.x.nm, .slice xa ar.x.ks.length xc]) ⟨boxed _ _, by simp, box_new w5 #[.bool ar.ref, .string ar.nm, .int .i64 ar.x.op, .int .i64 ar.x.n, .string ar.x.nm, .slice xa ar.x.ks.length xc] 49⟩ ?_
        clear d0 d1 d2 d3 d4 d5
        rintro w6 ⟨hb6, hz6, hx6⟩
        have HX6 := Lib.hid hx6
        have HR6 := Lib.hid (HR5.out.next hb6)
        have HB6 := Lib.hid (HB5.out.trans (hb6.mono HB5.out.size))
        have hro : ∀ q, (Value.slice va5 LK.length vc5).ownBlock = some q → q < w5.heap.size := fun q hq => (HR5.out.lt q hq).2
        have HRO := Lib.hid hro
        have a0 := hx6 0 _ rfl
        have a1 := hx6 1 _ rfl
        clear hb6 hx6 hro
        go_upto_if 32 with fail
        go_cut [3] (fun v wx => ∃ (a : Option Addr) (c : Nat), v = .slice a (LK.length + LP.length) c ∧ RowS (w.heap.size + 1) wx (.slice a (LK.length + LP.length) c) (LK ++ LP) ∧ Below w.heap.size w wx ∧ BoxAt wx w5.heap.size [.bool ar.ref, .string ar.nm, .int .i64 ar.x.op, .int .i64 ar.x.n, .string ar.x.nm, .slice xa ar.x.ks.length xc] ∧ w.heap.size + 1 ≤ wx.heap.size)
        case first =>
          cases hr : ar.ref with
          | true =>
            rw [hr] at a0
            have hl : LP = [ar.nm] := by rw [← hLP.out, hr]; rfl
            subst hl
            have hroom := HROOM.out
            rw [List.length_singleton] at hroom
            go_wp2_with (at_builtin; refine wpList_append_lies _ rfl (.tmp 33) (.tmp 36) 22 rfl (w.heap.size + 1) 9 i0 (.string ⟨#[]⟩) 1 16 Try.underlying22 hi hz0 hz1 hz2 rfl (by decide) _ _ _ rfl ((HR6.out.1.alloc _)) ⟨_, 0, none⟩ 1 1 [.string ar.nm] rfl rfl ?c1 str_cells (by decide) ?c3 ?c4 ?c5 _ rfl ?_)
            case c1 => exact one_str _ _ _
            case c3 => unfold maxLen; omega
            case c4 => omega
            case c5 => first | omega | (simp; omega)
            intro g7 cap7 w7 hown7 hg7 hat7 hlt7
            have hgg := (grown_of (boxed w6 _) _).trans hg7
            have HR7 := Lib.hid (RowS.one hown7 HR6.out.2 HNMX.out)
            have HG7 := Lib.hid hgg
            have hs7 := hgg.size
            clear hown7 hg7 hat7 hlt7 hgg hroom
            go_wp2_with fail
            go_meet
            refine ⟨_, _, rfl, HR7.out, HB6.out.grown HG7.out HB6.out.size fun q hq => ?_, HX6.out.grown HG7.out (fun e => ?_), by omega⟩
            · have := (HR6.out.lt q hq).1; omega
            · have := HRO.out _ e.symm; omega
          | false =>
            have hl : LP = [] := by rw [← hLP.out, hr]; rfl
            subst hl
            go_wp2_with fail
            go_meet
            exact ⟨_, _, rfl, by simpa using HR6.out, HB6.out, HX6.out, by omega⟩
        case rest =>
          obtain ⟨a7, c7, rfl, hr7, hb7, hx7, hz7⟩ := hcut
          obtain ⟨w7, hw7⟩ : ∃ w7 : World, w7 = wc := ⟨_, rfl⟩
          subst hw7
          have HR7 := Lib.hid hr7
          have HB7 := Lib.hid hb7
          have b2 := hx7 2 _ rfl
          have b3 := hx7 3 _ rfl
          have b4 := hx7 4 _ rfl
          have b5 := hx7 5 _ rfl
          clear hr7 hb7 hx7 HX6 HR6 HB6 HR5 HB5 hz5 hz6 HRO
          go_wp2_with fail
          refine (names_any d ar.x _ _ HOKX.out (ExC.to (ExC.mono (cw_next HB7.out) HXX.out))).mono ?_
          rintro e w8 ⟨v8, rfl, hr8, hb8⟩
          rw [hLX.out] at hr8
          obtain ⟨a8, c8, rfl⟩ := ownsForm hr8.1
          have hroom := HROOM.out
          have HS8 := Lib.hid (hr8.strs (by omega))
          have HF8 := Lib.hid hr8.2
          have HR8 := Lib.hid (HR7.out.next hb8)
          have HB8 := Lib.hid (HB7.out.trans (hb8.mono HB7.out.size))
          have hs8 := hb8.size
          have HOW8 : Hid (w8.ownsRow (w.heap.size + 1) 9 1 (.slice a7 (LK.length + LP.length) c7) (LK.length + LP.length) ((LK ++ LP).map Value.string)) := Lib.hid (by have h := HR8.out.1; rw [List.length_append] at h; exact h)
          clear hr8 hb8 b2 b3 b4 b5
          go_wp2_with (at_builtin; refine wpList_append_sl _ rfl (.tmp 38) (.tmp 41) 22 rfl (w.heap.size + 1) 9 i0 (.string ⟨#[]⟩) 1 16 Try.underlying22 hi hz0 hz1 hz2 rfl (by decide) _ (LK.length + LP.length) _ rfl (HOW8.out) a8 LX.length c8 (LX.map Value.string) rfl HS8.out.news.2.1 ?oq1 HS8.out.news.2.2 str_one ?oq2 ?oq3 ?oq4 ?_)
          case oq1 => rw [List.length_map, Nat.mul_one]
          case oq2 => unfold maxLen; omega
          case oq3 => omega
          case oq4 => omega
          intro v9 w9 hown9 hg9 hat9
          have hr9 : RowS (w.heap.size + 1) w9 v9 ((LK ++ LP) ++ LX) := RowS.cat (by rw [List.length_append, List.map_append, List.append_assoc]; exact hown9) HR8.out.2 HF8.out
          have hb9 : Below w.heap.size w w9 := HB8.out.grown hg9 HB8.out.size fun q hq => by have := (HR8.out.lt q hq).1; omega
          have HR9 := Lib.hid hr9
          have HB9 := Lib.hid hb9
          have hs9 := hg9.size
          clear hown9 hg9 hat9 hr9 hb9
          go_wp2_with fail
          go_roundw
          case rel =>
            refine ⟨k + 1, _, by omega, by go_num, rfl, ?_, HB9.out, by omega⟩
            rw [HST.out, HSA.out, ← List.append_assoc, ← List.append_assoc, hLK.out]
            exact HR9.out
          case measure => simp [intOf]; omega
      · have hlt' : ¬ (k : Int) < (s.args.length : Int) := by omega
        have hke : k = s.args.length := by omega
        subst hke
        rw [List.take_length] at hr5
        have HR5 := Lib.hid hr5
        clear hr5 hb5
        go_wp2_with fail
        go_ret
        refine ⟨_, rfl, ?_, HB5.out⟩
        have h := HR5.out.mono (B' := w.heap.size) (by omega)
        unfold saidS
        rw [hL0.out, hL1.out, hL01.out]
        exact h
set_option maxHeartbeats 4000000 in
set_option maxRecDepth 100000 in
theorem rsaid_any (d : Nat) (s : St) (la ka aa ta ea : Option Addr) (lc kc ac tc ec : Nat) (w : World) (hh : Hang d w s (.slice la s.labels.length lc) (.slice ka s.x.ks.length kc) (.slice aa s.args.length ac) (.slice ta s.thn.length tc) (.slice ea s.els.length ec)) (hok : OkE s.x) (hnm : s.nm.size ≤ 9223372036854775807) (hmany : (saidS s).length ≤ 1000000) :
    Calls Try.prog 59 #[.agg #[.int .i64 s.id, .int .i64 s.kind, .slice la s.labels.length lc, .string s.nm, .string s.proc, .int .i64 s.x.op, .int .i64 s.x.n, .string s.x.nm, .slice ka s.x.ks.length kc, .bool s.has, .slice aa s.args.length ac, .slice ta s.thn.length tc, .slice ea s.els.length ec]] w (NamesMade (saidS s) w) := by
  obtain ⟨i0, hi, hz0, hz1, hz2⟩ := info_parts infoStr
  have HH := Lib.hid hh
  have HOK := Lib.hid hok
  have hm1 : (saidN s).length + (namesOf s.x).length + ((s.args.map saidA).flatten).length ≤ 1000000 := by
    have h := hmany
    unfold saidS at h
    rw [List.length_append, List.length_append] at h
    exact h
  have HM := Lib.hid hm1
  obtain ⟨e, he1, he2⟩ : ∃ e : Nat, s.args.length ≤ e ∧ e ≤ 9223372036854775807 := by
    obtain ⟨a', c', hv, h1, h2⟩ := hh.arg.form
    exact ⟨c', h1, h2⟩
  have hal : s.args.length ≤ 9223372036854775807 := Nat.le_trans he1 he2
  clear hh hok hmany hm1 he1 he2
  obtain ⟨L0, hL0⟩ : ∃ L, Hid (saidN s = L) := ⟨_, Lib.hid rfl⟩
  go_enter Try.func59, Try.ntmps59
  go_upto_region 2 with fail
  refine cut_world (fun wx => Below w.heap.size w wx ∧ wx.heap.size = w.heap.size + 1 ∧ BoxAt wx w.heap.size [.int .i64 s.id, .int .i64 s.kind, .slice la s.labels.length lc, .string s.nm, .string s.proc, .int .i64 s.x.op, .int .i64 s.x.n, .string s.x.nm, .slice ka s.x.ks.length kc, .bool s.has, .slice aa s.args.length ac, .slice ta s.thn.length tc, .slice ea s.els.length ec]) ⟨boxed _ _, by simp, box_new w #[.int .i64 s.id, .int .i64 s.kind, .slice la s.labels.length lc, .string s.nm, .string s.proc, .int .i64 s.x.op, .int .i64 s.x.n, .string s.x.nm, .slice ka s.x.ks.length kc, .bool s.has, .slice aa s.args.length ac, .slice ta s.thn.length tc, .slice ea s.els.length ec] 41⟩ ?_
  rintro w1 ⟨hb1, hz1', hx1⟩
  have HZ1 := Lib.hid hz1'
  have HB1 := Lib.hid hb1
  have HX1 := Lib.hid hx1
  clear hb1 hx1 hz1'
  obtain ⟨BB, hBB⟩ : ∃ b, Hid ((!(s.kind == 10) && !noName s.nm) = b) := ⟨_, Lib.hid rfl⟩
  go_cut [0, 13] (fun _ v wx => v = .bool BB ∧ w1 = wx)
  case first =>
    have x1 := HX1.out 1 _ rfl
    have x3 := HX1.out 3 _ rfl
    cases hk : (s.kind == 10) with
    | true =>
      have hl : BB = false := by rw [← hBB.out, hk]; rfl
      subst hl
      have nk : (s.kind != 10) = false := by unfold bne; rw [hk]; rfl
      clear hk
      cases hn : s.nm.toList.isEmpty with
      | true => go_wp2_with fail; go_meet; exact ⟨(by rfl), rfl⟩
      | false => go_wp2_with fail; go_meet; exact ⟨(by rfl), rfl⟩
    | false =>
      have nk : (s.kind != 10) = true := by unfold bne; rw [hk]; rfl
      cases hn : s.nm.toList.isEmpty with
      | true =>
        have hl : BB = false := by rw [← hBB.out]; unfold noName; rw [hk, hn]; rfl
        subst hl
        clear hk
        go_wp2_with fail; go_meet; exact ⟨(by rfl), rfl⟩
      | false =>
        have hl : BB = true := by rw [← hBB.out]; unfold noName; rw [hk, hn]; rfl
        subst hl
        clear hk
        go_wp2_with fail; go_meet; exact ⟨(by rfl), rfl⟩
  case rest =>
  obtain ⟨rfl, rfl⟩ := hcut
  go_upto_if 13 with fail
  go_cut [3] (fun v wx => ∃ (a : Option Addr) (c : Nat), v = .slice a L0.length c ∧ RowS (w.heap.size + 1) wx (.slice a L0.length c) L0 ∧ Below w.heap.size w wx ∧ BoxAt wx w.heap.size [.int .i64 s.id, .int .i64 s.kind, .slice la s.labels.length lc, .string s.nm, .string s.proc, .int .i64 s.x.op, .int .i64 s.x.n, .string s.x.nm, .slice ka s.x.ks.length kc, .bool s.has, .slice aa s.args.length ac, .slice ta s.thn.length tc, .slice ea s.els.length ec] ∧ w.heap.size + 1 ≤ wx.heap.size)
  case first =>
    have x3 := HX1.out 3 _ rfl
    cases BB with
    | false =>
        have hl : L0 = [] := by rw [← hL0.out]; unfold saidN; rw [hBB.out]; rfl
        subst hl
        go_wp2_with fail
        go_meet
        exact ⟨none, 0, (by rfl), RowS.nil _ _, HB1.out, HX1.out, by have := HZ1.out; omega⟩
    | true =>
        have hl : L0 = [s.nm] := by rw [← hL0.out]; unfold saidN; rw [hBB.out]; rfl
        subst hl
        go_wp2_with (at_builtin; refine wpList_append_lies _ rfl (.tmp 14) (.tmp 17) 22 rfl (w.heap.size + 1) 9 i0 (.string ⟨#[]⟩) 1 16 Try.underlying22 hi hz0 hz1 hz2 rfl (by decide) _ _ _ rfl (World.ownsRow_nil _ _ _ _) ⟨_, 0, none⟩ 1 1 [.string s.nm] rfl rfl ?c1 str_cells (by decide) ?c3 ?c4 ?c5 _ rfl ?_)
        case c1 => exact one_str _ _ _
        case c3 => unfold maxLen; omega
        case c4 => omega
        case c5 => have hz9 := HZ1.out; first | omega | (simp; omega)
        intro g4 cap4 w4 hown4 hg4 hat4 hlt4
        have hb4 : Below w1.heap.size w1 w4 := (boxed w1 _).grown hg4 (by simp) fun q hq => by cases hq
        have HB4 := Lib.hid hb4
        have HR4 := Lib.hid (RowS.one (l := []) hown4 (fun _ h => by cases h) hnm)
        have hz4 := hb4.size
        have hz4' := HZ1.out
        clear hown4 hg4 hat4 hlt4 hb4
        go_wp2_with fail
        go_meet
        exact ⟨_, _, rfl, HR4.out, HB1.out.trans (HB4.out.mono HB1.out.size), HX1.out.next HB4.out, by omega⟩
  case rest =>
    obtain ⟨a2, c2, rfl, hr2, hb2, hx2, hz2'⟩ := hcut
    obtain ⟨w2, hw2⟩ : ∃ w2 : World, w2 = wc := ⟨_, rfl⟩
    subst hw2
    have HR2 := Lib.hid hr2
    have HB2 := Lib.hid hb2
    have HX2 := Lib.hid hx2
    have x5 := hx2 5 _ rfl
    have x6 := hx2 6 _ rfl
    have x7 := hx2 7 _ rfl
    have x8 := hx2 8 _ rfl
    clear hr2 hb2 hx2 HX1 HB1
    obtain ⟨L1, hL1⟩ : ∃ L, Hid (namesOf s.x = L) := ⟨_, Lib.hid rfl⟩
    rw [hL1.out, hL0.out] at HM
    go_wp2_with fail
    have hcall := rnames_any d s.x _ _ HOK.out (ExC.to (HH.out.next HB2.out).kid)
    unfold exV at hcall
    refine hcall.mono ?_
    clear hcall
    rintro e w3 ⟨v3, rfl, hr3, hb3⟩
    rw [hL1.out] at hr3
    obtain ⟨a3, c3, rfl⟩ := ownsForm hr3.1
    have HS3 := Lib.hid (hr3.strs (by have := HM.out; omega))
    have HF3 := Lib.hid hr3.2
    have HB3 := Lib.hid hb3
    have HR3 := Lib.hid (HR2.out.next hb3)
    have hs3 := HB2.out.size
    have hs3' := hb3.size
    have hm0 := HM.out
    clear hr3 hb3 x5 x6 x7 x8
    go_wp2_with (at_builtin; refine wpList_append_sl _ rfl (.tmp 19) (.tmp 22) 22 rfl (w.heap.size + 1) 9 i0 (.string ⟨#[]⟩) 1 16 Try.underlying22 hi hz0 hz1 hz2 rfl (by decide) _ L0.length _ rfl (HR3.out.1) a3 L1.length c3 (L1.map Value.string) rfl HS3.out.news.2.1 ?op1 HS3.out.news.2.2 str_one ?op2 ?op3 ?op4 ?_)
    case op1 => rw [List.length_map, Nat.mul_one]
    case op2 => unfold maxLen; omega
    case op3 => omega
    case op4 => omega
    intro v4 w4 hown4 hg4 hat4
    obtain ⟨L01, hL01⟩ : ∃ L, Hid (L0 ++ L1 = L) := ⟨_, Lib.hid rfl⟩
    have hl01 : L0.length + L1.length = L01.length := by rw [← hL01.out, List.length_append]
    have hr4 : RowS (w.heap.size + 1) w4 v4 L01 := by rw [← hL01.out]; exact RowS.cat hown4 HR3.out.2 HF3.out
    have hb4 : Below w.heap.size w w4 := (HB2.out.trans (HB3.out.mono HB2.out.size)).grown hg4 (by omega) fun q hq => by have := (HR3.out.lt q hq).1; omega
    have hx4 : BoxAt w4 w.heap.size [.int .i64 s.id, .int .i64 s.kind, .slice la s.labels.length lc, .string s.nm, .string s.proc, .int .i64 s.x.op, .int .i64 s.x.n, .string s.x.nm, .slice ka s.x.ks.length kc, .bool s.has, .slice aa s.args.length ac, .slice ta s.thn.length tc, .slice ea s.els.length ec] := (HX2.out.next HB3.out).grown hg4 (fun e => by have := (HR3.out.lt _ e.symm).1; omega)
    have HR4 := Lib.hid hr4
    have HB4 := Lib.hid hb4
    have hgs := hg4.size
    have hz4 : w.heap.size + 1 ≤ w4.heap.size := by omega
    have x10 := hx4 10 _ rfl
    rw [hl01] at hm0
    have HM4 := Lib.hid hm0
    clear HR3 HS3 HF3 HB3 hown4 hg4 hat4 hr4 hb4 hx4 hs3 hs3' hgs hm0 hl01 HX2 HR2 HB2 hz2'
    go_wp2_with fail
    go_loopw [27, 3] (fun i v wr => ∃ (k : Nat) (v0 : Value), k ≤ s.args.length ∧ i = .int .i64 k ∧ v = v0 ∧ RowS (w.heap.size + 1) wr v0 (L01 ++ ((s.args.take k).map saidA).flatten) ∧ Below w.heap.size w wr ∧ w.heap.size + 1 ≤ wr.heap.size) (fun i _ _ => (s.args.length - intOf i).toNat)
    case atStart => exact ⟨0, _, by omega, rfl, rfl, by simpa using HR4.out, HB4.out, hz4⟩
    case round =>
      obtain ⟨k, v, hk, rfl, rfl, hr5, hb5, hz5⟩ := hrel
      obtain ⟨w5, hw5⟩ : ∃ w5 : World, w5 = wr := ⟨_, rfl⟩
      subst hw5
      have HB5 := Lib.hid hb5
      clear x10 hz4
      by_cases hlt : k < s.args.length
      · have hlt' : (k : Int) < (s.args.length : Int) := by omega
        have h0k : (0 : Int) ≤ (k : Int) := by omega
        have hne : s.args ≠ [] := by intro h; rw [h] at hlt; simp at hlt
        obtain ⟨g, off, cap', hv, _, hcells⟩ := SlAt.cells HH.out.arg hne
        simp only [Value.slice.injEq] at hv
        obtain ⟨rfl, -, rfl⟩ := hv
        obtain ⟨r0, r1, r2, kx, r3, r4, r5, r6, hokx, hxx⟩ := hcells k hlt
        have hsl := said_len hlt
        have hst := said_take hlt
        obtain ⟨LK, hLK⟩ : ∃ L, Hid (L01 ++ ((s.args.take k).map saidA).flatten = L) := ⟨_, Lib.hid rfl⟩
        have hlk : L01.length + ((s.args.take k).map saidA).flatten.length = LK.length := by rw [← hLK.out, List.length_append]
        obtain ⟨ar, har⟩ : ∃ ar, Hid (s.args[k] = ar) := ⟨_, Lib.hid rfl⟩
        rw [har.out] at r0 r1 r2 r3 r4 r5 hokx hxx hsl hst
        obtain ⟨LX, hLX⟩ : ∃ L, Hid (namesOf ar.x = L) := ⟨_, Lib.hid rfl⟩
        obtain ⟨LP, hLP⟩ : ∃ L, Hid ((if ar.ref then [ar.nm] else []) = L) := ⟨_, Lib.hid rfl⟩
        have hsa : saidA ar = LP ++ LX := by unfold saidA; rw [hLP.out, hLX.out]
        rw [hsa, List.length_append] at hsl
        have hroom : LK.length + LP.length + LX.length ≤ 1000000 := by have := HM4.out; omega
        have HST := Lib.hid hst
        have HSA := Lib.hid hsa
        have HROOM := Lib.hid hroom
        rw [hLK.out] at hr5
        obtain ⟨va5, vc5, rfl⟩ := ownsForm hr5.1
        obtain ⟨xa, xc, rfl, -, -⟩ := hxx.form
        have d0 : w5.cell? ⟨g, off + k * 6, none⟩ = _ := cell_next hb5 r0
        have d1 : w5.cell? ⟨g, off + k * 6 + 1, none⟩ = _ := cell_next hb5 r1
        have d2 : w5.cell? ⟨g, off + k * 6 + 2, none⟩ = _ := cell_next hb5 r3
        have d3 : w5.cell? ⟨g, off + k * 6 + 3, none⟩ = _ := cell_next hb5 r4
        have d4 : w5.cell? ⟨g, off + k * 6 + 4, none⟩ = _ := cell_next hb5 r5
        have d5 : w5.cell? ⟨g, off + k * 6 + 5, none⟩ = _ := cell_next hb5 r6
        have HR5 := Lib.hid hr5
        have HXX := Lib.hid hxx
        have HOKX := Lib.hid hokx
        have HNMX := Lib.hid r2
        clear hcells r0 r1 r2 r3 r4 r5 r6 hxx hokx hne hb5 hr5 hsl hst hsa hlk hroom
        go_upto_region 8 with fail
        refine cut_world (fun wx => Below w5.heap.size w5 wx ∧ w5.heap.size < wx.heap.size ∧ BoxAt wx w5.heap.size [.bool ar.ref, .string ar.nm, .int .i64 ar.x.op, .int .i64 ar.x.n, .string ar.x.nm, .slice xa ar.x.ks.length xc]) ⟨boxed _ _, by simp, box_new w5 #[.bool ar.ref, .string ar.nm, .int .i64 ar.x.op, .int .i64 ar.x.n, .string ar.x.nm, .slice xa ar.x.ks.length xc] 49⟩ ?_
        clear d0 d1 d2 d3 d4 d5
        rintro w6 ⟨hb6, hz6, hx6⟩
        have HX6 := Lib.hid hx6
        have HR6 := Lib.hid (HR5.out.next hb6)
        have HB6 := Lib.hid (HB5.out.trans (hb6.mono HB5.out.size))
        have hro : ∀ q, (Value.slice va5 LK.length vc5).ownBlock = some q → q < w5.heap.size := fun q hq => (HR5.out.lt q hq).2
        have HRO := Lib.hid hro
        have a0 := hx6 0 _ rfl
        have a1 := hx6 1 _ rfl
        clear hb6 hx6 hro
        go_upto_if 32 with fail
        go_cut [3] (fun v wx => ∃ (a : Option Addr) (c : Nat), v = .slice a (LK.length + LP.length) c ∧ RowS (w.heap.size + 1) wx (.slice a (LK.length + LP.length) c) (LK ++ LP) ∧ Below w.heap.size w wx ∧ BoxAt wx w5.heap.size [.bool ar.ref, .string ar.nm, .int .i64 ar.x.op, .int .i64 ar.x.n, .string ar.x.nm, .slice xa ar.x.ks.length xc] ∧ w.heap.size + 1 ≤ wx.heap.size)
        case first =>
          cases hr : ar.ref with
          | true =>
            rw [hr] at a0
            have hl : LP = [ar.nm] := by rw [← hLP.out, hr]; rfl
            subst hl
            have hroom := HROOM.out
            rw [List.length_singleton] at hroom
            go_wp2_with (at_builtin; refine wpList_append_lies _ rfl (.tmp 33) (.tmp 36) 22 rfl (w.heap.size + 1) 9 i0 (.string ⟨#[]⟩) 1 16 Try.underlying22 hi hz0 hz1 hz2 rfl (by decide) _ _ _ rfl ((HR6.out.1.alloc _)) ⟨_, 0, none⟩ 1 1 [.string ar.nm] rfl rfl ?c1 str_cells (by decide) ?c3 ?c4 ?c5 _ rfl ?_)
            case c1 => exact one_str _ _ _
            case c3 => unfold maxLen; omega
            case c4 => omega
            case c5 => first | omega | (simp; omega)
            intro g7 cap7 w7 hown7 hg7 hat7 hlt7
            have hgg := (grown_of (boxed w6 _) _).trans hg7
            have HR7 := Lib.hid (RowS.one hown7 HR6.out.2 HNMX.out)
            have HG7 := Lib.hid hgg
            have hs7 := hgg.size
            clear hown7 hg7 hat7 hlt7 hgg hroom
            go_wp2_with fail
            go_meet
            refine ⟨_, _, rfl, HR7.out, HB6.out.grown HG7.out HB6.out.size fun q hq => ?_, HX6.out.grown HG7.out (fun e => ?_), by omega⟩
            · have := (HR6.out.lt q hq).1; omega
            · have := HRO.out _ e.symm; omega
          | false =>
            have hl : LP = [] := by rw [← hLP.out, hr]; rfl
            subst hl
            go_wp2_with fail
            go_meet
            exact ⟨_, _, rfl, by simpa using HR6.out, HB6.out, HX6.out, by omega⟩
        case rest =>
          obtain ⟨a7, c7, rfl, hr7, hb7, hx7, hz7⟩ := hcut
          obtain ⟨w7, hw7⟩ : ∃ w7 : World, w7 = wc := ⟨_, rfl⟩
          subst hw7
          have HR7 := Lib.hid hr7
          have HB7 := Lib.hid hb7
          have b2 := hx7 2 _ rfl
          have b3 := hx7 3 _ rfl
          have b4 := hx7 4 _ rfl
          have b5 := hx7 5 _ rfl
          clear hr7 hb7 hx7 HX6 HR6 HB6 HR5 HB5 hz5 hz6 HRO
          go_wp2_with fail
          refine (rnames_any d ar.x _ _ HOKX.out (ExC.to (ExC.mono (cw_next HB7.out) HXX.out))).mono ?_
          rintro e w8 ⟨v8, rfl, hr8, hb8⟩
          rw [hLX.out] at hr8
          obtain ⟨a8, c8, rfl⟩ := ownsForm hr8.1
          have hroom := HROOM.out
          have HS8 := Lib.hid (hr8.strs (by omega))
          have HF8 := Lib.hid hr8.2
          have HR8 := Lib.hid (HR7.out.next hb8)
          have HB8 := Lib.hid (HB7.out.trans (hb8.mono HB7.out.size))
          have hs8 := hb8.size
          have HOW8 : Hid (w8.ownsRow (w.heap.size + 1) 9 1 (.slice a7 (LK.length + LP.length) c7) (LK.length + LP.length) ((LK ++ LP).map Value.string)) := Lib.hid (by have h := HR8.out.1; rw [List.length_append] at h; exact h)
          clear hr8 hb8 b2 b3 b4 b5
          go_wp2_with (at_builtin; refine wpList_append_sl _ rfl (.tmp 38) (.tmp 41) 22 rfl (w.heap.size + 1) 9 i0 (.string ⟨#[]⟩) 1 16 Try.underlying22 hi hz0 hz1 hz2 rfl (by decide) _ (LK.length + LP.length) _ rfl (HOW8.out) a8 LX.length c8 (LX.map Value.string) rfl HS8.out.news.2.1 ?oq1 HS8.out.news.2.2 str_one ?oq2 ?oq3 ?oq4 ?_)
          case oq1 => rw [List.length_map, Nat.mul_one]
          case oq2 => unfold maxLen; omega
          case oq3 => omega
          case oq4 => omega
          intro v9 w9 hown9 hg9 hat9
          have hr9 : RowS (w.heap.size + 1) w9 v9 ((LK ++ LP) ++ LX) := RowS.cat (by rw [List.length_append, List.map_append, List.append_assoc]; exact hown9) HR8.out.2 HF8.out
          have hb9 : Below w.heap.size w w9 := HB8.out.grown hg9 HB8.out.size fun q hq => by have := (HR8.out.lt q hq).1; omega
          have HR9 := Lib.hid hr9
          have HB9 := Lib.hid hb9
          have hs9 := hg9.size
          clear hown9 hg9 hat9 hr9 hb9
          go_wp2_with fail
          go_roundw
          case rel =>
            refine ⟨k + 1, _, by omega, by go_num, rfl, ?_, HB9.out, by omega⟩
            rw [HST.out, HSA.out, ← List.append_assoc, ← List.append_assoc, hLK.out]
            exact HR9.out
          case measure => simp [intOf]; omega
      · have hlt' : ¬ (k : Int) < (s.args.length : Int) := by omega
        have hke : k = s.args.length := by omega
        subst hke
        rw [List.take_length] at hr5
        have HR5 := Lib.hid hr5
        clear hr5 hb5
        go_wp2_with fail
        go_ret
        refine ⟨_, rfl, ?_, HB5.out⟩
        have h := HR5.out.mono (B' := w.heap.size) (by omega)
        unfold saidS
        rw [hL0.out, hL1.out, hL01.out]
        exact h
end Go.Proofs.Ytghlmengcidmdaa.Tr
