/- Parts of IdsW, PutN, JumpT, JumpLoopW: walks and plain laws that later texts use. Conditions: as each statement says. -/
import Derived.Test.YtghlmengcidmdaaJa0
import Derived.Test.YtghlmengcidmdaaJa1
import Derived.Test.YtghlmengcidmdaaJa10
import Derived.Test.YtghlmengcidmdaaJa11
import Derived.Test.YtghlmengcidmdaaJa12
import Derived.Test.YtghlmengcidmdaaJa13
import Derived.Test.YtghlmengcidmdaaJa14
import Derived.Test.YtghlmengcidmdaaJa15
import Derived.Test.YtghlmengcidmdaaJa16
import Derived.Test.YtghlmengcidmdaaJa17
import Derived.Test.YtghlmengcidmdaaJa18
import Derived.Test.YtghlmengcidmdaaJa19
import Derived.Test.YtghlmengcidmdaaJa2
import Derived.Test.YtghlmengcidmdaaJa20
import Derived.Test.YtghlmengcidmdaaJa21
import Derived.Test.YtghlmengcidmdaaJa3
import Derived.Test.YtghlmengcidmdaaJa4
import Derived.Test.YtghlmengcidmdaaJa5
import Derived.Test.YtghlmengcidmdaaJa6
import Derived.Test.YtghlmengcidmdaaJa7
import Derived.Test.YtghlmengcidmdaaJa8
import Derived.Test.YtghlmengcidmdaaJa9
import Derived.Outline
import Derived.BigQuiet
import Derived.OwnWalk
import Derived.OneCell
import Derived.Deep.AppendLies
import Derived.Deep.RegionLaw
import Derived.Deep.DeepCutAuto
import Derived.Deep.RegionHeld3
import Derived.RegionTactic
import Derived.Deep.QuietTactic
import Derived.WalkKit
import Derived.Test.YtghlmengcidmdaaRows
import Derived.WalkSpells
import Derived.Lib.Hide
import Derived.Below
import Derived.WalkSmall
import Derived.IntWalk
import Derived.StillTailTactics
import Derived.Deep.CutBlock
import Derived.Deep.RegionWith
import Derived.Laws.Cover3
import Derived.Laws.StructEq
import Derived.Maps.Range
import Derived.Lib.SmallJoins
import Derived.Deep.Upon
import Derived.Maps.AppendAt
import Derived.Laws.OwnMore
import Derived.OrdersHeld
import Derived.Laws.BitsAllLaws
import Derived.Deep.MidRow
import Derived.Deep.Slices
import Derived.Deep.Fields
import Derived.SliceStrings
import Derived.ChangeSlices
section
/- What Stmt, ProcOf, Ids and Pick of the reference tell. Conditions: what they are handed lies in memory. -/
namespace Go.Proofs.Ytghlmengcidmdaa.Tr
open Go.RowKit Go.Proofs.Ytghlmengcidmdaa.Lx Go.Proofs.Ytghlmengcidmdaa.Wd
set_option linter.unusedSimpArgs false
theorem RowN.nil (B : Nat) (w : World) : RowN B w (.slice none 0 0) [] := World.ownsRow_nil _ _ _ _
theorem RowN.next {B : Nat} {w w' : World} {v : Value} {l : List Int} (h : RowN B w v l) (hb : Below w.heap.size w w') : RowN B w' v l := ownsBelow h hb
theorem RowN.lt {B : Nat} {w : World} {v : Value} {l : List Int} (h : RowN B w v l) : ∀ g, v.ownBlock = some g → B ≤ g ∧ g < w.heap.size := World.ownsRow.lt h
theorem RowN.mono {B B' : Nat} {w : World} {v : Value} {l : List Int} (h : RowN B w v l) (hb : B' ≤ B) : RowN B' w v l := Go.Joins.ownsRow_le h hb
theorem RowN.one {B : Nat} {w : World} {v : Value} {l : List Int} {n : Int} (h : w.ownsRow B 3 1 v (l.length + 1) (l.map (Value.int .i64) ++ [.int .i64 n])) : RowN B w v (l ++ [n]) := by
  unfold RowN; simpa using h
theorem RowN.at {B n c : Nat} {w : World} {a : Option Addr} {l : List Int} (h : RowN B w (.slice a n c) l) {k : Nat} (hk : k < l.length) : ∃ g off, a = some ⟨g, off, none⟩ ∧ w.cell? ⟨g, off + k, none⟩ = some (.int .i64 l[k]) := by
  have hown := h
  unfold RowN at hown
  rcases hown.2 with ⟨hv, hn⟩ | ⟨g, cap, cur, hv, h1, h2, h3, h4, h5, h6⟩
  · omega
  · injection hv with e1 e2 e3
    refine ⟨g, 0, e1, ?_⟩
    have := hown.cells (g := g) (by rw [e1]; rfl) k (.int .i64 l[k]) (by rw [List.getElem?_map, List.getElem?_eq_getElem hk]; rfl)
    rw [Addr.add_lit, Nat.zero_add] at this
    rw [Nat.zero_add]
    exact this
theorem one_num (w : World) (s : Int) (T : TypeId) : ∀ (j : Nat) u, ([.int .i64 s] : List Value)[j]? = some u → (w.alloc (.cells #[.int .i64 s] T)).cell? ((⟨w.heap.size, 0, none⟩ : Addr).add j) = some u := by
  intro j u h
  match j, h with
  | 0, h => cases h; rw [Addr.add_lit]; simp [go_sem]
theorem int_cells {s : Int} : ∀ u ∈ [Value.int .i64 s], u.oneCell' = true := by
  intro u hu
  simp at hu
  subst hu; rfl
/-- The ids of the statements of a kind. -/
def isKind (kind : Int) (s : St) : Bool := kind == 0 || s.kind == kind
def idsK (kind : Int) (l : List It) : List Int := (l.filter fun t => isKind kind t.s).map fun t => t.s.id
def idsP (p : Pr) (kind : Int) : List Int := idsK kind (allOf p)
theorem idsK_len (kind : Int) (l : List It) : (idsK kind l).length ≤ l.length := by unfold idsK; rw [List.length_map]; exact List.length_filter_le _ _
theorem idsK_yes {kind : Int} {l : List It} {k : Nat} (hk : k < l.length) (h : isKind kind l[k].s = true) : idsK kind (l.take (k + 1)) = idsK kind (l.take k) ++ [l[k].s.id] := by
  unfold idsK
  rw [List.take_succ_eq_append_getElem hk, List.filter_append, List.map_append, List.filter_cons, if_pos h]
  rfl
theorem idsK_no {kind : Int} {l : List It} {k : Nat} (hk : k < l.length) (h : isKind kind l[k].s = false) : idsK kind (l.take (k + 1)) = idsK kind (l.take k) := by
  unfold idsK
  rw [List.take_succ_eq_append_getElem hk, List.filter_append, List.map_append, List.filter_cons, if_neg (by rw [h]; exact Bool.false_ne_true)]
  simp
def IdsMade (l : List Int) (w : World) (e : Ending) (w' : World) : Prop := ∃ v, e = .returned v ∧ RowN w.heap.size w' v l ∧ Below w.heap.size w w'
set_option maxHeartbeats 4000000 in
set_option maxRecDepth 100000 in
theorem ids_any (d : Nat) (p : Pr) (gv pv : Value) (kind : Int) (w : World) (hp : PrC (cw w) d gv pv p) :
    Calls Try.prog 22 #[.agg #[gv, pv], .int .i64 kind] w (IdsMade (idsP p kind) w) := by
  obtain ⟨i0, hi, hz0, hz1, hz2⟩ := info_parts infoInt
  obtain ⟨ga, gc, rfl, hgl1, hgl2⟩ := hp.1.form
  obtain ⟨pa, pc, rfl, hl1, hl2⟩ := hp.2.form
  have hpl : p.procs.length ≤ 9223372036854775807 := Nat.le_trans hl1 hl2
  have HP := Lib.hid hp
  clear hp hl1 hl2 hgl1 hgl2
  obtain ⟨KK, hKK⟩ : ∃ L, Hid (idsP p kind = L) := ⟨_, Lib.hid rfl⟩
  rw [hKK.out]
  go_enter Try.func22, Try.ntmps22
  go_upto_region 1 with fail
  refine cut_world (fun wx => Below w.heap.size w wx ∧ BoxAt wx w.heap.size [.slice ga p.globals.length gc, .slice pa p.procs.length pc]) ⟨boxed _ _, box_new w #[.slice ga p.globals.length gc, .slice pa p.procs.length pc] 25⟩ ?_
  rintro w1 ⟨hb1, hx1⟩
  have HB1 := Lib.hid hb1
  have HX1 := Lib.hid hx1
  have HP1 := Lib.hid (PrC.mono (cw_next hb1) HP.out)
  clear hb1 hx1
  have x0 := HX1.out 0 _ rfl
  have x1 := HX1.out 1 _ rfl
  go_wp2_with fail
  refine (allOf_any d p _ _ _ HP1.out).mono ?_
  rintro e wK ⟨v, rows, rfl, hrow, hbK⟩
  have hsl := hrow.sl
  have hlen := allOf_len p
  obtain ⟨PT, hPT⟩ : ∃ L, Hid (allOf p = L) := ⟨_, Lib.hid rfl⟩
  have hkk : idsK kind PT = KK := by rw [← hPT.out]; exact hKK.out
  have HKKK := Lib.hid hkk
  clear hkk
  rw [hPT.out] at hsl hlen
  obtain ⟨ia, ic, rfl, hil1, hil2⟩ := hsl.form
  have hil : PT.length ≤ 9223372036854775807 := Nat.le_trans hil1 hil2
  have HLK := Lib.hid hsl
  have HLEN := Lib.hid hlen
  have HBK := Lib.hid (HB1.out.trans (hbK.mono HB1.out.size))
  clear hsl hrow hbK x0 x1 hil1 hil2 hlen
  go_wp2_with fail
  obtain ⟨WK, hWK⟩ : ∃ x : World, x = wK := ⟨_, rfl⟩
  subst hWK
  have hBW : w.heap.size ≤ WK.heap.size := HBK.out.size
  go_loopw [11, 5] (fun i v wr => ∃ (q : Nat) (v0 : Value), q ≤ PT.length ∧ i = .int .i64 q ∧ v = v0 ∧ RowN WK.heap.size wr v0 (idsK kind (PT.take q)) ∧ Below WK.heap.size WK wr) (fun i _ _ => (PT.length - intOf i).toNat)
  case atStart => exact ⟨0, _, by omega, rfl, rfl, RowN.nil _ _, Below.refl _ _⟩
  case round =>
    obtain ⟨q, v0, hq, rfl, rfl, hr9, hbq⟩ := hrel
    obtain ⟨w9, hw9⟩ : ∃ x : World, x = wr := ⟨_, rfl⟩
    subst hw9
    have HBQ9 := Lib.hid hbq
    have HR9 := Lib.hid hr9
    have HL9 := Lib.hid (SlAt.imp HLK.out fun _ _ _ _ => ItAt.mono (cw_next hbq))
    obtain ⟨va, vc, rfl⟩ := ownsForm hr9
    clear hr9 hbq
    by_cases hlq : q < PT.length
    · have hlq' : (q : Int) < (PT.length : Int) := by omega
      have h0q : (0 : Int) ≤ (q : Int) := by omega
      obtain ⟨gi, oi, hvi, hfi⟩ := its6_at HL9.out hlq
      cases hvi
      have hyes := idsK_yes (kind := kind) hlq
      have hno := idsK_no (kind := kind) hlq
      have hlk : (idsK kind (PT.take q)).length ≤ 401 := Nat.le_trans (idsK_len _ _) (by rw [List.length_take]; have := HLEN.out; omega)
      obtain ⟨LK, hLK⟩ : ∃ L, Hid (idsK kind (PT.take q) = L) := ⟨_, Lib.hid rfl⟩
      obtain ⟨t, ht⟩ : ∃ t, Hid (PT[q] = t) := ⟨_, Lib.hid rfl⟩
      rw [ht.out] at hfi
      rw [hLK.out] at hlk
      rw [ht.out, hLK.out] at hyes hno
      have HYES := Lib.hid hyes
      have HNO := Lib.hid hno
      have HRL : Hid (RowN WK.heap.size w9 (.slice va (idsK kind (PT.take q)).length vc) LK) := Lib.hid (by rw [← hLK.out]; exact HR9.out)
      rw [hLK.out] at HRL
      try rw [hLK.out]
      clear HR9 hyes hno
      obtain ⟨la, ka, aa, ta, ea, lc, kc, ac, tc, ec, hrest⟩ := it_open hfi
      have hce := hrest.1
      have HCE := Lib.hid hce
      clear hfi hce hrest
      have HI0 : Hid (BoxAt (w9.alloc (.cells #[.int .i64 0, .int .i64 0, .slice none 0 0, .string ⟨#[]⟩, .string ⟨#[]⟩, .int .i64 0, .int .i64 0, .string ⟨#[]⟩, .slice none 0 0, .bool false, .slice none 0 0, .slice none 0 0, .slice none 0 0, .int .i64 0, .int .i64 0, .bool false] 76)) w9.heap.size [.int .i64 0, .int .i64 0, .slice none 0 0, .string ⟨#[]⟩, .string ⟨#[]⟩, .int .i64 0, .int .i64 0, .string ⟨#[]⟩, .slice none 0 0, .bool false, .slice none 0 0, .slice none 0 0, .slice none 0 0, .int .i64 0, .int .i64 0, .bool false]) := Lib.hid (box_new w9 #[.int .i64 0, .int .i64 0, .slice none 0 0, .string ⟨#[]⟩, .string ⟨#[]⟩, .int .i64 0, .int .i64 0, .string ⟨#[]⟩, .slice none 0 0, .bool false, .slice none 0 0, .slice none 0 0, .slice none 0 0, .int .i64 0, .int .i64 0, .bool false] 76)
      have HF0 : Hid (Free (w9.alloc (.cells #[.int .i64 0, .int .i64 0, .slice none 0 0, .string ⟨#[]⟩, .string ⟨#[]⟩, .int .i64 0, .int .i64 0, .string ⟨#[]⟩, .slice none 0 0, .bool false, .slice none 0 0, .slice none 0 0, .slice none 0 0, .int .i64 0, .int .i64 0, .bool false] 76)) w9.heap.size) := Lib.hid (fun j => by simp [go_sem])
      have hzi := World.size_alloc w9 (.cells #[.int .i64 0, .int .i64 0, .slice none 0 0, .string ⟨#[]⟩, .string ⟨#[]⟩, .int .i64 0, .int .i64 0, .string ⟨#[]⟩, .slice none 0 0, .bool false, .slice none 0 0, .slice none 0 0, .slice none 0 0, .int .i64 0, .int .i64 0, .bool false] 76)
      go_upto_region 5 with (first | refine wpList_load_mid rfl 76 (.tmp 13) rfl gi (oi + q * 16) rfl [.int .i64 t.s.id, .int .i64 t.s.kind, .slice la t.s.labels.length lc, .string t.s.nm, .string t.s.proc, .int .i64 t.s.x.op, .int .i64 t.s.x.n, .string t.s.x.nm, .slice ka t.s.x.ks.length kc, .bool t.s.has, .slice aa t.s.args.length ac, .slice ta t.s.thn.length tc, .slice ea t.s.els.length ec, .int .i64 t.deep, .int .i64 t.inn, .bool t.els] _ (fun j v hv => HCE.out j v hv) Try.underlying76 rfl (by kernel_rfl) ?_ | refine wpList_store_mid rfl 76 (.tmp 7) (.tmp 14) rfl w9.heap.size 0 #[.int .i64 t.s.id, .int .i64 t.s.kind, .slice la t.s.labels.length lc, .string t.s.nm, .string t.s.proc, .int .i64 t.s.x.op, .int .i64 t.s.x.n, .string t.s.x.nm, .slice ka t.s.x.ks.length kc, .bool t.s.has, .slice aa t.s.args.length ac, .slice ta t.s.thn.length tc, .slice ea t.s.els.length ec, .int .i64 t.deep, .int .i64 t.inn, .bool t.els] rfl rfl (box_there (n := 16) HI0.out HF0.out (by simp)) (by kernel_rfl) (by simp [Value.oneCell']) ?_)
      refine cut_world (fun wx => Below w9.heap.size w9 wx ∧ BoxAt wx w9.heap.size [.int .i64 t.s.id, .int .i64 t.s.kind, .slice la t.s.labels.length lc, .string t.s.nm, .string t.s.proc, .int .i64 t.s.x.op, .int .i64 t.s.x.n, .string t.s.x.nm, .slice ka t.s.x.ks.length kc, .bool t.s.has, .slice aa t.s.args.length ac, .slice ta t.s.thn.length tc, .slice ea t.s.els.length ec, .int .i64 t.deep, .int .i64 t.inn, .bool t.els]) ⟨setCells_below _ _ (boxed w9 _) (Nat.le_refl _), box_over (old := [.int .i64 0, .int .i64 0, .slice none 0 0, .string ⟨#[]⟩, .string ⟨#[]⟩, .int .i64 0, .int .i64 0, .string ⟨#[]⟩, .slice none 0 0, .bool false, .slice none 0 0, .slice none 0 0, .slice none 0 0, .int .i64 0, .int .i64 0, .bool false]) (xs := [.int .i64 t.s.id, .int .i64 t.s.kind, .slice la t.s.labels.length lc, .string t.s.nm, .string t.s.proc, .int .i64 t.s.x.op, .int .i64 t.s.x.n, .string t.s.x.nm, .slice ka t.s.x.ks.length kc, .bool t.s.has, .slice aa t.s.args.length ac, .slice ta t.s.thn.length tc, .slice ea t.s.els.length ec, .int .i64 t.deep, .int .i64 t.inn, .bool t.els]) (rest := []) HI0.out HF0.out rfl⟩ ?_
      clear hzi HI0 HF0
      rintro wa ⟨hba, hta⟩
      have t0 := hta 0 _ rfl
      have t1 := hta 1 _ rfl
      have HTA := Lib.hid hta
      have HRA := Lib.hid (HRL.out.next hba)
      have HBA := Lib.hid (HBQ9.out.trans (hba.mono HBQ9.out.size))
      have hWa : WK.heap.size ≤ wa.heap.size := HBA.out.size
      clear hba hta
      cases hk : isKind kind t.s with
      | true =>
        have HST := Lib.hid (HYES.out hk)
        have HKK : Hid ((kind == 0) = true ∨ (kind == 0) = false ∧ (t.s.kind == kind) = true) := Lib.hid (by unfold isKind at hk; cases h : (kind == 0) <;> rw [h] at hk <;> simp_all)
        clear hk
        refine HKK.out.elim (fun hk0 => ?_) (fun hk0 => ?_)
        · go_wp2_with (at_builtin; refine wpList_append_lies _ rfl (.tmp 24) (.tmp 28) 33 rfl WK.heap.size 3 i0 (.int .i64 0) 1 8 Try.underlying33 hi hz0 hz1 hz2 rfl (by decide) _ _ _ rfl ((HRA.out.next (boxed _ _))) ⟨_, 0, none⟩ 1 1 [.int .i64 t.s.id] rfl rfl ?c1 int_cells (by decide) ?c3 ?c4 ?c5 _ rfl ?_)
          case c1 => exact one_num _ _ _
          case c3 => unfold maxLen; omega
          case c4 => omega
          case c5 => first | omega | (simp; omega)
          intro g4 cap4 w4 hown4 hg4 hat4 hlt4
          have hgg := (grown_of (boxed wa _) _).trans hg4
          have HR4 := Lib.hid (RowN.one hown4)
          have HG4 := Lib.hid hgg
          clear hown4 hg4 hat4 hlt4 hgg
          go_wp2_with fail
          go_roundw
          case rel =>
            refine ⟨q + 1, _, by omega, by go_num, rfl, ?_, HBA.out.grown HG4.out HBA.out.size fun q hq => ?_⟩
            · rw [HST.out]; exact HR4.out
            · have := (HRA.out.lt q hq).1; omega
          case measure => simp [intOf]; omega
        · obtain ⟨hk0, hk1⟩ := hk0
          go_wp2_with (at_builtin; refine wpList_append_lies _ rfl (.tmp 24) (.tmp 28) 33 rfl WK.heap.size 3 i0 (.int .i64 0) 1 8 Try.underlying33 hi hz0 hz1 hz2 rfl (by decide) _ _ _ rfl ((HRA.out.next (boxed _ _))) ⟨_, 0, none⟩ 1 1 [.int .i64 t.s.id] rfl rfl ?c1 int_cells (by decide) ?c3 ?c4 ?c5 _ rfl ?_)
          case c1 => exact one_num _ _ _
          case c3 => unfold maxLen; omega
          case c4 => omega
          case c5 => first | omega | (simp; omega)
          intro g4 cap4 w4 hown4 hg4 hat4 hlt4
          have hgg := (grown_of (boxed wa _) _).trans hg4
          have HR4 := Lib.hid (RowN.one hown4)
          have HG4 := Lib.hid hgg
          clear hown4 hg4 hat4 hlt4 hgg
          go_wp2_with fail
          go_roundw
          case rel =>
            refine ⟨q + 1, _, by omega, by go_num, rfl, ?_, HBA.out.grown HG4.out HBA.out.size fun q hq => ?_⟩
            · rw [HST.out]; exact HR4.out
            · have := (HRA.out.lt q hq).1; omega
          case measure => simp [intOf]; omega
      | false =>
        have HST := Lib.hid (HNO.out hk)
        have hkk : (kind == 0) = false ∧ (t.s.kind == kind) = false := by unfold isKind at hk; rw [Bool.or_eq_false_iff] at hk; exact hk
        obtain ⟨hk0, hk1⟩ := hkk
        clear hk
        go_wp2_with fail
        go_roundw
        case rel => exact ⟨q + 1, _, by omega, by go_num, rfl, by rw [HST.out]; exact HRA.out, HBA.out⟩
        case measure => simp [intOf]; omega
    · have hlq' : ¬ (q : Int) < (PT.length : Int) := by omega
      have hall : idsK kind (PT.take q) = KK := by rw [List.take_of_length_le (by omega)]; exact HKKK.out
      have hz9 : RowN w.heap.size w9 (.slice va (idsK kind (PT.take q)).length vc) KK := by rw [← hall]; exact HR9.out.mono hBW
      have HZ9 := Lib.hid hz9
      clear hall hz9
      go_wp2_with fail
      go_ret
      exact ⟨_, rfl, HZ9.out, HBK.out.trans (HBQ9.out.mono HBK.out.size)⟩
/-- One of some numbers, by a number. -/
def pickP (l : List Int) (n : Int) : Int := (l[(n % (l.length : Int)).toNat]?).getD 0
theorem pick_some {l : List Int} {n : Int} (hk : 0 < l.length) : pickP l n = l[(n % (l.length : Int)).toNat]'(mod_at hk).1 := by
  unfold pickP
  rw [List.getElem?_eq_getElem (mod_at hk).1]
  rfl
theorem pick_none {l : List Int} {n : Int} (hk : l.length = 0) : pickP l n = 0 := by
  unfold pickP
  rw [List.getElem?_eq_none (by omega)]
  rfl
set_option maxHeartbeats 2000000 in
set_option maxRecDepth 100000 in
theorem pick_any (B : Nat) (l : List Int) (v : Value) (n : Int) (w : World) (hr : RowN B w v l) (hn1 : -9223372036854775808 ≤ n) (hn2 : n ≤ 9223372036854775807) (hm : l.length ≤ 1000000) :
    Calls Try.prog 21 #[v, .int .i64 n] w fun e w' => e = .returned (.int .i64 (pickP l n)) ∧ Below w.heap.size w w' := by
  obtain ⟨a, c, rfl⟩ := ownsForm hr
  have HR := Lib.hid hr
  clear hr
  obtain ⟨KK, hKK⟩ : ∃ s, Hid (pickP l n = s) := ⟨_, Lib.hid rfl⟩
  rw [hKK.out]
  go_enter Try.func21, Try.ntmps21
  by_cases hz : l.length = 0
  · have hs : KK = 0 := by rw [← hKK.out]; exact pick_none hz
    have hz1 : ((l.length : Int) == 0) = true := by rw [hz]; rfl
    have HZ := Lib.hid hz
    subst hs
    clear hz
    go_wp2_with fail
    go_ret
    exact ⟨rfl, Below.refl _ _⟩
  · have hz1 : ((l.length : Int) == 0) = false := by simpa using hz
    have hpos : 0 < l.length := by omega
    obtain ⟨m, hmm⟩ : ∃ m, m = (n % (l.length : Int)).toNat := ⟨_, rfl⟩
    have hlt : m < l.length := by rw [hmm]; exact (mod_at hpos).1
    have hmi : n % (l.length : Int) = (m : Int) := by rw [hmm]; exact (mod_at hpos).2
    have hs : KK = l[m] := by rw [← hKK.out, pick_some hpos]; subst hmm; rfl
    have hlt' : (m : Int) < (l.length : Int) := by omega
    have h0m : (0 : Int) ≤ (m : Int) := by omega
    have hk1 : (1 : Int) ≤ (l.length : Int) := by omega
    have hk2 : (l.length : Int) ≤ 1000000 := by omega
    have HS := Lib.hid hs
    have HMI := Lib.hid hmi
    obtain ⟨g, off, hvp, e0⟩ := HR.out.at hlt
    cases hvp
    clear hs hmi hmm hz
    go_wp2_with fail
    refine (mod_any n (l.length : Int) (m : Int) _ hn1 hn2 hk1 hk2 HMI.out).mono ?_
    rintro e w2 ⟨rfl, rfl⟩
    go_wp2_with fail
    go_ret
    exact ⟨by rw [HS.out]; rfl, Below.refl _ _⟩
end Go.Proofs.Ytghlmengcidmdaa.Tr
end
section
/- A statement by its id; what the checks tell of a program in which one statement is put for another. No program's code. Conditions: the program may be. -/
namespace Go.Proofs.Ytghlmengcidmdaa.Tr
open Go.RowKit Go.Proofs.Ytghlmengcidmdaa.Lx Go.Proofs.Ytghlmengcidmdaa.Wd
/-- A statement that is picked. -/
structure Picked (p : Pr) (id : Int) (s : St) (k : Nat) : Prop where
  lt : k < p.procs.length
  mem : ∃ t ∈ itsOf (p.procs[k]'lt), t.s = s ∧ find6 id p.procs = some (t, (p.procs[k]'lt).nm)
  id : s.id = id
theorem Picked.st {p : Pr} {id : Int} {s : St} {k : Nat} (h : Picked p id s k) : s ∈ stsOf (p.procs[k]'h.lt) := by
  obtain ⟨t, h1, rfl, -⟩ := h.mem
  exact List.mem_map.2 ⟨t, h1, rfl⟩
theorem ids_in {p : Pr} (h : mayP p = true) {kind id : Int} (hid : id ∈ idsP p kind) : ∃ s k, Picked p id s k ∧ isKind kind s = true := by
  unfold idsP idsK at hid
  obtain ⟨t, ht, rfl⟩ := List.mem_map.1 hid
  obtain ⟨ht1, ht2⟩ := List.mem_filter.1 ht
  obtain ⟨k, hk, htk⟩ := all_its_mem h ht1
  exact ⟨t.s, k, ⟨hk, ⟨t, htk, rfl, find6_its h hk htk⟩, rfl⟩, ht2⟩
theorem pick_mem {l : List Int} {n : Int} (h : pickP l n ≠ 0) : pickP l n ∈ l := by
  rcases Nat.eq_zero_or_pos l.length with h0 | h0
  · exact absurd (pick_none h0) h
  · rw [pick_some h0]
    exact List.getElem_mem _
theorem picked {p : Pr} (h : mayP p = true) {kind n : Int} (h0 : pickP (idsP p kind) n ≠ 0) : ∃ s k, Picked p (pickP (idsP p kind) n) s k ∧ isKind kind s = true := ids_in h (pick_mem h0)
end Go.Proofs.Ytghlmengcidmdaa.Tr
end
section
/- Up from a statement to the innermost loop around it, by ids. No program's code. Conditions: the program may be. -/
namespace Go.Proofs.Ytghlmengcidmdaa.Tr
open Go.RowKit Go.Proofs.Ytghlmengcidmdaa.Lx Go.Proofs.Ytghlmengcidmdaa.Wd
/-- Each item's parent stands ahead of it. -/
def parAll (P : List It) : List It → Prop
  | [] => True
  | t :: X => (t.inn = 0 ∨ ∃ u ∈ P, u.s.id = t.inn) ∧ parAll (P ++ [t]) X
theorem parAll_append : ∀ (X Y P : List It), parAll P (X ++ Y) ↔ parAll P X ∧ parAll (P ++ X) Y := by
  intro X
  induction X with
  | nil => intro Y P; simp [parAll]
  | cons t X ih => intro Y P; rw [List.cons_append, parAll, parAll, ih, List.append_assoc, List.singleton_append, and_assoc]
theorem parAll_get : ∀ (X P : List It), parAll P X → ∀ j (hj : j < X.length), X[j].inn = 0 ∨ ∃ u ∈ P ++ X.take j, u.s.id = X[j].inn := by
  intro X
  induction X with
  | nil => intro P _ j hj; exact absurd hj (by simp)
  | cons t X ih =>
    intro P h j hj
    rw [parAll] at h
    cases j with
    | zero => rw [List.getElem_cons_zero, List.take_zero, List.append_nil]; exact h.1
    | succ j =>
      rw [List.getElem_cons_succ, List.take_succ_cons]
      have := ih (P ++ [t]) h.2 j (by simpa using hj)
      rwa [List.append_assoc, List.singleton_append] at this
mutual
theorem parS : ∀ (s : St) (P : List It) (deep inn : Int) (els : Bool), (inn = 0 ∨ ∃ u ∈ P, u.s.id = inn) → parAll P (preS deep inn els s)
  | .mk i k ls nm pr x h ar th el, P, deep, inn, els => fun hp => by
    rw [preS, parAll, parAll_append]
    refine ⟨hp, parL th _ _ _ _ (.inr ⟨_, List.mem_append_right _ (List.mem_singleton.2 rfl), rfl⟩), parL el _ _ _ _ (.inr ⟨_, List.mem_append_left _ (List.mem_append_right _ (List.mem_singleton.2 rfl)), rfl⟩)⟩
theorem parL : ∀ (l : List St) (P : List It) (deep inn : Int) (els : Bool), (inn = 0 ∨ ∃ u ∈ P, u.s.id = inn) → parAll P (preL deep inn els l)
  | [], P, deep, inn, els => fun _ => by rw [preL]; trivial
  | s :: r, P, deep, inn, els => fun hp => by
    rw [preL_cons, parAll_append]
    exact ⟨parS s P deep inn els hp, parL r _ deep inn els (hp.imp id fun ⟨u, hu, he⟩ => ⟨u, List.mem_append_left _ hu, he⟩)⟩
end
theorem par_its (f : Pc) {j : Nat} (hj : j < (itsOf f).length) : (itsOf f)[j].inn = 0 ∨ ∃ m, ∃ hm : m < j, ((itsOf f)[m]'(by omega)).s.id = (itsOf f)[j].inn := by
  rcases parAll_get (itsOf f) [] (parL f.body [] 1 0 false (.inl rfl)) j hj with h | ⟨u, hu, he⟩
  · exact .inl h
  · right
    rw [List.nil_append] at hu
    obtain ⟨m, hm, rfl⟩ := List.getElem_of_mem hu
    rw [List.length_take] at hm
    rw [List.getElem_take] at he
    exact ⟨m, by omega, he⟩
/-- The innermost loop from the item at m on. -/
def upP (L : List It) (m : Nat) : Int := match L[m]? with
  | some t => if t.s.kind = 6 then t.s.id else climb L m t.inn
  | none => 0
theorem upP_at {L : List It} {m : Nat} (hm : m < L.length) : upP L m = if L[m].s.kind = 6 then L[m].s.id else climb L m L[m].inn := by
  unfold upP
  rw [List.getElem?_eq_getElem hm]
theorem climb_down {L : List It} {n : Int} (hn : n ≠ 0) {m : Nat} (hm : m < L.length) (he : L[m].s.id = n) : ∀ j, m < j → j ≤ L.length → (∀ k (hk : k < L.length), m < k → L[k].s.id ≠ n) → climb L j n = upP L m := by
  intro j
  induction j with
  | zero => intro h; omega
  | succ j ih =>
    intro hj hl hno
    simp only [climb]
    rw [if_neg hn, List.getElem?_eq_getElem (by omega)]
    simp only
    by_cases hmj : m = j
    · subst hmj
      rw [upP_at hm, he]
      simp
    · rw [if_pos (hno j (by omega) (by omega))]
      exact ih (by omega) (by omega) hno
/-- One step up. -/
theorem chain_step {f : Pc} {n : Int} (h : mayPc n f = true) (h0 : 0 ≤ n) {m : Nat} (hm : m < (itsOf f).length) : ((itsOf f)[m].inn = 0 ∧ climb (itsOf f) m (itsOf f)[m].inn = 0) ∨ ∃ k, ∃ hk : k < m, ((itsOf f)[k]'(by omega)).s.id = (itsOf f)[m].inn ∧ (itsOf f)[m].inn ≠ 0 ∧ climb (itsOf f) m (itsOf f)[m].inn = upP (itsOf f) k := by
  rcases par_its f hm with h1 | ⟨k, hk, he⟩
  · exact .inl ⟨h1, by rw [h1]; exact climb_zero _ _⟩
  · right
    have hid := its_at_id h (show k < (itsOf f).length by omega)
    refine ⟨k, hk, he, by omega, ?_⟩
    rw [← he]
    refine climb_down (by omega) (by omega) rfl m hk (by omega) fun j hj hkj => ?_
    rw [its_at_id h, its_at_id h]
    omega
/-- Where a walk up stands: at no statement, or at the one of id n. -/
def Chain (p : Pr) (V n : Int) : Prop := (n = 0 ∧ V = 0) ∨ ∃ k, ∃ hk : k < p.procs.length, ∃ m, ∃ hm : m < (itsOf p.procs[k]).length, (itsOf p.procs[k])[m].s.id = n ∧ n ≠ 0 ∧ 0 < n ∧ V = upP (itsOf p.procs[k]) m
theorem chain_of {p : Pr} (h : mayP p = true) {k : Nat} (hk : k < p.procs.length) {m : Nat} (hm : m < (itsOf p.procs[k]).length) : Chain p (climb (itsOf p.procs[k]) m (itsOf p.procs[k])[m].inn) (itsOf p.procs[k])[m].inn ∧ (itsOf p.procs[k])[m].inn < (itsOf p.procs[k])[m].s.id := by
  have hmk := mayPs_nth (mayP_procs h) k hk
  have hid := its_at_id hmk hm
  rcases chain_step hmk (by omega) hm with ⟨h1, h2⟩ | ⟨j, hj, h1, h2, h3⟩
  · exact ⟨.inl ⟨h1, h2⟩, by rw [h1]; omega⟩
  · have hj2 := its_at_id hmk (show j < (itsOf p.procs[k]).length by omega)
    exact ⟨.inr ⟨k, hk, j, by omega, h1, h2, by omega, h3⟩, by omega⟩
theorem chain_first {p : Pr} (h : mayP p = true) (id : Int) : Chain p (loopP p id) (it6 p id).inn := by
  unfold it6
  cases hf : find6 id p.procs with
  | none => exact .inl ⟨rfl, find6_out h hf⟩
  | some q =>
    obtain ⟨t, nm⟩ := q
    obtain ⟨k, hk, ht, -, hid⟩ := find6_in h hf
    obtain ⟨m, hm, rfl⟩ := List.getElem_of_mem ht
    have h1 := chain_of h hk hm
    have hmk := mayPs_nth (mayP_procs h) k hk
    have h2 := loop_its h hk hm
    have h3 : loopP p id = climb (itsOf p.procs[k]) m (itsOf p.procs[k])[m].inn := by
      rw [← hid, h2, around_up (itsOf p.procs[k]) _ hm rfl (fun j hj hjm => ?_) _ hm]
      rw [its_at_id hmk, its_at_id hmk]
      omega
    rw [h3]
    exact h1.1
theorem chain_next {p : Pr} (h : mayP p = true) {V n : Int} (hc : Chain p V n) (hn : n ≠ 0) : 0 < n ∧ (it6 p n).s.id = n ∧ (((it6 p n).s.kind = 6 ∧ V = n) ∨ ((it6 p n).s.kind ≠ 6 ∧ Chain p V (it6 p n).inn ∧ (it6 p n).inn < n)) := by
  rcases hc with ⟨h1, -⟩ | ⟨k, hk, m, hm, he, -, hpos, hv⟩
  · exact absurd h1 hn
  · have hf := find6_its h hk (List.getElem_mem hm)
    rw [he] at hf
    have hit : it6 p n = (itsOf p.procs[k])[m] := by unfold it6; rw [hf]; rfl
    rw [hit]
    rw [upP_at hm] at hv
    have h1 := chain_of h hk hm
    refine ⟨hpos, he, ?_⟩
    by_cases h6 : (itsOf p.procs[k])[m].s.kind = 6
    · rw [if_pos h6] at hv
      exact .inl ⟨h6, by rw [hv, he]⟩
    · rw [if_neg h6] at hv
      refine .inr ⟨h6, by rw [hv]; exact h1.1, by rw [← he]; exact h1.2⟩
end Go.Proofs.Ytghlmengcidmdaa.Tr
end
section
/- The law JumpLoop, walked: it returns true. Conditions: the arguments lie in memory. -/
namespace Go.Proofs.Ytghlmengcidmdaa.Tr
open Go.RowKit Go.Proofs.Ytghlmengcidmdaa.Lx Go.Proofs.Ytghlmengcidmdaa.Wd
set_option linter.unusedSimpArgs false
set_option maxHeartbeats 8000000 in
set_option maxRecDepth 100000 in
theorem law_jumpLoop {w : World} (d : Nat) (p : Pr) (gv pv : Value) (hp : PrC (cw w) d gv pv p) (n : Int) (hn0 : (Lit.int .i64 n).wf = true) :
    Calls Try.prog 12 #[.agg #[gv, pv], .int .i64 n] w fun e w' => e = .returned (.bool true) ∧ Below w.heap.size w w' := by
  obtain ⟨ga, gc, rfl, -, -⟩ := hp.1.form
  obtain ⟨pa, pc, rfl, hpl1, hpl2⟩ := hp.2.form
  have hpl : p.procs.length ≤ 9223372036854775807 := Nat.le_trans hpl1 hpl2
  have HP := Lib.hid hp
  clear hp hpl1 hpl2
  have hn : InI n := wf_in hn0
  clear hn0
  go_enter Try.func12, Try.ntmps12
  go_upto_region 1 with fail
  refine cut_world (fun wx => Below w.heap.size w wx ∧ BoxAt wx w.heap.size [.slice ga p.globals.length gc, .slice pa p.procs.length pc]) ⟨boxed _ _, box_new w #[.slice ga p.globals.length gc, .slice pa p.procs.length pc] 25⟩ ?_
  rintro w1 ⟨hb1, hx1⟩
  have HB1 := Lib.hid hb1
  have HX1 := Lib.hid hx1
  have HP1 := Lib.hid (PrC.mono (cw_next hb1) HP.out)
  clear hb1 hx1
  have p0 := HX1.out 0 _ rfl
  have p1 := HX1.out 1 _ rfl
  go_wp2_with fail
  refine (jumping_any _).mono ?_
  rintro e w2 ⟨rfl, hb2⟩
  have HX2 := Lib.hid (HX1.out.next hb2)
  have HP2 := Lib.hid (PrC.mono (cw_next hb2) HP1.out)
  have HB2 := Lib.hid (HB1.out.trans (hb2.mono HB1.out.size))
  clear hb2
  clear p0 p1
  have p0 := HX2.out 0 _ rfl
  have p1 := HX2.out 1 _ rfl
  go_wp2_with fail
  refine (fits_any d p _ _ _ HP2.out).mono ?_
  rintro e w3 ⟨b1, hf1, rfl, hb3⟩
  have HF1 := Lib.hid hf1
  clear hf1
  have HX3 := Lib.hid (HX2.out.next hb3)
  have HP3 := Lib.hid (PrC.mono (cw_next hb3) HP2.out)
  have HB3 := Lib.hid (HB2.out.trans (hb3.mono HB2.out.size))
  clear hb3
  clear p0 p1
  cases b1 with
  | false =>
    have p0 := HX3.out 0 _ rfl
    have p1 := HX3.out 1 _ rfl
    go_wp2_with fail
    go_ret
    exact ⟨rfl, HB3.out⟩
  | true =>
    have HWP := Lib.hid (HF1.out (by simp))
    have HROOM := Lib.hid (RoomP.of (Nat.le_trans HWP.out (by decide)))
    clear HF1
    have p0 := HX3.out 0 _ rfl
    have p1 := HX3.out 1 _ rfl
    go_wp2_with fail
    refine (scheck_any d p _ _ _ HP3.out HROOM.out).mono ?_
    rintro e w4 ⟨rfl, hb4⟩
    obtain ⟨SC, hSC⟩ : ∃ r, Hid ((scopeP p).1 = r) := ⟨_, Lib.hid rfl⟩
    obtain ⟨SI, hSI⟩ : ∃ r, Hid ((scopeP p).2 = r) := ⟨_, Lib.hid rfl⟩
    rw [hSC.out, hSI.out]
    have HX4 := Lib.hid (HX3.out.next hb4)
    have HP4 := Lib.hid (PrC.mono (cw_next hb4) HP3.out)
    have HB4 := Lib.hid (HB3.out.trans (hb4.mono HB3.out.size))
    clear hb4
    clear p0 p1
    have hfd := run_code SC SI
    by_cases hz : SC = 0
    · have hz1 : (SC == 0) = true := by simpa using hz
      have HWELL := Lib.hid (hSC.out.trans hz)
      have HMAY := Lib.hid (scope_code HWELL.out).1
      have HP4 := Lib.hid (PrC.le6 (show d ≤ d + 1 by omega) HP4.out)
      clear hz
      go_upto_region 7 with fail
      clear hfd hz1
      have p0 := HX4.out 0 _ rfl
      have p1 := HX4.out 1 _ rfl
      go_wp2_with fail
      refine (ids_any (d + 1) p _ _ 0 _ HP4.out).mono ?_
      rintro e w5 ⟨v5, rfl, hr5, hb5⟩
      have HR5 := Lib.hid hr5
      have hlen : (idsP p 0).length ≤ 1000000 := Nat.le_trans (idsK_len _ _) (Nat.le_trans (allOf_len p) (by omega))
      clear hr5
      have HX5 := Lib.hid (HX4.out.next hb5)
      have HP5 := Lib.hid (PrC.mono (cw_next hb5) HP4.out)
      have HB5 := Lib.hid (HB4.out.trans (hb5.mono HB4.out.size))
      clear hb5
      clear p0 p1
      go_wp2_with fail
      refine (pick_any _ (idsP p 0) _ n _ HR5.out hn.1 hn.2 hlen).mono ?_
      rintro e w6 ⟨rfl, hb6⟩
      have hidb : InI (pickP (idsP p 0) n) := by
        by_cases h0 : pickP (idsP p 0) n = 0
        · rw [h0]; exact inI0
        · obtain ⟨s, k, hs, -⟩ := picked HMAY.out h0
          have hm := mayPs_nth (mayP_procs HMAY.out) k hs.lt
          have h1 := sts_range hm hs.st
          have h2 := cntP_take hs.lt
          have h3 := cntP_le p.procs (k + 1)
          have h4 := mayP_cnt HMAY.out
          rw [hs.id] at h1
          constructor <;> omega
      obtain ⟨ID, hID⟩ : ∃ k, Hid (pickP (idsP p 0) n = k) := ⟨_, Lib.hid rfl⟩
      rw [hID.out] at hidb
      rw [hID.out]
      have HIDB := Lib.hid hidb
      have HX6 := Lib.hid (HX5.out.next hb6)
      have HP6 := Lib.hid (PrC.mono (cw_next hb6) HP5.out)
      have HB6 := Lib.hid (HB5.out.trans (hb6.mono HB5.out.size))
      clear hb6 hlen hidb
      obtain ⟨V, hV⟩ : ∃ r, Hid (jloopP p ID = r) := ⟨_, Lib.hid rfl⟩
      have HCH : Hid (Chain p V (it6 p ID).inn) := Lib.hid (by
        have h1 := chain_first HMAY.out ID
        have h2 : loopP p ID = V := by rw [← hV.out]; unfold jloopP; rw [if_pos HWELL.out]
        rwa [h2] at h1)
      have p0 := HX6.out 0 _ rfl
      have p1 := HX6.out 1 _ rfl
      go_wp2_with fail
      refine (jloop_any (d + 1) p _ _ ID _ HP6.out HROOM.out HIDB.out).mono ?_
      rintro e w7 ⟨rfl, hb7⟩
      rw [hV.out]
      have HX7 := Lib.hid (HX6.out.next hb7)
      have HP7 := Lib.hid (PrC.mono (cw_next hb7) HP6.out)
      have HB7 := Lib.hid (HB6.out.trans (hb7.mono HB6.out.size))
      clear hb7
      clear p0 p1
      have p0 := HX7.out 0 _ rfl
      have p1 := HX7.out 1 _ rfl
      go_wp2_with fail
      refine (find7_any w7.heap.size d p _ _ ID _ (Nat.le_refl _) (PrC.mono low_all HP7.out)).mono ?_
      obtain ⟨t, ht⟩ : ∃ t, Hid (it6 p ID = t) := ⟨_, Lib.hid rfl⟩
      obtain ⟨NM, hNM⟩ : ∃ t, Hid (nm6 p ID = t) := ⟨_, Lib.hid rfl⟩
      obtain ⟨HS, hHS⟩ : ∃ t, Hid (has6 p ID = t) := ⟨_, Lib.hid rfl⟩
      rw [ht.out, hNM.out, hHS.out]
      rintro e w8 ⟨la, ka, aa, ta, ea, lc, kc, ac, tc, ec, rfl, -, -, -, -, -, -, -, -, hb8⟩
      have HX8 := Lib.hid (HX7.out.next hb8)
      have HP8 := Lib.hid (PrC.mono (cw_next hb8) HP7.out)
      have HB8 := Lib.hid (HB7.out.trans (hb8.mono HB7.out.size))
      clear hb8
      clear p0 p1
      rw [ht.out] at HCH
      go_upto_region 10 with fail
      refine cut_world (fun wx => Below w8.heap.size w8 wx ∧ BoxAt wx w8.heap.size [.int .i64 t.s.id, .int .i64 t.s.kind, .slice la t.s.labels.length lc, .string t.s.nm, .string t.s.proc, .int .i64 t.s.x.op, .int .i64 t.s.x.n, .string t.s.x.nm, .slice ka t.s.x.ks.length kc, .bool t.s.has, .slice aa t.s.args.length ac, .slice ta t.s.thn.length tc, .slice ea t.s.els.length ec, .int .i64 t.deep, .int .i64 t.inn, .bool t.els]) ⟨boxed w8 _, box_new w8 #[.int .i64 t.s.id, .int .i64 t.s.kind, .slice la t.s.labels.length lc, .string t.s.nm, .string t.s.proc, .int .i64 t.s.x.op, .int .i64 t.s.x.n, .string t.s.x.nm, .slice ka t.s.x.ks.length kc, .bool t.s.has, .slice aa t.s.args.length ac, .slice ta t.s.thn.length tc, .slice ea t.s.els.length ec, .int .i64 t.deep, .int .i64 t.inn, .bool t.els] 76⟩ ?_
      rintro w9 ⟨hb9, ht9⟩
      have t14 := ht9 14 _ rfl
      have HX9 := Lib.hid (HX8.out.next hb9)
      have HP9 := Lib.hid (PrC.mono (cw_next hb9) HP8.out)
      have HB9 := Lib.hid (HB8.out.trans (hb9.mono HB8.out.size))
      clear hb9 ht9
      go_wp2_with fail
      clear t14
      obtain ⟨W9, hW9⟩ : ∃ x : World, x = w9 := ⟨_, rfl⟩
      subst hW9
      obtain ⟨N0, hN0⟩ : ∃ x, t.inn = x := ⟨_, rfl⟩
      rw [hN0] at HCH
      try rw [hN0]
      go_loopw [11] (fun i wr => ∃ m : Int, i = .int .i64 m ∧ Chain p V m ∧ Below W9.heap.size W9 wr) (fun i _ => (intOf i).toNat)
      case atStart => exact ⟨N0, rfl, HCH.out, Below.refl _ _⟩
      case round =>
        obtain ⟨m, rfl, hch, hbr⟩ := hrel
        obtain ⟨wa, hwa⟩ : ∃ x : World, x = wr := ⟨_, rfl⟩
        subst hwa
        have HCA := Lib.hid hch
        have HBR := Lib.hid hbr
        have HXA := Lib.hid (HX9.out.next hbr)
        have HPA := Lib.hid (PrC.mono (cw_next hbr) HP9.out)
        have HBA := Lib.hid (HB9.out.trans (hbr.mono HB9.out.size))
        clear hch hbr
        by_cases hm0 : m = 0
        · have hv0 : V = 0 := by
            rcases HCA.out with ⟨-, h⟩ | ⟨k, hk, q, hq, -, h, -⟩
            · exact h
            · exact absurd hm0 h
          have hb1 : (m == 0) = true := by simpa using hm0
          have hb2 : (m != 0) = false := by rw [bne, hb1]; rfl
          subst hv0
          clear hm0
          go_wp2_with fail
          go_ret
          exact ⟨rfl, HBA.out⟩
        · have hb1 : (m == 0) = false := by simpa using hm0
          have hb2 : (m != 0) = true := by rw [bne, hb1]; rfl
          have hnext := chain_next HMAY.out HCA.out hm0
          have HNEXT := Lib.hid hnext
          have HM0 := Lib.hid hm0
          have hpos := hnext.1
          clear hnext hm0
          have p0 := HXA.out 0 _ rfl
          have p1 := HXA.out 1 _ rfl
          go_wp2_with fail
          refine (find7_any wa.heap.size d p _ _ m _ (Nat.le_refl _) (PrC.mono low_all HPA.out)).mono ?_
          obtain ⟨y, hy⟩ : ∃ t, Hid (it6 p m = t) := ⟨_, Lib.hid rfl⟩
          obtain ⟨NM2, hNM2⟩ : ∃ t, Hid (nm6 p m = t) := ⟨_, Lib.hid rfl⟩
          obtain ⟨HS2, hHS2⟩ : ∃ t, Hid (has6 p m = t) := ⟨_, Lib.hid rfl⟩
          rw [hy.out] at HNEXT
          rw [hy.out, hNM2.out, hHS2.out]
          rintro e wb ⟨lb, kb, ab, tb, eb, ld, kd, ad, td, ed, rfl, -, -, -, -, -, -, -, -, hbb⟩
          have HBRB := Lib.hid (HBR.out.trans (hbb.mono HBR.out.size))
          have HXB := Lib.hid (HXA.out.next hbb)
          have HPB := Lib.hid (PrC.mono (cw_next hbb) HPA.out)
          have HBB := Lib.hid (HBA.out.trans (hbb.mono HBA.out.size))
          clear hbb p0 p1
          go_upto_region 13 with fail
          refine cut_world (fun wx => Below wb.heap.size wb wx ∧ BoxAt wx wb.heap.size [.int .i64 y.s.id, .int .i64 y.s.kind, .slice lb y.s.labels.length ld, .string y.s.nm, .string y.s.proc, .int .i64 y.s.x.op, .int .i64 y.s.x.n, .string y.s.x.nm, .slice kb y.s.x.ks.length kd, .bool y.s.has, .slice ab y.s.args.length ad, .slice tb y.s.thn.length td, .slice eb y.s.els.length ed, .int .i64 y.deep, .int .i64 y.inn, .bool y.els]) ⟨boxed wb _, box_new wb #[.int .i64 y.s.id, .int .i64 y.s.kind, .slice lb y.s.labels.length ld, .string y.s.nm, .string y.s.proc, .int .i64 y.s.x.op, .int .i64 y.s.x.n, .string y.s.x.nm, .slice kb y.s.x.ks.length kd, .bool y.s.has, .slice ab y.s.args.length ad, .slice tb y.s.thn.length td, .slice eb y.s.els.length ed, .int .i64 y.deep, .int .i64 y.inn, .bool y.els] 76⟩ ?_
          rintro wc ⟨hbc, hyc⟩
          have t1 := hyc 1 _ rfl
          have t14 := hyc 14 _ rfl
          have HBRC := Lib.hid (HBRB.out.trans (hbc.mono HBRB.out.size))
          have HXC := Lib.hid (HXB.out.next hbc)
          have HPC := Lib.hid (PrC.mono (cw_next hbc) HPB.out)
          have HBC := Lib.hid (HBB.out.trans (hbc.mono HBB.out.size))
          clear hbc hyc
          by_cases h6 : y.s.kind = 6
          · have hk6 : (y.s.kind == 6) = true := by rw [h6]; rfl
            have hv : V = m := by
              rcases HNEXT.out.2.2 with ⟨-, h⟩ | ⟨h, -⟩
              · exact h
              · exact absurd h6 h
            subst hv
            have hvv : (V == V) = true := by simp
            clear h6
            go_wp2_with fail
            go_ret
            exact ⟨rfl, HBC.out⟩
          · have hk6 : (y.s.kind == 6) = false := by simpa using h6
            obtain ⟨hcn, hlt⟩ : Chain p V y.inn ∧ y.inn < m := by
              rcases HNEXT.out.2.2 with ⟨h, -⟩ | ⟨-, h1, h2⟩
              · exact absurd h h6
              · exact ⟨h1, h2⟩
            have HCN := Lib.hid hcn
            clear h6 hcn
            go_wp2_with fail
            go_roundw
            case rel => exact ⟨y.inn, rfl, HCN.out, HBRC.out⟩
            case measure => first | (simp [intOf]; done) | (simp [intOf]; omega)
    · have hz1 : (SC == 0) = false := by simpa using hz
      have HZ := Lib.hid hz
      clear hz
      go_wp2_with fail
      go_ret
      exact ⟨rfl, HB4.out⟩
end Go.Proofs.Ytghlmengcidmdaa.Tr
end
