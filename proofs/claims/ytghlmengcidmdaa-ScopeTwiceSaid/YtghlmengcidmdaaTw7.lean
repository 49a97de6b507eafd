/- Parts of BTMay, BEqB, AnyZ: walks and plain laws that later texts use. Conditions: as each statement says. -/
import Derived.Test.YtghlmengcidmdaaTw0
import Derived.Test.YtghlmengcidmdaaTw1
import Derived.Test.YtghlmengcidmdaaTw2
import Derived.Test.YtghlmengcidmdaaTw3
import Derived.Test.YtghlmengcidmdaaTw4
import Derived.Test.YtghlmengcidmdaaTw5
import Derived.Deep.DeepCutAuto
import Derived.Maps.Range
import Derived.Outline
import Derived.Lib.SmallJoins
import Derived.Deep.Upon
import Derived.Maps.AppendAt
import Derived.Laws.OwnMore
import Derived.Deep.QuietTactic
import Derived.BigQuiet
import Derived.IntWalk
import Derived.StillTailTactics
import Derived.WalkKit
import Derived.Test.YtghlmengcidmdaaRows
import Derived.WalkSpells
import Derived.Lib.Hide
import Derived.Below
import Derived.WalkSmall
import Derived.Laws.BitsAllLaws
import Derived.OwnWalk
import Derived.OneCell
import Derived.Deep.AppendLies
import Derived.Deep.RegionLaw
import Derived.Deep.RegionHeld3
import Derived.RegionTactic
import Derived.Deep.RegionWith
import Derived.Laws.Cover3
import Derived.Deep.Slices
import Derived.Deep.Fields
import Derived.SliceStrings
import Derived.ChangeSlices
import Derived.Laws.StructEq
import Derived.OrdersHeld
section
/- What names, named, none, worth, handed of tree compute. Conditions: the arguments lie in memory.
   What worth, handed of tree compute. Conditions: the arguments lie in memory. -/
section
namespace Go.Proofs.Ytghlmengcidmdaa.Tr
open Go.RowKit Go.Proofs.Ytghlmengcidmdaa.Lx Go.Proofs.Ytghlmengcidmdaa.Wd
def namesB (l : List ByteArray) : Bool := l.all fun s => isName (bl s)
def namedB (s : ByteArray) (is : Bool) : Bool := if is then isName (bl s) else noName s
def noneE (x : Ex) : Bool := x.op == 0 && x.n == 0 && noName x.nm && x.ks.isEmpty
def worthB (x : Ex) (is : Bool) : Bool := if is then mayE 20 x else noneE x
def handedB (l : List Ar) : Bool := l.all fun a => namedB a.nm a.ref && worthB a.x (!a.ref)
theorem all_take {α : Type} (f : α → Bool) (l : List α) {k : Nat} (hk : k < l.length) (h : (l.take k).all f = true) (hf : f l[k] = true) : (l.take (k + 1)).all f = true := by
  rw [List.take_succ_eq_append_getElem hk, List.all_append, h]
  simp [hf]
theorem all_no {α : Type} (f : α → Bool) (l : List α) {k : Nat} (hk : k < l.length) (hf : f l[k] = false) : l.all f = false := by
  cases h : l.all f with
  | false => rfl
  | true =>
    have := List.all_eq_true.1 h l[k] (List.getElem_mem hk)
    rw [hf] at this; cases this
set_option maxHeartbeats 1000000 in
theorem tnames_any (l : List ByteArray) (v : Value) (w : World) (hl : StrsAt w v l) :
    Calls Try.prog 69 #[v] w fun e w' => e = .returned (.bool (namesB l)) ∧ w = w' := by
  obtain ⟨a, cap, rfl, hc1, hc2⟩ := hl.form
  have HL := Lib.hid hl
  clear hl
  go_enter Try.func69, Try.ntmps69
  go_wp2_with fail
  go_loop [7] (fun i => ∃ k : Nat, k ≤ l.length ∧ i = .int .i64 k ∧ (l.take k).all (fun s => isName (bl s)) = true) (fun i => (l.length - intOf i).toNat)
  case atStart => exact ⟨0, by omega, rfl, rfl⟩
  case round =>
    obtain ⟨k, hk, rfl, hall⟩ := hrel
    have HALL := Lib.hid hall
    by_cases hlt : k < l.length
    · have hlt' : (k : Int) < (l.length : Int) := by omega
      have hne : l ≠ [] := by intro h; rw [h] at hlt; simp at hlt
      obtain ⟨g, off, cap', hv, hcells⟩ := HL.out.cells hne
      simp only [Value.slice.injEq] at hv
      obtain ⟨rfl, -, rfl⟩ := hv
      obtain ⟨hs, c0⟩ := hcells k hlt
      obtain ⟨s, hs2⟩ : ∃ s, Hid (l[k] = s) := ⟨_, Lib.hid rfl⟩
      rw [hs2.out] at c0 hs
      clear hcells hne hall
      obtain ⟨b, hb⟩ : ∃ b, Hid (isName (bl s) = b) := ⟨_, Lib.hid rfl⟩
      go_wp2_with fail
      refine (name_any s _ hs).mono ?_
      rintro e w' ⟨rfl, rfl⟩
      rw [hb.out]
      cases b with
      | true =>
        go_wp2_with fail
        go_round
        case rel => exact ⟨k + 1, by omega, by go_num, all_take _ _ hlt HALL.out (by rw [hs2.out]; exact hb.out)⟩
        case measure => simp [intOf]; omega
      | false =>
        have he : namesB l = false := all_no _ _ hlt (by rw [hs2.out]; exact hb.out)
        have HE := Lib.hid he
        clear he
        go_wp2_with fail
        go_ret
        rw [HE.out]
        exact ⟨rfl, rfl⟩
    · have hlt' : ¬ (k : Int) < (l.length : Int) := by omega
      have he : namesB l = true := by
        have := HALL.out
        rwa [List.take_of_length_le (by omega)] at this
      have HE := Lib.hid he
      clear he hall
      go_wp2_with fail
      go_ret
      rw [HE.out]
      exact ⟨rfl, rfl⟩
theorem tnamed_any (s : ByteArray) (is : Bool) (w : World) (hs : s.size ≤ 9223372036854775807) :
    Calls Try.prog 136 #[.string s, .bool is] w fun e w' => e = .returned (.bool (namedB s is)) ∧ w = w' := by
  unfold namedB
  cases is with
  | true =>
    obtain ⟨b, hb⟩ : ∃ b, Hid (isName (bl s) = b) := ⟨_, Lib.hid rfl⟩
    rw [if_pos rfl, hb.out]
    go_enter Try.func136, Try.ntmps136
    go_wp2_with fail
    refine (name_any s _ hs).mono ?_
    rintro e w' ⟨rfl, rfl⟩
    rw [hb.out]
    cases b with
    | true =>
      go_wp2_with fail
      go_ret
      exact ⟨rfl, rfl⟩
    | false =>
      go_wp2_with fail
      go_ret
      exact ⟨rfl, rfl⟩
  | false =>
    rw [if_neg (by simp)]
    cases hm : noName s with
    | true =>
      obtain ⟨-, n1, n2⟩ := bool_toList.1 hm
      clear hm
      go_enter Try.func136, Try.ntmps136
      go_wp2_with fail
      go_ret
      exact ⟨rfl, rfl⟩
    | false =>
      obtain ⟨n1, n2⟩ := bool_toList.2 hm
      clear hm
      go_enter Try.func136, Try.ntmps136
      go_wp2_with fail
      go_ret
      exact ⟨rfl, rfl⟩
theorem tnone_any (x : Ex) (a : Option Addr) (cap : Nat) (w : World) :
    Calls Try.prog 150 #[exV x (.slice a x.ks.length cap)] w fun e w' => e = .returned (.bool (noneE x)) ∧ Below w.heap.size w w' := by
  have HB := Lib.hid (boxed w (.cells #[.int .i64 x.op, .int .i64 x.n, .string x.nm, .slice a x.ks.length cap] 37))
  unfold exV noneE
  cases h1 : (x.op == 0) with
  | false =>
    go_enter Try.func150, Try.ntmps150
    go_wp2_with fail
    go_ret
    exact ⟨rfl, HB.out⟩
  | true =>
    cases h2 : (x.n == 0) with
    | false =>
      go_enter Try.func150, Try.ntmps150
      go_wp2_with fail
      go_ret
      exact ⟨rfl, HB.out⟩
    | true =>
      cases hm : noName x.nm with
      | false =>
        obtain ⟨n1, n2⟩ := bool_toList.2 hm
        clear hm
        go_enter Try.func150, Try.ntmps150
        go_wp2_with fail
        go_ret
        exact ⟨rfl, HB.out⟩
      | true =>
        obtain ⟨-, n1, n2⟩ := bool_toList.1 hm
        clear hm
        cases h4 : x.ks.isEmpty with
        | false =>
          have b4 : ((x.ks.length : Int) == 0) = false := by
            cases hq : x.ks with
            | nil => rw [hq] at h4; cases h4
            | cons a b => simp; omega
          clear h4
          go_enter Try.func150, Try.ntmps150
          go_wp2_with fail
          go_ret
          exact ⟨rfl, HB.out⟩
        | true =>
          have b4 : ((x.ks.length : Int) == 0) = true := by
            cases hq : x.ks with
            | nil => rfl
            | cons a b => rw [hq] at h4; cases h4
          clear h4
          go_enter Try.func150, Try.ntmps150
          go_wp2_with fail
          go_ret
          exact ⟨rfl, HB.out⟩
end Go.Proofs.Ytghlmengcidmdaa.Tr
end
section
namespace Go.Proofs.Ytghlmengcidmdaa.Tr
open Go.RowKit Go.Proofs.Ytghlmengcidmdaa.Lx Go.Proofs.Ytghlmengcidmdaa.Wd
set_option maxHeartbeats 1000000 in
theorem worth_any' (d : Nat) (x : Ex) (kv : Value) (is : Bool) (w : World) (hok : OkE x) (hk : ExK d w kv x.ks) :
    Calls Try.prog 137 #[exV x kv, .bool is] w fun e w' => e = .returned (.bool (worthB x is)) ∧ Below w.heap.size w w' := by
  obtain ⟨a, cap, rfl, -, -⟩ := hk.form
  have hbox := boxed w (.cells #[.int .i64 x.op, .int .i64 x.n, .string x.nm, .slice a x.ks.length cap] 37)
  have HB := Lib.hid hbox
  have HK := Lib.hid (hk.next hbox)
  have HOK := Lib.hid hok
  clear hbox hk hok
  unfold worthB
  cases is with
  | true =>
    obtain ⟨b, hb⟩ : ∃ b, Hid (mayE 20 x = b) := ⟨_, Lib.hid rfl⟩
    rw [if_pos rfl, hb.out]
    unfold exV
    go_enter Try.func137, Try.ntmps137
    go_wp2_with fail
    refine (mayExpr_any d x _ _ HOK.out HK.out).mono ?_
    rintro e w' ⟨rfl, hbe⟩
    rw [hb.out]
    have HB2 := Lib.hid (HB.out.trans (hbe.mono HB.out.size))
    clear hbe
    cases b with
    | true =>
      go_wp2_with fail
      go_ret
      exact ⟨rfl, HB2.out⟩
    | false =>
      go_wp2_with fail
      go_ret
      exact ⟨rfl, HB2.out⟩
  | false =>
    obtain ⟨b, hb⟩ : ∃ b, Hid (noneE x = b) := ⟨_, Lib.hid rfl⟩
    rw [if_neg (by simp), hb.out]
    unfold exV
    go_enter Try.func137, Try.ntmps137
    go_wp2_with fail
    refine (tnone_any x a cap _).mono ?_
    rintro e w' ⟨rfl, hbe⟩
    rw [hb.out]
    have HB2 := Lib.hid (HB.out.trans (hbe.mono HB.out.size))
    clear hbe
    cases b with
    | true =>
      go_wp2_with fail
      go_ret
      exact ⟨rfl, HB2.out⟩
    | false =>
      go_wp2_with fail
      go_ret
      exact ⟨rfl, HB2.out⟩
set_option maxHeartbeats 2000000 in
theorem handed_any (d : Nat) (l : List Ar) (v : Value) (w : World) (hl : SlAt 6 (ArAt (cw w) d) v l) :
    Calls Try.prog 138 #[v] w fun e w' => e = .returned (.bool (handedB l)) ∧ Below w.heap.size w w' := by
  obtain ⟨a, cap, rfl, hc1, hc2⟩ := hl.form
  have HL := Lib.hid hl
  clear hl
  go_enter Try.func138, Try.ntmps138
  go_wp2_with fail
  go_loopw [7] (fun i wr => ∃ k : Nat, k ≤ l.length ∧ i = .int .i64 k ∧ Below w.heap.size w wr ∧ (l.take k).all (fun a => namedB a.nm a.ref && worthB a.x (!a.ref)) = true) (fun i _ => (l.length - intOf i).toNat)
  case atStart => exact ⟨0, by omega, rfl, Below.refl _ _, rfl⟩
  case round =>
    obtain ⟨k, hk, rfl, hbel, hall⟩ := hrel
    have HALL := Lib.hid hall
    have HBEL := Lib.hid hbel
    by_cases hlt : k < l.length
    · have hlt' : (k : Int) < (l.length : Int) := by omega
      have hne : l ≠ [] := by intro h; rw [h] at hlt; simp at hlt
      obtain ⟨g, off, cap', hv, _, hcells⟩ := SlAt.cells (SlAt.imp HL.out fun _ _ _ _ => ArAt.mono (cw_next hbel)) hne
      simp only [Value.slice.injEq] at hv
      obtain ⟨rfl, -, rfl⟩ := hv
      obtain ⟨r0, r1, r2, kx, r3, r4, r5, r6, hokx, hxx⟩ := hcells k hlt
      obtain ⟨ar, har⟩ : ∃ ar, Hid (l[k] = ar) := ⟨_, Lib.hid rfl⟩
      rw [har.out] at r0 r1 r2 r3 r4 r5 hokx hxx
      obtain ⟨xa, xc, rfl, -, -⟩ := hxx.form
      have d0 : wr.cell? ⟨g, off + k * 6, none⟩ = _ := r0
      have d1 : wr.cell? ⟨g, off + k * 6 + 1, none⟩ = _ := r1
      have d2 : wr.cell? ⟨g, off + k * 6 + 2, none⟩ = _ := r3
      have d3 : wr.cell? ⟨g, off + k * 6 + 3, none⟩ = _ := r4
      have d4 : wr.cell? ⟨g, off + k * 6 + 4, none⟩ = _ := r5
      have d5 : wr.cell? ⟨g, off + k * 6 + 5, none⟩ = _ := r6
      have hkb := boxed wr (.cells #[.bool ar.ref, .string ar.nm, .int .i64 ar.x.op, .int .i64 ar.x.n, .string ar.x.nm, .slice xa ar.x.ks.length xc] 49)
      have HKB := Lib.hid hkb
      have HXX := Lib.hid (ExC.to (ExC.mono (cw_next hkb) hxx))
      have HOKX := Lib.hid hokx
      have hnm := r2
      clear hcells r0 r1 r3 r4 r5 r6 hxx hokx hne hbel hkb hall
      obtain ⟨b1, hb1⟩ : ∃ b1, Hid (namedB ar.nm ar.ref = b1) := ⟨_, Lib.hid rfl⟩
      obtain ⟨b2, hb2⟩ : ∃ b2, Hid (worthB ar.x (!ar.ref) = b2) := ⟨_, Lib.hid rfl⟩
      go_wp2_with fail
      refine (tnamed_any ar.nm ar.ref _ hnm).mono ?_
      rintro e w' ⟨rfl, rfl⟩
      rw [hb1.out]
      cases b1 with
      | false =>
        have he : handedB l = false := all_no _ _ hlt (by rw [har.out, hb1.out]; rfl)
        have HE := Lib.hid he
        clear he
        go_wp2_with fail
        go_ret
        rw [HE.out]
        exact ⟨rfl, HBEL.out.trans (HKB.out.mono HBEL.out.size)⟩
      | true =>
        go_wp2_with fail
        refine (worth_any' d ar.x _ (!ar.ref) _ HOKX.out HXX.out).mono ?_
        rintro e w' ⟨rfl, hbe⟩
        rw [hb2.out]
        have HB2 := Lib.hid (HBEL.out.trans ((HKB.out.trans (hbe.mono HKB.out.size)).mono HBEL.out.size))
        clear hbe
        cases b2 with
        | true =>
          go_wp2_with fail
          go_roundw
          case rel => exact ⟨k + 1, by omega, by go_num, HB2.out, all_take _ _ hlt HALL.out (by rw [har.out, hb1.out, hb2.out]; rfl)⟩
          case measure => simp [intOf]; omega
        | false =>
          have he : handedB l = false := all_no _ _ hlt (by rw [har.out, hb1.out, hb2.out]; rfl)
          have HE := Lib.hid he
          clear he
          go_wp2_with fail
          go_ret
          rw [HE.out]
          exact ⟨rfl, HB2.out⟩
    · have hlt' : ¬ (k : Int) < (l.length : Int) := by omega
      have he : handedB l = true := by
        have := HALL.out
        rwa [List.take_of_length_le (by omega)] at this
      have HE := Lib.hid he
      clear he hall hbel
      go_wp2_with fail
      go_ret
      rw [HE.out]
      exact ⟨rfl, HBEL.out⟩
end Go.Proofs.Ytghlmengcidmdaa.Tr
end
end
section
/- What tree.same, slices.EqualFunc of statements compute. Conditions: the arguments lie in memory.
   What slices.Equal of parameters computes. Conditions: the parameters lie in memory.
   What tree.Eq computes: are two programs the same? Conditions: the programs lie in memory. -/
section
namespace Go.Proofs.Ytghlmengcidmdaa.Tr
open Go.RowKit Go.Proofs.Ytghlmengcidmdaa.Lx Go.Proofs.Ytghlmengcidmdaa.Wd
/-- What hangs on a statement. -/
structure Hang (d : Nat) (w : World) (s : St) (lv kv av tv ev : Value) : Prop where
  lab : StrC (cw w) lv s.labels
  kid : ExC (cw w) d kv s.x.ks
  arg : SlAt 6 (ArAt (cw w) d) av s.args
  thn : StC (cw w) d tv s.thn
  els : StC (cw w) d ev s.els
theorem Hang.next {d : Nat} {w w' : World} {s : St} {lv kv av tv ev : Value} (h : Hang d w s lv kv av tv ev) (hb : Below w.heap.size w w') : Hang d w' s lv kv av tv ev :=
  ⟨StrC.mono (cw_next hb) h.lab, ExC.mono (cw_next hb) h.kid, SlAt.imp h.arg (fun _ _ _ _ => ArAt.mono (cw_next hb)), h.thn.next hb, h.els.next hb⟩
end Go.Proofs.Ytghlmengcidmdaa.Tr
end
section
namespace Go.Proofs.Ytghlmengcidmdaa.Tr
open Go.RowKit Go.Proofs.Ytghlmengcidmdaa.Lx Go.Proofs.Ytghlmengcidmdaa.Wd
end Go.Proofs.Ytghlmengcidmdaa.Tr
end
section
namespace Go.Proofs.Ytghlmengcidmdaa.Tr
open Go.RowKit Go.Proofs.Ytghlmengcidmdaa.Lx Go.Proofs.Ytghlmengcidmdaa.Wd
/-- What hangs on a procedure. -/
structure HangP (d : Nat) (w : World) (f : Pc) (qv vv bv fv : Value) : Prop where
  par : SlAt 2 (PaAt (cw w)) qv f.params
  vars : StrC (cw w) vv f.vars
  body : StC (cw w) d bv f.body
  fin : StrC (cw w) fv f.fin
theorem HangP.next {d : Nat} {w w' : World} {f : Pc} {qv vv bv fv : Value} (h : HangP d w f qv vv bv fv) (hb : Below w.heap.size w w') : HangP d w' f qv vv bv fv :=
  ⟨SlAt.imp h.par (fun _ _ _ _ => PaAt.mono (cw_next hb)), StrC.mono (cw_next hb) h.vars, h.body.next hb, StrC.mono (cw_next hb) h.fin⟩
end Go.Proofs.Ytghlmengcidmdaa.Tr
end
end
section
/- A region that draws its order and stores, as its last operation, over a cell that it has loaded: what is known of the worlds need not hold behind that last operation. Conditions: the last operation waits for each that is taken first. -/
namespace Go.Proofs.Ytghlmengcidmdaa.Tr
open Go
section
variable {P : Program} {ops : Array Oper} {Q : Exit → Act → World → Prop} {md : Region.Mode} {S : World → Prop} {L : Nat}
/-- Whatever order is picked, and S holds behind every operation but the last. -/
def wpAnyZ (P : Program) (md : Region.Mode) (ops : Array Oper) (Q : Exit → Act → World → Prop) (S : World → Prop) (L : Nat) : Nat → Array Bool → Act → World → Prop
  | 0, listed, a, w => Region.ready md ops listed = [] ∧ Q .normal a w
  | fuel + 1, listed, a, w =>
    (Region.ready md ops listed = [] → Q .normal a w) ∧
    ∀ i ∈ Region.ready md ops listed, wpOp P ops Q i (fun a' w' => (i ≠ L → S w') ∧ wpAnyZ P md ops Q S L fuel (listed.setIfInBounds i true) a' w') a w
theorem wpAny_of_z : ∀ (fuel : Nat) (listed : Array Bool) (a : Act) (w : World), wpAnyZ P md ops Q S L fuel listed a w → wpAny P md ops Q fuel listed a w
  | 0, _, _, _, h => h
  | fuel + 1, _, _, _, h => ⟨h.1, fun i hi => wpOp_mono (fun a' w' h' => wpAny_of_z fuel _ a' w' h'.2) (h.2 i hi)⟩
theorem wpAnyZ_first {i : Nat} {oi : Oper} {v : Value} (hi : ops[i]? = some oi) (hsel : ∀ (j : Nat) (o : Oper) cs b, ops[j]? = some o → o.op ≠ .select cs b)
    (hQ : ∀ c a w, Q (.panic c) (a.put oi.dst v) w → Q (.panic c) a w) (hL : ∃ oL, ops[L]? = some oL ∧ ∃ e ∈ oL.after, Region.binds md e = true ∧ e.on = i) :
    ∀ (fuel : Nat) (listed : Array Bool) (a : Act) (w : World),
      (∀ j oj, ops[j]? = some oj → j ≠ i → listed.getD j true = false → (∀ e ∈ oj.after, Region.binds md e = true → e.on ≠ i) → oi.apart ops oj = true) →
      i ∈ Region.ready md ops listed → YieldsIf P ops S oi v a → S w →
      wpAnyZ P md ops Q S L fuel (listed.setIfInBounds i true) (a.put oi.dst v) w → wpAnyZ P md ops Q S L (fuel + 1) listed a w := by
  intro fuel
  induction fuel with
  | zero =>
    intro listed a w _ hr hy hS H
    refine ⟨fun h => (by rw [h] at hr; cases hr), fun j hj => ?_⟩
    by_cases hji : j = i
    · subst hji; exact hy.wpOp hi hS ⟨fun _ => hS, H⟩
    · have := ready_mono hj hji
      rw [H.1] at this
      cases this
  | succ fuel ih =>
    intro listed a w hfree hr hy hS H
    refine ⟨fun h => (by rw [h] at hr; cases hr), fun j hj => ?_⟩
    by_cases hji : j = i
    · subst hji; exact hy.wpOp hi hS ⟨fun _ => hS, H⟩
    · have h1 := H.2 j (ready_mono hj hji)
      obtain ⟨hjun, oj, hoj, hall⟩ := mem_ready.1 hj
      have hnot : ∀ e ∈ oj.after, Region.binds md e = true → e.on ≠ i := fun e he hb heq => by
        have h1 := hall e he hb
        have h0 := (mem_ready.1 hr).1
        rw [heq] at h1
        rcases Nat.lt_or_ge i listed.size with h' | h'
        · simp [h'] at h0 h1; rw [h0] at h1; cases h1
        · simp [Array.getElem?_eq_none h'] at h1
      have hjL : j ≠ L := fun he => by
        obtain ⟨oL, ho, e, he1, he2, he3⟩ := hL
        subst he
        rw [hoj] at ho
        cases ho
        exact hnot e he1 he2 he3
      have h2 := wpOp_putIf hoj (hfree j oj hoj hji hjun hnot) (fun cs b => hsel i oi cs b hi) (fun cs b => hsel j oj cs b hoj) hQ hy h1
      have hfree' : ∀ k ok, ops[k]? = some ok → k ≠ i → (listed.setIfInBounds j true).getD k true = false →
          (∀ e ∈ ok.after, Region.binds md e = true → e.on ≠ i) → oi.apart ops ok = true := fun k ok hk hki hun hno => by
        refine hfree k ok hk hki ?_ hno
        by_cases hjk : j = k
        · subst hjk; exact hjun
        · rw [getD_set_ne true hjk] at hun; exact hun
      refine wpOp_mono (fun a' w' h3 => ⟨fun _ => h3.2.1 hjL, ih (listed.setIfInBounds j true) a' w' hfree' (ready_mono hr (Ne.symm hji)) h3.1 (h3.2.1 hjL) ?_⟩) h2
      rw [Array.setIfInBounds_comm _ _ hji]
      exact h3.2.2
def waits (md : Region.Mode) (ops : Array Oper) (L i : Nat) : Bool := match ops[L]? with
  | some o => o.after.any fun e => Region.binds md e && e.on == i
  | none => false
theorem waits_spec {i : Nat} (h : waits md ops L i = true) : ∃ oL, ops[L]? = some oL ∧ ∃ e ∈ oL.after, Region.binds md e = true ∧ e.on = i := by
  unfold waits at h
  cases ho : ops[L]? with
  | none => rw [ho] at h; cases h
  | some o =>
    rw [ho] at h
    simp only [Array.any_eq_true, Bool.and_eq_true, beq_iff_eq] at h
    obtain ⟨k, hk, h1, h2⟩ := h
    exact ⟨o, rfl, o.after[k], Array.getElem_mem hk, h1, h2⟩
theorem wpAnyZ_take {i : Nat} {oi : Oper} {v : Value} {fuel : Nat} {listed : Array Bool} {a : Act} {w : World} (hi : ops[i]? = some oi)
    (hs : Region.noSelect ops = true) (hf : Region.free md ops listed i = true) (hr : (Region.ready md ops listed).contains i = true) (hL : waits md ops L i = true)
    (hQ : ∀ c a w, Q (.panic c) (a.put oi.dst v) w → Q (.panic c) a w) (hy : YieldsIf P ops S oi v a) (hS : S w)
    (h : wpAnyZ P md ops Q S L fuel (listed.setIfInBounds i true) (a.put oi.dst v) w) : wpAnyZ P md ops Q S L (fuel + 1) listed a w :=
  wpAnyZ_first hi (Region.noSelect_spec hs) hQ (waits_spec hL) fuel listed a w (Region.free_spec hi hf) (by simpa using hr) hy hS h
/-- One operation alone may come up. -/
theorem wpAnyZ_step {i : Nat} {o : Oper} {fuel : Nat} {listed : Array Bool} {a : Act} {w : World} (hi : ops[i]? = some o) (hr : Region.ready md ops listed = [i])
    (h : ∀ K : Act → World → Prop, (∀ a' w', (i ≠ L → S w') → wpAnyZ P md ops Q S L fuel (listed.setIfInBounds i true) a' w' → K a' w') →
      if Region.wanted o (yielded ops a.tmps) = true then Oper.wp P o a w K Q else K (a.put o.dst undef) w) : wpAnyZ P md ops Q S L (fuel + 1) listed a w := by
  refine ⟨fun h0 => (by rw [h0] at hr; cases hr), fun j hj => ?_⟩
  rw [hr] at hj
  have hji : j = i := by simpa using hj
  subst hji
  have h1 := h (fun a' w' => (j ≠ L → S w') ∧ wpAnyZ P md ops Q S L fuel (listed.setIfInBounds j true) a' w') fun a' w' h1 h2 => ⟨h1, h2⟩
  unfold wpOp
  simp only [hi]
  split
  · rename_i hw
    rw [if_pos hw] at h1
    exact .inl h1
  · rename_i hw
    rw [if_neg hw] at h1
    exact h1
theorem wpAnyZ_done {listed : Array Bool} {a : Act} {w : World} (hr : Region.ready md ops listed = []) (h : Q .normal a w) : ∀ fuel, wpAnyZ P md ops Q S L fuel listed a w
  | 0 => ⟨hr, h⟩
  | _ + 1 => ⟨fun _ => h, by rw [hr]; simp⟩
theorem wp_region_z {id : Nat} {a : Act} {w : World} (S : World → Prop) (L : Nat) (hm : P.follows .mixedOrders = true) (hS : S w.drew)
    (h : S w.drew → wpAnyZ P .any ops Q S L ops.size (Array.replicate ops.size false) a w.drew) : (Code.region id ops true).wp P Q a w :=
  wp_region_any hm (wpAny_of_z _ _ _ _ (h hS))
end
end Go.Proofs.Ytghlmengcidmdaa.Tr
end
