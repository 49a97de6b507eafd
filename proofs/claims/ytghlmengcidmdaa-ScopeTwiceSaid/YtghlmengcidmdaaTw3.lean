/- Parts of BGath, BSt: walks and plain laws that later texts use. Conditions: as each statement says. -/
import Derived.Test.YtghlmengcidmdaaTw0
import Derived.Test.YtghlmengcidmdaaTw1
import Derived.Test.YtghlmengcidmdaaTw2
import Derived.Deep.DeepCutAuto
import Derived.Maps.Range
import Derived.Outline
import Derived.Lib.SmallJoins
import Derived.Deep.Upon
import Derived.Maps.AppendAt
import Derived.Laws.OwnMore
import Derived.Deep.QuietTactic
import Derived.BigQuiet
import Derived.IntWalk
import Derived.StillTailTactics
import Derived.WalkKit
import Derived.Test.YtghlmengcidmdaaRows
import Derived.WalkSpells
import Derived.Lib.Hide
import Derived.Below
import Derived.WalkSmall
import Derived.Laws.BitsAllLaws
import Derived.OwnWalk
import Derived.OneCell
import Derived.Deep.AppendLies
import Derived.Deep.RegionLaw
import Derived.Deep.RegionHeld3
import Derived.RegionTactic
import Derived.Deep.Slices
import Derived.Deep.Fields
import Derived.SliceStrings
import Derived.ChangeSlices
import Derived.Deep.RegionWith
import Derived.Laws.Cover3
section
/- Plain laws: the names of an expression. No program. Conditions: none.
   What tree.gather, tree.Names, walk, Names of the reference compute: the names of an expression. Conditions: it lies in memory, it may be one.
   What tree.Names, and spoken, walk, Names, In, EqTexts of the reference compute. Conditions: the arguments lie in memory.
   append of a whole slice, whatever it is, onto a new row. Conditions: none.
   What Names, EqTexts of the reference compute. Conditions: the arguments lie in memory. -/
section
namespace Go.Proofs.Ytghlmengcidmdaa.Tr
open Go.RowKit Go.Proofs.Ytghlmengcidmdaa.Lx Go.Proofs.Ytghlmengcidmdaa.Wd
/-- A name more, if it is not there. -/
def addN (s : ByteArray) (l : List ByteArray) : List ByteArray := if at_ s l = none then l ++ [s] else l
/-- The expression's own name, if it is one. -/
def ownN (x : Ex) (l : List ByteArray) : List ByteArray := if x.op = 2 then addN x.nm l else l
/-- The names of an expression, behind others. -/
def namesE : Nat → Ex → List ByteArray → List ByteArray
  | 0, _, l => l
  | m + 1, x, l => x.ks.foldl (fun l k => namesE m k l) (ownN x l)
theorem namesE_succ (m : Nat) (x : Ex) (l : List ByteArray) : namesE (m + 1) x l = x.ks.foldl (fun l k => namesE m k l) (ownN x l) := rfl
theorem own_len (x : Ex) (l : List ByteArray) : (ownN x l).length ≤ l.length + 1 := by
  unfold ownN addN
  split
  · split <;> simp
  · omega
theorem fold_len (m : Nat) (hm : ∀ x l, mayE m x = true → (namesE m x l).length + 1 ≤ l.length + 2 ^ m) : ∀ (ks : List Ex) (l : List ByteArray), (∀ k ∈ ks, mayE m k = true) → (ks.foldl (fun l k => namesE m k l) l).length + ks.length ≤ l.length + ks.length * 2 ^ m := by
  intro ks
  induction ks with
  | nil => intro l _; simp
  | cons k ks ih =>
    intro l h
    have h1 := hm k l (h k (by simp))
    have h2 := ih (namesE m k l) fun k hk => h k (by simp [hk])
    rw [List.foldl_cons, List.length_cons, Nat.succ_mul]
    omega
theorem kids_le (op : Int) : kidsOf op ≤ 2 := by unfold kidsOf; split; omega; split; omega; split <;> omega
theorem names_len : ∀ (m : Nat) (x : Ex) (l : List ByteArray), mayE m x = true → (namesE m x l).length + 1 ≤ l.length + 2 ^ m := by
  intro m
  induction m with
  | zero => intro x l h; cases h
  | succ m ih =>
    intro x l h
    obtain ⟨h1, _, h3⟩ := may_parts h
    rw [namesE_succ]
    have h4 := fold_len m ih x.ks (ownN x l) h3
    have h5 : 1 ≤ 2 ^ m := Nat.one_le_two_pow
    have hp : 2 ^ (m + 1) = 2 * 2 ^ m := by rw [Nat.pow_succ]; omega
    have h6 := kids_le x.op
    by_cases ho : x.op = 2
    · have h7 := own_len x l
      have : kidsOf 2 = 0 := rfl
      rw [ho, this] at h1
      have h0 : x.ks = [] := List.eq_nil_of_length_eq_zero (by omega)
      rw [h0] at h4 ⊢
      simp at h4 ⊢
      omega
    · have h7 : ownN x l = l := by unfold ownN; rw [if_neg ho]
      rw [h7] at h4 ⊢
      have h8 : x.ks.length = 0 ∨ x.ks.length = 1 ∨ x.ks.length = 2 := by omega
      rcases h8 with h8 | h8 | h8 <;> rw [h8] at h4 <;> omega
/-- While the kids are gone through. -/
theorem names_mid {m : Nat} {x : Ex} {l : List ByteArray} (h : mayE (m + 1) x = true) {k : Nat} (hk : k < x.ks.length) : ((x.ks.take k).foldl (fun l k => namesE m k l) (ownN x l)).length + 2 ^ m ≤ l.length + 2 ^ (m + 1) := by
  obtain ⟨h1, _, h3⟩ := may_parts h
  have h4 := fold_len m (names_len m) (x.ks.take k) (ownN x l) fun k hk => h3 k (List.mem_of_mem_take hk)
  have hp : 2 ^ (m + 1) = 2 * 2 ^ m := by rw [Nat.pow_succ]; omega
  have h6 := kids_le x.op
  have ho : x.op ≠ 2 := by
    intro ho
    have : kidsOf 2 = 0 := rfl
    rw [ho, this] at h1
    omega
  have h7 : ownN x l = l := by unfold ownN; rw [if_neg ho]
  rw [h7] at h4 ⊢
  rw [List.length_take, Nat.min_eq_left (by omega)] at h4
  have h8 : k = 0 ∨ k = 1 := by omega
  rcases h8 with h8 | h8 <;> subst h8 <;> omega
/-- Texts that are not too long. -/
def Fine (l : List ByteArray) : Prop := ∀ s ∈ l, s.size ≤ 9223372036854775807
theorem Fine.own {x : Ex} {l : List ByteArray} (h : Fine l) (hx : x.nm.size ≤ 9223372036854775807) : Fine (ownN x l) := by
  unfold ownN addN
  split
  · split
    · intro s hs
      rcases List.mem_append.1 hs with hs | hs
      · exact h s hs
      · simp at hs; rw [hs]; exact hx
    · exact h
  · exact h
end Go.Proofs.Ytghlmengcidmdaa.Tr
end
section
namespace Go.Proofs.Ytghlmengcidmdaa.Tr
open Go.RowKit Go.Proofs.Ytghlmengcidmdaa.Lx Go.Proofs.Ytghlmengcidmdaa.Wd
/-- A new row of texts. -/
def RowS (B : Nat) (w : World) (v : Value) (l : List ByteArray) : Prop := w.ownsRow B 9 1 v l.length (l.map Value.string) ∧ Fine l
theorem grown_of {w w' : World} (h : Below w.heap.size w w') (row : Option Nat) : w.grownBy w' row := ⟨h.os, h.tape, h.output, h.size, fun i hi _ => h.block i hi⟩
theorem RowS.strs {B : Nat} {w : World} {v : Value} {l : List ByteArray} (h : RowS B w v l) (hl : l.length ≤ 9223372036854775807) : StrsAt w v l := StrC.to (StrC.mono only_out (strs_owned h.1 rfl hl h.2))
theorem RowS.next {B : Nat} {w w' : World} {v : Value} {l : List ByteArray} (h : RowS B w v l) (hb : Below w.heap.size w w') : RowS B w' v l := ⟨ownsBelow h.1 hb, h.2⟩
theorem RowS.lt {B : Nat} {w : World} {v : Value} {l : List ByteArray} (h : RowS B w v l) : ∀ g, v.ownBlock = some g → B ≤ g ∧ g < w.heap.size := h.1.lt
theorem RowS.form {B : Nat} {w : World} {v : Value} {l : List ByteArray} (h : RowS B w v l) : ∃ a n c, v = .slice a n c ∧ n = l.length := by
  obtain ⟨a, c, h⟩ := ownsForm h.1
  exact ⟨a, _, c, h, rfl⟩
/-- What lies below B. -/
abbrev lowC (B : Nat) (w : World) : Cs := only (fun g => g < B) (cw w)
theorem low_grown {B : Nat} {w w' : World} {row : Option Nat} (hg : w.grownBy w' row) (hr : ∀ g, row = some g → B ≤ g) : Cs.le (lowC B w) (lowC B w') := fun g j u ⟨h1, h2⟩ => by
  refine ⟨h1, ?_⟩
  show w'.cell? ⟨g, j, none⟩ = some u
  rw [hg.cell_far ⟨g, j, none⟩ (cell_lt h2) (fun e => by have := hr g e.symm; omega)]
  exact h2
theorem low_next {B : Nat} {w w' : World} (hb : Below w.heap.size w w') : Cs.le (lowC B w) (lowC B w') := only_le (fun _ h => h) (cw_next hb)
/-- What a gatherer leaves: the row with more texts behind; nothing that was there is turned but that row's own block. -/
def Gathers (B : Nat) (v : Value) (l : List ByteArray) (w : World) (e : Ending) (w' : World) : Prop :=
  ∃ v', e = .returned v' ∧ RowS B w' v' l ∧ w.grownBy w' v.ownBlock ∧ ∀ g, v'.ownBlock = some g → v.ownBlock = some g ∨ w.heap.size ≤ g
/-- There is room for more names. -/
def Room (l : List ByteArray) (m : Nat) : Prop := l.length + 2 ^ m ≤ 1073741824
theorem room_len {l : List ByteArray} {m : Nat} (h : Room l m) : l.length ≤ 1073741824 - 1 := by
  unfold Room at h
  have := Nat.one_le_two_pow (n := m)
  omega
theorem contains_any (ns : List ByteArray) (nv : Value) (s : ByteArray) (w : World) (hn : StrsAt w nv ns) :
    Calls Try.prog 87 #[nv, .string s] w fun e w' => e = .returned (.bool (at_ s ns).isSome) ∧ w = w' := by
  obtain ⟨a, cap, rfl, hc1, hc2⟩ := hn.form
  have HN := Lib.hid hn
  clear hn
  cases h : at_ s ns with
  | none =>
    go_enter Try.func87, Try.ntmps87
    go_wp2_with fail
    refine (index_any ns _ s _ HN.out).mono ?_
    rintro e w' ⟨rfl, rfl⟩
    have hi : atI s ns = -1 := by unfold atI; rw [h]
    rw [hi]
    go_wp2_with fail
    go_ret
    exact ⟨rfl, rfl⟩
  | some i =>
    go_enter Try.func87, Try.ntmps87
    go_wp2_with fail
    refine (index_any ns _ s _ HN.out).mono ?_
    rintro e w' ⟨rfl, rfl⟩
    have hi : atI s ns = i := by unfold atI; rw [h]
    rw [hi]
    have h0 : (0 : Int) ≤ (i : Int) := by omega
    go_wp2_with fail
    go_ret
    exact ⟨rfl, rfl⟩
set_option maxHeartbeats 2000000 in
set_option maxRecDepth 100000 in
theorem gather_any (B : Nat) : ∀ (m d : Nat) (x : Ex) (kv v : Value) (l : List ByteArray) (w : World), m ≤ 20 → mayE m x = true → OkE x → ExC (lowC B w) d kv x.ks → RowS B w v l → B ≤ w.heap.size → Room l m →
    Calls Try.prog 152 #[exV x kv, v] w (Gathers B v (namesE m x l) w) := by
  intro m
  induction m with
  | zero => intro d x kv v l w _ h; cases h
  | succ m ih =>
    intro d x kv v l w hm hmay hok hk hrow hB hlen
    obtain ⟨d, rfl⟩ : ∃ e, d = e + 1 := by
      cases d with
      | zero => exact hk.elim
      | succ e => exact ⟨e, rfl⟩
    obtain ⟨i0, hi, hz0, hz1, hz2⟩ := info_parts infoStr
    have IH := Lib.hid ih
    obtain ⟨ax, cx, rfl, hc1, hc2⟩ := hk.form
    obtain ⟨va, vc, rfl⟩ := ownsForm hrow.1
    have hbox := boxed w (.cells #[.int .i64 x.op, .int .i64 x.n, .string x.nm, .slice ax x.ks.length cx] 37)
    have HBOX := Lib.hid hbox
    have HK := Lib.hid (ExC.mono (low_next hbox) hk)
    have HROW := Lib.hid (hrow.next hbox)
    have HROWX := Lib.hid hrow
    have HOK := Lib.hid hok
    have HMAY := Lib.hid hmay
    have HLEN := Lib.hid hlen
    have hfit : l.length ≤ 1073741823 := room_len hlen
    have hm2 : m ≤ 20 := by omega
    have HS := Lib.hid ((hrow.next hbox).strs (by omega))
    obtain ⟨hkl, _, hkids⟩ := may_parts hmay
    have HKL := Lib.hid hkl
    have HKIDS := Lib.hid hkids
    have hcut0 : Hid ((w.alloc (.cells #[.int .i64 x.op, .int .i64 x.n, .string x.nm, .slice ax x.ks.length cx] 37)).cell? ⟨w.heap.size, 3, none⟩ = some (.slice ax x.ks.length cx)) := Lib.hid (by simp [go_sem])
    rw [namesE_succ]
    clear ih hbox hk hrow hok hmay hkl hkids hlen
    unfold exV
    go_enter Try.func152, Try.ntmps152
    by_cases ho : x.op = 2
    · have b1 : (x.op == 2) = true := by simpa using ho
      cases hq : at_ x.nm l with
      | some q =>
        have hn : ownN x l = l := by unfold ownN addN; rw [if_pos ho, if_neg (by rw [hq]; simp)]
        clear ho
        have HQ := Lib.hid hq
        go_upto_region 3 with (go_at_call 87; refine (contains_any l _ x.nm _ HS.out).mono ?_; rintro e w' ⟨rfl, rfl⟩; rw [HQ.out])
        refine cut_world (fun wx => RowS B wx (Value.slice va l.length vc) (ownN x l) ∧ (w.alloc (.cells #[.int .i64 x.op, .int .i64 x.n, .string x.nm, .slice ax x.ks.length cx] 37)).grownBy wx (Value.slice va l.length vc).ownBlock ∧ (∀ g, (Value.slice va l.length vc).ownBlock = some g → (Value.slice va l.length vc).ownBlock = some g ∨ (w.alloc (.cells #[.int .i64 x.op, .int .i64 x.n, .string x.nm, .slice ax x.ks.length cx] 37)).heap.size ≤ g) ∧ wx.cell? ⟨w.heap.size, 3, none⟩ = some (.slice ax x.ks.length cx)) ⟨by rw [hn]; exact HROW.out, World.grownBy.refl _ _, fun g hg => .inl hg, hcut0.out⟩ ?_
        rintro wx ⟨hr1, hg1, ho1, hc3⟩
        have HR1 := Lib.hid hr1
        have HG1 := Lib.hid hg1
        have HO1 := Lib.hid ho1
        clear hr1 hg1 ho1 hn
        have hgs := HG1.out.size
        have hW1s : (w.alloc (.cells #[.int .i64 x.op, .int .i64 x.n, .string x.nm, .slice ax x.ks.length cx] 37)).heap.size = w.heap.size + 1 := by simp
        go_wp2_with fail
        go_loopw [25, 1] (fun i s1 wr => ∃ (k : Nat) (vr : Value), k ≤ x.ks.length ∧ i = .int .i64 k ∧ s1 = vr ∧ RowS B wr vr ((x.ks.take k).foldl (fun l k => namesE m k l) (ownN x l)) ∧ (w.alloc (.cells #[.int .i64 x.op, .int .i64 x.n, .string x.nm, .slice ax x.ks.length cx] 37)).grownBy wr (Value.slice va l.length vc).ownBlock ∧ (∀ g, vr.ownBlock = some g → (Value.slice va l.length vc).ownBlock = some g ∨ (w.alloc (.cells #[.int .i64 x.op, .int .i64 x.n, .string x.nm, .slice ax x.ks.length cx] 37)).heap.size ≤ g) ∧ wr.cell? ⟨w.heap.size, 3, none⟩ = some (.slice ax x.ks.length cx)) (fun i _ _ => (x.ks.length - intOf i).toNat)
        case atStart => exact ⟨0, _, by omega, rfl, rfl, HR1.out, HG1.out, HO1.out, hc3⟩
        case round =>
          obtain ⟨k, vr, hk, rfl, rfl, hr2, hg2, ho2, hc4⟩ := hrel
          have HR2 := Lib.hid hr2
          have HG2 := Lib.hid hg2
          have HO2 := Lib.hid ho2
          have HC4 := Lib.hid hc4
          have hkr := ExC.mono (low_grown hg2 fun g hg => (HROW.out.lt g hg).1) HK.out
          have hsz2 := hg2.size
          obtain ⟨va2, n2, vc2, rfl, -⟩ := hr2.form
          clear hr2 hg2 ho2 hc3
          by_cases hlt : k < x.ks.length
          · have hlt' : (k : Int) < (x.ks.length : Int) := by omega
            have h0k : (0 : Int) ≤ (k : Int) := by omega
            have hne : x.ks ≠ [] := by intro h; rw [h] at hlt; simp at hlt
            obtain ⟨g, off, cap', hv, _, hcells⟩ := SlAt.cells (show SlAt 4 (ExAt (lowC B wr) (ExC (lowC B wr) d)) (.slice ax x.ks.length cx) x.ks from hkr) hne
            simp only [Value.slice.injEq] at hv
            obtain ⟨rfl, -, rfl⟩ := hv
            obtain ⟨ku, c0, c1, c2, c3, hok2, hku⟩ := hcells k hlt
            have hkm := HKIDS.out _ (List.getElem_mem hlt)
            obtain ⟨xk, hxk⟩ : ∃ xk, Hid (x.ks[k] = xk) := ⟨_, Lib.hid rfl⟩
            rw [hxk.out] at c0 c1 c2 hok2 hku hkm
            obtain ⟨au, cu, rfl, -, -⟩ := hku.form
            have hgB := c0.1
            have d0 : wr.cell? ⟨g, off + k * 4, none⟩ = _ := c0.2
            have d1 : wr.cell? ⟨g, off + k * 4 + 1, none⟩ = _ := c1.2
            have d2 : wr.cell? ⟨g, off + k * 4 + 2, none⟩ = _ := c2.2
            have d3 : wr.cell? ⟨g, off + k * 4 + 3, none⟩ = _ := c3.2
            have HKU := Lib.hid hku
            have HOK2 := Lib.hid hok2
            have hmid := names_mid (l := l) HMAY.out hlt
            have HMID := Lib.hid hmid
            have HKM := Lib.hid hkm
            clear c0 c1 c2 c3 hcells hku hok2 hkr hne hmid hkm
            go_wp2_with fail
            obtain ⟨lk, hlk⟩ : ∃ lk, Hid ((x.ks.take k).foldl (fun l k => namesE m k l) (ownN x l) = lk) := ⟨_, Lib.hid rfl⟩
            rw [hlk.out] at HR2 HMID
            have hbnd : Room lk m := Nat.le_trans HMID.out HLEN.out
            have hBs : B ≤ (wr.alloc (.cells #[.int .i64 xk.op, .int .i64 xk.n, .string xk.nm, .slice au xk.ks.length cu] 37)).heap.size := by simp at hsz2 ⊢; omega
            refine (IH.out d xk (.slice au xk.ks.length cu) (.slice va2 n2 vc2) lk _ hm2 HKM.out HOK2.out (ExC.mono (low_next (boxed wr _)) HKU.out) (HR2.out.next (boxed wr _)) hBs hbnd).mono ?_
            clear hbnd hBs
            rintro e w3 ⟨v3, rfl, hr3, hg3, ho3⟩
            obtain ⟨va3, n3, vc3, rfl, -⟩ := hr3.form
            have HR3 := Lib.hid hr3
            have HO3 := Lib.hid ho3
            have hbx := boxed wr (.cells #[.int .i64 xk.op, .int .i64 xk.n, .string xk.nm, .slice au xk.ks.length cu] 37)
            have hg4 : (w.alloc (.cells #[.int .i64 x.op, .int .i64 x.n, .string x.nm, .slice (some ⟨g, off, none⟩) x.ks.length cx] 37)).grownBy w3 (Value.slice va l.length vc).ownBlock := HG2.out.andThen (((grown_of hbx _).trans hg3)) fun j hj => (HO2.out j hj).elim Or.inr Or.inl
            have hc5 : w3.cell? ⟨w.heap.size, 3, none⟩ = some (.slice (some ⟨g, off, none⟩) x.ks.length cx) := by
              rw [hg4.cell_far ⟨w.heap.size, 3, none⟩ (by simp) (fun e => by have := (HROWX.out.lt _ e.symm).2; simp only at this; omega)]
              exact hcut0.out
            have HG4 := Lib.hid hg4
            clear hr3 hg3 ho3 hbx hg4
            go_wp2_with fail
            go_roundw
            case rel =>
              refine ⟨k + 1, _, by omega, by go_num, rfl, ?_, HG4.out, fun q hq => ?_, hc5⟩
              · rw [List.take_succ_eq_append_getElem hlt, List.foldl_append, hlk.out, List.foldl_cons, List.foldl_nil, hxk.out]
                exact HR3.out
              · rcases HO3.out q hq with h | h
                · exact HO2.out q h
                · right
                  simp only [World.size_alloc] at h hsz2 ⊢
                  omega
            case measure => simp [intOf]; omega
          · have hlt' : ¬ (k : Int) < (x.ks.length : Int) := by omega
            have he : x.ks.take k = x.ks := List.take_of_length_le (by omega)
            rw [he] at HR2
            go_wp2_with fail
            go_ret
            refine ⟨_, rfl, HR2.out, (grown_of HBOX.out _).trans HG2.out, fun q hq => ?_⟩
            rcases HO2.out q hq with h | h
            · exact .inl h
            · right
              simp only [World.size_alloc] at h
              omega
      | none =>
        have hn : ownN x l = l ++ [x.nm] := by unfold ownN addN; rw [if_pos ho, if_pos hq]
        clear ho
        have HQ := Lib.hid hq
        go_wp2_with (first
          | (go_at_call 87; refine (contains_any l _ x.nm _ HS.out).mono ?_; rintro e w' ⟨rfl, rfl⟩; rw [HQ.out])
          | (at_builtin; refine wpList_append_lies _ rfl (.tmp 17) (.tmp 20) 22 rfl B 9 i0 (.string ⟨#[]⟩) 1 16 Try.underlying22 hi hz0 hz1 hz2 rfl (by decide) _ _ _ rfl (HROW.out.1.alloc _) ⟨_, 0, none⟩ 1 1 [.string x.nm] rfl rfl ?c1 str_cells (by decide) ?c3 ?c4 ?c5 _ rfl ?_))
        case c1 =>
          intro j u h
          match j, h with
          | 0, h => cases h; rw [Addr.add_lit]; simp [go_sem]
        case c3 => unfold maxLen; omega
        case c4 => omega
        case c5 => simp; omega
        intro g4 cap4 w4 hown4 hg4 hat4 hlt4
        have hgg : (w.alloc (.cells #[.int .i64 x.op, .int .i64 x.n, .string x.nm, .slice ax x.ks.length cx] 37)).grownBy w4 (Value.slice va l.length vc).ownBlock := (grown_of (boxed _ _) _).trans hg4
        go_upto_region 3 with fail
        refine cut_world (fun wx => RowS B wx (Value.slice (some ⟨g4, 0, none⟩) (l.length + 1) cap4) (ownN x l) ∧ (w.alloc (.cells #[.int .i64 x.op, .int .i64 x.n, .string x.nm, .slice ax x.ks.length cx] 37)).grownBy wx (Value.slice va l.length vc).ownBlock ∧ (∀ g, (Value.slice (some ⟨g4, 0, none⟩) (l.length + 1) cap4).ownBlock = some g → (Value.slice va l.length vc).ownBlock = some g ∨ (w.alloc (.cells #[.int .i64 x.op, .int .i64 x.n, .string x.nm, .slice ax x.ks.length cx] 37)).heap.size ≤ g) ∧ wx.cell? ⟨w.heap.size, 3, none⟩ = some (.slice ax x.ks.length cx)) ⟨by
                  rw [hn]
                  refine ⟨by simpa using hown4, ?_⟩
                  have := HROW.out.2.own HOK.out.nm
                  rwa [hn] at this, hgg, fun q hq => by
                  have hqq : g4 = q := by { simpa [Value.ownBlock] using hq }
                  subst hqq
                  refine hat4.imp id fun h => ?_
                  simp only [World.size_alloc] at h ⊢
                  omega, by
                  rw [hgg.cell_far ⟨w.heap.size, 3, none⟩ (by simp) (fun e => by have := (HROWX.out.lt _ e.symm).2; simp only at this; omega)]
                  exact hcut0.out⟩ ?_
        rintro wx ⟨hr1, hg1, ho1, hc3⟩
        have HR1 := Lib.hid hr1
        have HG1 := Lib.hid hg1
        have HO1 := Lib.hid ho1
        clear hr1 hg1 ho1 hn
        clear hgg hg4 hown4
        have hgs := HG1.out.size
        have hW1s : (w.alloc (.cells #[.int .i64 x.op, .int .i64 x.n, .string x.nm, .slice ax x.ks.length cx] 37)).heap.size = w.heap.size + 1 := by simp
        go_wp2_with fail
        go_loopw [25, 1] (fun i s1 wr => ∃ (k : Nat) (vr : Value), k ≤ x.ks.length ∧ i = .int .i64 k ∧ s1 = vr ∧ RowS B wr vr ((x.ks.take k).foldl (fun l k => namesE m k l) (ownN x l)) ∧ (w.alloc (.cells #[.int .i64 x.op, .int .i64 x.n, .string x.nm, .slice ax x.ks.length cx] 37)).grownBy wr (Value.slice va l.length vc).ownBlock ∧ (∀ g, vr.ownBlock = some g → (Value.slice va l.length vc).ownBlock = some g ∨ (w.alloc (.cells #[.int .i64 x.op, .int .i64 x.n, .string x.nm, .slice ax x.ks.length cx] 37)).heap.size ≤ g) ∧ wr.cell? ⟨w.heap.size, 3, none⟩ = some (.slice ax x.ks.length cx)) (fun i _ _ => (x.ks.length - intOf i).toNat)
        case atStart => exact ⟨0, _, by omega, rfl, rfl, HR1.out, HG1.out, HO1.out, hc3⟩
        case round =>
          obtain ⟨k, vr, hk, rfl, rfl, hr2, hg2, ho2, hc4⟩ := hrel
          have HR2 := Lib.hid hr2
          have HG2 := Lib.hid hg2
          have HO2 := Lib.hid ho2
          have HC4 := Lib.hid hc4
          have hkr := ExC.mono (low_grown hg2 fun g hg => (HROW.out.lt g hg).1) HK.out
          have hsz2 := hg2.size
          obtain ⟨va2, n2, vc2, rfl, -⟩ := hr2.form
          clear hr2 hg2 ho2 hc3
          by_cases hlt : k < x.ks.length
          · have hlt' : (k : Int) < (x.ks.length : Int) := by omega
            have h0k : (0 : Int) ≤ (k : Int) := by omega
            have hne : x.ks ≠ [] := by intro h; rw [h] at hlt; simp at hlt
            obtain ⟨g, off, cap', hv, _, hcells⟩ := SlAt.cells (show SlAt 4 (ExAt (lowC B wr) (ExC (lowC B wr) d)) (.slice ax x.ks.length cx) x.ks from hkr) hne
            simp only [Value.slice.injEq] at hv
            obtain ⟨rfl, -, rfl⟩ := hv
            obtain ⟨ku, c0, c1, c2, c3, hok2, hku⟩ := hcells k hlt
            have hkm := HKIDS.out _ (List.getElem_mem hlt)
            obtain ⟨xk, hxk⟩ : ∃ xk, Hid (x.ks[k] = xk) := ⟨_, Lib.hid rfl⟩
            rw [hxk.out] at c0 c1 c2 hok2 hku hkm
            obtain ⟨au, cu, rfl, -, -⟩ := hku.form
            have hgB := c0.1
            have d0 : wr.cell? ⟨g, off + k * 4, none⟩ = _ := c0.2
            have d1 : wr.cell? ⟨g, off + k * 4 + 1, none⟩ = _ := c1.2
            have d2 : wr.cell? ⟨g, off + k * 4 + 2, none⟩ = _ := c2.2
            have d3 : wr.cell? ⟨g, off + k * 4 + 3, none⟩ = _ := c3.2
            have HKU := Lib.hid hku
            have HOK2 := Lib.hid hok2
            have hmid := names_mid (l := l) HMAY.out hlt
            have HMID := Lib.hid hmid
            have HKM := Lib.hid hkm
            clear c0 c1 c2 c3 hcells hku hok2 hkr hne hmid hkm
            go_wp2_with fail
            obtain ⟨lk, hlk⟩ : ∃ lk, Hid ((x.ks.take k).foldl (fun l k => namesE m k l) (ownN x l) = lk) := ⟨_, Lib.hid rfl⟩
            rw [hlk.out] at HR2 HMID
            have hbnd : Room lk m := Nat.le_trans HMID.out HLEN.out
            have hBs : B ≤ (wr.alloc (.cells #[.int .i64 xk.op, .int .i64 xk.n, .string xk.nm, .slice au xk.ks.length cu] 37)).heap.size := by simp at hsz2 ⊢; omega
            refine (IH.out d xk (.slice au xk.ks.length cu) (.slice va2 n2 vc2) lk _ hm2 HKM.out HOK2.out (ExC.mono (low_next (boxed wr _)) HKU.out) (HR2.out.next (boxed wr _)) hBs hbnd).mono ?_
            clear hbnd hBs
            rintro e w3 ⟨v3, rfl, hr3, hg3, ho3⟩
            obtain ⟨va3, n3, vc3, rfl, -⟩ := hr3.form
            have HR3 := Lib.hid hr3
            have HO3 := Lib.hid ho3
            have hbx := boxed wr (.cells #[.int .i64 xk.op, .int .i64 xk.n, .string xk.nm, .slice au xk.ks.length cu] 37)
            have hg4 : (w.alloc (.cells #[.int .i64 x.op, .int .i64 x.n, .string x.nm, .slice (some ⟨g, off, none⟩) x.ks.length cx] 37)).grownBy w3 (Value.slice va l.length vc).ownBlock := HG2.out.andThen (((grown_of hbx _).trans hg3)) fun j hj => (HO2.out j hj).elim Or.inr Or.inl
            have hc5 : w3.cell? ⟨w.heap.size, 3, none⟩ = some (.slice (some ⟨g, off, none⟩) x.ks.length cx) := by
              rw [hg4.cell_far ⟨w.heap.size, 3, none⟩ (by simp) (fun e => by have := (HROWX.out.lt _ e.symm).2; simp only at this; omega)]
              exact hcut0.out
            have HG4 := Lib.hid hg4
            clear hr3 hg3 ho3 hbx hg4
            go_wp2_with fail
            go_roundw
            case rel =>
              refine ⟨k + 1, _, by omega, by go_num, rfl, ?_, HG4.out, fun q hq => ?_, hc5⟩
              · rw [List.take_succ_eq_append_getElem hlt, List.foldl_append, hlk.out, List.foldl_cons, List.foldl_nil, hxk.out]
                exact HR3.out
              · rcases HO3.out q hq with h | h
                · exact HO2.out q h
                · right
                  simp only [World.size_alloc] at h hsz2 ⊢
                  omega
            case measure => simp [intOf]; omega
          · have hlt' : ¬ (k : Int) < (x.ks.length : Int) := by omega
            have he : x.ks.take k = x.ks := List.take_of_length_le (by omega)
            rw [he] at HR2
            go_wp2_with fail
            go_ret
            refine ⟨_, rfl, HR2.out, (grown_of HBOX.out _).trans HG2.out, fun q hq => ?_⟩
            rcases HO2.out q hq with h | h
            · exact .inl h
            · right
              simp only [World.size_alloc] at h
              omega
    · have b1 : (x.op == 2) = false := by simpa using ho
      have hn : ownN x l = l := by unfold ownN; rw [if_neg ho]
      clear ho
      go_upto_region 3 with fail
      refine cut_world (fun wx => RowS B wx (Value.slice va l.length vc) (ownN x l) ∧ (w.alloc (.cells #[.int .i64 x.op, .int .i64 x.n, .string x.nm, .slice ax x.ks.length cx] 37)).grownBy wx (Value.slice va l.length vc).ownBlock ∧ (∀ g, (Value.slice va l.length vc).ownBlock = some g → (Value.slice va l.length vc).ownBlock = some g ∨ (w.alloc (.cells #[.int .i64 x.op, .int .i64 x.n, .string x.nm, .slice ax x.ks.length cx] 37)).heap.size ≤ g) ∧ wx.cell? ⟨w.heap.size, 3, none⟩ = some (.slice ax x.ks.length cx)) ⟨by rw [hn]; exact HROW.out, World.grownBy.refl _ _, fun g hg => .inl hg, hcut0.out⟩ ?_
      rintro wx ⟨hr1, hg1, ho1, hc3⟩
      have HR1 := Lib.hid hr1
      have HG1 := Lib.hid hg1
      have HO1 := Lib.hid ho1
      clear hr1 hg1 ho1 hn
      have hgs := HG1.out.size
      have hW1s : (w.alloc (.cells #[.int .i64 x.op, .int .i64 x.n, .string x.nm, .slice ax x.ks.length cx] 37)).heap.size = w.heap.size + 1 := by simp
      go_wp2_with fail
      go_loopw [25, 1] (fun i s1 wr => ∃ (k : Nat) (vr : Value), k ≤ x.ks.length ∧ i = .int .i64 k ∧ s1 = vr ∧ RowS B wr vr ((x.ks.take k).foldl (fun l k => namesE m k l) (ownN x l)) ∧ (w.alloc (.cells #[.int .i64 x.op, .int .i64 x.n, .string x.nm, .slice ax x.ks.length cx] 37)).grownBy wr (Value.slice va l.length vc).ownBlock ∧ (∀ g, vr.ownBlock = some g → (Value.slice va l.length vc).ownBlock = some g ∨ (w.alloc (.cells #[.int .i64 x.op, .int .i64 x.n, .string x.nm, .slice ax x.ks.length cx] 37)).heap.size ≤ g) ∧ wr.cell? ⟨w.heap.size, 3, none⟩ = some (.slice ax x.ks.length cx)) (fun i _ _ => (x.ks.length - intOf i).toNat)
      case atStart => exact ⟨0, _, by omega, rfl, rfl, HR1.out, HG1.out, HO1.out, hc3⟩
      case round =>
        obtain ⟨k, vr, hk, rfl, rfl, hr2, hg2, ho2, hc4⟩ := hrel
        have HR2 := Lib.hid hr2
        have HG2 := Lib.hid hg2
        have HO2 := Lib.hid ho2
        have HC4 := Lib.hid hc4
        have hkr := ExC.mono (low_grown hg2 fun g hg => (HROW.out.lt g hg).1) HK.out
        have hsz2 := hg2.size
        obtain ⟨va2, n2, vc2, rfl, -⟩ := hr2.form
        clear hr2 hg2 ho2 hc3
        by_cases hlt : k < x.ks.length
        · have hlt' : (k : Int) < (x.ks.length : Int) := by omega
          have h0k : (0 : Int) ≤ (k : Int) := by omega
          have hne : x.ks ≠ [] := by intro h; rw [h] at hlt; simp at hlt
          obtain ⟨g, off, cap', hv, _, hcells⟩ := SlAt.cells (show SlAt 4 (ExAt (lowC B wr) (ExC (lowC B wr) d)) (.slice ax x.ks.length cx) x.ks from hkr) hne
          simp only [Value.slice.injEq] at hv
          obtain ⟨rfl, -, rfl⟩ := hv
          obtain ⟨ku, c0, c1, c2, c3, hok2, hku⟩ := hcells k hlt
          have hkm := HKIDS.out _ (List.getElem_mem hlt)
          obtain ⟨xk, hxk⟩ : ∃ xk, Hid (x.ks[k] = xk) := ⟨_, Lib.hid rfl⟩
          rw [hxk.out] at c0 c1 c2 hok2 hku hkm
          obtain ⟨au, cu, rfl, -, -⟩ := hku.form
          have hgB := c0.1
          have d0 : wr.cell? ⟨g, off + k * 4, none⟩ = _ := c0.2
          have d1 : wr.cell? ⟨g, off + k * 4 + 1, none⟩ = _ := c1.2
          have d2 : wr.cell? ⟨g, off + k * 4 + 2, none⟩ = _ := c2.2
          have d3 : wr.cell? ⟨g, off + k * 4 + 3, none⟩ = _ := c3.2
          have HKU := Lib.hid hku
          have HOK2 := Lib.hid hok2
          have hmid := names_mid (l := l) HMAY.out hlt
          have HMID := Lib.hid hmid
          have HKM := Lib.hid hkm
          clear c0 c1 c2 c3 hcells hku hok2 hkr hne hmid hkm
          go_wp2_with fail
          obtain ⟨lk, hlk⟩ : ∃ lk, Hid ((x.ks.take k).foldl (fun l k => namesE m k l) (ownN x l) = lk) := ⟨_, Lib.hid rfl⟩
          rw [hlk.out] at HR2 HMID
          have hbnd : Room lk m := Nat.le_trans HMID.out HLEN.out
          have hBs : B ≤ (wr.alloc (.cells #[.int .i64 xk.op, .int .i64 xk.n, .string xk.nm, .slice au xk.ks.length cu] 37)).heap.size := by simp at hsz2 ⊢; omega
          refine (IH.out d xk (.slice au xk.ks.length cu) (.slice va2 n2 vc2) lk _ hm2 HKM.out HOK2.out (ExC.mono (low_next (boxed wr _)) HKU.out) (HR2.out.next (boxed wr _)) hBs hbnd).mono ?_
          clear hbnd hBs
          rintro e w3 ⟨v3, rfl, hr3, hg3, ho3⟩
          obtain ⟨va3, n3, vc3, rfl, -⟩ := hr3.form
          have HR3 := Lib.hid hr3
          have HO3 := Lib.hid ho3
          have hbx := boxed wr (.cells #[.int .i64 xk.op, .int .i64 xk.n, .string xk.nm, .slice au xk.ks.length cu] 37)
          have hg4 : (w.alloc (.cells #[.int .i64 x.op, .int .i64 x.n, .string x.nm, .slice (some ⟨g, off, none⟩) x.ks.length cx] 37)).grownBy w3 (Value.slice va l.length vc).ownBlock := HG2.out.andThen (((grown_of hbx _).trans hg3)) fun j hj => (HO2.out j hj).elim Or.inr Or.inl
          have hc5 : w3.cell? ⟨w.heap.size, 3, none⟩ = some (.slice (some ⟨g, off, none⟩) x.ks.length cx) := by
            rw [hg4.cell_far ⟨w.heap.size, 3, none⟩ (by simp) (fun e => by have := (HROWX.out.lt _ e.symm).2; simp only at this; omega)]
            exact hcut0.out
          have HG4 := Lib.hid hg4
          clear hr3 hg3 ho3 hbx hg4
          go_wp2_with fail
          go_roundw
          case rel =>
            refine ⟨k + 1, _, by omega, by go_num, rfl, ?_, HG4.out, fun q hq => ?_, hc5⟩
            · rw [List.take_succ_eq_append_getElem hlt, List.foldl_append, hlk.out, List.foldl_cons, List.foldl_nil, hxk.out]
              exact HR3.out
            · rcases HO3.out q hq with h | h
              · exact HO2.out q h
              · right
                simp only [World.size_alloc] at h hsz2 ⊢
                omega
          case measure => simp [intOf]; omega
        · have hlt' : ¬ (k : Int) < (x.ks.length : Int) := by omega
          have he : x.ks.take k = x.ks := List.take_of_length_le (by omega)
          rw [he] at HR2
          go_wp2_with fail
          go_ret
          refine ⟨_, rfl, HR2.out, (grown_of HBOX.out _).trans HG2.out, fun q hq => ?_⟩
          rcases HO2.out q hq with h | h
          · exact .inl h
          · right
            simp only [World.size_alloc] at h
            omega
end Go.Proofs.Ytghlmengcidmdaa.Tr
end
section
namespace Go.Proofs.Ytghlmengcidmdaa.Tr
open Go.RowKit Go.Proofs.Ytghlmengcidmdaa.Lx Go.Proofs.Ytghlmengcidmdaa.Wd
theorem low_all {w : World} : Cs.le (cw w) (lowC w.heap.size w) := fun _ _ _ h => ⟨cell_lt h, h⟩
/-- What a maker of a new row of texts leaves. -/
def NamesMade (l : List ByteArray) (w : World) (e : Ending) (w' : World) : Prop := ∃ v, e = .returned v ∧ RowS w.heap.size w' v l ∧ Below w.heap.size w w'
theorem below_of {w w' : World} (h : w.grownBy w' none) : Below w.heap.size w w' := ⟨h.os, h.tape, h.output, h.size, fun k hk => h.block k hk (by simp)⟩
theorem RowS.nil (B : Nat) (w : World) : RowS B w (.slice none 0 0) [] := ⟨World.ownsRow_nil _ _ _ _, fun s h => by cases h⟩
theorem RowS.mono {B B' : Nat} {w : World} {v : Value} {l : List ByteArray} (h : RowS B w v l) (hb : B' ≤ B) : RowS B' w v l := ⟨Go.Joins.ownsRow_le h.1 hb, h.2⟩
/-- What the two list in the end. -/
def namesOf (x : Ex) : List ByteArray := if mayE 20 x then namesE 20 x [] else []
theorem room20 : Room [] 20 := by unfold Room; decide
set_option maxHeartbeats 1000000 in
theorem names_any (d : Nat) (x : Ex) (kv : Value) (w : World) (hok : OkE x) (hk : ExK d w kv x.ks) : Calls Try.prog 146 #[exV x kv] w (NamesMade (namesOf x) w) := by
  have hbox := boxed w (.cells #[.int .i64 x.op, .int .i64 x.n, .string x.nm, kv] 37)
  have HBOX := Lib.hid hbox
  have HK1 := Lib.hid (hk.next hbox)
  have HOK := Lib.hid hok
  obtain ⟨a, cap, rfl, -, -⟩ := hk.form
  obtain ⟨mb, hm⟩ : ∃ mb, Hid (mayE 20 x = mb) := ⟨_, Lib.hid rfl⟩
  obtain ⟨L, hL⟩ : ∃ L, Hid (namesOf x = L) := ⟨_, Lib.hid rfl⟩
  rw [hL.out]
  clear hbox hk hok
  unfold exV
  go_enter Try.func146, Try.ntmps146
  go_wp2_with fail
  refine (mayExpr_any d x _ _ HOK.out HK1.out).mono ?_
  rintro e w1 ⟨rfl, hb⟩
  rw [hm.out]
  have p0 := cell_next (g := w.heap.size) (j := 0) (u := .int .i64 x.op) hb (by simp [go_sem])
  have p1 := cell_next (g := w.heap.size) (j := 1) (u := .int .i64 x.n) hb (by simp [go_sem])
  have p2 := cell_next (g := w.heap.size) (j := 2) (u := .string x.nm) hb (by simp [go_sem])
  have p3 := cell_next (g := w.heap.size) (j := 3) (u := .slice a x.ks.length cap) hb (by simp [go_sem])
  have HB := Lib.hid (HBOX.out.trans (hb.mono HBOX.out.size))
  have HK2 := Lib.hid (HK1.out.next hb)
  clear hb
  cases mb with
  | false =>
    go_wp2_with fail
    go_ret
    have he : L = [] := by rw [← hL.out]; unfold namesOf; rw [hm.out]; rfl
    rw [he]
    exact ⟨_, rfl, RowS.nil _ _, HB.out⟩
  | true =>
    have hle : w.heap.size ≤ w1.heap.size := HB.out.size
    go_wp2_with fail
    refine (gather_any w1.heap.size 20 d x _ _ [] _ (Nat.le_refl _) hm.out HOK.out (ExC.mono low_all (ExC.of HK2.out)) (RowS.nil _ _) (Nat.le_refl _) room20).mono ?_
    rintro e w2 ⟨v, rfl, hr, hg, -⟩
    obtain ⟨va, n, vc, rfl, -⟩ := hr.form
    have HR := Lib.hid hr
    have HG := Lib.hid hg
    clear hr hg
    go_wp2_with fail
    go_ret
    have he : L = namesE 20 x [] := by rw [← hL.out]; unfold namesOf; rw [hm.out]; rfl
    rw [he]
    exact ⟨_, rfl, HR.out.mono hle, HB.out.trans ((below_of HG.out).mono hle)⟩
set_option maxHeartbeats 1000000 in
theorem in_any (ns : List ByteArray) (nv : Value) (s : ByteArray) (w : World) (hn : StrsAt w nv ns) :
    Calls Try.prog 44 #[nv, .string s] w fun e w' => e = .returned (.bool (at_ s ns).isSome) ∧ w = w' := by
  obtain ⟨a, cap, rfl, hc1, hc2⟩ := hn.form
  have HN := Lib.hid hn
  clear hn
  go_enter Try.func44, Try.ntmps44
  go_wp2_with fail
  go_loop [8] (fun i => ∃ k : Nat, k ≤ ns.length ∧ i = .int .i64 k ∧ ∀ j (hj : j < ns.length), j < k → (s.toList == ns[j].toList) = false) (fun i => (ns.length - intOf i).toNat)
  case atStart => exact ⟨0, by omega, rfl, fun j _ h => absurd h (by omega)⟩
  case round =>
    obtain ⟨k, hk, rfl, hno⟩ := hrel
    have HNO := Lib.hid hno
    clear hno
    by_cases hlt : k < ns.length
    · have hlt' : (k : Int) < (ns.length : Int) := by omega
      have h0k : (0 : Int) ≤ (k : Int) := by omega
      have hne : ns ≠ [] := by intro h; rw [h] at hlt; simp at hlt
      obtain ⟨g, off, cap', hv, hcells⟩ := HN.out.cells hne
      simp only [Value.slice.injEq] at hv
      obtain ⟨rfl, -, rfl⟩ := hv
      obtain ⟨-, c0⟩ := hcells k hlt
      clear hcells hne
      cases hq : (s.toList == ns[k].toList) with
      | true =>
        have HQ := Lib.hid hq
        have hq' : (ns[k].toList == s.toList) = true := by rw [eq_text] at hq ⊢; exact hq.symm
        obtain ⟨m, hm⟩ : ∃ m, Hid (ns[k] = m) := ⟨_, Lib.hid rfl⟩
        rw [hm.out] at hq hq' c0
        go_wp2_with fail
        go_ret
        refine ⟨?_, rfl⟩
        rw [at_some hlt HQ.out (fun j hj => HNO.out j (by omega) hj)]
        rfl
      | false =>
        have HQ := Lib.hid hq
        have hq' : (ns[k].toList == s.toList) = false := by
          cases h : (ns[k].toList == s.toList) with
          | false => rfl
          | true => rw [eq_text] at h; rw [h, (eq_text s s).2 rfl] at hq; cases hq
        obtain ⟨m, hm⟩ : ∃ m, Hid (ns[k] = m) := ⟨_, Lib.hid rfl⟩
        rw [hm.out] at hq hq' c0
        go_wp2_with fail
        go_round
        case rel =>
          refine ⟨k + 1, by omega, by go_num, fun j hj hjk => ?_⟩
          rcases Nat.lt_or_ge j k with h | h
          · exact HNO.out j hj h
          · obtain rfl : j = k := by omega
            exact HQ.out
        case measure => simp [intOf]; omega
    · have hlt' : ¬ (k : Int) < (ns.length : Int) := by omega
      go_wp2_with fail
      go_ret
      refine ⟨?_, rfl⟩
      rw [at_none (fun j hj => HNO.out j hj (by omega))]
      rfl
end Go.Proofs.Ytghlmengcidmdaa.Tr
end
section
namespace Go.Proofs.Ytghlmengcidmdaa.Tr
open Go.RowKit Go.Proofs.Ytghlmengcidmdaa.Lx Go.Proofs.Ytghlmengcidmdaa.Wd
section
variable {P : Program} (w : World)
theorem run_append_sl (t ty : TypeId) (base : Nat) (e : TypeId) (i : TypeInfo) (z : Value) (size bytes : Nat) (ht : P.underlying t = some (.slice e)) (hi : P.info? e = some i) (hz : i.zero = some z)
    (hsize : i.size = size) (hby : i.bytes = bytes) (hzs : z.cells.size = size) (hsz : 0 < size)
    (v : Value) (n : Nat) (xs : List Value) (hown : w.ownsRow base e size v n xs)
    (ax : Option Addr) (m c : Nat) (news : List Value) (hn0 : ax = none → m = 0) (hl : news.length = m * size) (hnews : ∀ ad, ax = some ad → ∀ j u, news[j]? = some u → w.cell? (ad.add j) = some u) (h1 : ∀ u ∈ news, u.oneCell' = true)
    (h63 : n + m ≤ maxLen) (hbytes : (n + m) * bytes ≤ 140737488355328) (hbase : base ≤ w.heap.size) :
    ∃ v' w', (Builtin.append_ #[t, t] ty #[v, .slice ax m c]).run P w = .ok v' w' ∧ w'.ownsRow base e size v' (n + m) (xs ++ news) ∧ w.grownBy w' v.ownBlock ∧ (∀ g, v'.ownBlock = some g → v.ownBlock = some g ∨ w.heap.size ≤ g) := by
  cases ax with
  | none =>
    have hm := hn0 rfl
    subst hm
    have hnil : news = [] := List.eq_nil_of_length_eq_zero (by omega)
    subst hnil
    have hform : ∃ b cap, v = .slice b n cap ∧ n ≤ cap := by
      rcases hown.2 with ⟨rfl, rfl⟩ | ⟨g, cap, _, rfl, _, _, h, _⟩
      · exact ⟨_, _, rfl, Nat.le_refl _⟩
      · exact ⟨_, _, rfl, h⟩
    obtain ⟨b, cap, rfl, hle⟩ := hform
    refine ⟨_, _, Go.run_append_nothing w t t ty e i ht hi b n cap hle (.slice none 0 c) (Src.ofNil w ht c), ?_, ?_, ?_⟩
    · simpa using hown
    · exact ⟨rfl, rfl, rfl, Nat.le_refl _, fun _ _ _ => rfl⟩
    · exact fun g hg => .inl hg
  | some ad =>
    obtain ⟨v', w', hr, h2, h3, _, h5⟩ := run_append_own_at (P := P) w base t ty e i z size bytes ht hi hz hsize hby hzs hsz v n xs hown ad m c news hl (hnews ad rfl) h1 h63 hbytes hbase
    refine ⟨v', w', hr, h2, h3, fun g hg => ?_⟩
    rcases h5 with h5 | h5
    · left; rw [← h5]; exact hg
    · right; rw [h5] at hg; cases hg; exact Nat.le_refl _
theorem wpList_append_sl {ops : Array Oper} {rest : List Oper} {o : Oper} {a : Act} {Q : Exit → Act → World → Prop} (hgd : o.guard = none) (s x : Operand) (t : TypeId)
    (ho : o.op = .call { callee := .builtin .append, args := #[s, x], argTypes := #[t, t] })
    (base : Nat) (e : TypeId) (i : TypeInfo) (z : Value) (size bytes : Nat) (ht : P.underlying t = some (.slice e)) (hi : P.info? e = some i) (hz : i.zero = some z)
    (hsize : i.size = size) (hby : i.bytes = bytes) (hzs : z.cells.size = size) (hsz : 0 < size)
    (v : Value) (n : Nat) (xs : List Value) (hs : a.eval s = v) (hown : w.ownsRow base e size v n xs)
    (ax : Option Addr) (m c : Nat) (news : List Value) (hx : a.eval x = .slice ax m c) (hn0 : ax = none → m = 0) (hl : news.length = m * size) (hnews : ∀ ad, ax = some ad → ∀ j u, news[j]? = some u → w.cell? (ad.add j) = some u) (h1 : ∀ u ∈ news, u.oneCell' = true)
    (h63 : n + m ≤ maxLen) (hbytes : (n + m) * bytes ≤ 140737488355328) (hbase : base ≤ w.heap.size)
    (h : ∀ v' w', w'.ownsRow base e size v' (n + m) (xs ++ news) → w.grownBy w' v.ownBlock → (∀ g, v'.ownBlock = some g → v.ownBlock = some g ∨ w.heap.size ≤ g) → wpList P ops Q rest (a.put o.dst v') w') : wpList P ops Q (o :: rest) a w :=
  wpList_plain hgd fun _ hK => by
    obtain ⟨v', w', hr, h2, h3, h4⟩ := run_append_sl (P := P) w t o.type base e i z size bytes ht hi hz hsize hby hzs hsz v n xs hown ax m c news hn0 hl hnews h1 h63 hbytes hbase
    unfold Oper.wp execOp
    simp only [ho, resolve, invoke, builtin, Sem.run_bind, Sem.run_pure, Result.andThen_ok, List.map_toArray, List.map_cons, List.map_nil, hs, hx, hr]
    exact hK _ _ (h v' w' h2 h3 h4)
theorem step_append_sl {ops : Array Oper} {o : Oper} {a : Act} {K : Act → World → Prop} {Q : Exit → Act → World → Prop} {E : Prop} (hgd : o.guard = none) (s x : Operand) (t : TypeId)
    (ho : o.op = .call { callee := .builtin .append, args := #[s, x], argTypes := #[t, t] })
    (base : Nat) (e : TypeId) (i : TypeInfo) (z : Value) (size bytes : Nat) (ht : P.underlying t = some (.slice e)) (hi : P.info? e = some i) (hz : i.zero = some z)
    (hsize : i.size = size) (hby : i.bytes = bytes) (hzs : z.cells.size = size) (hsz : 0 < size)
    (v : Value) (n : Nat) (xs : List Value) (hs : a.eval s = v) (hown : w.ownsRow base e size v n xs)
    (ax : Option Addr) (m c : Nat) (news : List Value) (hx : a.eval x = .slice ax m c) (hn0 : ax = none → m = 0) (hl : news.length = m * size) (hnews : ∀ ad, ax = some ad → ∀ j u, news[j]? = some u → w.cell? (ad.add j) = some u) (h1 : ∀ u ∈ news, u.oneCell' = true)
    (h63 : n + m ≤ maxLen) (hbytes : (n + m) * bytes ≤ 140737488355328) (hbase : base ≤ w.heap.size)
    (h : ∀ va vc w', w'.ownsRow base e size (.slice va (n + m) vc) (n + m) (xs ++ news) → w.grownBy w' v.ownBlock → (∀ g, (Value.slice va (n + m) vc).ownBlock = some g → v.ownBlock = some g ∨ w.heap.size ≤ g) → K (a.put o.dst (.slice va (n + m) vc)) w') :
    if Region.wanted o (yielded ops a.tmps) = true then Oper.wp P o a w K Q else E := by
  have hw : Region.wanted o (yielded ops a.tmps) = true := by simp [Region.wanted, hgd]
  rw [if_pos hw]
  obtain ⟨v', w', hr, h2, h3, h4⟩ := run_append_sl (P := P) w t o.type base e i z size bytes ht hi hz hsize hby hzs hsz v n xs hown ax m c news hn0 hl hnews h1 h63 hbytes hbase
  obtain ⟨va, vc, rfl⟩ := ownsForm h2
  unfold Oper.wp execOp
  simp only [ho, resolve, invoke, builtin, Sem.run_bind, Sem.run_pure, Result.andThen_ok, List.map_toArray, List.map_cons, List.map_nil, hs, hx, hr]
  exact h va vc w' h2 h3 h4
theorem str_all (l : List ByteArray) : ∀ u ∈ l.map Value.string, u.oneCell' = true := fun u hu => by
  obtain ⟨s, _, rfl⟩ := List.mem_map.1 hu
  rfl
end
/-- What is read of a list of texts, of numbers, for an append. -/
theorem StrsAt.news {w : World} {a : Option Addr} {n c : Nat} {l : List ByteArray} (h : StrsAt w (.slice a n c) l) : n = l.length ∧ (a = none → n = 0) ∧ (∀ ad, a = some ad → ∀ j u, (l.map Value.string)[j]? = some u → w.cell? (ad.add j) = some u) := by
  obtain ⟨a', cap, h1, h2, h3, h4⟩ := h
  simp only [Value.slice.injEq] at h1
  obtain ⟨rfl, rfl, rfl⟩ := h1
  refine ⟨rfl, fun ha => ?_, fun ad had j u hu => ?_⟩
  · by_cases hne : l = []
    · rw [hne]; rfl
    · obtain ⟨g, off, h5, _⟩ := h4 hne
      rw [ha] at h5; cases h5
  · rw [List.getElem?_map] at hu
    cases hq : l[j]? with
    | none => rw [hq] at hu; cases hu
    | some q =>
      rw [hq] at hu
      obtain ⟨hj, rfl⟩ := List.getElem?_eq_some_iff.1 hq
      have hne : l ≠ [] := by intro e; rw [e] at hj; cases hj
      obtain ⟨g, off, h5, h6⟩ := h4 hne
      rw [had] at h5
      cases h5
      rw [Addr.add_lit]
      cases hu
      exact (h6 j hj).2
theorem StrsAt.all {w : World} {v : Value} {l : List ByteArray} (h : StrsAt w v l) : Fine l := by
  obtain ⟨a, cap, _, _, _, h4⟩ := h
  intro s hs
  obtain ⟨g, off, _, h6⟩ := h4 (List.ne_nil_of_mem hs)
  obtain ⟨j, hj, rfl⟩ := List.getElem_of_mem hs
  exact (h6 j hj).1
end Go.Proofs.Ytghlmengcidmdaa.Tr
end
section
namespace Go.Proofs.Ytghlmengcidmdaa.Tr
open Go.RowKit Go.Proofs.Ytghlmengcidmdaa.Lx Go.Proofs.Ytghlmengcidmdaa.Wd
end Go.Proofs.Ytghlmengcidmdaa.Tr
end
end
section
/- Plain: statements counted, found. How rows of statements lie. Conditions: none.
   What tree.count, tree.Count compute. Conditions: the rows lie in memory.
   What tree.find computes: where the first statement of an id stands. Conditions: the rows lie in memory.
   Plain: statements weighed, copied, numbered; a statement, an argument as cells. Conditions: none.
   What slices.Clone makes: a new slice. Conditions: the slice lies in memory, it is not long. -/
section
namespace Go.Proofs.Ytghlmengcidmdaa.Tr
open Go.RowKit Go.Proofs.Ytghlmengcidmdaa.Lx Go.Proofs.Ytghlmengcidmdaa.Wd
mutual
/-- How many statements a row has, with those in them. -/
def cntS : St → Nat
  | .mk _ _ _ _ _ _ _ _ t e => 1 + cntL t + cntL e
def cntL : List St → Nat
  | [] => 0
  | s :: r => cntS s + cntL r
end
theorem cntS_eq (s : St) : cntS s = 1 + cntL s.thn + cntL s.els := by cases s; simp only [cntS, St.thn, St.els]
theorem cntL_cons (s : St) (r : List St) : cntL (s :: r) = cntS s + cntL r := by simp only [cntL]
theorem cntL_append (l m : List St) : cntL (l ++ m) = cntL l + cntL m := by
  induction l with
  | nil => simp [cntL]
  | cons s r ih => rw [List.cons_append, cntL_cons, cntL_cons, ih]; omega
theorem StC.form {C : Cs} {d : Nat} {v : Value} {l : List St} (h : StC C d v l) : ∃ a cap, v = .slice a l.length cap ∧ l.length ≤ cap ∧ cap ≤ 9223372036854775807 := by
  cases d with
  | zero => exact h.elim
  | succ d => exact SlAt.form h
theorem StC.next {w w' : World} {d : Nat} {v : Value} {l : List St} (h : StC (cw w) d v l) (hb : Below w.heap.size w w') : StC (cw w') d v l := StC.mono (cw_next hb) h
end Go.Proofs.Ytghlmengcidmdaa.Tr
end
section
namespace Go.Proofs.Ytghlmengcidmdaa.Tr
open Go.RowKit Go.Proofs.Ytghlmengcidmdaa.Lx Go.Proofs.Ytghlmengcidmdaa.Wd
end Go.Proofs.Ytghlmengcidmdaa.Tr
end
section
namespace Go.Proofs.Ytghlmengcidmdaa.Tr
open Go.RowKit Go.Proofs.Ytghlmengcidmdaa.Lx Go.Proofs.Ytghlmengcidmdaa.Wd
theorem ExAt.up {C : Cs} {d g o : Nat} {x : Ex} (h : ExAt C (ExC C d) g o x) : ExAt C (ExC C (d + 1)) g o x := ExAt.mono (fun _ _ _ q => q) (fun _ _ q => q.up) h
theorem StAt.up {C : Cs} {d : Nat} {P Q : Value → List St → Prop} (hpq : ∀ v l, P v l → Q v l) {g o : Nat} {s : St} (hs : StAt C d P g o s) : StAt C (d + 1) Q g o s := by
  obtain ⟨lv, av, tv, ev, h0, h1, h2, h3, h4, h5, h9, h10, h11, h12, i1, i2, i3, i4, i5, i6, i7, i8⟩ := hs
  exact ⟨lv, av, tv, ev, h0, h1, h2, h3, h4, h5.up, h9, h10, h11, h12, i1, i2, i3, i4, i5, SlAt.imp i6 (fun _ _ _ _ q => ⟨q.1, q.2.1, q.2.2.1, q.2.2.2.up⟩), hpq _ _ i7, hpq _ _ i8⟩
theorem StC.up {C : Cs} : ∀ {d : Nat} {v : Value} {l : List St}, StC C d v l → StC C (d + 1) v l := by
  intro d
  induction d with
  | zero => intro v l h; exact h.elim
  | succ d ih => intro v l h; exact SlAt.imp h fun _ _ _ _ q => q.up fun _ _ => ih
end Go.Proofs.Ytghlmengcidmdaa.Tr
end
section
namespace Go.Proofs.Ytghlmengcidmdaa.Tr
open Go.RowKit Go.Proofs.Ytghlmengcidmdaa.Lx Go.Proofs.Ytghlmengcidmdaa.Wd
/-- What texts, arguments weigh. -/
def wtTs (l : List ByteArray) : Nat := (l.map fun s => 1 + s.size).sum
def wtAr (a : Ar) : Nat := wt a.x + 1 + a.nm.size
mutual
/-- What statements weigh. -/
def wtS : St → Nat
  | .mk _ _ ls nm pr x _ ar t e => wt x + wtTs ls + (1 + nm.size) + (1 + pr.size) + (ar.map wtAr).sum + wtL t + wtL e
def wtL : List St → Nat
  | [] => 0
  | s :: r => wtS s + wtL r
end
theorem wtS_eq (s : St) : wtS s = wt s.x + wtTs s.labels + (1 + s.nm.size) + (1 + s.proc.size) + (s.args.map wtAr).sum + wtL s.thn + wtL s.els := by cases s; simp only [wtS, St.x, St.labels, St.nm, St.proc, St.args, St.thn, St.els]
theorem wtL_cons (s : St) (r : List St) : wtL (s :: r) = wtS s + wtL r := by simp only [wtL]
theorem wtL_mem {l : List St} {s : St} (h : s ∈ l) : wtS s ≤ wtL l := by
  induction l with
  | nil => cases h
  | cons t r ih =>
    rw [wtL_cons]
    rcases List.mem_cons.1 h with rfl | h
    · omega
    · have := ih h; omega
theorem wtL_len (l : List St) : l.length ≤ wtL l := by
  induction l with
  | nil => simp
  | cons s r ih => rw [wtL_cons, wtS_eq, List.length_cons]; omega
theorem wtTs_len (l : List ByteArray) : l.length ≤ wtTs l := by
  induction l with
  | nil => simp
  | cons s r ih => unfold wtTs at *; rw [List.map_cons, List.sum_cons, List.length_cons]; omega
theorem wtAr_len (l : List Ar) : l.length ≤ (l.map wtAr).sum := by
  induction l with
  | nil => simp
  | cons s r ih => rw [List.map_cons, List.sum_cons, List.length_cons]; unfold wtAr at *; omega
theorem wtAr_mem {l : List Ar} {a : Ar} (h : a ∈ l) : wt a.x ≤ (l.map wtAr).sum := by
  induction l with
  | nil => cases h
  | cons t r ih =>
    rw [List.map_cons, List.sum_cons]
    rcases List.mem_cons.1 h with rfl | h
    · unfold wtAr; omega
    · have := ih h; omega
theorem wts_len (l : List Ex) : l.length ≤ wts l := by
  induction l with
  | nil => simp
  | cons x r ih => simp only [wts, List.length_cons]; rw [wt_eq]; omega
theorem wts_mem {l : List Ex} {x : Ex} (h : x ∈ l) : wt x ≤ wts l := by
  induction l with
  | nil => cases h
  | cons t r ih =>
    simp only [wts]
    rcases List.mem_cons.1 h with rfl | h
    · omega
    · have := ih h; omega
/-- What is light has no long row of kids. -/
theorem lim_of : ∀ (d : Nat) (ks : List Ex), wts ks ≤ 20000 → lim d ks := by
  intro d
  induction d with
  | zero => intro ks _; trivial
  | succ d ih =>
    intro ks h
    refine ⟨Nat.le_trans (wts_len ks) h, fun k hk => ih k.ks ?_⟩
    have := wts_mem hk
    rw [wt_eq] at this
    omega
theorem lim_ex {x : Ex} (h : wt x ≤ 20000) (d : Nat) : lim d x.ks := lim_of d x.ks (by rw [wt_eq] at h; omega)
mutual
/-- A statement anew, numbered from behind some if so. -/
def cpS (b : Bool) (n : Int) : St → St
  | .mk i k ls nm pr x h ar t e => .mk (if b then wrap64 (n + 1) else i) k ls nm pr x h ar (cpL b (n + 1) t) (cpL b (n + 1 + cntL t) e)
def cpL (b : Bool) (n : Int) : List St → List St
  | [] => []
  | s :: r => cpS b n s :: cpL b (n + cntS s) r
end
theorem cpS_eq (b : Bool) (n : Int) (s : St) : cpS b n s = .mk (if b then wrap64 (n + 1) else s.id) s.kind s.labels s.nm s.proc s.x s.has s.args (cpL b (n + 1) s.thn) (cpL b (n + 1 + cntL s.thn) s.els) := by cases s; simp only [cpS, St.id, St.kind, St.labels, St.nm, St.proc, St.x, St.has, St.args, St.thn, St.els]
theorem cpL_cons (b : Bool) (n : Int) (s : St) (r : List St) : cpL b n (s :: r) = cpS b n s :: cpL b (n + cntS s) r := by simp only [cpL]
theorem cpL_append (b : Bool) : ∀ (l m : List St) (n : Int), cpL b n (l ++ m) = cpL b n l ++ cpL b (n + cntL l) m := by
  intro l
  induction l with
  | nil => intro m n; simp [cpL, cntL]
  | cons s r ih =>
    intro m n
    rw [List.cons_append, cpL_cons, cpL_cons, ih, cntL_cons, List.cons_append]
    congr 3
    push_cast
    omega
theorem cpL_len (b : Bool) : ∀ (l : List St) (n : Int), (cpL b n l).length = l.length := by
  intro l
  induction l with
  | nil => intro n; simp [cpL]
  | cons s r ih => intro n; rw [cpL_cons, List.length_cons, List.length_cons, ih]
/-- An argument, a statement as cells. -/
def ArQ (d : Nat) (C : Cs) (c : List Value) (a : Ar) : Prop := ∃ kv, c = [.bool a.ref, .string a.nm, .int .i64 a.x.op, .int .i64 a.x.n, .string a.x.nm, kv] ∧ a.nm.size ≤ 9223372036854775807 ∧ OkE a.x ∧ ExC C d kv a.x.ks
theorem ArQ.mono (d : Nat) : ∀ C D c x, Cs.le C D → ArQ d C c x → ArQ d D c x := fun _ _ _ _ h ⟨kv, h1, h2, h3, h4⟩ => ⟨kv, h1, h2, h3, ExC.mono h h4⟩
theorem ArQ.at_ (d : Nat) : ∀ (C : Cs) (c : List Value) (g o : Nat) (x : Ar), ArQ d C c x → (∀ j u, c[j]? = some u → C g (o + j) u) → ArAt C d g o x := by
  intro C c g o x ⟨kv, h1, h2, h3, h4⟩ h
  subst h1
  exact ⟨h 0 _ rfl, h 1 _ rfl, h2, kv, h 2 _ rfl, h 3 _ rfl, h 4 _ rfl, h 5 _ rfl, h3, h4⟩
def stCells (s : St) (kv lv av tv ev : Value) : List Value := [.int .i64 s.id, .int .i64 s.kind, lv, .string s.nm, .string s.proc, .int .i64 s.x.op, .int .i64 s.x.n, .string s.x.nm, kv, .bool s.has, av, tv, ev]
def StQ (d : Nat) (C : Cs) (c : List Value) (s : St) : Prop := ∃ kv lv av tv ev, c = stCells s kv lv av tv ev ∧ OkE s.x ∧ ExC C d kv s.x.ks ∧ InI s.id ∧ InI s.kind ∧ s.nm.size ≤ 9223372036854775807 ∧ s.proc.size ≤ 9223372036854775807 ∧ StrC C lv s.labels ∧ SlAt 6 (ArAt C d) av s.args ∧ StC C d tv s.thn ∧ StC C d ev s.els
theorem StQ.mono (d : Nat) : ∀ C D c x, Cs.le C D → StQ d C c x → StQ d D c x := fun _ _ _ _ h ⟨kv, lv, av, tv, ev, h1, h2, h3, h4, h5, h6, h7, h8, h9, h10, h11⟩ =>
  ⟨kv, lv, av, tv, ev, h1, h2, ExC.mono h h3, h4, h5, h6, h7, StrC.mono h h8, SlAt.imp h9 (fun _ _ _ _ => ArAt.mono h), StC.mono h h10, StC.mono h h11⟩
theorem StQ.at_ (d : Nat) : ∀ (C : Cs) (c : List Value) (g o : Nat) (x : St), StQ d C c x → (∀ j u, c[j]? = some u → C g (o + j) u) → StAt C d (StC C d) g o x := by
  intro C c g o x ⟨kv, lv, av, tv, ev, h1, h2, h3, h4, h5, h6, h7, h8, h9, h10, h11⟩ h
  subst h1
  exact ⟨lv, av, tv, ev, h 0 _ rfl, h 1 _ rfl, h 2 _ rfl, h 3 _ rfl, h 4 _ rfl, ⟨kv, h 5 _ rfl, h 6 _ rfl, h 7 _ rfl, h 8 _ rfl, h2, h3⟩, h 9 _ rfl, h 10 _ rfl, h 11 _ rfl, h 12 _ rfl, h4, h5, h6, h7, h8, h9, h10, h11⟩
theorem Acc.stC {d B : Nat} {t : TypeId} {w : World} {v : Value} {l : List St} {rows : List (List Value)} (h : Acc (StQ d) B t 13 w v l rows) (hm : l.length ≤ 9223372036854775807) : StC (nwC B w) (d + 1) v l :=
  h.sl (P := fun C g o x => StAt C d (StC C d) g o x) hm (StQ.mono d) fun C c g o x _ _ hq hc => StQ.at_ d C c g o x hq hc
theorem Acc.arC {d B : Nat} {t : TypeId} {w : World} {v : Value} {l : List Ar} {rows : List (List Value)} (h : Acc (ArQ d) B t 6 w v l rows) (hm : l.length ≤ 9223372036854775807) : SlAt 6 (ArAt (nwC B w) d) v l :=
  h.sl (P := fun C g o x => ArAt C d g o x) hm (ArQ.mono d) fun C c g o x _ _ hq hc => ArQ.at_ d C c g o x hq hc
/-- While a row hangs on block Y is grown, all else below B stays. -/
theorem grow_keep {w0 w3 w4 : World} {v v4 : Value} {B Y slot : Nat} (hb : Below w0.heap.size w0 w3) (hg : w3.grownBy w4 v.ownBlock) (ho : ∀ b, b < B → some b ≠ v.ownBlock) :
    Cs.le (only (fun g => g < B ∧ g ≠ Y) (cw w0)) (only (fun g => g < B ∧ g ≠ Y) (cw (w4.setCell ⟨Y, slot, none⟩ v4))) := by
  intro g j u ⟨⟨h1, h2⟩, h3⟩
  have hlt := cell_lt h3
  refine ⟨⟨h1, h2⟩, ?_⟩
  show (w4.setCell ⟨Y, slot, none⟩ v4).cell? ⟨g, j, none⟩ = some u
  rw [World.cell?_setCell_other _ _ _ _ (fun e => h2 (congrArg Addr.block e).symm), hg.cell_far ⟨g, j, none⟩ (Nat.lt_of_lt_of_le hlt hb.size) (ho g h1)]
  exact cell_next hb h3
end Go.Proofs.Ytghlmengcidmdaa.Tr
end
section
namespace Go.Proofs.Ytghlmengcidmdaa.Tr
open Go.RowKit Go.Proofs.Ytghlmengcidmdaa.Lx Go.Proofs.Ytghlmengcidmdaa.Wd
theorem nil_yes (cap : Nat) (w : World) : (binOp .eql 22 (.slice none 0 cap) (.slice none 0 0)).run Try.prog w = .ok (.bool true) w := by
  simp [binOp, run_equal_slice_nil w _ _ _ _ _ Try.underlying22]
theorem nil_no (ad : Addr) (n cap : Nat) (w : World) : (binOp .eql 22 (.slice (some ad) n cap) (.slice none 0 0)).run Try.prog w = .ok (.bool false) w := by
  simp [binOp, run_equal_slice_nil w _ _ _ _ _ Try.underlying22]
/-- What a copier of texts leaves. -/
def TextsCopied (l : List ByteArray) (w : World) (e : Ending) (w' : World) : Prop := ∃ v, e = .returned v ∧ StrC (nwC w.heap.size w') v l ∧ Below w.heap.size w w'
set_option maxHeartbeats 1000000 in
set_option maxRecDepth 100000 in
theorem cloneTexts_any (l : List ByteArray) (v : Value) (w : World) (hl : StrsAt w v l) (hm : l.length ≤ 1000000) : Calls Try.prog 73 #[v] w (TextsCopied l w) := by
  obtain ⟨i0, hi, hz0, hz1, hz2⟩ := info_parts infoStr
  obtain ⟨a, cap, rfl, hc1, hc2⟩ := hl.form
  cases a with
  | none =>
    obtain ⟨-, hz, -⟩ := hl.news
    have h0 : l = [] := List.eq_nil_of_length_eq_zero (hz rfl)
    subst h0
    clear hl hz
    have ny := nil_yes cap
    go_enter Try.func73, Try.ntmps73
    go_wp2_with fail
    go_ret
    exact ⟨_, rfl, SlAt.nil, Below.refl _ _⟩
  | some ad =>
    have HL := Lib.hid hl
    have HALL := Lib.hid hl.all
    clear hl
    have ny := nil_no ad l.length cap
    go_enter Try.func73, Try.ntmps73
    go_wp2_with (at_builtin; refine wpList_append_sl _ rfl (.tmp 5) (.tmp 6) 22 rfl w.heap.size 9 i0 (.string ⟨#[]⟩) 1 16 Try.underlying22 hi hz0 hz1 hz2 rfl (by decide) _ 0 [] rfl ?oa1 (some ad) l.length cap (l.map Value.string) rfl ?oz1 ?ob1 ?oc1 (str_all _) ?od1 ?oe1 ?of1 ?_)
    case oa1 => exact World.ownsRow_lit w #[] 0 (Nat.le_refl _) (by decide) rfl
    case oz1 => intro h; cases h
    case ob1 => rw [List.length_map, Nat.mul_one]
    case oc1 => exact (HL.out.next (boxed w _)).news.2.2
    case od1 => unfold maxLen; omega
    case oe1 => omega
    case of1 => simp
    intro v4 w4 hown4 hg4 hat4
    obtain ⟨la4, lc4, rfl⟩ := ownsForm hown4
    have hb4 : Below w.heap.size w w4 := (boxed w _).grown hg4 (by simp) fun q hq => by have hqq : w.heap.size = q := by { simpa [Value.ownBlock] using hq }; omega
    have HB4 := Lib.hid hb4
    have HOWN4 := Lib.hid hown4
    clear hown4 hg4 hat4 hb4
    go_wp2_with fail
    go_ret
    exact ⟨_, rfl, strs_owned (by simpa using HOWN4.out) (by omega) (by omega) HALL.out, HB4.out⟩
end Go.Proofs.Ytghlmengcidmdaa.Tr
end
end
