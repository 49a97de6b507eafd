/- What tree.gather, tree.Names, walk, Names of the reference compute: the names of an expression. Conditions: it lies in memory, it may be one. -/
import Derived.Test.YtnbclbphggmenaaGathP
import Derived.Test.YtnbclbphggmenaaAcc
import Derived.Test.YtnbclbphggmenaaSwapW
import Derived.Deep.DeepCutAuto
import Derived.Maps.Range
import Derived.Outline
namespace Go.Proofs.Ytnbclbphggmenaa.Tr
open Go.RowKit Go.Proofs.Ytnbclbphggmenaa.Lx Go.Proofs.Ytnbclbphggmenaa.Wd
/-- A new row of texts. -/
def RowS (B : Nat) (w : World) (v : Value) (l : List ByteArray) : Prop := w.ownsRow B 9 1 v l.length (l.map Value.string) ∧ Fine l
theorem grown_of {w w' : World} (h : Below w.heap.size w w') (row : Option Nat) : w.grownBy w' row := ⟨h.os, h.tape, h.output, h.size, fun i hi _ => h.block i hi⟩
theorem RowS.strs {B : Nat} {w : World} {v : Value} {l : List ByteArray} (h : RowS B w v l) (hl : l.length ≤ 9223372036854775807) : StrsAt w v l := StrC.to (StrC.mono only_out (strs_owned h.1 rfl hl h.2))
theorem RowS.next {B : Nat} {w w' : World} {v : Value} {l : List ByteArray} (h : RowS B w v l) (hb : Below w.heap.size w w') : RowS B w' v l := ⟨ownsBelow h.1 hb, h.2⟩
theorem RowS.lt {B : Nat} {w : World} {v : Value} {l : List ByteArray} (h : RowS B w v l) : ∀ g, v.ownBlock = some g → B ≤ g ∧ g < w.heap.size := h.1.lt
theorem RowS.form {B : Nat} {w : World} {v : Value} {l : List ByteArray} (h : RowS B w v l) : ∃ a n c, v = .slice a n c ∧ n = l.length := by
  obtain ⟨a, c, h⟩ := ownsForm h.1
  exact ⟨a, _, c, h, rfl⟩
/-- What lies below B. -/
abbrev lowC (B : Nat) (w : World) : Cs := only (fun g => g < B) (cw w)
theorem low_grown {B : Nat} {w w' : World} {row : Option Nat} (hg : w.grownBy w' row) (hr : ∀ g, row = some g → B ≤ g) : Cs.le (lowC B w) (lowC B w') := fun g j u ⟨h1, h2⟩ => by
  refine ⟨h1, ?_⟩
  show w'.cell? ⟨g, j, none⟩ = some u
  rw [hg.cell_far ⟨g, j, none⟩ (cell_lt h2) (fun e => by have := hr g e.symm; omega)]
  exact h2
theorem low_next {B : Nat} {w w' : World} (hb : Below w.heap.size w w') : Cs.le (lowC B w) (lowC B w') := only_le (fun _ h => h) (cw_next hb)
/-- What a gatherer leaves: the row with more texts behind; nothing that was there is turned but that row's own block. -/
def Gathers (B : Nat) (v : Value) (l : List ByteArray) (w : World) (e : Ending) (w' : World) : Prop :=
  ∃ v', e = .returned v' ∧ RowS B w' v' l ∧ w.grownBy w' v.ownBlock ∧ ∀ g, v'.ownBlock = some g → v.ownBlock = some g ∨ w.heap.size ≤ g
/-- There is room for more names. -/
def Room (l : List ByteArray) (m : Nat) : Prop := l.length + 2 ^ m ≤ 1073741824
theorem room_len {l : List ByteArray} {m : Nat} (h : Room l m) : l.length ≤ 1073741824 - 1 := by
  unfold Room at h
  have := Nat.one_le_two_pow (n := m)
  omega
theorem contains_any (ns : List ByteArray) (nv : Value) (s : ByteArray) (w : World) (hn : StrsAt w nv ns) :
    Calls Try.prog 100 #[nv, .string s] w fun e w' => e = .returned (.bool (at_ s ns).isSome) ∧ w = w' := by
  obtain ⟨a, cap, rfl, hc1, hc2⟩ := hn.form
  have HN := Lib.hid hn
  clear hn
  cases h : at_ s ns with
  | none =>
    go_enter Try.func100, Try.ntmps100
    go_wp2_with fail
    refine (index_any ns _ s _ HN.out).mono ?_
    rintro e w' ⟨rfl, rfl⟩
    have hi : atI s ns = -1 := by unfold atI; rw [h]
    rw [hi]
    go_wp2_with fail
    go_ret
    exact ⟨rfl, rfl⟩
  | some i =>
    go_enter Try.func100, Try.ntmps100
    go_wp2_with fail
    refine (index_any ns _ s _ HN.out).mono ?_
    rintro e w' ⟨rfl, rfl⟩
    have hi : atI s ns = i := by unfold atI; rw [h]
    rw [hi]
    have h0 : (0 : Int) ≤ (i : Int) := by omega
    go_wp2_with fail
    go_ret
    exact ⟨rfl, rfl⟩
set_option maxHeartbeats 2000000 in
set_option maxRecDepth 100000 in
theorem gather_any (B : Nat) : ∀ (m d : Nat) (x : Ex) (kv v : Value) (l : List ByteArray) (w : World), m ≤ 20 → mayE m x = true → OkE x → ExC (lowC B w) d kv x.ks → RowS B w v l → B ≤ w.heap.size → Room l m →
    Calls Try.prog 60 #[exV x kv, v] w (Gathers B v (namesE m x l) w) := by
  intro m
  induction m with
  | zero => intro d x kv v l w _ h; cases h
  | succ m ih =>
    intro d x kv v l w hm hmay hok hk hrow hB hlen
    obtain ⟨d, rfl⟩ : ∃ e, d = e + 1 := by
      cases d with
      | zero => exact hk.elim
      | succ e => exact ⟨e, rfl⟩
    obtain ⟨i0, hi, hz0, hz1, hz2⟩ := info_parts infoStr
    have IH := Lib.hid ih
    obtain ⟨ax, cx, rfl, hc1, hc2⟩ := hk.form
    obtain ⟨va, vc, rfl⟩ := ownsForm hrow.1
    have hbox := boxed w (.cells #[.int .i64 x.op, .int .i64 x.n, .string x.nm, .slice ax x.ks.length cx] 24)
    have HBOX := Lib.hid hbox
    have HK := Lib.hid (ExC.mono (low_next hbox) hk)
    have HROW := Lib.hid (hrow.next hbox)
    have HROWX := Lib.hid hrow
    have HOK := Lib.hid hok
    have HMAY := Lib.hid hmay
    have HLEN := Lib.hid hlen
    have hfit : l.length ≤ 1073741823 := room_len hlen
    have hm2 : m ≤ 20 := by omega
    have HS := Lib.hid ((hrow.next hbox).strs (by omega))
    obtain ⟨hkl, _, hkids⟩ := may_parts hmay
    have HKL := Lib.hid hkl
    have HKIDS := Lib.hid hkids
    have hcut0 : Hid ((w.alloc (.cells #[.int .i64 x.op, .int .i64 x.n, .string x.nm, .slice ax x.ks.length cx] 24)).cell? ⟨w.heap.size, 3, none⟩ = some (.slice ax x.ks.length cx)) := Lib.hid (by simp [go_sem])
    rw [namesE_succ]
    clear ih hbox hk hrow hok hmay hkl hkids hlen
    unfold exV
    go_enter Try.func60, Try.ntmps60
    by_cases ho : x.op = 2
    · have b1 : (x.op == 2) = true := by simpa using ho
      cases hq : at_ x.nm l with
      | some q =>
        have hn : ownN x l = l := by unfold ownN addN; rw [if_pos ho, if_neg (by rw [hq]; simp)]
        clear ho
        have HQ := Lib.hid hq
        go_upto_region 3 with (go_at_call 100; refine (contains_any l _ x.nm _ HS.out).mono ?_; rintro e w' ⟨rfl, rfl⟩; rw [HQ.out])
        refine cut_world (fun wx => RowS B wx (Value.slice va l.length vc) (ownN x l) ∧ (w.alloc (.cells #[.int .i64 x.op, .int .i64 x.n, .string x.nm, .slice ax x.ks.length cx] 24)).grownBy wx (Value.slice va l.length vc).ownBlock ∧ (∀ g, (Value.slice va l.length vc).ownBlock = some g → (Value.slice va l.length vc).ownBlock = some g ∨ (w.alloc (.cells #[.int .i64 x.op, .int .i64 x.n, .string x.nm, .slice ax x.ks.length cx] 24)).heap.size ≤ g) ∧ wx.cell? ⟨w.heap.size, 3, none⟩ = some (.slice ax x.ks.length cx)) ⟨by rw [hn]; exact HROW.out, World.grownBy.refl _ _, fun g hg => .inl hg, hcut0.out⟩ ?_
        rintro wx ⟨hr1, hg1, ho1, hc3⟩
        have HR1 := Lib.hid hr1
        have HG1 := Lib.hid hg1
        have HO1 := Lib.hid ho1
        clear hr1 hg1 ho1 hn
        have hgs := HG1.out.size
        have hW1s : (w.alloc (.cells #[.int .i64 x.op, .int .i64 x.n, .string x.nm, .slice ax x.ks.length cx] 24)).heap.size = w.heap.size + 1 := by simp
        go_wp2_with fail
        go_loopw [25, 1] (fun i s1 wr => ∃ (k : Nat) (vr : Value), k ≤ x.ks.length ∧ i = .int .i64 k ∧ s1 = vr ∧ RowS B wr vr ((x.ks.take k).foldl (fun l k => namesE m k l) (ownN x l)) ∧ (w.alloc (.cells #[.int .i64 x.op, .int .i64 x.n, .string x.nm, .slice ax x.ks.length cx] 24)).grownBy wr (Value.slice va l.length vc).ownBlock ∧ (∀ g, vr.ownBlock = some g → (Value.slice va l.length vc).ownBlock = some g ∨ (w.alloc (.cells #[.int .i64 x.op, .int .i64 x.n, .string x.nm, .slice ax x.ks.length cx] 24)).heap.size ≤ g) ∧ wr.cell? ⟨w.heap.size, 3, none⟩ = some (.slice ax x.ks.length cx)) (fun i _ _ => (x.ks.length - intOf i).toNat)
        case atStart => exact ⟨0, _, by omega, rfl, rfl, HR1.out, HG1.out, HO1.out, hc3⟩
        case round =>
          obtain ⟨k, vr, hk, rfl, rfl, hr2, hg2, ho2, hc4⟩ := hrel
          have HR2 := Lib.hid hr2
          have HG2 := Lib.hid hg2
          have HO2 := Lib.hid ho2
          have HC4 := Lib.hid hc4
          have hkr := ExC.mono (low_grown hg2 fun g hg => (HROW.out.lt g hg).1) HK.out
          have hsz2 := hg2.size
          obtain ⟨va2, n2, vc2, rfl, -⟩ := hr2.form
          clear hr2 hg2 ho2 hc3
          by_cases hlt : k < x.ks.length
          · have hlt' : (k : Int) < (x.ks.length : Int) := by omega
            have h0k : (0 : Int) ≤ (k : Int) := by omega
            have hne : x.ks ≠ [] := by intro h; rw [h] at hlt; simp at hlt
            obtain ⟨g, off, cap', hv, _, hcells⟩ := SlAt.cells (show SlAt 4 (ExAt (lowC B wr) (ExC (lowC B wr) d)) (.slice ax x.ks.length cx) x.ks from hkr) hne
            simp only [Value.slice.injEq] at hv
            obtain ⟨rfl, -, rfl⟩ := hv
            obtain ⟨ku, c0, c1, c2, c3, hok2, hku⟩ := hcells k hlt
            have hkm := HKIDS.out _ (List.getElem_mem hlt)
            obtain ⟨xk, hxk⟩ : ∃ xk, Hid (x.ks[k] = xk) := ⟨_, Lib.hid rfl⟩
            rw [hxk.out] at c0 c1 c2 hok2 hku hkm
            obtain ⟨au, cu, rfl, -, -⟩ := hku.form
            have hgB := c0.1
            have d0 : wr.cell? ⟨g, off + k * 4, none⟩ = _ := c0.2
            have d1 : wr.cell? ⟨g, off + k * 4 + 1, none⟩ = _ := c1.2
            have d2 : wr.cell? ⟨g, off + k * 4 + 2, none⟩ = _ := c2.2
            have d3 : wr.cell? ⟨g, off + k * 4 + 3, none⟩ = _ := c3.2
            have HKU := Lib.hid hku
            have HOK2 := Lib.hid hok2
            have hmid := names_mid (l := l) HMAY.out hlt
            have HMID := Lib.hid hmid
            have HKM := Lib.hid hkm
            clear c0 c1 c2 c3 hcells hku hok2 hkr hne hmid hkm
            go_wp2_with fail
            obtain ⟨lk, hlk⟩ : ∃ lk, Hid ((x.ks.take k).foldl (fun l k => namesE m k l) (ownN x l) = lk) := ⟨_, Lib.hid rfl⟩
            rw [hlk.out] at HR2 HMID
            have hbnd : Room lk m := Nat.le_trans HMID.out HLEN.out
            have hBs : B ≤ (wr.alloc (.cells #[.int .i64 xk.op, .int .i64 xk.n, .string xk.nm, .slice au xk.ks.length cu] 24)).heap.size := by simp at hsz2 ⊢; omega
            refine (IH.out d xk (.slice au xk.ks.length cu) (.slice va2 n2 vc2) lk _ hm2 HKM.out HOK2.out (ExC.mono (low_next (boxed wr _)) HKU.out) (HR2.out.next (boxed wr _)) hBs hbnd).mono ?_
            clear hbnd hBs
            rintro e w3 ⟨v3, rfl, hr3, hg3, ho3⟩
            obtain ⟨va3, n3, vc3, rfl, -⟩ := hr3.form
            have HR3 := Lib.hid hr3
            have HO3 := Lib.hid ho3
            have hbx := boxed wr (.cells #[.int .i64 xk.op, .int .i64 xk.n, .string xk.nm, .slice au xk.ks.length cu] 24)
            have hg4 : (w.alloc (.cells #[.int .i64 x.op, .int .i64 x.n, .string x.nm, .slice (some ⟨g, off, none⟩) x.ks.length cx] 24)).grownBy w3 (Value.slice va l.length vc).ownBlock := HG2.out.andThen (((grown_of hbx _).trans hg3)) fun j hj => (HO2.out j hj).elim Or.inr Or.inl
            have hc5 : w3.cell? ⟨w.heap.size, 3, none⟩ = some (.slice (some ⟨g, off, none⟩) x.ks.length cx) := by
              rw [hg4.cell_far ⟨w.heap.size, 3, none⟩ (by simp) (fun e => by have := (HROWX.out.lt _ e.symm).2; simp only at this; omega)]
              exact hcut0.out
            have HG4 := Lib.hid hg4
            clear hr3 hg3 ho3 hbx hg4
            go_wp2_with fail
            go_roundw
            case rel =>
              refine ⟨k + 1, _, by omega, by go_num, rfl, ?_, HG4.out, fun q hq => ?_, hc5⟩
              · rw [List.take_succ_eq_append_getElem hlt, List.foldl_append, hlk.out, List.foldl_cons, List.foldl_nil, hxk.out]
                exact HR3.out
              · rcases HO3.out q hq with h | h
                · exact HO2.out q h
                · right
                  simp only [World.size_alloc] at h hsz2 ⊢
                  omega
            case measure => simp [intOf]; omega
          · have hlt' : ¬ (k : Int) < (x.ks.length : Int) := by omega
            have he : x.ks.take k = x.ks := List.take_of_length_le (by omega)
            rw [he] at HR2
            go_wp2_with fail
            go_ret
            refine ⟨_, rfl, HR2.out, (grown_of HBOX.out _).trans HG2.out, fun q hq => ?_⟩
            rcases HO2.out q hq with h | h
            · exact .inl h
            · right
              simp only [World.size_alloc] at h
              omega
      | none =>
        have hn : ownN x l = l ++ [x.nm] := by unfold ownN addN; rw [if_pos ho, if_pos hq]
        clear ho
        have HQ := Lib.hid hq
        go_wp2_with (first
          | (go_at_call 100; refine (contains_any l _ x.nm _ HS.out).mono ?_; rintro e w' ⟨rfl, rfl⟩; rw [HQ.out])
          | (at_builtin; refine wpList_append_lies _ rfl (.tmp 17) (.tmp 20) 25 rfl B 9 i0 (.string ⟨#[]⟩) 1 16 Try.underlying25 hi hz0 hz1 hz2 rfl (by decide) _ _ _ rfl (HROW.out.1.alloc _) ⟨_, 0, none⟩ 1 1 [.string x.nm] rfl rfl ?c1 str_cells (by decide) ?c3 ?c4 ?c5 _ rfl ?_))
        case c1 =>
          intro j u h
          match j, h with
          | 0, h => cases h; rw [Addr.add_lit]; simp [go_sem]
        case c3 => unfold maxLen; omega
        case c4 => omega
        case c5 => simp; omega
        intro g4 cap4 w4 hown4 hg4 hat4 hlt4
        have hgg : (w.alloc (.cells #[.int .i64 x.op, .int .i64 x.n, .string x.nm, .slice ax x.ks.length cx] 24)).grownBy w4 (Value.slice va l.length vc).ownBlock := (grown_of (boxed _ _) _).trans hg4
        go_upto_region 3 with fail
        refine cut_world (fun wx => RowS B wx (Value.slice (some ⟨g4, 0, none⟩) (l.length + 1) cap4) (ownN x l) ∧ (w.alloc (.cells #[.int .i64 x.op, .int .i64 x.n, .string x.nm, .slice ax x.ks.length cx] 24)).grownBy wx (Value.slice va l.length vc).ownBlock ∧ (∀ g, (Value.slice (some ⟨g4, 0, none⟩) (l.length + 1) cap4).ownBlock = some g → (Value.slice va l.length vc).ownBlock = some g ∨ (w.alloc (.cells #[.int .i64 x.op, .int .i64 x.n, .string x.nm, .slice ax x.ks.length cx] 24)).heap.size ≤ g) ∧ wx.cell? ⟨w.heap.size, 3, none⟩ = some (.slice ax x.ks.length cx)) ⟨by
                  rw [hn]
                  refine ⟨by simpa using hown4, ?_⟩
                  have := HROW.out.2.own HOK.out.nm
                  rwa [hn] at this, hgg, fun q hq => by
                  have hqq : g4 = q := by { simpa [Value.ownBlock] using hq }
                  subst hqq
                  refine hat4.imp id fun h => ?_
                  simp only [World.size_alloc] at h ⊢
                  omega, by
                  rw [hgg.cell_far ⟨w.heap.size, 3, none⟩ (by simp) (fun e => by have := (HROWX.out.lt _ e.symm).2; simp only at this; omega)]
                  exact hcut0.out⟩ ?_
        rintro wx ⟨hr1, hg1, ho1, hc3⟩
        have HR1 := Lib.hid hr1
        have HG1 := Lib.hid hg1
        have HO1 := Lib.hid ho1
        clear hr1 hg1 ho1 hn
        clear hgg hg4 hown4
        have hgs := HG1.out.size
        have hW1s : (w.alloc (.cells #[.int .i64 x.op, .int .i64 x.n, .string x.nm, .slice ax x.ks.length cx] 24)).heap.size = w.heap.size + 1 := by simp
        go_wp2_with fail
        go_loopw [25, 1] (fun i s1 wr => ∃ (k : Nat) (vr : Value), k ≤ x.ks.length ∧ i = .int .i64 k ∧ s1 = vr ∧ RowS B wr vr ((x.ks.take k).foldl (fun l k => namesE m k l) (ownN x l)) ∧ (w.alloc (.cells #[.int .i64 x.op, .int .i64 x.n, .string x.nm, .slice ax x.ks.length cx] 24)).grownBy wr (Value.slice va l.length vc).ownBlock ∧ (∀ g, vr.ownBlock = some g → (Value.slice va l.length vc).ownBlock = some g ∨ (w.alloc (.cells #[.int .i64 x.op, .int .i64 x.n, .string x.nm, .slice ax x.ks.length cx] 24)).heap.size ≤ g) ∧ wr.cell? ⟨w.heap.size, 3, none⟩ = some (.slice ax x.ks.length cx)) (fun i _ _ => (x.ks.length - intOf i).toNat)
        case atStart => exact ⟨0, _, by omega, rfl, rfl, HR1.out, HG1.out, HO1.out, hc3⟩
        case round =>
          obtain ⟨k, vr, hk, rfl, rfl, hr2, hg2, ho2, hc4⟩ := hrel
          have HR2 := Lib.hid hr2
          have HG2 := Lib.hid hg2
          have HO2 := Lib.hid ho2
          have HC4 := Lib.hid hc4
          have hkr := ExC.mono (low_grown hg2 fun g hg => (HROW.out.lt g hg).1) HK.out
          have hsz2 := hg2.size
          obtain ⟨va2, n2, vc2, rfl, -⟩ := hr2.form
          clear hr2 hg2 ho2 hc3
          by_cases hlt : k < x.ks.length
          · have hlt' : (k : Int) < (x.ks.length : Int) := by omega
            have h0k : (0 : Int) ≤ (k : Int) := by omega
            have hne : x.ks ≠ [] := by intro h; rw [h] at hlt; simp at hlt
            obtain ⟨g, off, cap', hv, _, hcells⟩ := SlAt.cells (show SlAt 4 (ExAt (lowC B wr) (ExC (lowC B wr) d)) (.slice ax x.ks.length cx) x.ks from hkr) hne
            simp only [Value.slice.injEq] at hv
            obtain ⟨rfl, -, rfl⟩ := hv
            obtain ⟨ku, c0, c1, c2, c3, hok2, hku⟩ := hcells k hlt
            have hkm := HKIDS.out _ (List.getElem_mem hlt)
            obtain ⟨xk, hxk⟩ : ∃ xk, Hid (x.ks[k] = xk) := ⟨_, Lib.hid rfl⟩
            rw [hxk.out] at c0 c1 c2 hok2 hku hkm
            obtain ⟨au, cu, rfl, -, -⟩ := hku.form
            have hgB := c0.1
            have d0 : wr.cell? ⟨g, off + k * 4, none⟩ = _ := c0.2
            have d1 : wr.cell? ⟨g, off + k * 4 + 1, none⟩ = _ := c1.2
            have d2 : wr.cell? ⟨g, off + k * 4 + 2, none⟩ = _ := c2.2
            have d3 : wr.cell? ⟨g, off + k * 4 + 3, none⟩ = _ := c3.2
            have HKU := Lib.hid hku
            have HOK2 := Lib.hid hok2
            have hmid := names_mid (l := l) HMAY.out hlt
            have HMID := Lib.hid hmid
            have HKM := Lib.hid hkm
            clear c0 c1 c2 c3 hcells hku hok2 hkr hne hmid hkm
            go_wp2_with fail
            obtain ⟨lk, hlk⟩ : ∃ lk, Hid ((x.ks.take k).foldl (fun l k => namesE m k l) (ownN x l) = lk) := ⟨_, Lib.hid rfl⟩
            rw [hlk.out] at HR2 HMID
            have hbnd : Room lk m := Nat.le_trans HMID.out HLEN.out
            have hBs : B ≤ (wr.alloc (.cells #[.int .i64 xk.op, .int .i64 xk.n, .string xk.nm, .slice au xk.ks.length cu] 24)).heap.size := by simp at hsz2 ⊢; omega
            refine (IH.out d xk (.slice au xk.ks.length cu) (.slice va2 n2 vc2) lk _ hm2 HKM.out HOK2.out (ExC.mono (low_next (boxed wr _)) HKU.out) (HR2.out.next (boxed wr _)) hBs hbnd).mono ?_
            clear hbnd hBs
            rintro e w3 ⟨v3, rfl, hr3, hg3, ho3⟩
            obtain ⟨va3, n3, vc3, rfl, -⟩ := hr3.form
            have HR3 := Lib.hid hr3
            have HO3 := Lib.hid ho3
            have hbx := boxed wr (.cells #[.int .i64 xk.op, .int .i64 xk.n, .string xk.nm, .slice au xk.ks.length cu] 24)
            have hg4 : (w.alloc (.cells #[.int .i64 x.op, .int .i64 x.n, .string x.nm, .slice (some ⟨g, off, none⟩) x.ks.length cx] 24)).grownBy w3 (Value.slice va l.length vc).ownBlock := HG2.out.andThen (((grown_of hbx _).trans hg3)) fun j hj => (HO2.out j hj).elim Or.inr Or.inl
            have hc5 : w3.cell? ⟨w.heap.size, 3, none⟩ = some (.slice (some ⟨g, off, none⟩) x.ks.length cx) := by
              rw [hg4.cell_far ⟨w.heap.size, 3, none⟩ (by simp) (fun e => by have := (HROWX.out.lt _ e.symm).2; simp only at this; omega)]
              exact hcut0.out
            have HG4 := Lib.hid hg4
            clear hr3 hg3 ho3 hbx hg4
            go_wp2_with fail
            go_roundw
            case rel =>
              refine ⟨k + 1, _, by omega, by go_num, rfl, ?_, HG4.out, fun q hq => ?_, hc5⟩
              · rw [List.take_succ_eq_append_getElem hlt, List.foldl_append, hlk.out, List.foldl_cons, List.foldl_nil, hxk.out]
                exact HR3.out
              · rcases HO3.out q hq with h | h
                · exact HO2.out q h
                · right
                  simp only [World.size_alloc] at h hsz2 ⊢
                  omega
            case measure => simp [intOf]; omega
          · have hlt' : ¬ (k : Int) < (x.ks.length : Int) := by omega
            have he : x.ks.take k = x.ks := List.take_of_length_le (by omega)
            rw [he] at HR2
            go_wp2_with fail
            go_ret
            refine ⟨_, rfl, HR2.out, (grown_of HBOX.out _).trans HG2.out, fun q hq => ?_⟩
            rcases HO2.out q hq with h | h
            · exact .inl h
            · right
              simp only [World.size_alloc] at h
              omega
    · have b1 : (x.op == 2) = false := by simpa using ho
      have hn : ownN x l = l := by unfold ownN; rw [if_neg ho]
      clear ho
      go_upto_region 3 with fail
      refine cut_world (fun wx => RowS B wx (Value.slice va l.length vc) (ownN x l) ∧ (w.alloc (.cells #[.int .i64 x.op, .int .i64 x.n, .string x.nm, .slice ax x.ks.length cx] 24)).grownBy wx (Value.slice va l.length vc).ownBlock ∧ (∀ g, (Value.slice va l.length vc).ownBlock = some g → (Value.slice va l.length vc).ownBlock = some g ∨ (w.alloc (.cells #[.int .i64 x.op, .int .i64 x.n, .string x.nm, .slice ax x.ks.length cx] 24)).heap.size ≤ g) ∧ wx.cell? ⟨w.heap.size, 3, none⟩ = some (.slice ax x.ks.length cx)) ⟨by rw [hn]; exact HROW.out, World.grownBy.refl _ _, fun g hg => .inl hg, hcut0.out⟩ ?_
      rintro wx ⟨hr1, hg1, ho1, hc3⟩
      have HR1 := Lib.hid hr1
      have HG1 := Lib.hid hg1
      have HO1 := Lib.hid ho1
      clear hr1 hg1 ho1 hn
      have hgs := HG1.out.size
      have hW1s : (w.alloc (.cells #[.int .i64 x.op, .int .i64 x.n, .string x.nm, .slice ax x.ks.length cx] 24)).heap.size = w.heap.size + 1 := by simp
      go_wp2_with fail
      go_loopw [25, 1] (fun i s1 wr => ∃ (k : Nat) (vr : Value), k ≤ x.ks.length ∧ i = .int .i64 k ∧ s1 = vr ∧ RowS B wr vr ((x.ks.take k).foldl (fun l k => namesE m k l) (ownN x l)) ∧ (w.alloc (.cells #[.int .i64 x.op, .int .i64 x.n, .string x.nm, .slice ax x.ks.length cx] 24)).grownBy wr (Value.slice va l.length vc).ownBlock ∧ (∀ g, vr.ownBlock = some g → (Value.slice va l.length vc).ownBlock = some g ∨ (w.alloc (.cells #[.int .i64 x.op, .int .i64 x.n, .string x.nm, .slice ax x.ks.length cx] 24)).heap.size ≤ g) ∧ wr.cell? ⟨w.heap.size, 3, none⟩ = some (.slice ax x.ks.length cx)) (fun i _ _ => (x.ks.length - intOf i).toNat)
      case atStart => exact ⟨0, _, by omega, rfl, rfl, HR1.out, HG1.out, HO1.out, hc3⟩
      case round =>
        obtain ⟨k, vr, hk, rfl, rfl, hr2, hg2, ho2, hc4⟩ := hrel
        have HR2 := Lib.hid hr2
        have HG2 := Lib.hid hg2
        have HO2 := Lib.hid ho2
        have HC4 := Lib.hid hc4
        have hkr := ExC.mono (low_grown hg2 fun g hg => (HROW.out.lt g hg).1) HK.out
        have hsz2 := hg2.size
        obtain ⟨va2, n2, vc2, rfl, -⟩ := hr2.form
        clear hr2 hg2 ho2 hc3
        by_cases hlt : k < x.ks.length
        · have hlt' : (k : Int) < (x.ks.length : Int) := by omega
          have h0k : (0 : Int) ≤ (k : Int) := by omega
          have hne : x.ks ≠ [] := by intro h; rw [h] at hlt; simp at hlt
          obtain ⟨g, off, cap', hv, _, hcells⟩ := SlAt.cells (show SlAt 4 (ExAt (lowC B wr) (ExC (lowC B wr) d)) (.slice ax x.ks.length cx) x.ks from hkr) hne
          simp only [Value.slice.injEq] at hv
          obtain ⟨rfl, -, rfl⟩ := hv
          obtain ⟨ku, c0, c1, c2, c3, hok2, hku⟩ := hcells k hlt
          have hkm := HKIDS.out _ (List.getElem_mem hlt)
          obtain ⟨xk, hxk⟩ : ∃ xk, Hid (x.ks[k] = xk) := ⟨_, Lib.hid rfl⟩
          rw [hxk.out] at c0 c1 c2 hok2 hku hkm
          obtain ⟨au, cu, rfl, -, -⟩ := hku.form
          have hgB := c0.1
          have d0 : wr.cell? ⟨g, off + k * 4, none⟩ = _ := c0.2
          have d1 : wr.cell? ⟨g, off + k * 4 + 1, none⟩ = _ := c1.2
          have d2 : wr.cell? ⟨g, off + k * 4 + 2, none⟩ = _ := c2.2
          have d3 : wr.cell? ⟨g, off + k * 4 + 3, none⟩ = _ := c3.2
          have HKU := Lib.hid hku
          have HOK2 := Lib.hid hok2
          have hmid := names_mid (l := l) HMAY.out hlt
          have HMID := Lib.hid hmid
          have HKM := Lib.hid hkm
          clear c0 c1 c2 c3 hcells hku hok2 hkr hne hmid hkm
          go_wp2_with fail
          obtain ⟨lk, hlk⟩ : ∃ lk, Hid ((x.ks.take k).foldl (fun l k => namesE m k l) (ownN x l) = lk) := ⟨_, Lib.hid rfl⟩
          rw [hlk.out] at HR2 HMID
          have hbnd : Room lk m := Nat.le_trans HMID.out HLEN.out
          have hBs : B ≤ (wr.alloc (.cells #[.int .i64 xk.op, .int .i64 xk.n, .string xk.nm, .slice au xk.ks.length cu] 24)).heap.size := by simp at hsz2 ⊢; omega
          refine (IH.out d xk (.slice au xk.ks.length cu) (.slice va2 n2 vc2) lk _ hm2 HKM.out HOK2.out (ExC.mono (low_next (boxed wr _)) HKU.out) (HR2.out.next (boxed wr _)) hBs hbnd).mono ?_
          clear hbnd hBs
          rintro e w3 ⟨v3, rfl, hr3, hg3, ho3⟩
          obtain ⟨va3, n3, vc3, rfl, -⟩ := hr3.form
          have HR3 := Lib.hid hr3
          have HO3 := Lib.hid ho3
          have hbx := boxed wr (.cells #[.int .i64 xk.op, .int .i64 xk.n, .string xk.nm, .slice au xk.ks.length cu] 24)
          have hg4 : (w.alloc (.cells #[.int .i64 x.op, .int .i64 x.n, .string x.nm, .slice (some ⟨g, off, none⟩) x.ks.length cx] 24)).grownBy w3 (Value.slice va l.length vc).ownBlock := HG2.out.andThen (((grown_of hbx _).trans hg3)) fun j hj => (HO2.out j hj).elim Or.inr Or.inl
          have hc5 : w3.cell? ⟨w.heap.size, 3, none⟩ = some (.slice (some ⟨g, off, none⟩) x.ks.length cx) := by
            rw [hg4.cell_far ⟨w.heap.size, 3, none⟩ (by simp) (fun e => by have := (HROWX.out.lt _ e.symm).2; simp only at this; omega)]
            exact hcut0.out
          have HG4 := Lib.hid hg4
          clear hr3 hg3 ho3 hbx hg4
          go_wp2_with fail
          go_roundw
          case rel =>
            refine ⟨k + 1, _, by omega, by go_num, rfl, ?_, HG4.out, fun q hq => ?_, hc5⟩
            · rw [List.take_succ_eq_append_getElem hlt, List.foldl_append, hlk.out, List.foldl_cons, List.foldl_nil, hxk.out]
              exact HR3.out
            · rcases HO3.out q hq with h | h
              · exact HO2.out q h
              · right
                simp only [World.size_alloc] at h hsz2 ⊢
                omega
          case measure => simp [intOf]; omega
        · have hlt' : ¬ (k : Int) < (x.ks.length : Int) := by omega
          have he : x.ks.take k = x.ks := List.take_of_length_le (by omega)
          rw [he] at HR2
          go_wp2_with fail
          go_ret
          refine ⟨_, rfl, HR2.out, (grown_of HBOX.out _).trans HG2.out, fun q hq => ?_⟩
          rcases HO2.out q hq with h | h
          · exact .inl h
          · right
            simp only [World.size_alloc] at h
            omega
end Go.Proofs.Ytnbclbphggmenaa.Tr
