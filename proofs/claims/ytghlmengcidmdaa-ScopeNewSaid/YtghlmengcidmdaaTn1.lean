/- Parts of BGath, BSt, ExprE: walks and plain laws that later texts use. Conditions: as each statement says. -/
import Derived.Test.YtghlmengcidmdaaTa0
import Derived.Test.YtghlmengcidmdaaTa1
import Derived.Test.YtghlmengcidmdaaTa2
import Derived.Test.YtghlmengcidmdaaTa3
import Derived.Test.YtghlmengcidmdaaTn0
import Derived.RegionTactic
import Derived.Deep.QuietTactic
import Derived.BigQuiet
import Derived.OwnWalk
import Derived.OneCell
import Derived.Deep.AppendLies
import Derived.Deep.RegionLaw
import Derived.Deep.DeepCutAuto
import Derived.Deep.RegionHeld3
import Derived.Deep.Slices
import Derived.Deep.Fields
import Derived.Lib.SmallJoins
import Derived.SliceStrings
import Derived.ChangeSlices
import Derived.IntWalk
import Derived.WalkKit
import Derived.Test.YtghlmengcidmdaaRows
import Derived.WalkSpells
import Derived.Lib.Hide
import Derived.Below
import Derived.WalkSmall
import Derived.StillTailTactics
import Derived.Laws.BitsAllLaws
import Derived.Maps.Range
import Derived.Outline
import Derived.Deep.Upon
import Derived.Maps.AppendAt
import Derived.Laws.OwnMore
import Derived.Deep.RegionWith
import Derived.Laws.Cover3
section
/- Plain laws: the names of an expression. No program. Conditions: none.
   What tree.gather, tree.Names, walk, Names of the reference compute: the names of an expression. Conditions: it lies in memory, it may be one.
   What tree.Names, and spoken, walk, Names, In, EqTexts of the reference compute. Conditions: the arguments lie in memory.
   append of a whole slice, whatever it is, onto a new row. Conditions: none.
   What Names, EqTexts of the reference compute. Conditions: the arguments lie in memory. -/
section
namespace Go.Proofs.Ytghlmengcidmdaa.Tr
open Go.RowKit Go.Proofs.Ytghlmengcidmdaa.Lx Go.Proofs.Ytghlmengcidmdaa.Wd
end Go.Proofs.Ytghlmengcidmdaa.Tr
end
section
namespace Go.Proofs.Ytghlmengcidmdaa.Tr
open Go.RowKit Go.Proofs.Ytghlmengcidmdaa.Lx Go.Proofs.Ytghlmengcidmdaa.Wd
end Go.Proofs.Ytghlmengcidmdaa.Tr
end
section
namespace Go.Proofs.Ytghlmengcidmdaa.Tr
open Go.RowKit Go.Proofs.Ytghlmengcidmdaa.Lx Go.Proofs.Ytghlmengcidmdaa.Wd
set_option maxHeartbeats 1000000 in
theorem in_any (ns : List ByteArray) (nv : Value) (s : ByteArray) (w : World) (hn : StrsAt w nv ns) :
    Calls Try.prog 44 #[nv, .string s] w fun e w' => e = .returned (.bool (at_ s ns).isSome) ∧ w = w' := by
  obtain ⟨a, cap, rfl, hc1, hc2⟩ := hn.form
  have HN := Lib.hid hn
  clear hn
  go_enter Try.func44, Try.ntmps44
  go_wp2_with fail
  go_loop [8] (fun i => ∃ k : Nat, k ≤ ns.length ∧ i = .int .i64 k ∧ ∀ j (hj : j < ns.length), j < k → (s.toList == ns[j].toList) = false) (fun i => (ns.length - intOf i).toNat)
  case atStart => exact ⟨0, by omega, rfl, fun j _ h => absurd h (by omega)⟩
  case round =>
    obtain ⟨k, hk, rfl, hno⟩ := hrel
    have HNO := Lib.hid hno
    clear hno
    by_cases hlt : k < ns.length
    · have hlt' : (k : Int) < (ns.length : Int) := by omega
      have h0k : (0 : Int) ≤ (k : Int) := by omega
      have hne : ns ≠ [] := by intro h; rw [h] at hlt; simp at hlt
      obtain ⟨g, off, cap', hv, hcells⟩ := HN.out.cells hne
      simp only [Value.slice.injEq] at hv
      obtain ⟨rfl, -, rfl⟩ := hv
      obtain ⟨-, c0⟩ := hcells k hlt
      clear hcells hne
      cases hq : (s.toList == ns[k].toList) with
      | true =>
        have HQ := Lib.hid hq
        have hq' : (ns[k].toList == s.toList) = true := by rw [eq_text] at hq ⊢; exact hq.symm
        obtain ⟨m, hm⟩ : ∃ m, Hid (ns[k] = m) := ⟨_, Lib.hid rfl⟩
        rw [hm.out] at hq hq' c0
        go_wp2_with fail
        go_ret
        refine ⟨?_, rfl⟩
        rw [at_some hlt HQ.out (fun j hj => HNO.out j (by omega) hj)]
        rfl
      | false =>
        have HQ := Lib.hid hq
        have hq' : (ns[k].toList == s.toList) = false := by
          cases h : (ns[k].toList == s.toList) with
          | false => rfl
          | true => rw [eq_text] at h; rw [h, (eq_text s s).2 rfl] at hq; cases hq
        obtain ⟨m, hm⟩ : ∃ m, Hid (ns[k] = m) := ⟨_, Lib.hid rfl⟩
        rw [hm.out] at hq hq' c0
        go_wp2_with fail
        go_round
        case rel =>
          refine ⟨k + 1, by omega, by go_num, fun j hj hjk => ?_⟩
          rcases Nat.lt_or_ge j k with h | h
          · exact HNO.out j hj h
          · obtain rfl : j = k := by omega
            exact HQ.out
        case measure => simp [intOf]; omega
    · have hlt' : ¬ (k : Int) < (ns.length : Int) := by omega
      go_wp2_with fail
      go_ret
      refine ⟨?_, rfl⟩
      rw [at_none (fun j hj => HNO.out j hj (by omega))]
      rfl
set_option maxHeartbeats 1000000 in
theorem spoken_any (B : Nat) (ns : List ByteArray) (nv : Value) (s : ByteArray) (w : World) (hr : RowS B w nv ns) (hB : B ≤ w.heap.size) (hl : ns.length ≤ 1073741822) (hs : s.size ≤ 9223372036854775807) :
    Calls Try.prog 149 #[nv, .string s] w (Gathers B nv (addN s ns) w) := by
  obtain ⟨i0, hi, hz0, hz1, hz2⟩ := info_parts infoStr
  have HN := Lib.hid (hr.strs (by omega))
  have HR := Lib.hid hr
  obtain ⟨a, cap, rfl⟩ := ownsForm hr.1
  clear hr
  go_enter Try.func149, Try.ntmps149
  go_wp2_with fail
  go_loop [9] (fun i => ∃ k : Nat, k ≤ ns.length ∧ i = .int .i64 k ∧ ∀ j (hj : j < ns.length), j < k → (s.toList == ns[j].toList) = false) (fun i => (ns.length - intOf i).toNat)
  case atStart => exact ⟨0, by omega, rfl, fun j _ h => absurd h (by omega)⟩
  case round =>
    obtain ⟨k, hk, rfl, hno⟩ := hrel
    have HNO := Lib.hid hno
    clear hno
    by_cases hlt : k < ns.length
    · have hlt' : (k : Int) < (ns.length : Int) := by omega
      have h0k : (0 : Int) ≤ (k : Int) := by omega
      have hne : ns ≠ [] := by intro h; rw [h] at hlt; simp at hlt
      obtain ⟨g, off, cap', hv, hcells⟩ := HN.out.cells hne
      simp only [Value.slice.injEq] at hv
      obtain ⟨rfl, -, rfl⟩ := hv
      obtain ⟨-, c0⟩ := hcells k hlt
      clear hcells hne
      cases hq : (s.toList == ns[k].toList) with
      | true =>
        have HQ := Lib.hid hq
        have hq' : (ns[k].toList == s.toList) = true := by rw [eq_text] at hq ⊢; exact hq.symm
        obtain ⟨m, hm⟩ : ∃ m, Hid (ns[k] = m) := ⟨_, Lib.hid rfl⟩
        rw [hm.out] at hq hq' c0
        go_wp2_with fail
        go_ret
        have he : addN s ns = ns := by
          unfold addN
          rw [at_some hlt HQ.out (fun j hj => HNO.out j (by omega) hj), if_neg (by simp)]
        rw [he]
        exact ⟨_, rfl, HR.out, World.grownBy.refl _ _, fun g hg => .inl hg⟩
      | false =>
        have HQ := Lib.hid hq
        have hq' : (ns[k].toList == s.toList) = false := by
          cases h : (ns[k].toList == s.toList) with
          | false => rfl
          | true => rw [eq_text] at h; rw [h, (eq_text s s).2 rfl] at hq; cases hq
        obtain ⟨m, hm⟩ : ∃ m, Hid (ns[k] = m) := ⟨_, Lib.hid rfl⟩
        rw [hm.out] at hq hq' c0
        go_wp2_with fail
        go_round
        case rel =>
          refine ⟨k + 1, by omega, by go_num, fun j hj hjk => ?_⟩
          rcases Nat.lt_or_ge j k with h | h
          · exact HNO.out j hj h
          · obtain rfl : j = k := by omega
            exact HQ.out
        case measure => simp [intOf]; omega
    · have hlt' : ¬ (k : Int) < (ns.length : Int) := by omega
      have hnk : (ns.length : Int) ≤ k := by omega
      have he : addN s ns = ns ++ [s] := by
        unfold addN
        rw [at_none (fun j hj => HNO.out j hj (by omega)), if_pos rfl]
      go_wp2_with (at_builtin; refine wpList_append_lies _ rfl (.tmp 18) (.tmp 20) 22 rfl B 9 i0 (.string ⟨#[]⟩) 1 16 Try.underlying22 hi hz0 hz1 hz2 rfl (by decide) _ _ _ rfl (HR.out.1.alloc _) ⟨_, 0, none⟩ 1 1 [.string s] rfl rfl ?c1 str_cells (by decide) ?c3 ?c4 ?c5 _ rfl ?_)
      case c3 => unfold maxLen; omega
      case c4 => omega
      case c5 => first | omega | (simp; omega)
      intro g4 cap4 w4 hown4 hg4 hat4 hlt4
      have HOWN4 := Lib.hid hown4
      have HG4 := Lib.hid hg4
      have HAT4 := Lib.hid hat4
      clear hown4 hg4 hat4 hlt4
      go_wp2_with fail
      go_ret
      rw [he]
      refine ⟨_, rfl, ⟨by simpa using HOWN4.out, ?_⟩, (grown_of (boxed _ _) _).trans HG4.out, fun q hq => ?_⟩
      · intro t ht
        rcases List.mem_append.1 ht with ht | ht
        · exact HR.out.2 t ht
        · simp at ht; rw [ht]; exact hs
      · have hqq : g4 = q := by simpa [Value.ownBlock] using hq
        subst hqq
        refine HAT4.out.imp id fun h => ?_
        (try simp at h)
        omega
set_option maxHeartbeats 2000000 in
set_option maxRecDepth 100000 in
theorem walk_any (B : Nat) : ∀ (m d : Nat) (x : Ex) (kv v : Value) (l : List ByteArray) (w : World), m ≤ 20 → mayE m x = true → OkE x → ExC (lowC B w) d kv x.ks → RowS B w v l → B ≤ w.heap.size → Room l m →
    Calls Try.prog 134 #[exV x kv, v] w (Gathers B v (namesE m x l) w) := by
  intro m
  induction m with
  | zero => intro d x kv v l w _ h; cases h
  | succ m ih =>
    intro d x kv v l w hm hmay hok hk hrow hB hlen
    obtain ⟨d, rfl⟩ : ∃ e, d = e + 1 := by
      cases d with
      | zero => exact hk.elim
      | succ e => exact ⟨e, rfl⟩
    obtain ⟨i0, hi, hz0, hz1, hz2⟩ := info_parts infoStr
    have IH := Lib.hid ih
    obtain ⟨ax, cx, rfl, hc1, hc2⟩ := hk.form
    obtain ⟨va, vc, rfl⟩ := ownsForm hrow.1
    have hbox := boxed w (.cells #[.int .i64 x.op, .int .i64 x.n, .string x.nm, .slice ax x.ks.length cx] 37)
    have HBOX := Lib.hid hbox
    have HK := Lib.hid (ExC.mono (low_next hbox) hk)
    have HROW := Lib.hid (hrow.next hbox)
    have HROWX := Lib.hid hrow
    have HOK := Lib.hid hok
    have HMAY := Lib.hid hmay
    have HLEN := Lib.hid hlen
    have hfit : l.length ≤ 1073741823 := room_len hlen
    have hm2 : m ≤ 20 := by omega
    have HS := Lib.hid ((hrow.next hbox).strs (by omega))
    obtain ⟨hkl, _, hkids⟩ := may_parts hmay
    have HKL := Lib.hid hkl
    have HKIDS := Lib.hid hkids
    have hcut0 : Hid ((w.alloc (.cells #[.int .i64 x.op, .int .i64 x.n, .string x.nm, .slice ax x.ks.length cx] 37)).cell? ⟨w.heap.size, 3, none⟩ = some (.slice ax x.ks.length cx)) := Lib.hid (by simp [go_sem])
    rw [namesE_succ]
    clear ih hbox hk hrow hok hmay hkl hkids hlen
    unfold exV
    go_enter Try.func134, Try.ntmps134
    by_cases ho : x.op = 2
    · have b1 : (x.op == 2) = true := by simpa using ho
      have hn : ownN x l = addN x.nm l := by unfold ownN; rw [if_pos ho]
      clear ho
      have hfit2 : l.length ≤ 1073741822 := by have := room_len HLEN.out; have := HLEN.out; unfold Room at this; have h2 := Nat.one_le_two_pow (n := m); rw [Nat.pow_succ] at this; omega
      go_wp2_with fail
      refine (spoken_any B l _ x.nm _ HROW.out (by simp; omega) hfit2 HOK.out.nm).mono ?_
      rintro e w4 ⟨v4, rfl, hr4, hg4, ho4⟩
      obtain ⟨va4, n4, vc4, rfl, -⟩ := hr4.form
      have HR4 := Lib.hid hr4
      have HO4 := Lib.hid ho4
      have HG4 := Lib.hid hg4
      clear hr4 hg4 ho4
      go_upto_region 3 with fail
      refine cut_world (fun wx => RowS B wx (Value.slice va4 n4 vc4) (ownN x l) ∧ (w.alloc (.cells #[.int .i64 x.op, .int .i64 x.n, .string x.nm, .slice ax x.ks.length cx] 37)).grownBy wx (Value.slice va l.length vc).ownBlock ∧ (∀ g, (Value.slice va4 n4 vc4).ownBlock = some g → (Value.slice va l.length vc).ownBlock = some g ∨ (w.alloc (.cells #[.int .i64 x.op, .int .i64 x.n, .string x.nm, .slice ax x.ks.length cx] 37)).heap.size ≤ g) ∧ wx.cell? ⟨w.heap.size, 3, none⟩ = some (.slice ax x.ks.length cx)) ⟨by rw [hn]; exact HR4.out, HG4.out, HO4.out, by
              rw [HG4.out.cell_far ⟨w.heap.size, 3, none⟩ (by simp) (fun e => by have := (HROWX.out.lt _ e.symm).2; simp only at this; omega)]
              exact hcut0.out⟩ ?_
      rintro wx ⟨hr1, hg1, ho1, hc3⟩
      have HR1 := Lib.hid hr1
      have HG1 := Lib.hid hg1
      have HO1 := Lib.hid ho1
      clear hr1 hg1 ho1 hn
      have hgs := HG1.out.size
      have hW1s : (w.alloc (.cells #[.int .i64 x.op, .int .i64 x.n, .string x.nm, .slice ax x.ks.length cx] 37)).heap.size = w.heap.size + 1 := by simp
      go_wp2_with fail
      go_loopw [16, 1] (fun i s1 wr => ∃ (k : Nat) (vr : Value), k ≤ x.ks.length ∧ i = .int .i64 k ∧ s1 = vr ∧ RowS B wr vr ((x.ks.take k).foldl (fun l k => namesE m k l) (ownN x l)) ∧ (w.alloc (.cells #[.int .i64 x.op, .int .i64 x.n, .string x.nm, .slice ax x.ks.length cx] 37)).grownBy wr (Value.slice va l.length vc).ownBlock ∧ (∀ g, vr.ownBlock = some g → (Value.slice va l.length vc).ownBlock = some g ∨ (w.alloc (.cells #[.int .i64 x.op, .int .i64 x.n, .string x.nm, .slice ax x.ks.length cx] 37)).heap.size ≤ g) ∧ wr.cell? ⟨w.heap.size, 3, none⟩ = some (.slice ax x.ks.length cx)) (fun i _ _ => (x.ks.length - intOf i).toNat)
      case atStart => exact ⟨0, _, by omega, rfl, rfl, HR1.out, HG1.out, HO1.out, hc3⟩
      case round =>
        obtain ⟨k, vr, hk, rfl, rfl, hr2, hg2, ho2, hc4⟩ := hrel
        have HR2 := Lib.hid hr2
        have HG2 := Lib.hid hg2
        have HO2 := Lib.hid ho2
        have HC4 := Lib.hid hc4
        have hkr := ExC.mono (low_grown hg2 fun g hg => (HROW.out.lt g hg).1) HK.out
        have hsz2 := hg2.size
        obtain ⟨va2, n2, vc2, rfl, -⟩ := hr2.form
        clear hr2 hg2 ho2 hc3
        by_cases hlt : k < x.ks.length
        · have hlt' : (k : Int) < (x.ks.length : Int) := by omega
          have h0k : (0 : Int) ≤ (k : Int) := by omega
          have hne : x.ks ≠ [] := by intro h; rw [h] at hlt; simp at hlt
          obtain ⟨g, off, cap', hv, _, hcells⟩ := SlAt.cells (show SlAt 4 (ExAt (lowC B wr) (ExC (lowC B wr) d)) (.slice ax x.ks.length cx) x.ks from hkr) hne
          simp only [Value.slice.injEq] at hv
          obtain ⟨rfl, -, rfl⟩ := hv
          obtain ⟨ku, c0, c1, c2, c3, hok2, hku⟩ := hcells k hlt
          have hkm := HKIDS.out _ (List.getElem_mem hlt)
          obtain ⟨xk, hxk⟩ : ∃ xk, Hid (x.ks[k] = xk) := ⟨_, Lib.hid rfl⟩
          rw [hxk.out] at c0 c1 c2 hok2 hku hkm
          obtain ⟨au, cu, rfl, -, -⟩ := hku.form
          have hgB := c0.1
          have d0 : wr.cell? ⟨g, off + k * 4, none⟩ = _ := c0.2
          have d1 : wr.cell? ⟨g, off + k * 4 + 1, none⟩ = _ := c1.2
          have d2 : wr.cell? ⟨g, off + k * 4 + 2, none⟩ = _ := c2.2
          have d3 : wr.cell? ⟨g, off + k * 4 + 3, none⟩ = _ := c3.2
          have HKU := Lib.hid hku
          have HOK2 := Lib.hid hok2
          have hmid := names_mid (l := l) HMAY.out hlt
          have HMID := Lib.hid hmid
          have HKM := Lib.hid hkm
          clear c0 c1 c2 c3 hcells hku hok2 hkr hne hmid hkm
          go_wp2_with fail
          obtain ⟨lk, hlk⟩ : ∃ lk, Hid ((x.ks.take k).foldl (fun l k => namesE m k l) (ownN x l) = lk) := ⟨_, Lib.hid rfl⟩
          rw [hlk.out] at HR2 HMID
          have hbnd : Room lk m := Nat.le_trans HMID.out HLEN.out
          have hBs : B ≤ wr.heap.size := by simp at hsz2 ⊢; omega
          refine (IH.out d xk (.slice au xk.ks.length cu) (.slice va2 n2 vc2) lk _ hm2 HKM.out HOK2.out HKU.out HR2.out hBs hbnd).mono ?_
          clear hbnd hBs
          rintro e w3 ⟨v3, rfl, hr3, hg3, ho3⟩
          obtain ⟨va3, n3, vc3, rfl, -⟩ := hr3.form
          have HR3 := Lib.hid hr3
          have HO3 := Lib.hid ho3
          have hbx := hsz2
          have hg4 : (w.alloc (.cells #[.int .i64 x.op, .int .i64 x.n, .string x.nm, .slice (some ⟨g, off, none⟩) x.ks.length cx] 37)).grownBy w3 (Value.slice va l.length vc).ownBlock := HG2.out.andThen (hg3) fun j hj => (HO2.out j hj).elim Or.inr Or.inl
          have hc5 : w3.cell? ⟨w.heap.size, 3, none⟩ = some (.slice (some ⟨g, off, none⟩) x.ks.length cx) := by
            rw [hg4.cell_far ⟨w.heap.size, 3, none⟩ (by simp) (fun e => by have := (HROWX.out.lt _ e.symm).2; simp only at this; omega)]
            exact hcut0.out
          have HG4 := Lib.hid hg4
          clear hr3 hg3 ho3 hbx hg4
          go_wp2_with fail
          go_roundw
          case rel =>
            refine ⟨k + 1, _, by omega, by go_num, rfl, ?_, HG4.out, fun q hq => ?_, hc5⟩
            · rw [List.take_succ_eq_append_getElem hlt, List.foldl_append, hlk.out, List.foldl_cons, List.foldl_nil, hxk.out]
              exact HR3.out
            · rcases HO3.out q hq with h | h
              · exact HO2.out q h
              · right
                simp only [World.size_alloc] at h hsz2 ⊢
                omega
          case measure => simp [intOf]; omega
        · have hlt' : ¬ (k : Int) < (x.ks.length : Int) := by omega
          have he : x.ks.take k = x.ks := List.take_of_length_le (by omega)
          rw [he] at HR2
          go_wp2_with fail
          go_ret
          refine ⟨_, rfl, HR2.out, (grown_of HBOX.out _).trans HG2.out, fun q hq => ?_⟩
          rcases HO2.out q hq with h | h
          · exact .inl h
          · right
            simp only [World.size_alloc] at h
            omega
    · have b1 : (x.op == 2) = false := by simpa using ho
      have hn : ownN x l = l := by unfold ownN; rw [if_neg ho]
      clear ho
      go_upto_region 3 with fail
      refine cut_world (fun wx => RowS B wx (Value.slice va l.length vc) (ownN x l) ∧ (w.alloc (.cells #[.int .i64 x.op, .int .i64 x.n, .string x.nm, .slice ax x.ks.length cx] 37)).grownBy wx (Value.slice va l.length vc).ownBlock ∧ (∀ g, (Value.slice va l.length vc).ownBlock = some g → (Value.slice va l.length vc).ownBlock = some g ∨ (w.alloc (.cells #[.int .i64 x.op, .int .i64 x.n, .string x.nm, .slice ax x.ks.length cx] 37)).heap.size ≤ g) ∧ wx.cell? ⟨w.heap.size, 3, none⟩ = some (.slice ax x.ks.length cx)) ⟨by rw [hn]; exact HROW.out, World.grownBy.refl _ _, fun g hg => .inl hg, hcut0.out⟩ ?_
      rintro wx ⟨hr1, hg1, ho1, hc3⟩
      have HR1 := Lib.hid hr1
      have HG1 := Lib.hid hg1
      have HO1 := Lib.hid ho1
      clear hr1 hg1 ho1 hn
      have hgs := HG1.out.size
      have hW1s : (w.alloc (.cells #[.int .i64 x.op, .int .i64 x.n, .string x.nm, .slice ax x.ks.length cx] 37)).heap.size = w.heap.size + 1 := by simp
      go_wp2_with fail
      go_loopw [16, 1] (fun i s1 wr => ∃ (k : Nat) (vr : Value), k ≤ x.ks.length ∧ i = .int .i64 k ∧ s1 = vr ∧ RowS B wr vr ((x.ks.take k).foldl (fun l k => namesE m k l) (ownN x l)) ∧ (w.alloc (.cells #[.int .i64 x.op, .int .i64 x.n, .string x.nm, .slice ax x.ks.length cx] 37)).grownBy wr (Value.slice va l.length vc).ownBlock ∧ (∀ g, vr.ownBlock = some g → (Value.slice va l.length vc).ownBlock = some g ∨ (w.alloc (.cells #[.int .i64 x.op, .int .i64 x.n, .string x.nm, .slice ax x.ks.length cx] 37)).heap.size ≤ g) ∧ wr.cell? ⟨w.heap.size, 3, none⟩ = some (.slice ax x.ks.length cx)) (fun i _ _ => (x.ks.length - intOf i).toNat)
      case atStart => exact ⟨0, _, by omega, rfl, rfl, HR1.out, HG1.out, HO1.out, hc3⟩
      case round =>
        obtain ⟨k, vr, hk, rfl, rfl, hr2, hg2, ho2, hc4⟩ := hrel
        have HR2 := Lib.hid hr2
        have HG2 := Lib.hid hg2
        have HO2 := Lib.hid ho2
        have HC4 := Lib.hid hc4
        have hkr := ExC.mono (low_grown hg2 fun g hg => (HROW.out.lt g hg).1) HK.out
        have hsz2 := hg2.size
        obtain ⟨va2, n2, vc2, rfl, -⟩ := hr2.form
        clear hr2 hg2 ho2 hc3
        by_cases hlt : k < x.ks.length
        · have hlt' : (k : Int) < (x.ks.length : Int) := by omega
          have h0k : (0 : Int) ≤ (k : Int) := by omega
          have hne : x.ks ≠ [] := by intro h; rw [h] at hlt; simp at hlt
          obtain ⟨g, off, cap', hv, _, hcells⟩ := SlAt.cells (show SlAt 4 (ExAt (lowC B wr) (ExC (lowC B wr) d)) (.slice ax x.ks.length cx) x.ks from hkr) hne
          simp only [Value.slice.injEq] at hv
          obtain ⟨rfl, -, rfl⟩ := hv
          obtain ⟨ku, c0, c1, c2, c3, hok2, hku⟩ := hcells k hlt
          have hkm := HKIDS.out _ (List.getElem_mem hlt)
          obtain ⟨xk, hxk⟩ : ∃ xk, Hid (x.ks[k] = xk) := ⟨_, Lib.hid rfl⟩
          rw [hxk.out] at c0 c1 c2 hok2 hku hkm
          obtain ⟨au, cu, rfl, -, -⟩ := hku.form
          have hgB := c0.1
          have d0 : wr.cell? ⟨g, off + k * 4, none⟩ = _ := c0.2
          have d1 : wr.cell? ⟨g, off + k * 4 + 1, none⟩ = _ := c1.2
          have d2 : wr.cell? ⟨g, off + k * 4 + 2, none⟩ = _ := c2.2
          have d3 : wr.cell? ⟨g, off + k * 4 + 3, none⟩ = _ := c3.2
          have HKU := Lib.hid hku
          have HOK2 := Lib.hid hok2
          have hmid := names_mid (l := l) HMAY.out hlt
          have HMID := Lib.hid hmid
          have HKM := Lib.hid hkm
          clear c0 c1 c2 c3 hcells hku hok2 hkr hne hmid hkm
          go_wp2_with fail
          obtain ⟨lk, hlk⟩ : ∃ lk, Hid ((x.ks.take k).foldl (fun l k => namesE m k l) (ownN x l) = lk) := ⟨_, Lib.hid rfl⟩
          rw [hlk.out] at HR2 HMID
          have hbnd : Room lk m := Nat.le_trans HMID.out HLEN.out
          have hBs : B ≤ wr.heap.size := by simp at hsz2 ⊢; omega
          refine (IH.out d xk (.slice au xk.ks.length cu) (.slice va2 n2 vc2) lk _ hm2 HKM.out HOK2.out HKU.out HR2.out hBs hbnd).mono ?_
          clear hbnd hBs
          rintro e w3 ⟨v3, rfl, hr3, hg3, ho3⟩
          obtain ⟨va3, n3, vc3, rfl, -⟩ := hr3.form
          have HR3 := Lib.hid hr3
          have HO3 := Lib.hid ho3
          have hbx := hsz2
          have hg4 : (w.alloc (.cells #[.int .i64 x.op, .int .i64 x.n, .string x.nm, .slice (some ⟨g, off, none⟩) x.ks.length cx] 37)).grownBy w3 (Value.slice va l.length vc).ownBlock := HG2.out.andThen (hg3) fun j hj => (HO2.out j hj).elim Or.inr Or.inl
          have hc5 : w3.cell? ⟨w.heap.size, 3, none⟩ = some (.slice (some ⟨g, off, none⟩) x.ks.length cx) := by
            rw [hg4.cell_far ⟨w.heap.size, 3, none⟩ (by simp) (fun e => by have := (HROWX.out.lt _ e.symm).2; simp only at this; omega)]
            exact hcut0.out
          have HG4 := Lib.hid hg4
          clear hr3 hg3 ho3 hbx hg4
          go_wp2_with fail
          go_roundw
          case rel =>
            refine ⟨k + 1, _, by omega, by go_num, rfl, ?_, HG4.out, fun q hq => ?_, hc5⟩
            · rw [List.take_succ_eq_append_getElem hlt, List.foldl_append, hlk.out, List.foldl_cons, List.foldl_nil, hxk.out]
              exact HR3.out
            · rcases HO3.out q hq with h | h
              · exact HO2.out q h
              · right
                simp only [World.size_alloc] at h hsz2 ⊢
                omega
          case measure => simp [intOf]; omega
        · have hlt' : ¬ (k : Int) < (x.ks.length : Int) := by omega
          have he : x.ks.take k = x.ks := List.take_of_length_le (by omega)
          rw [he] at HR2
          go_wp2_with fail
          go_ret
          refine ⟨_, rfl, HR2.out, (grown_of HBOX.out _).trans HG2.out, fun q hq => ?_⟩
          rcases HO2.out q hq with h | h
          · exact .inl h
          · right
            simp only [World.size_alloc] at h
            omega
end Go.Proofs.Ytghlmengcidmdaa.Tr
end
section
namespace Go.Proofs.Ytghlmengcidmdaa.Tr
open Go.RowKit Go.Proofs.Ytghlmengcidmdaa.Lx Go.Proofs.Ytghlmengcidmdaa.Wd
section
variable {P : Program} (w : World)
end
end Go.Proofs.Ytghlmengcidmdaa.Tr
end
section
namespace Go.Proofs.Ytghlmengcidmdaa.Tr
open Go.RowKit Go.Proofs.Ytghlmengcidmdaa.Lx Go.Proofs.Ytghlmengcidmdaa.Wd
set_option maxHeartbeats 1000000 in
theorem rnames_any (d : Nat) (x : Ex) (kv : Value) (w : World) (hok : OkE x) (hk : ExK d w kv x.ks) : Calls Try.prog 110 #[exV x kv] w (NamesMade (namesOf x) w) := by
  have hbox := boxed w (.cells #[.int .i64 x.op, .int .i64 x.n, .string x.nm, kv] 37)
  have HBOX := Lib.hid hbox
  have HK1 := Lib.hid (hk.next hbox)
  have HOK := Lib.hid hok
  obtain ⟨a, cap, rfl, -, -⟩ := hk.form
  obtain ⟨mb, hm⟩ : ∃ mb, Hid (mayE 20 x = mb) := ⟨_, Lib.hid rfl⟩
  obtain ⟨L, hL⟩ : ∃ L, Hid (namesOf x = L) := ⟨_, Lib.hid rfl⟩
  rw [hL.out]
  clear hbox hk hok
  unfold exV
  go_enter Try.func110, Try.ntmps110
  go_wp2_with fail
  refine (rmayExpr_any d x _ _ HOK.out HK1.out).mono ?_
  rintro e w1 ⟨rfl, hb⟩
  rw [hm.out]
  have p0 := cell_next (g := w.heap.size) (j := 0) (u := .int .i64 x.op) hb (by simp [go_sem])
  have p1 := cell_next (g := w.heap.size) (j := 1) (u := .int .i64 x.n) hb (by simp [go_sem])
  have p2 := cell_next (g := w.heap.size) (j := 2) (u := .string x.nm) hb (by simp [go_sem])
  have p3 := cell_next (g := w.heap.size) (j := 3) (u := .slice a x.ks.length cap) hb (by simp [go_sem])
  have HB := Lib.hid (HBOX.out.trans (hb.mono HBOX.out.size))
  have HK2 := Lib.hid (HK1.out.next hb)
  clear hb
  cases mb with
  | false =>
    go_wp2_with fail
    go_ret
    have he : L = [] := by rw [← hL.out]; unfold namesOf; rw [hm.out]; rfl
    rw [he]
    exact ⟨_, rfl, RowS.nil _ _, HB.out⟩
  | true =>
    have hle : w.heap.size ≤ w1.heap.size := HB.out.size
    go_wp2_with fail
    refine (walk_any w1.heap.size 20 d x _ _ [] _ (Nat.le_refl _) hm.out HOK.out (ExC.mono low_all (ExC.of HK2.out)) (RowS.nil _ _) (Nat.le_refl _) room20).mono ?_
    rintro e w2 ⟨v, rfl, hr, hg, -⟩
    obtain ⟨va, n, vc, rfl, -⟩ := hr.form
    have HR := Lib.hid hr
    have HG := Lib.hid hg
    clear hr hg
    go_wp2_with fail
    go_ret
    have he : L = namesE 20 x [] := by rw [← hL.out]; unfold namesOf; rw [hm.out]; rfl
    rw [he]
    exact ⟨_, rfl, HR.out.mono hle, HB.out.trans ((below_of HG.out).mono hle)⟩
end Go.Proofs.Ytghlmengcidmdaa.Tr
end
end
section
/- Plain: statements counted, found. How rows of statements lie. Conditions: none.
   What tree.count, tree.Count compute. Conditions: the rows lie in memory.
   What tree.find computes: where the first statement of an id stands. Conditions: the rows lie in memory.
   Plain: statements weighed, copied, numbered; a statement, an argument as cells. Conditions: none.
   What slices.Clone makes: a new slice. Conditions: the slice lies in memory, it is not long. -/
section
namespace Go.Proofs.Ytghlmengcidmdaa.Tr
open Go.RowKit Go.Proofs.Ytghlmengcidmdaa.Lx Go.Proofs.Ytghlmengcidmdaa.Wd
end Go.Proofs.Ytghlmengcidmdaa.Tr
end
section
namespace Go.Proofs.Ytghlmengcidmdaa.Tr
open Go.RowKit Go.Proofs.Ytghlmengcidmdaa.Lx Go.Proofs.Ytghlmengcidmdaa.Wd
end Go.Proofs.Ytghlmengcidmdaa.Tr
end
section
namespace Go.Proofs.Ytghlmengcidmdaa.Tr
open Go.RowKit Go.Proofs.Ytghlmengcidmdaa.Lx Go.Proofs.Ytghlmengcidmdaa.Wd
end Go.Proofs.Ytghlmengcidmdaa.Tr
end
section
namespace Go.Proofs.Ytghlmengcidmdaa.Tr
open Go.RowKit Go.Proofs.Ytghlmengcidmdaa.Lx Go.Proofs.Ytghlmengcidmdaa.Wd
mutual
/-- A statement anew, numbered from behind some if so. -/
def cpS (b : Bool) (n : Int) : St → St
  | .mk i k ls nm pr x h ar t e => .mk (if b then wrap64 (n + 1) else i) k ls nm pr x h ar (cpL b (n + 1) t) (cpL b (n + 1 + cntL t) e)
def cpL (b : Bool) (n : Int) : List St → List St
  | [] => []
  | s :: r => cpS b n s :: cpL b (n + cntS s) r
end
theorem cpS_eq (b : Bool) (n : Int) (s : St) : cpS b n s = .mk (if b then wrap64 (n + 1) else s.id) s.kind s.labels s.nm s.proc s.x s.has s.args (cpL b (n + 1) s.thn) (cpL b (n + 1 + cntL s.thn) s.els) := by cases s; simp only [cpS, St.id, St.kind, St.labels, St.nm, St.proc, St.x, St.has, St.args, St.thn, St.els]
theorem cpL_cons (b : Bool) (n : Int) (s : St) (r : List St) : cpL b n (s :: r) = cpS b n s :: cpL b (n + cntS s) r := by simp only [cpL]
theorem cpL_append (b : Bool) : ∀ (l m : List St) (n : Int), cpL b n (l ++ m) = cpL b n l ++ cpL b (n + cntL l) m := by
  intro l
  induction l with
  | nil => intro m n; simp [cpL, cntL]
  | cons s r ih =>
    intro m n
    rw [List.cons_append, cpL_cons, cpL_cons, ih, cntL_cons, List.cons_append]
    congr 3
    push_cast
    omega
theorem cpL_len (b : Bool) : ∀ (l : List St) (n : Int), (cpL b n l).length = l.length := by
  intro l
  induction l with
  | nil => intro n; simp [cpL]
  | cons s r ih => intro n; rw [cpL_cons, List.length_cons, List.length_cons, ih]
end Go.Proofs.Ytghlmengcidmdaa.Tr
end
section
namespace Go.Proofs.Ytghlmengcidmdaa.Tr
open Go.RowKit Go.Proofs.Ytghlmengcidmdaa.Lx Go.Proofs.Ytghlmengcidmdaa.Wd
/-- What a copier of texts leaves. -/
def TextsCopied (l : List ByteArray) (w : World) (e : Ending) (w' : World) : Prop := ∃ v, e = .returned v ∧ StrC (nwC w.heap.size w') v l ∧ Below w.heap.size w w'
set_option maxHeartbeats 1000000 in
set_option maxRecDepth 100000 in
theorem cloneTexts_any (l : List ByteArray) (v : Value) (w : World) (hl : StrsAt w v l) (hm : l.length ≤ 1000000) : Calls Try.prog 73 #[v] w (TextsCopied l w) := by
  obtain ⟨i0, hi, hz0, hz1, hz2⟩ := info_parts infoStr
  obtain ⟨a, cap, rfl, hc1, hc2⟩ := hl.form
  cases a with
  | none =>
    obtain ⟨-, hz, -⟩ := hl.news
    have h0 : l = [] := List.eq_nil_of_length_eq_zero (hz rfl)
    subst h0
    clear hl hz
    have ny := nil_yes cap
    go_enter Try.func73, Try.ntmps73
    go_wp2_with fail
    go_ret
    exact ⟨_, rfl, SlAt.nil, Below.refl _ _⟩
  | some ad =>
    have HL := Lib.hid hl
    have HALL := Lib.hid hl.all
    clear hl
    have ny := nil_no ad l.length cap
    go_enter Try.func73, Try.ntmps73
    go_wp2_with (at_builtin; refine wpList_append_sl _ rfl (.tmp 5) (.tmp 6) 22 rfl w.heap.size 9 i0 (.string ⟨#[]⟩) 1 16 Try.underlying22 hi hz0 hz1 hz2 rfl (by decide) _ 0 [] rfl ?oa1 (some ad) l.length cap (l.map Value.string) rfl ?oz1 ?ob1 ?oc1 (str_all _) ?od1 ?oe1 ?of1 ?_)
    case oa1 => exact World.ownsRow_lit w #[] 0 (Nat.le_refl _) (by decide) rfl
    case oz1 => intro h; cases h
    case ob1 => rw [List.length_map, Nat.mul_one]
    case oc1 => exact (HL.out.next (boxed w _)).news.2.2
    case od1 => unfold maxLen; omega
    case oe1 => omega
    case of1 => simp
    intro v4 w4 hown4 hg4 hat4
    obtain ⟨la4, lc4, rfl⟩ := ownsForm hown4
    have hb4 : Below w.heap.size w w4 := (boxed w _).grown hg4 (by simp) fun q hq => by have hqq : w.heap.size = q := by { simpa [Value.ownBlock] using hq }; omega
    have HB4 := Lib.hid hb4
    have HOWN4 := Lib.hid hown4
    clear hown4 hg4 hat4 hb4
    go_wp2_with fail
    go_ret
    exact ⟨_, rfl, strs_owned (by simpa using HOWN4.out) (by omega) (by omega) HALL.out, HB4.out⟩
end Go.Proofs.Ytghlmengcidmdaa.Tr
end
end
section
/- What tree.expr makes: a new expression. Conditions: the expression lies in memory, no row of kids is long. -/
namespace Go.Proofs.Ytghlmengcidmdaa.Tr
open Go.RowKit Go.Proofs.Ytghlmengcidmdaa.Lx Go.Proofs.Ytghlmengcidmdaa.Wd
set_option maxHeartbeats 4000000 in
set_option maxRecDepth 100000 in
theorem expr_any : ∀ (d : Nat) (x : Ex) (kv : Value) (w : World), OkE x → ExK d w kv x.ks → lim d x.ks →
    Calls Try.prog 132 #[exV x kv] w (ExMade d x w) := by
  intro d
  induction d with
  | zero => intro x kv w _ h; exact h.elim
  | succ d ih =>
    intro x kv w hok hk hlim
    have IH := Lib.hid ih
    obtain ⟨i0, hi, hz0, hz1, hz2⟩ := info_parts infoEx
    obtain ⟨ax, cx, rfl, hc1, hc2⟩ := hk.form
    have hbox := boxed w (.cells #[.int .i64 x.op, .int .i64 x.n, .string x.nm, .slice ax x.ks.length cx] 37)
    have HB := Lib.hid hbox
    have HK := Lib.hid (hk.next hbox)
    have HOK := Lib.hid hok
    have HK0 := Lib.hid hk
    have hlen := hlim.1
    have HLIM := Lib.hid hlim.2
    clear ih hbox hok hlim
    unfold exV
    go_enter Try.func132, Try.ntmps132
    go_upto_region 3 with fail
    refine cut_world (fun wx => Below w.heap.size w wx ∧ w.heap.size + 1 < wx.heap.size ∧ Grow (ExQ d) 37 4 (w.heap.size + 1 + 1) w.heap.size (w.heap.size + 1) 4 [.int .i64 x.op, .int .i64 x.n, .string x.nm, .slice none 0 0] 3 [] wx (.slice none 0 0) []) ⟨?_, ?_, ?_⟩ ?_
    · exact (boxed w _).alloc (by simp) _
    · simp
    · refine ⟨by omega, by omega, by omega, by simp <;> omega, fun j u hu => ?_, fun j => by simp [go_sem], fun j hj => ?_, fun j => by simp [go_sem], Acc.nil _ _ _ _ _, by simp⟩
      · match j, hu with
        | 0, hu => cases hu; simp [go_sem]
        | 1, hu => cases hu; simp [go_sem]
        | 2, hu => cases hu; simp [go_sem]
        | 3, hu => cases hu; simp [go_sem]
      · match j, hj with
        | 0, _ => exact ⟨.int .i64 0, by simp [go_sem]⟩
        | 1, _ => exact ⟨.int .i64 0, by simp [go_sem]⟩
        | 2, _ => exact ⟨.string ⟨#[]⟩, by simp [go_sem]⟩
        | 3, _ => exact ⟨.slice none 0 0, by simp [go_sem]⟩
    · intro wc hcut
      obtain ⟨hbel, hsz, hG⟩ := hcut
      have HBC := Lib.hid hbel
      have HGC := Lib.hid hG
      have hkc := hk.next hbel
      have HKC := Lib.hid hkc
      clear hbel hG hkc hk
      go_wp2_with fail
      go_loopw [11] (fun i wr => ∃ (k : Nat) (v : Value) (rows : List (List Value)), k ≤ x.ks.length ∧ i = .int .i64 k ∧ Below w.heap.size w wr ∧ wc.heap.size ≤ wr.heap.size ∧ ExK (d + 1) wr (.slice ax x.ks.length cx) x.ks ∧
          Grow (ExQ d) 37 4 (w.heap.size + 1 + 1) w.heap.size (w.heap.size + 1) 4 [.int .i64 x.op, .int .i64 x.n, .string x.nm, .slice none 0 0] 3 (x.ks.take k) wr v rows) (fun i _ => (x.ks.length - intOf i).toNat)
      case atStart => exact ⟨0, _, [], by omega, rfl, HBC.out, Nat.le_refl _, HKC.out, HGC.out⟩
      case round =>
        obtain ⟨k, v, rows, hk, rfl, hbel, hle, hkr, hG⟩ := hrel
        have HBel := Lib.hid hbel
        have HKR := Lib.hid hkr
        have HG := Lib.hid hG
        have hL : (x.ks.take k).length = k := by simp; omega
        have y3 := hG.y 3 _ rfl
        have hown := hG.acc.own
        rw [hL] at hown
        have HOWN := Lib.hid hown
        have fy := hG.fy 3
        skip
        by_cases hlt : k < x.ks.length
        · have hlt' : (k : Int) < (x.ks.length : Int) := by omega
          have h0k : (0 : Int) ≤ (k : Int) := by omega
          have hne : x.ks ≠ [] := by intro h; rw [h] at hlt; simp at hlt
          obtain ⟨g, off, cap', hv, _, _, hcells⟩ := hkr.kids hne
          simp only [Value.slice.injEq] at hv
          obtain ⟨rfl, -, rfl⟩ := hv
          obtain ⟨hok2, u, c0, c1, c2, c3, hku⟩ := hcells k hlt
          have hlimk := HLIM.out x.ks[k] (List.getElem_mem hlt)
          obtain ⟨E, hE⟩ : ∃ E, Hid (x.ks[k] = E) := ⟨_, Lib.hid rfl⟩
          rw [hE.out] at hok2 c0 c1 c2 hku hlimk
          obtain ⟨au, cu, rfl, -, -⟩ := hku.form
          have HKU := Lib.hid hku
          have HOK2 := Lib.hid hok2
          have HLK := Lib.hid hlimk
          have hyl := cell_lt y3
          have hgw : g < w.heap.size := by
            obtain ⟨g0, off0, cap0, hv0, _, _, hcells0⟩ := HK0.out.kids hne
            simp only [Value.slice.injEq, Option.some.injEq, Addr.mk.injEq] at hv0
            obtain ⟨⟨rfl, -⟩, -⟩ := hv0
            obtain ⟨_, _, q0, _⟩ := hcells0 k hlt
            exact cell_lt q0
          obtain ⟨va, vc, rfl⟩ := ownsForm hown
          have hnb := hG.own
          have HNB := Lib.hid hnb
          have hwl : w.heap.size < wr.heap.size := by omega
          have hgl : g < wr.heap.size := by omega
          clear hcells hku hok2 hbel hne hkr hG hown hlimk hnb
          have IHK : Hid (∀ W kv, ExK d W kv E.ks → Calls Try.prog 132 #[exV E kv] W (ExMade d E W)) := Lib.hid (fun W kv h => IH.out E kv W HOK2.out h HLK.out)
          have Y3 := Lib.hid y3
          have hkb := boxed wr (.cells #[.int .i64 E.op, .int .i64 E.n, .string E.nm, .slice au E.ks.length cu] 37)
          have HKB := Lib.hid hkb
          have znk := World.new_ne _ _ y3
          clear hkb
          have FY := Lib.hid fy
          go_upto_region 6 with fail
          go_region_law
            (first
              | (go_simp; go_at_call 132; refine (IHK.out _ _ (HKU.out.next HKB.out.drew)).mono ?_; rintro e w2 ⟨kv2, rfl, hok3, hkc3, hb2⟩; obtain ⟨ka2, kc2, rfl, hka1, hka2⟩ := hkc3.form; unfold exV; have z3 := cell_next hb2 (cell_next HKB.out.drew Y3.out); have zf := frozen_next hb2 (cell_next HKB.out.drew Y3.out) (frozen_next HKB.out.drew Y3.out FY.out); have Z3 := Lib.hid z3; have ZF := Lib.hid zf; have znew := World.new_ne _ _ z3; have zlt := cell_lt z3; dsimp only)
              | (have hbt := hb2; refine step_append_lies _ (by rfl) (.tmp 16) (.tmp 19) _ (by rfl) (w.heap.size + 1 + 1) 37 i0 (.agg #[.int .i64 0, .int .i64 0, .string ⟨#[]⟩, .slice none 0 0]) 4 56 Try.underlying35 hi hz0 hz1 hz2 rfl (by omega) (.slice va k vc) k rows.flatten (by rfl) ((ownsBelow (ownsBelow HOWN.out HKB.out.drew) hb2).alloc _)
                  ⟨w2.heap.size, 0, none⟩ 1 1 [.int .i64 E.op, .int .i64 E.n, .string E.nm, .slice ka2 E.ks.length kc2] (by rfl) (by rfl) (World.news_of_block (cs := #[.int .i64 E.op, .int .i64 E.n, .string E.nm, .slice ka2 E.ks.length kc2]) (t := 37) (fr := (0, 0)) (heap_alloc_new w2 _)) (by simp [Value.oneCell'])
                  (by omega) (by unfold maxLen; omega) (by omega) (by have := hb2.size; simp at this ⊢ <;> omega) (w2.heap.size + 1) (by simp) ?_; intro gg cap4 w4 hown4 hgrow4 hat4 hlt4
                 have ylt := cell_lt Z3.out
                 have q3 := (hgrow4.cell_far ⟨w.heap.size, 3, none⟩ (by simp <;> omega) (HNB.out _ (by simp <;> omega))).trans (cell_next (boxed w2 _) Z3.out)
                 have qf := (hgrow4.frozen_far ⟨w.heap.size, 3, none⟩ (by simp <;> omega) (HNB.out _ (by simp <;> omega))).trans (frozen_next (boxed w2 _) Z3.out ZF.out)))
          all_goals
            go_wp2_with fail
            go_roundw
            case rel =>
              have hch : Below wr.heap.size wr (w2.alloc (.cells #[.int .i64 E.op, .int .i64 E.n, .string E.nm, .slice ka2 E.ks.length kc2] 37)) := (HKB.out.drew.trans (hb2.mono HKB.out.size)).trans ((boxed w2 _).mono (Nat.le_trans HKB.out.size hb2.size))
              have hB2 := Grow.below (B := w.heap.size + 1 + 1) (Y := w.heap.size) (slot := 3) (v4 := .slice (some ⟨gg, 0, none⟩) (k + 1) cap4) HBel.out hch hgrow4 (by omega) (by omega) HNB.out
              have hstep := HG.out.step (v4 := .slice (some ⟨gg, 0, none⟩) (k + 1) cap4) (by simp) (ExQ.mono d) HKB.out.drew hb2 (boxed w2 _) hgrow4 (fun q hq => by have hqq : gg = q := by { simpa [Value.ownBlock] using hq }; subst hqq; exact hat4.imp id fun h => by omega) rfl ⟨_, rfl, hok3, hkc3⟩ (by rw [hL]; exact hown4)
              refine ⟨k + 1, .slice (some ⟨gg, 0, none⟩) (k + 1) cap4, rows ++ [[.int .i64 E.op, .int .i64 E.n, .string E.nm, .slice ka2 E.ks.length kc2]], by omega, by go_num, hB2, ?_, HK0.out.next hB2, ?_⟩
              · have := hgrow4.size
                have := hch.size
                simp only [World.size_setCell]
                omega
              · rw [List.take_succ_eq_append_getElem hlt, hE.out]
                exact hstep
            case measure => simp [intOf]; omega
        · have hlt' : ¬ (k : Int) < (x.ks.length : Int) := by omega
          have hke : k = x.ks.length := by omega
          subst hke
          obtain ⟨va, vc, rfl⟩ := ownsForm hown
          rw [List.take_length] at HG
          have y0 := HG.out.y 0 _ rfl
          have y1 := HG.out.y 1 _ rfl
          have y2 := HG.out.y 2 _ rfl
          obtain ⟨r0, hr0⟩ := HG.out.r 0 (by omega)
          obtain ⟨r1, hr1⟩ := HG.out.r 1 (by omega)
          obtain ⟨r2, hr2⟩ := HG.out.r 2 (by omega)
          obtain ⟨r3, hr3⟩ := HG.out.r 3 (by omega)
          have f0 := HG.out.fy 0
          have f1 := HG.out.fr 0
          have f2 := HG.out.fr 1
          have f3 := HG.out.fr 2
          have f4 := HG.out.fr 3
          have hfit : x.ks.length ≤ 9223372036854775807 := by omega
          have hm := HG.out.acc.exC hfit
          have HM := Lib.hid hm
          clear hG hbel hm hown
          go_wp2_with fail
          obtain ⟨q0, q1, q2, q3⟩ := fill4 (a := .int .i64 x.op) (b := .int .i64 x.n) (c := .string x.nm) (d := .slice va x.ks.length vc) hr0 hr1 hr2 hr3
          refine bodyPost_ret (v := .agg #[.int .i64 x.op, .int .i64 x.n, .string x.nm, .slice va x.ks.length vc]) (by simp [results, Try.results132, go_sem, q0, q1, q2, q3]) rfl ⟨.slice va x.ks.length vc, ?_, ⟨?_, ?_, ?_⟩, ?_, ?_⟩
          · rfl
          · exact HOK.out.op
          · exact HOK.out.n
          · exact HOK.out.nm
          · refine ExC.mono (Cs.le_trans (le_set (R := w.heap.size + 1) (by omega)) (Cs.le_trans (le_set (R := w.heap.size + 1) (by omega)) (Cs.le_trans (le_set (R := w.heap.size + 1) (by omega)) (Cs.le_trans (le_set (R := w.heap.size + 1) (by omega)) (nw_le (by omega) (Below.refl _ _)))))) HM.out
          · refine (((HBel.out.setCell (p := ⟨_, _, none⟩) ?_ _).setCell (p := ⟨_, _, none⟩) ?_ _).setCell (p := ⟨_, _, none⟩) ?_ _).setCell (p := ⟨_, _, none⟩) ?_ _ <;> simp
end Go.Proofs.Ytghlmengcidmdaa.Tr
end
