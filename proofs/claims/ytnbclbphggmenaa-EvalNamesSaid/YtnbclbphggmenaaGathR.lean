/- What tree.Names, and spoken, walk, Names, In, EqTexts of the reference compute. Conditions: the arguments lie in memory. -/
import Derived.Test.YtnbclbphggmenaaGathW
import Derived.Lib.SmallJoins
namespace Go.Proofs.Ytnbclbphggmenaa.Tr
open Go.RowKit Go.Proofs.Ytnbclbphggmenaa.Lx Go.Proofs.Ytnbclbphggmenaa.Wd
theorem low_all {w : World} : Cs.le (cw w) (lowC w.heap.size w) := fun _ _ _ h => ⟨cell_lt h, h⟩
/-- What a maker of a new row of texts leaves. -/
def NamesMade (l : List ByteArray) (w : World) (e : Ending) (w' : World) : Prop := ∃ v, e = .returned v ∧ RowS w.heap.size w' v l ∧ Below w.heap.size w w'
theorem below_of {w w' : World} (h : w.grownBy w' none) : Below w.heap.size w w' := ⟨h.os, h.tape, h.output, h.size, fun k hk => h.block k hk (by simp)⟩
theorem RowS.nil (B : Nat) (w : World) : RowS B w (.slice none 0 0) [] := ⟨World.ownsRow_nil _ _ _ _, fun s h => by cases h⟩
theorem RowS.mono {B B' : Nat} {w : World} {v : Value} {l : List ByteArray} (h : RowS B w v l) (hb : B' ≤ B) : RowS B' w v l := ⟨Go.Joins.ownsRow_le h.1 hb, h.2⟩
/-- What the two list in the end. -/
def namesOf (x : Ex) : List ByteArray := if mayE 20 x then namesE 20 x [] else []
theorem room20 : Room [] 20 := by unfold Room; decide
set_option maxHeartbeats 1000000 in
theorem names_any (d : Nat) (x : Ex) (kv : Value) (w : World) (hok : OkE x) (hk : ExK d w kv x.ks) : Calls Try.prog 27 #[exV x kv] w (NamesMade (namesOf x) w) := by
  have hbox := boxed w (.cells #[.int .i64 x.op, .int .i64 x.n, .string x.nm, kv] 24)
  have HBOX := Lib.hid hbox
  have HK1 := Lib.hid (hk.next hbox)
  have HOK := Lib.hid hok
  obtain ⟨a, cap, rfl, -, -⟩ := hk.form
  obtain ⟨mb, hm⟩ : ∃ mb, Hid (mayE 20 x = mb) := ⟨_, Lib.hid rfl⟩
  obtain ⟨L, hL⟩ : ∃ L, Hid (namesOf x = L) := ⟨_, Lib.hid rfl⟩
  rw [hL.out]
  clear hbox hk hok
  unfold exV
  go_enter Try.func27, Try.ntmps27
  go_wp2_with fail
  refine (mayExpr_any d x _ _ HOK.out HK1.out).mono ?_
  rintro e w1 ⟨rfl, hb⟩
  rw [hm.out]
  have p0 := cell_next (g := w.heap.size) (j := 0) (u := .int .i64 x.op) hb (by simp [go_sem])
  have p1 := cell_next (g := w.heap.size) (j := 1) (u := .int .i64 x.n) hb (by simp [go_sem])
  have p2 := cell_next (g := w.heap.size) (j := 2) (u := .string x.nm) hb (by simp [go_sem])
  have p3 := cell_next (g := w.heap.size) (j := 3) (u := .slice a x.ks.length cap) hb (by simp [go_sem])
  have HB := Lib.hid (HBOX.out.trans (hb.mono HBOX.out.size))
  have HK2 := Lib.hid (HK1.out.next hb)
  clear hb
  cases mb with
  | false =>
    go_wp2_with fail
    go_ret
    have he : L = [] := by rw [← hL.out]; unfold namesOf; rw [hm.out]; rfl
    rw [he]
    exact ⟨_, rfl, RowS.nil _ _, HB.out⟩
  | true =>
    have hle : w.heap.size ≤ w1.heap.size := HB.out.size
    go_wp2_with fail
    refine (gather_any w1.heap.size 20 d x _ _ [] _ (Nat.le_refl _) hm.out HOK.out (ExC.mono low_all (ExC.of HK2.out)) (RowS.nil _ _) (Nat.le_refl _) room20).mono ?_
    rintro e w2 ⟨v, rfl, hr, hg, -⟩
    obtain ⟨va, n, vc, rfl, -⟩ := hr.form
    have HR := Lib.hid hr
    have HG := Lib.hid hg
    clear hr hg
    go_wp2_with fail
    go_ret
    have he : L = namesE 20 x [] := by rw [← hL.out]; unfold namesOf; rw [hm.out]; rfl
    rw [he]
    exact ⟨_, rfl, HR.out.mono hle, HB.out.trans ((below_of HG.out).mono hle)⟩
set_option maxHeartbeats 1000000 in
theorem in_any (ns : List ByteArray) (nv : Value) (s : ByteArray) (w : World) (hn : StrsAt w nv ns) :
    Calls Try.prog 29 #[nv, .string s] w fun e w' => e = .returned (.bool (at_ s ns).isSome) ∧ w = w' := by
  obtain ⟨a, cap, rfl, hc1, hc2⟩ := hn.form
  have HN := Lib.hid hn
  clear hn
  go_enter Try.func29, Try.ntmps29
  go_wp2_with fail
  go_loop [8] (fun i => ∃ k : Nat, k ≤ ns.length ∧ i = .int .i64 k ∧ ∀ j (hj : j < ns.length), j < k → (s.toList == ns[j].toList) = false) (fun i => (ns.length - intOf i).toNat)
  case atStart => exact ⟨0, by omega, rfl, fun j _ h => absurd h (by omega)⟩
  case round =>
    obtain ⟨k, hk, rfl, hno⟩ := hrel
    have HNO := Lib.hid hno
    clear hno
    by_cases hlt : k < ns.length
    · have hlt' : (k : Int) < (ns.length : Int) := by omega
      have h0k : (0 : Int) ≤ (k : Int) := by omega
      have hne : ns ≠ [] := by intro h; rw [h] at hlt; simp at hlt
      obtain ⟨g, off, cap', hv, hcells⟩ := HN.out.cells hne
      simp only [Value.slice.injEq] at hv
      obtain ⟨rfl, -, rfl⟩ := hv
      obtain ⟨-, c0⟩ := hcells k hlt
      clear hcells hne
      cases hq : (s.toList == ns[k].toList) with
      | true =>
        have HQ := Lib.hid hq
        have hq' : (ns[k].toList == s.toList) = true := by rw [eq_text] at hq ⊢; exact hq.symm
        obtain ⟨m, hm⟩ : ∃ m, Hid (ns[k] = m) := ⟨_, Lib.hid rfl⟩
        rw [hm.out] at hq hq' c0
        go_wp2_with fail
        go_ret
        refine ⟨?_, rfl⟩
        rw [at_some hlt HQ.out (fun j hj => HNO.out j (by omega) hj)]
        rfl
      | false =>
        have HQ := Lib.hid hq
        have hq' : (ns[k].toList == s.toList) = false := by
          cases h : (ns[k].toList == s.toList) with
          | false => rfl
          | true => rw [eq_text] at h; rw [h, (eq_text s s).2 rfl] at hq; cases hq
        obtain ⟨m, hm⟩ : ∃ m, Hid (ns[k] = m) := ⟨_, Lib.hid rfl⟩
        rw [hm.out] at hq hq' c0
        go_wp2_with fail
        go_round
        case rel =>
          refine ⟨k + 1, by omega, by go_num, fun j hj hjk => ?_⟩
          rcases Nat.lt_or_ge j k with h | h
          · exact HNO.out j hj h
          · obtain rfl : j = k := by omega
            exact HQ.out
        case measure => simp [intOf]; omega
    · have hlt' : ¬ (k : Int) < (ns.length : Int) := by omega
      go_wp2_with fail
      go_ret
      refine ⟨?_, rfl⟩
      rw [at_none (fun j hj => HNO.out j hj (by omega))]
      rfl
theorem at_eq {s : ByteArray} {ns : List ByteArray} {k : Nat} (h : k < ns.length) (hk : (s.toList == ns[k].toList) = true) : (at_ s ns).isSome = true := by
  cases hh : at_ s ns with
  | some i => rfl
  | none =>
    unfold at_ at hh
    rw [List.findIdx?_eq_none_iff] at hh
    have := hh ns[k] (List.getElem_mem h)
    rw [hk] at this; cases this
set_option maxHeartbeats 1000000 in
theorem spoken_any (B : Nat) (ns : List ByteArray) (nv : Value) (s : ByteArray) (w : World) (hr : RowS B w nv ns) (hB : B ≤ w.heap.size) (hl : ns.length ≤ 1073741822) (hs : s.size ≤ 9223372036854775807) :
    Calls Try.prog 101 #[nv, .string s] w (Gathers B nv (addN s ns) w) := by
  obtain ⟨i0, hi, hz0, hz1, hz2⟩ := info_parts infoStr
  have HN := Lib.hid (hr.strs (by omega))
  have HR := Lib.hid hr
  obtain ⟨a, cap, rfl⟩ := ownsForm hr.1
  clear hr
  go_enter Try.func101, Try.ntmps101
  go_wp2_with fail
  go_loop [9] (fun i => ∃ k : Nat, k ≤ ns.length ∧ i = .int .i64 k ∧ ∀ j (hj : j < ns.length), j < k → (s.toList == ns[j].toList) = false) (fun i => (ns.length - intOf i).toNat)
  case atStart => exact ⟨0, by omega, rfl, fun j _ h => absurd h (by omega)⟩
  case round =>
    obtain ⟨k, hk, rfl, hno⟩ := hrel
    have HNO := Lib.hid hno
    clear hno
    by_cases hlt : k < ns.length
    · have hlt' : (k : Int) < (ns.length : Int) := by omega
      have h0k : (0 : Int) ≤ (k : Int) := by omega
      have hne : ns ≠ [] := by intro h; rw [h] at hlt; simp at hlt
      obtain ⟨g, off, cap', hv, hcells⟩ := HN.out.cells hne
      simp only [Value.slice.injEq] at hv
      obtain ⟨rfl, -, rfl⟩ := hv
      obtain ⟨-, c0⟩ := hcells k hlt
      clear hcells hne
      cases hq : (s.toList == ns[k].toList) with
      | true =>
        have HQ := Lib.hid hq
        have hq' : (ns[k].toList == s.toList) = true := by rw [eq_text] at hq ⊢; exact hq.symm
        obtain ⟨m, hm⟩ : ∃ m, Hid (ns[k] = m) := ⟨_, Lib.hid rfl⟩
        rw [hm.out] at hq hq' c0
        go_wp2_with fail
        go_ret
        have he : addN s ns = ns := by
          unfold addN
          rw [at_some hlt HQ.out (fun j hj => HNO.out j (by omega) hj), if_neg (by simp)]
        rw [he]
        exact ⟨_, rfl, HR.out, World.grownBy.refl _ _, fun g hg => .inl hg⟩
      | false =>
        have HQ := Lib.hid hq
        have hq' : (ns[k].toList == s.toList) = false := by
          cases h : (ns[k].toList == s.toList) with
          | false => rfl
          | true => rw [eq_text] at h; rw [h, (eq_text s s).2 rfl] at hq; cases hq
        obtain ⟨m, hm⟩ : ∃ m, Hid (ns[k] = m) := ⟨_, Lib.hid rfl⟩
        rw [hm.out] at hq hq' c0
        go_wp2_with fail
        go_round
        case rel =>
          refine ⟨k + 1, by omega, by go_num, fun j hj hjk => ?_⟩
          rcases Nat.lt_or_ge j k with h | h
          · exact HNO.out j hj h
          · obtain rfl : j = k := by omega
            exact HQ.out
        case measure => simp [intOf]; omega
    · have hlt' : ¬ (k : Int) < (ns.length : Int) := by omega
      have hnk : (ns.length : Int) ≤ k := by omega
      have he : addN s ns = ns ++ [s] := by
        unfold addN
        rw [at_none (fun j hj => HNO.out j hj (by omega)), if_pos rfl]
      go_wp2_with (at_builtin; refine wpList_append_lies _ rfl (.tmp 18) (.tmp 20) 25 rfl B 9 i0 (.string ⟨#[]⟩) 1 16 Try.underlying25 hi hz0 hz1 hz2 rfl (by decide) _ _ _ rfl (HR.out.1.alloc _) ⟨_, 0, none⟩ 1 1 [.string s] rfl rfl ?c1 str_cells (by decide) ?c3 ?c4 ?c5 _ rfl ?_)
      case c3 => unfold maxLen; omega
      case c4 => omega
      case c5 => first | omega | (simp; omega)
      intro g4 cap4 w4 hown4 hg4 hat4 hlt4
      have HOWN4 := Lib.hid hown4
      have HG4 := Lib.hid hg4
      have HAT4 := Lib.hid hat4
      clear hown4 hg4 hat4 hlt4
      go_wp2_with fail
      go_ret
      rw [he]
      refine ⟨_, rfl, ⟨by simpa using HOWN4.out, ?_⟩, (grown_of (boxed _ _) _).trans HG4.out, fun q hq => ?_⟩
      · intro t ht
        rcases List.mem_append.1 ht with ht | ht
        · exact HR.out.2 t ht
        · simp at ht; rw [ht]; exact hs
      · have hqq : g4 = q := by simpa [Value.ownBlock] using hq
        subst hqq
        refine HAT4.out.imp id fun h => ?_
        (try simp at h)
        omega
set_option maxHeartbeats 2000000 in
set_option maxRecDepth 100000 in
theorem walk_any (B : Nat) : ∀ (m d : Nat) (x : Ex) (kv v : Value) (l : List ByteArray) (w : World), m ≤ 20 → mayE m x = true → OkE x → ExC (lowC B w) d kv x.ks → RowS B w v l → B ≤ w.heap.size → Room l m →
    Calls Try.prog 64 #[exV x kv, v] w (Gathers B v (namesE m x l) w) := by
  intro m
  induction m with
  | zero => intro d x kv v l w _ h; cases h
  | succ m ih =>
    intro d x kv v l w hm hmay hok hk hrow hB hlen
    obtain ⟨d, rfl⟩ : ∃ e, d = e + 1 := by
      cases d with
      | zero => exact hk.elim
      | succ e => exact ⟨e, rfl⟩
    obtain ⟨i0, hi, hz0, hz1, hz2⟩ := info_parts infoStr
    have IH := Lib.hid ih
    obtain ⟨ax, cx, rfl, hc1, hc2⟩ := hk.form
    obtain ⟨va, vc, rfl⟩ := ownsForm hrow.1
    have hbox := boxed w (.cells #[.int .i64 x.op, .int .i64 x.n, .string x.nm, .slice ax x.ks.length cx] 24)
    have HBOX := Lib.hid hbox
    have HK := Lib.hid (ExC.mono (low_next hbox) hk)
    have HROW := Lib.hid (hrow.next hbox)
    have HROWX := Lib.hid hrow
    have HOK := Lib.hid hok
    have HMAY := Lib.hid hmay
    have HLEN := Lib.hid hlen
    have hfit : l.length ≤ 1073741823 := room_len hlen
    have hm2 : m ≤ 20 := by omega
    have HS := Lib.hid ((hrow.next hbox).strs (by omega))
    obtain ⟨hkl, _, hkids⟩ := may_parts hmay
    have HKL := Lib.hid hkl
    have HKIDS := Lib.hid hkids
    have hcut0 : Hid ((w.alloc (.cells #[.int .i64 x.op, .int .i64 x.n, .string x.nm, .slice ax x.ks.length cx] 24)).cell? ⟨w.heap.size, 3, none⟩ = some (.slice ax x.ks.length cx)) := Lib.hid (by simp [go_sem])
    rw [namesE_succ]
    clear ih hbox hk hrow hok hmay hkl hkids hlen
    unfold exV
    go_enter Try.func64, Try.ntmps64
    by_cases ho : x.op = 2
    · have b1 : (x.op == 2) = true := by simpa using ho
      have hn : ownN x l = addN x.nm l := by unfold ownN; rw [if_pos ho]
      clear ho
      have hfit2 : l.length ≤ 1073741822 := by have := room_len HLEN.out; have := HLEN.out; unfold Room at this; have h2 := Nat.one_le_two_pow (n := m); rw [Nat.pow_succ] at this; omega
      go_wp2_with fail
      refine (spoken_any B l _ x.nm _ HROW.out (by simp; omega) hfit2 HOK.out.nm).mono ?_
      rintro e w4 ⟨v4, rfl, hr4, hg4, ho4⟩
      obtain ⟨va4, n4, vc4, rfl, -⟩ := hr4.form
      have HR4 := Lib.hid hr4
      have HO4 := Lib.hid ho4
      have HG4 := Lib.hid hg4
      clear hr4 hg4 ho4
      go_upto_region 3 with fail
      refine cut_world (fun wx => RowS B wx (Value.slice va4 n4 vc4) (ownN x l) ∧ (w.alloc (.cells #[.int .i64 x.op, .int .i64 x.n, .string x.nm, .slice ax x.ks.length cx] 24)).grownBy wx (Value.slice va l.length vc).ownBlock ∧ (∀ g, (Value.slice va4 n4 vc4).ownBlock = some g → (Value.slice va l.length vc).ownBlock = some g ∨ (w.alloc (.cells #[.int .i64 x.op, .int .i64 x.n, .string x.nm, .slice ax x.ks.length cx] 24)).heap.size ≤ g) ∧ wx.cell? ⟨w.heap.size, 3, none⟩ = some (.slice ax x.ks.length cx)) ⟨by rw [hn]; exact HR4.out, HG4.out, HO4.out, by
              rw [HG4.out.cell_far ⟨w.heap.size, 3, none⟩ (by simp) (fun e => by have := (HROWX.out.lt _ e.symm).2; simp only at this; omega)]
              exact hcut0.out⟩ ?_
      rintro wx ⟨hr1, hg1, ho1, hc3⟩
      have HR1 := Lib.hid hr1
      have HG1 := Lib.hid hg1
      have HO1 := Lib.hid ho1
      clear hr1 hg1 ho1 hn
      have hgs := HG1.out.size
      have hW1s : (w.alloc (.cells #[.int .i64 x.op, .int .i64 x.n, .string x.nm, .slice ax x.ks.length cx] 24)).heap.size = w.heap.size + 1 := by simp
      go_wp2_with fail
      go_loopw [16, 1] (fun i s1 wr => ∃ (k : Nat) (vr : Value), k ≤ x.ks.length ∧ i = .int .i64 k ∧ s1 = vr ∧ RowS B wr vr ((x.ks.take k).foldl (fun l k => namesE m k l) (ownN x l)) ∧ (w.alloc (.cells #[.int .i64 x.op, .int .i64 x.n, .string x.nm, .slice ax x.ks.length cx] 24)).grownBy wr (Value.slice va l.length vc).ownBlock ∧ (∀ g, vr.ownBlock = some g → (Value.slice va l.length vc).ownBlock = some g ∨ (w.alloc (.cells #[.int .i64 x.op, .int .i64 x.n, .string x.nm, .slice ax x.ks.length cx] 24)).heap.size ≤ g) ∧ wr.cell? ⟨w.heap.size, 3, none⟩ = some (.slice ax x.ks.length cx)) (fun i _ _ => (x.ks.length - intOf i).toNat)
      case atStart => exact ⟨0, _, by omega, rfl, rfl, HR1.out, HG1.out, HO1.out, hc3⟩
      case round =>
        obtain ⟨k, vr, hk, rfl, rfl, hr2, hg2, ho2, hc4⟩ := hrel
        have HR2 := Lib.hid hr2
        have HG2 := Lib.hid hg2
        have HO2 := Lib.hid ho2
        have HC4 := Lib.hid hc4
        have hkr := ExC.mono (low_grown hg2 fun g hg => (HROW.out.lt g hg).1) HK.out
        have hsz2 := hg2.size
        obtain ⟨va2, n2, vc2, rfl, -⟩ := hr2.form
        clear hr2 hg2 ho2 hc3
        by_cases hlt : k < x.ks.length
        · have hlt' : (k : Int) < (x.ks.length : Int) := by omega
          have h0k : (0 : Int) ≤ (k : Int) := by omega
          have hne : x.ks ≠ [] := by intro h; rw [h] at hlt; simp at hlt
          obtain ⟨g, off, cap', hv, _, hcells⟩ := SlAt.cells (show SlAt 4 (ExAt (lowC B wr) (ExC (lowC B wr) d)) (.slice ax x.ks.length cx) x.ks from hkr) hne
          simp only [Value.slice.injEq] at hv
          obtain ⟨rfl, -, rfl⟩ := hv
          obtain ⟨ku, c0, c1, c2, c3, hok2, hku⟩ := hcells k hlt
          have hkm := HKIDS.out _ (List.getElem_mem hlt)
          obtain ⟨xk, hxk⟩ : ∃ xk, Hid (x.ks[k] = xk) := ⟨_, Lib.hid rfl⟩
          rw [hxk.out] at c0 c1 c2 hok2 hku hkm
          obtain ⟨au, cu, rfl, -, -⟩ := hku.form
          have hgB := c0.1
          have d0 : wr.cell? ⟨g, off + k * 4, none⟩ = _ := c0.2
          have d1 : wr.cell? ⟨g, off + k * 4 + 1, none⟩ = _ := c1.2
          have d2 : wr.cell? ⟨g, off + k * 4 + 2, none⟩ = _ := c2.2
          have d3 : wr.cell? ⟨g, off + k * 4 + 3, none⟩ = _ := c3.2
          have HKU := Lib.hid hku
          have HOK2 := Lib.hid hok2
          have hmid := names_mid (l := l) HMAY.out hlt
          have HMID := Lib.hid hmid
          have HKM := Lib.hid hkm
          clear c0 c1 c2 c3 hcells hku hok2 hkr hne hmid hkm
          go_wp2_with fail
          obtain ⟨lk, hlk⟩ : ∃ lk, Hid ((x.ks.take k).foldl (fun l k => namesE m k l) (ownN x l) = lk) := ⟨_, Lib.hid rfl⟩
          rw [hlk.out] at HR2 HMID
          have hbnd : Room lk m := Nat.le_trans HMID.out HLEN.out
          have hBs : B ≤ wr.heap.size := by simp at hsz2 ⊢; omega
          refine (IH.out d xk (.slice au xk.ks.length cu) (.slice va2 n2 vc2) lk _ hm2 HKM.out HOK2.out HKU.out HR2.out hBs hbnd).mono ?_
          clear hbnd hBs
          rintro e w3 ⟨v3, rfl, hr3, hg3, ho3⟩
          obtain ⟨va3, n3, vc3, rfl, -⟩ := hr3.form
          have HR3 := Lib.hid hr3
          have HO3 := Lib.hid ho3
          have hbx := hsz2
          have hg4 : (w.alloc (.cells #[.int .i64 x.op, .int .i64 x.n, .string x.nm, .slice (some ⟨g, off, none⟩) x.ks.length cx] 24)).grownBy w3 (Value.slice va l.length vc).ownBlock := HG2.out.andThen (hg3) fun j hj => (HO2.out j hj).elim Or.inr Or.inl
          have hc5 : w3.cell? ⟨w.heap.size, 3, none⟩ = some (.slice (some ⟨g, off, none⟩) x.ks.length cx) := by
            rw [hg4.cell_far ⟨w.heap.size, 3, none⟩ (by simp) (fun e => by have := (HROWX.out.lt _ e.symm).2; simp only at this; omega)]
            exact hcut0.out
          have HG4 := Lib.hid hg4
          clear hr3 hg3 ho3 hbx hg4
          go_wp2_with fail
          go_roundw
          case rel =>
            refine ⟨k + 1, _, by omega, by go_num, rfl, ?_, HG4.out, fun q hq => ?_, hc5⟩
            · rw [List.take_succ_eq_append_getElem hlt, List.foldl_append, hlk.out, List.foldl_cons, List.foldl_nil, hxk.out]
              exact HR3.out
            · rcases HO3.out q hq with h | h
              · exact HO2.out q h
              · right
                simp only [World.size_alloc] at h hsz2 ⊢
                omega
          case measure => simp [intOf]; omega
        · have hlt' : ¬ (k : Int) < (x.ks.length : Int) := by omega
          have he : x.ks.take k = x.ks := List.take_of_length_le (by omega)
          rw [he] at HR2
          go_wp2_with fail
          go_ret
          refine ⟨_, rfl, HR2.out, (grown_of HBOX.out _).trans HG2.out, fun q hq => ?_⟩
          rcases HO2.out q hq with h | h
          · exact .inl h
          · right
            simp only [World.size_alloc] at h
            omega
    · have b1 : (x.op == 2) = false := by simpa using ho
      have hn : ownN x l = l := by unfold ownN; rw [if_neg ho]
      clear ho
      go_upto_region 3 with fail
      refine cut_world (fun wx => RowS B wx (Value.slice va l.length vc) (ownN x l) ∧ (w.alloc (.cells #[.int .i64 x.op, .int .i64 x.n, .string x.nm, .slice ax x.ks.length cx] 24)).grownBy wx (Value.slice va l.length vc).ownBlock ∧ (∀ g, (Value.slice va l.length vc).ownBlock = some g → (Value.slice va l.length vc).ownBlock = some g ∨ (w.alloc (.cells #[.int .i64 x.op, .int .i64 x.n, .string x.nm, .slice ax x.ks.length cx] 24)).heap.size ≤ g) ∧ wx.cell? ⟨w.heap.size, 3, none⟩ = some (.slice ax x.ks.length cx)) ⟨by rw [hn]; exact HROW.out, World.grownBy.refl _ _, fun g hg => .inl hg, hcut0.out⟩ ?_
      rintro wx ⟨hr1, hg1, ho1, hc3⟩
      have HR1 := Lib.hid hr1
      have HG1 := Lib.hid hg1
      have HO1 := Lib.hid ho1
      clear hr1 hg1 ho1 hn
      have hgs := HG1.out.size
      have hW1s : (w.alloc (.cells #[.int .i64 x.op, .int .i64 x.n, .string x.nm, .slice ax x.ks.length cx] 24)).heap.size = w.heap.size + 1 := by simp
      go_wp2_with fail
      go_loopw [16, 1] (fun i s1 wr => ∃ (k : Nat) (vr : Value), k ≤ x.ks.length ∧ i = .int .i64 k ∧ s1 = vr ∧ RowS B wr vr ((x.ks.take k).foldl (fun l k => namesE m k l) (ownN x l)) ∧ (w.alloc (.cells #[.int .i64 x.op, .int .i64 x.n, .string x.nm, .slice ax x.ks.length cx] 24)).grownBy wr (Value.slice va l.length vc).ownBlock ∧ (∀ g, vr.ownBlock = some g → (Value.slice va l.length vc).ownBlock = some g ∨ (w.alloc (.cells #[.int .i64 x.op, .int .i64 x.n, .string x.nm, .slice ax x.ks.length cx] 24)).heap.size ≤ g) ∧ wr.cell? ⟨w.heap.size, 3, none⟩ = some (.slice ax x.ks.length cx)) (fun i _ _ => (x.ks.length - intOf i).toNat)
      case atStart => exact ⟨0, _, by omega, rfl, rfl, HR1.out, HG1.out, HO1.out, hc3⟩
      case round =>
        obtain ⟨k, vr, hk, rfl, rfl, hr2, hg2, ho2, hc4⟩ := hrel
        have HR2 := Lib.hid hr2
        have HG2 := Lib.hid hg2
        have HO2 := Lib.hid ho2
        have HC4 := Lib.hid hc4
        have hkr := ExC.mono (low_grown hg2 fun g hg => (HROW.out.lt g hg).1) HK.out
        have hsz2 := hg2.size
        obtain ⟨va2, n2, vc2, rfl, -⟩ := hr2.form
        clear hr2 hg2 ho2 hc3
        by_cases hlt : k < x.ks.length
        · have hlt' : (k : Int) < (x.ks.length : Int) := by omega
          have h0k : (0 : Int) ≤ (k : Int) := by omega
          have hne : x.ks ≠ [] := by intro h; rw [h] at hlt; simp at hlt
          obtain ⟨g, off, cap', hv, _, hcells⟩ := SlAt.cells (show SlAt 4 (ExAt (lowC B wr) (ExC (lowC B wr) d)) (.slice ax x.ks.length cx) x.ks from hkr) hne
          simp only [Value.slice.injEq] at hv
          obtain ⟨rfl, -, rfl⟩ := hv
          obtain ⟨ku, c0, c1, c2, c3, hok2, hku⟩ := hcells k hlt
          have hkm := HKIDS.out _ (List.getElem_mem hlt)
          obtain ⟨xk, hxk⟩ : ∃ xk, Hid (x.ks[k] = xk) := ⟨_, Lib.hid rfl⟩
          rw [hxk.out] at c0 c1 c2 hok2 hku hkm
          obtain ⟨au, cu, rfl, -, -⟩ := hku.form
          have hgB := c0.1
          have d0 : wr.cell? ⟨g, off + k * 4, none⟩ = _ := c0.2
          have d1 : wr.cell? ⟨g, off + k * 4 + 1, none⟩ = _ := c1.2
          have d2 : wr.cell? ⟨g, off + k * 4 + 2, none⟩ = _ := c2.2
          have d3 : wr.cell? ⟨g, off + k * 4 + 3, none⟩ = _ := c3.2
          have HKU := Lib.hid hku
          have HOK2 := Lib.hid hok2
          have hmid := names_mid (l := l) HMAY.out hlt
          have HMID := Lib.hid hmid
          have HKM := Lib.hid hkm
          clear c0 c1 c2 c3 hcells hku hok2 hkr hne hmid hkm
          go_wp2_with fail
          obtain ⟨lk, hlk⟩ : ∃ lk, Hid ((x.ks.take k).foldl (fun l k => namesE m k l) (ownN x l) = lk) := ⟨_, Lib.hid rfl⟩
          rw [hlk.out] at HR2 HMID
          have hbnd : Room lk m := Nat.le_trans HMID.out HLEN.out
          have hBs : B ≤ wr.heap.size := by simp at hsz2 ⊢; omega
          refine (IH.out d xk (.slice au xk.ks.length cu) (.slice va2 n2 vc2) lk _ hm2 HKM.out HOK2.out HKU.out HR2.out hBs hbnd).mono ?_
          clear hbnd hBs
          rintro e w3 ⟨v3, rfl, hr3, hg3, ho3⟩
          obtain ⟨va3, n3, vc3, rfl, -⟩ := hr3.form
          have HR3 := Lib.hid hr3
          have HO3 := Lib.hid ho3
          have hbx := hsz2
          have hg4 : (w.alloc (.cells #[.int .i64 x.op, .int .i64 x.n, .string x.nm, .slice (some ⟨g, off, none⟩) x.ks.length cx] 24)).grownBy w3 (Value.slice va l.length vc).ownBlock := HG2.out.andThen (hg3) fun j hj => (HO2.out j hj).elim Or.inr Or.inl
          have hc5 : w3.cell? ⟨w.heap.size, 3, none⟩ = some (.slice (some ⟨g, off, none⟩) x.ks.length cx) := by
            rw [hg4.cell_far ⟨w.heap.size, 3, none⟩ (by simp) (fun e => by have := (HROWX.out.lt _ e.symm).2; simp only at this; omega)]
            exact hcut0.out
          have HG4 := Lib.hid hg4
          clear hr3 hg3 ho3 hbx hg4
          go_wp2_with fail
          go_roundw
          case rel =>
            refine ⟨k + 1, _, by omega, by go_num, rfl, ?_, HG4.out, fun q hq => ?_, hc5⟩
            · rw [List.take_succ_eq_append_getElem hlt, List.foldl_append, hlk.out, List.foldl_cons, List.foldl_nil, hxk.out]
              exact HR3.out
            · rcases HO3.out q hq with h | h
              · exact HO2.out q h
              · right
                simp only [World.size_alloc] at h hsz2 ⊢
                omega
          case measure => simp [intOf]; omega
        · have hlt' : ¬ (k : Int) < (x.ks.length : Int) := by omega
          have he : x.ks.take k = x.ks := List.take_of_length_le (by omega)
          rw [he] at HR2
          go_wp2_with fail
          go_ret
          refine ⟨_, rfl, HR2.out, (grown_of HBOX.out _).trans HG2.out, fun q hq => ?_⟩
          rcases HO2.out q hq with h | h
          · exact .inl h
          · right
            simp only [World.size_alloc] at h
            omega
end Go.Proofs.Ytnbclbphggmenaa.Tr
