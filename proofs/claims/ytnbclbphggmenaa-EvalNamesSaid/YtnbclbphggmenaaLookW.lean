/- What slices.Index at texts and the reference's look compute. Conditions: the slices lie in memory. -/
import Derived.Test.YtnbclbphggmenaaMayB
namespace Go.Proofs.Ytnbclbphggmenaa.Tr
open Go.RowKit Go.Proofs.Ytnbclbphggmenaa.Lx Go.Proofs.Ytnbclbphggmenaa.Wd
theorem at_some {s : ByteArray} {ns : List ByteArray} {k : Nat} (h : k < ns.length) (hk : (s.toList == ns[k].toList) = true) (hb : ∀ j (hj : j < k), (s.toList == ns[j].toList) = false) : at_ s ns = some k := by
  unfold at_
  rw [List.findIdx?_eq_some_iff_getElem]
  exact ⟨h, hk, fun j hj => by rw [hb j hj]; simp⟩
theorem at_none {s : ByteArray} {ns : List ByteArray} (h : ∀ j (hj : j < ns.length), (s.toList == ns[j].toList) = false) : at_ s ns = none := by
  unfold at_
  rw [List.findIdx?_eq_none_iff]
  intro m hm
  obtain ⟨j, hj, rfl⟩ := List.getElem_of_mem hm
  exact h j hj
theorem at_lt {s : ByteArray} {ns : List ByteArray} {k : Nat} (h : at_ s ns = some k) : k < ns.length := by
  unfold at_ at h
  rw [List.findIdx?_eq_some_iff_getElem] at h
  exact h.1
/-- Where it stands, as Index tells it. -/
def atI (s : ByteArray) (ns : List ByteArray) : Int := match at_ s ns with
  | some i => i
  | none => -1
theorem StrsAt.form {w : World} {v : Value} {l : List ByteArray} (h : StrsAt w v l) : ∃ a cap, v = .slice a l.length cap ∧ l.length ≤ cap ∧ cap ≤ 9223372036854775807 := by
  obtain ⟨a, cap, h1, h2, h3, _⟩ := h
  exact ⟨a, cap, h1, h2, h3⟩
theorem IntsAt.form {w : World} {v : Value} {l : List Int} (h : IntsAt w v l) : ∃ a cap, v = .slice a l.length cap ∧ l.length ≤ cap ∧ cap ≤ 9223372036854775807 := by
  obtain ⟨a, cap, h1, h2, h3, _⟩ := h
  exact ⟨a, cap, h1, h2, h3⟩
theorem StrsAt.cells {w : World} {v : Value} {l : List ByteArray} (h : StrsAt w v l) (hne : l ≠ []) : ∃ g off cap, v = .slice (some ⟨g, off, none⟩) l.length cap ∧ ∀ i (h : i < l.length), l[i].size ≤ 9223372036854775807 ∧ w.cell? ⟨g, off + i, none⟩ = some (.string l[i]) := by
  obtain ⟨a, cap, h1, h2, h3, h4⟩ := h
  obtain ⟨g, off, rfl, h6⟩ := h4 hne
  exact ⟨g, off, cap, h1, h6⟩
theorem IntsAt.cells {w : World} {v : Value} {l : List Int} (h : IntsAt w v l) (hne : l ≠ []) : ∃ g off cap, v = .slice (some ⟨g, off, none⟩) l.length cap ∧ ∀ i (h : i < l.length), InI l[i] ∧ w.cell? ⟨g, off + i, none⟩ = some (.int .i64 l[i]) := by
  obtain ⟨a, cap, h1, h2, h3, h4⟩ := h
  obtain ⟨g, off, rfl, h6⟩ := h4 hne
  exact ⟨g, off, cap, h1, h6⟩
theorem ret_i {k : IntKind} {a b : Int} (h : a = b) : Ending.returned (.int k a) = .returned (.int k b) := by rw [h]
set_option maxHeartbeats 1000000 in
theorem index_any (ns : List ByteArray) (nv : Value) (s : ByteArray) (w : World) (hn : StrsAt w nv ns) :
    Calls Try.prog 93 #[nv, .string s] w fun e w' => e = .returned (.int .i64 (atI s ns)) ∧ w = w' := by
  obtain ⟨a, cap, rfl, hc1, hc2⟩ := hn.form
  have HN := Lib.hid hn
  clear hn
  go_enter Try.func93, Try.ntmps93
  go_wp2_with fail
  go_loop [8] (fun i => ∃ k : Nat, k ≤ ns.length ∧ i = .int .i64 k ∧ ∀ j (hj : j < ns.length), j < k → (s.toList == ns[j].toList) = false) (fun i => (ns.length - intOf i).toNat)
  case atStart => exact ⟨0, by omega, rfl, fun j _ h => absurd h (by omega)⟩
  case round =>
    obtain ⟨k, hk, rfl, hno⟩ := hrel
    have HNO := Lib.hid hno
    clear hno
    by_cases hlt : k < ns.length
    · have hlt' : (k : Int) < (ns.length : Int) := by omega
      have hne : ns ≠ [] := by intro h; rw [h] at hlt; simp at hlt
      obtain ⟨g, off, cap', hv, hcells⟩ := HN.out.cells hne
      simp only [Value.slice.injEq] at hv
      obtain ⟨rfl, -, rfl⟩ := hv
      obtain ⟨-, c0⟩ := hcells k hlt
      clear hcells hne
      cases hq : (s.toList == ns[k].toList) with
      | true =>
        have HQ := Lib.hid hq
        obtain ⟨m, hm⟩ : ∃ m, Hid (ns[k] = m) := ⟨_, Lib.hid rfl⟩
        rw [hm.out] at hq c0
        go_wp2_with fail
        go_ret
        refine ⟨ret_i ?_, rfl⟩
        unfold atI
        rw [at_some hlt HQ.out (fun j hj => HNO.out j (by omega) hj)]
      | false =>
        have HQ := Lib.hid hq
        obtain ⟨m, hm⟩ : ∃ m, Hid (ns[k] = m) := ⟨_, Lib.hid rfl⟩
        rw [hm.out] at hq c0
        go_wp2_with fail
        go_round
        case rel =>
          refine ⟨k + 1, by omega, by go_num, fun j hj hjk => ?_⟩
          rcases Nat.lt_or_ge j k with h | h
          · exact HNO.out j hj h
          · obtain rfl : j = k := by omega
            exact HQ.out
        case measure => simp [intOf]; omega
    · have hlt' : ¬ (k : Int) < (ns.length : Int) := by omega
      go_wp2_with fail
      go_ret
      refine ⟨ret_i ?_, rfl⟩
      unfold atI
      rw [at_none (fun j hj => HNO.out j hj (by omega))]
set_option maxHeartbeats 1000000 in
theorem look_any (ns : List ByteArray) (nv : Value) (vs : List Int) (vv : Value) (s : ByteArray) (w : World) (hn : StrsAt w nv ns) (hv : IntsAt w vv vs) :
    Calls Try.prog 96 #[.string s, nv, vv] w fun e w' => e = .returned (.int .i64 (look s ns vs)) ∧ w = w' := by
  obtain ⟨a, cap, rfl, hc1, hc2⟩ := hn.form
  obtain ⟨va, vcap, rfl, vc1, vc2⟩ := hv.form
  have HN := Lib.hid hn
  have HV := Lib.hid hv
  clear hn hv
  go_enter Try.func96, Try.ntmps96
  go_wp2_with fail
  go_loop [10] (fun i => ∃ k : Nat, k ≤ ns.length ∧ i = .int .i64 k ∧ ∀ j (hj : j < ns.length), j < k → (s.toList == ns[j].toList) = false) (fun i => (ns.length - intOf i).toNat)
  case atStart => exact ⟨0, by omega, rfl, fun j _ h => absurd h (by omega)⟩
  case round =>
    obtain ⟨k, hk, rfl, hno⟩ := hrel
    have HNO := Lib.hid hno
    clear hno
    by_cases hlt : k < ns.length
    · have hlt' : (k : Int) < (ns.length : Int) := by omega
      have hne : ns ≠ [] := by intro h; rw [h] at hlt; simp at hlt
      obtain ⟨g, off, cap', hv, hcells⟩ := HN.out.cells hne
      simp only [Value.slice.injEq] at hv
      obtain ⟨rfl, -, rfl⟩ := hv
      obtain ⟨-, c0⟩ := hcells k hlt
      clear hcells hne
      cases hq : (s.toList == ns[k].toList) with
      | true =>
        have HAT := Lib.hid (at_some hlt hq (fun j hj => HNO.out j (by omega) hj))
        have hq2 : (ns[k].toList == s.toList) = true := by rw [beq_iff_eq] at hq ⊢; exact hq.symm
        obtain ⟨m, hm⟩ : ∃ m, Hid (ns[k] = m) := ⟨_, Lib.hid rfl⟩
        rw [hm.out] at hq2 c0
        clear hq
        by_cases hvl : k < vs.length
        · have hvl' : (k : Int) < (vs.length : Int) := by omega
          have hvne : vs ≠ [] := by intro h; rw [h] at hvl; simp at hvl
          obtain ⟨g2, off2, cap2, hv, hcells⟩ := HV.out.cells hvne
          simp only [Value.slice.injEq] at hv
          obtain ⟨rfl, -, rfl⟩ := hv
          obtain ⟨-, d0⟩ := hcells k hvl
          clear hcells hvne
          have hlk : look s ns vs = vs[k] := by unfold look; rw [HAT.out]; simp [List.getD, List.getElem?_eq_getElem hvl]
          have HLK := Lib.hid hlk
          obtain ⟨y, hy⟩ : ∃ y, Hid (vs[k] = y) := ⟨_, Lib.hid rfl⟩
          rw [hy.out] at d0
          clear hlk
          go_wp2_with fail
          go_ret
          exact ⟨ret_i (by rw [HLK.out, hy.out]), rfl⟩
        · have hvl' : ¬ (k : Int) < (vs.length : Int) := by omega
          have hlk : look s ns vs = 0 := by unfold look; rw [HAT.out]; simp [List.getD, List.getElem?_eq_none (show vs.length ≤ k by omega)]
          have HLK := Lib.hid hlk
          clear hlk
          go_wp2_with fail
          go_ret
          exact ⟨ret_i HLK.out.symm, rfl⟩
      | false =>
        have HQ := Lib.hid hq
        have hq2 : (ns[k].toList == s.toList) = false := by cases h : (ns[k].toList == s.toList) with
          | false => rfl
          | true => rw [beq_iff_eq] at h; rw [h] at hq; simp at hq
        obtain ⟨m, hm⟩ : ∃ m, Hid (ns[k] = m) := ⟨_, Lib.hid rfl⟩
        rw [hm.out] at hq2 c0
        clear hq
        go_wp2_with fail
        go_round
        case rel =>
          refine ⟨k + 1, by omega, by go_num, fun j hj hjk => ?_⟩
          rcases Nat.lt_or_ge j k with h | h
          · exact HNO.out j hj h
          · obtain rfl : j = k := by omega
            exact HQ.out
        case measure => simp [intOf]; omega
    · have hlt' : ¬ (k : Int) < (ns.length : Int) := by omega
      have hlk : look s ns vs = 0 := by unfold look; rw [at_none (fun j hj => HNO.out j hj (by omega))]
      have HLK := Lib.hid hlk
      clear hlk
      go_wp2_with fail
      go_ret
      exact ⟨ret_i HLK.out.symm, rfl⟩
end Go.Proofs.Ytnbclbphggmenaa.Tr
