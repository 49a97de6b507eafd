/- append of a whole slice, whatever it is, onto a new row. Conditions: none. -/
import Derived.Test.YtnbclbphggmenaaAcc
import Derived.Deep.Upon
import Derived.Maps.AppendAt
import Derived.Laws.OwnMore
import Derived.Test.YtnbclbphggmenaaGathP
namespace Go.Proofs.Ytnbclbphggmenaa.Tr
open Go.RowKit Go.Proofs.Ytnbclbphggmenaa.Lx Go.Proofs.Ytnbclbphggmenaa.Wd
section
variable {P : Program} (w : World)
theorem run_append_sl (t ty : TypeId) (base : Nat) (e : TypeId) (i : TypeInfo) (z : Value) (size bytes : Nat) (ht : P.underlying t = some (.slice e)) (hi : P.info? e = some i) (hz : i.zero = some z)
    (hsize : i.size = size) (hby : i.bytes = bytes) (hzs : z.cells.size = size) (hsz : 0 < size)
    (v : Value) (n : Nat) (xs : List Value) (hown : w.ownsRow base e size v n xs)
    (ax : Option Addr) (m c : Nat) (news : List Value) (hn0 : ax = none → m = 0) (hl : news.length = m * size) (hnews : ∀ ad, ax = some ad → ∀ j u, news[j]? = some u → w.cell? (ad.add j) = some u) (h1 : ∀ u ∈ news, u.oneCell' = true)
    (h63 : n + m ≤ maxLen) (hbytes : (n + m) * bytes ≤ 140737488355328) (hbase : base ≤ w.heap.size) :
    ∃ v' w', (Builtin.append_ #[t, t] ty #[v, .slice ax m c]).run P w = .ok v' w' ∧ w'.ownsRow base e size v' (n + m) (xs ++ news) ∧ w.grownBy w' v.ownBlock ∧ (∀ g, v'.ownBlock = some g → v.ownBlock = some g ∨ w.heap.size ≤ g) := by
  cases ax with
  | none =>
    have hm := hn0 rfl
    subst hm
    have hnil : news = [] := List.eq_nil_of_length_eq_zero (by omega)
    subst hnil
    have hform : ∃ b cap, v = .slice b n cap ∧ n ≤ cap := by
      rcases hown.2 with ⟨rfl, rfl⟩ | ⟨g, cap, _, rfl, _, _, h, _⟩
      · exact ⟨_, _, rfl, Nat.le_refl _⟩
      · exact ⟨_, _, rfl, h⟩
    obtain ⟨b, cap, rfl, hle⟩ := hform
    refine ⟨_, _, Go.run_append_nothing w t t ty e i ht hi b n cap hle (.slice none 0 c) (Src.ofNil w ht c), ?_, ?_, ?_⟩
    · simpa using hown
    · exact ⟨rfl, rfl, rfl, Nat.le_refl _, fun _ _ _ => rfl⟩
    · exact fun g hg => .inl hg
  | some ad =>
    obtain ⟨v', w', hr, h2, h3, _, h5⟩ := run_append_own_at (P := P) w base t ty e i z size bytes ht hi hz hsize hby hzs hsz v n xs hown ad m c news hl (hnews ad rfl) h1 h63 hbytes hbase
    refine ⟨v', w', hr, h2, h3, fun g hg => ?_⟩
    rcases h5 with h5 | h5
    · left; rw [← h5]; exact hg
    · right; rw [h5] at hg; cases hg; exact Nat.le_refl _
theorem wpList_append_sl {ops : Array Oper} {rest : List Oper} {o : Oper} {a : Act} {Q : Exit → Act → World → Prop} (hgd : o.guard = none) (s x : Operand) (t : TypeId)
    (ho : o.op = .call { callee := .builtin .append, args := #[s, x], argTypes := #[t, t] })
    (base : Nat) (e : TypeId) (i : TypeInfo) (z : Value) (size bytes : Nat) (ht : P.underlying t = some (.slice e)) (hi : P.info? e = some i) (hz : i.zero = some z)
    (hsize : i.size = size) (hby : i.bytes = bytes) (hzs : z.cells.size = size) (hsz : 0 < size)
    (v : Value) (n : Nat) (xs : List Value) (hs : a.eval s = v) (hown : w.ownsRow base e size v n xs)
    (ax : Option Addr) (m c : Nat) (news : List Value) (hx : a.eval x = .slice ax m c) (hn0 : ax = none → m = 0) (hl : news.length = m * size) (hnews : ∀ ad, ax = some ad → ∀ j u, news[j]? = some u → w.cell? (ad.add j) = some u) (h1 : ∀ u ∈ news, u.oneCell' = true)
    (h63 : n + m ≤ maxLen) (hbytes : (n + m) * bytes ≤ 140737488355328) (hbase : base ≤ w.heap.size)
    (h : ∀ v' w', w'.ownsRow base e size v' (n + m) (xs ++ news) → w.grownBy w' v.ownBlock → (∀ g, v'.ownBlock = some g → v.ownBlock = some g ∨ w.heap.size ≤ g) → wpList P ops Q rest (a.put o.dst v') w') : wpList P ops Q (o :: rest) a w :=
  wpList_plain hgd fun _ hK => by
    obtain ⟨v', w', hr, h2, h3, h4⟩ := run_append_sl (P := P) w t o.type base e i z size bytes ht hi hz hsize hby hzs hsz v n xs hown ax m c news hn0 hl hnews h1 h63 hbytes hbase
    unfold Oper.wp execOp
    simp only [ho, resolve, invoke, builtin, Sem.run_bind, Sem.run_pure, Result.andThen_ok, List.map_toArray, List.map_cons, List.map_nil, hs, hx, hr]
    exact hK _ _ (h v' w' h2 h3 h4)
theorem step_append_sl {ops : Array Oper} {o : Oper} {a : Act} {K : Act → World → Prop} {Q : Exit → Act → World → Prop} {E : Prop} (hgd : o.guard = none) (s x : Operand) (t : TypeId)
    (ho : o.op = .call { callee := .builtin .append, args := #[s, x], argTypes := #[t, t] })
    (base : Nat) (e : TypeId) (i : TypeInfo) (z : Value) (size bytes : Nat) (ht : P.underlying t = some (.slice e)) (hi : P.info? e = some i) (hz : i.zero = some z)
    (hsize : i.size = size) (hby : i.bytes = bytes) (hzs : z.cells.size = size) (hsz : 0 < size)
    (v : Value) (n : Nat) (xs : List Value) (hs : a.eval s = v) (hown : w.ownsRow base e size v n xs)
    (ax : Option Addr) (m c : Nat) (news : List Value) (hx : a.eval x = .slice ax m c) (hn0 : ax = none → m = 0) (hl : news.length = m * size) (hnews : ∀ ad, ax = some ad → ∀ j u, news[j]? = some u → w.cell? (ad.add j) = some u) (h1 : ∀ u ∈ news, u.oneCell' = true)
    (h63 : n + m ≤ maxLen) (hbytes : (n + m) * bytes ≤ 140737488355328) (hbase : base ≤ w.heap.size)
    (h : ∀ va vc w', w'.ownsRow base e size (.slice va (n + m) vc) (n + m) (xs ++ news) → w.grownBy w' v.ownBlock → (∀ g, (Value.slice va (n + m) vc).ownBlock = some g → v.ownBlock = some g ∨ w.heap.size ≤ g) → K (a.put o.dst (.slice va (n + m) vc)) w') :
    if Region.wanted o (yielded ops a.tmps) = true then Oper.wp P o a w K Q else E := by
  have hw : Region.wanted o (yielded ops a.tmps) = true := by simp [Region.wanted, hgd]
  rw [if_pos hw]
  obtain ⟨v', w', hr, h2, h3, h4⟩ := run_append_sl (P := P) w t o.type base e i z size bytes ht hi hz hsize hby hzs hsz v n xs hown ax m c news hn0 hl hnews h1 h63 hbytes hbase
  obtain ⟨va, vc, rfl⟩ := ownsForm h2
  unfold Oper.wp execOp
  simp only [ho, resolve, invoke, builtin, Sem.run_bind, Sem.run_pure, Result.andThen_ok, List.map_toArray, List.map_cons, List.map_nil, hs, hx, hr]
  exact h va vc w' h2 h3 h4
theorem str_all (l : List ByteArray) : ∀ u ∈ l.map Value.string, u.oneCell' = true := fun u hu => by
  obtain ⟨s, _, rfl⟩ := List.mem_map.1 hu
  rfl
theorem int_all (l : List Int) : ∀ u ∈ l.map (Value.int .i64), u.oneCell' = true := fun u hu => by
  obtain ⟨s, _, rfl⟩ := List.mem_map.1 hu
  rfl
end
/-- What is read of a list of texts, of numbers, for an append. -/
theorem StrsAt.news {w : World} {a : Option Addr} {n c : Nat} {l : List ByteArray} (h : StrsAt w (.slice a n c) l) : n = l.length ∧ (a = none → n = 0) ∧ (∀ ad, a = some ad → ∀ j u, (l.map Value.string)[j]? = some u → w.cell? (ad.add j) = some u) := by
  obtain ⟨a', cap, h1, h2, h3, h4⟩ := h
  simp only [Value.slice.injEq] at h1
  obtain ⟨rfl, rfl, rfl⟩ := h1
  refine ⟨rfl, fun ha => ?_, fun ad had j u hu => ?_⟩
  · by_cases hne : l = []
    · rw [hne]; rfl
    · obtain ⟨g, off, h5, _⟩ := h4 hne
      rw [ha] at h5; cases h5
  · rw [List.getElem?_map] at hu
    cases hq : l[j]? with
    | none => rw [hq] at hu; cases hu
    | some q =>
      rw [hq] at hu
      obtain ⟨hj, rfl⟩ := List.getElem?_eq_some_iff.1 hq
      have hne : l ≠ [] := by intro e; rw [e] at hj; cases hj
      obtain ⟨g, off, h5, h6⟩ := h4 hne
      rw [had] at h5
      cases h5
      rw [Addr.add_lit]
      cases hu
      exact (h6 j hj).2
theorem IntsAt.news {w : World} {a : Option Addr} {n c : Nat} {l : List Int} (h : IntsAt w (.slice a n c) l) : n = l.length ∧ (a = none → n = 0) ∧ (∀ ad, a = some ad → ∀ j u, (l.map (Value.int .i64))[j]? = some u → w.cell? (ad.add j) = some u) := by
  obtain ⟨a', cap, h1, h2, h3, h4⟩ := h
  simp only [Value.slice.injEq] at h1
  obtain ⟨rfl, rfl, rfl⟩ := h1
  refine ⟨rfl, fun ha => ?_, fun ad had j u hu => ?_⟩
  · by_cases hne : l = []
    · rw [hne]; rfl
    · obtain ⟨g, off, h5, _⟩ := h4 hne
      rw [ha] at h5; cases h5
  · rw [List.getElem?_map] at hu
    cases hq : l[j]? with
    | none => rw [hq] at hu; cases hu
    | some q =>
      rw [hq] at hu
      obtain ⟨hj, rfl⟩ := List.getElem?_eq_some_iff.1 hq
      have hne : l ≠ [] := by intro e; rw [e] at hj; cases hj
      obtain ⟨g, off, h5, h6⟩ := h4 hne
      rw [had] at h5
      cases h5
      rw [Addr.add_lit]
      cases hu
      exact (h6 j hj).2
theorem StrsAt.all {w : World} {v : Value} {l : List ByteArray} (h : StrsAt w v l) : Fine l := by
  obtain ⟨a, cap, _, _, _, h4⟩ := h
  intro s hs
  obtain ⟨g, off, _, h6⟩ := h4 (List.ne_nil_of_mem hs)
  obtain ⟨j, hj, rfl⟩ := List.getElem_of_mem hs
  exact (h6 j hj).1
/-- A new row of numbers. -/
def RowI (B : Nat) (w : World) (v : Value) (l : List Int) : Prop := w.ownsRow B 2 1 v l.length (l.map (Value.int .i64)) ∧ ∀ n ∈ l, InI n
theorem RowI.ints {B : Nat} {w : World} {v : Value} {l : List Int} (h : RowI B w v l) (hl : l.length ≤ 9223372036854775807) : IntsAt w v l := by
  have hown := h.1
  rcases h.1.2 with ⟨hv, hn⟩ | ⟨g, cap, cur, hv, h1, h2, h3, h4, h5, h6⟩
  · have : l = [] := List.eq_nil_of_length_eq_zero hn
    subst this
    exact ⟨none, 0, hv, Nat.le_refl _, by omega, fun h => absurd rfl h⟩
  · refine ⟨_, cap, hv, h3, h4, fun hne => ⟨g, 0, rfl, fun i hi => ⟨h.2 _ (List.getElem_mem hi), ?_⟩⟩⟩
    have := hown.cells (g := g) (by rw [hv]; rfl) i (.int .i64 l[i]) (by simp [List.getElem?_eq_getElem hi])
    rw [Addr.add_lit, Nat.zero_add] at this
    rw [Nat.zero_add]
    exact this
theorem ints_owned {w : World} {B n : Nat} {v : Value} {l : List Int} (h : w.ownsRow B 2 1 v n (l.map (Value.int .i64))) (hn : n = l.length) (hm : n ≤ 9223372036854775807) (hs : ∀ n ∈ l, InI n) : IntsAt w v l := by
  subst hn
  exact RowI.ints ⟨h, hs⟩ hm
theorem RowI.next {B : Nat} {w w' : World} {v : Value} {l : List Int} (h : RowI B w v l) (hb : Below w.heap.size w w') : RowI B w' v l := ⟨ownsBelow h.1 hb, h.2⟩
theorem RowI.form {B : Nat} {w : World} {v : Value} {l : List Int} (h : RowI B w v l) : ∃ a n c, v = .slice a n c ∧ n = l.length := by
  obtain ⟨a, c, h⟩ := ownsForm h.1
  exact ⟨a, _, c, h, rfl⟩
theorem lit2 {w10 w4 : World} {s : ByteArray} {n : Int}
  (hg4 : ((w10.alloc (Obj.cells #[Value.string s] 9)).alloc (Obj.cells #[Value.int IntKind.i64 n] 2)).drew.grownBy w4
    (Value.slice (some { block := w10.heap.size, off := 0 }) 1 1).ownBlock) :
  w4.ownsRow w10.heap.size 2 1 (Value.slice (some { block := w10.heap.size + 1, off := 0 }) 1 1) 1 [Value.int IntKind.i64 n] := by
  have h := World.ownsRow_lit (e := 2) (base := w10.heap.size) (size := 1) (w10.alloc (.cells #[.string s] 9)) #[.int .i64 n] 1 (by simp) (by decide) rfl
  simp only [World.size_alloc] at h
  exact World.ownsRow.kept (w := ((w10.alloc (.cells #[.string s] 9)).alloc (.cells #[.int .i64 n] 2)).drew) h hg4 (.inr (by simp [Value.ownBlock]))
theorem lit3 {w10 w4 : World} {s : ByteArray} {n : Int}
  (hg4 : ((w10.alloc (Obj.cells #[Value.int IntKind.i64 n] 2)).alloc (Obj.cells #[Value.string s] 9)).drew.grownBy w4
    (Value.slice (some { block := w10.heap.size + 1, off := 0 }) 1 1).ownBlock) :
  w4.ownsRow w10.heap.size 2 1 (Value.slice (some { block := w10.heap.size, off := 0 }) 1 1) 1 [Value.int IntKind.i64 n] :=
  World.ownsRow.kept (w := ((w10.alloc (.cells #[.int .i64 n] 2)).alloc (.cells #[.string s] 9)).drew) ((World.ownsRow_lit w10 #[.int .i64 n] 1 (Nat.le_refl _) (by decide) rfl).alloc _) hg4 (.inr (by simp [Value.ownBlock]))
end Go.Proofs.Ytnbclbphggmenaa.Tr
