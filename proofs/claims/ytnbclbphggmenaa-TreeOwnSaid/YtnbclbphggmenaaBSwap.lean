/- Plain laws: names changed in an expression. No program. Conditions: none.
   What other, SwapTexts of the reference compute. Conditions: the slices lie in memory.
   A new row of things that is grown by append, each with what hangs on it; how it lies in memory at last. Conditions: none.
   What SwapExpr of the reference makes: a new expression. Conditions: the expression lies in memory, no row of kids is long. -/
import Derived.Test.YtnbclbphggmenaaBEval
import Derived.Test.YtnbclbphggmenaaBTr
import Derived.OwnWalk
import Derived.Test.YtnbclbphggmenaaSomeW
import Derived.OneCell
import Derived.Deep.AppendLies
import Derived.Deep.RegionLaw
import Derived.Deep.DeepCutAuto
import Derived.Deep.RegionHeld3
section
namespace Go.Proofs.Ytnbclbphggmenaa.Tr
open Go.RowKit Go.Proofs.Ytnbclbphggmenaa.Lx Go.Proofs.Ytnbclbphggmenaa.Wd
/-- Of two names the other one. -/
def other (a b s : ByteArray) : ByteArray := if (s.toList == a.toList) = true then b else if (s.toList == b.toList) = true then a else s
mutual
/-- Each name changed. -/
def mapE (f : ByteArray → ByteArray) : Ex → Ex
  | .mk op n nm ks => .mk op n (f nm) (mapL f ks)
def mapL (f : ByteArray → ByteArray) : List Ex → List Ex
  | [] => []
  | x :: xs => mapE f x :: mapL f xs
end
theorem mapL_eq (f : ByteArray → ByteArray) : ∀ l : List Ex, mapL f l = l.map (mapE f) := by
  intro l
  induction l with
  | nil => rfl
  | cons x xs ih => simp only [mapL, List.map_cons, ih]
theorem mapE_eq (f : ByteArray → ByteArray) (x : Ex) : mapE f x = .mk x.op x.n (f x.nm) (x.ks.map (mapE f)) := by
  cases x with
  | mk op n nm ks => simp only [mapE, mapL_eq, Ex.op, Ex.n, Ex.nm, Ex.ks]
theorem mapE_op (f : ByteArray → ByteArray) (x : Ex) : (mapE f x).op = x.op := by rw [mapE_eq]; rfl
theorem mapE_n (f : ByteArray → ByteArray) (x : Ex) : (mapE f x).n = x.n := by rw [mapE_eq]; rfl
theorem mapE_nm (f : ByteArray → ByteArray) (x : Ex) : (mapE f x).nm = f x.nm := by rw [mapE_eq]; rfl
theorem mapE_ks (f : ByteArray → ByteArray) (x : Ex) : (mapE f x).ks = x.ks.map (mapE f) := by rw [mapE_eq]; rfl
/-- No row of kids is long. -/
def lim : Nat → List Ex → Prop
  | 0, _ => True
  | d + 1, ks => ks.length ≤ 20000 ∧ ∀ k ∈ ks, lim d k.ks
theorem may_lim : ∀ (l : Nat) (x : Ex), mayE l x = true → ∀ d, lim d x.ks := by
  intro l
  induction l with
  | zero => intro x h; cases h
  | succ l ih =>
    intro x h d
    obtain ⟨h1, h2, h3⟩ := may_parts h
    cases d with
    | zero => trivial
    | succ d =>
      refine ⟨?_, fun k hk => ih k (h3 k hk) d⟩
      have : kidsOf x.op ≤ 2 := by unfold kidsOf; split; omega; split; omega; split <;> omega
      omega
end Go.Proofs.Ytnbclbphggmenaa.Tr
end
section
namespace Go.Proofs.Ytnbclbphggmenaa.Tr
open Go.RowKit Go.Proofs.Ytnbclbphggmenaa.Lx Go.Proofs.Ytnbclbphggmenaa.Wd
theorem infoStr : (Try.prog.info? 9).map (fun i => (i.zero, i.size, i.bytes)) = some (some (.string ⟨#[]⟩), 1, 16) := by kernel_rfl
theorem other_any (s a b : ByteArray) (w : World) : Calls Try.prog 59 #[.string s, .string a, .string b] w fun e w' => e = .returned (.string (other a b s)) ∧ w = w' := by
  unfold other
  cases h1 : (s.toList == a.toList) with
  | true =>
    rw [if_pos rfl]
    go_enter Try.func59, Try.ntmps59
    go_wp2
    go_ret
    exact ⟨rfl, rfl⟩
  | false =>
    rw [if_neg (by simp)]
    cases h2 : (s.toList == b.toList) with
    | true =>
      rw [if_pos rfl]
      go_enter Try.func59, Try.ntmps59
      go_wp2
      go_ret
      exact ⟨rfl, rfl⟩
    | false =>
      rw [if_neg (by simp)]
      go_enter Try.func59, Try.ntmps59
      go_wp2
      go_ret
      exact ⟨rfl, rfl⟩
theorem other_size {a b s : ByteArray} {N : Nat} (ha : a.size ≤ N) (hb : b.size ≤ N) (hs : s.size ≤ N) : (other a b s).size ≤ N := by
  unfold other
  split
  · exact hb
  · split
    · exact ha
    · exact hs
/-- A new slice of texts. -/
theorem strs_owned {w : World} {B n : Nat} {v : Value} {l : List ByteArray} (h : w.ownsRow B 9 1 v n (l.map Value.string)) (hn : n = l.length) (hm : n ≤ 9223372036854775807) (hs : ∀ s ∈ l, s.size ≤ 9223372036854775807) :
    StrC (only (fun g => B ≤ g) (cw w)) v l := by
  subst hn
  rcases h.2 with ⟨hv, hn⟩ | ⟨g, cap, cur, hv, h1, h2, h3, h4, h5, h6⟩
  · have : l = [] := List.eq_nil_of_length_eq_zero hn
    subst this
    rw [hv]
    exact SlAt.nil
  · refine ⟨_, cap, hv, h3, ?_, fun hne => ⟨g, 0, rfl, fun i hi => ?_⟩⟩
    · exact h4
    · refine ⟨⟨h1, ?_⟩, hs _ (List.getElem_mem hi)⟩
      have := h.cells (g := g) (by rw [hv]; rfl) i (.string l[i]) (by simp [List.getElem?_eq_getElem hi])
      rw [Addr.add_lit, Nat.zero_add] at this
      show w.cell? ⟨g, 0 + i * 1, none⟩ = _
      rw [Nat.zero_add, Nat.mul_one]
      exact this
/-- What a maker of texts leaves: a new slice. -/
def TextsMade (l : List ByteArray) (w : World) (e : Ending) (w' : World) : Prop := ∃ v, e = .returned v ∧ StrC (only (fun g => w.heap.size ≤ g) (cw w')) v l ∧ Below w.heap.size w w'
theorem str_cells {s : ByteArray} : ∀ u ∈ [Value.string s], u.oneCell' = true := by
  intro u hu
  simp at hu
  subst hu; rfl
theorem ownsForm {w : World} {B : Nat} {e : TypeId} {z : Nat} {v : Value} {n : Nat} {xs : List Value} (h : w.ownsRow B e z v n xs) : ∃ a c, v = .slice a n c := by
  rcases h.2 with ⟨rfl, rfl⟩ | ⟨g, cap, _, rfl, _⟩
  · exact ⟨_, _, rfl⟩
  · exact ⟨_, _, rfl⟩
set_option maxHeartbeats 2000000 in
theorem swapTexts_any (ns : List ByteArray) (nv : Value) (a b : ByteArray) (w : World) (hn : StrsAt w nv ns) (hl : ns.length ≤ 1000000) (ha : a.size ≤ 9223372036854775807) (hb : b.size ≤ 9223372036854775807) :
    Calls Try.prog 26 #[nv, .string a, .string b] w (TextsMade (ns.map (other a b)) w) := by
  obtain ⟨i0, hi, hz0, hz1, hz2⟩ := info_parts infoStr
  obtain ⟨na, nc, rfl, hc1, hc2⟩ := hn.form
  have HN := Lib.hid hn
  clear hn
  go_enter Try.func26, Try.ntmps26
  go_wp2_with fail
  go_loopw [7, 12] (fun v i wr => ∃ k : Nat, k ≤ ns.length ∧ i = .int .i64 k ∧ wr.ownsRow w.heap.size 9 1 v k (((ns.take k).map (other a b)).map Value.string) ∧ Below w.heap.size w wr) (fun _ i _ => (ns.length - intOf i).toNat)
  case atStart => exact ⟨0, by omega, rfl, World.ownsRow_nil _ _ _ _, Below.refl _ _⟩
  case round =>
    obtain ⟨k, hk, rfl, hown, hbel⟩ := hrel
    have HBel := Lib.hid hbel
    have HOWN := Lib.hid hown
    have hsz := hbel.size
    by_cases hlt : k < ns.length
    · have hlt' : (k : Int) < (ns.length : Int) := by omega
      have hne : ns ≠ [] := by intro h; rw [h] at hlt; simp at hlt
      obtain ⟨g, off, cap', hv, hcells⟩ := (HN.out.next hbel).cells hne
      simp only [Value.slice.injEq] at hv
      obtain ⟨rfl, -, rfl⟩ := hv
      obtain ⟨hs, c0⟩ := hcells k hlt
      obtain ⟨va, vc, rfl⟩ := ownsForm hown
      obtain ⟨s, hs2⟩ : ∃ s, Hid (ns[k] = s) := ⟨_, Lib.hid rfl⟩
      rw [hs2.out] at c0
      obtain ⟨o, ho⟩ : ∃ o, Hid (other a b s = o) := ⟨_, Lib.hid rfl⟩
      clear hcells hne hbel hown hs
      go_wp2_with fail
      refine (other_any s a b _).mono ?_
      rintro e w' ⟨rfl, rfl⟩
      rw [ho.out]
      go_wp2_with (at_builtin; refine wpList_append_own _ rfl (.tmp 16) (.tmp 21) 25 rfl w.heap.size 9 i0 (.string ⟨#[]⟩) 1 16 Try.underlying25 hi hz0 hz1 hz2 rfl (by decide) _ _ _ rfl (HOWN.out.alloc _) ⟨_, 0, none⟩ 1 1 [.string o] rfl rfl ?c1 ?c2 ?c3 ?c4 ?c5 ?_)
      case c1 => intro j u h; rw [Addr.add_lit, World.cell?_alloc_new]; simpa using h
      case c2 => exact str_cells
      case c3 => unfold maxLen; omega
      case c4 => omega
      case c5 => simp; omega
      intro v' w1' hown1 hg1 _
      have HB3 : Hid (Below w.heap.size w w1') := Lib.hid (HBel.out.trans (((Below.refl _ _).alloc hsz _).grown hg1 (by simp; omega) (fun k hk => (HOWN.out.lt k hk).1)))
      have HOWN1 := Lib.hid hown1
      clear hown1 hg1
      go_wp2_with fail
      go_roundw
      case rel =>
        refine ⟨k + 1, by omega, by go_num, ?_, HB3.out⟩
        rw [List.take_succ_eq_append_getElem hlt, List.map_append, List.map_append]
        simp only [List.map_cons, List.map_nil, hs2.out, ho.out]
        rw [List.map_map, List.map_take]
        exact HOWN1.out
      case measure => simp [intOf]; omega
    · have hlt' : ¬ (k : Int) < (ns.length : Int) := by omega
      obtain ⟨va, vc, rfl⟩ := ownsForm hown
      clear hbel hown
      go_wp2_with fail
      go_ret
      have he : ns.take k = ns := List.take_of_length_le (by omega)
      refine ⟨_, rfl, strs_owned (by rw [← he]; exact HOWN.out) (by simp; omega) (by omega) ?_, HBel.out⟩
      intro s hs
      obtain ⟨q, hq, rfl⟩ := List.mem_map.1 hs
      have hne : ns ≠ [] := List.ne_nil_of_mem hq
      obtain ⟨g, off, cap', _, hcells⟩ := HN.out.cells hne
      obtain ⟨j, hj, rfl⟩ := List.getElem_of_mem hq
      exact other_size ha hb (hcells j hj).1
end Go.Proofs.Ytnbclbphggmenaa.Tr
end
section
namespace Go.Proofs.Ytnbclbphggmenaa.Tr
open Go.RowKit Go.Proofs.Ytnbclbphggmenaa.Lx Go.Proofs.Ytnbclbphggmenaa.Wd
theorem ownsBelow {w w' : World} {B : Nat} {e : TypeId} {z : Nat} {v : Value} {n : Nat} {xs : List Value} (h : w.ownsRow B e z v n xs) (hb : Below w.heap.size w w') : w'.ownsRow B e z v n xs := by
  refine ⟨h.1, ?_⟩
  rcases h.2 with h | ⟨g, cap, cur, h1, h2, h3, h4⟩
  · exact .inl h
  · refine .inr ⟨g, cap, cur, h1, h2, ?_, h4⟩
    have hlt : g < w.heap.size := by
      rcases Nat.lt_or_ge g w.heap.size with hlt | hge
      · exact hlt
      · rw [Array.getElem?_eq_none hge] at h3; cases h3
    rw [hb.block g hlt]; exact h3
theorem Cs.le_trans {C D E : Cs} (h : Cs.le C D) (k : Cs.le D E) : Cs.le C E := fun g j u q => k g j u (h g j u q)
/-- The cells of new blocks, but for the row's own. -/
abbrev newC (B : Nat) (v : Value) (w : World) : Cs := only (fun g => B ≤ g ∧ v.ownBlock ≠ some g) (cw w)
/-- The cells of new blocks. -/
abbrev nwC (B : Nat) (w : World) : Cs := only (fun g => B ≤ g) (cw w)
theorem nw_le {B B' : Nat} {w w' : World} (hB : B' ≤ B) (hb : Below w.heap.size w w') : Cs.le (nwC B w) (nwC B' w') := only_le (fun _ h => Nat.le_trans hB h) (cw_next hb)
/-- What was there ahead of an append. -/
theorem le_old {w1 w2 w4 : World} {B : Nat} {v v4 : Value} (hb : Below w1.heap.size w1 w2) (hg : w2.grownBy w4 v.ownBlock) (hat : ∀ g, v4.ownBlock = some g → v.ownBlock = some g ∨ w1.heap.size ≤ g) : Cs.le (newC B v w1) (newC B v4 w4) := by
  intro g j u ⟨⟨h1, h2⟩, h3⟩
  have hlt := cell_lt h3
  refine ⟨⟨h1, fun he => ?_⟩, ?_⟩
  · rcases hat g he with h | h
    · exact h2 h
    · omega
  · show w4.cell? ⟨g, j, none⟩ = some u
    rw [hg.cell_far ⟨g, j, none⟩ (Nat.lt_of_lt_of_le hlt hb.size) (fun e => h2 e.symm)]
    exact cell_next hb h3
/-- What was made for the append. -/
theorem le_made {w1 w2 w3 w4 : World} {B : Nat} {v v4 : Value} (h12 : B ≤ w1.heap.size) (hb : Below w2.heap.size w2 w3) (hg : w3.grownBy w4 v.ownBlock) (ho : ∀ g, v.ownBlock = some g → g < w1.heap.size) (hat : ∀ g, v4.ownBlock = some g → v.ownBlock = some g ∨ w2.heap.size ≤ g) : Cs.le (nwC w1.heap.size w2) (newC B v4 w4) := by
  intro g j u ⟨h1, h3⟩
  have hlt := cell_lt h3
  have h2 : v.ownBlock ≠ some g := fun e => by have := ho g e; omega
  refine ⟨⟨by omega, fun he => ?_⟩, ?_⟩
  · rcases hat g he with h | h
    · exact h2 h
    · omega
  · show w4.cell? ⟨g, j, none⟩ = some u
    rw [hg.cell_far ⟨g, j, none⟩ (Nat.lt_of_lt_of_le hlt hb.size) (fun e => h2 e.symm)]
    exact cell_next hb h3
/-- The row so far. -/
structure Acc {α : Type} (Q : Cs → List Value → α → Prop) (B : Nat) (t : TypeId) (z : Nat) (w : World) (v : Value) (l : List α) (rows : List (List Value)) : Prop where
  len : rows.length = l.length
  own : w.ownsRow B t z v l.length rows.flatten
  wide : ∀ r ∈ rows, r.length = z
  each : ∀ i (h : i < l.length) (h' : i < rows.length), Q (newC B v w) rows[i] l[i]
theorem Acc.nil {α : Type} (Q : Cs → List Value → α → Prop) (B : Nat) (t : TypeId) (z : Nat) (w : World) : Acc Q B t z w (.slice none 0 0) [] [] :=
  ⟨rfl, World.ownsRow_nil _ _ _ _, fun r h => (by cases h), fun i h => (by cases h)⟩
theorem Acc.next {α : Type} {Q : Cs → List Value → α → Prop} {B : Nat} {t : TypeId} {z : Nat} {w w' : World} {v : Value} {l : List α} {rows : List (List Value)} (hQ : ∀ C D c x, Cs.le C D → Q C c x → Q D c x) (h : Acc Q B t z w v l rows) (hb : Below w.heap.size w w') : Acc Q B t z w' v l rows :=
  ⟨h.len, ownsBelow h.own hb, h.wide, fun i h1 h2 => hQ _ _ _ _ (only_le (fun _ h => h) (cw_next hb)) (h.each i h1 h2)⟩
/-- One more. w1: ahead of the thing's making; w2: behind it; w3: at the append; w4: behind it. -/
theorem Acc.more {α : Type} {Q : Cs → List Value → α → Prop} {B : Nat} {t : TypeId} {z : Nat} {w0 w1 w2 w3 w4 : World} {v v4 : Value} {l : List α} {rows : List (List Value)} {c : List Value} {x : α} (hQ : ∀ C D c x, Cs.le C D → Q C c x → Q D c x)
    (h : Acc Q B t z w0 v l rows) (h01 : Below w0.heap.size w0 w1) (hB : B ≤ w1.heap.size) (h12 : Below w1.heap.size w1 w2) (h23 : Below w2.heap.size w2 w3) (hg : w3.grownBy w4 v.ownBlock) (hat : ∀ g, v4.ownBlock = some g → v.ownBlock = some g ∨ w2.heap.size ≤ g)
    (hc : c.length = z) (hx : Q (nwC w1.heap.size w2) c x) (hown : w4.ownsRow B t z v4 (l.length + 1) (rows.flatten ++ c)) : Acc Q B t z w4 v4 (l ++ [x]) (rows ++ [c]) := by
  have hlen := h.len
  refine ⟨by simp [hlen], by simpa using hown, fun r hr => ?_, fun i h1 h2 => ?_⟩
  · rcases List.mem_append.1 hr with hr | hr
    · exact h.wide r hr
    · simp at hr; rw [hr]; exact hc
  · simp only [List.getElem_append]
    simp at h1 h2
    by_cases hi : i < l.length
    · rw [dif_pos hi, dif_pos (by omega)]
      refine hQ _ _ _ _ (le_old ((h01.trans (h12.mono h01.size)).trans (h23.mono (Nat.le_trans h01.size h12.size))) hg fun g hgg => ?_) (h.each i hi (by omega))
      rcases hat g hgg with h | h
      · exact .inl h
      · exact .inr (Nat.le_trans (Nat.le_trans h01.size h12.size) h)
    · rw [dif_neg hi, dif_neg (by omega)]
      have e1 : i - l.length = 0 := by omega
      have e2 : i - rows.length = 0 := by omega
      simp only [e1, e2, List.getElem_cons_zero]
      exact hQ _ _ _ _ (le_made hB h23 hg (fun g hgg => Nat.lt_of_lt_of_le (h.own.lt g hgg).2 h01.size) hat) hx
/-- A cell of another block is written. -/
theorem Acc.set {α : Type} {Q : Cs → List Value → α → Prop} {B : Nat} {t : TypeId} {z : Nat} {w : World} {v : Value} {l : List α} {rows : List (List Value)} (hQ : ∀ C D c x, Cs.le C D → Q C c x → Q D c x) (h : Acc Q B t z w v l rows) {b j : Nat} (hb : b < B) (u : Value) : Acc Q B t z (w.setCell ⟨b, j, none⟩ u) v l rows :=
  ⟨h.len, ownsRow_setCell_other h.own (fun e => by have := (h.own.lt _ e).1; simp only at this; omega) u, h.wide, fun i h1 h2 => hQ _ _ _ _ (only_set (fun e => by omega)) (h.each i h1 h2)⟩
theorem flat_get {z : Nat} : ∀ (rows : List (List Value)) (i j : Nat) (u : Value), (∀ r ∈ rows, r.length = z) → (h : i < rows.length) → rows[i][j]? = some u → rows.flatten[i * z + j]? = some u := by
  intro rows
  induction rows with
  | nil => intro i j u _ h; cases h
  | cons r rs ih =>
    intro i j u hw h hu
    have hr := hw r (by simp)
    rw [List.flatten_cons]
    cases i with
    | zero =>
      simp only [List.getElem_cons_zero] at hu
      have hj : j < r.length := (List.getElem?_eq_some_iff.1 hu).1
      rw [Nat.zero_mul, Nat.zero_add, List.getElem?_append_left hj]
      exact hu
    | succ i =>
      simp only [List.getElem_cons_succ] at hu
      rw [List.getElem?_append_right (by rw [hr, Nat.succ_mul]; omega)]
      have : (i + 1) * z + j - r.length = i * z + j := by rw [hr, Nat.succ_mul]; omega
      rw [this]
      exact ih i j u (fun r h => hw r (by simp [h])) (by simpa using h) hu
/-- The row at last. -/
theorem Acc.sl {α : Type} {Q : Cs → List Value → α → Prop} {P : Cs → Nat → Nat → α → Prop} {B : Nat} {t : TypeId} {z : Nat} {w : World} {v : Value} {l : List α} {rows : List (List Value)} (h : Acc Q B t z w v l rows) (hm : l.length ≤ 9223372036854775807)
    (hQ : ∀ C D c x, Cs.le C D → Q C c x → Q D c x) (hP : ∀ C c g o x, x ∈ l → c.length = z → Q C c x → (∀ j u, c[j]? = some u → C g (o + j) u) → P C g o x) : SlAt z (P (nwC B w)) v l := by
  have hlen := h.len
  have hown := h.own
  rcases h.own.2 with ⟨hv, hn⟩ | ⟨g, cap, cur, hv, h1, h2, h3, h4, h5, h6⟩
  · have : l = [] := List.eq_nil_of_length_eq_zero hn
    subst this
    rw [hv]
    exact SlAt.nil
  · refine ⟨_, cap, hv, h3, h4, fun hne => ⟨g, 0, rfl, fun i hi => ?_⟩⟩
    refine hP _ rows[i] g _ _ (List.getElem_mem hi) (h.wide _ (List.getElem_mem (by omega))) (hQ _ _ _ _ (only_le (fun _ h => h.1) fun _ _ _ h => h) (h.each i hi (by omega))) fun j u hu => ⟨h1, ?_⟩
    have := hown.cells (g := g) (by rw [hv]; rfl) (i * z + j) u (flat_get rows i j u h.wide (by omega) hu)
    rw [Addr.add_lit, Nat.zero_add] at this
    show w.cell? ⟨g, 0 + i * z + j, none⟩ = _
    rw [Nat.zero_add]
    exact this
/-- While the things of a list are made: the maker's box Y, of the cells cs but for that of the list so far; the box R of what is answered; the list. -/
structure Grow {α : Type} (Q : Cs → List Value → α → Prop) (t : TypeId) (z : Nat) (B Y R nR : Nat) (cs : List Value) (slot : Nat) (xs : List α) (w : World) (v : Value) (rows : List (List Value)) : Prop where
  lt : R < B
  yb : Y < B
  ne : R ≠ Y
  ylt : Y < w.heap.size
  y : ∀ j u, (cs.set slot v)[j]? = some u → w.cell? ⟨Y, j, none⟩ = some u
  fy : ∀ j, w.frozen? ⟨Y, j, none⟩ = false
  r : ∀ j, j < nR → ∃ u, w.cell? ⟨R, j, none⟩ = some u
  fr : ∀ j, w.frozen? ⟨R, j, none⟩ = false
  acc : Acc Q B t z w v xs rows
  bw : B ≤ w.heap.size
theorem Grow.own {α : Type} {Q : Cs → List Value → α → Prop} {t : TypeId} {z B Y R nR slot : Nat} {cs : List Value} {xs : List α} {w : World} {v : Value} {rows : List (List Value)} (h : Grow Q t z B Y R nR cs slot xs w v rows) : ∀ b, b < B → some b ≠ v.ownBlock := fun b hb he => by
  have := (h.acc.own.lt _ he.symm).1
  omega
theorem Grow.step {α : Type} {Q : Cs → List Value → α → Prop} {t : TypeId} {z B Y R nR slot : Nat} {cs : List Value} {xs : List α} {w0 w1 w2 w3 w4 : World} {v v4 : Value} {rows : List (List Value)} {c : List Value} {x : α}
    (h : Grow Q t z B Y R nR cs slot xs w0 v rows) (hs : slot < cs.length) (hQ : ∀ C D c x, Cs.le C D → Q C c x → Q D c x) (h01 : Below w0.heap.size w0 w1) (h12 : Below w1.heap.size w1 w2) (h23 : Below w2.heap.size w2 w3) (hg : w3.grownBy w4 v.ownBlock) (hat : ∀ g, v4.ownBlock = some g → v.ownBlock = some g ∨ w2.heap.size ≤ g)
    (hc : c.length = z) (hx : Q (nwC w1.heap.size w2) c x) (hown : w4.ownsRow B t z v4 (xs.length + 1) (rows.flatten ++ c)) : Grow Q t z B Y R nR cs slot (xs ++ [x]) (w4.setCell ⟨Y, slot, none⟩ v4) v4 (rows ++ [c]) := by
  have hb := (h01.trans (h12.mono h01.size)).trans (h23.mono (Nat.le_trans h01.size h12.size))
  have hown0 := h.own
  have ylt := h.ylt
  have lt := h.lt
  have yb := h.yb
  have ne := h.ne
  have bw := h.bw
  have hs3 := hb.size
  have hc4 : ∀ b j u, b < B → w0.cell? ⟨b, j, none⟩ = some u → w4.cell? ⟨b, j, none⟩ = some u := fun b j u hb' hu => by
    rw [hg.cell_far ⟨b, j, none⟩ (by simp only; omega) (hown0 b hb')]
    exact cell_next hb hu
  have hf4 : ∀ b j, b < B → w0.frozen? ⟨b, j, none⟩ = false → w4.frozen? ⟨b, j, none⟩ = false := fun b j hb' hu => by
    rw [hg.frozen_far ⟨b, j, none⟩ (by simp only; omega) (hown0 b hb')]
    exact (hb.frozen (p := ⟨b, j, none⟩) (by simp only; omega)).trans hu
  refine ⟨lt, yb, ne, ?_, fun j u hu => ?_, fun j => ?_, fun j hj => ?_, fun j => ?_, ?_, ?_⟩
  · have hsz : (w4.setCell ⟨Y, slot, none⟩ v4).heap.size = w4.heap.size := World.size_setCell _ _ _
    rw [hsz]
    have := hg.size
    omega
  · by_cases hj : j = slot
    · subst hj
      rw [List.getElem?_set_self (by omega)] at hu
      have : v4 = u := by simpa using hu
      subst this
      exact cell_set (hc4 Y j v (by omega) (h.y j v (by rw [List.getElem?_set_self (by omega)])))
    · rw [List.getElem?_set_ne (by omega)] at hu
      exact cell_set_ne (hc4 Y j u (by omega) (h.y j u (by rw [List.getElem?_set_ne (by omega)]; exact hu))) (by omega)
  · rw [World.frozen?_setCell]; exact hf4 Y j (by omega) (h.fy j)
  · obtain ⟨u, hu⟩ := h.r j hj
    exact ⟨u, by rw [World.cell?_setCell_other _ _ _ _ (fun e => by have := congrArg Addr.block e; simp only at this; omega)]; exact hc4 R j u (by omega) hu⟩
  · rw [World.frozen?_setCell]; exact hf4 R j (by omega) (h.fr j)
  · exact (h.acc.more hQ h01 (by have := h01.size; omega) h12 h23 hg hat hc hx hown).set hQ (by omega) _
  · have hsz : (w4.setCell ⟨Y, slot, none⟩ v4).heap.size = w4.heap.size := World.size_setCell _ _ _
    rw [hsz]
    have := hg.size
    omega
/-- What was there ahead of all stays. -/
theorem Grow.below {w w0 w3 w4 : World} {v v4 : Value} {B Y slot : Nat} (hw : Below w.heap.size w w0) (hb : Below w0.heap.size w0 w3) (hg : w3.grownBy w4 v.ownBlock) (hY : w.heap.size ≤ Y) (hwB : w.heap.size ≤ B) (ho : ∀ b, b < B → some b ≠ v.ownBlock) : Below w.heap.size w (w4.setCell ⟨Y, slot, none⟩ v4) := by
  refine (((hw.trans (hb.mono hw.size)).grown hg ?_ fun k hk => ?_)).setCell (p := ⟨Y, slot, none⟩) hY _
  · exact Nat.le_trans hw.size hb.size
  · apply Decidable.byContradiction
    intro hlt
    exact ho k (by omega) hk.symm
theorem le_set {w : World} {B R j : Nat} {x : Value} (h : R < B) : Cs.le (nwC B w) (nwC B (w.setCell ⟨R, j, none⟩ x)) := only_set (S := fun g => B ≤ g) (b := R) (by show ¬ B ≤ R; omega)
/-- The box of what is answered, written cell by cell. -/
theorem fill4 {w : World} {R : Nat} {a b c d r0 r1 r2 r3 : Value} (h0 : w.cell? ⟨R, 0, none⟩ = some r0) (h1 : w.cell? ⟨R, 1, none⟩ = some r1) (h2 : w.cell? ⟨R, 2, none⟩ = some r2) (h3 : w.cell? ⟨R, 3, none⟩ = some r3) :
    ((((w.setCell ⟨R, 0, none⟩ a).setCell ⟨R, 1, none⟩ b).setCell ⟨R, 2, none⟩ c).setCell ⟨R, 3, none⟩ d).cell? ⟨R, 0, none⟩ = some a ∧ ((((w.setCell ⟨R, 0, none⟩ a).setCell ⟨R, 1, none⟩ b).setCell ⟨R, 2, none⟩ c).setCell ⟨R, 3, none⟩ d).cell? ⟨R, 1, none⟩ = some b ∧
    ((((w.setCell ⟨R, 0, none⟩ a).setCell ⟨R, 1, none⟩ b).setCell ⟨R, 2, none⟩ c).setCell ⟨R, 3, none⟩ d).cell? ⟨R, 2, none⟩ = some c ∧ ((((w.setCell ⟨R, 0, none⟩ a).setCell ⟨R, 1, none⟩ b).setCell ⟨R, 2, none⟩ c).setCell ⟨R, 3, none⟩ d).cell? ⟨R, 3, none⟩ = some d :=
  ⟨cell_set_ne (cell_set_ne (cell_set_ne (cell_set h0) (by decide)) (by decide)) (by decide), cell_set_ne (cell_set_ne (cell_set (cell_set_ne h1 (by decide))) (by decide)) (by decide), cell_set_ne (cell_set (cell_set_ne (cell_set_ne h2 (by decide)) (by decide))) (by decide), cell_set (cell_set_ne (cell_set_ne (cell_set_ne h3 (by decide)) (by decide)) (by decide))⟩
/-- Expressions, as cells. -/
def ExQ (d : Nat) (C : Cs) (c : List Value) (x : Ex) : Prop := ∃ kv, c = [.int .i64 x.op, .int .i64 x.n, .string x.nm, kv] ∧ OkE x ∧ ExC C d kv x.ks
theorem ExQ.mono (d : Nat) : ∀ C D c x, Cs.le C D → ExQ d C c x → ExQ d D c x := fun _ _ _ _ h ⟨kv, h1, h2, h3⟩ => ⟨kv, h1, h2, ExC.mono h h3⟩
theorem ExQ.at_ (d : Nat) : ∀ (C : Cs) (c : List Value) (g o : Nat) (x : Ex), ExQ d C c x → (∀ j u, c[j]? = some u → C g (o + j) u) → ExAt C (ExC C d) g o x := by
  intro C c g o x ⟨kv, h1, h2, h3⟩ h
  subst h1
  exact ⟨kv, h 0 _ rfl, h 1 _ rfl, h 2 _ rfl, h 3 _ rfl, h2, h3⟩
theorem Acc.exC {d B : Nat} {t : TypeId} {w : World} {v : Value} {l : List Ex} {rows : List (List Value)} (h : Acc (ExQ d) B t 4 w v l rows) (hm : l.length ≤ 9223372036854775807) : ExC (nwC B w) (d + 1) v l :=
  h.sl (P := fun C g o x => ExAt C (ExC C d) g o x) hm (ExQ.mono d) fun C c g o x _ _ hq hc => ExQ.at_ d C c g o x hq hc
/-- Texts, as cells. -/
def StrQ (_ : Cs) (c : List Value) (s : ByteArray) : Prop := c = [.string s] ∧ s.size ≤ 9223372036854775807
theorem StrQ.mono : ∀ C D c x, Cs.le C D → StrQ C c x → StrQ D c x := fun _ _ _ _ _ h => h
theorem Acc.strC {B : Nat} {t : TypeId} {w : World} {v : Value} {l : List ByteArray} {rows : List (List Value)} (h : Acc StrQ B t 1 w v l rows) (hm : l.length ≤ 9223372036854775807) : StrC (nwC B w) v l :=
  h.sl (P := fun C g o s => C g o (.string s) ∧ s.size ≤ 9223372036854775807) hm StrQ.mono fun C c g o x _ _ hq hc => by
    obtain ⟨rfl, h2⟩ := hq
    exact ⟨hc 0 _ rfl, h2⟩
theorem ExC.form {C : Cs} {d : Nat} {v : Value} {l : List Ex} (h : ExC C d v l) : ∃ a cap, v = .slice a l.length cap ∧ l.length ≤ cap ∧ cap ≤ 9223372036854775807 := by
  cases d with
  | zero => exact h.elim
  | succ d => exact SlAt.form h
end Go.Proofs.Ytnbclbphggmenaa.Tr
end
section
namespace Go.Proofs.Ytnbclbphggmenaa.Tr
open Go.RowKit Go.Proofs.Ytnbclbphggmenaa.Lx Go.Proofs.Ytnbclbphggmenaa.Wd
theorem infoEx : (Try.prog.info? 24).map (fun i => (i.zero, i.size, i.bytes)) = some (some (.agg #[.int .i64 0, .int .i64 0, .string ⟨#[]⟩, .slice none 0 0]), 4, 56) := by kernel_rfl
/-- What a maker of an expression leaves: a new one. -/
def ExMade (d : Nat) (x : Ex) (w : World) (e : Ending) (w' : World) : Prop := ∃ kv, e = .returned (exV x kv) ∧ OkE x ∧ ExC (only (fun g => w.heap.size ≤ g) (cw w')) d kv x.ks ∧ Below w.heap.size w w'
set_option maxHeartbeats 4000000 in
set_option maxRecDepth 100000 in
theorem swapExpr_any (a b : ByteArray) (ha : a.size ≤ 9223372036854775807) (hb : b.size ≤ 9223372036854775807) : ∀ (d : Nat) (x : Ex) (kv : Value) (w : World), OkE x → ExK d w kv x.ks → lim d x.ks →
    Calls Try.prog 25 #[exV x kv, .string a, .string b] w (ExMade d (mapE (other a b) x) w) := by
  intro d
  induction d with
  | zero => intro x kv w _ h; exact h.elim
  | succ d ih =>
    intro x kv w hok hk hlim
    have IH := Lib.hid ih
    obtain ⟨i0, hi, hz0, hz1, hz2⟩ := info_parts infoEx
    obtain ⟨ax, cx, rfl, hc1, hc2⟩ := hk.form
    have hbox := boxed w (.cells #[.int .i64 x.op, .int .i64 x.n, .string x.nm, .slice ax x.ks.length cx] 24)
    have HB := Lib.hid hbox
    have HK := Lib.hid (hk.next hbox)
    have HOK := Lib.hid hok
    have HK0 := Lib.hid hk
    have hlen := hlim.1
    have HLIM := Lib.hid hlim.2
    obtain ⟨o, ho⟩ : ∃ o, Hid (other a b x.nm = o) := ⟨_, Lib.hid rfl⟩
    clear ih hbox hok hlim
    unfold exV
    go_enter Try.func25, Try.ntmps25
    go_upto_region 1 with fail
    go_cut [7] (fun s7 wx => s7 = .pointer (some ⟨w.heap.size + 1 + 1, 0, none⟩) ∧ Below w.heap.size w wx ∧ w.heap.size + 1 + 1 < wx.heap.size ∧ wx.cell? ⟨w.heap.size, 3, none⟩ = some (.slice ax x.ks.length cx) ∧ Grow (ExQ d) 24 4 (w.heap.size + 1 + 1 + 1) (w.heap.size + 1 + 1) (w.heap.size + 1) 4 [.int .i64 x.op, .int .i64 x.n, .string o, .slice none 0 0] 3 [] wx (.slice none 0 0) [])
    case first =>
      go_region_held3 (fun w' => w'.cell? ⟨w.heap.size, 0, none⟩ = some (.int .i64 x.op) ∧ w'.cell? ⟨w.heap.size, 1, none⟩ = some (.int .i64 x.n) ∧ w'.cell? ⟨w.heap.size, 2, none⟩ = some (.string x.nm))
        (go_keep)
        ((go_at_call 59; refine (other_any _ _ _ _).mono ?_; rintro e w' ⟨rfl, rfl⟩))
      all_goals
        go_wp2_with fail
        go_meet
        refine ⟨rfl, ?_, ?_, ?_, ?_⟩
        · first
            | exact (((boxed w _).alloc (by simp) _).drew).alloc (by simp; omega) _
            | exact (((boxed w _).alloc (by simp) _).alloc (by simp; omega) _).drew
        · simp
        · simp [go_sem]
        · refine ⟨by omega, by omega, by omega, by simp, fun j u hu => ?_, fun j => by simp [go_sem], fun j hj => ?_, fun j => by simp [go_sem], Acc.nil _ _ _ _ _, by simp⟩
          · match j, hu with
            | 0, hu => cases hu; simp [go_sem]
            | 1, hu => cases hu; simp [go_sem]
            | 2, hu => cases hu; simp [go_sem, ho.out]
            | 3, hu => cases hu; simp [go_sem]
          · match j, hj with
            | 0, _ => exact ⟨.int .i64 0, by simp [go_sem]⟩
            | 1, _ => exact ⟨.int .i64 0, by simp [go_sem]⟩
            | 2, _ => exact ⟨.string ⟨#[]⟩, by simp [go_sem]⟩
            | 3, _ => exact ⟨.slice none 0 0, by simp [go_sem]⟩
    case rest =>
      obtain ⟨rfl, hbel, hsz, hb3, hG⟩ := hcut
      have HBC := Lib.hid hbel
      have HGC := Lib.hid hG
      have hkc := hk.next hbel
      have HKC := Lib.hid hkc
      have hwc : wc.cell? ⟨w.heap.size, 3, none⟩ = some (.slice ax x.ks.length cx) := hb3
      clear hbel hG hkc hk
      go_wp2_with fail
      go_loopw [22] (fun i wr => ∃ (k : Nat) (v : Value) (rows : List (List Value)), k ≤ x.ks.length ∧ i = .int .i64 k ∧ Below w.heap.size w wr ∧ wc.heap.size ≤ wr.heap.size ∧ wr.cell? ⟨w.heap.size, 3, none⟩ = some (.slice ax x.ks.length cx) ∧ ExK (d + 1) wr (.slice ax x.ks.length cx) x.ks ∧
          Grow (ExQ d) 24 4 (w.heap.size + 1 + 1 + 1) (w.heap.size + 1 + 1) (w.heap.size + 1) 4 [.int .i64 x.op, .int .i64 x.n, .string o, .slice none 0 0] 3 ((x.ks.take k).map (mapE (other a b))) wr v rows) (fun i _ => (x.ks.length - intOf i).toNat)
      case atStart => exact ⟨0, _, [], by omega, rfl, HBC.out, Nat.le_refl _, hwc, HKC.out, HGC.out⟩
      case round =>
        obtain ⟨k, v, rows, hk, rfl, hbel, hle, hc3, hkr, hG⟩ := hrel
        have HBel := Lib.hid hbel
        have HKR := Lib.hid hkr
        have HG := Lib.hid hG
        have hL : ((x.ks.take k).map (mapE (other a b))).length = k := by simp; omega
        have y3 := hG.y 3 _ rfl
        have hown := hG.acc.own
        rw [hL] at hown
        have HOWN := Lib.hid hown
        have fy := hG.fy 3
        clear hwc hb3
        by_cases hlt : k < x.ks.length
        · have hlt' : (k : Int) < (x.ks.length : Int) := by omega
          have h0k : (0 : Int) ≤ (k : Int) := by omega
          have hne : x.ks ≠ [] := by intro h; rw [h] at hlt; simp at hlt
          obtain ⟨g, off, cap', hv, _, _, hcells⟩ := hkr.kids hne
          simp only [Value.slice.injEq] at hv
          obtain ⟨rfl, -, rfl⟩ := hv
          obtain ⟨hok2, u, c0, c1, c2, c3, hku⟩ := hcells k hlt
          obtain ⟨au, cu, rfl, -, -⟩ := hku.form
          have HKU := Lib.hid hku
          have HOK2 := Lib.hid hok2
          have hlimk := HLIM.out x.ks[k] (List.getElem_mem hlt)
          have HLK := Lib.hid hlimk
          have hyl := cell_lt y3
          have hgw : g < w.heap.size := by
            obtain ⟨g0, off0, cap0, hv0, _, _, hcells0⟩ := HK0.out.kids hne
            simp only [Value.slice.injEq, Option.some.injEq, Addr.mk.injEq] at hv0
            obtain ⟨⟨rfl, -⟩, -⟩ := hv0
            obtain ⟨_, _, q0, _⟩ := hcells0 k hlt
            exact cell_lt q0
          obtain ⟨va, vc, rfl⟩ := ownsForm hown
          have hnb := hG.own
          have HNB := Lib.hid hnb
          have hwl : w.heap.size < wr.heap.size := by omega
          have hgl : g < wr.heap.size := by omega
          clear hcells hku hok2 hbel hne hkr hG hown hlimk hnb
          obtain ⟨E, hE⟩ : ∃ E, Hid (mapE (other a b) x.ks[k] = E) := ⟨_, Lib.hid rfl⟩
          have IHK : Hid (∀ W kv, ExK d W kv x.ks[k].ks → Calls Try.prog 25 #[exV x.ks[k] kv, .string a, .string b] W (ExMade d E W)) := Lib.hid (fun W kv h => hE.out ▸ IH.out x.ks[k] kv W HOK2.out h HLK.out)
          have Y3 := Lib.hid y3
          have HC3 := Lib.hid hc3
          have FY := Lib.hid fy
          go_upto_region 5 with fail
          go_region_law
            (first
              | (go_simp; go_at_call 25; refine (IHK.out _ _ (HKU.out.next ((Below.refl _ _).drew))).mono ?_; rintro e w2 ⟨kv2, rfl, hok3, hkc3, hb2⟩; obtain ⟨ka2, kc2, rfl, hka1, hka2⟩ := hkc3.form; unfold exV; have z3 := cell_next hb2 (cell_next ((Below.refl _ _).drew) Y3.out); have zf := frozen_next hb2 (cell_next ((Below.refl _ _).drew) Y3.out) (frozen_next ((Below.refl _ _).drew) Y3.out FY.out); have Z3 := Lib.hid z3; have ZF := Lib.hid zf; have znew := World.new_ne _ _ z3; have zlt := cell_lt z3; dsimp only)
              | (have hbt := hb2; refine step_append_lies _ (by rfl) (.tmp 26) (.tmp 35) _ (by rfl) (w.heap.size + 1 + 1 + 1) 24 i0 (.agg #[.int .i64 0, .int .i64 0, .string ⟨#[]⟩, .slice none 0 0]) 4 56 Try.underlying22 hi hz0 hz1 hz2 rfl (by omega) (.slice va k vc) k rows.flatten (by rfl) ((ownsBelow HOWN.out.drew hb2).alloc _)
                  ⟨w2.heap.size, 0, none⟩ 1 1 [.int .i64 E.op, .int .i64 E.n, .string E.nm, .slice ka2 E.ks.length kc2] (by rfl) (by rfl) (World.news_of_block (cs := #[.int .i64 E.op, .int .i64 E.n, .string E.nm, .slice ka2 E.ks.length kc2]) (t := 24) (fr := (0, 0)) (heap_alloc_new w2 _)) (by simp [Value.oneCell'])
                  (by omega) (by unfold maxLen; omega) (by omega) (by have := hb2.size; simp at this ⊢ <;> omega) (w2.heap.size + 1) (by simp) ?_; intro gg cap4 w4 hown4 hgrow4 hat4 hlt4
                 have ylt := cell_lt Z3.out
                 have q3 := (hgrow4.cell_far ⟨w.heap.size + 1 + 1, 3, none⟩ (by simp <;> omega) (HNB.out _ (by simp))).trans (cell_next (boxed w2 _) Z3.out)
                 have qf := (hgrow4.frozen_far ⟨w.heap.size + 1 + 1, 3, none⟩ (by simp <;> omega) (HNB.out _ (by simp))).trans (frozen_next (boxed w2 _) Z3.out ZF.out)))
          all_goals
            go_wp2_with fail
            go_roundw
            case rel =>
              have hch : Below wr.heap.size wr (w2.alloc (.cells #[.int .i64 E.op, .int .i64 E.n, .string E.nm, .slice ka2 E.ks.length kc2] 24)) := (((Below.refl _ _).drew).trans hb2).trans ((boxed w2 _).mono hb2.size)
              have hB2 := Grow.below (B := w.heap.size + 1 + 1 + 1) (Y := w.heap.size + 1 + 1) (slot := 3) (v4 := .slice (some ⟨gg, 0, none⟩) (k + 1) cap4) HBel.out hch hgrow4 (by omega) (by omega) HNB.out
              have hstep := HG.out.step (v4 := .slice (some ⟨gg, 0, none⟩) (k + 1) cap4) (by simp) (ExQ.mono d) ((Below.refl _ _).drew) hb2 (boxed w2 _) hgrow4 (fun q hq => by have hqq : gg = q := by { simpa [Value.ownBlock] using hq }; subst hqq; exact hat4.imp id fun h => by omega) rfl ⟨_, rfl, hok3, hkc3⟩ (by rw [hL]; exact hown4)
              refine ⟨k + 1, .slice (some ⟨gg, 0, none⟩) (k + 1) cap4, rows ++ [[.int .i64 E.op, .int .i64 E.n, .string E.nm, .slice ka2 E.ks.length kc2]], by omega, by go_num, hB2, ?_, ?_, HK0.out.next hB2, ?_⟩
              · have := hgrow4.size
                have := hch.size
                simp only [World.size_setCell]
                omega
              · rw [World.cell?_setCell_other _ _ _ _ (fun e => by have := congrArg Addr.block e; simp only at this; omega), hgrow4.cell_far _ (by have := hch.size; simp only; omega) (HNB.out _ (by simp only; omega))]
                exact cell_next hch HC3.out
              · rw [List.take_succ_eq_append_getElem hlt, List.map_append, List.map_cons, List.map_nil, hE.out]
                exact hstep
            case measure => simp [intOf]; omega
        · have hlt' : ¬ (k : Int) < (x.ks.length : Int) := by omega
          have hke : k = x.ks.length := by omega
          subst hke
          obtain ⟨va, vc, rfl⟩ := ownsForm hown
          rw [List.take_length] at HG
          have y0 := HG.out.y 0 _ rfl
          have y1 := HG.out.y 1 _ rfl
          have y2 := HG.out.y 2 _ rfl
          obtain ⟨r0, hr0⟩ := HG.out.r 0 (by omega)
          obtain ⟨r1, hr1⟩ := HG.out.r 1 (by omega)
          obtain ⟨r2, hr2⟩ := HG.out.r 2 (by omega)
          obtain ⟨r3, hr3⟩ := HG.out.r 3 (by omega)
          have f0 := HG.out.fy 0
          have f1 := HG.out.fr 0
          have f2 := HG.out.fr 1
          have f3 := HG.out.fr 2
          have f4 := HG.out.fr 3
          have hfit : ((x.ks.map (mapE (other a b))).length) ≤ 9223372036854775807 := by simp; omega
          have hm := HG.out.acc.exC hfit
          have HM := Lib.hid hm
          clear hG hbel hm hown
          go_wp2_with fail
          obtain ⟨q0, q1, q2, q3⟩ := fill4 (a := .int .i64 x.op) (b := .int .i64 x.n) (c := .string o) (d := .slice va x.ks.length vc) hr0 hr1 hr2 hr3
          refine bodyPost_ret (v := .agg #[.int .i64 x.op, .int .i64 x.n, .string o, .slice va x.ks.length vc]) (by simp [results, Try.results25, go_sem, q0, q1, q2, q3]) rfl ⟨.slice va x.ks.length vc, ?_, ⟨?_, ?_, ?_⟩, ?_, ?_⟩
          · unfold exV
            rw [mapE_op, mapE_n, mapE_nm, ho.out]
          · rw [mapE_op]; exact HOK.out.op
          · rw [mapE_n]; exact HOK.out.n
          · rw [mapE_nm, ho.out]; exact ho.out ▸ other_size ha hb HOK.out.nm
          · rw [mapE_ks]
            refine ExC.mono (Cs.le_trans (le_set (R := w.heap.size + 1) (by omega)) (Cs.le_trans (le_set (R := w.heap.size + 1) (by omega)) (Cs.le_trans (le_set (R := w.heap.size + 1) (by omega)) (Cs.le_trans (le_set (R := w.heap.size + 1) (by omega)) (nw_le (by omega) (Below.refl _ _)))))) HM.out
          · refine (((HBel.out.setCell (p := ⟨_, _, none⟩) ?_ _).setCell (p := ⟨_, _, none⟩) ?_ _).setCell (p := ⟨_, _, none⟩) ?_ _).setCell (p := ⟨_, _, none⟩) ?_ _ <;> simp
end Go.Proofs.Ytnbclbphggmenaa.Tr
end
