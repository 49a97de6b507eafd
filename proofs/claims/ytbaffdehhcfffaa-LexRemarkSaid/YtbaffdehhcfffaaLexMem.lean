/- The memory and the frame of lex.All at the head of its great loop; how a step of the plain lexer turns them. Conditions: none. -/
import Derived.Test.YtbaffdehhcfffaaLexNum
import Derived.Test.YtbaffdehhcfffaaLexSign
import Derived.Test.YtbaffdehhcfffaaLands
import Derived.Below
namespace Go.Proofs.Ytbaffdehhcfffaa.Lx
open Go.RowKit
/-- The frame of lex.All at the head of its great loop: what stands in the slots that are read again; the others hold anything. -/
def Fr (s : ByteArray) (N : Nat) (v : Value) (at0 : Nat) (code : Int) (ok : Bool) (a : Act) : Prop := ∃ u : Nat → Value, a = { tmps := #[.string s, undef, .slice none 0 0, .pointer (some ⟨N, 0, none⟩), v, .pointer (some ⟨N + 1, 0, none⟩), .int .i64 at0, .int .i64 code, .bool ok, u 9, u 10, u 11, u 12, u 13, u 14, u 15, u 16, u 17, u 18, u 19, u 20, u 21, u 22, u 23, u 24, u 25, u 26, u 27, u 28, u 29, u 30, u 31, u 32, u 33, u 34, u 35, u 36, u 37, u 38, u 39, u 40, u 41, u 42, u 43, u 44, u 45, u 46, u 47, u 48, u 49, u 50, u 51, u 52, u 53, u 54, u 55, u 56, u 57, u 58, u 59, u 60, u 61, u 62, u 63, u 64, u 65, u 66, u 67, u 68, u 69, u 70, u 71, u 72, u 73, u 74, u 75, u 76, u 77, u 78, u 79, u 80, u 81, u 82, u 83, u 84, u 85, u 86, u 87, u 88, u 89, u 90, u 91, u 92, u 93, u 94, u 95, u 96, u 97, u 98, u 99, u 100, u 101, u 102, u 103, u 104, u 105, u 106, u 107, u 108, u 109, u 110, u 111, u 112, u 113, u 114, u 115, u 116, u 117, u 118, u 119, u 120, u 121, u 122, u 123, u 124, u 125, u 126, u 127, u 128, u 129, u 130, u 131, u 132, u 133, u 134, u 135, u 136, u 137, u 138, u 139, u 140, u 141, u 142, u 143, u 144, u 145, u 146, u 147, u 148, u 149, u 150, u 151], defers := [] }
theorem Fr_of {s : ByteArray} {N : Nat} {v : Value} {at0 : Nat} {code : Int} {ok : Bool} {a : Act} (h : a = { tmps := #[.string s, undef, .slice none 0 0, .pointer (some ⟨N, 0, none⟩), v, .pointer (some ⟨N + 1, 0, none⟩), .int .i64 at0, .int .i64 code, .bool ok, a.tmps.getD 9 undef, a.tmps.getD 10 undef, a.tmps.getD 11 undef, a.tmps.getD 12 undef, a.tmps.getD 13 undef, a.tmps.getD 14 undef, a.tmps.getD 15 undef, a.tmps.getD 16 undef, a.tmps.getD 17 undef, a.tmps.getD 18 undef, a.tmps.getD 19 undef, a.tmps.getD 20 undef, a.tmps.getD 21 undef, a.tmps.getD 22 undef, a.tmps.getD 23 undef, a.tmps.getD 24 undef, a.tmps.getD 25 undef, a.tmps.getD 26 undef, a.tmps.getD 27 undef, a.tmps.getD 28 undef, a.tmps.getD 29 undef, a.tmps.getD 30 undef, a.tmps.getD 31 undef, a.tmps.getD 32 undef, a.tmps.getD 33 undef, a.tmps.getD 34 undef, a.tmps.getD 35 undef, a.tmps.getD 36 undef, a.tmps.getD 37 undef, a.tmps.getD 38 undef, a.tmps.getD 39 undef, a.tmps.getD 40 undef, a.tmps.getD 41 undef, a.tmps.getD 42 undef, a.tmps.getD 43 undef, a.tmps.getD 44 undef, a.tmps.getD 45 undef, a.tmps.getD 46 undef, a.tmps.getD 47 undef, a.tmps.getD 48 undef, a.tmps.getD 49 undef, a.tmps.getD 50 undef, a.tmps.getD 51 undef, a.tmps.getD 52 undef, a.tmps.getD 53 undef, a.tmps.getD 54 undef, a.tmps.getD 55 undef, a.tmps.getD 56 undef, a.tmps.getD 57 undef, a.tmps.getD 58 undef, a.tmps.getD 59 undef, a.tmps.getD 60 undef, a.tmps.getD 61 undef, a.tmps.getD 62 undef, a.tmps.getD 63 undef, a.tmps.getD 64 undef, a.tmps.getD 65 undef, a.tmps.getD 66 undef, a.tmps.getD 67 undef, a.tmps.getD 68 undef, a.tmps.getD 69 undef, a.tmps.getD 70 undef, a.tmps.getD 71 undef, a.tmps.getD 72 undef, a.tmps.getD 73 undef, a.tmps.getD 74 undef, a.tmps.getD 75 undef, a.tmps.getD 76 undef, a.tmps.getD 77 undef, a.tmps.getD 78 undef, a.tmps.getD 79 undef, a.tmps.getD 80 undef, a.tmps.getD 81 undef, a.tmps.getD 82 undef, a.tmps.getD 83 undef, a.tmps.getD 84 undef, a.tmps.getD 85 undef, a.tmps.getD 86 undef, a.tmps.getD 87 undef, a.tmps.getD 88 undef, a.tmps.getD 89 undef, a.tmps.getD 90 undef, a.tmps.getD 91 undef, a.tmps.getD 92 undef, a.tmps.getD 93 undef, a.tmps.getD 94 undef, a.tmps.getD 95 undef, a.tmps.getD 96 undef, a.tmps.getD 97 undef, a.tmps.getD 98 undef, a.tmps.getD 99 undef, a.tmps.getD 100 undef, a.tmps.getD 101 undef, a.tmps.getD 102 undef, a.tmps.getD 103 undef, a.tmps.getD 104 undef, a.tmps.getD 105 undef, a.tmps.getD 106 undef, a.tmps.getD 107 undef, a.tmps.getD 108 undef, a.tmps.getD 109 undef, a.tmps.getD 110 undef, a.tmps.getD 111 undef, a.tmps.getD 112 undef, a.tmps.getD 113 undef, a.tmps.getD 114 undef, a.tmps.getD 115 undef, a.tmps.getD 116 undef, a.tmps.getD 117 undef, a.tmps.getD 118 undef, a.tmps.getD 119 undef, a.tmps.getD 120 undef, a.tmps.getD 121 undef, a.tmps.getD 122 undef, a.tmps.getD 123 undef, a.tmps.getD 124 undef, a.tmps.getD 125 undef, a.tmps.getD 126 undef, a.tmps.getD 127 undef, a.tmps.getD 128 undef, a.tmps.getD 129 undef, a.tmps.getD 130 undef, a.tmps.getD 131 undef, a.tmps.getD 132 undef, a.tmps.getD 133 undef, a.tmps.getD 134 undef, a.tmps.getD 135 undef, a.tmps.getD 136 undef, a.tmps.getD 137 undef, a.tmps.getD 138 undef, a.tmps.getD 139 undef, a.tmps.getD 140 undef, a.tmps.getD 141 undef, a.tmps.getD 142 undef, a.tmps.getD 143 undef, a.tmps.getD 144 undef, a.tmps.getD 145 undef, a.tmps.getD 146 undef, a.tmps.getD 147 undef, a.tmps.getD 148 undef, a.tmps.getD 149 undef, a.tmps.getD 150 undef, a.tmps.getD 151 undef], defers := [] }) : Fr s N v at0 code ok a := ⟨fun i => a.tmps.getD i undef, h⟩
def tokCells (t : Tok) : List Value := [.int .i64 t.kind, .string ⟨t.text.toArray⟩, .int .i64 t.n, .int .i64 t.pos]
def rowOf (ts : List Tok) : List Value := ts.flatMap tokCells
theorem rowOf_snoc (ts : List Tok) (t : Tok) : rowOf (ts ++ [t]) = rowOf ts ++ tokCells t := by simp [rowOf]
theorem rowOf_len (ts : List Tok) : (rowOf ts).length = ts.length * 4 := by
  induction ts with
  | nil => rfl
  | cons t r ih => simp [rowOf, tokCells] at *; omega
/-- What the world holds: below the call's own blocks all is as it was; the result's block, the token's block, the row of the tokens so far. -/
structure Mem (W wr : World) (v : Value) (acc : List Tok) : Prop where
  below : Below W.heap.size W wr
  size : W.heap.size + 2 ≤ wr.heap.size
  f0 : wr.cell? ⟨W.heap.size, 0, none⟩ = some (.int .i64 0)
  f1 : wr.cell? ⟨W.heap.size, 1, none⟩ = some (.int .i64 0)
  ff : ∀ j, wr.frozen? ⟨W.heap.size, j, none⟩ = false
  c : ∀ j, j < 4 → ∃ x, wr.cell? ⟨W.heap.size + 1, j, none⟩ = some x
  fc : ∀ j, wr.frozen? ⟨W.heap.size + 1, j, none⟩ = false
  own : wr.ownsRow (W.heap.size + 2) 33 4 v acc.length (rowOf acc)
theorem Mem.set {W wr : World} {v : Value} {acc : List Tok} (h : Mem W wr v acc) (j : Nat) (x : Value) : Mem W (wr.setCell ⟨W.heap.size + 1, j, none⟩ x) v acc where
  below := h.below.setCell (by simp) _
  size := by have := h.size; simpa using this
  f0 := by rw [World.cell?_setCell_other _ _ _ _ (by simp)]; exact h.f0
  f1 := by rw [World.cell?_setCell_other _ _ _ _ (by simp)]; exact h.f1
  ff := fun i => by rw [World.frozen?_setCell]; exact h.ff i
  c := fun i hi => by
    obtain ⟨y, hy⟩ := h.c i hi
    obtain ⟨z, hz⟩ := cell?_setCell_some (w := wr) (p := ⟨W.heap.size + 1, j, none⟩) (x := x) (q := ⟨W.heap.size + 1, i, none⟩) (v := y) hy
    exact ⟨z, hz⟩
  fc := fun i => by rw [World.frozen?_setCell]; exact h.fc i
  own := ownsRow_setCell_below h.own (by simp) _
theorem Mem.drew {W wr : World} {v : Value} {acc : List Tok} (h : Mem W wr v acc) : Mem W wr.drew v acc where
  below := h.below.drew
  size := h.size
  f0 := h.f0
  f1 := h.f1
  ff := h.ff
  c := h.c
  fc := h.fc
  own := h.own.drew
theorem Mem.grow {W wr w1 : World} {v v1 : Value} {acc : List Tok} {t : Tok} (h : Mem W wr v acc) (o : Obj) (hg : (wr.alloc o).grownBy w1 v.ownBlock)
    (hown : w1.ownsRow (W.heap.size + 2) 33 4 v1 (acc.length + 1) (rowOf acc ++ tokCells t)) : Mem W w1 v1 (acc ++ [t]) := by
  have hlt := h.own.lt
  have hs := h.size
  have hb2 : Below (W.heap.size + 2) wr w1 := ((Below.refl _ wr).alloc hs o).grown hg (by simp; omega) (fun k hk => (hlt k hk).1)
  exact {
    below := h.below.trans (hb2.mono (by omega))
    size := Nat.le_trans hs hb2.size
    f0 := (hb2.cell (p := ⟨W.heap.size, 0, none⟩) (by simp)).trans h.f0
    f1 := (hb2.cell (p := ⟨W.heap.size, 1, none⟩) (by simp)).trans h.f1
    ff := fun j => (hb2.frozen (p := ⟨W.heap.size, j, none⟩) (by simp)).trans (h.ff j)
    c := fun j hj => by obtain ⟨x, hx⟩ := h.c j hj; exact ⟨x, (hb2.cell (p := ⟨W.heap.size + 1, j, none⟩) (by simp)).trans hx⟩
    fc := fun j => (hb2.frozen (p := ⟨W.heap.size + 1, j, none⟩) (by simp)).trans (h.fc j)
    own := by rw [rowOf_snoc, List.length_append]; exact hown }
/-- The same, with what stands in the token's block. -/
structure Tk (W wr : World) (v : Value) (acc : List Tok) (x0 x1 x2 x3 : Value) : Prop where
  mem : Mem W wr v acc
  c0 : wr.cell? ⟨W.heap.size + 1, 0, none⟩ = some x0
  c1 : wr.cell? ⟨W.heap.size + 1, 1, none⟩ = some x1
  c2 : wr.cell? ⟨W.heap.size + 1, 2, none⟩ = some x2
  c3 : wr.cell? ⟨W.heap.size + 1, 3, none⟩ = some x3
theorem cell_set {w : World} {b j : Nat} {x y : Value} (h : w.cell? ⟨b, j, none⟩ = some y) : (w.setCell ⟨b, j, none⟩ x).cell? ⟨b, j, none⟩ = some x := by
  exact World.cell?_setCell_same' _ _ _ (by rw [h]; rfl)
theorem cell_set_ne {w : World} {b j i : Nat} {x y : Value} (h : w.cell? ⟨b, j, none⟩ = some y) (hn : i ≠ j) : (w.setCell ⟨b, i, none⟩ x).cell? ⟨b, j, none⟩ = some y := by
  rw [World.cell?_setCell_other _ _ _ _ (fun e => hn (congrArg Addr.off e))]
  exact h
theorem Tk.set0 {W wr : World} {v : Value} {acc : List Tok} {x0 x1 x2 x3 : Value} (h : Tk W wr v acc x0 x1 x2 x3) (y : Value) : Tk W (wr.setCell ⟨W.heap.size + 1, 0, none⟩ y) v acc y x1 x2 x3 :=
  ⟨h.mem.set 0 y, cell_set h.c0, cell_set_ne h.c1 (by decide), cell_set_ne h.c2 (by decide), cell_set_ne h.c3 (by decide)⟩
theorem Tk.set1 {W wr : World} {v : Value} {acc : List Tok} {x0 x1 x2 x3 : Value} (h : Tk W wr v acc x0 x1 x2 x3) (y : Value) : Tk W (wr.setCell ⟨W.heap.size + 1, 1, none⟩ y) v acc x0 y x2 x3 :=
  ⟨h.mem.set 1 y, cell_set_ne h.c0 (by decide), cell_set h.c1, cell_set_ne h.c2 (by decide), cell_set_ne h.c3 (by decide)⟩
theorem Tk.set2 {W wr : World} {v : Value} {acc : List Tok} {x0 x1 x2 x3 : Value} (h : Tk W wr v acc x0 x1 x2 x3) (y : Value) : Tk W (wr.setCell ⟨W.heap.size + 1, 2, none⟩ y) v acc x0 x1 y x3 :=
  ⟨h.mem.set 2 y, cell_set_ne h.c0 (by decide), cell_set_ne h.c1 (by decide), cell_set h.c2, cell_set_ne h.c3 (by decide)⟩
theorem Tk.set3 {W wr : World} {v : Value} {acc : List Tok} {x0 x1 x2 x3 : Value} (h : Tk W wr v acc x0 x1 x2 x3) (y : Value) : Tk W (wr.setCell ⟨W.heap.size + 1, 3, none⟩ y) v acc x0 x1 x2 y :=
  ⟨h.mem.set 3 y, cell_set_ne h.c0 (by decide), cell_set_ne h.c1 (by decide), cell_set_ne h.c2 (by decide), cell_set h.c3⟩
theorem Tk.drew {W wr : World} {v : Value} {acc : List Tok} {x0 x1 x2 x3 : Value} (h : Tk W wr v acc x0 x1 x2 x3) : Tk W wr.drew v acc x0 x1 x2 x3 := ⟨h.mem.drew, h.c0, h.c1, h.c2, h.c3⟩
theorem Mem.tk {W wr : World} {v : Value} {acc : List Tok} (h : Mem W wr v acc) : ∃ x0 x1 x2 x3, Tk W wr v acc x0 x1 x2 x3 := by
  obtain ⟨x0, h0⟩ := h.c 0 (by omega)
  obtain ⟨x1, h1⟩ := h.c 1 (by omega)
  obtain ⟨x2, h2⟩ := h.c 2 (by omega)
  obtain ⟨x3, h3⟩ := h.c 3 (by omega)
  exact ⟨x0, x1, x2, x3, h, h0, h1, h2, h3⟩
/-- The world under a name of its own, with what is known of it. -/
theorem cut_world {P : Program} {c : Code} {Q : Exit → Act → World → Prop} {a : Act} {w : World} (F : World → Prop) (hF : F w) (h : ∀ w', F w' → c.wp P Q a w') : c.wp P Q a w := h w hF
theorem cut_lands {L : Nat → Act → World → Prop} {l : Nat} {a : Act} {w : World} (F : World → Prop) (hF : F w) (h : ∀ w', F w' → L l a w') : L l a w := h w hF
theorem new_cells (w : World) (l : List Value) (T : TypeId) : ∀ j u, l[j]? = some u → (w.alloc (.cells l.toArray T)).cell? ((⟨w.heap.size, 0, none⟩ : Addr).add j) = some u := by
  intro j u h
  rw [Addr.add_lit, World.cell?_alloc_new]
  simpa using h
theorem one_cells {a c d : Int} {b : ByteArray} : ∀ u ∈ [Value.int .i64 a, .string b, .int .i64 c, .int .i64 d], u.oneCell' = true := by
  intro u hu
  simp at hu
  rcases hu with rfl | rfl | rfl | rfl <;> rfl
theorem first_mem (w : World) : Mem w ((w.alloc (.cells #[.int .i64 0, .int .i64 0] 27)).alloc (.cells #[.int .i64 0, .string ⟨#[]⟩, .int .i64 0, .int .i64 0] 33)) (.slice none 0 0) [] where
  below := ((Below.refl _ _).alloc (Nat.le_refl _) _).alloc (by simp) _
  size := by simp
  f0 := by rw [World.cell?_alloc_past _ _ _ (by simp)]; exact World.cell?_alloc_new _ _ _ _
  f1 := by rw [World.cell?_alloc_past _ _ _ (by simp)]; exact World.cell?_alloc_new _ _ _ _
  ff := fun j => by simp [go_sem]
  c := fun j hj => by
    have e : ∀ x, (#[Value.int .i64 0, .string ⟨#[]⟩, .int .i64 0, .int .i64 0])[j]? = some x → ∃ x, ((w.alloc (.cells #[.int .i64 0, .int .i64 0] 27)).alloc (.cells #[.int .i64 0, .string ⟨#[]⟩, .int .i64 0, .int .i64 0] 33)).cell? ⟨w.heap.size + 1, j, none⟩ = some x := by
      intro x hx
      refine ⟨x, ?_⟩
      rw [World.cell?_alloc_at _ _ _ _ (by simp)]
      exact hx
    rcases (show j = 0 ∨ j = 1 ∨ j = 2 ∨ j = 3 by omega) with rfl | rfl | rfl | rfl
    · exact e _ rfl
    · exact e _ rfl
    · exact e _ rfl
    · exact e _ rfl
  fc := fun j => by simp [go_sem]
  own := World.ownsRow_nil _ _ _ _
/-- What holds when the run comes to the head of the great loop. -/
def AtNext (s : ByteArray) (W : World) (m : Nat) (a : Act) (wr : World) : Prop :=
  ∃ (k : Nat) (v : Value) (code : Int) (ok : Bool) (acc : List Tok), k ≤ s.size ∧ m = s.size - k ∧ acc.length ≤ 2000 ∧ Mem W wr v acc ∧ lexAll (bl s) = fin acc (lexN ((bl s).drop k) k (2000 - acc.length)) ∧ Fr s W.heap.size v k code ok a
/-- What lex.All gives back: the tokens in a row of its own, the fault. -/
def AllPost (s : ByteArray) (W : World) (e : Ending) (w' : World) : Prop :=
  ∃ v, e = .returned (.tuple #[v, .agg #[.int .i64 ((lexAll (bl s)).code : Nat), .int .i64 ((lexAll (bl s)).pos : Nat)]]) ∧ Below W.heap.size W w' ∧ w'.ownsRow W.heap.size 33 4 v (lexAll (bl s)).toks.length (rowOf (lexAll (bl s)).toks)
theorem ownsForm {w : World} {B : Nat} {e : TypeId} {z : Nat} {v : Value} {n : Nat} {xs : List Value} (h : w.ownsRow B e z v n xs) : ∃ a c, v = .slice a n c := by
  rcases h.2 with ⟨rfl, rfl⟩ | ⟨g, cap, _, rfl, _⟩
  · exact ⟨_, _, rfl⟩
  · exact ⟨_, _, rfl⟩
theorem ownsDown {w : World} {B B' : Nat} {e : TypeId} {z : Nat} {v : Value} {n : Nat} {xs : List Value} (h : w.ownsRow B e z v n xs) (hb : B' ≤ B) : w.ownsRow B' e z v n xs := by
  refine ⟨h.1, ?_⟩
  rcases h.2 with h | ⟨g, cap, cur, h1, h2, h3⟩
  · exact .inl h
  · exact .inr ⟨g, cap, cur, h1, Nat.le_trans hb h2, h3⟩
theorem all_done {s : ByteArray} {W w1 : World} {v : Value} {toks : List Tok} (hm : Mem W w1 v toks) (hr : lexAll (bl s) = ⟨0, 0, toks⟩) (x y : Value) :
    AllPost s W (.returned (.tuple #[v, .agg #[.int .i64 0, .int .i64 0]])) ((w1.setCell ⟨W.heap.size, 0, none⟩ x).setCell ⟨W.heap.size, 1, none⟩ y) := by
  refine ⟨v, by rw [hr]; rfl, (hm.below.setCell (Nat.le_refl _) _).setCell (Nat.le_refl _) _, ?_⟩
  rw [hr]
  exact ownsDown (ownsRow_setCell_below (ownsRow_setCell_below hm.own (by simp) _) (by simp) _) (by omega)
theorem all_fault {s : ByteArray} {W w1 : World} {c p : Nat} (hb : Below W.heap.size W w1) (hr : lexAll (bl s) = ⟨c, p, []⟩) :
    AllPost s W (.returned (.tuple #[.slice none 0 0, .agg #[.int .i64 c, .int .i64 p]])) w1 := by
  refine ⟨.slice none 0 0, by rw [hr], hb, ?_⟩
  rw [hr]
  exact World.ownsRow_nil _ _ _ _
theorem mem_takeWhile {p : UInt8 → Bool} {c : UInt8} : ∀ {l : List UInt8}, c ∈ l.takeWhile p → p c = true := by
  intro l
  induction l with
  | nil => intro h; cases h
  | cons a r ih =>
    intro h
    rw [List.takeWhile_cons] at h
    split at h
    · rename_i ha
      rcases List.mem_cons.1 h with rfl | h
      · exact ha
      · exact ih h
    · cases h
theorem ext_str (s : ByteArray) (a b : Nat) : s.extract a b = ⟨(((bl s).drop a).take (b - a)).toArray⟩ := by
  have e : ∀ x : ByteArray, x = ⟨(bl x).toArray⟩ := fun x => by unfold bl; simp
  exact (e _).trans (by rw [ext_bl])
section
variable {s : ByteArray} {k : Nat} {acc : List Tok}
theorem at_end (h : s.size ≤ k) (room : Nat) : fin acc (lexN ((bl s).drop k) k room) = ⟨0, 0, acc ++ [⟨0, [], 0, k⟩]⟩ := by
  rw [bl_end s k h, lexN_nil]; rfl
theorem at_blank (h : k < s.size) (hb : blank s[k] = true) (room : Nat) : fin acc (lexN ((bl s).drop k) k room) = fin acc (lexN ((bl s).drop (k + 1)) (k + 1) room) := by
  rw [bl_drop s k h, lexN_blank _ _ _ hb]
theorem at_remark (h : k < s.size) (hb : s[k].toNat = 35) (room : Nat) : fin acc (lexN ((bl s).drop k) k room) = fin acc (lexN ((bl s).drop (endAt noEnd s k)) (endAt noEnd s k) room) := by
  have e : (bl s).drop (endAt noEnd s k) = ((bl s).drop k).drop (runLen noEnd ((bl s).drop k)) := by rw [List.drop_drop]; rfl
  rw [e]
  unfold endAt
  rw [bl_drop s k h, lexN_remark _ _ _ hb]
theorem at_tok {kind len n : Nat} (h : k < s.size) (hb : blank s[k] = false) (hc : s[k].toNat ≠ 35) (ht : tokOf ((bl s).drop k) = (0, kind, len, n)) (hr : acc.length < 2000) :
    fin acc (lexN ((bl s).drop k) k (2000 - acc.length)) = fin (acc ++ [⟨kind, ((bl s).drop k).take len, n, k⟩]) (lexN ((bl s).drop (k + len)) (k + len) (2000 - (acc ++ [(⟨kind, ((bl s).drop k).take len, n, k⟩ : Tok)]).length)) := by
  obtain ⟨r, hr2⟩ : ∃ r, 2000 - acc.length = r + 1 := ⟨1999 - acc.length, by omega⟩
  have e : 2000 - (acc ++ [(⟨kind, ((bl s).drop k).take len, n, k⟩ : Tok)]).length = r := by simp; omega
  rw [e, hr2, ← List.drop_drop]
  have hd := bl_drop s k h
  have h1 : (tokOf ((bl s).drop k)).1 = 0 := by rw [ht]
  rw [hd] at ht h1 ⊢
  rw [lexN_tok _ _ _ hb hc h1, fin_cons, ht]
theorem at_full {kind len n : Nat} (h : k < s.size) (hb : blank s[k] = false) (hc : s[k].toNat ≠ 35) (ht : tokOf ((bl s).drop k) = (0, kind, len, n)) (hr : acc.length = 2000) :
    fin acc (lexN ((bl s).drop k) k (2000 - acc.length)) = ⟨4, k, []⟩ := by
  have e : 2000 - acc.length = 0 := by omega
  have h1 : (tokOf ((bl s).drop k)).1 = 0 := by rw [ht]
  rw [e]
  rw [bl_drop s k h] at h1 ⊢
  rw [lexN_full _ _ hb hc h1]; rfl
theorem at_bad {e kind len n : Nat} (h : k < s.size) (hb : blank s[k] = false) (hc : s[k].toNat ≠ 35) (ht : tokOf ((bl s).drop k) = (e, kind, len, n)) (he : e ≠ 0) (room : Nat) :
    fin acc (lexN ((bl s).drop k) k room) = ⟨e, k, []⟩ := by
  have h1 : (tokOf ((bl s).drop k)).1 = e := by rw [ht]
  rw [bl_drop s k h] at h1 ⊢
  rw [lexN_bad _ _ _ hb hc (by rw [h1]; exact he), h1]
  unfold fin
  rw [if_neg he]
end
end Go.Proofs.Ytbaffdehhcfffaa.Lx
