/- A law on code with labels: a jump to a label is walked on from that label; by induction a jump back. No program. Conditions: none. -/
import Derived.ScopeJumps
import Derived.WalkKit
import Derived.Lib.Hide
namespace Go.Proofs.Ytbaffdehhcfffaa.Lands
open Go.RowKit
variable {P : Program}
/-- A goto: J; any other way out: Q. -/
def jumps (J : Nat → Act → World → Prop) (Q : Exit → Act → World → Prop) : Exit → Act → World → Prop
  | .goto l, a, w => J l a w
  | e, a, w => Q e a w
theorem jumps_goto (J : Nat → Act → World → Prop) (Q : Exit → Act → World → Prop) (l : Nat) (a : Act) (w : World) : jumps J Q (.goto l) a w = J l a w := rfl
theorem jumps_ret (J : Nat → Act → World → Prop) (Q : Exit → Act → World → Prop) (a : Act) (w : World) : jumps J Q .ret a w = Q .ret a w := rfl
/-- From a label of the scope's code on, the run comes to an end of the scope as Q says. -/
def lands (P : Program) (c : Code) (Q : Exit → Act → World → Prop) (l : Nat) (a : Act) (w : World) : Prop :=
  ∃ rest, findLabel c l = some rest ∧ ∀ b k cs, ∃ e a₁ w₁, Q e a₁ w₁ ∧ Arrives P (lone (b.at a (.code rest :: .inScope c :: k)) cs w) b k cs e a₁ w₁
theorem lands_of {c rest : Code} {Q : Exit → Act → World → Prop} {l : Nat} {a : Act} {w : World} (hf : findLabel c l = some rest) (h : rest.wp P (jumps (lands P c Q) Q) a w) : lands P c Q l a w := by
  refine ⟨rest, hf, fun b k cs => ?_⟩
  obtain ⟨e, a₁, w₁, hq, harr⟩ := h b (.inScope c :: k) cs
  cases e with
  | normal => exact ⟨.normal, a₁, w₁, hq, Steps.trans harr (.one step_inScope)⟩
  | exit id => exact ⟨.exit id, a₁, w₁, hq, fun k' hk => harr k' (by simp [exitTo, hk])⟩
  | goto l' =>
    obtain ⟨rest', hf', h'⟩ := (hq : lands P c Q l' a₁ w₁)
    obtain ⟨e₂, a₂, w₂, hq₂, harr₂⟩ := h' b k cs
    have hg : gotoIn l' (.inScope c :: k) = some (.code rest' :: .inScope c :: k) := by simp [gotoIn, hf']
    exact ⟨e₂, a₂, w₂, hq₂, .of_steps (harr _ hg) harr₂⟩
  | ret => exact ⟨_, a₁, w₁, hq, harr⟩
  | panic ch => exact ⟨_, a₁, w₁, hq, harr⟩
  | outgrown => exact ⟨_, a₁, w₁, hq, harr⟩
theorem scope_of {c : Code} {Q : Exit → Act → World → Prop} {a : Act} {w : World} (h : c.wp P (jumps (lands P c Q) Q) a w) : (Code.scope c).wp P Q a w := by
  intro b k cs
  obtain ⟨e, a₁, w₁, hq, harr⟩ := h b (.inScope c :: k) cs
  cases e with
  | normal => exact ⟨.normal, a₁, w₁, hq, .head step_scope (Steps.trans harr (.one step_inScope))⟩
  | exit id => exact ⟨.exit id, a₁, w₁, hq, fun k' hk => .head step_scope (harr k' (by simp [exitTo, hk]))⟩
  | goto l =>
    obtain ⟨rest', hf', h'⟩ := (hq : lands P c Q l a₁ w₁)
    obtain ⟨e₂, a₂, w₂, hq₂, harr₂⟩ := h' b k cs
    have hg : gotoIn l (.inScope c :: k) = some (.code rest' :: .inScope c :: k) := by simp [gotoIn, hf']
    exact ⟨e₂, a₂, w₂, hq₂, .of_steps (.head step_scope (harr _ hg)) harr₂⟩
  | ret => exact ⟨_, a₁, w₁, hq, .of_steps (.one step_scope) harr⟩
  | panic ch => exact ⟨_, a₁, w₁, hq, .of_steps (.one step_scope) harr⟩
  | outgrown => exact ⟨_, a₁, w₁, hq, .of_steps (.one step_scope) harr⟩
/-- A scope in which the run comes back to one label: what holds at each coming back (J), a number that falls; every other jump is walked on. -/
theorem scope_loop {c rest : Code} {Q : Exit → Act → World → Prop} {a : Act} {w : World} (l : Nat) (J : Nat → Act → World → Prop) (hf : findLabel c l = some (Code.skip.seq rest))
    (first : ∀ L : Nat → Act → World → Prop, Hid (∀ m a' w', J m a' w' → rest.wp P (jumps L Q) a' w') → c.wp P (jumps L Q) a w)
    (step : ∀ L : Nat → Act → World → Prop, Hid (∀ l' rest' a' w', findLabel c l' = some rest' → rest'.wp P (jumps L Q) a' w' → L l' a' w') → ∀ m a' w', Hid (∀ m' a'' w'', m' < m → J m' a'' w'' → L l a'' w'') → J m a' w' → rest.wp P (jumps L Q) a' w') : (Code.scope c).wp P Q a w := by
  have key : ∀ m a' w', J m a' w' → rest.wp P (jumps (lands P c Q) Q) a' w' := by
    intro m
    induction m using Nat.strongRecOn with
    | _ m ih => intro a' w' hJ; exact step _ (Lib.hid fun l' rest' a' w' h1 h2 => lands_of h1 h2) m a' w' (Lib.hid fun m' a'' w'' hlt h => lands_of hf (wp_seq (wp_skip (ih m' hlt a'' w'' h)))) hJ
  exact scope_of (first _ (Lib.hid key))
end Go.Proofs.Ytbaffdehhcfffaa.Lands
