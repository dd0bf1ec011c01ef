/-
  The contracts of UsedValues, TurnTile and FlipTile, in the program and in the reference. No conditions.
-/
import Derived.Test.YtncajejomeidlaaTile
import Derived.IntWalk
namespace Go.Proofs.Ytncajejomeidlaa
set_option linter.all false
set_option linter.unusedSimpArgs false
set_option linter.unusedVariables false
open Go.ChangeShapes Go.WideShapes Go.ChangeAt Go.RowKit

/-- Which values the first k pixels use. -/
def usedK (p : Nat → Int) : Nat → Int
  | 0 => 0
  | k + 1 => bits .or .i64 (usedK p k) (wrap64 (2 ^ (p k).toNat))

def usedR (v : Bool) (p : Nat → Int) : Int := if v = true then usedK p 64 else 0
theorem usedR_false (p : Nat → Int) : usedR false p = 0 := by unfold usedR; rw [if_neg (by decide)]
theorem usedR_true (p : Nat → Int) : usedR true p = usedK p 64 := by unfold usedR; rw [if_pos rfl]

/-! ### Turning -/
def turnP (p : Nat → Int) : Nat → Int := fun j => p (8 * (7 - j % 8) + j / 8)
def turnK (p : Nat → Int) (k : Nat) : Nat → Int := fun j => if 8 * (7 - j % 8) + j / 8 < k then turnP p j else 0
theorem turn_at : ∀ k : Fin 64, ∀ j : Fin 64, (j.val = 8 * (k.val % 8) + 7 - k.val / 8) ↔ (8 * (7 - j.val % 8) + j.val / 8 = k.val) := by decide +kernel
theorem turn_lt : ∀ j : Fin 64, 8 * (7 - j.val % 8) + j.val / 8 < 64 := by decide +kernel
theorem turn_to : ∀ k : Fin 64, 8 * (k.val % 8) + 7 - k.val / 8 < 64 := by decide +kernel
theorem step_plain (p : Nat → Int) (k m : Nat) (x : Prop) [Decidable x] (h : x ↔ m = k) : (if x then p k else if m < k then p m else 0) = if m < k + 1 then p m else 0 := by
  by_cases e : x
  · have e2 : m = k := h.1 e
    subst e2
    rw [if_pos e, if_pos (Nat.lt_succ_self _)]
  · rw [if_neg e]
    have e2 : m ≠ k := fun y => e (h.2 y)
    by_cases hm : m < k
    · rw [if_pos hm, if_pos (Nat.lt_succ_of_lt hm)]
    · rw [if_neg hm, if_neg (fun y => (Nat.lt_or_eq_of_le (Nat.le_of_lt_succ y)).elim hm e2)]
theorem turn_step (p : Nat → Int) (k : Nat) (hk : k < 64) : ∀ j, j < 64 → upd (turnK p k) (8 * (k % 8) + 7 - k / 8) (p k) j = turnK p (k + 1) j := fun j hj =>
  step_plain p k (8 * (7 - j % 8) + j / 8) (j = 8 * (k % 8) + 7 - k / 8) (turn_at ⟨k, hk⟩ ⟨j, hj⟩)
theorem turn_end (p : Nat → Int) : ∀ j, j < 64 → turnK p 64 j = turnP p j := fun j hj => if_pos (turn_lt ⟨j, hj⟩)

def turnR (v : Bool) (p : Nat → Int) : Nat → Int := if v = true then turnP p else zeroT

end Go.Proofs.Ytncajejomeidlaa
