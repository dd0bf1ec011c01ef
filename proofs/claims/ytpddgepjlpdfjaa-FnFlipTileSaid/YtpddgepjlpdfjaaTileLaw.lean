/-
  The plain laws of turning, flipping and the used values. No conditions.
-/
import Derived.Test.YtpddgepjlpdfjaaTile2
import Derived.Test.YtpddgepjlpdfjaaTile3
namespace Go.Proofs.Ytpddgepjlpdfjaa
set_option linter.all false
set_option linter.unusedSimpArgs false
set_option linter.unusedVariables false
open Go.ChangeShapes Go.WideShapes Go.ChangeAt Go.RowKit

theorem turn4 : ∀ j : Fin 64, (fun i : Nat => 8 * (7 - i % 8) + i / 8) ((fun i : Nat => 8 * (7 - i % 8) + i / 8) ((fun i : Nat => 8 * (7 - i % 8) + i / 8) ((fun i : Nat => 8 * (7 - i % 8) + i / 8) j.val))) = j.val := by decide +kernel
theorem turn_four (p : Nat → Int) : tv (turnP (turnP (turnP (turnP p)))) = tv p := tv_congr fun i hi => congrArg p (turn4 ⟨i, hi⟩)
def ftI (j : Nat) : Nat := 8 * (7 - j % 8) + j / 8
def flI (j : Nat) : Nat := 8 * fl false (j / 8) + fl true (j % 8)
theorem turn_mirror : ∀ j : Fin 64, flI (ftI (flI (ftI j.val))) = j.val := by decide +kernel
theorem turn_flip (p : Nat → Int) : tv (turnP (flipP true false (turnP (flipP true false p)))) = tv p := tv_congr fun i hi => congrArg p (turn_mirror ⟨i, hi⟩)
theorem tvd_turn {p : Nat → Int} (h : tvd p = true) : tvd (turnP p) = true := tvd_true.2 fun i hi => tvd_true.1 h _ (turn_lt ⟨i, hi⟩)
theorem tvd_flip {p : Nat → Int} (a d : Bool) (h : tvd p = true) : tvd (flipP a d p) = true := tvd_true.2 fun i hi => tvd_true.1 h _ (flip_lt a d hi)

def has (p : Nat → Int) (v : Int) (k : Nat) : Bool := (List.range k).any fun i => p i == v
def four (a b c d : Bool) : Int := a.toInt + 2 * b.toInt + 4 * c.toInt + 8 * d.toInt
theorem or_four : ∀ (a b c d : Bool), bits .or .i64 (four a b c d) (wrap64 (2 ^ (0 : Int).toNat)) = four true b c d ∧ bits .or .i64 (four a b c d) (wrap64 (2 ^ (1 : Int).toNat)) = four a true c d ∧ bits .or .i64 (four a b c d) (wrap64 (2 ^ (2 : Int).toNat)) = four a b true d ∧ bits .or .i64 (four a b c d) (wrap64 (2 ^ (3 : Int).toNat)) = four a b c true := by decide +kernel
theorem has_succ (p : Nat → Int) (v : Int) (k : Nat) : has p v (k + 1) = (has p v k || p k == v) := by simp [has, List.range_succ]
theorem used_four (p : Nat → Int) : ∀ k, (∀ i, i < k → inB (p i) 0 3 = true) → usedK p k = four (has p 0 k) (has p 1 k) (has p 2 k) (has p 3 k)
  | 0, _ => rfl
  | k + 1, h => by
    have ih := used_four p k fun i hi => h i (by omega)
    obtain ⟨b0, b1⟩ := inB_true.1 (h k (by omega))
    obtain ⟨o0, o1, o2, o3⟩ := or_four (has p 0 k) (has p 1 k) (has p 2 k) (has p 3 k)
    rw [usedK, ih]
    simp only [has_succ]
    rcases (show p k = 0 ∨ p k = 1 ∨ p k = 2 ∨ p k = 3 by omega) with e | e | e | e <;> rw [e] <;> simp_all
theorem has_true {p : Nat → Int} {v : Int} {k : Nat} : has p v k = true ↔ ∃ i, i < k ∧ p i = v := by simp [has]
theorem has_turn (p : Nat → Int) (v : Int) : has (turnP p) v 64 = has p v 64 := by
  have back : ∀ k : Fin 64, ∃ j : Fin 64, 8 * (7 - j.val % 8) + j.val / 8 = k.val := by decide +kernel
  rw [Bool.eq_iff_iff, has_true, has_true]
  constructor
  · rintro ⟨i, hi, e⟩; exact ⟨_, turn_lt ⟨i, hi⟩, e⟩
  · rintro ⟨i, hi, e⟩
    obtain ⟨j, hj⟩ := back ⟨i, hi⟩
    exact ⟨j.val, j.isLt, by unfold turnP; rw [hj]; exact e⟩
theorem used_turn {p : Nat → Int} (h : tvd p = true) : usedK (turnP p) 64 = usedK p 64 := by
  rw [used_four p 64 (tvd_true.1 h), used_four (turnP p) 64 (tvd_true.1 (tvd_turn h)), has_turn, has_turn, has_turn, has_turn]

end Go.Proofs.Ytpddgepjlpdfjaa
