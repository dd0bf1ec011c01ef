/-
  More plain laws of tiles. No conditions.
-/
import Derived.Test.YtpddgepjlpdfjaaTileLaw
namespace Go.Proofs.Ytpddgepjlpdfjaa
set_option linter.all false
set_option linter.unusedSimpArgs false
set_option linter.unusedVariables false
open Go.ChangeShapes Go.WideShapes Go.ChangeAt Go.RowKit

theorem four_bounds : ∀ (a b c d : Bool), 0 ≤ four a b c d ∧ four a b c d ≤ 15 := by decide +kernel
theorem four_bit : ∀ (a b c d : Bool), (a = true → four a b c d / 2 ^ 0 % 2 = 1) ∧ (b = true → four a b c d / 2 ^ 1 % 2 = 1) ∧ (c = true → four a b c d / 2 ^ 2 % 2 = 1) ∧ (d = true → four a b c d / 2 ^ 3 % 2 = 1) := by decide +kernel
theorem used_bounds {p : Nat → Int} (h : tvd p = true) : 1 ≤ usedK p 64 ∧ usedK p 64 ≤ 15 := by
  have hs : ∀ (a b c d : Bool), (a || b || c || d) = true → 1 ≤ four a b c d := by decide +kernel
  obtain ⟨b0, b1⟩ := inB_true.1 (tvd_true.1 h 0 (by omega))
  rw [used_four p 64 (tvd_true.1 h)]
  refine ⟨hs _ _ _ _ ?_, (four_bounds _ _ _ _).2⟩
  have hh : has p (p 0) 64 = true := has_true.2 ⟨0, by omega, rfl⟩
  rcases (show p 0 = 0 ∨ p 0 = 1 ∨ p 0 = 2 ∨ p 0 = 3 by omega) with e | e | e | e <;> rw [e] at hh <;> simp [hh]
theorem used_bit {p : Nat → Int} (h : tvd p = true) (k : Nat) (hk : k < 64) : usedK p 64 / 2 ^ (p k).toNat % 2 = 1 := by
  obtain ⟨b0, b1⟩ := inB_true.1 (tvd_true.1 h k hk)
  have hh : has p (p k) 64 = true := has_true.2 ⟨k, hk, rfl⟩
  obtain ⟨f0, f1, f2, f3⟩ := four_bit (has p 0 64) (has p 1 64) (has p 2 64) (has p 3 64)
  rw [used_four p 64 (tvd_true.1 h)]
  rcases (show p k = 0 ∨ p k = 1 ∨ p k = 2 ∨ p k = 3 by omega) with e | e | e | e <;> rw [e] at hh ⊢
  · exact f0 hh
  · exact f1 hh
  · exact f2 hh
  · exact f3 hh
theorem tvd_flat {x : Int} (h : inB x 0 3 = true) : tvd (fun _ => x) = true := tvd_true.2 fun _ _ => h
theorem used_flat {x : Int} (h : inB x 0 3 = true) : usedK (fun _ => x) 64 = wrap64 (2 ^ x.toNat) := by
  obtain ⟨b0, b1⟩ := inB_true.1 h
  rcases (show x = 0 ∨ x = 1 ∨ x = 2 ∨ x = 3 by omega) with e | e | e | e <;> subst e <;> decide +kernel
theorem flip_flip (a d : Bool) (p : Nat → Int) : tv (flipP a d (flipP a d p)) = tv p := by
  have h : ∀ (a d : Bool) (j : Fin 64), 8 * fl d ((8 * fl d (j.val / 8) + fl a (j.val % 8)) / 8) + fl a ((8 * fl d (j.val / 8) + fl a (j.val % 8)) % 8) = j.val := by decide +kernel
  exact tv_congr fun i hi => congrArg p (h a d ⟨i, hi⟩)
theorem flip_none (p : Nat → Int) : tv (flipP false false p) = tv p := by
  have h : ∀ j : Fin 64, 8 * fl false (j.val / 8) + fl false (j.val % 8) = j.val := by decide +kernel
  exact tv_congr fun i hi => congrArg p (h ⟨i, hi⟩)
theorem flip_both (p : Nat → Int) : tv (flipP true true p) = tv (turnP (turnP p)) := by
  have h : ∀ j : Fin 64, 8 * fl true (j.val / 8) + fl true (j.val % 8) = ftI (ftI j.val) := by decide +kernel
  exact tv_congr fun i hi => congrArg p (h ⟨i, hi⟩)

end Go.Proofs.Ytpddgepjlpdfjaa
