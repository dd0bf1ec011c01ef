/-
  Plain laws of timers: skipping adds; a timer fires regularly. No conditions.
-/
import Derived.Test.YtnbfaaddhnhphaaTimer
namespace Go.Proofs.Ytnbfaaddhnhphaa
set_option linter.all false
set_option linter.unusedSimpArgs false
set_option linter.unusedVariables false
open Go.ChangeShapes Go.WideShapes Go.ChangeAt Go.RowKit

theorem sk_add {l r f a b : Int} (hl : 0 ≤ l) (hr : 0 ≤ r) (ha : 0 ≤ a) (hb : 0 ≤ b) : skL (skL l r a) r b = skL l r (a + b) ∧ skF (skL l r a) r (skF l r f a) b = skF l r f (a + b) := by
  have hR : 0 < r + 1 := by omega
  have hR0 : r + 1 ≠ 0 := by omega
  unfold skL skF
  by_cases h1 : a ≤ l
  · rw [if_pos h1, if_pos h1]
    by_cases h2 : b ≤ l - a
    · rw [if_pos h2, if_pos h2, if_pos (by omega), if_pos (by omega)]; exact ⟨by omega, rfl⟩
    · rw [if_neg h2, if_neg h2, if_neg (by omega), if_neg (by omega), show b - (l - a + 1) = a + b - (l + 1) by omega]; exact ⟨rfl, rfl⟩
  · rw [if_neg h1, if_neg h1]
    obtain ⟨m, hm⟩ : ∃ m, a - (l + 1) = m := ⟨_, rfl⟩
    have e1 : a + b - (l + 1) = m + b := by omega
    have hm0 : 0 ≤ m := by omega
    rw [if_neg (show ¬ a + b ≤ l by omega), if_neg (show ¬ a + b ≤ l by omega), e1, hm]
    have hs0 := Int.emod_nonneg m hR0
    have hs1 := Int.emod_lt_of_pos m hR
    have hdm := Int.mul_ediv_add_emod m (r + 1)
    obtain ⟨q, hq⟩ : ∃ q, m / (r + 1) = q := ⟨_, rfl⟩
    obtain ⟨s, hs⟩ : ∃ s, m % (r + 1) = s := ⟨_, rfl⟩
    rw [hs] at hs0 hs1 hdm
    rw [hq] at hdm
    rw [hs, hq]
    by_cases h2 : b ≤ r - s
    · rw [if_pos h2, if_pos h2]
      have e2 : m + b = (s + b) + q * (r + 1) := by rw [Int.mul_comm q]; omega
      have e3 : (m + b) / (r + 1) = q := by
        rw [e2, Int.add_mul_ediv_right _ _ hR0, Int.ediv_eq_zero_of_lt (by omega) (by omega)]; omega
      have e4 : (m + b) % (r + 1) = s + b := by
        rw [e2, Int.add_mul_emod_self_right, Int.emod_eq_of_lt (by omega) (by omega)]
      rw [e3, e4]
      exact ⟨by omega, by omega⟩
    · rw [if_neg h2, if_neg h2]
      obtain ⟨c, hc⟩ : ∃ c, b - (r - s + 1) = c := ⟨_, rfl⟩
      rw [hc]
      have e2 : m + b = c + (q + 1) * (r + 1) := by
        rw [Int.add_mul, Int.mul_comm q]; omega
      have e3 : (m + b) / (r + 1) = c / (r + 1) + (q + 1) := by rw [e2, Int.add_mul_ediv_right _ _ hR0]
      have e4 : (m + b) % (r + 1) = c % (r + 1) := by rw [e2, Int.add_mul_emod_self_right]
      rw [e3, e4]
      exact ⟨rfl, by omega⟩
theorem sk_bounds {l r f n : Int} (hl : 0 ≤ l ∧ l ≤ 1000) (hr : 0 ≤ r ∧ r ≤ 1000) (hf : 0 ≤ f ∧ f ≤ 8) (hn : 0 ≤ n ∧ n ≤ 100000) : tmv (skL l r n) r (skF l r f n) = true := by
  refine tmv_mk ?_
  unfold skL skF
  by_cases h : n ≤ l
  · rw [if_pos h, if_pos h]; omega
  · rw [if_neg h, if_neg h]
    have h1 := Int.emod_nonneg (n - (l + 1)) (show r + 1 ≠ 0 by omega)
    have h2 := Int.emod_lt_of_pos (n - (l + 1)) (show 0 < r + 1 by omega)
    have h3 := Int.ediv_nonneg (a := n - (l + 1)) (b := r + 1) (by omega) (by omega)
    have h4 := Int.ediv_le_self (a := n - (l + 1)) (r + 1) (by omega)
    omega
theorem sk_zero (l r f : Int) (hl : 0 ≤ l) : skL l r 0 = l ∧ skF l r f 0 = f := by
  unfold skL skF
  rw [if_pos hl, if_pos hl]
  exact ⟨by omega, rfl⟩
theorem sk_rate {l r f m : Int} (hl : 0 ≤ l) (hlr : l ≤ r) (hm : 0 ≤ m) : skL l r (m * (r + 1)) = l ∧ skF l r f (m * (r + 1)) = f + m := by
  by_cases h0 : m = 0
  · subst h0
    rw [Int.zero_mul]
    have := sk_zero l r f hl
    exact ⟨this.1, by rw [this.2]; omega⟩
  · have hR0 : r + 1 ≠ 0 := by omega
    have e : m * (r + 1) = (m - 1) * (r + 1) + (r + 1) := by rw [Int.sub_mul]; omega
    have hp : 0 ≤ (m - 1) * (r + 1) := Int.mul_nonneg (by omega) (by omega)
    have hgt : ¬ m * (r + 1) ≤ l := by omega
    have e2 : m * (r + 1) - (l + 1) = (r - l) + (m - 1) * (r + 1) := by omega
    unfold skL skF
    rw [if_neg hgt, if_neg hgt, e2, Int.add_mul_ediv_right _ _ hR0, Int.add_mul_emod_self_right, Int.ediv_eq_zero_of_lt (by omega) (by omega), Int.emod_eq_of_lt (by omega) (by omega)]
    exact ⟨by omega, by omega⟩
end Go.Proofs.Ytnbfaaddhnhphaa
