/-
  The bytes of a tile, and the tile of bytes: plain laws. No conditions.
-/
import Derived.Test.YtpddgepjlpdfjaaTile
namespace Go.Proofs.Ytpddgepjlpdfjaa
set_option linter.all false
set_option linter.unusedSimpArgs false
set_option linter.unusedVariables false
open Go.ChangeShapes Go.WideShapes Go.ChangeAt Go.RowKit

/-- m binary digits, the first one the highest. -/
def rf (d : Nat → Int) : Nat → Int
  | 0 => 0
  | m + 1 => 2 * rf d m + d m
/-- The binary digit number h (0 or 1) of pixel k. -/
def dg (p : Nat → Int) (k h : Nat) : Int := if h = 0 then p k % 2 else p k / 2 % 2
/-- Byte r of a tile. -/
def tb (p : Nat → Int) (r : Nat) : Int := rf (fun x => dg p (r % 8 * 8 + x) (r / 8)) 8
/-- Pixel k of the tile of bytes l. -/
def rt (l : Nat → Int) (k : Nat) : Int := l (k / 8) / 2 ^ (7 - k % 8) % 2 + 2 * (l (8 + k / 8) / 2 ^ (7 - k % 8) % 2)
/-- The bytes behind k pixels. -/
def tbK (p : Nat → Int) (k : Nat) (j : Nat) : Int := rf (fun x => dg p (j % 8 * 8 + x) (j / 8)) (min 8 (k - j % 8 * 8))

theorem dg_01 (p : Nat → Int) (k h : Nat) : dg p k h = 0 ∨ dg p k h = 1 := by unfold dg; split <;> omega
theorem rf_bound (d : Nat → Int) (h : ∀ x, d x = 0 ∨ d x = 1) : ∀ m, m ≤ 8 → 0 ≤ rf d m ∧ rf d m < 2 ^ m
  | 0, _ => by simp [rf]
  | m + 1, hm => by
    have ih := rf_bound d h m (by omega)
    have e : (2 : Int) ^ (m + 1) = 2 * 2 ^ m := by rw [Int.pow_succ, Int.mul_comm]
    rw [e]
    show 0 ≤ 2 * rf d m + d m ∧ 2 * rf d m + d m < _
    rcases h m with e | e <;> rw [e] <;> omega
theorem rf_le (d : Nat → Int) (h : ∀ x, d x = 0 ∨ d x = 1) (m : Nat) (hm : m ≤ 8) : 0 ≤ rf d m ∧ rf d m ≤ 255 := by
  have h1 := rf_bound d h m hm
  have h2 : (2 : Int) ^ m ≤ 2 ^ 8 := by
    have := Nat.pow_le_pow_right (show 0 < 2 by omega) hm
    exact_mod_cast this
  omega
theorem tb_byte (p : Nat → Int) (r : Nat) : 0 ≤ tb p r ∧ tb p r ≤ 255 := rf_le _ (fun x => dg_01 _ _ _) 8 (Nat.le_refl _)
theorem tbK_byte (p : Nat → Int) (k r : Nat) : 0 ≤ tbK p k r ∧ tbK p k r ≤ 255 := rf_le _ (fun x => dg_01 _ _ _) _ (Nat.min_le_left _ _)
theorem tbK_0 (p : Nat → Int) (j : Nat) : tbK p 0 j = 0 := by unfold tbK; rw [Nat.zero_sub, Nat.min_zero]; rfl
theorem tbK_end (p : Nat → Int) (j : Nat) : tbK p 64 j = tb p j := by
  unfold tbK tb
  rw [show min 8 (64 - j % 8 * 8) = 8 by omega]
theorem tbK_same (p : Nat → Int) (k j : Nat) (h : j % 8 ≠ k / 8) : tbK p (k + 1) j = tbK p k j := by
  unfold tbK
  rw [show min 8 (k + 1 - j % 8 * 8) = min 8 (k - j % 8 * 8) by omega]
theorem tbK_next (p : Nat → Int) (k j : Nat) (h : j % 8 = k / 8) : tbK p (k + 1) j = 2 * tbK p k j + dg p k (j / 8) := by
  unfold tbK
  rw [show min 8 (k + 1 - j % 8 * 8) = k % 8 + 1 by omega, show min 8 (k - j % 8 * 8) = k % 8 by omega]
  show 2 * rf _ _ + dg p (j % 8 * 8 + k % 8) _ = _
  rw [show j % 8 * 8 + k % 8 = k by omega]
theorem tbK_step (p : Nat → Int) (k : Nat) (hk : k < 64) (j : Nat) (hj : j < 16) :
    upd (upd (tbK p k) (k / 8) (2 * tbK p k (k / 8) + dg p k 0)) (8 + k / 8) (2 * tbK p k (8 + k / 8) + dg p k 1) j = tbK p (k + 1) j := by
  unfold upd
  by_cases h1 : j = 8 + k / 8
  · rw [if_pos h1, h1, tbK_next p k _ (by omega), show (8 + k / 8) / 8 = 1 by omega]
  · rw [if_neg h1]
    by_cases h2 : j = k / 8
    · rw [if_pos h2, h2, tbK_next p k _ (by omega), show k / 8 / 8 = 0 by omega]
    · rw [if_neg h2, tbK_same p k j (by omega)]

theorem digit (d : Nat → Int) (h : ∀ x, d x = 0 ∨ d x = 1) : ∀ m x, x < m → rf d m / 2 ^ (m - 1 - x) % 2 = d x
  | 0, x, hx => absurd hx (Nat.not_lt_zero _)
  | m + 1, x, hx => by
    show (2 * rf d m + d m) / 2 ^ (m + 1 - 1 - x) % 2 = d x
    by_cases e : x = m
    · subst e
      rw [show x + 1 - 1 - x = 0 by omega, Int.pow_zero, Int.ediv_one]
      have := h x
      omega
    · have ih := digit d h m x (by omega)
      rw [show m + 1 - 1 - x = (m - 1 - x) + 1 by omega, Int.pow_succ, Int.mul_comm (2 ^ (m - 1 - x)) 2, ← Int.ediv_ediv_of_nonneg (by omega : (0 : Int) ≤ 2)]
      have := h m
      rw [show (2 * rf d m + d m) / 2 = rf d m by omega]
      exact ih
theorem digit8 (d : Nat → Int) (h : ∀ x, d x = 0 ∨ d x = 1) (x : Nat) (hx : x < 8) : rf d 8 / 2 ^ (7 - x) % 2 = d x := digit d h 8 x hx
theorem rt_tb (p : Nat → Int) (hv : tvd p = true) : ∀ k, k < 64 → rt (tb p) k = p k := fun k hk => by
  have hb := inB_true.1 (tvd_true.1 hv k hk)
  have h0 := digit8 (fun x => dg p (k / 8 % 8 * 8 + x) (k / 8 / 8)) (fun x => dg_01 _ _ _) (k % 8) (by omega)
  have h1 := digit8 (fun x => dg p ((8 + k / 8) % 8 * 8 + x) ((8 + k / 8) / 8)) (fun x => dg_01 _ _ _) (k % 8) (by omega)
  unfold rt tb
  rw [h0, h1, show k / 8 % 8 * 8 + k % 8 = k by omega, show k / 8 / 8 = 0 by omega, show (8 + k / 8) % 8 * 8 + k % 8 = k by omega, show (8 + k / 8) / 8 = 1 by omega]
  unfold dg
  simp
  omega
theorem byte_rf : ∀ u : Fin 256, rf (fun x => ((u.val : Nat) : Int) / 2 ^ (7 - x) % 2) 8 = ((u.val : Nat) : Int) := by decide +kernel
theorem rt_dg (l : Nat → Int) (k h : Nat) (hh : h < 2) : dg (rt l) k h = l (8 * h + k / 8) / 2 ^ (7 - k % 8) % 2 := by
  unfold dg rt
  rcases (show h = 0 ∨ h = 1 by omega) with e | e <;> subst e <;> simp <;> omega
theorem rf_congr {d e : Nat → Int} (h : ∀ x, x < 8 → d x = e x) : ∀ m, m ≤ 8 → rf d m = rf e m
  | 0, _ => rfl
  | m + 1, hm => by
    show 2 * rf d m + d m = 2 * rf e m + e m
    rw [rf_congr h m (by omega), h m (by omega)]
theorem tb_rt (l : Nat → Int) (hl : ∀ r, r < 16 → 0 ≤ l r ∧ l r ≤ 255) : ∀ r, r < 16 → tb (rt l) r = l r := fun r hr => by
  obtain ⟨a, b⟩ := hl r hr
  obtain ⟨u, hu⟩ := Int.eq_ofNat_of_zero_le a
  have := byte_rf ⟨u, by omega⟩
  unfold tb
  rw [rf_congr (e := fun x => l r / 2 ^ (7 - x) % 2) (fun x hx => by
    rw [rt_dg l _ _ (by omega), show 8 * (r / 8) + (r % 8 * 8 + x) / 8 = r by omega, show (r % 8 * 8 + x) % 8 = x by omega]) 8 (Nat.le_refl _), hu]
  exact this
theorem rt_valid (l : Nat → Int) : tvd (rt l) = true := tvd_true.2 fun i _ => inB_true.2 (by unfold rt; omega)
end Go.Proofs.Ytpddgepjlpdfjaa
