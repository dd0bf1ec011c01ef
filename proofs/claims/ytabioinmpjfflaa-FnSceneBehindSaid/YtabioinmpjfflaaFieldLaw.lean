/-
  Plain laws of fields. No conditions.
-/
import Derived.Test.YtabioinmpjfflaaFieldPx2
namespace Go.Proofs.Ytabioinmpjfflaa
set_option linter.all false
set_option linter.unusedSimpArgs false
set_option linter.unusedVariables false
set_option maxRecDepth 20000
open Go.ChangeShapes Go.WideShapes Go.ChangeAt Go.RowKit

theorem fvd_parts {W : Int} {n m : Nat} {X Y : Int} {p : Nat → Int} {q : Nat → Nat → Int} (h : fvd W n m X Y p q = true) :
    (∀ X' Y', inB X' 0 255 = true → inB Y' 0 255 = true → fvd W n m X' Y' p q = true) ∧ tsv m q = true ∧ inB X 0 255 = true ∧ inB Y 0 255 = true := by
  unfold fvd at h
  simp only [Bool.and_eq_true] at h
  obtain ⟨⟨⟨⟨⟨⟨⟨h1, h2⟩, h3⟩, h4⟩, h5⟩, h6⟩, h7⟩, h8⟩ := h
  refine ⟨fun X' Y' hX hY => ?_, h5, h6, h7⟩
  unfold fvd
  simp only [Bool.and_eq_true]
  exact ⟨⟨⟨⟨⟨⟨⟨h1, h2⟩, h3⟩, h4⟩, h5⟩, hX⟩, hY⟩, h8⟩
theorem fpx_bounds {W n m X Y : Nat} {p : Nat → Int} {q : Nat → Nat → Int} (hok : FOK W n m p) (ht : tsv m q = true) (x y : Nat) : 0 ≤ fpx W n X Y p q x y ∧ fpx W n X Y p q x y ≤ 3 := by
  have hi := fidx_lt hok X Y x y
  obtain ⟨h0, h1⟩ := hok.num _ hi
  unfold fpx
  have hk : (p (fidx W n X Y x y)).toNat < m := by omega
  exact inB_true.1 (tvd_true.1 (tsv_true.1 ht _ hk) _ (by omega))
theorem fpr_yes {W n m X Y : Nat} {p : Nat → Int} {q : Nat → Nat → Int} {x y : Nat} (h : fvd W n m X Y p q = true) (hx : x ≤ 31) (hy : y ≤ 15) : fpr W n m X Y p q x y = fpx W n X Y p q x y := by
  unfold fpr
  rw [h, inB_true.2 (show (0 : Int) ≤ x ∧ (x : Int) ≤ 31 by omega), inB_true.2 (show (0 : Int) ≤ y ∧ (y : Int) ≤ 15 by omega)]
  simp
theorem fpx_table (W n X Y : Nat) (p : Nat → Int) (q : Nat → Nat → Int) (x y : Nat) : fpx W n (X + 8 * W) Y p q x y = fpx W n X Y p q x y := by
  have e : fcol W (X + 8 * W) x = fcol W X x := by
    unfold fcol
    rw [← Nat.add_assoc, Nat.add_mod_right]
  unfold fpx fidx
  rw [e]
theorem fpx_one (W n X Y : Nat) (p : Nat → Int) (q : Nat → Nat → Int) (x y : Nat) (hx : 1 ≤ x) : fpx W n (X + 1) Y p q (x - 1) y = fpx W n X Y p q x y := by
  have e : fcol W (X + 1) (x - 1) = fcol W X x := by
    unfold fcol
    rw [show x - 1 + (X + 1) = x + X by omega]
  unfold fpx fidx
  rw [e]
/-- The value of FieldPixel of any arguments. -/
theorem fpr_cases {W : Int} {n m : Nat} {X Y : Int} {p : Nat → Int} {q : Nat → Nat → Int} {x y : Int} : fpr W n m X Y p q x y = -1 ∨
    ∃ W' X' Y' x' y' : Nat, W = W' ∧ X = X' ∧ Y = Y' ∧ x = x' ∧ y = y' ∧ X' ≤ 255 ∧ Y' ≤ 255 ∧ x' ≤ 31 ∧ y' ≤ 15 ∧ FOK W' n m p ∧ fvd W' n m X' Y' p q = true ∧ fpr W n m X Y p q x y = fpx W' n X' Y' p q x' y' := by
  cases h : fvd W n m X Y p q && inB x 0 31 && inB y 0 15
  · exact .inl (fpr_no h)
  · simp only [Bool.and_eq_true] at h
    obtain ⟨⟨hv, hx⟩, hy⟩ := h
    have hv' := hv
    obtain ⟨W', X', Y', rfl, rfl, rfl, hX, hY, hok⟩ := fok_of hv
    obtain ⟨x0, x1⟩ := inB_true.1 hx
    obtain ⟨y0, y1⟩ := inB_true.1 hy
    obtain ⟨x', rfl⟩ := Int.eq_ofNat_of_zero_le x0
    obtain ⟨y', rfl⟩ := Int.eq_ofNat_of_zero_le y0
    exact .inr ⟨W', X', Y', x', y', rfl, rfl, rfl, rfl, rfl, hX, hY, by omega, by omega, hok, hv', fpr_yes hv' (by omega) (by omega)⟩
end Go.Proofs.Ytabioinmpjfflaa
