/-
  The contracts of the pixels of fields in the program and in the reference. Conditions: the field is valid, the place is in the picture.
-/
import Derived.Test.YthopeedonikdhaaFieldValid
import Derived.IntWalk
namespace Go.Proofs.Ythopeedonikdhaa
set_option linter.all false
set_option linter.unusedSimpArgs false
set_option linter.unusedVariables false
open Go.ChangeShapes Go.WideShapes Go.ChangeAt Go.RowKit

/-- A valid field, in numbers that are not negative. -/
structure FOK (W n m : Nat) (p : Nat → Int) : Prop where
  w1 : 1 ≤ W
  w8 : W ≤ 8
  mul : n = W * (n / W)
  h1 : 1 ≤ n / W
  h8 : n / W ≤ 8
  m1 : 1 ≤ m
  m16 : m ≤ 16
  num : ∀ i, i < n → 0 ≤ p i ∧ p i < m
/-- Column and row in the table's picture. -/
def fcol (W X x : Nat) : Nat := (x + X) % (8 * W)
def frow (W n Y y : Nat) : Nat := (y + Y) % (8 * (n / W))
def fidx (W n X Y x y : Nat) : Nat := frow W n Y y / 8 * W + fcol W X x / 8
theorem fidx_lt {W n m : Nat} {p : Nat → Int} (h : FOK W n m p) (X Y x y : Nat) : fidx W n X Y x y < n := by
  have h1 : fcol W X x < 8 * W := Nat.mod_lt _ (by have := h.w1; omega)
  have h2 : frow W n Y y < 8 * (n / W) := Nat.mod_lt _ (by have := h.h1; omega)
  have h3 : fcol W X x / 8 < W := by omega
  have h4 : frow W n Y y / 8 + 1 ≤ n / W := by omega
  have h5 : (frow W n Y y / 8 + 1) * W ≤ n / W * W := Nat.mul_le_mul_right _ h4
  have h6 : n / W * W = n := by rw [Nat.mul_comm]; exact h.mul.symm
  rw [Nat.add_mul] at h5
  unfold fidx
  omega
/-- The pixel. -/
def fpx (W n X Y : Nat) (p : Nat → Int) (q : Nat → Nat → Int) (x y : Nat) : Int := q (p (fidx W n X Y x y)).toNat (frow W n Y y % 8 * 8 + fcol W X x % 8)
theorem fok_of {W : Int} {n m : Nat} {X Y : Int} {p : Nat → Int} {q : Nat → Nat → Int} (h : fvd W n m X Y p q = true) : ∃ W' X' Y' : Nat, W = W' ∧ X = X' ∧ Y = Y' ∧ X' ≤ 255 ∧ Y' ≤ 255 ∧ FOK W' n m p := by
  unfold fvd at h
  simp only [Bool.and_eq_true, beq_iff_eq] at h
  obtain ⟨⟨⟨⟨⟨⟨⟨h1, h2⟩, h3⟩, h4⟩, h5⟩, h6⟩, h7⟩, h8⟩ := h
  rw [inB_true] at h1 h3 h4 h6 h7
  obtain ⟨W', rfl⟩ := Int.eq_ofNat_of_zero_le (show 0 ≤ W by omega)
  obtain ⟨X', rfl⟩ := Int.eq_ofNat_of_zero_le (show 0 ≤ X by omega)
  obtain ⟨Y', rfl⟩ := Int.eq_ofNat_of_zero_le (show 0 ≤ Y by omega)
  have e1 : n % W' = 0 := by
    have : ((n % W' : Nat) : Int) = 0 := by rw [Int.natCast_emod]; exact h2
    omega
  have e2 : ((n : Int) / (W' : Int)) = ((n / W' : Nat) : Int) := by rw [Int.natCast_ediv]
  rw [e2] at h3
  refine ⟨W', X', Y', rfl, rfl, rfl, by omega, by omega, by omega, by omega, ?_, by omega, by omega, by omega, by omega, fun i hi => ?_⟩
  · have := Nat.div_add_mod n W'
    omega
  · have := inB_true.1 (msv_true.1 h8 i hi)
    omega
