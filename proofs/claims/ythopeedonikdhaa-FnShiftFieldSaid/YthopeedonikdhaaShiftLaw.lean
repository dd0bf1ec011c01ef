/-
  Shifts of fields: back and forth, and in two steps. No conditions.
-/
import Derived.Test.YthopeedonikdhaaFieldShift4
namespace Go.Proofs.Ythopeedonikdhaa
set_option linter.all false
set_option linter.unusedSimpArgs false
set_option linter.unusedVariables false
open Go.ChangeShapes Go.WideShapes Go.ChangeAt Go.RowKit

theorem shift_back (X dx M : Int) : ((X + dx) % M + -dx) % M = X % M := by
  rw [Int.emod_add_emod, show X + dx + -dx = X by omega]
theorem shift_two (X a b M : Int) : ((X + a) % M + b) % M = (X + (a + b)) % M := by
  rw [Int.emod_add_emod, Int.add_assoc]
theorem fcol_mod (W X x : Nat) : fcol W (X % (8 * W)) x = fcol W X x := by
  unfold fcol
  rw [Nat.add_mod_mod]
theorem frow_mod (W n Y y : Nat) : frow W n (Y % (8 * (n / W))) y = frow W n Y y := by
  unfold frow
  rw [Nat.add_mod_mod]
theorem fpx_mod (W n X Y : Nat) (p : Nat → Int) (q : Nat → Nat → Int) (x y : Nat) : fpx W n (X % (8 * W)) (Y % (8 * (n / W))) p q x y = fpx W n X Y p q x y := by
  unfold fpx fidx
  rw [fcol_mod, frow_mod]
/-- Shifted there and back, a line is what it was. -/
theorem lnV_back (W n X Y : Nat) (dx dy : Int) (p : Nat → Int) (q : Nat → Nat → Int) (y : Int) : lnV W n ((((X : Int) + dx) % (8 * W) + -dx) % (8 * W)) ((((Y : Int) + dy) % (8 * (n / W)) + -dy) % (8 * (n / W))) p q y = lnV W n X Y p q y := by
  funext j
  rw [shift_back, shift_back]
  unfold lnV
  have e1 : ((X : Int) % (8 * (W : Int))).toNat = X % (8 * W) := by
    rw [show (X : Int) % (8 * (W : Int)) = ((X % (8 * W) : Nat) : Int) by simp]
    exact Int.toNat_natCast _
  have e2 : ((Y : Int) % (8 * ((n : Int) / (W : Int)))).toNat = Y % (8 * (n / W)) := by
    rw [show (Y : Int) % (8 * ((n : Int) / (W : Int))) = ((Y % (8 * (n / W)) : Nat) : Int) by simp]
    exact Int.toNat_natCast _
  rw [e1, e2]
  simp only [Int.toNat_natCast]
  exact fpx_mod W n X Y p q j y.toNat
theorem ishT_c (W : Int) (A : Option Addr) (n c : Nat) (B : Option Addr) (m d : Nat) (X Y dx dy X' Y' : Int) (p : Nat → Int) (q : Nat → Nat → Int) (hv : shv W n m X Y p q dx dy = true) (eX : (X + dx) % (8 * W) = X') (eY : (Y + dy) % (8 * (n / W)) = Y') (w : World) {C C' : Nat} (h : RS w C 1 A n (iv p)) (h' : RS w C' 64 B m (tc q)) (hC : C ≤ w.heap.size) (hC' : C' ≤ w.heap.size) (hn : n ≤ 1048576) (hm : m ≤ 1048576) :
    Calls Try.prog 10 #[fdV W A n c B m d X Y, .int .i64 dx, .int .i64 dy] w (GField W n m X' Y' p q w) := by
  subst eX eY
  exact ish_c W A n c B m d X Y dx dy p q true hv w h h' hC hC' hn hm
theorem half_bounds {x : Int} (h : -255 ≤ x ∧ x ≤ 255) : -128 ≤ x.tdiv 2 ∧ x.tdiv 2 ≤ 128 ∧ -128 ≤ x - x.tdiv 2 ∧ x - x.tdiv 2 ≤ 128 := by
  have h1 := Int.tmod_add_mul_tdiv x 2
  have h2 : -2 < x.tmod 2 := Int.lt_tmod_of_pos x (by omega)
  have h3 : x.tmod 2 < 2 := Int.tmod_lt_of_pos x (by omega)
  omega
end Go.Proofs.Ythopeedonikdhaa
