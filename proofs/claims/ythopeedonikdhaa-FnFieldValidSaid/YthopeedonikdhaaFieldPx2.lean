/-
  The contracts of FieldPixel in the program and in the reference. Conditions: at most 1048576 tiles and numbers.
-/
import Derived.Test.YthopeedonikdhaaFieldPx
namespace Go.Proofs.Ythopeedonikdhaa
set_option linter.all false
set_option linter.unusedSimpArgs false
set_option linter.unusedVariables false
open Go.ChangeShapes Go.WideShapes Go.ChangeAt Go.RowKit

/-- The value of FieldPixel. -/
def fpr (W : Int) (n m : Nat) (X Y : Int) (p : Nat → Int) (q : Nat → Nat → Int) (x y : Int) : Int :=
  if (fvd W n m X Y p q && inB x 0 31 && inB y 0 15) = true then fpx W.toNat n X.toNat Y.toNat p q x.toNat y.toNat else -1
theorem fpr_no {W : Int} {n m : Nat} {X Y : Int} {p : Nat → Int} {q : Nat → Nat → Int} {x y : Int} (h : (fvd W n m X Y p q && inB x 0 31 && inB y 0 15) = false) : fpr W n m X Y p q x y = -1 := by
  unfold fpr; rw [h]; rfl

end Go.Proofs.Ythopeedonikdhaa
