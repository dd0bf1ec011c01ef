/-
  Fields: measured, copied, compared. Conditions: at most 1048576 numbers and tiles.
-/
import Derived.Test.YthopeedonikdhaaField
namespace Go.Proofs.Ythopeedonikdhaa
set_option linter.all false
set_option linter.unusedSimpArgs false
set_option linter.unusedVariables false
open Go.ChangeShapes Go.WideShapes Go.ChangeAt Go.RowKit

/-- A new field, its lists the call's own. -/
def GField (W : Int) (n m : Nat) (X Y : Int) (p : Nat → Int) (q : Nat → Nat → Int) (w : World) (e : Ending) (w' : World) : Prop :=
  ∃ (A : Option Addr) (c : Nat) (B : Option Addr) (d : Nat), e = .returned (fdV W A n c B m d X Y) ∧ w'.ownsRow w.heap.size 3 1 (.slice A n c) n ((List.range (n * 1)).map (iv p)) ∧
    w'.ownsRow w.heap.size 45 64 (.slice B m d) m ((List.range (m * 64)).map (tc q)) ∧ ((Value.slice B m d).ownBlock = none ∨ (Value.slice B m d).ownBlock ≠ (Value.slice A n c).ownBlock) ∧ Below w.heap.size w w'

end Go.Proofs.Ythopeedonikdhaa
