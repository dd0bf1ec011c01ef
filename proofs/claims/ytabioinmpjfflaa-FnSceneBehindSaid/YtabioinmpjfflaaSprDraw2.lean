/-
  What the drawn sprites and tiles are, as the laws get them. No conditions.
-/
import Derived.Test.YtabioinmpjfflaaSprDraw
import Derived.Test.YtabioinmpjfflaaXYDraw
namespace Go.Proofs.Ytabioinmpjfflaa
set_option linter.all false
set_option linter.unusedSimpArgs false
set_option linter.unusedVariables false
set_option maxRecDepth 20000
open Go.ChangeShapes Go.WideShapes Go.ChangeAt Go.RowKit

/-- What drawn lists are. -/
def SG (w' : World) (A : Option Addr) (n c : Nat) (s : Nat → Spr) (B : Option Addr) (m d : Nat) (q : Nat → Nat → Int) : Prop := RS w' w'.heap.size 6 A n (sc s) ∧ RS w' w'.heap.size 64 B m (tc q) ∧ n ≤ c ∧ m ≤ d ∧ n ≤ 24 ∧ 1 ≤ m ∧ m ≤ 4 ∧ (∃ g, A = some ⟨g, 0, none⟩)
def DS0 (w : World) (e : Ending) (w' : World) : Prop := ∃ A n c s B m d q, e = .returned (.tuple #[.slice A n c, .slice B m d]) ∧ SG w' A n c s B m d q ∧ Below w.heap.size w w'
def DS1 (w : World) (e : Ending) (w' : World) : Prop := ∃ A n c s B m d q, ∃ y : Int, e = .returned (.tuple #[.slice A n c, .slice B m d, .int .i64 y]) ∧ (-1 ≤ y ∧ y ≤ 17) ∧ SG w' A n c s B m d q ∧ Below w.heap.size w w'
def DS2 (w : World) (e : Ending) (w' : World) : Prop := ∃ A n c s B m d q, ∃ x y : Int, e = .returned (.tuple #[.slice A n c, .slice B m d, .int .i64 x, .int .i64 y]) ∧ SG w' A n c s B m d q ∧ Below w.heap.size w w'
