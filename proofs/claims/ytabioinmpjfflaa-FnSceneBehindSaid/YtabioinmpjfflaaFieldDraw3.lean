/-
  What the drawn fields are, as the laws get them. No conditions.
-/
import Derived.Test.YtabioinmpjfflaaFieldDraw
import Derived.Test.YtabioinmpjfflaaXYDraw
namespace Go.Proofs.Ytabioinmpjfflaa
set_option linter.all false
set_option linter.unusedSimpArgs false
set_option linter.unusedVariables false
set_option maxRecDepth 20000
open Go.ChangeShapes Go.WideShapes Go.ChangeAt Go.RowKit

/-- What a drawn field is. -/
def FG (w' : World) (W : Int) (A : Option Addr) (n c : Nat) (B : Option Addr) (m d : Nat) (X Y : Int) : Prop := ∃ (p : Nat → Int) (q : Nat → Nat → Int), RS w' w'.heap.size 1 A n (iv p) ∧ RS w' w'.heap.size 64 B m (tc q) ∧ n ≤ c ∧ m ≤ d ∧ n ≤ 100 ∧ m ≤ 100
theorem fg_mk {w' : World} {base : Nat} {W : Int} {A : Option Addr} {n c : Nat} {B : Option Addr} {m d : Nat} {X Y : Int} (h1 : IS w' base 1 A n) (h2 : IS w' base 64 B m) (h3 : n ≤ c) (h4 : m ≤ d) (h5 : n ≤ 100) (h6 : m ≤ 100) : FG w' W A n c B m d X Y := by
  obtain ⟨p, hp⟩ := h1.read
  obtain ⟨q, hq⟩ := h2.readT
  exact ⟨p, q, hp, hq, h3, h4, h5, h6⟩
def DF0 (w : World) (e : Ending) (w' : World) : Prop := ∃ (W : Int) (A : Option Addr) (n c : Nat) (B : Option Addr) (m d : Nat) (X Y : Int), e = .returned (fdV W A n c B m d X Y) ∧ FG w' W A n c B m d X Y ∧ Below w.heap.size w w'
def DF1 (w : World) (e : Ending) (w' : World) : Prop := ∃ (W : Int) (A : Option Addr) (n c : Nat) (B : Option Addr) (m d : Nat) (X Y y : Int), e = .returned (.tuple #[fdV W A n c B m d X Y, .int .i64 y]) ∧ (-1 ≤ y ∧ y ≤ 17) ∧ FG w' W A n c B m d X Y ∧ Below w.heap.size w w'
def DF2 (w : World) (e : Ending) (w' : World) : Prop := ∃ (W : Int) (A : Option Addr) (n c : Nat) (B : Option Addr) (m d : Nat) (X Y x y : Int), e = .returned (.tuple #[fdV W A n c B m d X Y, .int .i64 x, .int .i64 y]) ∧ FG w' W A n c B m d X Y ∧ Below w.heap.size w w'
