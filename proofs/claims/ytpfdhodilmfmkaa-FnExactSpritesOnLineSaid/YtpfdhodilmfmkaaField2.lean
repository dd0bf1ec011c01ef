/-
  Fields: measured, copied, compared. Conditions: at most 1048576 numbers and tiles.
-/
import Derived.Test.YtpfdhodilmfmkaaField
namespace Go.Proofs.Ytpfdhodilmfmkaa
set_option linter.all false
set_option linter.unusedSimpArgs false
set_option linter.unusedVariables false
open Go.ChangeShapes Go.WideShapes Go.ChangeAt Go.RowKit

theorem szTileS_c (A : Option Addr) (n cap : Nat) (left : Int) (w : World) (hl : 0 ≤ left ∧ left ≤ 1048576) (hn : n ≤ 9223372036854775807) :
    Calls Try.prog 18 #[.slice A n cap, .int .i64 left] w fun e w' => e = .returned (.int .i64 (if (n : Int) ≤ left then left - n else -1)) ∧ w = w' := by
  have e1 : IntKind.i64.wrap (left - (n : Int)) = left - n := IntWalk.i64_in _ (by omega)
  by_cases h : (n : Int) ≤ left
  · rw [if_pos h]
    have h1 : ¬ left - (n : Int) < 0 := by omega
    go_enter Try.func18, Try.ntmps18
    go_wp2
    go_ret
    exact ⟨rfl, rfl⟩
  · rw [if_neg h]
    have h1 : left - (n : Int) < 0 := by omega
    go_enter Try.func18, Try.ntmps18
    go_wp2
    go_ret
    exact ⟨rfl, rfl⟩

/-- A new field, its lists the call's own. -/
def GField (W : Int) (n m : Nat) (X Y : Int) (p : Nat → Int) (q : Nat → Nat → Int) (w : World) (e : Ending) (w' : World) : Prop :=
  ∃ (A : Option Addr) (c : Nat) (B : Option Addr) (d : Nat), e = .returned (fdV W A n c B m d X Y) ∧ w'.ownsRow w.heap.size 3 1 (.slice A n c) n ((List.range (n * 1)).map (iv p)) ∧
    w'.ownsRow w.heap.size 55 64 (.slice B m d) m ((List.range (m * 64)).map (tc q)) ∧ ((Value.slice B m d).ownBlock = none ∨ (Value.slice B m d).ownBlock ≠ (Value.slice A n c).ownBlock) ∧ Below w.heap.size w w'

end Go.Proofs.Ytpfdhodilmfmkaa
