/-
  Lists of numbers: copied, compared, marked and looked at again. Conditions: at most 1048576 numbers.
-/
import Derived.Test.YtncajejomeidlaaSlice
import Derived.OwnWalk
import Derived.IntWalk
namespace Go.Proofs.Ytncajejomeidlaa
set_option linter.all false
set_option linter.unusedSimpArgs false
set_option linter.unusedVariables false
open Go.ChangeShapes Go.WideShapes Go.ChangeAt Go.RowKit

theorem info3 : (Try.prog.info? 3).map (fun i => (i.zero, i.size, i.bytes)) = some (some (.int .i64 0), 1, 8) := by kernel_rfl
theorem makeInts (n : Nat) (hn : n ≤ 1048576) (W : World) : (Instr.makeSlice 47 (.int .i64 (n : Int)) (.int .i64 (n : Int))).run Try.prog W = .ok (.slice (some ⟨W.heap.size, 0, none⟩) n n) (W.alloc (.cells (ca n fun _ => .int .i64 0) 3)) := by
  obtain ⟨i, hi, hz, hs, hb⟩ := info_parts info3
  have hr := run_make (P := Try.prog) W 47 3 i _ Try.underlying47 hi hz .i64 .i64 n n (by omega) (by omega) (by rw [hb]; omega) (by omega)
  rw [hr, hs]
  simp only [Int.toNat_natCast, Nat.mul_one, Value.cells]
  rw [made_ca]

end Go.Proofs.Ytncajejomeidlaa
