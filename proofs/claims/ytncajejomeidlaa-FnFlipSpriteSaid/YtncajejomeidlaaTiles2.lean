/-
  Lists of tiles: compared; are all valid? Conditions: at most 1048576 tiles.
-/
import Derived.Test.YtncajejomeidlaaTiles
import Derived.Test.YtncajejomeidlaaOver
import Derived.ChangeKeysEq
import Derived.Laws.StructEq
namespace Go.Proofs.Ytncajejomeidlaa
set_option linter.all false
set_option linter.unusedSimpArgs false
set_option linter.unusedVariables false
open Go.ChangeShapes Go.WideShapes Go.ChangeAt Go.RowKit

section
variable {ops : Array Oper} {rest : List Oper} {o : Oper} {a : Act} {W : World} {Q : Act → Prop}
theorem atQLoad {C : World → Prop} {dst : Option Tmp} {ty ot : TypeId} {x : Operand} {pos : String} {after : Array Edge} {gd : Option (Nat × Bool)} (h : wpQuiet Try.prog ops C Q (⟨dst, .load ty x, ot, pos, after, gd⟩ :: rest) a) : wpQuiet Try.prog ops C Q (⟨dst, .load ty x, ot, pos, after, gd⟩ :: rest) a := h
theorem wpQuiet_load_tile_mid (hw : Region.wanted o (yielded ops a.tmps) = true) (x : Operand) (ho : o.op = .load 35 x) (b i : Nat) (hx : a.eval x = .pointer (some ⟨b, i, none⟩)) (p : Nat → Int) (hT : W.rangeAt b i (tv p).toList) (hb : b < W.heap.size)
    (h : wpQuiet Try.prog ops (fun w' => ∃ x, w' = over W x) Q rest (a.put o.dst (.agg (tv p)))) : wpQuiet Try.prog ops (fun w' => ∃ x, w' = over W x) Q (o :: rest) a :=
  BigFrame.wpQuiet_want hw fun K hK => ⟨.agg (tv p), fun w ⟨z, hz⟩ => by
    have L := run_loadAt_mid (P := Try.prog) (over W z) b i 35 (tv p).toList _ (rangeAt_below hT (over_below W z) hb) Try.underlying35 rfl (by rw [tv_list]; exact size35)
    simp only [Array.toArray_toList] at L
    subst hz
    unfold Oper.quietAt execOp
    rw [ho]
    simp [Sem.run_bind, hx, L, Oper.quietUpon], hK _ h⟩
end

end Go.Proofs.Ytncajejomeidlaa
