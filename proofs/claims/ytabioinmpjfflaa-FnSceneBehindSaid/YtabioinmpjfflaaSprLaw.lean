/-
  For the laws of sprites. No conditions.
-/
import Derived.Test.YtabioinmpjfflaaSprDraw2
import Derived.Test.YtabioinmpjfflaaSprTop2
import Derived.BigFrame
namespace Go.Proofs.Ytabioinmpjfflaa
set_option linter.all false
set_option linter.unusedSimpArgs false
set_option linter.unusedVariables false
set_option maxRecDepth 20000
open Go.ChangeShapes Go.WideShapes Go.ChangeAt Go.RowKit

theorem wpList_unguard {P : Program} {ops : Array Oper} {Q : Exit → Act → World → Prop} {a : Act} {w : World} {rest : List Oper} {dst : Option Tmp} {op : Op} {ot : TypeId} {pos : String} {after : Array Edge} {gd : Option (Nat × Bool)}
    (hw : Region.wanted ⟨dst, op, ot, pos, after, gd⟩ (yielded ops a.tmps) = true) (h : wpList P ops Q (⟨dst, op, ot, pos, after, none⟩ :: rest) a w) : wpList P ops Q (⟨dst, op, ot, pos, after, gd⟩ :: rest) a w := by
  unfold wpList at h ⊢
  rw [if_pos hw]
  rw [if_pos (by simp [Region.wanted])] at h
  exact h
theorem atApp {P : Program} {ops : Array Oper} {Q : Exit → Act → World → Prop} {a : Act} {w : World} {rest : List Oper} {dst : Option Tmp} {xs : Array Operand} {ts : Array TypeId} {ot : TypeId} {pos : String} {after : Array Edge} {gd : Option (Nat × Bool)}
    (h : wpList P ops Q (⟨dst, .call { callee := .builtin .append, args := xs, argTypes := ts }, ot, pos, after, gd⟩ :: rest) a w) : wpList P ops Q (⟨dst, .call { callee := .builtin .append, args := xs, argTypes := ts }, ot, pos, after, gd⟩ :: rest) a w := h
/-- The cells of a list, told from its block's beginning. -/
theorem RS.cells {w : World} {B sz g n : Nat} {c : Nat → Value} (h : RS w B sz (some ⟨g, 0, none⟩) n c) : ∀ j, j < n * sz → w.cell? ⟨g, 0 + j, none⟩ = some (c j) := fun j hj => by
  rcases h with h | ⟨b, off, e, hb, hc⟩
  · subst h; rw [Nat.zero_mul] at hj; omega
  · injection e with e
    injection e with e1 e2
    subst e1 e2
    exact hc j hj
/-- Half of valid sprites. -/
theorem svd_part {n m k : Nat} {s : Nat → Spr} {q : Nat → Nat → Int} (h : svd n m s q = true) (hk : k ≤ n) : svd k m s q = true := by
  obtain ⟨h1, h2, h3, h4⟩ := svd_parts h
  unfold svd
  rw [decide_eq_true (show k ≤ 12 by omega), decide_eq_true h2, h3, sov_true.2 (fun i hi => h4 i (by omega))]
  rfl
/-- A sprite with an unknown tile. -/
theorem svd_more {n m : Nat} {s s' : Nat → Spr} {q : Nat → Nat → Int} (h : sok m (s' n) = false) : svd (n + 1) m s' q = false := by
  unfold svd
  rw [sov_no (Nat.lt_succ_self n) h]
  simp
end Go.Proofs.Ytabioinmpjfflaa
