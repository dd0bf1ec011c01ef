/-
  A list of one sprite, or of one tile. No conditions.
-/
import Derived.Test.YtabioinmpjfflaaSceneMem
namespace Go.Proofs.Ytabioinmpjfflaa
set_option linter.all false
set_option linter.unusedSimpArgs false
set_option linter.unusedVariables false
set_option maxRecDepth 20000
open Go.ChangeShapes Go.WideShapes Go.ChangeAt Go.RowKit

theorem lit1_spr (s : Spr) (W : World) : (Instr.buildSlice 27 1 #[(0, spV s)]).run Try.prog W = .ok (.slice (some ⟨W.heap.size, 0, none⟩) 1 1) (W.alloc (.cells #[.int .i64 s.x, .int .i64 s.y, .int .i64 s.num, .bool s.ac, .bool s.dn, .bool s.bh] 38)) := by kernel_rfl

theorem spr_cells {w : World} {g : Nat} {x y num : Int} {ac dn bh : Bool} {t : TypeId} (h : w.heap[g]? = some (.cells #[.int .i64 x, .int .i64 y, .int .i64 num, .bool ac, .bool dn, .bool bh] t (0, 0))) :
    w.cell? ⟨g, 0, none⟩ = some (.int .i64 x) ∧ w.cell? ⟨g, 1, none⟩ = some (.int .i64 y) ∧ w.cell? ⟨g, 2, none⟩ = some (.int .i64 num) ∧ w.cell? ⟨g, 3, none⟩ = some (.bool ac) ∧ w.cell? ⟨g, 4, none⟩ = some (.bool dn) ∧ w.cell? ⟨g, 5, none⟩ = some (.bool bh) := by
  simp [World.cell?, h]

theorem spr_rs (w : World) (x y num : Int) (ac dn bh : Bool) {t : TypeId} : RS (w.alloc (.cells #[.int .i64 x, .int .i64 y, .int .i64 num, .bool ac, .bool dn, .bool bh] t)) (w.alloc (.cells #[.int .i64 x, .int .i64 y, .int .i64 num, .bool ac, .bool dn, .bool bh] t)).heap.size 6 (some ⟨w.heap.size, 0, none⟩) 1 (sc fun _ => ⟨x, y, num, ac, dn, bh⟩) :=
  .inr ⟨w.heap.size, 0, rfl, by simp, fun j hj => by
    obtain ⟨c0, c1, c2, c3, c4, c5⟩ := spr_cells (heap_alloc_new w (.cells #[.int .i64 x, .int .i64 y, .int .i64 num, .bool ac, .bool dn, .bool bh] t))
    rw [Nat.zero_add]
    have h6 : j = 0 ∨ j = 1 ∨ j = 2 ∨ j = 3 ∨ j = 4 ∨ j = 5 := by omega
    rcases h6 with rfl | rfl | rfl | rfl | rfl | rfl
    · exact c0
    · exact c1
    · exact c2
    · exact c3
    · exact c4
    · exact c5⟩

theorem tile_rs (w : World) (p : Nat → Int) {t : TypeId} : RS (w.alloc (.cells (tv p) t)) (w.alloc (.cells (tv p) t)).heap.size 64 (some ⟨w.heap.size, 0, none⟩) 1 (tc fun _ => p) :=
  .inr ⟨w.heap.size, 0, rfl, by simp, fun j hj => by
    rw [Nat.zero_add, (TB.new w t p).cell j (by omega)]
    unfold tc
    rw [show j % 64 = j by omega]⟩
theorem rs_cells_at {w : World} {B sz b o n : Nat} {c : Nat → Value} (h : RS w B sz (some ⟨b, o, none⟩) n c) : ∀ j, j < n * sz → w.cell? ⟨b, o + j, none⟩ = some (c j) := fun j hj => by
  rcases h with h | ⟨b', off, e, hb, hc⟩
  · subst h; omega
  · injection e with e
    injection e with e1 e2
    subst e1 e2
    exact hc j hj
theorem wp_lit1 {P : Program} {o : Oper} {a : Act} {w : World} {K : Act → World → Prop} {Q : Exit → Act → World → Prop} (ty : TypeId) (x : Operand) (ho : o.op = .buildSlice ty 1 #[(0, x)]) (v : Value) (hx : a.eval x = v) (w' : World) (u : Value) (hr : (Instr.buildSlice ty 1 #[(0, v)]).run P w = .ok u w')
    (h : K (a.put o.dst u) w') : o.wp P a w K Q := by
  have hr' : (execOp a.eval o).run P w = .ok (.value u) w' := by
    unfold execOp
    rw [ho]
    simp [Sem.run_bind, hx, hr]
  unfold Oper.wp
  rw [hr']
  exact h
theorem spr_rs1 (w : World) (x y num : Int) (ac dn bh : Bool) {t : TypeId} : RS (w.alloc (.cells #[.int .i64 x, .int .i64 y, .int .i64 num, .bool ac, .bool dn, .bool bh] t)) (w.heap.size + 1) 6 (some ⟨w.heap.size, 0, none⟩) 1 (sc fun _ => ⟨x, y, num, ac, dn, bh⟩) := by
  have := spr_rs w x y num ac dn bh (t := t)
  rwa [World.size_alloc] at this

end Go.Proofs.Ytabioinmpjfflaa
