/-
  A block of three numbers. No conditions.
-/
import Derived.Test.YtnbfaaddhnhphaaRd
namespace Go.Proofs.Ytnbfaaddhnhphaa
set_option linter.all false
set_option linter.unusedSimpArgs false
set_option linter.unusedVariables false
open Go.ChangeShapes Go.WideShapes Go.ChangeAt Go.RowKit

/-- Block g holds the three numbers (t: the type that its block bears). -/
def B3 (w : World) (g : Nat) (t : TypeId) (x y z : Int) : Prop := w.heap[g]? = some (.cells #[.int .i64 x, .int .i64 y, .int .i64 z] t (0, 0))
section
variable {w w' : World} {g : Nat} {t : TypeId} {x y z : Int}
theorem B3.lt (h : B3 w g t x y z) : g < w.heap.size := by
  rcases Nat.lt_or_ge g w.heap.size with hlt | hge
  · exact hlt
  · unfold B3 at h; rw [Array.getElem?_eq_none hge] at h; cases h
theorem B3.new (w : World) (t : TypeId) (x y z : Int) : B3 (w.alloc (.cells #[.int .i64 x, .int .i64 y, .int .i64 z] t)) w.heap.size t x y z := heap_alloc_new w _
theorem B3.new1 (w : World) (o : Obj) (t : TypeId) (x y z : Int) : B3 ((w.alloc o).alloc (.cells #[.int .i64 x, .int .i64 y, .int .i64 z] t)) (w.heap.size + 1) t x y z := by
  have := B3.new (w.alloc o) t x y z
  rwa [World.size_alloc] at this
theorem B3.drew (h : B3 w g t x y z) : B3 w.drew g t x y z := h
theorem B3.drewN (h : B3 w g t x y z) (n : Nat) : B3 (w.drewN n) g t x y z := h
theorem B3.below {B : Nat} (h : B3 w g t x y z) (hb : Below B w w') (hg : g < B) : B3 w' g t x y z := (hb.block g hg).trans h
theorem B3.only {R : Nat} (h : B3 w g t x y z) (hb : Only R w w') (hg : g ≠ R) : B3 w' g t x y z := (hb.block g h.lt (by intro e; injection e; omega)).trans h
theorem B3.alloc (h : B3 w g t x y z) (o : Obj) : B3 (w.alloc o) g t x y z := (Below.heap_alloc w o g h.lt).trans h
theorem B3.far (h : B3 w g t x y z) {a : Addr} (ha : g ≠ a.block) (v : Value) : B3 (w.setCell a v) g t x y z := (Below.heap_setCell w a v g ha).trans h
theorem B3.cells (h : B3 w g t x y z) : w.cell? ⟨g, 0, none⟩ = some (.int .i64 x) ∧ w.cell? ⟨g, 1, none⟩ = some (.int .i64 y) ∧ w.cell? ⟨g, 2, none⟩ = some (.int .i64 z) := by
  unfold B3 at h
  simp [World.cell?, h]
theorem B3.free (h : B3 w g t x y z) : w.frozen? ⟨g, 0, none⟩ = false ∧ w.frozen? ⟨g, 1, none⟩ = false ∧ w.frozen? ⟨g, 2, none⟩ = false := by
  unfold B3 at h
  simp [World.frozen?, h]
theorem B3.put (h : B3 w g t x y z) (a b c : Int) : B3 (((w.setCell ⟨g, 0, none⟩ (.int .i64 a)).setCell ⟨g, 1, none⟩ (.int .i64 b)).setCell ⟨g, 2, none⟩ (.int .i64 c)) g t a b c := by
  unfold B3 at h ⊢
  simp [World.setCell, Array.getElem?_modify, h]
theorem B3.put0 (h : B3 w g t x y z) (a : Int) : B3 (w.setCell ⟨g, 0, none⟩ (.int .i64 a)) g t a y z := by
  unfold B3 at h ⊢
  simp [World.setCell, Array.getElem?_modify, h]
theorem B3.put1 (h : B3 w g t x y z) (a : Int) : B3 (w.setCell ⟨g, 1, none⟩ (.int .i64 a)) g t x a z := by
  unfold B3 at h ⊢
  simp [World.setCell, Array.getElem?_modify, h]
theorem B3.put2 (h : B3 w g t x y z) (a : Int) : B3 (w.setCell ⟨g, 2, none⟩ (.int .i64 a)) g t x y a := by
  unfold B3 at h ⊢
  simp [World.setCell, Array.getElem?_modify, h]
end
end Go.Proofs.Ytnbfaaddhnhphaa
