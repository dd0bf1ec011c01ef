/-
  A slice that reads as a list, in a block from a given one on. No conditions.
-/
import Derived.Test.YtabioinmpjfflaaSceneMem
namespace Go.Proofs.Ytabioinmpjfflaa
set_option linter.all false
set_option linter.unusedSimpArgs false
set_option linter.unusedVariables false
set_option maxRecDepth 20000
open Go.ChangeShapes Go.WideShapes Go.ChangeAt Go.RowKit

/-- A slice that reads as c, in a block from base on. -/
def RT (w : World) (base sz : Nat) (A : Option Addr) (n : Nat) (c : Nat → Value) : Prop := n = 0 ∨ ∃ b off, A = some ⟨b, off, none⟩ ∧ base ≤ b ∧ b < w.heap.size ∧ ∀ j, j < n * sz → w.cell? ⟨b, off + j, none⟩ = some (c j)
section
variable {w w' : World} {base sz n : Nat} {A : Option Addr} {c : Nat → Value}
theorem RT.keep (h : RT w base sz A n c) (hs : w.heap.size ≤ w'.heap.size) (hk : ∀ i, base ≤ i → i < w.heap.size → w'.heap[i]? = w.heap[i]?) : RT w' base sz A n c := by
  rcases h with h | ⟨b, off, rfl, h1, h2, h3⟩
  · exact .inl h
  · exact .inr ⟨b, off, rfl, h1, by omega, fun j hj => (World.cell?_of_block (w := w) (a := ⟨b, off + j, none⟩) (hk b h1 h2)).trans (h3 j hj)⟩
theorem RT.alloc (h : RT w base sz A n c) (o : Obj) : RT (w.alloc o) base sz A n c := h.keep (by simp) fun i _ hi => Below.heap_alloc w o i hi
theorem RT.far (h : RT w base sz A n c) {p : Addr} (hp : p.block < base) (v : Value) : RT (w.setCell p v) base sz A n c := h.keep (by simp) fun i hi _ => Below.heap_setCell w p v i (by omega)
theorem RT.only {R : Nat} (h : RT w base sz A n c) (hO : Only R w w') (hR : R < base) : RT w' base sz A n c := h.keep hO.size fun i hi hl => hO.block i hl (by intro e; injection e; omega)
theorem RT.below {B : Nat} (h : RT w base sz A n c) (hb : Below B w w') (hB : w.heap.size ≤ B) : RT w' base sz A n c := h.keep hb.size fun i _ hi => hb.block i (by omega)
theorem RT.lower {base' : Nat} (h : RT w base sz A n c) (hb : base' ≤ base) : RT w base' sz A n c := by
  rcases h with h | ⟨b, off, e, h1, h2⟩
  · exact .inl h
  · exact .inr ⟨b, off, e, by omega, h2⟩
theorem RT.drew (h : RT w base sz A n c) : RT w.drew base sz A n c := h
theorem RT.rs (h : RT w base sz A n c) : RS w w.heap.size sz A n c := by
  rcases h with h | ⟨b, off, e, _, h2, h3⟩
  · exact .inl h
  · exact .inr ⟨b, off, e, h2, h3⟩
theorem own_rt {t : TypeId} {cap : Nat} (h : w.ownsRow base t sz (.slice A n cap) n ((List.range (n * sz)).map c)) : RT w base sz A n c := by
  by_cases h0 : n = 0
  · exact .inl h0
  · obtain ⟨g, rfl, h1, h2⟩ := own_head h (by omega)
    refine .inr ⟨g, 0, rfl, h1, h2, fun j hj => ?_⟩
    rw [Nat.zero_add]
    exact (h.cellAt j hj).trans (map_get hj)
end
end Go.Proofs.Ytabioinmpjfflaa
