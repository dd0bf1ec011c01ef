/-
  A region that draws its order, whose operations only read and whose callees only make new memory: one walk in the order of the text. No conditions.
-/
import Derived.Below
import Derived.BigQuiet
import Derived.Deep.Quiet
import Derived.Deep.QuietTactic
namespace Go.Proofs.Ytabioinmpjfflaa
set_option linter.all false
set_option linter.unusedSimpArgs false
set_option linter.unusedVariables false
set_option maxRecDepth 20000
open Go.RowKit

/-- The world x if nothing of w has turned in it, else w. -/
noncomputable def over (w x : World) : World := @ite World (Below w.heap.size w x) (Classical.propDecidable _) x w
theorem over_below (w x : World) : Below w.heap.size w (over w x) := by
  unfold over
  by_cases h : Below w.heap.size w x
  · rw [if_pos h]; exact h
  · rw [if_neg h]; exact Below.refl _ _
theorem over_self {w x : World} (h : Below w.heap.size w x) : x = over w x := by unfold over; rw [if_pos h]
theorem over_cell (w x : World) (b o : Nat) (h : b < w.heap.size) : (over w x).cell? ⟨b, o, none⟩ = w.cell? ⟨b, o, none⟩ := (over_below w x).cell (p := ⟨b, o, none⟩) h
theorem over_block (w x : World) (b : Nat) (h : b < w.heap.size) : (over w x).heap[b]? = w.heap[b]? := (over_below w x).block b h
theorem wp_region_over {P : Program} {id : Nat} {Q : Exit → Act → World → Prop} {a : Act} {w : World} {l : List Oper} (hm : P.follows .mixedOrders = true) (hB : Region.lexB .any l.toArray = true)
    (h : ∀ W, Below w.heap.size w W → wpQuiet P l.toArray (fun w' => ∃ x, w' = over W x) (fun a' => ∀ w', (∃ x, w' = over W x) → Q .normal a' w') l a) : (Code.region id l.toArray true).wp P Q a w :=
  wp_region_quiet (C := fun w' => ∃ x, w' = over w x) hm hB ⟨_, over_self ⟨rfl, rfl, rfl, Nat.le_refl _, fun _ _ => rfl⟩⟩ (by simpa using h w (Below.refl _ _))
theorem Calls.over_of {P : Program} {f : FuncId} {args : Array Value} {w x : World} {v : Value}
    (h : Calls P f args (over w x) fun e w' => e = .returned v ∧ Below (over w x).heap.size (over w x) w') : Calls P f args (over w x) fun e w'' => e = .returned v ∧ ∃ y, w'' = over w y :=
  h.mono fun _ w' ⟨he, hb⟩ => ⟨he, w', over_self ((over_below w x).trans (hb.mono (over_below w x).size))⟩
theorem Calls.over_same {P : Program} {f : FuncId} {args : Array Value} {w x : World} {v : Value}
    (h : Calls P f args (over w x) fun e w' => e = .returned v ∧ over w x = w') : Calls P f args (over w x) fun e w'' => e = .returned v ∧ ∃ y, w'' = over w y :=
  h.mono fun _ _ ⟨he, hb⟩ => ⟨he, x, hb.symm⟩
end Go.Proofs.Ytabioinmpjfflaa
