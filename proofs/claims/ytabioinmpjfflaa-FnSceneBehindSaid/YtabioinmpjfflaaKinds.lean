/-
  The kinds of the values that a drawing region yields. No conditions.
-/
import Derived.Test.YtabioinmpjfflaaTyped
import Derived.IntWalk
namespace Go.Proofs.Ytabioinmpjfflaa
set_option linter.all false
set_option linter.unusedSimpArgs false
set_option linter.unusedVariables false
set_option maxRecDepth 20000
open Go.ChangeShapes Go.WideShapes Go.ChangeAt Go.RowKit

/-- Block b is a row of n numbers, each of which meets p. -/
def Row (w : World) (b n : Nat) (p : Int → Prop) : Prop := ∃ cs, w.heap[b]? = some (.cells cs 3 (0, 0)) ∧ ∀ j, j < n → ∃ x : Int, cs[j]? = some (.int .i64 x) ∧ p x
def kIs (u v : Value) : Prop := v = u
def kNat (n : Int) (v : Value) : Prop := ∃ m : Nat, ((m : Int) < n ∨ m = 0) ∧ v = .int .i64 m
def kInt (p : Int → Prop) (v : Value) : Prop := ∃ x : Int, p x ∧ v = .int .i64 x
def kRow (n : Nat) (p : Int → Prop) (v : Value) (w : World) : Prop := ∃ b, v = .slice (some ⟨b, 0, none⟩) n n ∧ Row w b n p
def kElem (p : Int → Prop) (v : Value) (w : World) : Prop := ∃ b i n, v = .pointer (some ⟨b, i, none⟩) ∧ i < n ∧ Row w b n p
/-- Rows of numbers stay; boxes stay boxes. -/
def Ext (Bx : World → Nat → Prop) (w w' : World) : Prop := (∀ (b : Nat) (cs : Array Value), w.heap[b]? = some (Obj.cells cs 3 (0, 0)) → w'.heap[b]? = some (Obj.cells cs 3 (0, 0))) ∧ ∀ b, Bx w b → Bx w' b
section
variable {Bx : World → Nat → Prop} {w w' : World}
theorem Ext.refl (Bx : World → Nat → Prop) (w : World) : Ext Bx w w := ⟨fun _ _ h => h, fun _ h => h⟩
theorem Row.ext {b n : Nat} {p : Int → Prop} (h : Row w b n p) (e : Ext Bx w w') : Row w' b n p := by
  obtain ⟨cs, h1, h2⟩ := h
  exact ⟨cs, e.1 _ _ h1, h2⟩
theorem kRow.ext {n : Nat} {p : Int → Prop} {v : Value} (h : kRow n p v w) (e : Ext Bx w w') : kRow n p v w' := by
  obtain ⟨b, h1, h2⟩ := h
  exact ⟨b, h1, h2.ext e⟩
theorem kElem.ext {p : Int → Prop} {v : Value} (h : kElem p v w) (e : Ext Bx w w') : kElem p v w' := by
  obtain ⟨b, i, n, h1, h2, h3⟩ := h
  exact ⟨b, i, n, h1, h2, h3.ext e⟩
theorem Row.cell {b n : Nat} {p : Int → Prop} (h : Row w b n p) {i : Nat} (hin : i < n) : ∃ x : Int, w.cell? ⟨b, i, none⟩ = some (.int .i64 x) ∧ p x := by
  obtain ⟨cs, h1, h2⟩ := h
  obtain ⟨x, hx, h3⟩ := h2 i hin
  exact ⟨x, by rw [cell_of_row w b i cs _ _ h1, hx], h3⟩
theorem lt_of_heap {b : Nat} {o : Obj} (h : w.heap[b]? = some o) : b < w.heap.size := by
  rcases Nat.lt_or_ge b w.heap.size with hlt | hge
  · exact hlt
  · rw [Array.getElem?_eq_none hge] at h; cases h
/-- A step that turns the reader alone keeps all. -/
theorem Ext.only {R : Nat} {k : Int} (hR : Rd w R k) (hO : Only R w w') (hB : ∀ b, Bx w b → (∀ i, i ≠ R → i < w.heap.size → w'.heap[i]? = w.heap[i]?) → Bx w' b) : Ext Bx w w' := by
  refine ⟨fun b cs h => ?_, fun b h => hB b h fun i hi hl => hO.block i hl (by intro e; injection e; omega)⟩
  have hne : b ≠ R := by
    rintro rfl
    obtain ⟨_, _, _, _, h', _⟩ := hR
    rw [h] at h'
    injection h' with h'
    injection h' with _ h'
    exact absurd h' (by decide)
  exact (hO.block b (lt_of_heap h) (by intro e; injection e; omega)).trans h
theorem Ext.alloc (o : Obj) (hB : ∀ b, Bx w b → (∀ i, i < w.heap.size → (w.alloc o).heap[i]? = w.heap[i]?) → Bx (w.alloc o) b) : Ext Bx w (w.alloc o) :=
  ⟨fun b cs h => (Below.heap_alloc w o b (lt_of_heap h)).trans h, fun b h => hB b h fun i hi => Below.heap_alloc w o i hi⟩
end
theorem typed_val {P : Program} {o : Oper} {a : Act} {w : World} {K : Act → World → Prop} {Q : Exit → Act → World → Prop} (v : Value) (h : (execOp a.eval o).run P w = .ok (.value v) w) (hk : K (a.put o.dst v) w) : o.wp P a w K Q := by
  unfold Oper.wp; rw [h]; exact hk
theorem ext_alloc {Bx : World → Nat → Prop} {w : World} (o : Obj) (hB : ∀ b, Bx w b → (∀ i, i < w.heap.size → (w.alloc o).heap[i]? = w.heap[i]?) → Bx (w.alloc o) b) : Ext Bx w (w.alloc o) := Ext.alloc o hB
theorem row_lit (w : World) (xs : List Int) (n : Nat) (p : Int → Prop) (hn : xs.length = n) (hp : ∀ x ∈ xs, p x) : Row (w.alloc (.cells (xs.map fun x => Value.int .i64 x).toArray 3)) w.heap.size n p :=
  ⟨_, heap_alloc_new w _, fun j hj => ⟨xs[j]'(by omega), by simp [show j < xs.length by omega], hp _ (by simp)⟩⟩
/-- The condition that the regions of the draws keep: the reader alone has turned, and has read few bytes. -/
def Rdg (R : Nat) (k : Int) (w0 : World) (n : Nat) (w : World) : Prop := Only R w0 w ∧ Rd w R (k + n)
theorem Rdg.next {R : Nat} {k : Int} {w0 w : World} {n : Nat} (h : Rdg R k w0 n w) : Rdg R k w0 (n + 1) w := ⟨h.1, h.2.more (by omega)⟩
theorem Rdg.alloc {R : Nat} {k : Int} {w0 w : World} {n : Nat} (h : Rdg R k w0 n w) (o : Obj) : Rdg R k w0 (n + 1) (w.alloc o) := ⟨h.1.alloc o, (h.2.alloc o).more (by omega)⟩
theorem Rdg.only {R : Nat} {k : Int} {w0 w w' : World} {n : Nat} (h : Rdg R k w0 n w) (hO : Only R w w') (hR : Rd w' R (k + n + 1)) : Rdg R k w0 (n + 1) w' := ⟨h.1.trans hO, hR.more (by omega)⟩
theorem Rdg.size {R : Nat} {k : Int} {w0 w : World} {n : Nat} (h : Rdg R k w0 n w) : w0.heap.size ≤ w.heap.size := h.1.size
end Go.Proofs.Ytabioinmpjfflaa
