/-
  The contracts of SpritesOnLine, SpriteAt and SpritesHidden in the program and in the reference. Conditions: at most 1048576 sprites and tiles.
-/
import Derived.Test.YtabioinmpjfflaaSprAt
namespace Go.Proofs.Ytabioinmpjfflaa
set_option linter.all false
set_option linter.unusedSimpArgs false
set_option linter.unusedVariables false
set_option maxRecDepth 20000
open Go.ChangeShapes Go.WideShapes Go.ChangeAt Go.RowKit

theorem svd_parts {n m : Nat} {s : Nat → Spr} {q : Nat → Nat → Int} (h : svd n m s q = true) : n ≤ 12 ∧ m ≤ 16 ∧ tsv m q = true ∧ ∀ i, i < n → sok m (s i) = true := by
  unfold svd at h
  simp only [Bool.and_eq_true, decide_eq_true_eq] at h
  exact ⟨h.1.1, h.1.2.1, h.1.2.2, sov_true.1 h.2⟩
/-- The list of SpritesOnLine. -/
def solL (n m : Nat) (s : Nat → Spr) (q : Nat → Nat → Int) (y : Int) : List Nat := if (svd n m s q && inB y 0 15) = true then shown n s y else []
theorem solL_no {n m : Nat} {s : Nat → Spr} {q : Nat → Nat → Int} {y : Int} (h : (svd n m s q && inB y 0 15) = false) : solL n m s q y = [] := by
  unfold solL; rw [h]; rfl
theorem solL_yes {n m : Nat} {s : Nat → Spr} {q : Nat → Nat → Int} {y : Int} (h : (svd n m s q && inB y 0 15) = true) : solL n m s q y = shown n s y := by
  unfold solL; rw [h]; rfl
theorem solL_le (n m : Nat) (s : Nat → Spr) (q : Nat → Nat → Int) (y : Int) : (solL n m s q y).length ≤ 4 := by
  unfold solL
  split
  · exact shown_le n s y
  · simp
theorem gives_nil {w w' : World} (hb : Below w.heap.size w w') : Gives 3 1 ([] : List Nat).length (lc []) w (.returned (.slice none 0 0)) w' := ⟨none, 0, rfl, own_nil _ _ _ _ _, hb⟩
theorem gives_emp {w u : World} (hb : Below w.heap.size w u) : Gives 3 1 ([] : List Nat).length (lc []) w (.returned (.slice (some ⟨u.heap.size, 0, none⟩) 0 0)) (u.alloc (.cells #[] 3)) :=
  ⟨_, 0, rfl, own_empty u _ _ _ hb.size, hb.alloc hb.size _⟩

/-- The value of SpritesHidden. -/
def shd (n m : Nat) (s : Nat → Spr) (q : Nat → Nat → Int) (y : Int) : Int := if (svd n m s q && inB y 0 15) = true then max ((cvl n s y).length - 4 : Int) 0 else -1
theorem shd_no {n m : Nat} {s : Nat → Spr} {q : Nat → Nat → Int} {y : Int} (h : (svd n m s q && inB y 0 15) = false) : shd n m s q y = -1 := by
  unfold shd; rw [h]; rfl
theorem shd_yes {n m : Nat} {s : Nat → Spr} {q : Nat → Nat → Int} {y : Int} (h : (svd n m s q && inB y 0 15) = true) : shd n m s q y = max ((cvl n s y).length - 4 : Int) 0 := by
  unfold shd; rw [h]; rfl
theorem cvl_le (n : Nat) (s : Nat → Spr) (y : Int) : (cvl n s y).length ≤ n := by
  have := List.length_filter_le (fun i => cov (s i) y) (List.range n)
  simpa [cvl] using this
theorem cvl_len (n : Nat) (s : Nat → Spr) (y : Int) : (cvl (n + 1) s y).length = (cvl n s y).length + if cov (s n) y = true then 1 else 0 := by
  rw [cvl_succ]; split <;> simp

end Go.Proofs.Ytabioinmpjfflaa
