/-
  An argument that is a tile: its 64 cells. No conditions.
-/
import Derived.Test.YtabioinmpjfflaaOpen
import Derived.Test.YtabioinmpjfflaaTile
namespace Go.Proofs.Ytabioinmpjfflaa
set_option linter.all false
set_option linter.unusedSimpArgs false
set_option linter.unusedVariables false
set_option maxRecDepth 20000
open Go.ChangeShapes Go.WideShapes Go.ChangeAt Go.RowKit

/-- The number in a cell. -/
def cellInt : Option Value → Int
  | some (.int _ n) => n
  | _ => 0
theorem list_tv {cs : List Value} (hl : cs.length = 64) (h : ∀ i, i < 64 → ∃ n, cs[i]? = some (.int .i64 n)) : cs.toArray = tv (fun i => cellInt cs[i]?) := by
  apply Array.ext_getElem?
  intro i
  rw [List.getElem?_toArray]
  by_cases hi : i < 64
  · obtain ⟨n, hn⟩ := h i hi
    rw [tv_get _ _ hi, hn]; rfl
  · rw [List.getElem?_eq_none (by omega), Array.getElem?_eq_none (by rw [tv_size]; omega)]

def TileArg (_ : World) (v : Value) : Prop := ∃ p : Nat → Int, v = .agg (tv p)
theorem cells34 : Try.prog.cellsOf 34 = 64 := by kernel_rfl
theorem cells104 : Try.prog.cellsOf 104 = 64 := by kernel_rfl
theorem cells3 : Try.prog.cellsOf 3 = 1 := by kernel_rfl

section
variable {H : Type} {enc : TypeId × Value → H} {W : World} {base b0 : Nat} {spare : Nat → Bool} {held : Bool} {v : Value} {d : DataW H} {q : List MemPlace}
theorem trod_tile {fuel : Nat} {cs : List Value} {x : DataW H × List MemPlace} (h : DataW.trod enc Try.prog W b0 spare held fuel 104 cs = some x) : ∃ p : Nat → Int, cs.toArray = tv p := by
  obtain ⟨xs, n, -, -, hl, hx, hf⟩ := DataW.trod_struct Try.underlying104 h
  have h0 := hf 0 _ rfl
  rw [cells104] at hl
  have hx0 : xs[0]? = some (xs[0]'(by rw [hx]; exact Nat.zero_lt_one)) := List.getElem?_eq_getElem _
  rw [hx0] at h0
  have h1 : DataW.trod enc Try.prog W b0 spare held n 34 cs = some (xs[0]'(by rw [hx]; exact Nat.zero_lt_one)) := by
    have e : (cs.drop 0).take (Try.prog.cellsOf 34) = cs := by rw [cells34, List.drop_zero, List.take_of_length_le (by omega)]
    rw [← e]; exact h0
  obtain ⟨ys, m, -, -, -, hy, hg⟩ := DataW.trod_array Try.underlying34 h1
  refine ⟨_, list_tv hl fun i hi => ?_⟩
  have h2 := hg i hi
  rw [cells3, Nat.mul_one, List.getElem?_eq_getElem (by omega)] at h2
  have hc : cs[i]? = some (cs[i]'(by omega)) := List.getElem?_eq_getElem _
  have h3 : (cs.drop i).take 1 = [cs[i]'(by omega)] := by rw [List.drop_eq_getElem_cons (by omega)]; rfl
  rw [h3] at h2
  obtain ⟨a, e0, -, -⟩ := DataW.trod_int Try.underlying3 h2
  simp at e0
  exact ⟨a, by rw [hc, e0]⟩
theorem tileArg (hv : Value.okWide Try.prog W .any base 104 v) (h : DataW.Trod enc Try.prog W 0 (fun _ => true) true 104 v d q) : TileArg W v := by
  obtain ⟨cs, rfl, hsz⟩ := okWide_struct Try.underlying104 hv
  obtain ⟨fuel, hf⟩ := h
  obtain ⟨p, hp⟩ := trod_tile hf
  refine ⟨p, ?_⟩
  simp only [Value.cells, Array.toArray_toList] at hp
  rw [hp]
end
end Go.Proofs.Ytabioinmpjfflaa
