/-
  An argument that is a scene: its numbers, its tiles and its sprites. No conditions.
-/
import Derived.Test.YtabioinmpjfflaaFieldOpen
import Derived.Test.YtabioinmpjfflaaSprOpen
import Derived.Test.YtabioinmpjfflaaSceneMem
namespace Go.Proofs.Ytabioinmpjfflaa
set_option linter.all false
set_option linter.unusedSimpArgs false
set_option linter.unusedVariables false
set_option maxRecDepth 20000
open Go.ChangeShapes Go.WideShapes Go.ChangeAt Go.RowKit Go.Joins Go.Deep

def SceneArg (w : World) (v : Value) : Prop := ∃ (W : Int) (A : Option Addr) (n c : Nat) (B : Option Addr) (m d : Nat) (X Y : Int) (S : Option Addr) (k e : Nat) (p : Nat → Int) (q : Nat → Nat → Int) (s : Nat → Spr),
  v = scV W A n c B m d X Y S k e ∧ RS w w.heap.size 1 A n (iv p) ∧ RS w w.heap.size 64 B m (tc q) ∧ RS w w.heap.size 6 S k (sc s) ∧ n ≤ c ∧ m ≤ d ∧ k ≤ e ∧ c ≤ maxLen ∧ d ≤ maxLen ∧ e ≤ maxLen
theorem cells56 : Try.prog.cellsOf 56 = 6 := by kernel_rfl
section
variable {H : Type} {enc : TypeId × Value → H} {W : World} {base b0 : Nat} {spare : Nat → Bool} {held : Bool} {v : Value} {d : DataW H} {q : List MemPlace}
theorem trod_scene {fuel : Nat} {cs : List Value} {x : DataW H × List MemPlace} (h : DataW.trod enc Try.prog W b0 spare held fuel 56 cs = some x) : SceneArg W (.agg cs.toArray) := by
  obtain ⟨xs, n, -, -, hl, hx, hf⟩ := DataW.trod_struct Try.underlying56 h
  rw [cells56] at hl
  match cs, hl with
  | [c0, c1, c2, c3, c4, c5], _ =>
    have g : ∀ (j : Nat) (hj : j < 2), xs[j]? = some (xs[j]'(by rw [hx]; exact hj)) := fun j hj => List.getElem?_eq_getElem _
    have h0 := (hf 0 _ rfl).trans (g 0 (by omega))
    change DataW.trod enc Try.prog W b0 spare held n 53 (List.take (Try.prog.cellsOf 53) (List.drop 0 [c0, c1, c2, c3, c4, c5])) = _ at h0
    rw [cells53] at h0
    change DataW.trod enc Try.prog W b0 spare held n 53 [c0, c1, c2, c3, c4] = _ at h0
    have h1 := (hf 1 _ rfl).trans (g 1 (by omega))
    change DataW.trod enc Try.prog W b0 spare held n 54 (List.take (Try.prog.cellsOf 54) (List.drop (Try.prog.cellsOf 53 + 0) [c0, c1, c2, c3, c4, c5])) = _ at h1
    rw [cells53, show Try.prog.cellsOf 54 = 1 by kernel_rfl] at h1
    change DataW.trod enc Try.prog W b0 spare held n 54 [c5] = _ at h1
    obtain ⟨W', A, n1, c, B, m1, d, X, Y, p, q, hv, hA, hB, l1, l2, l3, l4⟩ := trod_field h0
    obtain ⟨S, k, e, s, e5, hS, l5, l6⟩ := trod_sprites h1
    simp at hv e5
    obtain ⟨r0, r1, r2, r3, r4⟩ := hv
    subst r0 r1 r2 r3 r4 e5
    exact ⟨W', A, n1, c, B, m1, d, X, Y, S, k, e, p, q, s, rfl, hA, hB, hS, l1, l2, l5, l3, l4, l6⟩
theorem sceneArg (hv : Value.okWide Try.prog W .any base 56 v) (h : DataW.Trod enc Try.prog W 0 (fun _ => true) true 56 v d q) : SceneArg W v := by
  obtain ⟨cs, rfl, hsz⟩ := okWide_struct Try.underlying56 hv
  obtain ⟨fuel, hf⟩ := h
  have := trod_scene hf
  simpa [Value.cells] using this
end
end Go.Proofs.Ytabioinmpjfflaa
