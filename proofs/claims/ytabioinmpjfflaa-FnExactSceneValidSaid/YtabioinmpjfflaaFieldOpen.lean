/-
  An argument that is a field: its numbers and its tiles. No conditions.
-/
import Derived.Test.YtabioinmpjfflaaOpen
import Derived.Test.YtabioinmpjfflaaTileOpen
import Derived.Test.YtabioinmpjfflaaField
import Derived.Deep.Slices
namespace Go.Proofs.Ytabioinmpjfflaa
set_option linter.all false
set_option linter.unusedSimpArgs false
set_option linter.unusedVariables false
set_option maxRecDepth 20000
open Go.ChangeShapes Go.WideShapes Go.ChangeAt Go.RowKit Go.Joins Go.Deep

section
variable {H : Type} {enc : TypeId × Value → H} {W : World} {base b0 : Nat} {spare : Nat → Bool} {held : Bool} {v : Value} {d : DataW H} {q : List MemPlace}
theorem trod_ints {fuel : Nat} {cs : List Value} {x : DataW H × List MemPlace} (h : DataW.trod enc Try.prog W b0 spare held fuel 23 cs = some x) : ∃ A n cap p, cs = [.slice A n cap] ∧ RS W W.heap.size 1 A n (iv p) ∧ n ≤ cap ∧ cap ≤ maxLen := by
  rcases open_ints Try.underlying23 Try.underlying3 (by kernel_rfl) h with ⟨hcs, _⟩ | ⟨x, l, c, zs, hcs, _, hl, hm, hz, _, hcell, hwz⟩
  · exact ⟨none, 0, 0, fun _ => 0, hcs, .inl rfl, Nat.le_refl _, Nat.zero_le _⟩
  · refine ⟨some x, l, c, fun i => zs.getD i 0, hcs, ?_, hl, hm⟩
    by_cases h0 : l = 0
    · exact .inl h0
    · have hzl : l ≤ zs.length := by rw [hz]; split <;> omega
      have hc0 := hcell 0 (by rw [hz] at hzl; omega)
      obtain ⟨b, off, spot⟩ := x
      have hspot : spot = none := by simpa [Addr.add] using World.cell?_spot hc0
      subst hspot
      refine .inr ⟨b, off, rfl, ?_, fun i hi => ?_⟩
      · exact block_lt_of_cell (a := (⟨b, off, none⟩ : Addr)) (by simpa [Addr.add] using hc0)
      · have hci := hcell i (by rw [hz] at hzl; omega)
        rwa [Addr.add_mid] at hci
theorem trod_tiles {fuel : Nat} {cs : List Value} {x : DataW H × List MemPlace} (h : DataW.trod enc Try.prog W b0 spare held fuel 51 cs = some x) : ∃ A n cap q, cs = [.slice A n cap] ∧ RS W W.heap.size 64 A n (tc q) ∧ n ≤ cap ∧ cap ≤ maxLen := by
  rcases open_slice Try.underlying51 h with ⟨hcs, _⟩ | ⟨a, len, cap, m, n, D, Pl, hcs, hb, hl, hm, hmm, hx, hi⟩
  · exact ⟨none, 0, 0, fun _ _ => 0, hcs, .inl rfl, Nat.le_refl _, Nat.zero_le _⟩
  · have hlm : len ≤ m := by rw [hmm]; split <;> omega
    have hex : ∀ i, i < m → ∃ p : Nat → Int, ∀ j, j < 64 → W.cell? (a.add (i * 64 + j)) = some (.int .i64 (p j)) := fun i him => by
      obtain ⟨cs', hc, ht⟩ := hi i him
      rw [cells104] at hc
      obtain ⟨p, hp⟩ := trod_tile ht
      obtain ⟨_, hcl, hat⟩ := World.cells?_some hc
      refine ⟨p, fun j hj => ?_⟩
      have h1 := hat j hj
      rw [← List.getElem?_toArray, hp, tv_get p j hj, add_add] at h1
      exact h1
    refine ⟨some a, len, cap, fun i => if hi : i < m then (hex i hi).choose else fun _ => 0, hcs, ?_, hl, hm⟩
    by_cases h0 : len = 0
    · exact .inl h0
    · have hc0 := (hex 0 (by omega)).choose_spec 0 (by omega)
      obtain ⟨b, off, spot⟩ := a
      have hspot : spot = none := by simpa [Addr.add] using World.cell?_spot hc0
      subst hspot
      refine .inr ⟨b, off, rfl, ?_, fun j hj => ?_⟩
      · exact block_lt_of_cell (a := (⟨b, off, none⟩ : Addr)) (by simpa [Addr.add] using hc0)
      · have hji : j / 64 < m := by omega
        have h1 := (hex (j / 64) hji).choose_spec (j % 64) (by omega)
        rw [Addr.add_mid, show j / 64 * 64 + j % 64 = j by omega] at h1
        rw [h1]
        unfold tc
        have e : (if hi : j / 64 < m then (hex (j / 64) hi).choose else fun _ => 0) = (hex (j / 64) hji).choose := dif_pos hji
        show _ = some (Value.int .i64 ((if hi : j / 64 < m then (hex (j / 64) hi).choose else fun _ => 0) (j % 64)))
        rw [e]
def FieldArg (w : World) (v : Value) : Prop := ∃ (W : Int) (A : Option Addr) (n c : Nat) (B : Option Addr) (m d : Nat) (X Y : Int) (p : Nat → Int) (q : Nat → Nat → Int),
  v = fdV W A n c B m d X Y ∧ RS w w.heap.size 1 A n (iv p) ∧ RS w w.heap.size 64 B m (tc q) ∧ n ≤ c ∧ m ≤ d ∧ c ≤ maxLen ∧ d ≤ maxLen
theorem cells53 : Try.prog.cellsOf 53 = 5 := by kernel_rfl
theorem trod_field {fuel : Nat} {cs : List Value} {x : DataW H × List MemPlace} (h : DataW.trod enc Try.prog W b0 spare held fuel 53 cs = some x) : FieldArg W (.agg cs.toArray) := by
  obtain ⟨xs, n, -, -, hl, hx, hf⟩ := DataW.trod_struct Try.underlying53 h
  rw [cells53] at hl
  match cs, hl with
  | [c0, c1, c2, c3, c4], _ =>
    have g : ∀ (j : Nat) (hj : j < 5), xs[j]? = some (xs[j]'(by rw [hx]; exact hj)) := fun j hj => List.getElem?_eq_getElem _
    have h0 := (hf 0 _ rfl).trans (g 0 (by omega))
    change DataW.trod enc Try.prog W b0 spare held n 3 (List.take (Try.prog.cellsOf 3) (List.drop 0 [c0, c1, c2, c3, c4])) = _ at h0
    rw [show Try.prog.cellsOf 3 = 1 by kernel_rfl] at h0
    change DataW.trod enc Try.prog W b0 spare held n 3 [c0] = _ at h0
    have h1 := (hf 1 _ rfl).trans (g 1 (by omega))
    change DataW.trod enc Try.prog W b0 spare held n 23 (List.take (Try.prog.cellsOf 23) (List.drop 1 [c0, c1, c2, c3, c4])) = _ at h1
    rw [show Try.prog.cellsOf 23 = 1 by kernel_rfl] at h1
    change DataW.trod enc Try.prog W b0 spare held n 23 [c1] = _ at h1
    have h2 := (hf 2 _ rfl).trans (g 2 (by omega))
    change DataW.trod enc Try.prog W b0 spare held n 51 (List.take (Try.prog.cellsOf 51) (List.drop 2 [c0, c1, c2, c3, c4])) = _ at h2
    rw [show Try.prog.cellsOf 51 = 1 by kernel_rfl] at h2
    change DataW.trod enc Try.prog W b0 spare held n 51 [c2] = _ at h2
    have h3 := (hf 3 _ rfl).trans (g 3 (by omega))
    change DataW.trod enc Try.prog W b0 spare held n 3 (List.take (Try.prog.cellsOf 3) (List.drop 3 [c0, c1, c2, c3, c4])) = _ at h3
    rw [show Try.prog.cellsOf 3 = 1 by kernel_rfl] at h3
    change DataW.trod enc Try.prog W b0 spare held n 3 [c3] = _ at h3
    have h4 := (hf 4 _ rfl).trans (g 4 (by omega))
    change DataW.trod enc Try.prog W b0 spare held n 3 (List.take (Try.prog.cellsOf 3) (List.drop 4 [c0, c1, c2, c3, c4])) = _ at h4
    rw [show Try.prog.cellsOf 3 = 1 by kernel_rfl] at h4
    change DataW.trod enc Try.prog W b0 spare held n 3 [c4] = _ at h4
    obtain ⟨a, e0, -, -⟩ := DataW.trod_int Try.underlying3 h0
    obtain ⟨A, n1, cap1, p, e1, hp, l1, m1⟩ := trod_ints h1
    obtain ⟨B, n2, cap2, q, e2, hq, l2, m2⟩ := trod_tiles h2
    obtain ⟨X, e3, -, -⟩ := DataW.trod_int Try.underlying3 h3
    obtain ⟨Y, e4, -, -⟩ := DataW.trod_int Try.underlying3 h4
    simp at e0 e1 e2 e3 e4
    subst e0 e1 e2 e3 e4
    exact ⟨a, A, n1, cap1, B, n2, cap2, X, Y, p, q, rfl, hp, hq, l1, l2, m1, m2⟩
theorem fieldArg (hv : Value.okWide Try.prog W .any base 53 v) (h : DataW.Trod enc Try.prog W 0 (fun _ => true) true 53 v d q) : FieldArg W v := by
  obtain ⟨cs, rfl, hsz⟩ := okWide_struct Try.underlying53 hv
  obtain ⟨fuel, hf⟩ := h
  have := trod_field hf
  simpa [Value.cells] using this
end
end Go.Proofs.Ytabioinmpjfflaa
