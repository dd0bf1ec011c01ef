/-
  Arguments that are lists of sprites or of tiles. No conditions.
-/
import Derived.Test.YtabioinmpjfflaaOpen
import Derived.Test.YtabioinmpjfflaaTileOpen
import Derived.Test.YtabioinmpjfflaaSpr
import Derived.Deep.Slices
namespace Go.Proofs.Ytabioinmpjfflaa
set_option linter.all false
set_option linter.unusedSimpArgs false
set_option linter.unusedVariables false
set_option maxRecDepth 20000
open Go.ChangeShapes Go.WideShapes Go.ChangeAt Go.RowKit Go.Joins Go.Deep

def TilesArg (w : World) (v : Value) : Prop := ∃ A n cap q, v = .slice A n cap ∧ RS w w.heap.size 64 A n (tc q) ∧ n ≤ cap ∧ cap ≤ maxLen
def SpritesArg (w : World) (v : Value) : Prop := ∃ A n cap s, v = .slice A n cap ∧ RS w w.heap.size 6 A n (sc s) ∧ n ≤ cap ∧ cap ≤ maxLen
theorem cells99 : Try.prog.cellsOf 99 = 6 := by kernel_rfl
section
variable {H : Type} {enc : TypeId × Value → H} {W : World} {base b0 : Nat} {spare : Nat → Bool} {held : Bool} {v : Value} {d : DataW H} {q : List MemPlace}
theorem trod_tilesS {fuel : Nat} {cs : List Value} {x : DataW H × List MemPlace} (h : DataW.trod enc Try.prog W b0 spare held fuel 51 cs = some x) : ∃ A n cap q, cs = [.slice A n cap] ∧ RS W W.heap.size 64 A n (tc q) ∧ n ≤ cap ∧ cap ≤ maxLen := by
  rcases open_slice Try.underlying51 h with ⟨hcs, _⟩ | ⟨a, len, cap, m, n, D, Pl, hcs, hb, hl, hm, hmm, hx, hi⟩
  · exact ⟨none, 0, 0, fun _ _ => 0, hcs, .inl rfl, Nat.le_refl _, Nat.zero_le _⟩
  · have hlm : len ≤ m := by rw [hmm]; split <;> omega
    have hex : ∀ i, i < m → ∃ p : Nat → Int, ∀ j, j < 64 → W.cell? (a.add (i * 64 + j)) = some (.int .i64 (p j)) := fun i him => by
      obtain ⟨cs', hc, ht⟩ := hi i him
      rw [cells104] at hc
      obtain ⟨p, hp⟩ := trod_tile ht
      obtain ⟨_, hcl, hat⟩ := World.cells?_some hc
      refine ⟨p, fun j hj => ?_⟩
      have h1 := hat j hj
      rw [← List.getElem?_toArray, hp, tv_get p j hj, add_add] at h1
      exact h1
    refine ⟨some a, len, cap, fun i => if hi : i < m then (hex i hi).choose else fun _ => 0, hcs, ?_, hl, hm⟩
    by_cases h0 : len = 0
    · exact .inl h0
    · have hc0 := (hex 0 (by omega)).choose_spec 0 (by omega)
      obtain ⟨b, off, spot⟩ := a
      have hspot : spot = none := by simpa [Addr.add] using World.cell?_spot hc0
      subst hspot
      refine .inr ⟨b, off, rfl, ?_, fun j hj => ?_⟩
      · exact block_lt_of_cell (a := (⟨b, off, none⟩ : Addr)) (by simpa [Addr.add] using hc0)
      · have hji : j / 64 < m := by omega
        have h1 := (hex (j / 64) hji).choose_spec (j % 64) (by omega)
        rw [Addr.add_mid, show j / 64 * 64 + j % 64 = j by omega] at h1
        rw [h1]
        unfold tc
        have e : (if hi : j / 64 < m then (hex (j / 64) hi).choose else fun _ => 0) = (hex (j / 64) hji).choose := dif_pos hji
        show _ = some (Value.int .i64 ((if hi : j / 64 < m then (hex (j / 64) hi).choose else fun _ => 0) (j % 64)))
        rw [e]
theorem trod_sprite {fuel : Nat} {cs : List Value} {x : DataW H × List MemPlace} (h : DataW.trod enc Try.prog W b0 spare held fuel 99 cs = some x) : ∃ s : Spr, ∀ j, j < 6 → cs[j]? = some (scl s j) := by
  obtain ⟨xs, n, -, -, hl, hx, hf⟩ := DataW.trod_struct Try.underlying99 h
  rw [cells99] at hl
  match cs, hl with
  | [c0, c1, c2, c3, c4, c5], _ =>
    have g : ∀ (j : Nat) (hj : j < 6), xs[j]? = some (xs[j]'(by rw [hx]; exact hj)) := fun j hj => List.getElem?_eq_getElem _
    have h0 := (hf 0 _ rfl).trans (g 0 (by omega))
    change DataW.trod enc Try.prog W b0 spare held n 3 (List.take (Try.prog.cellsOf 3) (List.drop 0 [c0, c1, c2, c3, c4, c5])) = _ at h0
    rw [show Try.prog.cellsOf 3 = 1 by kernel_rfl] at h0
    change DataW.trod enc Try.prog W b0 spare held n 3 [c0] = _ at h0
    have h1 := (hf 1 _ rfl).trans (g 1 (by omega))
    change DataW.trod enc Try.prog W b0 spare held n 3 (List.take (Try.prog.cellsOf 3) (List.drop 1 [c0, c1, c2, c3, c4, c5])) = _ at h1
    rw [show Try.prog.cellsOf 3 = 1 by kernel_rfl] at h1
    change DataW.trod enc Try.prog W b0 spare held n 3 [c1] = _ at h1
    have h2 := (hf 2 _ rfl).trans (g 2 (by omega))
    change DataW.trod enc Try.prog W b0 spare held n 3 (List.take (Try.prog.cellsOf 3) (List.drop 2 [c0, c1, c2, c3, c4, c5])) = _ at h2
    rw [show Try.prog.cellsOf 3 = 1 by kernel_rfl] at h2
    change DataW.trod enc Try.prog W b0 spare held n 3 [c2] = _ at h2
    have h3 := (hf 3 _ rfl).trans (g 3 (by omega))
    change DataW.trod enc Try.prog W b0 spare held n 4 (List.take (Try.prog.cellsOf 4) (List.drop 3 [c0, c1, c2, c3, c4, c5])) = _ at h3
    rw [show Try.prog.cellsOf 4 = 1 by kernel_rfl] at h3
    change DataW.trod enc Try.prog W b0 spare held n 4 [c3] = _ at h3
    have h4 := (hf 4 _ rfl).trans (g 4 (by omega))
    change DataW.trod enc Try.prog W b0 spare held n 4 (List.take (Try.prog.cellsOf 4) (List.drop 4 [c0, c1, c2, c3, c4, c5])) = _ at h4
    rw [show Try.prog.cellsOf 4 = 1 by kernel_rfl] at h4
    change DataW.trod enc Try.prog W b0 spare held n 4 [c4] = _ at h4
    have h5 := (hf 5 _ rfl).trans (g 5 (by omega))
    change DataW.trod enc Try.prog W b0 spare held n 4 (List.take (Try.prog.cellsOf 4) (List.drop 5 [c0, c1, c2, c3, c4, c5])) = _ at h5
    rw [show Try.prog.cellsOf 4 = 1 by kernel_rfl] at h5
    change DataW.trod enc Try.prog W b0 spare held n 4 [c5] = _ at h5
    obtain ⟨a, e0, -, -⟩ := DataW.trod_int Try.underlying3 h0
    obtain ⟨b, e1, -, -⟩ := DataW.trod_int Try.underlying3 h1
    obtain ⟨c, e2, -, -⟩ := DataW.trod_int Try.underlying3 h2
    obtain ⟨u, e3, -⟩ := DataW.trod_bool Try.underlying4 h3
    obtain ⟨v, e4, -⟩ := DataW.trod_bool Try.underlying4 h4
    obtain ⟨z, e5, -⟩ := DataW.trod_bool Try.underlying4 h5
    simp at e0 e1 e2 e3 e4 e5
    subst e0 e1 e2 e3 e4 e5
    refine ⟨⟨a, b, c, u, v, z⟩, fun j hj => ?_⟩
    match j, hj with
    | 0, _ => rfl
    | 1, _ => rfl
    | 2, _ => rfl
    | 3, _ => rfl
    | 4, _ => rfl
    | 5, _ => rfl
theorem trod_sprites {fuel : Nat} {cs : List Value} {x : DataW H × List MemPlace} (h : DataW.trod enc Try.prog W b0 spare held fuel 54 cs = some x) : ∃ A n cap s, cs = [.slice A n cap] ∧ RS W W.heap.size 6 A n (sc s) ∧ n ≤ cap ∧ cap ≤ maxLen := by
  rcases open_slice Try.underlying54 h with ⟨hcs, _⟩ | ⟨a, len, cap, m, n, D, Pl, hcs, hb, hl, hm, hmm, hx, hi⟩
  · exact ⟨none, 0, 0, fun _ => zeroS, hcs, .inl rfl, Nat.le_refl _, Nat.zero_le _⟩
  · have hlm : len ≤ m := by rw [hmm]; split <;> omega
    have hex : ∀ i, i < m → ∃ s : Spr, ∀ j, j < 6 → W.cell? (a.add (i * 6 + j)) = some (scl s j) := fun i him => by
      obtain ⟨cs', hc, ht⟩ := hi i him
      rw [cells99] at hc
      obtain ⟨s, hs⟩ := trod_sprite ht
      obtain ⟨_, hcl, hat⟩ := World.cells?_some hc
      refine ⟨s, fun j hj => ?_⟩
      have h1 := hat j hj
      rw [hs j hj, add_add] at h1
      exact h1
    refine ⟨some a, len, cap, fun i => if hi : i < m then (hex i hi).choose else zeroS, hcs, ?_, hl, hm⟩
    by_cases h0 : len = 0
    · exact .inl h0
    · have hc0 := (hex 0 (by omega)).choose_spec 0 (by omega)
      obtain ⟨b, off, spot⟩ := a
      have hspot : spot = none := by simpa [Addr.add] using World.cell?_spot hc0
      subst hspot
      refine .inr ⟨b, off, rfl, ?_, fun j hj => ?_⟩
      · exact block_lt_of_cell (a := (⟨b, off, none⟩ : Addr)) (by simpa [Addr.add] using hc0)
      · have hji : j / 6 < m := by omega
        have h1 := (hex (j / 6) hji).choose_spec (j % 6) (by omega)
        rw [Addr.add_mid, show j / 6 * 6 + j % 6 = j by omega] at h1
        rw [h1]
        unfold sc
        have e : (if hi : j / 6 < m then (hex (j / 6) hi).choose else zeroS) = (hex (j / 6) hji).choose := dif_pos hji
        show _ = some (scl (if hi : j / 6 < m then (hex (j / 6) hi).choose else zeroS) (j % 6))
        rw [e]
theorem tilesArg (hv : Value.okWide Try.prog W .any base 51 v) (h : DataW.Trod enc Try.prog W 0 (fun _ => true) true 51 v d q) : TilesArg W v := by
  obtain ⟨a, len, cap, rfl⟩ := okWide_slice Try.underlying51 hv
  obtain ⟨fuel, hf⟩ := h
  obtain ⟨A, n, cap', q, hcs, h1, h2, h3⟩ := trod_tilesS hf
  simp [Value.cells] at hcs
  obtain ⟨rfl, rfl, rfl⟩ := hcs
  exact ⟨_, _, _, q, rfl, h1, h2, h3⟩
theorem spritesArg (hv : Value.okWide Try.prog W .any base 54 v) (h : DataW.Trod enc Try.prog W 0 (fun _ => true) true 54 v d q) : SpritesArg W v := by
  obtain ⟨a, len, cap, rfl⟩ := okWide_slice Try.underlying54 hv
  obtain ⟨fuel, hf⟩ := h
  obtain ⟨A, n, cap', s, hcs, h1, h2, h3⟩ := trod_sprites hf
  simp [Value.cells] at hcs
  obtain ⟨rfl, rfl, rfl⟩ := hcs
  exact ⟨_, _, _, s, rfl, h1, h2, h3⟩
end
end Go.Proofs.Ytabioinmpjfflaa
