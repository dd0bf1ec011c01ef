/-
  Plain laws of scenes. No conditions.
-/
import Derived.Test.YtabioinmpjfflaaScene4
namespace Go.Proofs.Ytabioinmpjfflaa
set_option linter.all false
set_option linter.unusedSimpArgs false
set_option linter.unusedVariables false
set_option maxRecDepth 20000
open Go.ChangeShapes Go.WideShapes Go.ChangeAt Go.RowKit

/-- The value of ScenePixel of any arguments. -/
theorem scr_cases {W : Int} {n m : Nat} {X Y : Int} {p : Nat → Int} {q : Nat → Nat → Int} {k : Nat} {s : Nat → Spr} {x y : Int} : scr W n m X Y p q k s x y = -1 ∨
    ∃ W' X' Y' x' y' : Nat, W = W' ∧ X = X' ∧ Y = Y' ∧ x = x' ∧ y = y' ∧ X' ≤ 255 ∧ Y' ≤ 255 ∧ x' ≤ 31 ∧ y' ≤ 15 ∧ FOK W' n m p ∧ fvd W' n m X' Y' p q = true ∧ svd k m s q = true ∧ scr W n m X Y p q k s x y = scp W' n X' Y' p q k s x' y' := by
  cases h : scd W n m X Y p q k s && inB x 0 31 && inB y 0 15
  · exact .inl (scr_no h)
  · have hh := h
    simp only [Bool.and_eq_true] at h
    obtain ⟨⟨hv, hx⟩, hy⟩ := h
    obtain ⟨hf, hs⟩ := scd_parts hv
    have hf' := hf
    obtain ⟨W', X', Y', rfl, rfl, rfl, hX, hY, hok⟩ := fok_of hf
    obtain ⟨x0, x1⟩ := inB_true.1 hx
    obtain ⟨y0, y1⟩ := inB_true.1 hy
    obtain ⟨x', rfl⟩ := Int.eq_ofNat_of_zero_le x0
    obtain ⟨y', rfl⟩ := Int.eq_ofNat_of_zero_le y0
    refine .inr ⟨W', X', Y', x', y', rfl, rfl, rfl, rfl, rfl, hX, hY, by omega, by omega, hok, hf', hs, ?_⟩
    unfold scr
    rw [if_pos hh]
    simp only [Int.toNat_natCast]
theorem scr_line {W : Int} {n m : Nat} {X Y : Int} {p : Nat → Int} {q : Nat → Nat → Int} {k : Nat} {s : Nat → Spr} {y : Int} (h : (scd W n m X Y p q k s && inB y 0 15) = true) {x : Nat} (hx : x < 32) : scr W n m X Y p q k s x y = scnL W n X Y p q k s y x := by
  simp only [Bool.and_eq_true] at h
  unfold scr scnL
  rw [h.1, h.2, inB_true.2 (show (0 : Int) ≤ x ∧ (x : Int) ≤ 31 by omega)]
  simp
/-- Without sprites. -/
theorem svd_zero {m : Nat} {s : Nat → Spr} {q : Nat → Nat → Int} (h2 : m ≤ 16) (h3 : tsv m q = true) : svd 0 m s q = true := by
  unfold svd
  rw [decide_eq_true (show 0 ≤ 12 by omega), decide_eq_true h2, h3, sov_true.2 (fun i hi => absurd hi (by omega))]
  rfl
theorem scd_zero {W : Int} {n m : Nat} {X Y : Int} {p : Nat → Int} {q : Nat → Nat → Int} {s : Nat → Spr} : scd W n m X Y p q 0 s = fvd W n m X Y p q := by
  unfold scd
  cases h : fvd W n m X Y p q
  · rfl
  · have h' := h
    obtain ⟨-, ht, -, -⟩ := fvd_parts h
    obtain ⟨W', X', Y', rfl, rfl, rfl, hX, hY, hok⟩ := fok_of h'
    rw [svd_zero hok.m16 ht]
    rfl
theorem shown_zero (s : Nat → Spr) (y : Int) : shown 0 s y = [] := rfl
theorem scp_zero (W n X Y : Nat) (p : Nat → Int) (q : Nat → Nat → Int) (s : Nat → Spr) (x y : Nat) : scp W n X Y p q 0 s x y = fpx W n X Y p q x y := rfl
theorem scnL_zero (W : Int) (n : Nat) (X Y : Int) (p : Nat → Int) (q : Nat → Nat → Int) (s : Nat → Spr) (y : Int) : scnL W n X Y p q 0 s y = lnV W n X Y p q y := rfl
theorem rs_none (w : World) (sz : Nat) (c : Nat → Value) : RS w 0 sz none 0 c := .inl rfl
/-- A scene of a sprite with an unknown tile. -/
theorem scd_bad {W : Int} {n m : Nat} {X Y : Int} {p : Nat → Int} {q : Nat → Nat → Int} {s : Nat → Spr} (h : sok m (s 0) = false) : scd W n m X Y p q 1 s = false := by
  unfold scd
  rw [svd_more (n := 0) (s := s) h]
  simp
end Go.Proofs.Ytabioinmpjfflaa
