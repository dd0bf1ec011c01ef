/-
  The contracts of the pixels of fields in the program and in the reference. Conditions: the field is valid, the place is in the picture.
-/
import Derived.Test.YtabioinmpjfflaaFieldValid
import Derived.IntWalk
namespace Go.Proofs.Ytabioinmpjfflaa
set_option linter.all false
set_option linter.unusedSimpArgs false
set_option linter.unusedVariables false
set_option maxRecDepth 20000
open Go.ChangeShapes Go.WideShapes Go.ChangeAt Go.RowKit

/-- A valid field, in numbers that are not negative. -/
structure FOK (W n m : Nat) (p : Nat → Int) : Prop where
  w1 : 1 ≤ W
  w8 : W ≤ 8
  mul : n = W * (n / W)
  h1 : 1 ≤ n / W
  h8 : n / W ≤ 8
  m1 : 1 ≤ m
  m16 : m ≤ 16
  num : ∀ i, i < n → 0 ≤ p i ∧ p i < m
/-- Column and row in the table's picture. -/
def fcol (W X x : Nat) : Nat := (x + X) % (8 * W)
def frow (W n Y y : Nat) : Nat := (y + Y) % (8 * (n / W))
def fidx (W n X Y x y : Nat) : Nat := frow W n Y y / 8 * W + fcol W X x / 8
theorem fidx_lt {W n m : Nat} {p : Nat → Int} (h : FOK W n m p) (X Y x y : Nat) : fidx W n X Y x y < n := by
  have h1 : fcol W X x < 8 * W := Nat.mod_lt _ (by have := h.w1; omega)
  have h2 : frow W n Y y < 8 * (n / W) := Nat.mod_lt _ (by have := h.h1; omega)
  have h3 : fcol W X x / 8 < W := by omega
  have h4 : frow W n Y y / 8 + 1 ≤ n / W := by omega
  have h5 : (frow W n Y y / 8 + 1) * W ≤ n / W * W := Nat.mul_le_mul_right _ h4
  have h6 : n / W * W = n := by rw [Nat.mul_comm]; exact h.mul.symm
  rw [Nat.add_mul] at h5
  unfold fidx
  omega
/-- The pixel. -/
def fpx (W n X Y : Nat) (p : Nat → Int) (q : Nat → Nat → Int) (x y : Nat) : Int := q (p (fidx W n X Y x y)).toNat (frow W n Y y % 8 * 8 + fcol W X x % 8)
theorem fok_of {W : Int} {n m : Nat} {X Y : Int} {p : Nat → Int} {q : Nat → Nat → Int} (h : fvd W n m X Y p q = true) : ∃ W' X' Y' : Nat, W = W' ∧ X = X' ∧ Y = Y' ∧ X' ≤ 255 ∧ Y' ≤ 255 ∧ FOK W' n m p := by
  unfold fvd at h
  simp only [Bool.and_eq_true, beq_iff_eq] at h
  obtain ⟨⟨⟨⟨⟨⟨⟨h1, h2⟩, h3⟩, h4⟩, h5⟩, h6⟩, h7⟩, h8⟩ := h
  rw [inB_true] at h1 h3 h4 h6 h7
  obtain ⟨W', rfl⟩ := Int.eq_ofNat_of_zero_le (show 0 ≤ W by omega)
  obtain ⟨X', rfl⟩ := Int.eq_ofNat_of_zero_le (show 0 ≤ X by omega)
  obtain ⟨Y', rfl⟩ := Int.eq_ofNat_of_zero_le (show 0 ≤ Y by omega)
  have e1 : n % W' = 0 := by
    have : ((n % W' : Nat) : Int) = 0 := by rw [Int.natCast_emod]; exact h2
    omega
  have e2 : ((n : Int) / (W' : Int)) = ((n / W' : Nat) : Int) := by rw [Int.natCast_ediv]
  rw [e2] at h3
  refine ⟨W', X', Y', rfl, rfl, rfl, by omega, by omega, by omega, by omega, ?_, by omega, by omega, by omega, by omega, fun i hi => ?_⟩
  · have := Nat.div_add_mod n W'
    omega
  · have := inB_true.1 (msv_true.1 h8 i hi)
    omega

theorem ipx_c (g : Nat) (t : TypeId) (W n m : Nat) (A : Option Addr) (c : Nat) (B : Option Addr) (d : Nat) (X0 Y0 : Int) (X Y x y : Nat) (p : Nat → Int) (q : Nat → Nat → Int) (w : World) {C C' : Nat} (hok : FOK W n m p) (hF : FB w g t W A n c B m d X0 Y0)
    (h : RS w C 1 A n (iv p)) (h' : RS w C' 64 B m (tc q)) (hX : X ≤ 255) (hY : Y ≤ 255) (hx : x ≤ 31) (hy : y ≤ 15) :
    Calls Try.prog 43 #[.pointer (some ⟨g, 0, none⟩), .int .i64 X, .int .i64 Y, .int .i64 x, .int .i64 y] w fun e w' => e = .returned (.int .i64 (fpx W n X Y p q x y)) ∧ Below w.heap.size w w' := by
  obtain ⟨w1, w8, hmul, h1, h8, m1, m16, num⟩ := id hok
  obtain ⟨c0, c1, c2, c3, c4⟩ := hF.cells
  have hi := fidx_lt hok X Y x y
  obtain ⟨b, off, rfl, hb, hc⟩ := h.at_ (by omega)
  obtain ⟨b', off', rfl, hb', hc'⟩ := h'.at_ (by omega)
  obtain ⟨hp0, hp1⟩ := num _ hi
  obtain ⟨pi, hpi⟩ := Int.eq_ofNat_of_zero_le hp0
  have hck := hc (fidx W n X Y x y) (by omega)
  have hck' := hc' (pi * 64 + (frow W n Y y % 8 * 8 + fcol W X x % 8)) (by omega)
  have k1 : ¬ W = 0 := by omega
  have hgc : fcol W X x < 8 * W := Nat.mod_lt _ (by omega)
  have hgr : frow W n Y y < 8 * (n / W) := Nat.mod_lt _ (by omega)
  have ecol : ((x : Int) + (X : Int)) % (8 * (W : Int)) = (fcol W X x : Int) := by unfold fcol; simp
  have erow : ((y : Int) + (Y : Int)) % (8 * ((n : Int) / (W : Int))) = (frow W n Y y : Int) := by
    unfold frow; simp
  have eidx : (frow W n Y y : Int) / 8 * (W : Int) + (fcol W X x : Int) / 8 = (fidx W n X Y x y : Int) := by
    unfold fidx
    simp
  have q0 : 0 ≤ (n : Int) / (W : Int) ∧ (n : Int) / (W : Int) ≤ 8 := by
    rw [← Int.natCast_ediv]; omega
  obtain ⟨q1, q2⟩ := q0
  have hn64 : n ≤ 64 := by
    have : W * (n / W) ≤ 8 * 8 := Nat.mul_le_mul w8 h8
    omega
  unfold fpx
  rw [hpi]
  have q5 : pi < m := by omega
  generalize fcol W X x = cl at *
  generalize frow W n Y y = rw' at *
  generalize fidx W n X Y x y = ix at *
  have q3 : 0 ≤ (rw' : Int) / 8 * (W : Int) ∧ (rw' : Int) / 8 * (W : Int) ≤ 64 := ⟨Int.mul_nonneg (by omega) (by omega), by omega⟩
  obtain ⟨q3, q4⟩ := q3
  have hck2 : w.cell? ⟨b, off + ix, none⟩ = some (.int .i64 pi) := hck.trans (by simp only [iv]; rw [hpi])
  have hck3 : w.cell? ⟨b', off' + (pi * 64 + (rw' % 8 * 8 + cl % 8)), none⟩ = some (.int .i64 (q pi (rw' % 8 * 8 + cl % 8))) := by rw [hck', tc_at q pi _ (by omega)]
  obtain ⟨kk, hkk⟩ : ∃ kk : Nat, rw' % 8 * 8 + cl % 8 = kk := ⟨_, rfl⟩
  have hk64 : kk < 64 := by omega
  have epx : (rw' : Int) % 8 * 8 + (cl : Int) % 8 = (kk : Int) := by omega
  rw [hkk, ← Nat.add_assoc] at hck3
  rw [hkk]
  clear hc hc' h h' hF num hok hck hck' hmul hpi hp0 hp1 hkk
  go_enter Try.func43, Try.ntmps43
  go_wp2
  rw [ecol]
  go_quiet (fail)
  go_wp2
  rw [erow]
  go_quiet (fail)
  go_wp2
  go_ret
  exact ⟨rfl, below_drewN (Below.refl _ _) _⟩
theorem spx_c (W n m : Nat) (A : Option Addr) (c : Nat) (B : Option Addr) (d : Nat) (X Y x y : Nat) (p : Nat → Int) (q : Nat → Nat → Int) (w : World) {C C' : Nat} (hok : FOK W n m p)
    (h : RS w C 1 A n (iv p)) (h' : RS w C' 64 B m (tc q)) (hC : C ≤ w.heap.size) (hC' : C' ≤ w.heap.size) (hX : X ≤ 255) (hY : Y ≤ 255) (hx : x ≤ 31) (hy : y ≤ 15) :
    Calls Try.prog 56 #[fdV W A n c B m d X Y, .int .i64 x, .int .i64 y] w fun e w' => e = .returned (.int .i64 (fpx W n X Y p q x y)) ∧ Below w.heap.size w w' := by
  obtain ⟨w1, w8, hmul, h1, h8, m1, m16, num⟩ := id hok
  have hi := fidx_lt hok X Y x y
  obtain ⟨b, off, rfl, hb, hc⟩ := h.at_ (by omega)
  obtain ⟨b', off', rfl, hb', hc'⟩ := h'.at_ (by omega)
  obtain ⟨hp0, hp1⟩ := num _ hi
  obtain ⟨pi, hpi⟩ := Int.eq_ofNat_of_zero_le hp0
  have hck := hc (fidx W n X Y x y) (by omega)
  have hck' := hc' (pi * 64 + (frow W n Y y % 8 * 8 + fcol W X x % 8)) (by omega)
  have k1 : ¬ W = 0 := by omega
  have hgc : fcol W X x < 8 * W := Nat.mod_lt _ (by omega)
  have hgr : frow W n Y y < 8 * (n / W) := Nat.mod_lt _ (by omega)
  have ecol : ((x : Int) + (X : Int)) % (8 * (W : Int)) = (fcol W X x : Int) := by unfold fcol; simp
  have erow : ((y : Int) + (Y : Int)) % (8 * ((n : Int) / (W : Int))) = (frow W n Y y : Int) := by
    unfold frow; simp
  have eidx : (frow W n Y y : Int) / 8 * (W : Int) + (fcol W X x : Int) / 8 = (fidx W n X Y x y : Int) := by
    unfold fidx
    simp
  have q0 : 0 ≤ (n : Int) / (W : Int) ∧ (n : Int) / (W : Int) ≤ 8 := by
    rw [← Int.natCast_ediv]; omega
  obtain ⟨q1, q2⟩ := q0
  have hn64 : n ≤ 64 := by
    have : W * (n / W) ≤ 8 * 8 := Nat.mul_le_mul w8 h8
    omega
  unfold fpx
  rw [hpi]
  have q5 : pi < m := by omega
  generalize fcol W X x = cl at *
  generalize frow W n Y y = rw' at *
  generalize fidx W n X Y x y = ix at *
  have q3 : 0 ≤ (rw' : Int) / 8 * (W : Int) ∧ (rw' : Int) / 8 * (W : Int) ≤ 64 := ⟨Int.mul_nonneg (by omega) (by omega), by omega⟩
  obtain ⟨q3, q4⟩ := q3
  have hck2 : w.cell? ⟨b, off + ix, none⟩ = some (.int .i64 pi) := hck.trans (by simp only [iv]; rw [hpi])
  have hck3 : w.cell? ⟨b', off' + (pi * 64 + (rw' % 8 * 8 + cl % 8)), none⟩ = some (.int .i64 (q pi (rw' % 8 * 8 + cl % 8))) := by rw [hck', tc_at q pi _ (by omega)]
  obtain ⟨kk, hkk⟩ : ∃ kk : Nat, rw' % 8 * 8 + cl % 8 = kk := ⟨_, rfl⟩
  have hk64 : kk < 64 := by omega
  have epx : (rw' : Int) % 8 * 8 + (cl : Int) % 8 = (kk : Int) := by omega
  rw [hkk, ← Nat.add_assoc] at hck3
  rw [hkk]
  have hck4 := (World.cell?_alloc_lt w (.cells #[.int .i64 W, .slice (some ⟨b, off, none⟩) n c, .slice (some ⟨b', off', none⟩) m d, .int .i64 X, .int .i64 Y] 26) ⟨b, off + ix, none⟩ (by show b < _; omega)).trans hck2
  have hck5 := (World.cell?_alloc_lt w (.cells #[.int .i64 W, .slice (some ⟨b, off, none⟩) n c, .slice (some ⟨b', off', none⟩) m d, .int .i64 X, .int .i64 Y] 26) ⟨b', off' + pi * 64 + kk, none⟩ (by show b' < _; omega)).trans hck3
  clear hc hc' h h' num hok hck hck' hmul hpi hp0 hp1 hkk
  go_enter Try.func56, Try.ntmps56
  go_wp2
  rw [ecol]
  go_quiet (fail)
  go_wp2
  rw [erow]
  go_quiet (fail)
  go_wp2
  go_ret
  refine ⟨rfl, ?_⟩
  (repeat (first | with_reducible exact Below.refl _ _ | ((with_reducible refine viaO (by assumption) ?_ ?_ ?_) <;> try ((try simp only [World.size_alloc, World.size_setCell, World.size_drew]) <;> omega)) | ((with_reducible refine Below.alloc ?_ ?_ _) <;> try ((try simp only [World.size_alloc, World.size_setCell, World.size_drew]) <;> omega)) | ((with_reducible refine Below.setCell ?_ ?_ _) <;> try ((try simp only [World.size_alloc, World.size_setCell, World.size_drew]) <;> omega)) | (with_reducible refine below_drewN ?_ _) | (with_reducible refine Below.drew ?_) | ((with_reducible refine via (by assumption) ?_ ?_) <;> try ((try simp only [World.size_alloc, World.size_setCell, World.size_drew]) <;> omega))))
end Go.Proofs.Ytabioinmpjfflaa
