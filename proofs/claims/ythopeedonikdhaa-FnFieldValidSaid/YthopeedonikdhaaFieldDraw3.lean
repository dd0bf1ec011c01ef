/-
  What the drawn fields are, as the laws get them. No conditions.
-/
import Derived.Test.YthopeedonikdhaaFieldDraw
import Derived.Test.YthopeedonikdhaaXYDraw
namespace Go.Proofs.Ythopeedonikdhaa
set_option linter.all false
set_option linter.unusedSimpArgs false
set_option linter.unusedVariables false
open Go.ChangeShapes Go.WideShapes Go.ChangeAt Go.RowKit

/-- What a drawn field is. -/
def FG (w' : World) (W : Int) (A : Option Addr) (n c : Nat) (B : Option Addr) (m d : Nat) (X Y : Int) : Prop := ∃ (p : Nat → Int) (q : Nat → Nat → Int), RS w' w'.heap.size 1 A n (iv p) ∧ RS w' w'.heap.size 64 B m (tc q) ∧ n ≤ c ∧ m ≤ d ∧ n ≤ 100 ∧ m ≤ 100
theorem fg_mk {w' : World} {base : Nat} {W : Int} {A : Option Addr} {n c : Nat} {B : Option Addr} {m d : Nat} {X Y : Int} (h1 : IS w' base 1 A n) (h2 : IS w' base 64 B m) (h3 : n ≤ c) (h4 : m ≤ d) (h5 : n ≤ 100) (h6 : m ≤ 100) : FG w' W A n c B m d X Y := by
  obtain ⟨p, hp⟩ := h1.read
  obtain ⟨q, hq⟩ := h2.readT
  exact ⟨p, q, hp, hq, h3, h4, h5, h6⟩
def DF0 (w : World) (e : Ending) (w' : World) : Prop := ∃ (W : Int) (A : Option Addr) (n c : Nat) (B : Option Addr) (m d : Nat) (X Y : Int), e = .returned (fdV W A n c B m d X Y) ∧ FG w' W A n c B m d X Y ∧ Below w.heap.size w w'
def DF1 (w : World) (e : Ending) (w' : World) : Prop := ∃ (W : Int) (A : Option Addr) (n c : Nat) (B : Option Addr) (m d : Nat) (X Y y : Int), e = .returned (.tuple #[fdV W A n c B m d X Y, .int .i64 y]) ∧ (-1 ≤ y ∧ y ≤ 17) ∧ FG w' W A n c B m d X Y ∧ Below w.heap.size w w'
def DF2 (w : World) (e : Ending) (w' : World) : Prop := ∃ (W : Int) (A : Option Addr) (n c : Nat) (B : Option Addr) (m d : Nat) (X Y x y : Int), e = .returned (.tuple #[fdV W A n c B m d X Y, .int .i64 x, .int .i64 y]) ∧ FG w' W A n c B m d X Y ∧ Below w.heap.size w w'

theorem drawFieldValid_c (a : Option Addr) (len cap : Nat) (w : World) (hcode : Code w a len) (hl : len ≤ cap) : Calls Try.prog 5 #[.slice a len cap] w (DF0 w) := by
  go_enter Try.func5, Try.ntmps5
  have hZ0 : FBz _ w.heap.size := FB.new w 26 0 none 0 0 none 0 0 0 0
  go_wp2_with fail
  refine (open_c _ _ _ _ (hcode.keep (by (repeat (first | with_reducible exact Below.refl _ _ | ((with_reducible refine viaO (by assumption) ?_ ?_ ?_) <;> try ((try simp only [World.size_alloc, World.size_setCell, World.size_drew]) <;> omega)) | ((with_reducible refine Below.alloc ?_ ?_ _) <;> try ((try simp only [World.size_alloc, World.size_setCell, World.size_drew]) <;> omega)) | ((with_reducible refine Below.setCell ?_ ?_ _) <;> try ((try simp only [World.size_alloc, World.size_setCell, World.size_drew]) <;> omega)) | (with_reducible refine below_drewN ?_ _) | (with_reducible refine Below.drew ?_) | ((with_reducible refine via (by assumption) ?_ ?_) <;> try ((try simp only [World.size_alloc, World.size_setCell, World.size_drew]) <;> omega)))))) (by assumption)).mono ?_
  rintro e w1 ⟨R, rfl, hR0, hO_w1, hR_w1⟩
  have hz_w1 := hO_w1.size
  (try simp only [World.size_alloc, World.size_setCell, World.size_drew] at hz_w1)
  (try simp only [World.size_alloc, World.size_setCell, World.size_drew] at hR0)
  have hlt_w1 := hR_w1.lt
  have hZ1 := FB.below hO_w1 hZ0 (by simp)
  have hb1 : Below w.heap.size w w1 := by
    (repeat (first | with_reducible exact Below.refl _ _ | ((with_reducible refine viaO (by assumption) ?_ ?_ ?_) <;> try ((try simp only [World.size_alloc, World.size_setCell, World.size_drew]) <;> omega)) | ((with_reducible refine Below.alloc ?_ ?_ _) <;> try ((try simp only [World.size_alloc, World.size_setCell, World.size_drew]) <;> omega)) | ((with_reducible refine Below.setCell ?_ ?_ _) <;> try ((try simp only [World.size_alloc, World.size_setCell, World.size_drew]) <;> omega)) | (with_reducible refine below_drewN ?_ _) | (with_reducible refine Below.drew ?_) | ((with_reducible refine via (by assumption) ?_ ?_) <;> try ((try simp only [World.size_alloc, World.size_setCell, World.size_drew]) <;> omega))))
  clear hZ0 hO_w1
  go_wp2_with fail
  refine (l20Field_c _ _ _ _ hR_w1 (by omega) (by omega) (by omega)).mono ?_
  rintro e w2 ⟨W, A, n, c, B, m, d, X, Y, rfl, hA, hB, hn, hm, hn', hm', hO2, hR2⟩
  have hz2 := hO2.size
  have hZ2 := FB.only hO2 hZ1 (by omega)
  have hb2 : Below w.heap.size w w2 := viaO hO2 hb1 (by omega) (by omega)
  have hlt1 : w.heap.size < w1.heap.size := by omega
  obtain ⟨d0, d1, d2, d3, d4⟩ := hZ2.cells
  obtain ⟨x0, x1, x2, x3, x4⟩ := hZ2.free
  clear hO2 hZ1
  go_wp2
  refine bodyPost_ret (by simp [results, Try.results5, go_sem, *]) rfl ⟨W, A, n, c, B, m, d, X, Y, rfl, ?_, ?_⟩
  · exact fg_mk (base := w1.heap.size) (((((hA.far (by simp; omega) _).far (by simp; omega) _).far (by simp; omega) _).far (by simp; omega) _).far (by simp; omega) _) (((((hB.far (by simp; omega) _).far (by simp; omega) _).far (by simp; omega) _).far (by simp; omega) _).far (by simp; omega) _) hn hm hn' hm'
  · (repeat (first | with_reducible exact Below.refl _ _ | ((with_reducible refine viaO (by assumption) ?_ ?_ ?_) <;> try ((try simp only [World.size_alloc, World.size_setCell, World.size_drew]) <;> omega)) | ((with_reducible refine Below.alloc ?_ ?_ _) <;> try ((try simp only [World.size_alloc, World.size_setCell, World.size_drew]) <;> omega)) | ((with_reducible refine Below.setCell ?_ ?_ _) <;> try ((try simp only [World.size_alloc, World.size_setCell, World.size_drew]) <;> omega)) | (with_reducible refine below_drewN ?_ _) | (with_reducible refine Below.drew ?_) | ((with_reducible refine via (by assumption) ?_ ?_) <;> try ((try simp only [World.size_alloc, World.size_setCell, World.size_drew]) <;> omega))))
