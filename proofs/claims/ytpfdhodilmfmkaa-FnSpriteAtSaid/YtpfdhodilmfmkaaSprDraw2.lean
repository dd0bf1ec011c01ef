/-
  What the drawn sprites and tiles are, as the laws get them. No conditions.
-/
import Derived.Test.YtpfdhodilmfmkaaSprDraw
import Derived.Test.YtpfdhodilmfmkaaXYDraw
namespace Go.Proofs.Ytpfdhodilmfmkaa
set_option linter.all false
set_option linter.unusedSimpArgs false
set_option linter.unusedVariables false
open Go.ChangeShapes Go.WideShapes Go.ChangeAt Go.RowKit

/-- What drawn lists are. -/
def SG (w' : World) (A : Option Addr) (n c : Nat) (s : Nat → Spr) (B : Option Addr) (m d : Nat) (q : Nat → Nat → Int) : Prop := RS w' w'.heap.size 6 A n (sc s) ∧ RS w' w'.heap.size 64 B m (tc q) ∧ n ≤ c ∧ m ≤ d ∧ n ≤ 24 ∧ 1 ≤ m ∧ m ≤ 4 ∧ (∃ g, A = some ⟨g, 0, none⟩)
def DS0 (w : World) (e : Ending) (w' : World) : Prop := ∃ A n c s B m d q, e = .returned (.tuple #[.slice A n c, .slice B m d]) ∧ SG w' A n c s B m d q ∧ Below w.heap.size w w'
def DS1 (w : World) (e : Ending) (w' : World) : Prop := ∃ A n c s B m d q, ∃ y : Int, e = .returned (.tuple #[.slice A n c, .slice B m d, .int .i64 y]) ∧ (-1 ≤ y ∧ y ≤ 17) ∧ SG w' A n c s B m d q ∧ Below w.heap.size w w'
def DS2 (w : World) (e : Ending) (w' : World) : Prop := ∃ A n c s B m d q, ∃ x y : Int, e = .returned (.tuple #[.slice A n c, .slice B m d, .int .i64 x, .int .i64 y]) ∧ SG w' A n c s B m d q ∧ Below w.heap.size w w'

theorem drawSpritesValid_c (a : Option Addr) (len cap : Nat) (w : World) (hcode : Code w a len) (hl : len ≤ cap) : Calls Try.prog 13 #[.slice a len cap] w (DS0 w) := by
  go_enter Try.func13, Try.ntmps13
  go_wp2_with fail
  refine (open_c _ _ _ _ (hcode.keep (by (repeat (first | with_reducible exact Below.refl _ _ | ((with_reducible refine viaO (by assumption) ?_ ?_ ?_) <;> try ((try simp only [World.size_alloc, World.size_setCell, World.size_drew]) <;> omega)) | ((with_reducible refine Below.alloc ?_ ?_ _) <;> try ((try simp only [World.size_alloc, World.size_setCell, World.size_drew]) <;> omega)) | ((with_reducible refine Below.setCell ?_ ?_ _) <;> try ((try simp only [World.size_alloc, World.size_setCell, World.size_drew]) <;> omega)) | (with_reducible refine below_drewN ?_ _) | (with_reducible refine Below.drew ?_) | ((with_reducible refine via (by assumption) ?_ ?_) <;> try ((try simp only [World.size_alloc, World.size_setCell, World.size_drew]) <;> omega)))))) (by assumption)).mono ?_
  rintro e w1 ⟨R, rfl, hR0, hO_w1, hR_w1⟩
  have hz_w1 := hO_w1.size
  (try simp only [World.size_alloc, World.size_setCell, World.size_drew] at hz_w1)
  (try simp only [World.size_alloc, World.size_setCell, World.size_drew] at hR0)
  have hlt_w1 := hR_w1.lt
  go_wp2_with fail
  refine (l20Tiles_c _ _ _ _ hR_w1 (by omega) (by omega) (by omega)).mono ?_
  rintro e w2 ⟨B, m, d, q, rfl, hm1, hm4, hB, hO2, hR2⟩
  have hz2 := hO2.size
  have hb2 : Below w.heap.size w w2 := viaO hO2 hO_w1 (by omega) (by omega)
  go_wp2_with fail
  refine (l20Sprites_c _ _ _ _ _ hR2 (by omega) (by omega) (by omega) (by omega)).mono ?_
  rintro e w3 ⟨A, n, c, s, rfl, hn, hAg, hA, hO3, hR3⟩
  have hB3 := own_onlyR hB hO3 (by omega)
  have hb3 : Below w.heap.size w w3 := viaO hO3 hb2 (by omega) (by omega)
  go_wp2
  refine bodyPost_ret (v := .tuple #[.slice A n c, .slice B m d]) (by simp [results, Try.results13, go_sem]) rfl ⟨A, n, c, s, B, m, d, q, rfl, ⟨own_rs hA, own_rs hB3, own_cap hA, own_cap hB3, hn, hm1, hm4, hAg⟩, hb3⟩

theorem drawSpritesOnLine_c (a : Option Addr) (len cap : Nat) (w : World) (hcode : Code w a len) (hl : len ≤ cap) : Calls Try.prog 27 #[.slice a len cap] w (DS1 w) := by
  go_enter Try.func27, Try.ntmps27
  go_wp2_with fail
  refine (open_c _ _ _ _ (hcode.keep (by (repeat (first | with_reducible exact Below.refl _ _ | ((with_reducible refine viaO (by assumption) ?_ ?_ ?_) <;> try ((try simp only [World.size_alloc, World.size_setCell, World.size_drew]) <;> omega)) | ((with_reducible refine Below.alloc ?_ ?_ _) <;> try ((try simp only [World.size_alloc, World.size_setCell, World.size_drew]) <;> omega)) | ((with_reducible refine Below.setCell ?_ ?_ _) <;> try ((try simp only [World.size_alloc, World.size_setCell, World.size_drew]) <;> omega)) | (with_reducible refine below_drewN ?_ _) | (with_reducible refine Below.drew ?_) | ((with_reducible refine via (by assumption) ?_ ?_) <;> try ((try simp only [World.size_alloc, World.size_setCell, World.size_drew]) <;> omega)))))) (by assumption)).mono ?_
  rintro e w1 ⟨R, rfl, hR0, hO_w1, hR_w1⟩
  have hz_w1 := hO_w1.size
  (try simp only [World.size_alloc, World.size_setCell, World.size_drew] at hz_w1)
  (try simp only [World.size_alloc, World.size_setCell, World.size_drew] at hR0)
  have hlt_w1 := hR_w1.lt
  go_wp2_with fail
  refine (l20Tiles_c _ _ _ _ hR_w1 (by omega) (by omega) (by omega)).mono ?_
  rintro e w2 ⟨B, m, d, q, rfl, hm1, hm4, hB, hO2, hR2⟩
  have hz2 := hO2.size
  have hb2 : Below w.heap.size w w2 := viaO hO2 hO_w1 (by omega) (by omega)
  go_wp2_with fail
  refine (l20Sprites_c _ _ _ _ _ hR2 (by omega) (by omega) (by omega) (by omega)).mono ?_
  rintro e w3 ⟨A, n, c, s, rfl, hn, hAg, hA, hO3, hR3⟩
  have hz3 := hO3.size
  have hB3 := own_onlyR hB hO3 (by omega)
  have hb3 : Below w.heap.size w w3 := viaO hO3 hb2 (by omega) (by omega)
  go_wp2_with fail
  refine (pick_c _ _ _ _ hR3 (by omega) (by omega) (by omega)).mono ?_
  rintro e w4 ⟨y, hy, rfl, hO4, hR4⟩
  have hy1 : y < 18 := by omega
  have ew : IntKind.i64.wrap ((y : Int) - 1) = (y : Int) - 1 := IntWalk.i64_in _ (by omega)
  have hB4 := own_onlyR hB3 hO4 (by omega)
  have hA4 := own_onlyR hA hO4 (by omega)
  have hb4 : Below w.heap.size w w4 := viaO hO4 hb3 (by omega) (by omega)
  go_wp2
  refine bodyPost_ret (v := .tuple #[.slice A n c, .slice B m d, .int .i64 ((y : Int) - 1)]) (by simp [results, Try.results27, go_sem]) rfl ⟨A, n, c, s, B, m, d, q, _, rfl, ⟨by omega, by omega⟩, ⟨own_rs hA4, own_rs hB4, own_cap hA, own_cap hB3, hn, hm1, hm4, hAg⟩, hb4⟩

theorem drawSpritesHidden_c (a : Option Addr) (len cap : Nat) (w : World) (hcode : Code w a len) (hl : len ≤ cap) : Calls Try.prog 23 #[.slice a len cap] w (DS1 w) := by
  go_enter Try.func23, Try.ntmps23
  go_wp2_with fail
  refine (drawSpritesOnLine_c a len cap w hcode hl).mono ?_
  rintro e w1 ⟨A, n, c, s, B, m, d, q, y, rfl, hy, hS, hb⟩
  go_wp2
  exact bodyPost_ret (v := .tuple #[.slice A n c, .slice B m d, .int .i64 y]) (by simp [results, Try.results23, go_sem]) rfl ⟨A, n, c, s, B, m, d, q, y, rfl, hy, hS, hb⟩
end Go.Proofs.Ytpfdhodilmfmkaa
