/-
  What the drawn colors are: some color (its components whole numbers). No conditions.
-/
import Derived.Test.YtcaijfbiegafeaaColor
import Derived.Deep.RegionWith
import Derived.IntWalk
namespace Go.Proofs.Ytcaijfbiegafeaa
set_option linter.all false
set_option linter.unusedSimpArgs false
set_option linter.unusedVariables false
open Go.ChangeShapes Go.WideShapes Go.ChangeAt Go.RowKit

def DColor (R : Nat) (k : Int) (w : World) (e : Ending) (w' : World) : Prop := ∃ r g b : Int, e = .returned (colV r g b) ∧ Only R w w' ∧ Rd w' R (k + 6)
theorem l20Color_c (R : Nat) (n k : Int) (w : World) (hR : Rd w R k) (hk : k ≤ 1000000) (hn : n ≤ 1000000) (hn0 : -1000000 ≤ n) :
    Calls Try.prog 34 #[.pointer (some ⟨R, 0, none⟩), .int .i64 n] w (DColor R k w) := by
  have hlt := hR.lt
  go_enter Try.func34, Try.ntmps34
  go_wp2_with fail
  refine (pick_c _ _ _ _ (by (repeat (first | with_reducible assumption | (with_reducible apply Rd.alloc) | ((with_reducible apply Rd.setCell) <;> try ((try simp only [World.size_alloc, World.size_setCell, World.size_drew]) <;> omega)) | (with_reducible apply Rd.drewN) | (with_reducible apply Rd.drew)))) (by omega) (by omega) (by omega)).mono ?_
  rintro e w1 ⟨a, hv_a, rfl, hO_w1, hR_w1⟩
  have hz_w1 := hO_w1.size
  (try simp only [World.size_alloc, World.size_setCell, World.size_drew] at hz_w1)
  have hs_w1_0 : w.heap.size < w1.heap.size ∧ w.heap.size ≠ R := (by omega)
  have c_w1_0 := fun o => (Only.cells hO_w1).1 (w.heap.size) o (by (try simp only [World.size_alloc, World.size_setCell, World.size_drew]) <;> omega) hs_w1_0.2
  have f_w1_0 := fun o => (Only.cells hO_w1).2 (w.heap.size) o (by (try simp only [World.size_alloc, World.size_setCell, World.size_drew]) <;> omega) hs_w1_0.2
  go_wp2_with fail
  refine (pick_c _ _ _ _ (by (repeat (first | with_reducible assumption | (with_reducible apply Rd.alloc) | ((with_reducible apply Rd.setCell) <;> try ((try simp only [World.size_alloc, World.size_setCell, World.size_drew]) <;> omega)) | (with_reducible apply Rd.drewN) | (with_reducible apply Rd.drew)))) (by omega) (by omega) (by omega)).mono ?_
  rintro e w2 ⟨b, hv_b, rfl, hO_w2, hR_w2⟩
  have hz_w2 := hO_w2.size
  (try simp only [World.size_alloc, World.size_setCell, World.size_drew] at hz_w2)
  have hs_w2_0 : w.heap.size < w2.heap.size ∧ w.heap.size ≠ R := (by omega)
  have c_w2_0 := fun o => (Only.cells hO_w2).1 (w.heap.size) o (by (try simp only [World.size_alloc, World.size_setCell, World.size_drew]) <;> omega) hs_w2_0.2
  have f_w2_0 := fun o => (Only.cells hO_w2).2 (w.heap.size) o (by (try simp only [World.size_alloc, World.size_setCell, World.size_drew]) <;> omega) hs_w2_0.2
  go_wp2_with fail
  refine (pick_c _ _ _ _ (by (repeat (first | with_reducible assumption | (with_reducible apply Rd.alloc) | ((with_reducible apply Rd.setCell) <;> try ((try simp only [World.size_alloc, World.size_setCell, World.size_drew]) <;> omega)) | (with_reducible apply Rd.drewN) | (with_reducible apply Rd.drew)))) (by omega) (by omega) (by omega)).mono ?_
  rintro e w3 ⟨c, hv_c, rfl, hO_w3, hR_w3⟩
  have hz_w3 := hO_w3.size
  (try simp only [World.size_alloc, World.size_setCell, World.size_drew] at hz_w3)
  have hs_w3_0 : w.heap.size < w3.heap.size ∧ w.heap.size ≠ R := (by omega)
  have c_w3_0 := fun o => (Only.cells hO_w3).1 (w.heap.size) o (by (try simp only [World.size_alloc, World.size_setCell, World.size_drew]) <;> omega) hs_w3_0.2
  have f_w3_0 := fun o => (Only.cells hO_w3).2 (w.heap.size) o (by (try simp only [World.size_alloc, World.size_setCell, World.size_drew]) <;> omega) hs_w3_0.2
  go_wp2_with fail
  refine (odd_c _ _ _ _ (by (repeat (first | with_reducible assumption | (with_reducible apply Rd.alloc) | ((with_reducible apply Rd.setCell) <;> try ((try simp only [World.size_alloc, World.size_setCell, World.size_drew]) <;> omega)) | (with_reducible apply Rd.drewN) | (with_reducible apply Rd.drew)))) (by omega) (by omega) (by omega)).mono ?_
  rintro e w4 ⟨v, rfl, hO_w4, hR_w4⟩
  have hz_w4 := hO_w4.size
  (try simp only [World.size_alloc, World.size_setCell, World.size_drew] at hz_w4)
  have hs_w4_0 : w.heap.size < w4.heap.size ∧ w.heap.size ≠ R := (by omega)
  have c_w4_0 := fun o => (Only.cells hO_w4).1 (w.heap.size) o (by (try simp only [World.size_alloc, World.size_setCell, World.size_drew]) <;> omega) hs_w4_0.2
  have f_w4_0 := fun o => (Only.cells hO_w4).2 (w.heap.size) o (by (try simp only [World.size_alloc, World.size_setCell, World.size_drew]) <;> omega) hs_w4_0.2
  have hs_w4_1 : w3.heap.size < w4.heap.size ∧ w3.heap.size ≠ R := (by omega)
  have c_w4_1 := fun o => (Only.cells hO_w4).1 (w3.heap.size) o (by (try simp only [World.size_alloc, World.size_setCell, World.size_drew]) <;> omega) hs_w4_1.2
  have f_w4_1 := fun o => (Only.cells hO_w4).2 (w3.heap.size) o (by (try simp only [World.size_alloc, World.size_setCell, World.size_drew]) <;> omega) hs_w4_1.2
  cases v
  · go_wp2
    refine bodyPost_ret (v := colV a b c) (by simp only [results, Try.results34]; go_simp) rfl ⟨_, _, _, rfl, ?_, ?_⟩
    · (repeat (first | with_reducible exact Only.refl _ _ | (with_reducible refine Only.alloc ?_ _) | ((with_reducible refine Only.setCell ?_ ?_ _) <;> try ((try simp only [World.size_alloc, World.size_setCell, World.size_drew]) <;> omega)) | (with_reducible refine Only.drewN ?_ _) | (with_reducible refine Only.drew ?_) | (with_reducible refine Only.trans ?_ (by assumption))))
    · refine Rd.more (k := k + 1 + 1 + 1 + 1) ?_ (by omega)
      (repeat (first | with_reducible assumption | (with_reducible apply Rd.alloc) | ((with_reducible apply Rd.setCell) <;> try ((try simp only [World.size_alloc, World.size_setCell, World.size_drew]) <;> omega)) | (with_reducible apply Rd.drewN) | (with_reducible apply Rd.drew)))
  · go_wp2_with fail
    refine (pick_c _ _ _ _ (by (repeat (first | with_reducible assumption | (with_reducible apply Rd.alloc) | ((with_reducible apply Rd.setCell) <;> try ((try simp only [World.size_alloc, World.size_setCell, World.size_drew]) <;> omega)) | (with_reducible apply Rd.drewN) | (with_reducible apply Rd.drew)))) (by omega) (by omega) (by omega)).mono ?_
    rintro e w5 ⟨d, hv_d, rfl, hO_w5, hR_w5⟩
    have hz_w5 := hO_w5.size
    (try simp only [World.size_alloc, World.size_setCell, World.size_drew] at hz_w5)
    have hs_w5_0 : w.heap.size < w5.heap.size ∧ w.heap.size ≠ R := (by omega)
    have c_w5_0 := fun o => (Only.cells hO_w5).1 (w.heap.size) o (by (try simp only [World.size_alloc, World.size_setCell, World.size_drew]) <;> omega) hs_w5_0.2
    have f_w5_0 := fun o => (Only.cells hO_w5).2 (w.heap.size) o (by (try simp only [World.size_alloc, World.size_setCell, World.size_drew]) <;> omega) hs_w5_0.2
    have hs_w5_1 : w3.heap.size < w5.heap.size ∧ w3.heap.size ≠ R := (by omega)
    have c_w5_1 := fun o => (Only.cells hO_w5).1 (w3.heap.size) o (by (try simp only [World.size_alloc, World.size_setCell, World.size_drew]) <;> omega) hs_w5_1.2
    have f_w5_1 := fun o => (Only.cells hO_w5).2 (w3.heap.size) o (by (try simp only [World.size_alloc, World.size_setCell, World.size_drew]) <;> omega) hs_w5_1.2
    obtain ⟨x, hx, hx0, hx1⟩ := hO_w5.int_new (m := d) (lo := -1) (hi := 32) (by omega) (by simp <;> omega) (by simp <;> omega)
    go_wp2
    refine bodyPost_ret (v := colV a x c) (by simp only [results, Try.results34]; go_simp) rfl ⟨_, _, _, rfl, ?_, ?_⟩
    · (repeat (first | with_reducible exact Only.refl _ _ | (with_reducible refine Only.alloc ?_ _) | ((with_reducible refine Only.setCell ?_ ?_ _) <;> try ((try simp only [World.size_alloc, World.size_setCell, World.size_drew]) <;> omega)) | (with_reducible refine Only.drewN ?_ _) | (with_reducible refine Only.drew ?_) | (with_reducible refine Only.trans ?_ (by assumption))))
    · refine Rd.more (k := k + 1 + 1 + 1 + 1 + 1) ?_ (by omega)
      (repeat (first | with_reducible assumption | (with_reducible apply Rd.alloc) | ((with_reducible apply Rd.setCell) <;> try ((try simp only [World.size_alloc, World.size_setCell, World.size_drew]) <;> omega)) | (with_reducible apply Rd.drewN) | (with_reducible apply Rd.drew)))

theorem drawColorValid_c (a : Option Addr) (len cap : Nat) (w : World) (hcode : Code w a len) (hl : len ≤ cap) : Calls Try.prog 26 #[.slice a len cap] w fun e w' => ∃ r g b : Int, e = .returned (colV r g b) ∧ Below w.heap.size w w' := by
  go_enter Try.func26, Try.ntmps26
  go_wp2_with fail
  refine (open_c _ _ _ _ (hcode.keep (by (repeat (first | with_reducible exact Below.refl _ _ | ((with_reducible refine viaO (by assumption) ?_ ?_ ?_) <;> try ((try simp only [World.size_alloc, World.size_setCell, World.size_drew]) <;> omega)) | ((with_reducible refine Below.alloc ?_ ?_ _) <;> try ((try simp only [World.size_alloc, World.size_setCell, World.size_drew]) <;> omega)) | ((with_reducible refine Below.setCell ?_ ?_ _) <;> try ((try simp only [World.size_alloc, World.size_setCell, World.size_drew]) <;> omega)) | (with_reducible refine below_drewN ?_ _) | (with_reducible refine Below.drew ?_) | ((with_reducible refine via (by assumption) ?_ ?_) <;> try ((try simp only [World.size_alloc, World.size_setCell, World.size_drew]) <;> omega)))))) (by assumption)).mono ?_
  rintro e w1 ⟨R, rfl, hR0, hO_w1, hR_w1⟩
  have hz_w1 := hO_w1.size
  (try simp only [World.size_alloc, World.size_setCell, World.size_drew] at hz_w1)
  have hs_w1_0 : w.heap.size < w1.heap.size := (by omega)
  have c_w1_0 := fun o => (bcell hO_w1).1 (w.heap.size) o (by (try simp only [World.size_alloc, World.size_setCell, World.size_drew]) <;> omega)
  have f_w1_0 := fun o => (bcell hO_w1).2 (w.heap.size) o (by (try simp only [World.size_alloc, World.size_setCell, World.size_drew]) <;> omega)
  (try simp only [World.size_alloc, World.size_setCell, World.size_drew] at hR0)
  have hlt_w1 := hR_w1.lt
  have ht_w1_0 : w.heap.size < w1.heap.size ∧ w.heap.size ≠ R := (by omega)
  go_wp2_with fail
  refine (l20Color_c _ _ _ _ (by (repeat (first | with_reducible assumption | (with_reducible apply Rd.alloc) | ((with_reducible apply Rd.setCell) <;> try ((try simp only [World.size_alloc, World.size_setCell, World.size_drew]) <;> omega)) | (with_reducible apply Rd.drewN) | (with_reducible apply Rd.drew)))) (by omega) (by omega) (by omega)).mono ?_
  rintro e w2 ⟨x, y, z, rfl, hO_w2, hR_w2⟩
  have hz_w2 := hO_w2.size
  (try simp only [World.size_alloc, World.size_setCell, World.size_drew] at hz_w2)
  have hs_w2_0 : w.heap.size < w2.heap.size ∧ w.heap.size ≠ R := (by omega)
  have c_w2_0 := fun o => (Only.cells hO_w2).1 (w.heap.size) o (by (try simp only [World.size_alloc, World.size_setCell, World.size_drew]) <;> omega) hs_w2_0.2
  have f_w2_0 := fun o => (Only.cells hO_w2).2 (w.heap.size) o (by (try simp only [World.size_alloc, World.size_setCell, World.size_drew]) <;> omega) hs_w2_0.2
  go_wp2
  refine bodyPost_ret (v := colV x y z) (by simp [results, Try.results26, go_sem, *]) rfl ⟨_, _, _, rfl, ?_⟩
  (repeat (first | with_reducible exact Below.refl _ _ | ((with_reducible refine viaO (by assumption) ?_ ?_ ?_) <;> try ((try simp only [World.size_alloc, World.size_setCell, World.size_drew]) <;> omega)) | ((with_reducible refine Below.alloc ?_ ?_ _) <;> try ((try simp only [World.size_alloc, World.size_setCell, World.size_drew]) <;> omega)) | ((with_reducible refine Below.setCell ?_ ?_ _) <;> try ((try simp only [World.size_alloc, World.size_setCell, World.size_drew]) <;> omega)) | (with_reducible refine below_drewN ?_ _) | (with_reducible refine Below.drew ?_) | ((with_reducible refine via (by assumption) ?_ ?_) <;> try ((try simp only [World.size_alloc, World.size_setCell, World.size_drew]) <;> omega))))

theorem drawPackColor_c (a : Option Addr) (len cap : Nat) (w : World) (hcode : Code w a len) (hl : len ≤ cap) : Calls Try.prog 31 #[.slice a len cap] w fun e w' => ∃ r g b : Int, e = .returned (colV r g b) ∧ Below w.heap.size w w' := by
  go_enter Try.func31, Try.ntmps31
  go_wp2_with fail
  refine (open_c _ _ _ _ (hcode.keep (by (repeat (first | with_reducible exact Below.refl _ _ | ((with_reducible refine viaO (by assumption) ?_ ?_ ?_) <;> try ((try simp only [World.size_alloc, World.size_setCell, World.size_drew]) <;> omega)) | ((with_reducible refine Below.alloc ?_ ?_ _) <;> try ((try simp only [World.size_alloc, World.size_setCell, World.size_drew]) <;> omega)) | ((with_reducible refine Below.setCell ?_ ?_ _) <;> try ((try simp only [World.size_alloc, World.size_setCell, World.size_drew]) <;> omega)) | (with_reducible refine below_drewN ?_ _) | (with_reducible refine Below.drew ?_) | ((with_reducible refine via (by assumption) ?_ ?_) <;> try ((try simp only [World.size_alloc, World.size_setCell, World.size_drew]) <;> omega)))))) (by assumption)).mono ?_
  rintro e w1 ⟨R, rfl, hR0, hO_w1, hR_w1⟩
  have hz_w1 := hO_w1.size
  (try simp only [World.size_alloc, World.size_setCell, World.size_drew] at hz_w1)
  have hs_w1_0 : w.heap.size < w1.heap.size := (by omega)
  have c_w1_0 := fun o => (bcell hO_w1).1 (w.heap.size) o (by (try simp only [World.size_alloc, World.size_setCell, World.size_drew]) <;> omega)
  have f_w1_0 := fun o => (bcell hO_w1).2 (w.heap.size) o (by (try simp only [World.size_alloc, World.size_setCell, World.size_drew]) <;> omega)
  (try simp only [World.size_alloc, World.size_setCell, World.size_drew] at hR0)
  have hlt_w1 := hR_w1.lt
  have ht_w1_0 : w.heap.size < w1.heap.size ∧ w.heap.size ≠ R := (by omega)
  go_wp2_with fail
  refine (l20Color_c _ _ _ _ (by (repeat (first | with_reducible assumption | (with_reducible apply Rd.alloc) | ((with_reducible apply Rd.setCell) <;> try ((try simp only [World.size_alloc, World.size_setCell, World.size_drew]) <;> omega)) | (with_reducible apply Rd.drewN) | (with_reducible apply Rd.drew)))) (by omega) (by omega) (by omega)).mono ?_
  rintro e w2 ⟨x, y, z, rfl, hO_w2, hR_w2⟩
  have hz_w2 := hO_w2.size
  (try simp only [World.size_alloc, World.size_setCell, World.size_drew] at hz_w2)
  have hs_w2_0 : w.heap.size < w2.heap.size ∧ w.heap.size ≠ R := (by omega)
  have c_w2_0 := fun o => (Only.cells hO_w2).1 (w.heap.size) o (by (try simp only [World.size_alloc, World.size_setCell, World.size_drew]) <;> omega) hs_w2_0.2
  have f_w2_0 := fun o => (Only.cells hO_w2).2 (w.heap.size) o (by (try simp only [World.size_alloc, World.size_setCell, World.size_drew]) <;> omega) hs_w2_0.2
  go_wp2
  refine bodyPost_ret (v := colV x y z) (by simp [results, Try.results31, go_sem, *]) rfl ⟨_, _, _, rfl, ?_⟩
  (repeat (first | with_reducible exact Below.refl _ _ | ((with_reducible refine viaO (by assumption) ?_ ?_ ?_) <;> try ((try simp only [World.size_alloc, World.size_setCell, World.size_drew]) <;> omega)) | ((with_reducible refine Below.alloc ?_ ?_ _) <;> try ((try simp only [World.size_alloc, World.size_setCell, World.size_drew]) <;> omega)) | ((with_reducible refine Below.setCell ?_ ?_ _) <;> try ((try simp only [World.size_alloc, World.size_setCell, World.size_drew]) <;> omega)) | (with_reducible refine below_drewN ?_ _) | (with_reducible refine Below.drew ?_) | ((with_reducible refine via (by assumption) ?_ ?_) <;> try ((try simp only [World.size_alloc, World.size_setCell, World.size_drew]) <;> omega))))

theorem drawUnpackColor_c (a : Option Addr) (len cap : Nat) (w : World) (hcode : Code w a len) (hl : len ≤ cap) : Calls Try.prog 28 #[.slice a len cap] w fun e w' => ∃ n : Int, e = .returned (.int .i64 n) ∧ Below w.heap.size w w' := by
  go_enter Try.func28, Try.ntmps28
  go_wp2_with fail
  refine (open_c _ _ _ _ (hcode.keep (by (repeat (first | with_reducible exact Below.refl _ _ | ((with_reducible refine viaO (by assumption) ?_ ?_ ?_) <;> try ((try simp only [World.size_alloc, World.size_setCell, World.size_drew]) <;> omega)) | ((with_reducible refine Below.alloc ?_ ?_ _) <;> try ((try simp only [World.size_alloc, World.size_setCell, World.size_drew]) <;> omega)) | ((with_reducible refine Below.setCell ?_ ?_ _) <;> try ((try simp only [World.size_alloc, World.size_setCell, World.size_drew]) <;> omega)) | (with_reducible refine below_drewN ?_ _) | (with_reducible refine Below.drew ?_) | ((with_reducible refine via (by assumption) ?_ ?_) <;> try ((try simp only [World.size_alloc, World.size_setCell, World.size_drew]) <;> omega)))))) (by assumption)).mono ?_
  rintro e w1 ⟨R, rfl, hR0, hO_w1, hR_w1⟩
  have hz_w1 := hO_w1.size
  (try simp only [World.size_alloc, World.size_setCell, World.size_drew] at hz_w1)
  (try simp only [World.size_alloc, World.size_setCell, World.size_drew] at hR0)
  have hlt_w1 := hR_w1.lt
  go_wp2_with fail
  refine (pick_c _ _ _ _ (by (repeat (first | with_reducible assumption | (with_reducible apply Rd.alloc) | ((with_reducible apply Rd.setCell) <;> try ((try simp only [World.size_alloc, World.size_setCell, World.size_drew]) <;> omega)) | (with_reducible apply Rd.drewN) | (with_reducible apply Rd.drew)))) (by omega) (by omega) (by omega)).mono ?_
  rintro e w2 ⟨x, hv_x, rfl, hO_w2, hR_w2⟩
  have hz_w2 := hO_w2.size
  (try simp only [World.size_alloc, World.size_setCell, World.size_drew] at hz_w2)
  go_wp2_with fail
  refine (pick_c _ _ _ _ (by (repeat (first | with_reducible assumption | (with_reducible apply Rd.alloc) | ((with_reducible apply Rd.setCell) <;> try ((try simp only [World.size_alloc, World.size_setCell, World.size_drew]) <;> omega)) | (with_reducible apply Rd.drewN) | (with_reducible apply Rd.drew)))) (by omega) (by omega) (by omega)).mono ?_
  rintro e w3 ⟨y, hv_y, rfl, hO_w3, hR_w3⟩
  have hz_w3 := hO_w3.size
  (try simp only [World.size_alloc, World.size_setCell, World.size_drew] at hz_w3)
  go_wp2_with fail
  refine (pick_c _ _ _ _ (by (repeat (first | with_reducible assumption | (with_reducible apply Rd.alloc) | ((with_reducible apply Rd.setCell) <;> try ((try simp only [World.size_alloc, World.size_setCell, World.size_drew]) <;> omega)) | (with_reducible apply Rd.drewN) | (with_reducible apply Rd.drew)))) (by omega) (by omega) (by omega)).mono ?_
  rintro e w4 ⟨z, hv_z, rfl, hO_w4, hR_w4⟩
  have hz_w4 := hO_w4.size
  (try simp only [World.size_alloc, World.size_setCell, World.size_drew] at hz_w4)
  have hs_w4_0 : w3.heap.size < w4.heap.size ∧ w3.heap.size ≠ R := (by omega)
  have c_w4_0 := fun o => (Only.cells hO_w4).1 (w3.heap.size) o (by (try simp only [World.size_alloc, World.size_setCell, World.size_drew]) <;> omega) hs_w4_0.2
  have f_w4_0 := fun o => (Only.cells hO_w4).2 (w3.heap.size) o (by (try simp only [World.size_alloc, World.size_setCell, World.size_drew]) <;> omega) hs_w4_0.2
  have hs_w4_1 : w3.heap.size + 1 < w4.heap.size ∧ w3.heap.size + 1 ≠ R := (by omega)
  have c_w4_1 := fun o => (Only.cells hO_w4).1 (w3.heap.size + 1) o (by (try simp only [World.size_alloc, World.size_setCell, World.size_drew]) <;> omega) hs_w4_1.2
  have f_w4_1 := fun o => (Only.cells hO_w4).2 (w3.heap.size + 1) o (by (try simp only [World.size_alloc, World.size_setCell, World.size_drew]) <;> omega) hs_w4_1.2
  have hz7 : z < 7 := by omega
  have hz : z = 0 ∨ z = 1 ∨ z = 2 ∨ z = 3 ∨ z = 4 ∨ z = 5 ∨ z = 6 := by omega
  clear hz7 hv_z
  rcases hz with rfl | rfl | rfl | rfl | rfl | rfl | rfl
  all_goals
    go_wp2
    go_ret
    refine ⟨_, rfl, ?_⟩
    (repeat (first | with_reducible exact Below.refl _ _ | ((with_reducible refine viaO (by assumption) ?_ ?_ ?_) <;> try ((try simp only [World.size_alloc, World.size_setCell, World.size_drew]) <;> omega)) | ((with_reducible refine Below.alloc ?_ ?_ _) <;> try ((try simp only [World.size_alloc, World.size_setCell, World.size_drew]) <;> omega)) | ((with_reducible refine Below.setCell ?_ ?_ _) <;> try ((try simp only [World.size_alloc, World.size_setCell, World.size_drew]) <;> omega)) | (with_reducible refine below_drewN ?_ _) | (with_reducible refine Below.drew ?_) | ((with_reducible refine via (by assumption) ?_ ?_) <;> try ((try simp only [World.size_alloc, World.size_setCell, World.size_drew]) <;> omega))))

theorem drawFadeColor_c (a : Option Addr) (len cap : Nat) (w : World) (hcode : Code w a len) (hl : len ≤ cap) : Calls Try.prog 29 #[.slice a len cap] w fun e w' => ∃ r g b n : Int, e = .returned (.tuple #[colV r g b, .int .i64 n]) ∧ -1 ≤ n ∧ n ≤ 17 ∧ Below w.heap.size w w' := by
  go_enter Try.func29, Try.ntmps29
  go_wp2_with fail
  refine (open_c _ _ _ _ (hcode.keep (by (repeat (first | with_reducible exact Below.refl _ _ | ((with_reducible refine viaO (by assumption) ?_ ?_ ?_) <;> try ((try simp only [World.size_alloc, World.size_setCell, World.size_drew]) <;> omega)) | ((with_reducible refine Below.alloc ?_ ?_ _) <;> try ((try simp only [World.size_alloc, World.size_setCell, World.size_drew]) <;> omega)) | ((with_reducible refine Below.setCell ?_ ?_ _) <;> try ((try simp only [World.size_alloc, World.size_setCell, World.size_drew]) <;> omega)) | (with_reducible refine below_drewN ?_ _) | (with_reducible refine Below.drew ?_) | ((with_reducible refine via (by assumption) ?_ ?_) <;> try ((try simp only [World.size_alloc, World.size_setCell, World.size_drew]) <;> omega)))))) (by assumption)).mono ?_
  rintro e w1 ⟨R, rfl, hR0, hO_w1, hR_w1⟩
  have hz_w1 := hO_w1.size
  (try simp only [World.size_alloc, World.size_setCell, World.size_drew] at hz_w1)
  have hs_w1_0 : w.heap.size < w1.heap.size := (by omega)
  have c_w1_0 := fun o => (bcell hO_w1).1 (w.heap.size) o (by (try simp only [World.size_alloc, World.size_setCell, World.size_drew]) <;> omega)
  have f_w1_0 := fun o => (bcell hO_w1).2 (w.heap.size) o (by (try simp only [World.size_alloc, World.size_setCell, World.size_drew]) <;> omega)
  (try simp only [World.size_alloc, World.size_setCell, World.size_drew] at hR0)
  have hlt_w1 := hR_w1.lt
  have ht_w1_0 : w.heap.size < w1.heap.size ∧ w.heap.size ≠ R := (by omega)
  go_wp2_with fail
  refine (l20Color_c _ _ _ _ (by (repeat (first | with_reducible assumption | (with_reducible apply Rd.alloc) | ((with_reducible apply Rd.setCell) <;> try ((try simp only [World.size_alloc, World.size_setCell, World.size_drew]) <;> omega)) | (with_reducible apply Rd.drewN) | (with_reducible apply Rd.drew)))) (by omega) (by omega) (by omega)).mono ?_
  rintro e w2 ⟨x, y, z, rfl, hO_w2, hR_w2⟩
  have hz_w2 := hO_w2.size
  (try simp only [World.size_alloc, World.size_setCell, World.size_drew] at hz_w2)
  have hs_w2_0 : w.heap.size < w2.heap.size ∧ w.heap.size ≠ R := (by omega)
  have c_w2_0 := fun o => (Only.cells hO_w2).1 (w.heap.size) o (by (try simp only [World.size_alloc, World.size_setCell, World.size_drew]) <;> omega) hs_w2_0.2
  have f_w2_0 := fun o => (Only.cells hO_w2).2 (w.heap.size) o (by (try simp only [World.size_alloc, World.size_setCell, World.size_drew]) <;> omega) hs_w2_0.2
  go_wp2
  go_region_with (go_at_call 37; (refine (pick_c _ _ _ _ (by (repeat (first | with_reducible assumption | (with_reducible apply Rd.alloc) | ((with_reducible apply Rd.setCell) <;> try ((try simp only [World.size_alloc, World.size_setCell, World.size_drew]) <;> omega)) | (with_reducible apply Rd.drewN) | (with_reducible apply Rd.drew)))) (by omega) (by omega) (by omega)).mono ?_; rintro e w3 ⟨v, hv_v, rfl, hO_w3, hR_w3⟩; have hz_w3 := hO_w3.size; (try simp only [World.size_alloc, World.size_setCell, World.size_drew] at hz_w3); have hs_w3_0 : w.heap.size < w3.heap.size ∧ w.heap.size ≠ R := (by omega); have c_w3_0 := fun o => (Only.cells hO_w3).1 (w.heap.size) o (by (try simp only [World.size_alloc, World.size_setCell, World.size_drew]) <;> omega) hs_w3_0.2; have f_w3_0 := fun o => (Only.cells hO_w3).2 (w.heap.size) o (by (try simp only [World.size_alloc, World.size_setCell, World.size_drew]) <;> omega) hs_w3_0.2; have hs_w3_1 : w2.heap.size < w3.heap.size ∧ w2.heap.size ≠ R := (by omega); have c_w3_1 := fun o => (Only.cells hO_w3).1 (w2.heap.size) o (by (try simp only [World.size_alloc, World.size_setCell, World.size_drew]) <;> omega) hs_w3_1.2; have f_w3_1 := fun o => (Only.cells hO_w3).2 (w2.heap.size) o (by (try simp only [World.size_alloc, World.size_setCell, World.size_drew]) <;> omega) hs_w3_1.2))
  all_goals
    go_wp2
    refine bodyPost_ret (v := .tuple #[colV x y z, .int .i64 ((v : Int) - 1)]) (by simp [results, Try.results29, go_sem, *]; exact IntWalk.i64_in _ (by omega)) rfl ⟨_, _, _, _, rfl, by omega, by omega, ?_⟩
    (repeat (first | with_reducible exact Below.refl _ _ | ((with_reducible refine viaO (by assumption) ?_ ?_ ?_) <;> try ((try simp only [World.size_alloc, World.size_setCell, World.size_drew]) <;> omega)) | ((with_reducible refine Below.alloc ?_ ?_ _) <;> try ((try simp only [World.size_alloc, World.size_setCell, World.size_drew]) <;> omega)) | ((with_reducible refine Below.setCell ?_ ?_ _) <;> try ((try simp only [World.size_alloc, World.size_setCell, World.size_drew]) <;> omega)) | (with_reducible refine below_drewN ?_ _) | (with_reducible refine Below.drew ?_) | ((with_reducible refine via (by assumption) ?_ ?_) <;> try ((try simp only [World.size_alloc, World.size_setCell, World.size_drew]) <;> omega))))

theorem drawMixColors_c (a : Option Addr) (len cap : Nat) (w : World) (hcode : Code w a len) (hl : len ≤ cap) : Calls Try.prog 30 #[.slice a len cap] w fun e w' => ∃ r g b x y z : Int, e = .returned (.tuple #[colV r g b, colV x y z]) ∧ Below w.heap.size w w' := by
  go_enter Try.func30, Try.ntmps30
  go_wp2_with fail
  refine (open_c _ _ _ _ (hcode.keep (by (repeat (first | with_reducible exact Below.refl _ _ | ((with_reducible refine viaO (by assumption) ?_ ?_ ?_) <;> try ((try simp only [World.size_alloc, World.size_setCell, World.size_drew]) <;> omega)) | ((with_reducible refine Below.alloc ?_ ?_ _) <;> try ((try simp only [World.size_alloc, World.size_setCell, World.size_drew]) <;> omega)) | ((with_reducible refine Below.setCell ?_ ?_ _) <;> try ((try simp only [World.size_alloc, World.size_setCell, World.size_drew]) <;> omega)) | (with_reducible refine below_drewN ?_ _) | (with_reducible refine Below.drew ?_) | ((with_reducible refine via (by assumption) ?_ ?_) <;> try ((try simp only [World.size_alloc, World.size_setCell, World.size_drew]) <;> omega)))))) (by assumption)).mono ?_
  rintro e w1 ⟨R, rfl, hR0, hO_w1, hR_w1⟩
  have hz_w1 := hO_w1.size
  (try simp only [World.size_alloc, World.size_setCell, World.size_drew] at hz_w1)
  have hs_w1_0 : w.heap.size < w1.heap.size := (by omega)
  have c_w1_0 := fun o => (bcell hO_w1).1 (w.heap.size) o (by (try simp only [World.size_alloc, World.size_setCell, World.size_drew]) <;> omega)
  have f_w1_0 := fun o => (bcell hO_w1).2 (w.heap.size) o (by (try simp only [World.size_alloc, World.size_setCell, World.size_drew]) <;> omega)
  have hs_w1_1 : w.heap.size + 1 < w1.heap.size := (by omega)
  have c_w1_1 := fun o => (bcell hO_w1).1 (w.heap.size + 1) o (by (try simp only [World.size_alloc, World.size_setCell, World.size_drew]) <;> omega)
  have f_w1_1 := fun o => (bcell hO_w1).2 (w.heap.size + 1) o (by (try simp only [World.size_alloc, World.size_setCell, World.size_drew]) <;> omega)
  (try simp only [World.size_alloc, World.size_setCell, World.size_drew] at hR0)
  have hlt_w1 := hR_w1.lt
  have ht_w1_0 : w.heap.size < w1.heap.size ∧ w.heap.size ≠ R := (by omega)
  have ht_w1_1 : w.heap.size + 1 < w1.heap.size ∧ w.heap.size + 1 ≠ R := (by omega)
  go_wp2_with fail
  refine (l20Color_c _ _ _ _ (by (repeat (first | with_reducible assumption | (with_reducible apply Rd.alloc) | ((with_reducible apply Rd.setCell) <;> try ((try simp only [World.size_alloc, World.size_setCell, World.size_drew]) <;> omega)) | (with_reducible apply Rd.drewN) | (with_reducible apply Rd.drew)))) (by omega) (by omega) (by omega)).mono ?_
  rintro e w2 ⟨r, g, b, rfl, hO_w2, hR_w2⟩
  have hz_w2 := hO_w2.size
  (try simp only [World.size_alloc, World.size_setCell, World.size_drew] at hz_w2)
  have hs_w2_0 : w.heap.size < w2.heap.size ∧ w.heap.size ≠ R := (by omega)
  have c_w2_0 := fun o => (Only.cells hO_w2).1 (w.heap.size) o (by (try simp only [World.size_alloc, World.size_setCell, World.size_drew]) <;> omega) hs_w2_0.2
  have f_w2_0 := fun o => (Only.cells hO_w2).2 (w.heap.size) o (by (try simp only [World.size_alloc, World.size_setCell, World.size_drew]) <;> omega) hs_w2_0.2
  have hs_w2_1 : w.heap.size + 1 < w2.heap.size ∧ w.heap.size + 1 ≠ R := (by omega)
  have c_w2_1 := fun o => (Only.cells hO_w2).1 (w.heap.size + 1) o (by (try simp only [World.size_alloc, World.size_setCell, World.size_drew]) <;> omega) hs_w2_1.2
  have f_w2_1 := fun o => (Only.cells hO_w2).2 (w.heap.size + 1) o (by (try simp only [World.size_alloc, World.size_setCell, World.size_drew]) <;> omega) hs_w2_1.2
  go_wp2
  go_region_with (go_at_call 34; (refine (l20Color_c _ _ _ _ (by (repeat (first | with_reducible assumption | (with_reducible apply Rd.alloc) | ((with_reducible apply Rd.setCell) <;> try ((try simp only [World.size_alloc, World.size_setCell, World.size_drew]) <;> omega)) | (with_reducible apply Rd.drewN) | (with_reducible apply Rd.drew)))) (by omega) (by omega) (by omega)).mono ?_; rintro e w3 ⟨x, y, z, rfl, hO_w3, hR_w3⟩; have hz_w3 := hO_w3.size; (try simp only [World.size_alloc, World.size_setCell, World.size_drew] at hz_w3); have hs_w3_0 : w.heap.size < w3.heap.size ∧ w.heap.size ≠ R := (by omega); have c_w3_0 := fun o => (Only.cells hO_w3).1 (w.heap.size) o (by (try simp only [World.size_alloc, World.size_setCell, World.size_drew]) <;> omega) hs_w3_0.2; have f_w3_0 := fun o => (Only.cells hO_w3).2 (w.heap.size) o (by (try simp only [World.size_alloc, World.size_setCell, World.size_drew]) <;> omega) hs_w3_0.2; have hs_w3_1 : w.heap.size + 1 < w3.heap.size ∧ w.heap.size + 1 ≠ R := (by omega); have c_w3_1 := fun o => (Only.cells hO_w3).1 (w.heap.size + 1) o (by (try simp only [World.size_alloc, World.size_setCell, World.size_drew]) <;> omega) hs_w3_1.2; have f_w3_1 := fun o => (Only.cells hO_w3).2 (w.heap.size + 1) o (by (try simp only [World.size_alloc, World.size_setCell, World.size_drew]) <;> omega) hs_w3_1.2; have hs_w3_2 : w2.heap.size < w3.heap.size ∧ w2.heap.size ≠ R := (by omega); have c_w3_2 := fun o => (Only.cells hO_w3).1 (w2.heap.size) o (by (try simp only [World.size_alloc, World.size_setCell, World.size_drew]) <;> omega) hs_w3_2.2; have f_w3_2 := fun o => (Only.cells hO_w3).2 (w2.heap.size) o (by (try simp only [World.size_alloc, World.size_setCell, World.size_drew]) <;> omega) hs_w3_2.2))
  all_goals
    go_wp2
    refine bodyPost_ret (v := .tuple #[colV r g b, colV x y z]) (by simp [results, Try.results30, go_sem, *]) rfl ⟨_, _, _, _, _, _, rfl, ?_⟩
    (repeat (first | with_reducible exact Below.refl _ _ | ((with_reducible refine viaO (by assumption) ?_ ?_ ?_) <;> try ((try simp only [World.size_alloc, World.size_setCell, World.size_drew]) <;> omega)) | ((with_reducible refine Below.alloc ?_ ?_ _) <;> try ((try simp only [World.size_alloc, World.size_setCell, World.size_drew]) <;> omega)) | ((with_reducible refine Below.setCell ?_ ?_ _) <;> try ((try simp only [World.size_alloc, World.size_setCell, World.size_drew]) <;> omega)) | (with_reducible refine below_drewN ?_ _) | (with_reducible refine Below.drew ?_) | ((with_reducible refine via (by assumption) ?_ ?_) <;> try ((try simp only [World.size_alloc, World.size_setCell, World.size_drew]) <;> omega))))

end Go.Proofs.Ytcaijfbiegafeaa
