/-
  What the drawn bytes and controllers are: numbers in -1..256; a controller of such numbers. No conditions.
-/
import Derived.Test.YtgnkoakmgfphmaaRd
import Derived.Deep.RegionWith
import Derived.IntWalk
namespace Go.Proofs.Ytgnkoakmgfphmaa
set_option linter.all false
set_option linter.unusedSimpArgs false
set_option linter.unusedVariables false
open Go.ChangeShapes Go.WideShapes Go.ChangeAt Go.RowKit

def DByte (R : Nat) (k : Int) (w : World) (e : Ending) (w' : World) : Prop := ∃ x : Int, (-1 ≤ x ∧ x ≤ 256 ∧ e = .returned (.int .i64 x)) ∧ Only R w w' ∧ Rd w' R (k + 5)
theorem l20Byte_c (R : Nat) (n k : Int) (w : World) (hR : Rd w R k) (hk : k ≤ 1000000) (hn : n ≤ 1000000) (hn0 : -1000000 ≤ n) :
    Calls Try.prog 39 #[.pointer (some ⟨R, 0, none⟩), .int .i64 n] w (DByte R k w) := by
  have hlt := hR.lt
  go_enter Try.func39, Try.ntmps39
  go_wp2_with fail
  refine (odd_c _ _ _ _ (by (repeat (first | with_reducible assumption | (with_reducible apply Rd.alloc) | ((with_reducible apply Rd.setCell) <;> try ((try simp only [World.size_alloc, World.size_setCell, World.size_drew]) <;> omega)) | (with_reducible apply Rd.drewN) | (with_reducible apply Rd.drew)))) (by omega) (by omega) (by omega)).mono ?_
  rintro e w1 ⟨v, rfl, hO_w1, hR_w1⟩
  have hz_w1 := hO_w1.size
  (try simp only [World.size_alloc, World.size_setCell, World.size_drew] at hz_w1)
  cases v
  · go_wp2_with fail
    refine (pick_c _ _ _ _ (by (repeat (first | with_reducible assumption | (with_reducible apply Rd.alloc) | ((with_reducible apply Rd.setCell) <;> try ((try simp only [World.size_alloc, World.size_setCell, World.size_drew]) <;> omega)) | (with_reducible apply Rd.drewN) | (with_reducible apply Rd.drew)))) (by omega) (by omega) (by omega)).mono ?_
    rintro e w2 ⟨a, hv_a, rfl, hO_w2, hR_w2⟩
    have hz_w2 := hO_w2.size
    (try simp only [World.size_alloc, World.size_setCell, World.size_drew] at hz_w2)
    go_wp2_with fail
    refine (pick_c _ _ _ _ (by (repeat (first | with_reducible assumption | (with_reducible apply Rd.alloc) | ((with_reducible apply Rd.setCell) <;> try ((try simp only [World.size_alloc, World.size_setCell, World.size_drew]) <;> omega)) | (with_reducible apply Rd.drewN) | (with_reducible apply Rd.drew)))) (by omega) (by omega) (by omega)).mono ?_
    rintro e w3 ⟨b, hv_b, rfl, hO_w3, hR_w3⟩
    have hz_w3 := hO_w3.size
    (try simp only [World.size_alloc, World.size_setCell, World.size_drew] at hz_w3)
    go_wp2_with fail
    refine (pick_c _ _ _ _ (by (repeat (first | with_reducible assumption | (with_reducible apply Rd.alloc) | ((with_reducible apply Rd.setCell) <;> try ((try simp only [World.size_alloc, World.size_setCell, World.size_drew]) <;> omega)) | (with_reducible apply Rd.drewN) | (with_reducible apply Rd.drew)))) (by omega) (by omega) (by omega)).mono ?_
    rintro e w4 ⟨c, hv_c, rfl, hO_w4, hR_w4⟩
    have hz_w4 := hO_w4.size
    (try simp only [World.size_alloc, World.size_setCell, World.size_drew] at hz_w4)
    go_wp2_with fail
    refine (pick_c _ _ _ _ (by (repeat (first | with_reducible assumption | (with_reducible apply Rd.alloc) | ((with_reducible apply Rd.setCell) <;> try ((try simp only [World.size_alloc, World.size_setCell, World.size_drew]) <;> omega)) | (with_reducible apply Rd.drewN) | (with_reducible apply Rd.drew)))) (by omega) (by omega) (by omega)).mono ?_
    rintro e w5 ⟨d, hv_d, rfl, hO_w5, hR_w5⟩
    have hz_w5 := hO_w5.size
    (try simp only [World.size_alloc, World.size_setCell, World.size_drew] at hz_w5)
    obtain ⟨x, hx, hx0, hx1⟩ := hO_w5.int_new (m := d) (lo := -1) (hi := 256) (by omega) (by simp <;> omega) (by simp <;> omega)
    go_wp2
    go_ret
    refine ⟨x, ⟨hx0, hx1, rfl⟩, ?_, ?_⟩
    · (repeat (first | with_reducible exact Only.refl _ _ | (with_reducible refine Only.alloc ?_ _) | ((with_reducible refine Only.setCell ?_ ?_ _) <;> try ((try simp only [World.size_alloc, World.size_setCell, World.size_drew]) <;> omega)) | (with_reducible refine Only.drewN ?_ _) | (with_reducible refine Only.drew ?_) | (with_reducible refine Only.trans ?_ (by assumption))))
    · refine Rd.more (k := k + 1 + 1 + 1 + 1 + 1) ?_ (by omega)
      (repeat (first | with_reducible assumption | (with_reducible apply Rd.alloc) | ((with_reducible apply Rd.setCell) <;> try ((try simp only [World.size_alloc, World.size_setCell, World.size_drew]) <;> omega)) | (with_reducible apply Rd.drewN) | (with_reducible apply Rd.drew)))
  · go_wp2_with fail
    refine (pick_c _ _ _ _ (by (repeat (first | with_reducible assumption | (with_reducible apply Rd.alloc) | ((with_reducible apply Rd.setCell) <;> try ((try simp only [World.size_alloc, World.size_setCell, World.size_drew]) <;> omega)) | (with_reducible apply Rd.drewN) | (with_reducible apply Rd.drew)))) (by omega) (by omega) (by omega)).mono ?_
    rintro e w2 ⟨d, hv_d, rfl, hO_w2, hR_w2⟩
    have hz_w2 := hO_w2.size
    (try simp only [World.size_alloc, World.size_setCell, World.size_drew] at hz_w2)
    obtain ⟨x, hx, hx0, hx1⟩ := hO_w2.int_new (m := d) (lo := -1) (hi := 256) (by omega) (by simp <;> omega) (by simp <;> omega)
    go_wp2
    go_ret
    refine ⟨x, ⟨hx0, hx1, rfl⟩, ?_, ?_⟩
    · (repeat (first | with_reducible exact Only.refl _ _ | (with_reducible refine Only.alloc ?_ _) | ((with_reducible refine Only.setCell ?_ ?_ _) <;> try ((try simp only [World.size_alloc, World.size_setCell, World.size_drew]) <;> omega)) | (with_reducible refine Only.drewN ?_ _) | (with_reducible refine Only.drew ?_) | (with_reducible refine Only.trans ?_ (by assumption))))
    · refine Rd.more (k := k + 1 + 1) ?_ (by omega)
      (repeat (first | with_reducible assumption | (with_reducible apply Rd.alloc) | ((with_reducible apply Rd.setCell) <;> try ((try simp only [World.size_alloc, World.size_setCell, World.size_drew]) <;> omega)) | (with_reducible apply Rd.drewN) | (with_reducible apply Rd.drew)))

def DPad (R : Nat) (k : Int) (w : World) (e : Ending) (w' : World) : Prop := ∃ p t r : Int, e = .returned (.agg #[.int .i64 p, .int .i64 t, .int .i64 r]) ∧ Only R w w' ∧ Rd w' R (k + 20)
set_option maxHeartbeats 800000 in
theorem l20Pad_c (R : Nat) (n k : Int) (w : World) (hR : Rd w R k) (hk : k ≤ 500000) (hn : n ≤ 1000000) (hn0 : -1000000 ≤ n) :
    Calls Try.prog 41 #[.pointer (some ⟨R, 0, none⟩), .int .i64 n] w (DPad R k w) := by
  have hlt := hR.lt
  go_enter Try.func41, Try.ntmps41
  go_wp2_with fail
  refine (pick_c _ _ _ _ (by (repeat (first | with_reducible assumption | (with_reducible apply Rd.alloc) | ((with_reducible apply Rd.setCell) <;> try ((try simp only [World.size_alloc, World.size_setCell, World.size_drew]) <;> omega)) | (with_reducible apply Rd.drewN) | (with_reducible apply Rd.drew)))) (by omega) (by omega) (by omega)).mono ?_
  rintro e w1 ⟨a, hv_a, rfl, hO_w1, hR_w1⟩
  have hz_w1 := hO_w1.size
  (try simp only [World.size_alloc, World.size_setCell, World.size_drew] at hz_w1)
  have hs_w1_0 : w.heap.size < w1.heap.size ∧ w.heap.size ≠ R := (by omega)
  have c_w1_0 := fun o => (Only.cells hO_w1).1 (w.heap.size) o (by (try simp only [World.size_alloc, World.size_setCell, World.size_drew]) <;> omega) hs_w1_0.2
  have f_w1_0 := fun o => (Only.cells hO_w1).2 (w.heap.size) o (by (try simp only [World.size_alloc, World.size_setCell, World.size_drew]) <;> omega) hs_w1_0.2
  go_wp2_with fail
  refine (pick_c _ _ _ _ (by (repeat (first | with_reducible assumption | (with_reducible apply Rd.alloc) | ((with_reducible apply Rd.setCell) <;> try ((try simp only [World.size_alloc, World.size_setCell, World.size_drew]) <;> omega)) | (with_reducible apply Rd.drewN) | (with_reducible apply Rd.drew)))) (by omega) (by omega) (by omega)).mono ?_
  rintro e w2 ⟨b, hv_b, rfl, hO_w2, hR_w2⟩
  have hz_w2 := hO_w2.size
  (try simp only [World.size_alloc, World.size_setCell, World.size_drew] at hz_w2)
  have hs_w2_0 : w.heap.size < w2.heap.size ∧ w.heap.size ≠ R := (by omega)
  have c_w2_0 := fun o => (Only.cells hO_w2).1 (w.heap.size) o (by (try simp only [World.size_alloc, World.size_setCell, World.size_drew]) <;> omega) hs_w2_0.2
  have f_w2_0 := fun o => (Only.cells hO_w2).2 (w.heap.size) o (by (try simp only [World.size_alloc, World.size_setCell, World.size_drew]) <;> omega) hs_w2_0.2
  go_wp2_with fail
  refine (pick_c _ _ _ _ (by (repeat (first | with_reducible assumption | (with_reducible apply Rd.alloc) | ((with_reducible apply Rd.setCell) <;> try ((try simp only [World.size_alloc, World.size_setCell, World.size_drew]) <;> omega)) | (with_reducible apply Rd.drewN) | (with_reducible apply Rd.drew)))) (by omega) (by omega) (by omega)).mono ?_
  rintro e w3 ⟨c, hv_c, rfl, hO_w3, hR_w3⟩
  have hz_w3 := hO_w3.size
  (try simp only [World.size_alloc, World.size_setCell, World.size_drew] at hz_w3)
  have hs_w3_0 : w.heap.size < w3.heap.size ∧ w.heap.size ≠ R := (by omega)
  have c_w3_0 := fun o => (Only.cells hO_w3).1 (w.heap.size) o (by (try simp only [World.size_alloc, World.size_setCell, World.size_drew]) <;> omega) hs_w3_0.2
  have f_w3_0 := fun o => (Only.cells hO_w3).2 (w.heap.size) o (by (try simp only [World.size_alloc, World.size_setCell, World.size_drew]) <;> omega) hs_w3_0.2
  go_wp2_with fail
  refine (odd_c _ _ _ _ (by (repeat (first | with_reducible assumption | (with_reducible apply Rd.alloc) | ((with_reducible apply Rd.setCell) <;> try ((try simp only [World.size_alloc, World.size_setCell, World.size_drew]) <;> omega)) | (with_reducible apply Rd.drewN) | (with_reducible apply Rd.drew)))) (by omega) (by omega) (by omega)).mono ?_
  rintro e w4 ⟨v, rfl, hO_w4, hR_w4⟩
  have hz_w4 := hO_w4.size
  (try simp only [World.size_alloc, World.size_setCell, World.size_drew] at hz_w4)
  have hs_w4_0 : w.heap.size < w4.heap.size ∧ w.heap.size ≠ R := (by omega)
  have c_w4_0 := fun o => (Only.cells hO_w4).1 (w.heap.size) o (by (try simp only [World.size_alloc, World.size_setCell, World.size_drew]) <;> omega) hs_w4_0.2
  have f_w4_0 := fun o => (Only.cells hO_w4).2 (w.heap.size) o (by (try simp only [World.size_alloc, World.size_setCell, World.size_drew]) <;> omega) hs_w4_0.2
  have hs_w4_1 : w3.heap.size < w4.heap.size ∧ w3.heap.size ≠ R := (by omega)
  have c_w4_1 := fun o => (Only.cells hO_w4).1 (w3.heap.size) o (by (try simp only [World.size_alloc, World.size_setCell, World.size_drew]) <;> omega) hs_w4_1.2
  have f_w4_1 := fun o => (Only.cells hO_w4).2 (w3.heap.size) o (by (try simp only [World.size_alloc, World.size_setCell, World.size_drew]) <;> omega) hs_w4_1.2
  cases v
  · go_wp2
    refine bodyPost_ret (v := .agg #[.int .i64 a, .int .i64 b, .int .i64 c]) (by simp [results, Try.results41, go_sem, *]) rfl ⟨_, _, _, rfl, ?_, ?_⟩
    · (repeat (first | with_reducible exact Only.refl _ _ | (with_reducible refine Only.alloc ?_ _) | ((with_reducible refine Only.setCell ?_ ?_ _) <;> try ((try simp only [World.size_alloc, World.size_setCell, World.size_drew]) <;> omega)) | (with_reducible refine Only.drewN ?_ _) | (with_reducible refine Only.drew ?_) | (with_reducible refine Only.trans ?_ (by assumption))))
    · refine Rd.more (k := k + 1 + 1 + 1 + 1) ?_ (by omega)
      (repeat (first | with_reducible assumption | (with_reducible apply Rd.alloc) | ((with_reducible apply Rd.setCell) <;> try ((try simp only [World.size_alloc, World.size_setCell, World.size_drew]) <;> omega)) | (with_reducible apply Rd.drewN) | (with_reducible apply Rd.drew)))
  · go_wp2_with fail
    refine (pick_c _ _ _ _ (by (repeat (first | with_reducible assumption | (with_reducible apply Rd.alloc) | ((with_reducible apply Rd.setCell) <;> try ((try simp only [World.size_alloc, World.size_setCell, World.size_drew]) <;> omega)) | (with_reducible apply Rd.drewN) | (with_reducible apply Rd.drew)))) (by omega) (by omega) (by omega)).mono ?_
    rintro e w5 ⟨d, hv_d, rfl, hO_w5, hR_w5⟩
    have hz_w5 := hO_w5.size
    (try simp only [World.size_alloc, World.size_setCell, World.size_drew] at hz_w5)
    have hs_w5_0 : w.heap.size < w5.heap.size ∧ w.heap.size ≠ R := (by omega)
    have c_w5_0 := fun o => (Only.cells hO_w5).1 (w.heap.size) o (by (try simp only [World.size_alloc, World.size_setCell, World.size_drew]) <;> omega) hs_w5_0.2
    have f_w5_0 := fun o => (Only.cells hO_w5).2 (w.heap.size) o (by (try simp only [World.size_alloc, World.size_setCell, World.size_drew]) <;> omega) hs_w5_0.2
    have hs_w5_1 : w3.heap.size < w5.heap.size ∧ w3.heap.size ≠ R := (by omega)
    have c_w5_1 := fun o => (Only.cells hO_w5).1 (w3.heap.size) o (by (try simp only [World.size_alloc, World.size_setCell, World.size_drew]) <;> omega) hs_w5_1.2
    have f_w5_1 := fun o => (Only.cells hO_w5).2 (w3.heap.size) o (by (try simp only [World.size_alloc, World.size_setCell, World.size_drew]) <;> omega) hs_w5_1.2
    have hd : d = 0 ∨ d = 1 ∨ d = 2 := by omega
    clear hv_d
    rcases hd with rfl | rfl | rfl
    · go_wp2_with fail
      refine (l20Byte_c _ _ _ _ (by (repeat (first | with_reducible assumption | (with_reducible apply Rd.alloc) | ((with_reducible apply Rd.setCell) <;> try ((try simp only [World.size_alloc, World.size_setCell, World.size_drew]) <;> omega)) | (with_reducible apply Rd.drewN) | (with_reducible apply Rd.drew)))) (by omega) (by omega) (by omega)).mono ?_
      rintro e w6 ⟨x, ⟨hx0, hx1, rfl⟩, hO_w6, hR_w6⟩
      have hz_w6 := hO_w6.size
      (try simp only [World.size_alloc, World.size_setCell, World.size_drew] at hz_w6)
      have hs_w6_0 : w.heap.size < w6.heap.size ∧ w.heap.size ≠ R := (by omega)
      have c_w6_0 := fun o => (Only.cells hO_w6).1 (w.heap.size) o (by (try simp only [World.size_alloc, World.size_setCell, World.size_drew]) <;> omega) hs_w6_0.2
      have f_w6_0 := fun o => (Only.cells hO_w6).2 (w.heap.size) o (by (try simp only [World.size_alloc, World.size_setCell, World.size_drew]) <;> omega) hs_w6_0.2
      have hs_w6_1 : w3.heap.size < w6.heap.size ∧ w3.heap.size ≠ R := (by omega)
      have c_w6_1 := fun o => (Only.cells hO_w6).1 (w3.heap.size) o (by (try simp only [World.size_alloc, World.size_setCell, World.size_drew]) <;> omega) hs_w6_1.2
      have f_w6_1 := fun o => (Only.cells hO_w6).2 (w3.heap.size) o (by (try simp only [World.size_alloc, World.size_setCell, World.size_drew]) <;> omega) hs_w6_1.2
      go_wp2
      refine bodyPost_ret (v := .agg #[.int .i64 x, .int .i64 b, .int .i64 c]) (by simp [results, Try.results41, go_sem, *]) rfl ⟨_, _, _, rfl, ?_, ?_⟩
      · (repeat (first | with_reducible exact Only.refl _ _ | (with_reducible refine Only.alloc ?_ _) | ((with_reducible refine Only.setCell ?_ ?_ _) <;> try ((try simp only [World.size_alloc, World.size_setCell, World.size_drew]) <;> omega)) | (with_reducible refine Only.drewN ?_ _) | (with_reducible refine Only.drew ?_) | (with_reducible refine Only.trans ?_ (by assumption))))
      · refine Rd.more (k := k + 1 + 1 + 1 + 1 + 1 + 5) ?_ (by omega)
        (repeat (first | with_reducible assumption | (with_reducible apply Rd.alloc) | ((with_reducible apply Rd.setCell) <;> try ((try simp only [World.size_alloc, World.size_setCell, World.size_drew]) <;> omega)) | (with_reducible apply Rd.drewN) | (with_reducible apply Rd.drew)))
    · go_wp2_with fail
      refine (l20Byte_c _ _ _ _ (by (repeat (first | with_reducible assumption | (with_reducible apply Rd.alloc) | ((with_reducible apply Rd.setCell) <;> try ((try simp only [World.size_alloc, World.size_setCell, World.size_drew]) <;> omega)) | (with_reducible apply Rd.drewN) | (with_reducible apply Rd.drew)))) (by omega) (by omega) (by omega)).mono ?_
      rintro e w6 ⟨x, ⟨hx0, hx1, rfl⟩, hO_w6, hR_w6⟩
      have hz_w6 := hO_w6.size
      (try simp only [World.size_alloc, World.size_setCell, World.size_drew] at hz_w6)
      have hs_w6_0 : w.heap.size < w6.heap.size ∧ w.heap.size ≠ R := (by omega)
      have c_w6_0 := fun o => (Only.cells hO_w6).1 (w.heap.size) o (by (try simp only [World.size_alloc, World.size_setCell, World.size_drew]) <;> omega) hs_w6_0.2
      have f_w6_0 := fun o => (Only.cells hO_w6).2 (w.heap.size) o (by (try simp only [World.size_alloc, World.size_setCell, World.size_drew]) <;> omega) hs_w6_0.2
      have hs_w6_1 : w3.heap.size < w6.heap.size ∧ w3.heap.size ≠ R := (by omega)
      have c_w6_1 := fun o => (Only.cells hO_w6).1 (w3.heap.size) o (by (try simp only [World.size_alloc, World.size_setCell, World.size_drew]) <;> omega) hs_w6_1.2
      have f_w6_1 := fun o => (Only.cells hO_w6).2 (w3.heap.size) o (by (try simp only [World.size_alloc, World.size_setCell, World.size_drew]) <;> omega) hs_w6_1.2
      go_wp2
      refine bodyPost_ret (v := .agg #[.int .i64 a, .int .i64 x, .int .i64 c]) (by simp [results, Try.results41, go_sem, *]) rfl ⟨_, _, _, rfl, ?_, ?_⟩
      · (repeat (first | with_reducible exact Only.refl _ _ | (with_reducible refine Only.alloc ?_ _) | ((with_reducible refine Only.setCell ?_ ?_ _) <;> try ((try simp only [World.size_alloc, World.size_setCell, World.size_drew]) <;> omega)) | (with_reducible refine Only.drewN ?_ _) | (with_reducible refine Only.drew ?_) | (with_reducible refine Only.trans ?_ (by assumption))))
      · refine Rd.more (k := k + 1 + 1 + 1 + 1 + 1 + 5) ?_ (by omega)
        (repeat (first | with_reducible assumption | (with_reducible apply Rd.alloc) | ((with_reducible apply Rd.setCell) <;> try ((try simp only [World.size_alloc, World.size_setCell, World.size_drew]) <;> omega)) | (with_reducible apply Rd.drewN) | (with_reducible apply Rd.drew)))
    · go_wp2_with fail
      refine (pick_c _ _ _ _ (by (repeat (first | with_reducible assumption | (with_reducible apply Rd.alloc) | ((with_reducible apply Rd.setCell) <;> try ((try simp only [World.size_alloc, World.size_setCell, World.size_drew]) <;> omega)) | (with_reducible apply Rd.drewN) | (with_reducible apply Rd.drew)))) (by omega) (by omega) (by omega)).mono ?_
      rintro e w6 ⟨d, hv_d, rfl, hO_w6, hR_w6⟩
      have hz_w6 := hO_w6.size
      (try simp only [World.size_alloc, World.size_setCell, World.size_drew] at hz_w6)
      have hs_w6_0 : w.heap.size < w6.heap.size ∧ w.heap.size ≠ R := (by omega)
      have c_w6_0 := fun o => (Only.cells hO_w6).1 (w.heap.size) o (by (try simp only [World.size_alloc, World.size_setCell, World.size_drew]) <;> omega) hs_w6_0.2
      have f_w6_0 := fun o => (Only.cells hO_w6).2 (w.heap.size) o (by (try simp only [World.size_alloc, World.size_setCell, World.size_drew]) <;> omega) hs_w6_0.2
      have hs_w6_1 : w3.heap.size < w6.heap.size ∧ w3.heap.size ≠ R := (by omega)
      have c_w6_1 := fun o => (Only.cells hO_w6).1 (w3.heap.size) o (by (try simp only [World.size_alloc, World.size_setCell, World.size_drew]) <;> omega) hs_w6_1.2
      have f_w6_1 := fun o => (Only.cells hO_w6).2 (w3.heap.size) o (by (try simp only [World.size_alloc, World.size_setCell, World.size_drew]) <;> omega) hs_w6_1.2
      obtain ⟨x, hx, hx0, hx1⟩ := hO_w6.int_new (m := d) (lo := -1) (hi := 256) (by omega) (by simp <;> omega) (by simp <;> omega)
      go_wp2
      refine bodyPost_ret (v := .agg #[.int .i64 a, .int .i64 b, .int .i64 x]) (by simp [results, Try.results41, go_sem, *]) rfl ⟨_, _, _, rfl, ?_, ?_⟩
      · (repeat (first | with_reducible exact Only.refl _ _ | (with_reducible refine Only.alloc ?_ _) | ((with_reducible refine Only.setCell ?_ ?_ _) <;> try ((try simp only [World.size_alloc, World.size_setCell, World.size_drew]) <;> omega)) | (with_reducible refine Only.drewN ?_ _) | (with_reducible refine Only.drew ?_) | (with_reducible refine Only.trans ?_ (by assumption))))
      · refine Rd.more (k := k + 1 + 1 + 1 + 1 + 1 + 1) ?_ (by omega)
        (repeat (first | with_reducible assumption | (with_reducible apply Rd.alloc) | ((with_reducible apply Rd.setCell) <;> try ((try simp only [World.size_alloc, World.size_setCell, World.size_drew]) <;> omega)) | (with_reducible apply Rd.drewN) | (with_reducible apply Rd.drew)))

theorem drawPadValid_c (a : Option Addr) (len cap : Nat) (w : World) (hcode : Code w a len) (hl : len ≤ cap) : Calls Try.prog 29 #[.slice a len cap] w fun e w' => ∃ p t r : Int, e = .returned (.agg #[.int .i64 p, .int .i64 t, .int .i64 r]) ∧ Below w.heap.size w w' := by
  go_enter Try.func29, Try.ntmps29
  go_wp2_with fail
  refine (open_c _ _ _ _ (hcode.keep (by (repeat (first | with_reducible exact Below.refl _ _ | ((with_reducible refine viaO (by assumption) ?_ ?_ ?_) <;> try ((try simp only [World.size_alloc, World.size_setCell, World.size_drew]) <;> omega)) | ((with_reducible refine Below.alloc ?_ ?_ _) <;> try ((try simp only [World.size_alloc, World.size_setCell, World.size_drew]) <;> omega)) | ((with_reducible refine Below.setCell ?_ ?_ _) <;> try ((try simp only [World.size_alloc, World.size_setCell, World.size_drew]) <;> omega)) | (with_reducible refine below_drewN ?_ _) | (with_reducible refine Below.drew ?_) | ((with_reducible refine via (by assumption) ?_ ?_) <;> try ((try simp only [World.size_alloc, World.size_setCell, World.size_drew]) <;> omega)))))) (by assumption)).mono ?_
  rintro e w1 ⟨R, rfl, hR0, hO_w1, hR_w1⟩
  have hz_w1 := hO_w1.size
  (try simp only [World.size_alloc, World.size_setCell, World.size_drew] at hz_w1)
  have hs_w1_0 : w.heap.size < w1.heap.size := (by omega)
  have c_w1_0 := fun o => (bcell hO_w1).1 (w.heap.size) o (by (try simp only [World.size_alloc, World.size_setCell, World.size_drew]) <;> omega)
  have f_w1_0 := fun o => (bcell hO_w1).2 (w.heap.size) o (by (try simp only [World.size_alloc, World.size_setCell, World.size_drew]) <;> omega)
  (try simp only [World.size_alloc, World.size_setCell, World.size_drew] at hR0)
  have hlt_w1 := hR_w1.lt
  have ht_w1_0 : w.heap.size < w1.heap.size ∧ w.heap.size ≠ R := (by omega)
  go_wp2_with fail
  refine (l20Pad_c _ _ _ _ (by (repeat (first | with_reducible assumption | (with_reducible apply Rd.alloc) | ((with_reducible apply Rd.setCell) <;> try ((try simp only [World.size_alloc, World.size_setCell, World.size_drew]) <;> omega)) | (with_reducible apply Rd.drewN) | (with_reducible apply Rd.drew)))) (by omega) (by omega) (by omega)).mono ?_
  rintro e w2 ⟨x, y, z, rfl, hO_w2, hR_w2⟩
  have hz_w2 := hO_w2.size
  (try simp only [World.size_alloc, World.size_setCell, World.size_drew] at hz_w2)
  have hs_w2_0 : w.heap.size < w2.heap.size ∧ w.heap.size ≠ R := (by omega)
  have c_w2_0 := fun o => (Only.cells hO_w2).1 (w.heap.size) o (by (try simp only [World.size_alloc, World.size_setCell, World.size_drew]) <;> omega) hs_w2_0.2
  have f_w2_0 := fun o => (Only.cells hO_w2).2 (w.heap.size) o (by (try simp only [World.size_alloc, World.size_setCell, World.size_drew]) <;> omega) hs_w2_0.2
  go_wp2
  refine bodyPost_ret (v := .agg #[.int .i64 x, .int .i64 y, .int .i64 z]) (by simp [results, Try.results29, go_sem, *]) rfl ⟨_, _, _, rfl, ?_⟩
  (repeat (first | with_reducible exact Below.refl _ _ | ((with_reducible refine viaO (by assumption) ?_ ?_ ?_) <;> try ((try simp only [World.size_alloc, World.size_setCell, World.size_drew]) <;> omega)) | ((with_reducible refine Below.alloc ?_ ?_ _) <;> try ((try simp only [World.size_alloc, World.size_setCell, World.size_drew]) <;> omega)) | ((with_reducible refine Below.setCell ?_ ?_ _) <;> try ((try simp only [World.size_alloc, World.size_setCell, World.size_drew]) <;> omega)) | (with_reducible refine below_drewN ?_ _) | (with_reducible refine Below.drew ?_) | ((with_reducible refine via (by assumption) ?_ ?_) <;> try ((try simp only [World.size_alloc, World.size_setCell, World.size_drew]) <;> omega))))

theorem drawReadPad_c (a : Option Addr) (len cap : Nat) (w : World) (hcode : Code w a len) (hl : len ≤ cap) : Calls Try.prog 32 #[.slice a len cap] w fun e w' => ∃ p t r : Int, e = .returned (.agg #[.int .i64 p, .int .i64 t, .int .i64 r]) ∧ Below w.heap.size w w' := by
  go_enter Try.func32, Try.ntmps32
  go_wp2_with fail
  refine (open_c _ _ _ _ (hcode.keep (by (repeat (first | with_reducible exact Below.refl _ _ | ((with_reducible refine viaO (by assumption) ?_ ?_ ?_) <;> try ((try simp only [World.size_alloc, World.size_setCell, World.size_drew]) <;> omega)) | ((with_reducible refine Below.alloc ?_ ?_ _) <;> try ((try simp only [World.size_alloc, World.size_setCell, World.size_drew]) <;> omega)) | ((with_reducible refine Below.setCell ?_ ?_ _) <;> try ((try simp only [World.size_alloc, World.size_setCell, World.size_drew]) <;> omega)) | (with_reducible refine below_drewN ?_ _) | (with_reducible refine Below.drew ?_) | ((with_reducible refine via (by assumption) ?_ ?_) <;> try ((try simp only [World.size_alloc, World.size_setCell, World.size_drew]) <;> omega)))))) (by assumption)).mono ?_
  rintro e w1 ⟨R, rfl, hR0, hO_w1, hR_w1⟩
  have hz_w1 := hO_w1.size
  (try simp only [World.size_alloc, World.size_setCell, World.size_drew] at hz_w1)
  have hs_w1_0 : w.heap.size < w1.heap.size := (by omega)
  have c_w1_0 := fun o => (bcell hO_w1).1 (w.heap.size) o (by (try simp only [World.size_alloc, World.size_setCell, World.size_drew]) <;> omega)
  have f_w1_0 := fun o => (bcell hO_w1).2 (w.heap.size) o (by (try simp only [World.size_alloc, World.size_setCell, World.size_drew]) <;> omega)
  (try simp only [World.size_alloc, World.size_setCell, World.size_drew] at hR0)
  have hlt_w1 := hR_w1.lt
  have ht_w1_0 : w.heap.size < w1.heap.size ∧ w.heap.size ≠ R := (by omega)
  go_wp2_with fail
  refine (l20Pad_c _ _ _ _ (by (repeat (first | with_reducible assumption | (with_reducible apply Rd.alloc) | ((with_reducible apply Rd.setCell) <;> try ((try simp only [World.size_alloc, World.size_setCell, World.size_drew]) <;> omega)) | (with_reducible apply Rd.drewN) | (with_reducible apply Rd.drew)))) (by omega) (by omega) (by omega)).mono ?_
  rintro e w2 ⟨x, y, z, rfl, hO_w2, hR_w2⟩
  have hz_w2 := hO_w2.size
  (try simp only [World.size_alloc, World.size_setCell, World.size_drew] at hz_w2)
  have hs_w2_0 : w.heap.size < w2.heap.size ∧ w.heap.size ≠ R := (by omega)
  have c_w2_0 := fun o => (Only.cells hO_w2).1 (w.heap.size) o (by (try simp only [World.size_alloc, World.size_setCell, World.size_drew]) <;> omega) hs_w2_0.2
  have f_w2_0 := fun o => (Only.cells hO_w2).2 (w.heap.size) o (by (try simp only [World.size_alloc, World.size_setCell, World.size_drew]) <;> omega) hs_w2_0.2
  go_wp2
  refine bodyPost_ret (v := .agg #[.int .i64 x, .int .i64 y, .int .i64 z]) (by simp [results, Try.results32, go_sem, *]) rfl ⟨_, _, _, rfl, ?_⟩
  (repeat (first | with_reducible exact Below.refl _ _ | ((with_reducible refine viaO (by assumption) ?_ ?_ ?_) <;> try ((try simp only [World.size_alloc, World.size_setCell, World.size_drew]) <;> omega)) | ((with_reducible refine Below.alloc ?_ ?_ _) <;> try ((try simp only [World.size_alloc, World.size_setCell, World.size_drew]) <;> omega)) | ((with_reducible refine Below.setCell ?_ ?_ _) <;> try ((try simp only [World.size_alloc, World.size_setCell, World.size_drew]) <;> omega)) | (with_reducible refine below_drewN ?_ _) | (with_reducible refine Below.drew ?_) | ((with_reducible refine via (by assumption) ?_ ?_) <;> try ((try simp only [World.size_alloc, World.size_setCell, World.size_drew]) <;> omega))))

theorem drawLatchPad_c (a : Option Addr) (len cap : Nat) (w : World) (hcode : Code w a len) (hl : len ≤ cap) : Calls Try.prog 33 #[.slice a len cap] w fun e w' => ∃ p t r : Int, e = .returned (.agg #[.int .i64 p, .int .i64 t, .int .i64 r]) ∧ Below w.heap.size w w' := by
  go_enter Try.func33, Try.ntmps33
  go_wp2_with fail
  refine (open_c _ _ _ _ (hcode.keep (by (repeat (first | with_reducible exact Below.refl _ _ | ((with_reducible refine viaO (by assumption) ?_ ?_ ?_) <;> try ((try simp only [World.size_alloc, World.size_setCell, World.size_drew]) <;> omega)) | ((with_reducible refine Below.alloc ?_ ?_ _) <;> try ((try simp only [World.size_alloc, World.size_setCell, World.size_drew]) <;> omega)) | ((with_reducible refine Below.setCell ?_ ?_ _) <;> try ((try simp only [World.size_alloc, World.size_setCell, World.size_drew]) <;> omega)) | (with_reducible refine below_drewN ?_ _) | (with_reducible refine Below.drew ?_) | ((with_reducible refine via (by assumption) ?_ ?_) <;> try ((try simp only [World.size_alloc, World.size_setCell, World.size_drew]) <;> omega)))))) (by assumption)).mono ?_
  rintro e w1 ⟨R, rfl, hR0, hO_w1, hR_w1⟩
  have hz_w1 := hO_w1.size
  (try simp only [World.size_alloc, World.size_setCell, World.size_drew] at hz_w1)
  have hs_w1_0 : w.heap.size < w1.heap.size := (by omega)
  have c_w1_0 := fun o => (bcell hO_w1).1 (w.heap.size) o (by (try simp only [World.size_alloc, World.size_setCell, World.size_drew]) <;> omega)
  have f_w1_0 := fun o => (bcell hO_w1).2 (w.heap.size) o (by (try simp only [World.size_alloc, World.size_setCell, World.size_drew]) <;> omega)
  (try simp only [World.size_alloc, World.size_setCell, World.size_drew] at hR0)
  have hlt_w1 := hR_w1.lt
  have ht_w1_0 : w.heap.size < w1.heap.size ∧ w.heap.size ≠ R := (by omega)
  go_wp2_with fail
  refine (l20Pad_c _ _ _ _ (by (repeat (first | with_reducible assumption | (with_reducible apply Rd.alloc) | ((with_reducible apply Rd.setCell) <;> try ((try simp only [World.size_alloc, World.size_setCell, World.size_drew]) <;> omega)) | (with_reducible apply Rd.drewN) | (with_reducible apply Rd.drew)))) (by omega) (by omega) (by omega)).mono ?_
  rintro e w2 ⟨x, y, z, rfl, hO_w2, hR_w2⟩
  have hz_w2 := hO_w2.size
  (try simp only [World.size_alloc, World.size_setCell, World.size_drew] at hz_w2)
  have hs_w2_0 : w.heap.size < w2.heap.size ∧ w.heap.size ≠ R := (by omega)
  have c_w2_0 := fun o => (Only.cells hO_w2).1 (w.heap.size) o (by (try simp only [World.size_alloc, World.size_setCell, World.size_drew]) <;> omega) hs_w2_0.2
  have f_w2_0 := fun o => (Only.cells hO_w2).2 (w.heap.size) o (by (try simp only [World.size_alloc, World.size_setCell, World.size_drew]) <;> omega) hs_w2_0.2
  go_wp2
  refine bodyPost_ret (v := .agg #[.int .i64 x, .int .i64 y, .int .i64 z]) (by simp [results, Try.results33, go_sem, *]) rfl ⟨_, _, _, rfl, ?_⟩
  (repeat (first | with_reducible exact Below.refl _ _ | ((with_reducible refine viaO (by assumption) ?_ ?_ ?_) <;> try ((try simp only [World.size_alloc, World.size_setCell, World.size_drew]) <;> omega)) | ((with_reducible refine Below.alloc ?_ ?_ _) <;> try ((try simp only [World.size_alloc, World.size_setCell, World.size_drew]) <;> omega)) | ((with_reducible refine Below.setCell ?_ ?_ _) <;> try ((try simp only [World.size_alloc, World.size_setCell, World.size_drew]) <;> omega)) | (with_reducible refine below_drewN ?_ _) | (with_reducible refine Below.drew ?_) | ((with_reducible refine via (by assumption) ?_ ?_) <;> try ((try simp only [World.size_alloc, World.size_setCell, World.size_drew]) <;> omega))))

theorem drawPressPad_c (a : Option Addr) (len cap : Nat) (w : World) (hcode : Code w a len) (hl : len ≤ cap) : Calls Try.prog 31 #[.slice a len cap] w fun e w' => ∃ p t r b : Int, e = .returned (.tuple #[.agg #[.int .i64 p, .int .i64 t, .int .i64 r], .int .i64 b]) ∧ Below w.heap.size w w' := by
  go_enter Try.func31, Try.ntmps31
  go_wp2_with fail
  refine (open_c _ _ _ _ (hcode.keep (by (repeat (first | with_reducible exact Below.refl _ _ | ((with_reducible refine viaO (by assumption) ?_ ?_ ?_) <;> try ((try simp only [World.size_alloc, World.size_setCell, World.size_drew]) <;> omega)) | ((with_reducible refine Below.alloc ?_ ?_ _) <;> try ((try simp only [World.size_alloc, World.size_setCell, World.size_drew]) <;> omega)) | ((with_reducible refine Below.setCell ?_ ?_ _) <;> try ((try simp only [World.size_alloc, World.size_setCell, World.size_drew]) <;> omega)) | (with_reducible refine below_drewN ?_ _) | (with_reducible refine Below.drew ?_) | ((with_reducible refine via (by assumption) ?_ ?_) <;> try ((try simp only [World.size_alloc, World.size_setCell, World.size_drew]) <;> omega)))))) (by assumption)).mono ?_
  rintro e w1 ⟨R, rfl, hR0, hO_w1, hR_w1⟩
  have hz_w1 := hO_w1.size
  (try simp only [World.size_alloc, World.size_setCell, World.size_drew] at hz_w1)
  have hs_w1_0 : w.heap.size < w1.heap.size := (by omega)
  have c_w1_0 := fun o => (bcell hO_w1).1 (w.heap.size) o (by (try simp only [World.size_alloc, World.size_setCell, World.size_drew]) <;> omega)
  have f_w1_0 := fun o => (bcell hO_w1).2 (w.heap.size) o (by (try simp only [World.size_alloc, World.size_setCell, World.size_drew]) <;> omega)
  (try simp only [World.size_alloc, World.size_setCell, World.size_drew] at hR0)
  have hlt_w1 := hR_w1.lt
  have ht_w1_0 : w.heap.size < w1.heap.size ∧ w.heap.size ≠ R := (by omega)
  go_wp2_with fail
  refine (l20Pad_c _ _ _ _ (by (repeat (first | with_reducible assumption | (with_reducible apply Rd.alloc) | ((with_reducible apply Rd.setCell) <;> try ((try simp only [World.size_alloc, World.size_setCell, World.size_drew]) <;> omega)) | (with_reducible apply Rd.drewN) | (with_reducible apply Rd.drew)))) (by omega) (by omega) (by omega)).mono ?_
  rintro e w2 ⟨x, y, z, rfl, hO_w2, hR_w2⟩
  have hz_w2 := hO_w2.size
  (try simp only [World.size_alloc, World.size_setCell, World.size_drew] at hz_w2)
  have hs_w2_0 : w.heap.size < w2.heap.size ∧ w.heap.size ≠ R := (by omega)
  have c_w2_0 := fun o => (Only.cells hO_w2).1 (w.heap.size) o (by (try simp only [World.size_alloc, World.size_setCell, World.size_drew]) <;> omega) hs_w2_0.2
  have f_w2_0 := fun o => (Only.cells hO_w2).2 (w.heap.size) o (by (try simp only [World.size_alloc, World.size_setCell, World.size_drew]) <;> omega) hs_w2_0.2
  go_wp2
  go_region_with (go_at_call 39; (refine (l20Byte_c _ _ _ _ (by (repeat (first | with_reducible assumption | (with_reducible apply Rd.alloc) | ((with_reducible apply Rd.setCell) <;> try ((try simp only [World.size_alloc, World.size_setCell, World.size_drew]) <;> omega)) | (with_reducible apply Rd.drewN) | (with_reducible apply Rd.drew)))) (by omega) (by omega) (by omega)).mono ?_; rintro e w3 ⟨u, ⟨hu0, hu1, rfl⟩, hO_w3, hR_w3⟩; have hz_w3 := hO_w3.size; (try simp only [World.size_alloc, World.size_setCell, World.size_drew] at hz_w3); have hs_w3_0 : w.heap.size < w3.heap.size ∧ w.heap.size ≠ R := (by omega); have c_w3_0 := fun o => (Only.cells hO_w3).1 (w.heap.size) o (by (try simp only [World.size_alloc, World.size_setCell, World.size_drew]) <;> omega) hs_w3_0.2; have f_w3_0 := fun o => (Only.cells hO_w3).2 (w.heap.size) o (by (try simp only [World.size_alloc, World.size_setCell, World.size_drew]) <;> omega) hs_w3_0.2; have hs_w3_1 : w2.heap.size < w3.heap.size ∧ w2.heap.size ≠ R := (by omega); have c_w3_1 := fun o => (Only.cells hO_w3).1 (w2.heap.size) o (by (try simp only [World.size_alloc, World.size_setCell, World.size_drew]) <;> omega) hs_w3_1.2; have f_w3_1 := fun o => (Only.cells hO_w3).2 (w2.heap.size) o (by (try simp only [World.size_alloc, World.size_setCell, World.size_drew]) <;> omega) hs_w3_1.2))
  all_goals
    go_wp2
    refine bodyPost_ret (v := .tuple #[.agg #[.int .i64 x, .int .i64 y, .int .i64 z], .int .i64 u]) (by simp [results, Try.results31, go_sem, *]) rfl ⟨_, _, _, _, rfl, ?_⟩
    (repeat (first | with_reducible exact Below.refl _ _ | ((with_reducible refine viaO (by assumption) ?_ ?_ ?_) <;> try ((try simp only [World.size_alloc, World.size_setCell, World.size_drew]) <;> omega)) | ((with_reducible refine Below.alloc ?_ ?_ _) <;> try ((try simp only [World.size_alloc, World.size_setCell, World.size_drew]) <;> omega)) | ((with_reducible refine Below.setCell ?_ ?_ _) <;> try ((try simp only [World.size_alloc, World.size_setCell, World.size_drew]) <;> omega)) | (with_reducible refine below_drewN ?_ _) | (with_reducible refine Below.drew ?_) | ((with_reducible refine via (by assumption) ?_ ?_) <;> try ((try simp only [World.size_alloc, World.size_setCell, World.size_drew]) <;> omega))))

theorem drawNewlyPressed_c (a : Option Addr) (len cap : Nat) (w : World) (hcode : Code w a len) (hl : len ≤ cap) : Calls Try.prog 26 #[.slice a len cap] w fun e w' => ∃ x y : Int, (-1 ≤ x ∧ x ≤ 256 ∧ -1 ≤ y ∧ y ≤ 256 ∧ e = .returned (.tuple #[.int .i64 x, .int .i64 y])) ∧ Below w.heap.size w w' := by
  go_enter Try.func26, Try.ntmps26
  go_wp2_with fail
  refine (open_c _ _ _ _ (hcode.keep (by (repeat (first | with_reducible exact Below.refl _ _ | ((with_reducible refine viaO (by assumption) ?_ ?_ ?_) <;> try ((try simp only [World.size_alloc, World.size_setCell, World.size_drew]) <;> omega)) | ((with_reducible refine Below.alloc ?_ ?_ _) <;> try ((try simp only [World.size_alloc, World.size_setCell, World.size_drew]) <;> omega)) | ((with_reducible refine Below.setCell ?_ ?_ _) <;> try ((try simp only [World.size_alloc, World.size_setCell, World.size_drew]) <;> omega)) | (with_reducible refine below_drewN ?_ _) | (with_reducible refine Below.drew ?_) | ((with_reducible refine via (by assumption) ?_ ?_) <;> try ((try simp only [World.size_alloc, World.size_setCell, World.size_drew]) <;> omega)))))) (by assumption)).mono ?_
  rintro e w1 ⟨R, rfl, hR0, hO_w1, hR_w1⟩
  have hz_w1 := hO_w1.size
  (try simp only [World.size_alloc, World.size_setCell, World.size_drew] at hz_w1)
  (try simp only [World.size_alloc, World.size_setCell, World.size_drew] at hR0)
  have hlt_w1 := hR_w1.lt
  go_wp2_with fail
  refine (l20Byte_c _ _ _ _ (by (repeat (first | with_reducible assumption | (with_reducible apply Rd.alloc) | ((with_reducible apply Rd.setCell) <;> try ((try simp only [World.size_alloc, World.size_setCell, World.size_drew]) <;> omega)) | (with_reducible apply Rd.drewN) | (with_reducible apply Rd.drew)))) (by omega) (by omega) (by omega)).mono ?_
  rintro e w2 ⟨x, ⟨hx0, hx1, rfl⟩, hO_w2, hR_w2⟩
  have hz_w2 := hO_w2.size
  (try simp only [World.size_alloc, World.size_setCell, World.size_drew] at hz_w2)
  go_wp2_with fail
  refine (l20Byte_c _ _ _ _ (by (repeat (first | with_reducible assumption | (with_reducible apply Rd.alloc) | ((with_reducible apply Rd.setCell) <;> try ((try simp only [World.size_alloc, World.size_setCell, World.size_drew]) <;> omega)) | (with_reducible apply Rd.drewN) | (with_reducible apply Rd.drew)))) (by omega) (by omega) (by omega)).mono ?_
  rintro e w3 ⟨y, ⟨hy0, hy1, rfl⟩, hO_w3, hR_w3⟩
  have hz_w3 := hO_w3.size
  (try simp only [World.size_alloc, World.size_setCell, World.size_drew] at hz_w3)
  go_wp2
  go_ret2
  refine ⟨x, y, ⟨hx0, hx1, hy0, hy1, rfl⟩, ?_⟩
  (repeat (first | with_reducible exact Below.refl _ _ | ((with_reducible refine viaO (by assumption) ?_ ?_ ?_) <;> try ((try simp only [World.size_alloc, World.size_setCell, World.size_drew]) <;> omega)) | ((with_reducible refine Below.alloc ?_ ?_ _) <;> try ((try simp only [World.size_alloc, World.size_setCell, World.size_drew]) <;> omega)) | ((with_reducible refine Below.setCell ?_ ?_ _) <;> try ((try simp only [World.size_alloc, World.size_setCell, World.size_drew]) <;> omega)) | (with_reducible refine below_drewN ?_ _) | (with_reducible refine Below.drew ?_) | ((with_reducible refine via (by assumption) ?_ ?_) <;> try ((try simp only [World.size_alloc, World.size_setCell, World.size_drew]) <;> omega))))

end Go.Proofs.Ytgnkoakmgfphmaa
