/-
  What the drawn bytes are: numbers in -1..256. No conditions.
-/
import Derived.Test.YtpddgepjlpdfjaaRd
import Derived.IntWalk
namespace Go.Proofs.Ytpddgepjlpdfjaa
set_option linter.all false
set_option linter.unusedSimpArgs false
set_option linter.unusedVariables false
open Go.ChangeShapes Go.WideShapes Go.ChangeAt Go.RowKit

def DByte (R : Nat) (k : Int) (w : World) (e : Ending) (w' : World) : Prop := ∃ x : Int, (-1 ≤ x ∧ x ≤ 256 ∧ e = .returned (.int .i64 x)) ∧ Only R w w' ∧ Rd w' R (k + 5)
theorem l20Byte_c (R : Nat) (n k : Int) (w : World) (hR : Rd w R k) (hk : k ≤ 1000000) (hn : n ≤ 1000000) (hn0 : -1000000 ≤ n) :
    Calls Try.prog 53 #[.pointer (some ⟨R, 0, none⟩), .int .i64 n] w (DByte R k w) := by
  have hlt := hR.lt
  go_enter Try.func53, Try.ntmps53
  go_wp2_with fail
  refine (odd_c _ _ _ _ (by (repeat (first | with_reducible assumption | (with_reducible apply Rd.alloc) | ((with_reducible apply Rd.setCell) <;> try ((try simp only [World.size_alloc, World.size_setCell, World.size_drew]) <;> omega)) | (with_reducible apply Rd.drewN) | (with_reducible apply Rd.drew)))) (by omega) (by omega) (by omega)).mono ?_
  rintro e w1 ⟨v, rfl, hO_w1, hR_w1⟩
  have hz_w1 := hO_w1.size
  (try simp only [World.size_alloc, World.size_setCell, World.size_drew] at hz_w1)
  cases v
  · go_wp2_with fail
    refine (pick_c _ _ _ _ (by (repeat (first | with_reducible assumption | (with_reducible apply Rd.alloc) | ((with_reducible apply Rd.setCell) <;> try ((try simp only [World.size_alloc, World.size_setCell, World.size_drew]) <;> omega)) | (with_reducible apply Rd.drewN) | (with_reducible apply Rd.drew)))) (by omega) (by omega) (by omega)).mono ?_
    rintro e w2 ⟨a, hv_a, rfl, hO_w2, hR_w2⟩
    have hz_w2 := hO_w2.size
    (try simp only [World.size_alloc, World.size_setCell, World.size_drew] at hz_w2)
    go_wp2_with fail
    refine (pick_c _ _ _ _ (by (repeat (first | with_reducible assumption | (with_reducible apply Rd.alloc) | ((with_reducible apply Rd.setCell) <;> try ((try simp only [World.size_alloc, World.size_setCell, World.size_drew]) <;> omega)) | (with_reducible apply Rd.drewN) | (with_reducible apply Rd.drew)))) (by omega) (by omega) (by omega)).mono ?_
    rintro e w3 ⟨b, hv_b, rfl, hO_w3, hR_w3⟩
    have hz_w3 := hO_w3.size
    (try simp only [World.size_alloc, World.size_setCell, World.size_drew] at hz_w3)
    go_wp2_with fail
    refine (pick_c _ _ _ _ (by (repeat (first | with_reducible assumption | (with_reducible apply Rd.alloc) | ((with_reducible apply Rd.setCell) <;> try ((try simp only [World.size_alloc, World.size_setCell, World.size_drew]) <;> omega)) | (with_reducible apply Rd.drewN) | (with_reducible apply Rd.drew)))) (by omega) (by omega) (by omega)).mono ?_
    rintro e w4 ⟨c, hv_c, rfl, hO_w4, hR_w4⟩
    have hz_w4 := hO_w4.size
    (try simp only [World.size_alloc, World.size_setCell, World.size_drew] at hz_w4)
    go_wp2_with fail
    refine (pick_c _ _ _ _ (by (repeat (first | with_reducible assumption | (with_reducible apply Rd.alloc) | ((with_reducible apply Rd.setCell) <;> try ((try simp only [World.size_alloc, World.size_setCell, World.size_drew]) <;> omega)) | (with_reducible apply Rd.drewN) | (with_reducible apply Rd.drew)))) (by omega) (by omega) (by omega)).mono ?_
    rintro e w5 ⟨d, hv_d, rfl, hO_w5, hR_w5⟩
    have hz_w5 := hO_w5.size
    (try simp only [World.size_alloc, World.size_setCell, World.size_drew] at hz_w5)
    obtain ⟨x, hx, hx0, hx1⟩ := hO_w5.int_new (m := d) (lo := -1) (hi := 256) (by omega) (by simp <;> omega) (by simp <;> omega)
    go_wp2
    go_ret
    refine ⟨x, ⟨hx0, hx1, rfl⟩, ?_, ?_⟩
    · (repeat (first | with_reducible exact Only.refl _ _ | (with_reducible refine Only.alloc ?_ _) | ((with_reducible refine Only.setCell ?_ ?_ _) <;> try ((try simp only [World.size_alloc, World.size_setCell, World.size_drew]) <;> omega)) | (with_reducible refine Only.drewN ?_ _) | (with_reducible refine Only.drew ?_) | (with_reducible refine Only.trans ?_ (by assumption))))
    · refine Rd.more (k := k + 1 + 1 + 1 + 1 + 1) ?_ (by omega)
      (repeat (first | with_reducible assumption | (with_reducible apply Rd.alloc) | ((with_reducible apply Rd.setCell) <;> try ((try simp only [World.size_alloc, World.size_setCell, World.size_drew]) <;> omega)) | (with_reducible apply Rd.drewN) | (with_reducible apply Rd.drew)))
  · go_wp2_with fail
    refine (pick_c _ _ _ _ (by (repeat (first | with_reducible assumption | (with_reducible apply Rd.alloc) | ((with_reducible apply Rd.setCell) <;> try ((try simp only [World.size_alloc, World.size_setCell, World.size_drew]) <;> omega)) | (with_reducible apply Rd.drewN) | (with_reducible apply Rd.drew)))) (by omega) (by omega) (by omega)).mono ?_
    rintro e w2 ⟨d, hv_d, rfl, hO_w2, hR_w2⟩
    have hz_w2 := hO_w2.size
    (try simp only [World.size_alloc, World.size_setCell, World.size_drew] at hz_w2)
    obtain ⟨x, hx, hx0, hx1⟩ := hO_w2.int_new (m := d) (lo := -1) (hi := 256) (by omega) (by simp <;> omega) (by simp <;> omega)
    go_wp2
    go_ret
    refine ⟨x, ⟨hx0, hx1, rfl⟩, ?_, ?_⟩
    · (repeat (first | with_reducible exact Only.refl _ _ | (with_reducible refine Only.alloc ?_ _) | ((with_reducible refine Only.setCell ?_ ?_ _) <;> try ((try simp only [World.size_alloc, World.size_setCell, World.size_drew]) <;> omega)) | (with_reducible refine Only.drewN ?_ _) | (with_reducible refine Only.drew ?_) | (with_reducible refine Only.trans ?_ (by assumption))))
    · refine Rd.more (k := k + 1 + 1) ?_ (by omega)
      (repeat (first | with_reducible assumption | (with_reducible apply Rd.alloc) | ((with_reducible apply Rd.setCell) <;> try ((try simp only [World.size_alloc, World.size_setCell, World.size_drew]) <;> omega)) | (with_reducible apply Rd.drewN) | (with_reducible apply Rd.drew)))

end Go.Proofs.Ytpddgepjlpdfjaa
