/-
  The law FnFieldPixel holds: backgrounds repeat, and shifting moves the picture; for every code. No conditions.
-/
import Derived.Test.YtojnfojecpdolaaOpen
import Derived.Test.YtojnfojecpdolaaFieldDraw3
import Derived.Test.YtojnfojecpdolaaFieldLaw
namespace Go.Proofs.Ytojnfojecpdolaa.lawFnFieldPixel
set_option linter.all false
set_option linter.unusedSimpArgs false
set_option linter.unusedVariables false
open Go.ChangeShapes Go.WideShapes Go.ChangeAt Go.RowKit

set_option maxRecDepth 100000 in
set_option maxHeartbeats 4000000 in
theorem walk (v0 : Value) (w : World) (h0 : CodeArg w v0) : Calls Try.prog 4 #[v0] w fun e w' => e = .returned (.bool true) ∧ Below w.heap.size w w' := by
  obtain ⟨a, len, cap, rfl, hcode, hl⟩ := h0
  have hm := hcode.1; unfold maxLen at hm
  by_cases hlen : 1048576 < len
  · go_enter Try.func4, Try.ntmps4
    go_wp2
    go_ret
    exact ⟨rfl, Below.refl _ _⟩
  · go_enter Try.func4, Try.ntmps4
    go_wp2_with fail
    refine (drawFieldPixel_c _ _ _ _ hcode hl).mono ?_
    rintro e w1 ⟨W, A, n, c, B, m, d, X, Y, x, y, rfl, ⟨p, q, hA, hB, hn, hm', hn1, hm1⟩, hO_w1⟩
    have hz_w1 := hO_w1.size
    clear hm hcode
    go_wp2_with fail
    refine (ifp_c _ _ _ _ _ _ _ _ _ _ _ p q _ (C := w1.heap.size) (C' := w1.heap.size) (by (repeat (first | with_reducible assumption | ((with_reducible refine RS.below (by assumption) ?_ ?_) <;> try ((try simp only [World.size_alloc, World.size_setCell, World.size_drew]) <;> omega)) | ((with_reducible refine RS.alloc ?_ ?_ _) <;> try ((try simp only [World.size_alloc, World.size_setCell, World.size_drew]) <;> omega)) | ((with_reducible refine RS.setRow ?_ ?_ _) <;> try ((try simp only [World.size_alloc, World.size_setCell, World.size_drew]) <;> omega)) | ((with_reducible refine RS.setCell ?_ ?_ _) <;> try ((try simp only [World.size_alloc, World.size_setCell, World.size_drew]) <;> omega)) | ((with_reducible refine RS.setCells ?_ ?_ _ _) <;> try ((try simp only [World.size_alloc, World.size_setCell, World.size_drew]) <;> omega)) | (with_reducible apply RS.drewN) | (with_reducible apply RS.drew)))) (by (repeat (first | with_reducible assumption | ((with_reducible refine RS.below (by assumption) ?_ ?_) <;> try ((try simp only [World.size_alloc, World.size_setCell, World.size_drew]) <;> omega)) | ((with_reducible refine RS.alloc ?_ ?_ _) <;> try ((try simp only [World.size_alloc, World.size_setCell, World.size_drew]) <;> omega)) | ((with_reducible refine RS.setRow ?_ ?_ _) <;> try ((try simp only [World.size_alloc, World.size_setCell, World.size_drew]) <;> omega)) | ((with_reducible refine RS.setCell ?_ ?_ _) <;> try ((try simp only [World.size_alloc, World.size_setCell, World.size_drew]) <;> omega)) | ((with_reducible refine RS.setCells ?_ ?_ _ _) <;> try ((try simp only [World.size_alloc, World.size_setCell, World.size_drew]) <;> omega)) | (with_reducible apply RS.drewN) | (with_reducible apply RS.drew)))) (by ((try simp only [World.size_alloc, World.size_setCell, World.size_drew]) <;> omega)) (by ((try simp only [World.size_alloc, World.size_setCell, World.size_drew]) <;> omega)) (by omega) (by omega)).mono ?_
    rintro e w2 ⟨rfl, hO_w2⟩
    have hz_w2 := hO_w2.size
    (try simp only [World.size_alloc, World.size_setCell, World.size_drew] at hz_w2)
    have hs_w2_0 : w1.heap.size < w2.heap.size := (by omega)
    have c_w2_0 := fun o => (bcell hO_w2).1 (w1.heap.size) o (by (try simp only [World.size_alloc, World.size_setCell, World.size_drew]) <;> omega)
    have f_w2_0 := fun o => (bcell hO_w2).2 (w1.heap.size) o (by (try simp only [World.size_alloc, World.size_setCell, World.size_drew]) <;> omega)
    go_wp2_with fail
    refine (sfp_c _ _ _ _ _ _ _ _ _ _ _ p q _ (C := w1.heap.size) (C' := w1.heap.size) (by (repeat (first | with_reducible assumption | ((with_reducible refine RS.below (by assumption) ?_ ?_) <;> try ((try simp only [World.size_alloc, World.size_setCell, World.size_drew]) <;> omega)) | ((with_reducible refine RS.alloc ?_ ?_ _) <;> try ((try simp only [World.size_alloc, World.size_setCell, World.size_drew]) <;> omega)) | ((with_reducible refine RS.setRow ?_ ?_ _) <;> try ((try simp only [World.size_alloc, World.size_setCell, World.size_drew]) <;> omega)) | ((with_reducible refine RS.setCell ?_ ?_ _) <;> try ((try simp only [World.size_alloc, World.size_setCell, World.size_drew]) <;> omega)) | ((with_reducible refine RS.setCells ?_ ?_ _ _) <;> try ((try simp only [World.size_alloc, World.size_setCell, World.size_drew]) <;> omega)) | (with_reducible apply RS.drewN) | (with_reducible apply RS.drew)))) (by (repeat (first | with_reducible assumption | ((with_reducible refine RS.below (by assumption) ?_ ?_) <;> try ((try simp only [World.size_alloc, World.size_setCell, World.size_drew]) <;> omega)) | ((with_reducible refine RS.alloc ?_ ?_ _) <;> try ((try simp only [World.size_alloc, World.size_setCell, World.size_drew]) <;> omega)) | ((with_reducible refine RS.setRow ?_ ?_ _) <;> try ((try simp only [World.size_alloc, World.size_setCell, World.size_drew]) <;> omega)) | ((with_reducible refine RS.setCell ?_ ?_ _) <;> try ((try simp only [World.size_alloc, World.size_setCell, World.size_drew]) <;> omega)) | ((with_reducible refine RS.setCells ?_ ?_ _ _) <;> try ((try simp only [World.size_alloc, World.size_setCell, World.size_drew]) <;> omega)) | (with_reducible apply RS.drewN) | (with_reducible apply RS.drew)))) (by ((try simp only [World.size_alloc, World.size_setCell, World.size_drew]) <;> omega)) (by ((try simp only [World.size_alloc, World.size_setCell, World.size_drew]) <;> omega)) (by omega) (by omega)).mono ?_
    rintro e w3 ⟨rfl, hO_w3⟩
    have hz_w3 := hO_w3.size
    (try simp only [World.size_alloc, World.size_setCell, World.size_drew] at hz_w3)
    have hs_w3_0 : w1.heap.size < w3.heap.size := (by omega)
    have c_w3_0 := fun o => (bcell hO_w3).1 (w1.heap.size) o (by (try simp only [World.size_alloc, World.size_setCell, World.size_drew]) <;> omega)
    have f_w3_0 := fun o => (bcell hO_w3).2 (w1.heap.size) o (by (try simp only [World.size_alloc, World.size_setCell, World.size_drew]) <;> omega)
    rcases fpr_cases (W := W) (n := n) (m := m) (X := X) (Y := Y) (p := p) (q := q) (x := x) (y := y) with hr | ⟨W', X', Y', x', y', rfl, rfl, rfl, rfl, rfl, hX, hY, hx, hy, hok, hv, hr⟩
    · rw [hr]
      go_wp2_with (go_at_call 15; refine (alive_c _).mono ?_; rintro e w' ⟨rfl, rfl⟩)
      go_ret
      refine ⟨rfl, ?_⟩
      (repeat (first | with_reducible exact Below.refl _ _ | ((with_reducible refine viaO (by assumption) ?_ ?_ ?_) <;> try ((try simp only [World.size_alloc, World.size_setCell, World.size_drew]) <;> omega)) | ((with_reducible refine Below.alloc ?_ ?_ _) <;> try ((try simp only [World.size_alloc, World.size_setCell, World.size_drew]) <;> omega)) | ((with_reducible refine Below.setCell ?_ ?_ _) <;> try ((try simp only [World.size_alloc, World.size_setCell, World.size_drew]) <;> omega)) | (with_reducible refine below_drewN ?_ _) | (with_reducible refine Below.drew ?_) | ((with_reducible refine via (by assumption) ?_ ?_) <;> try ((try simp only [World.size_alloc, World.size_setCell, World.size_drew]) <;> omega))))
    · obtain ⟨hsh, htv, hXb, hYb⟩ := fvd_parts hv
      obtain ⟨b0, b3⟩ := fpx_bounds hok htv x' y' (X := X') (Y := Y')
      have w1' := hok.w1
      have w8' := hok.w8
      have r1 : ¬ 255 < (X' : Int) + 8 * (W' : Int) → fpr W' n m ((X' : Int) + 8 * (W' : Int)) Y' p q x' y' = fpx W' n X' Y' p q x' y' := fun h => by
        have e : (X' : Int) + 8 * (W' : Int) = ((X' + 8 * W' : Nat) : Int) := by omega
        rw [e, fpr_yes (hsh _ _ (inB_true.2 (by omega)) hYb) hx hy, fpx_table]
      have r2 : ¬ 255 < (X' : Int) + 1 → x' ≠ 0 → fpr W' n m ((X' : Int) + 1) Y' p q ((x' : Int) - 1) y' = fpx W' n X' Y' p q x' y' := fun h h0 => by
        have e : (X' : Int) + 1 = ((X' + 1 : Nat) : Int) := by omega
        have e2 : (x' : Int) - 1 = ((x' - 1 : Nat) : Int) := by omega
        rw [e, e2, fpr_yes (hsh _ _ (inB_true.2 (by omega)) hYb) (by omega) hy, fpx_one _ _ _ _ _ _ _ _ (by omega)]
      rw [hr]
      clear hr hsh htv hXb hYb hok hv
      generalize hvv : fpx W' n X' Y' p q x' y' = v at *
      clear hvv
      have R1 := Lib.hid r1
      have R2 := Lib.hid r2
      clear r1 r2
      have b0' : ¬ v < 0 := by omega
      have e1 : IntKind.i64.wrap ((X' : Int) + 8 * (W' : Int)) = (X' : Int) + 8 * (W' : Int) := IntWalk.i64_in _ (by omega)
      by_cases c1 : 255 < (X' : Int) + 8 * (W' : Int)
      · by_cases c2 : 255 < (X' : Int) + 1
        · go_wp2
          go_ret
          refine ⟨rfl, ?_⟩
          (repeat (first | with_reducible exact Below.refl _ _ | ((with_reducible refine viaO (by assumption) ?_ ?_ ?_) <;> try ((try simp only [World.size_alloc, World.size_setCell, World.size_drew]) <;> omega)) | ((with_reducible refine Below.alloc ?_ ?_ _) <;> try ((try simp only [World.size_alloc, World.size_setCell, World.size_drew]) <;> omega)) | ((with_reducible refine Below.setCell ?_ ?_ _) <;> try ((try simp only [World.size_alloc, World.size_setCell, World.size_drew]) <;> omega)) | (with_reducible refine below_drewN ?_ _) | (with_reducible refine Below.drew ?_) | ((with_reducible refine via (by assumption) ?_ ?_) <;> try ((try simp only [World.size_alloc, World.size_setCell, World.size_drew]) <;> omega))))
        · by_cases c3 : x' = 0
          · subst c3
            go_wp2
            go_ret
            refine ⟨rfl, ?_⟩
            (repeat (first | with_reducible exact Below.refl _ _ | ((with_reducible refine viaO (by assumption) ?_ ?_ ?_) <;> try ((try simp only [World.size_alloc, World.size_setCell, World.size_drew]) <;> omega)) | ((with_reducible refine Below.alloc ?_ ?_ _) <;> try ((try simp only [World.size_alloc, World.size_setCell, World.size_drew]) <;> omega)) | ((with_reducible refine Below.setCell ?_ ?_ _) <;> try ((try simp only [World.size_alloc, World.size_setCell, World.size_drew]) <;> omega)) | (with_reducible refine below_drewN ?_ _) | (with_reducible refine Below.drew ?_) | ((with_reducible refine via (by assumption) ?_ ?_) <;> try ((try simp only [World.size_alloc, World.size_setCell, World.size_drew]) <;> omega))))
          · have r2 := R2.out c2 c3
            have c3' : ((x' : Int) == 0) = false := by simpa using c3
            go_wp2_with ((go_at_call 17; (refine (ifp_c _ _ _ _ _ _ _ _ _ _ _ p q _ (C := w1.heap.size) (C' := w1.heap.size) (by (repeat (first | with_reducible assumption | ((with_reducible refine RS.below (by assumption) ?_ ?_) <;> try ((try simp only [World.size_alloc, World.size_setCell, World.size_drew]) <;> omega)) | ((with_reducible refine RS.alloc ?_ ?_ _) <;> try ((try simp only [World.size_alloc, World.size_setCell, World.size_drew]) <;> omega)) | ((with_reducible refine RS.setRow ?_ ?_ _) <;> try ((try simp only [World.size_alloc, World.size_setCell, World.size_drew]) <;> omega)) | ((with_reducible refine RS.setCell ?_ ?_ _) <;> try ((try simp only [World.size_alloc, World.size_setCell, World.size_drew]) <;> omega)) | ((with_reducible refine RS.setCells ?_ ?_ _ _) <;> try ((try simp only [World.size_alloc, World.size_setCell, World.size_drew]) <;> omega)) | (with_reducible apply RS.drewN) | (with_reducible apply RS.drew)))) (by (repeat (first | with_reducible assumption | ((with_reducible refine RS.below (by assumption) ?_ ?_) <;> try ((try simp only [World.size_alloc, World.size_setCell, World.size_drew]) <;> omega)) | ((with_reducible refine RS.alloc ?_ ?_ _) <;> try ((try simp only [World.size_alloc, World.size_setCell, World.size_drew]) <;> omega)) | ((with_reducible refine RS.setRow ?_ ?_ _) <;> try ((try simp only [World.size_alloc, World.size_setCell, World.size_drew]) <;> omega)) | ((with_reducible refine RS.setCell ?_ ?_ _) <;> try ((try simp only [World.size_alloc, World.size_setCell, World.size_drew]) <;> omega)) | ((with_reducible refine RS.setCells ?_ ?_ _ _) <;> try ((try simp only [World.size_alloc, World.size_setCell, World.size_drew]) <;> omega)) | (with_reducible apply RS.drewN) | (with_reducible apply RS.drew)))) (by ((try simp only [World.size_alloc, World.size_setCell, World.size_drew]) <;> omega)) (by ((try simp only [World.size_alloc, World.size_setCell, World.size_drew]) <;> omega)) (by omega) (by omega)).mono ?_; rintro e w5 ⟨rfl, hO_w5⟩; have hz_w5 := hO_w5.size; (try simp only [World.size_alloc, World.size_setCell, World.size_drew] at hz_w5))); rw [r2])
            go_ret
            refine ⟨rfl, ?_⟩
            (repeat (first | with_reducible exact Below.refl _ _ | ((with_reducible refine viaO (by assumption) ?_ ?_ ?_) <;> try ((try simp only [World.size_alloc, World.size_setCell, World.size_drew]) <;> omega)) | ((with_reducible refine Below.alloc ?_ ?_ _) <;> try ((try simp only [World.size_alloc, World.size_setCell, World.size_drew]) <;> omega)) | ((with_reducible refine Below.setCell ?_ ?_ _) <;> try ((try simp only [World.size_alloc, World.size_setCell, World.size_drew]) <;> omega)) | (with_reducible refine below_drewN ?_ _) | (with_reducible refine Below.drew ?_) | ((with_reducible refine via (by assumption) ?_ ?_) <;> try ((try simp only [World.size_alloc, World.size_setCell, World.size_drew]) <;> omega))))
      · have r1 := R1.out c1
        by_cases c2 : 255 < (X' : Int) + 1
        · omega
        · by_cases c3 : x' = 0
          · have c3' : ((x' : Int) == 0) = true := by simp [c3]
            clear c3
            go_wp2_with ((go_at_call 17; (refine (ifp_c _ _ _ _ _ _ _ _ _ _ _ p q _ (C := w1.heap.size) (C' := w1.heap.size) (by (repeat (first | with_reducible assumption | ((with_reducible refine RS.below (by assumption) ?_ ?_) <;> try ((try simp only [World.size_alloc, World.size_setCell, World.size_drew]) <;> omega)) | ((with_reducible refine RS.alloc ?_ ?_ _) <;> try ((try simp only [World.size_alloc, World.size_setCell, World.size_drew]) <;> omega)) | ((with_reducible refine RS.setRow ?_ ?_ _) <;> try ((try simp only [World.size_alloc, World.size_setCell, World.size_drew]) <;> omega)) | ((with_reducible refine RS.setCell ?_ ?_ _) <;> try ((try simp only [World.size_alloc, World.size_setCell, World.size_drew]) <;> omega)) | ((with_reducible refine RS.setCells ?_ ?_ _ _) <;> try ((try simp only [World.size_alloc, World.size_setCell, World.size_drew]) <;> omega)) | (with_reducible apply RS.drewN) | (with_reducible apply RS.drew)))) (by (repeat (first | with_reducible assumption | ((with_reducible refine RS.below (by assumption) ?_ ?_) <;> try ((try simp only [World.size_alloc, World.size_setCell, World.size_drew]) <;> omega)) | ((with_reducible refine RS.alloc ?_ ?_ _) <;> try ((try simp only [World.size_alloc, World.size_setCell, World.size_drew]) <;> omega)) | ((with_reducible refine RS.setRow ?_ ?_ _) <;> try ((try simp only [World.size_alloc, World.size_setCell, World.size_drew]) <;> omega)) | ((with_reducible refine RS.setCell ?_ ?_ _) <;> try ((try simp only [World.size_alloc, World.size_setCell, World.size_drew]) <;> omega)) | ((with_reducible refine RS.setCells ?_ ?_ _ _) <;> try ((try simp only [World.size_alloc, World.size_setCell, World.size_drew]) <;> omega)) | (with_reducible apply RS.drewN) | (with_reducible apply RS.drew)))) (by ((try simp only [World.size_alloc, World.size_setCell, World.size_drew]) <;> omega)) (by ((try simp only [World.size_alloc, World.size_setCell, World.size_drew]) <;> omega)) (by omega) (by omega)).mono ?_; rintro e w5 ⟨rfl, hO_w5⟩; have hz_w5 := hO_w5.size; (try simp only [World.size_alloc, World.size_setCell, World.size_drew] at hz_w5); have hs_w5_0 : w3.heap.size < w5.heap.size := (by omega); have c_w5_0 := fun o => (bcell hO_w5).1 (w3.heap.size) o (by (try simp only [World.size_alloc, World.size_setCell, World.size_drew]) <;> omega); have f_w5_0 := fun o => (bcell hO_w5).2 (w3.heap.size) o (by (try simp only [World.size_alloc, World.size_setCell, World.size_drew]) <;> omega); have hs_w5_1 : w3.heap.size + 1 < w5.heap.size := (by omega); have c_w5_1 := fun o => (bcell hO_w5).1 (w3.heap.size + 1) o (by (try simp only [World.size_alloc, World.size_setCell, World.size_drew]) <;> omega); have f_w5_1 := fun o => (bcell hO_w5).2 (w3.heap.size + 1) o (by (try simp only [World.size_alloc, World.size_setCell, World.size_drew]) <;> omega))); rw [r1])
            go_ret
            refine ⟨rfl, ?_⟩
            (repeat (first | with_reducible exact Below.refl _ _ | ((with_reducible refine viaO (by assumption) ?_ ?_ ?_) <;> try ((try simp only [World.size_alloc, World.size_setCell, World.size_drew]) <;> omega)) | ((with_reducible refine Below.alloc ?_ ?_ _) <;> try ((try simp only [World.size_alloc, World.size_setCell, World.size_drew]) <;> omega)) | ((with_reducible refine Below.setCell ?_ ?_ _) <;> try ((try simp only [World.size_alloc, World.size_setCell, World.size_drew]) <;> omega)) | (with_reducible refine below_drewN ?_ _) | (with_reducible refine Below.drew ?_) | ((with_reducible refine via (by assumption) ?_ ?_) <;> try ((try simp only [World.size_alloc, World.size_setCell, World.size_drew]) <;> omega))))
          · have r2 := R2.out c2 c3
            have c3' : ((x' : Int) == 0) = false := by simpa using c3
            go_wp2_with (first | ((go_at_call 17; (refine (ifp_c _ _ _ _ _ _ _ _ _ _ _ p q _ (C := w1.heap.size) (C' := w1.heap.size) (by (repeat (first | with_reducible assumption | ((with_reducible refine RS.below (by assumption) ?_ ?_) <;> try ((try simp only [World.size_alloc, World.size_setCell, World.size_drew]) <;> omega)) | ((with_reducible refine RS.alloc ?_ ?_ _) <;> try ((try simp only [World.size_alloc, World.size_setCell, World.size_drew]) <;> omega)) | ((with_reducible refine RS.setRow ?_ ?_ _) <;> try ((try simp only [World.size_alloc, World.size_setCell, World.size_drew]) <;> omega)) | ((with_reducible refine RS.setCell ?_ ?_ _) <;> try ((try simp only [World.size_alloc, World.size_setCell, World.size_drew]) <;> omega)) | ((with_reducible refine RS.setCells ?_ ?_ _ _) <;> try ((try simp only [World.size_alloc, World.size_setCell, World.size_drew]) <;> omega)) | (with_reducible apply RS.drewN) | (with_reducible apply RS.drew)))) (by (repeat (first | with_reducible assumption | ((with_reducible refine RS.below (by assumption) ?_ ?_) <;> try ((try simp only [World.size_alloc, World.size_setCell, World.size_drew]) <;> omega)) | ((with_reducible refine RS.alloc ?_ ?_ _) <;> try ((try simp only [World.size_alloc, World.size_setCell, World.size_drew]) <;> omega)) | ((with_reducible refine RS.setRow ?_ ?_ _) <;> try ((try simp only [World.size_alloc, World.size_setCell, World.size_drew]) <;> omega)) | ((with_reducible refine RS.setCell ?_ ?_ _) <;> try ((try simp only [World.size_alloc, World.size_setCell, World.size_drew]) <;> omega)) | ((with_reducible refine RS.setCells ?_ ?_ _ _) <;> try ((try simp only [World.size_alloc, World.size_setCell, World.size_drew]) <;> omega)) | (with_reducible apply RS.drewN) | (with_reducible apply RS.drew)))) (by ((try simp only [World.size_alloc, World.size_setCell, World.size_drew]) <;> omega)) (by ((try simp only [World.size_alloc, World.size_setCell, World.size_drew]) <;> omega)) (by omega) (by omega)).mono ?_; rintro e w5 ⟨rfl, hO_w5⟩; have hz_w5 := hO_w5.size; (try simp only [World.size_alloc, World.size_setCell, World.size_drew] at hz_w5); have hs_w5_0 : w3.heap.size < w5.heap.size := (by omega); have c_w5_0 := fun o => (bcell hO_w5).1 (w3.heap.size) o (by (try simp only [World.size_alloc, World.size_setCell, World.size_drew]) <;> omega); have f_w5_0 := fun o => (bcell hO_w5).2 (w3.heap.size) o (by (try simp only [World.size_alloc, World.size_setCell, World.size_drew]) <;> omega); have hs_w5_1 : w3.heap.size + 1 < w5.heap.size := (by omega); have c_w5_1 := fun o => (bcell hO_w5).1 (w3.heap.size + 1) o (by (try simp only [World.size_alloc, World.size_setCell, World.size_drew]) <;> omega); have f_w5_1 := fun o => (bcell hO_w5).2 (w3.heap.size + 1) o (by (try simp only [World.size_alloc, World.size_setCell, World.size_drew]) <;> omega))); rw [r1]) | ((go_at_call 17; (refine (ifp_c _ _ _ _ _ _ _ _ _ _ _ p q _ (C := w1.heap.size) (C' := w1.heap.size) (by (repeat (first | with_reducible assumption | ((with_reducible refine RS.below (by assumption) ?_ ?_) <;> try ((try simp only [World.size_alloc, World.size_setCell, World.size_drew]) <;> omega)) | ((with_reducible refine RS.alloc ?_ ?_ _) <;> try ((try simp only [World.size_alloc, World.size_setCell, World.size_drew]) <;> omega)) | ((with_reducible refine RS.setRow ?_ ?_ _) <;> try ((try simp only [World.size_alloc, World.size_setCell, World.size_drew]) <;> omega)) | ((with_reducible refine RS.setCell ?_ ?_ _) <;> try ((try simp only [World.size_alloc, World.size_setCell, World.size_drew]) <;> omega)) | ((with_reducible refine RS.setCells ?_ ?_ _ _) <;> try ((try simp only [World.size_alloc, World.size_setCell, World.size_drew]) <;> omega)) | (with_reducible apply RS.drewN) | (with_reducible apply RS.drew)))) (by (repeat (first | with_reducible assumption | ((with_reducible refine RS.below (by assumption) ?_ ?_) <;> try ((try simp only [World.size_alloc, World.size_setCell, World.size_drew]) <;> omega)) | ((with_reducible refine RS.alloc ?_ ?_ _) <;> try ((try simp only [World.size_alloc, World.size_setCell, World.size_drew]) <;> omega)) | ((with_reducible refine RS.setRow ?_ ?_ _) <;> try ((try simp only [World.size_alloc, World.size_setCell, World.size_drew]) <;> omega)) | ((with_reducible refine RS.setCell ?_ ?_ _) <;> try ((try simp only [World.size_alloc, World.size_setCell, World.size_drew]) <;> omega)) | ((with_reducible refine RS.setCells ?_ ?_ _ _) <;> try ((try simp only [World.size_alloc, World.size_setCell, World.size_drew]) <;> omega)) | (with_reducible apply RS.drewN) | (with_reducible apply RS.drew)))) (by ((try simp only [World.size_alloc, World.size_setCell, World.size_drew]) <;> omega)) (by ((try simp only [World.size_alloc, World.size_setCell, World.size_drew]) <;> omega)) (by omega) (by omega)).mono ?_; rintro e w6 ⟨rfl, hO_w6⟩; have hz_w6 := hO_w6.size; (try simp only [World.size_alloc, World.size_setCell, World.size_drew] at hz_w6); have hs_w6_0 : w3.heap.size < w6.heap.size := (by omega); have c_w6_0 := fun o => (bcell hO_w6).1 (w3.heap.size) o (by (try simp only [World.size_alloc, World.size_setCell, World.size_drew]) <;> omega); have f_w6_0 := fun o => (bcell hO_w6).2 (w3.heap.size) o (by (try simp only [World.size_alloc, World.size_setCell, World.size_drew]) <;> omega); have hs_w6_1 : w3.heap.size + 1 < w6.heap.size := (by omega); have c_w6_1 := fun o => (bcell hO_w6).1 (w3.heap.size + 1) o (by (try simp only [World.size_alloc, World.size_setCell, World.size_drew]) <;> omega); have f_w6_1 := fun o => (bcell hO_w6).2 (w3.heap.size + 1) o (by (try simp only [World.size_alloc, World.size_setCell, World.size_drew]) <;> omega))); rw [r2]))
            go_ret
            refine ⟨rfl, ?_⟩
            (repeat (first | with_reducible exact Below.refl _ _ | ((with_reducible refine viaO (by assumption) ?_ ?_ ?_) <;> try ((try simp only [World.size_alloc, World.size_setCell, World.size_drew]) <;> omega)) | ((with_reducible refine Below.alloc ?_ ?_ _) <;> try ((try simp only [World.size_alloc, World.size_setCell, World.size_drew]) <;> omega)) | ((with_reducible refine Below.setCell ?_ ?_ _) <;> try ((try simp only [World.size_alloc, World.size_setCell, World.size_drew]) <;> omega)) | (with_reducible refine below_drewN ?_ _) | (with_reducible refine Below.drew ?_) | ((with_reducible refine via (by assumption) ?_ ?_) <;> try ((try simp only [World.size_alloc, World.size_setCell, World.size_drew]) <;> omega))))

set_option maxRecDepth 100000 in
theorem lifted (os : Os) (started : os.Started) (H : Type) (enc : TypeId × Value → H) :
    ReturnsInHanded {} Try.checked os 4 .any (Rows.fnFieldPixelSpec.pre6 enc Try.prog Try.f4 Rows.fnFieldPixelRow.domain false) (Rows.fnFieldPixelSpec.post enc Try.prog Try.f4 false true false false) := by
  refine returnsInHanded_of_change (C := Try.checked) own started (by kernel_rfl) Try.func4
    (ChangeSpec.witness6 (enc := enc) (C := Try.checked) false ⟨#[], #[.slice none 0 0], []⟩ 8 (by kernel_rfl) (by kernel_rfl) (by kernel_rfl) (by kernel_rfl)) ?_
  intro W base args ds gs before hval0 hW hcnd _
  have hval : ∀ (j : Nat) t v, Try.f4.params[j]? = some t → args[j]? = some v → Value.okWide Try.prog W .any base t v := hval0
  have hW' := hW
  obtain ⟨p, q, hA0, hV, rfl, hfz, hnd⟩ := hW
  have hA : DataW.TrodAll enc Try.prog W 0 (fun _ => true) true Try.f4.params.toList args.toList ds p := hA0
  rw [Try.params4] at hA hval
  obtain ⟨v0, vs0, d0, ds0, p0, q0, hargs, rfl, rfl, h0, r0⟩ := trodAll_cons hA
  obtain ⟨rfl, rfl, rfl⟩ := trodAll_nil r0
  obtain rfl : args = #[v0] := by cases args; simp_all
  obtain ⟨rfl, rfl⟩ := trodVars_none hV
  have lt0 : ∀ x ∈ p0, x.block < W.heap.size := by obtain ⟨m, hm⟩ := h0; exact DataW.trod_lt m _ _ _ hm
  have a0 := codeArg (hval 0 22 v0 rfl rfl) h0
  clear hA0 hval0
  refine (walk v0 W a0).mono fun e W' ⟨he, bel⟩ => ?_
  subst he
  exact ⟨_, rfl, _, _, _, [], _, [], hW', trodAll_mk1 (shut_bool Try.underlying4 _), (trodAll_cons_mk (Below.trod laidOut (by kernel_rfl) (of_decide_eq_true (by kernel_rfl)) h0 bel lt0) trodAll_mk0), rfl, bel.frame _, fun h => by cases h⟩

theorem proved : Rows.FnFieldPixelSaid :=
  OpenClaim.holds_of_wide 4 Try.f4 rfl rfl rfl rfl rfl rfl rfl ⟨rfl, rfl, rfl, rfl, rfl⟩ rfl rfl rfl rfl rfl (by kernel_rfl) Try.func4 (by kernel_rfl)
    (of_decide_eq_true (by kernel_rfl)) (by unfold Func.isWrapper; first | (rw [if_pos (by decide +kernel)]; kernel_rfl) | (rw [if_neg (by decide +kernel)]; exact ⟨rfl, rfl⟩))
    (fun os started H enc _ => lifted os started H enc)
#print axioms proved

end Go.Proofs.Ytojnfojecpdolaa.lawFnFieldPixel
