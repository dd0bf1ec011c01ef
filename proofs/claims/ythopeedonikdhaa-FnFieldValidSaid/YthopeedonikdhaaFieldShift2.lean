/-
  ShiftField of the program, where it has a result. Conditions: at most 1048576 tiles and numbers.
-/
import Derived.Test.YthopeedonikdhaaFieldShift
namespace Go.Proofs.Ythopeedonikdhaa
set_option linter.all false
set_option linter.unusedSimpArgs false
set_option linter.unusedVariables false
open Go.ChangeShapes Go.WideShapes Go.ChangeAt Go.RowKit

theorem own_drew {w : World} {base : Nat} {e : TypeId} {sz n : Nat} {v : Value} {xs : List Value} (h : w.ownsRow base e sz v n xs) : w.drew.ownsRow base e sz v n xs := own_below h ((Below.refl _ _).drew) (Nat.le_refl _)

set_option maxHeartbeats 1000000 in
theorem ishy_c (W : Nat) (A : Option Addr) (n c : Nat) (B : Option Addr) (m d : Nat) (X Y : Nat) (dx dy : Int) (p : Nat → Int) (q : Nat → Nat → Int) (w : World) {C C' : Nat} (h : RS w C 1 A n (iv p)) (h' : RS w C' 64 B m (tc q)) (hC : C ≤ w.heap.size) (hC' : C' ≤ w.heap.size) (hn : n ≤ 1048576) (hm : m ≤ 1048576)
    (hv : fvd W n m X Y p q = true) (hx : inB dx (-255) 255 = true) (hy : inB dy (-255) 255 = true) (hok : FOK W n m p) (hX : X ≤ 255) (hY : Y ≤ 255) : Calls Try.prog 10 #[fdV W A n c B m d X Y, .int .i64 dx, .int .i64 dy] w (GField W n m ((X + dx) % (8 * W)) ((Y + dy) % (8 * (n / W))) p q w) := by
  obtain ⟨w1, w8, hmul, h1, h8, m1, m16, num⟩ := id hok
  have hn0 : 0 < n := by
    have : 1 * 1 ≤ W * (n / W) := Nat.mul_le_mul w1 h1
    omega
  obtain ⟨x0, x1⟩ := inB_true.1 hx
  obtain ⟨y0, y1⟩ := inB_true.1 hy
  have q0 : 1 ≤ (n : Int) / (W : Int) ∧ (n : Int) / (W : Int) ≤ 8 := by
    rw [← Int.natCast_ediv]; omega
  obtain ⟨q1, q2⟩ := q0
  have k1 : ¬ W = 0 := by omega
  have e8 : IntKind.i64.wrap (8 * ((n : Int) / (W : Int))) = 8 * ((n : Int) / (W : Int)) := IntWalk.i64_in _ (by omega)
  have e10 : IntKind.i64.wrap ((n : Int) / (W : Int)) = (n : Int) / (W : Int) := IntWalk.i64_in _ (by omega)
  have e9 : IntKind.i64.wrap ((Y : Int) + dy) = (Y : Int) + dy := IntWalk.i64_in _ (by omega)
  have H := Lib.hid h
  have H' := Lib.hid h'
  have HV := Lib.hid hv
  have HX := Lib.hid hx
  have HY := Lib.hid hy
  clear h h' hv hx hy hok hmul num
  go_enter Try.func10, Try.ntmps10
  go_wp2_with (first | (go_at_call 6; (refine (ifv_c _ _ _ _ _ _ _ _ _ p q _ HV.out _ (C := C) (C' := C') (RS.alloc (RS.alloc H.out hC _) (by ((try simp only [World.size_alloc, World.size_setCell, World.size_drew]) <;> omega)) _) (RS.alloc (RS.alloc H'.out hC' _) (by ((try simp only [World.size_alloc, World.size_setCell, World.size_drew]) <;> omega)) _) (by ((try simp only [World.size_alloc, World.size_setCell, World.size_drew]) <;> omega)) (by ((try simp only [World.size_alloc, World.size_setCell, World.size_drew]) <;> omega)) hn hm).mono ?_; rintro e w1 ⟨rfl, hO_w1⟩; have hz_w1 := hO_w1.size; (try simp only [World.size_alloc, World.size_setCell, World.size_drew] at hz_w1); have hs_w1_0 : w.heap.size < w1.heap.size := (by omega); have c_w1_0 := fun o => (bcell hO_w1).1 (w.heap.size) o (by (try simp only [World.size_alloc, World.size_setCell, World.size_drew]) <;> omega); have f_w1_0 := fun o => (bcell hO_w1).2 (w.heap.size) o (by (try simp only [World.size_alloc, World.size_setCell, World.size_drew]) <;> omega); have hs_w1_1 : w.heap.size + 1 < w1.heap.size := (by omega); have c_w1_1 := fun o => (bcell hO_w1).1 (w.heap.size + 1) o (by (try simp only [World.size_alloc, World.size_setCell, World.size_drew]) <;> omega); have f_w1_1 := fun o => (bcell hO_w1).2 (w.heap.size + 1) o (by (try simp only [World.size_alloc, World.size_setCell, World.size_drew]) <;> omega))) | (go_at_call 17; (first | (with_reducible refine (within_c dx (-255) 255 _ HX.out _).mono ?_) | (with_reducible refine (within_c dy (-255) 255 _ HY.out _).mono ?_)); rintro e w' ⟨rfl, rfl⟩) | (go_at_call 23; (refine (copyField_c _ _ _ _ _ _ _ _ _ p q _ (C := C) (C' := C') (RS.below hO_w1 (RS.alloc (RS.alloc H.out hC _) (by ((try simp only [World.size_alloc, World.size_setCell, World.size_drew]) <;> omega)) _) (by ((try simp only [World.size_alloc, World.size_setCell, World.size_drew]) <;> omega))) (RS.below hO_w1 (RS.alloc (RS.alloc H'.out hC' _) (by ((try simp only [World.size_alloc, World.size_setCell, World.size_drew]) <;> omega)) _) (by ((try simp only [World.size_alloc, World.size_setCell, World.size_drew]) <;> omega))) (by ((try simp only [World.size_alloc, World.size_setCell, World.size_drew]) <;> omega)) (by ((try simp only [World.size_alloc, World.size_setCell, World.size_drew]) <;> omega)) (by omega) (by omega) (by omega) (by omega)).mono ?_; rintro e w2 ⟨A2, cap2, B2, kap2, rfl, h2, g2, hd2, hO_w2⟩; have hz_w2 := hO_w2.size; (try simp only [World.size_alloc, World.size_setCell, World.size_drew] at hz_w2); have hs_w2_0 : w.heap.size < w2.heap.size := (by omega); have c_w2_0 := fun o => (bcell hO_w2).1 (w.heap.size) o (by (try simp only [World.size_alloc, World.size_setCell, World.size_drew]) <;> omega); have f_w2_0 := fun o => (bcell hO_w2).2 (w.heap.size) o (by (try simp only [World.size_alloc, World.size_setCell, World.size_drew]) <;> omega); have hs_w2_1 : w.heap.size + 1 < w2.heap.size := (by omega); have c_w2_1 := fun o => (bcell hO_w2).1 (w.heap.size + 1) o (by (try simp only [World.size_alloc, World.size_setCell, World.size_drew]) <;> omega); have f_w2_1 := fun o => (bcell hO_w2).2 (w.heap.size + 1) o (by (try simp only [World.size_alloc, World.size_setCell, World.size_drew]) <;> omega); have s2 := own_rs h2; have t2 := own_rs g2)) | (go_at_call 24; (with_reducible refine (modulo_c _ _ _ (by omega) (by omega) (by omega) (by omega)).mono ?_); rintro e w' ⟨rfl, rfl⟩))
  go_region_held3 (fun w' => w'.cell? ⟨w.heap.size, 4, none⟩ = some (.int .i64 Y) ∧ w'.cell? ⟨w.heap.size, 1, none⟩ = some (.slice A n c) ∧ w'.cell? ⟨w.heap.size, 0, none⟩ = some (.int .i64 W)) (go_simp) (first | (go_at_call 24; (with_reducible refine (modulo_c _ _ _ (by omega) (by omega) (by omega) (by omega)).mono ?_); rintro e w' ⟨rfl, rfl⟩))
  go_wp2
  have G1 := Lib.hid h2
  have G2 := Lib.hid g2
  have G3 := Lib.hid hd2
  clear h2 g2 hd2 s2 t2
  refine bodyPost_ret (v := fdV W A2 n cap2 B2 m kap2 ((X + dx) % (8 * W)) ((Y + dy) % (8 * (n / W)))) (by simp [results, Try.results10, go_sem, *]) rfl ⟨A2, cap2, B2, kap2, rfl, ?_, ?_, ?_, ?_⟩
  · refine own_base (base := w1.heap.size) ?_ (by omega)
    with_reducible refine own_drew ?_
    with_reducible refine World.ownsRow.alloc ?_ _
    repeat (with_reducible refine ownsRow_setCell_below ?_ (by simp <;> omega) _)
    exact G1.out
  · refine own_base (base := w1.heap.size) ?_ (by omega)
    with_reducible refine own_drew ?_
    with_reducible refine World.ownsRow.alloc ?_ _
    repeat (with_reducible refine ownsRow_setCell_below ?_ (by simp <;> omega) _)
    exact G2.out
  · exact G3.out
  · (repeat (first | with_reducible exact Below.refl _ _ | ((with_reducible refine viaO (by assumption) ?_ ?_ ?_) <;> try ((try simp only [World.size_alloc, World.size_setCell, World.size_drew]) <;> omega)) | ((with_reducible refine Below.alloc ?_ ?_ _) <;> try ((try simp only [World.size_alloc, World.size_setCell, World.size_drew]) <;> omega)) | ((with_reducible refine Below.setCell ?_ ?_ _) <;> try ((try simp only [World.size_alloc, World.size_setCell, World.size_drew]) <;> omega)) | (with_reducible refine below_drewN ?_ _) | (with_reducible refine Below.drew ?_) | ((with_reducible refine via (by assumption) ?_ ?_) <;> try ((try simp only [World.size_alloc, World.size_setCell, World.size_drew]) <;> omega))))

end Go.Proofs.Ythopeedonikdhaa
