/-
  The law FnShiftField holds: shifts go back and add up; for every code. No conditions.
-/
import Derived.Test.YthopeedonikdhaaOpen
import Derived.Test.YthopeedonikdhaaFieldDraw4
import Derived.Test.YthopeedonikdhaaShiftLaw
import Derived.Test.YthopeedonikdhaaSameField
namespace Go.Proofs.Ythopeedonikdhaa.lawFnShiftField
set_option linter.all false
set_option linter.unusedSimpArgs false
set_option linter.unusedVariables false
open Go.ChangeShapes Go.WideShapes Go.ChangeAt Go.RowKit

set_option maxRecDepth 100000 in
set_option maxHeartbeats 4000000 in
theorem walk (v0 : Value) (w : World) (h0 : CodeArg w v0) : Calls Try.prog 4 #[v0] w fun e w' => e = .returned (.bool true) ∧ Below w.heap.size w w' := by
  obtain ⟨a, len, cap, rfl, hcode, hl⟩ := h0
  have hm := hcode.1; unfold maxLen at hm
  by_cases hlen : 1048576 < len
  · go_enter Try.func4, Try.ntmps4
    go_wp2
    go_ret
    exact ⟨rfl, Below.refl _ _⟩
  · go_enter Try.func4, Try.ntmps4
    go_wp2_with fail
    refine (drawShiftField_c _ _ _ _ hcode hl).mono ?_
    rintro e w1 ⟨W, A, n, c, B, m, d, X, Y, x, y, rfl, ⟨p, q, hA, hB, hn, hm', hn1, hm1⟩, hO_w1⟩
    have hz_w1 := hO_w1.size
    clear hm hcode
    obtain ⟨v, hv⟩ : ∃ v, shv W n m X Y p q x y = v := ⟨_, rfl⟩
    have HI := Lib.hid (fun A c B d w C C' h h' hC hC' => ish_c W A n c B m d X Y x y p q v hv w (C := C) (C' := C') h h' hC hC' (by omega) (by omega))
    have HS := Lib.hid (fun A c B d w C C' h h' hC hC' => ssh_c W A n c B m d X Y x y p q v hv w (C := C) (C' := C') h h' hC hC' (by omega) (by omega))
    have ln := shK_le v n
    have lm := shK_le v m
    have HV := Lib.hid hv
    clear hv
    obtain ⟨W1, hW1⟩ : ∃ z, shI v W = z := ⟨_, rfl⟩
    obtain ⟨n1, hn1'⟩ : ∃ z, shK v n = z := ⟨_, rfl⟩
    obtain ⟨m1, hm1'⟩ : ∃ z, shK v m = z := ⟨_, rfl⟩
    obtain ⟨X1, hX1⟩ : ∃ z, shI v ((X + x) % (8 * W)) = z := ⟨_, rfl⟩
    obtain ⟨Y1, hY1⟩ : ∃ z, shI v ((Y + y) % (8 * (n / W))) = z := ⟨_, rfl⟩
    rw [hW1, hn1', hm1', hX1, hY1] at HI HS
    rw [hn1'] at ln
    rw [hm1'] at lm
    have E1 := Lib.hid hW1
    have E2 := Lib.hid hn1'
    have E3 := Lib.hid hm1'
    have E4 := Lib.hid hX1
    have E5 := Lib.hid hY1
    clear hW1 hn1' hm1' hX1 hY1
    go_wp2_with fail
    refine (HI.out _ _ _ _ _ w1.heap.size w1.heap.size (by (repeat (first | with_reducible assumption | ((with_reducible refine RS.below (by assumption) ?_ ?_) <;> try ((try simp only [World.size_alloc, World.size_setCell, World.size_drew]) <;> omega)) | ((with_reducible refine RS.alloc ?_ ?_ _) <;> try ((try simp only [World.size_alloc, World.size_setCell, World.size_drew]) <;> omega)) | ((with_reducible refine RS.setRow ?_ ?_ _) <;> try ((try simp only [World.size_alloc, World.size_setCell, World.size_drew]) <;> omega)) | ((with_reducible refine RS.setCell ?_ ?_ _) <;> try ((try simp only [World.size_alloc, World.size_setCell, World.size_drew]) <;> omega)) | ((with_reducible refine RS.setCells ?_ ?_ _ _) <;> try ((try simp only [World.size_alloc, World.size_setCell, World.size_drew]) <;> omega)) | (with_reducible apply RS.drewN) | (with_reducible apply RS.drew)))) (by (repeat (first | with_reducible assumption | ((with_reducible refine RS.below (by assumption) ?_ ?_) <;> try ((try simp only [World.size_alloc, World.size_setCell, World.size_drew]) <;> omega)) | ((with_reducible refine RS.alloc ?_ ?_ _) <;> try ((try simp only [World.size_alloc, World.size_setCell, World.size_drew]) <;> omega)) | ((with_reducible refine RS.setRow ?_ ?_ _) <;> try ((try simp only [World.size_alloc, World.size_setCell, World.size_drew]) <;> omega)) | ((with_reducible refine RS.setCell ?_ ?_ _) <;> try ((try simp only [World.size_alloc, World.size_setCell, World.size_drew]) <;> omega)) | ((with_reducible refine RS.setCells ?_ ?_ _ _) <;> try ((try simp only [World.size_alloc, World.size_setCell, World.size_drew]) <;> omega)) | (with_reducible apply RS.drewN) | (with_reducible apply RS.drew)))) (by ((try simp only [World.size_alloc, World.size_setCell, World.size_drew]) <;> omega)) (by ((try simp only [World.size_alloc, World.size_setCell, World.size_drew]) <;> omega))).mono ?_
    rintro e w2 ⟨A2, cap2, B2, kap2, rfl, h2, g2, hd2, hO_w2⟩
    have hz_w2 := hO_w2.size
    (try simp only [World.size_alloc, World.size_setCell, World.size_drew] at hz_w2)
    have hs_w2_0 : w1.heap.size < w2.heap.size := (by omega)
    have c_w2_0 := fun o => (bcell hO_w2).1 (w1.heap.size) o (by (try simp only [World.size_alloc, World.size_setCell, World.size_drew]) <;> omega)
    have f_w2_0 := fun o => (bcell hO_w2).2 (w1.heap.size) o (by (try simp only [World.size_alloc, World.size_setCell, World.size_drew]) <;> omega)
    have s2 := own_rs h2
    have t2 := own_rs g2
    go_wp2
    go_region_held3 (fun w' => w'.cell? ⟨w1.heap.size, 0, none⟩ = some (.int .i64 W) ∧ w'.cell? ⟨w1.heap.size, 1, none⟩ = some (.slice A n c) ∧ w'.cell? ⟨w1.heap.size, 2, none⟩ = some (.slice B m d) ∧ w'.cell? ⟨w1.heap.size, 3, none⟩ = some (.int .i64 X) ∧ w'.cell? ⟨w1.heap.size, 4, none⟩ = some (.int .i64 Y) ∧ w'.cell? ⟨w2.heap.size, 0, none⟩ = some (.int .i64 W1) ∧ w'.cell? ⟨w2.heap.size, 1, none⟩ = some (.slice A2 n1 cap2) ∧ w'.cell? ⟨w2.heap.size, 2, none⟩ = some (.slice B2 m1 kap2) ∧ w'.cell? ⟨w2.heap.size, 3, none⟩ = some (.int .i64 X1) ∧ w'.cell? ⟨w2.heap.size, 4, none⟩ = some (.int .i64 Y1)) (go_simp) (first | (go_at_call 12; (refine (HS.out _ _ _ _ _ w1.heap.size w1.heap.size (by (repeat (first | with_reducible assumption | ((with_reducible refine RS.below (by assumption) ?_ ?_) <;> try ((try simp only [World.size_alloc, World.size_setCell, World.size_drew]) <;> omega)) | ((with_reducible refine RS.alloc ?_ ?_ _) <;> try ((try simp only [World.size_alloc, World.size_setCell, World.size_drew]) <;> omega)) | ((with_reducible refine RS.setRow ?_ ?_ _) <;> try ((try simp only [World.size_alloc, World.size_setCell, World.size_drew]) <;> omega)) | ((with_reducible refine RS.setCell ?_ ?_ _) <;> try ((try simp only [World.size_alloc, World.size_setCell, World.size_drew]) <;> omega)) | ((with_reducible refine RS.setCells ?_ ?_ _ _) <;> try ((try simp only [World.size_alloc, World.size_setCell, World.size_drew]) <;> omega)) | (with_reducible apply RS.drewN) | (with_reducible apply RS.drew)))) (by (repeat (first | with_reducible assumption | ((with_reducible refine RS.below (by assumption) ?_ ?_) <;> try ((try simp only [World.size_alloc, World.size_setCell, World.size_drew]) <;> omega)) | ((with_reducible refine RS.alloc ?_ ?_ _) <;> try ((try simp only [World.size_alloc, World.size_setCell, World.size_drew]) <;> omega)) | ((with_reducible refine RS.setRow ?_ ?_ _) <;> try ((try simp only [World.size_alloc, World.size_setCell, World.size_drew]) <;> omega)) | ((with_reducible refine RS.setCell ?_ ?_ _) <;> try ((try simp only [World.size_alloc, World.size_setCell, World.size_drew]) <;> omega)) | ((with_reducible refine RS.setCells ?_ ?_ _ _) <;> try ((try simp only [World.size_alloc, World.size_setCell, World.size_drew]) <;> omega)) | (with_reducible apply RS.drewN) | (with_reducible apply RS.drew)))) (by ((try simp only [World.size_alloc, World.size_setCell, World.size_drew]) <;> omega)) (by ((try simp only [World.size_alloc, World.size_setCell, World.size_drew]) <;> omega))).mono ?_; rintro e w3 ⟨A3, cap3, B3, kap3, rfl, h3, g3, hd3, hO_w3⟩; have hz_w3 := hO_w3.size; (try simp only [World.size_alloc, World.size_setCell, World.size_drew] at hz_w3); have hs_w3_0 : w1.heap.size < w3.heap.size := (by omega); have c_w3_0 := fun o => (bcell hO_w3).1 (w1.heap.size) o (by (try simp only [World.size_alloc, World.size_setCell, World.size_drew]) <;> omega); have f_w3_0 := fun o => (bcell hO_w3).2 (w1.heap.size) o (by (try simp only [World.size_alloc, World.size_setCell, World.size_drew]) <;> omega); have hs_w3_1 : w2.heap.size < w3.heap.size := (by omega); have c_w3_1 := fun o => (bcell hO_w3).1 (w2.heap.size) o (by (try simp only [World.size_alloc, World.size_setCell, World.size_drew]) <;> omega); have f_w3_1 := fun o => (bcell hO_w3).2 (w2.heap.size) o (by (try simp only [World.size_alloc, World.size_setCell, World.size_drew]) <;> omega); have s3 := own_rs h3; have t3 := own_rs g3)) | (go_at_call 11; (refine (sameField_c _ _ _ _ _ _ _ _ _ _ _ _ _ p q _ (C1 := w2.heap.size) (C2 := w2.heap.size) (C3 := w3.heap.size) (C4 := w3.heap.size) (by (repeat (first | with_reducible assumption | ((with_reducible refine RS.below (by assumption) ?_ ?_) <;> try ((try simp only [World.size_alloc, World.size_setCell, World.size_drew]) <;> omega)) | ((with_reducible refine RS.alloc ?_ ?_ _) <;> try ((try simp only [World.size_alloc, World.size_setCell, World.size_drew]) <;> omega)) | ((with_reducible refine RS.setRow ?_ ?_ _) <;> try ((try simp only [World.size_alloc, World.size_setCell, World.size_drew]) <;> omega)) | ((with_reducible refine RS.setCell ?_ ?_ _) <;> try ((try simp only [World.size_alloc, World.size_setCell, World.size_drew]) <;> omega)) | ((with_reducible refine RS.setCells ?_ ?_ _ _) <;> try ((try simp only [World.size_alloc, World.size_setCell, World.size_drew]) <;> omega)) | (with_reducible apply RS.drewN) | (with_reducible apply RS.drew)))) (by (repeat (first | with_reducible assumption | ((with_reducible refine RS.below (by assumption) ?_ ?_) <;> try ((try simp only [World.size_alloc, World.size_setCell, World.size_drew]) <;> omega)) | ((with_reducible refine RS.alloc ?_ ?_ _) <;> try ((try simp only [World.size_alloc, World.size_setCell, World.size_drew]) <;> omega)) | ((with_reducible refine RS.setRow ?_ ?_ _) <;> try ((try simp only [World.size_alloc, World.size_setCell, World.size_drew]) <;> omega)) | ((with_reducible refine RS.setCell ?_ ?_ _) <;> try ((try simp only [World.size_alloc, World.size_setCell, World.size_drew]) <;> omega)) | ((with_reducible refine RS.setCells ?_ ?_ _ _) <;> try ((try simp only [World.size_alloc, World.size_setCell, World.size_drew]) <;> omega)) | (with_reducible apply RS.drewN) | (with_reducible apply RS.drew)))) (by (repeat (first | with_reducible assumption | ((with_reducible refine RS.below (by assumption) ?_ ?_) <;> try ((try simp only [World.size_alloc, World.size_setCell, World.size_drew]) <;> omega)) | ((with_reducible refine RS.alloc ?_ ?_ _) <;> try ((try simp only [World.size_alloc, World.size_setCell, World.size_drew]) <;> omega)) | ((with_reducible refine RS.setRow ?_ ?_ _) <;> try ((try simp only [World.size_alloc, World.size_setCell, World.size_drew]) <;> omega)) | ((with_reducible refine RS.setCell ?_ ?_ _) <;> try ((try simp only [World.size_alloc, World.size_setCell, World.size_drew]) <;> omega)) | ((with_reducible refine RS.setCells ?_ ?_ _ _) <;> try ((try simp only [World.size_alloc, World.size_setCell, World.size_drew]) <;> omega)) | (with_reducible apply RS.drewN) | (with_reducible apply RS.drew)))) (by (repeat (first | with_reducible assumption | ((with_reducible refine RS.below (by assumption) ?_ ?_) <;> try ((try simp only [World.size_alloc, World.size_setCell, World.size_drew]) <;> omega)) | ((with_reducible refine RS.alloc ?_ ?_ _) <;> try ((try simp only [World.size_alloc, World.size_setCell, World.size_drew]) <;> omega)) | ((with_reducible refine RS.setRow ?_ ?_ _) <;> try ((try simp only [World.size_alloc, World.size_setCell, World.size_drew]) <;> omega)) | ((with_reducible refine RS.setCell ?_ ?_ _) <;> try ((try simp only [World.size_alloc, World.size_setCell, World.size_drew]) <;> omega)) | ((with_reducible refine RS.setCells ?_ ?_ _ _) <;> try ((try simp only [World.size_alloc, World.size_setCell, World.size_drew]) <;> omega)) | (with_reducible apply RS.drewN) | (with_reducible apply RS.drew)))) (by ((try simp only [World.size_alloc, World.size_setCell, World.size_drew]) <;> omega)) (by ((try simp only [World.size_alloc, World.size_setCell, World.size_drew]) <;> omega)) (by ((try simp only [World.size_alloc, World.size_setCell, World.size_drew]) <;> omega)) (by ((try simp only [World.size_alloc, World.size_setCell, World.size_drew]) <;> omega)) (by omega) (by omega)).mono ?_; rintro e w4 ⟨rfl, hO_w4⟩; have hz_w4 := hO_w4.size; (try simp only [World.size_alloc, World.size_setCell, World.size_drew] at hz_w4); have hs_w4_0 : w1.heap.size < w4.heap.size := (by omega); have c_w4_0 := fun o => (bcell hO_w4).1 (w1.heap.size) o (by (try simp only [World.size_alloc, World.size_setCell, World.size_drew]) <;> omega); have f_w4_0 := fun o => (bcell hO_w4).2 (w1.heap.size) o (by (try simp only [World.size_alloc, World.size_setCell, World.size_drew]) <;> omega); have hs_w4_1 : w2.heap.size < w4.heap.size := (by omega); have c_w4_1 := fun o => (bcell hO_w4).1 (w2.heap.size) o (by (try simp only [World.size_alloc, World.size_setCell, World.size_drew]) <;> omega); have f_w4_1 := fun o => (bcell hO_w4).2 (w2.heap.size) o (by (try simp only [World.size_alloc, World.size_setCell, World.size_drew]) <;> omega))))
    have b0 : Hid (Below w.heap.size w w4) := by
      refine Lib.hid ?_
      (repeat (first | with_reducible exact Below.refl _ _ | ((with_reducible refine viaO (by assumption) ?_ ?_ ?_) <;> try ((try simp only [World.size_alloc, World.size_setCell, World.size_drew]) <;> omega)) | ((with_reducible refine Below.alloc ?_ ?_ _) <;> try ((try simp only [World.size_alloc, World.size_setCell, World.size_drew]) <;> omega)) | ((with_reducible refine Below.setCell ?_ ?_ _) <;> try ((try simp only [World.size_alloc, World.size_setCell, World.size_drew]) <;> omega)) | (with_reducible refine below_drewN ?_ _) | (with_reducible refine Below.drew ?_) | ((with_reducible refine via (by assumption) ?_ ?_) <;> try ((try simp only [World.size_alloc, World.size_setCell, World.size_drew]) <;> omega))))
    have b1 : Hid (Below w1.heap.size w1 w4) := by
      refine Lib.hid ?_
      (repeat (first | with_reducible exact Below.refl _ _ | ((with_reducible refine viaO (by assumption) ?_ ?_ ?_) <;> try ((try simp only [World.size_alloc, World.size_setCell, World.size_drew]) <;> omega)) | ((with_reducible refine Below.alloc ?_ ?_ _) <;> try ((try simp only [World.size_alloc, World.size_setCell, World.size_drew]) <;> omega)) | ((with_reducible refine Below.setCell ?_ ?_ _) <;> try ((try simp only [World.size_alloc, World.size_setCell, World.size_drew]) <;> omega)) | (with_reducible refine below_drewN ?_ _) | (with_reducible refine Below.drew ?_) | ((with_reducible refine via (by assumption) ?_ ?_) <;> try ((try simp only [World.size_alloc, World.size_setCell, World.size_drew]) <;> omega))))
    have b2 : Hid (Below w2.heap.size w2 w4) := by
      refine Lib.hid ?_
      (repeat (first | with_reducible exact Below.refl _ _ | ((with_reducible refine viaO (by assumption) ?_ ?_ ?_) <;> try ((try simp only [World.size_alloc, World.size_setCell, World.size_drew]) <;> omega)) | ((with_reducible refine Below.alloc ?_ ?_ _) <;> try ((try simp only [World.size_alloc, World.size_setCell, World.size_drew]) <;> omega)) | ((with_reducible refine Below.setCell ?_ ?_ _) <;> try ((try simp only [World.size_alloc, World.size_setCell, World.size_drew]) <;> omega)) | (with_reducible refine below_drewN ?_ _) | (with_reducible refine Below.drew ?_) | ((with_reducible refine via (by assumption) ?_ ?_) <;> try ((try simp only [World.size_alloc, World.size_setCell, World.size_drew]) <;> omega))))
    have c1 : Hid (Below (w1.heap.size + 1) (w1.alloc (.cells #[.int .i64 W, .slice A n c, .slice B m d, .int .i64 X, .int .i64 Y] 26)) w4) := by
      refine Lib.hid ?_
      (repeat (first | with_reducible exact Below.refl _ _ | ((with_reducible refine viaO (by assumption) ?_ ?_ ?_) <;> try ((try simp only [World.size_alloc, World.size_setCell, World.size_drew]) <;> omega)) | ((with_reducible refine Below.alloc ?_ ?_ _) <;> try ((try simp only [World.size_alloc, World.size_setCell, World.size_drew]) <;> omega)) | ((with_reducible refine Below.setCell ?_ ?_ _) <;> try ((try simp only [World.size_alloc, World.size_setCell, World.size_drew]) <;> omega)) | (with_reducible refine below_drewN ?_ _) | (with_reducible refine Below.drew ?_) | ((with_reducible refine via (by assumption) ?_ ?_) <;> try ((try simp only [World.size_alloc, World.size_setCell, World.size_drew]) <;> omega))))
    have c2 : Hid (Below (w2.heap.size + 1) (w2.alloc (.cells #[.int .i64 W1, .slice A2 n1 cap2, .slice B2 m1 kap2, .int .i64 X1, .int .i64 Y1] 26)) w4) := by
      refine Lib.hid ?_
      (repeat (first | with_reducible exact Below.refl _ _ | ((with_reducible refine viaO (by assumption) ?_ ?_ ?_) <;> try ((try simp only [World.size_alloc, World.size_setCell, World.size_drew]) <;> omega)) | ((with_reducible refine Below.alloc ?_ ?_ _) <;> try ((try simp only [World.size_alloc, World.size_setCell, World.size_drew]) <;> omega)) | ((with_reducible refine Below.setCell ?_ ?_ _) <;> try ((try simp only [World.size_alloc, World.size_setCell, World.size_drew]) <;> omega)) | (with_reducible refine below_drewN ?_ _) | (with_reducible refine Below.drew ?_) | ((with_reducible refine via (by assumption) ?_ ?_) <;> try ((try simp only [World.size_alloc, World.size_setCell, World.size_drew]) <;> omega))))
    have F1 := FB.below c1.out (FB.new w1 _ _ _ _ _ _ _ _ _ _) (by omega)
    have F2 := FB.below c2.out (FB.new w2 _ _ _ _ _ _ _ _ _ _) (by omega)
    have TA := Lib.hid (RS.below b1.out hA (Nat.le_refl _))
    have TB := Lib.hid (RS.below b1.out hB (Nat.le_refl _))
    have S2 := Lib.hid (RS.below b2.out s2 (Nat.le_refl _))
    have T2 := Lib.hid (RS.below b2.out t2 (Nat.le_refl _))
    have hz4 := c2.out.size
    simp only [World.size_alloc] at hz4
    have z1 : w1.heap.size < w2.heap.size := by omega
    clear b1 b2 c1 c2 hA hB h2 g2 hd2 s2 t2 h3 g3 hd3 s3 t3 hO_w1 hO_w2 hO_w3 hO_w4 c_w2_0 f_w2_0 c_w3_0 f_w3_0 c_w3_1 f_w3_1 c_w4_0 f_w4_0 c_w4_1 f_w4_1
    (try clear hHeld)
    have HF1 := Lib.hid F1
    have HF2 := Lib.hid F2
    obtain ⟨c0, c1, c2, c3, c4⟩ := F1.cells
    obtain ⟨d0, d1, d2, d3, d4⟩ := F2.cells
    clear F1 F2
    cases v
    · have e : 0 = n1 := E2.out
      subst e
      go_wp2_with (go_at_call 8; refine (alive_c _).mono ?_; rintro e w' ⟨rfl, rfl⟩)
      go_ret
      exact ⟨rfl, b0.out⟩
    · have e1 : W = W1 := E1.out
      have e2 : n = n1 := E2.out
      have e3 : m = m1 := E3.out
      subst e1 e2 e3
      have hvv := HV.out
      unfold shv at hvv
      simp only [Bool.and_eq_true] at hvv
      obtain ⟨⟨hf, hx⟩, hy⟩ := hvv
      obtain ⟨hsh, -, -, -⟩ := fvd_parts hf
      obtain ⟨x0, x1⟩ := inB_true.1 hx
      obtain ⟨y0, y1⟩ := inB_true.1 hy
      obtain ⟨W', X', Y', rfl, rfl, rfl, hX, hY, hok⟩ := fok_of hf
      have w1' := hok.w1
      have w8' := hok.w8
      have q0 : 1 ≤ (n : Int) / (W' : Int) ∧ (n : Int) / (W' : Int) ≤ 8 := by
        have := hok.h1
        have := hok.h8
        rw [← Int.natCast_ediv]; omega
      have em : ∀ a : Int, inB (a % (8 * (W' : Int))) 0 255 = true := fun a => by
        have := Int.emod_nonneg a (show 8 * (W' : Int) ≠ 0 by omega)
        have := Int.emod_lt_of_pos a (show 0 < 8 * (W' : Int) by omega)
        exact inB_true.2 (by omega)
      have en : ∀ a : Int, inB (a % (8 * ((n : Int) / (W' : Int)))) 0 255 = true := fun a => by
        have := Int.emod_nonneg a (show 8 * ((n : Int) / (W' : Int)) ≠ 0 by omega)
        have := Int.emod_lt_of_pos a (show 0 < 8 * ((n : Int) / (W' : Int)) by omega)
        exact inB_true.2 (by omega)
      have eX1 : ((X' : Int) + x) % (8 * W') = X1 := E4.out
      have eY1 : ((Y' : Int) + y) % (8 * (n / W')) = Y1 := E5.out
      have hg1 : fvd W' n m X1 Y1 p q = true := by rw [← eX1, ← eY1]; exact hsh _ _ (em _) (en _)
      obtain ⟨hh1, hh2, hh5, hh6⟩ := half_bounds ⟨x0, x1⟩
      obtain ⟨hh3, hh4, hh7, hh8⟩ := half_bounds ⟨y0, y1⟩
      obtain ⟨xh, hxh⟩ : ∃ z, x.tdiv 2 = z := ⟨_, rfl⟩
      obtain ⟨yh, hyh⟩ : ∃ z, y.tdiv 2 = z := ⟨_, rfl⟩
      rw [hxh] at hh1 hh2 hh5 hh6
      rw [hyh] at hh3 hh4 hh7 hh8
      obtain ⟨X2, eX2⟩ : ∃ z, (X1 + -x) % (8 * (W' : Int)) = z := ⟨_, rfl⟩
      obtain ⟨Y2, eY2⟩ : ∃ z, (Y1 + -y) % (8 * ((n : Int) / (W' : Int))) = z := ⟨_, rfl⟩
      obtain ⟨X3, eX3⟩ : ∃ z, ((X' : Int) + xh) % (8 * (W' : Int)) = z := ⟨_, rfl⟩
      obtain ⟨Y3, eY3⟩ : ∃ z, ((Y' : Int) + yh) % (8 * ((n : Int) / (W' : Int))) = z := ⟨_, rfl⟩
      have hg2 : fvd W' n m X2 Y2 p q = true := by rw [← eX2, ← eY2]; exact hsh _ _ (em _) (en _)
      have hg3 : fvd W' n m X3 Y3 p q = true := by rw [← eX3, ← eY3]; exact hsh _ _ (em _) (en _)
      have HL := Lib.hid (fun k => (by rw [← eX2, ← eY2, ← eX1, ← eY1]; exact lnV_back W' n X' Y' x y p q k : lnV W' n X2 Y2 p q k = lnV W' n X' Y' p q k))
      have HH := Lib.hid (fun A c B d w C C' h h' hC hC' => ishT_c W' A n c B m d X1 Y1 (-x) (-y) X2 Y2 p q (shv_yes hg1 (inB_true.2 (by omega)) (inB_true.2 (by omega))) eX2 eY2 w (C := C) (C' := C') h h' hC hC' (by omega) (by omega))
      have HT := Lib.hid (fun A c B d w C C' h h' hC hC' => ishT_c W' A n c B m d X' Y' xh yh X3 Y3 p q (shv_yes hf (inB_true.2 (by omega)) (inB_true.2 (by omega))) eX3 eY3 w (C := C) (C' := C') h h' hC hC' (by omega) (by omega))
      have HU := Lib.hid (fun A c B d w C C' h h' hC hC' => ishT_c W' A n c B m d X3 Y3 (x - xh) (y - yh) X1 Y1 p q (shv_yes hg3 (inB_true.2 (by omega)) (inB_true.2 (by omega))) (by rw [← eX3, shift_two, ← eX1]; congr 1; omega) (by rw [← eY3, shift_two, ← eY1]; congr 1; omega) w (C := C) (C' := C') h h' hC hC' (by omega) (by omega))
      have HG1 := Lib.hid hg1
      have HG2 := Lib.hid hg2
      have HG0 := Lib.hid hf
      have n0 : 0 < n := by
        have : 1 * 1 ≤ W' * (n / W') := Nat.mul_le_mul hok.w1 hok.h1
        have := hok.mul
        omega
      have nb : ((n : Int) == 0) = false := beq_eq_false_iff_ne.2 (by omega)
      clear eX1 eY1 eX2 eY2 eX3 eY3 hg1 hg2 hg3 hf hx hy hsh em en hok E1 E2 E3 E4 E5 HI HS HV q0
      go_wp2_with fail
      refine (HH.out _ _ _ _ _ w2.heap.size w2.heap.size S2.out T2.out (by ((try simp only [World.size_alloc, World.size_setCell, World.size_drew]) <;> omega)) (by ((try simp only [World.size_alloc, World.size_setCell, World.size_drew]) <;> omega))).mono ?_
      rintro e w5 ⟨A5, cap5, B5, kap5, rfl, h5, g5, hd5, hO_w5⟩
      have hz_w5 := hO_w5.size
      (try simp only [World.size_alloc, World.size_setCell, World.size_drew] at hz_w5)
      have hs_w5_0 : w1.heap.size < w5.heap.size := (by omega)
      have c_w5_0 := fun o => (bcell hO_w5).1 (w1.heap.size) o (by (try simp only [World.size_alloc, World.size_setCell, World.size_drew]) <;> omega)
      have f_w5_0 := fun o => (bcell hO_w5).2 (w1.heap.size) o (by (try simp only [World.size_alloc, World.size_setCell, World.size_drew]) <;> omega)
      have hs_w5_1 : w2.heap.size < w5.heap.size := (by omega)
      have c_w5_1 := fun o => (bcell hO_w5).1 (w2.heap.size) o (by (try simp only [World.size_alloc, World.size_setCell, World.size_drew]) <;> omega)
      have f_w5_1 := fun o => (bcell hO_w5).2 (w2.heap.size) o (by (try simp only [World.size_alloc, World.size_setCell, World.size_drew]) <;> omega)
      have s5 := own_rs h5
      have t5 := own_rs g5
      go_wp2_with fail
      refine (HT.out _ _ _ _ _ w1.heap.size w1.heap.size (RS.alloc (RS.below hO_w5 TA.out (by omega)) (by ((try simp only [World.size_alloc, World.size_setCell, World.size_drew]) <;> omega)) _) (RS.alloc (RS.below hO_w5 TB.out (by omega)) (by ((try simp only [World.size_alloc, World.size_setCell, World.size_drew]) <;> omega)) _) (by ((try simp only [World.size_alloc, World.size_setCell, World.size_drew]) <;> omega)) (by ((try simp only [World.size_alloc, World.size_setCell, World.size_drew]) <;> omega))).mono ?_
      rintro e w6 ⟨A6, cap6, B6, kap6, rfl, h6, g6, hd6, hO_w6⟩
      have hz_w6 := hO_w6.size
      (try simp only [World.size_alloc, World.size_setCell, World.size_drew] at hz_w6)
      have hs_w6_0 : w1.heap.size < w6.heap.size := (by omega)
      have c_w6_0 := fun o => (bcell hO_w6).1 (w1.heap.size) o (by (try simp only [World.size_alloc, World.size_setCell, World.size_drew]) <;> omega)
      have f_w6_0 := fun o => (bcell hO_w6).2 (w1.heap.size) o (by (try simp only [World.size_alloc, World.size_setCell, World.size_drew]) <;> omega)
      have hs_w6_1 : w2.heap.size < w6.heap.size := (by omega)
      have c_w6_1 := fun o => (bcell hO_w6).1 (w2.heap.size) o (by (try simp only [World.size_alloc, World.size_setCell, World.size_drew]) <;> omega)
      have f_w6_1 := fun o => (bcell hO_w6).2 (w2.heap.size) o (by (try simp only [World.size_alloc, World.size_setCell, World.size_drew]) <;> omega)
      have hs_w6_2 : w5.heap.size < w6.heap.size := (by omega)
      have c_w6_2 := fun o => (bcell hO_w6).1 (w5.heap.size) o (by (try simp only [World.size_alloc, World.size_setCell, World.size_drew]) <;> omega)
      have f_w6_2 := fun o => (bcell hO_w6).2 (w5.heap.size) o (by (try simp only [World.size_alloc, World.size_setCell, World.size_drew]) <;> omega)
      have s6 := own_rs h6
      have t6 := own_rs g6
      go_wp2_with fail
      refine (HU.out _ _ _ _ _ w6.heap.size w6.heap.size (by (repeat (first | with_reducible assumption | ((with_reducible refine RS.below (by assumption) ?_ ?_) <;> try ((try simp only [World.size_alloc, World.size_setCell, World.size_drew]) <;> omega)) | ((with_reducible refine RS.alloc ?_ ?_ _) <;> try ((try simp only [World.size_alloc, World.size_setCell, World.size_drew]) <;> omega)) | ((with_reducible refine RS.setRow ?_ ?_ _) <;> try ((try simp only [World.size_alloc, World.size_setCell, World.size_drew]) <;> omega)) | ((with_reducible refine RS.setCell ?_ ?_ _) <;> try ((try simp only [World.size_alloc, World.size_setCell, World.size_drew]) <;> omega)) | ((with_reducible refine RS.setCells ?_ ?_ _ _) <;> try ((try simp only [World.size_alloc, World.size_setCell, World.size_drew]) <;> omega)) | (with_reducible apply RS.drewN) | (with_reducible apply RS.drew)))) (by (repeat (first | with_reducible assumption | ((with_reducible refine RS.below (by assumption) ?_ ?_) <;> try ((try simp only [World.size_alloc, World.size_setCell, World.size_drew]) <;> omega)) | ((with_reducible refine RS.alloc ?_ ?_ _) <;> try ((try simp only [World.size_alloc, World.size_setCell, World.size_drew]) <;> omega)) | ((with_reducible refine RS.setRow ?_ ?_ _) <;> try ((try simp only [World.size_alloc, World.size_setCell, World.size_drew]) <;> omega)) | ((with_reducible refine RS.setCell ?_ ?_ _) <;> try ((try simp only [World.size_alloc, World.size_setCell, World.size_drew]) <;> omega)) | ((with_reducible refine RS.setCells ?_ ?_ _ _) <;> try ((try simp only [World.size_alloc, World.size_setCell, World.size_drew]) <;> omega)) | (with_reducible apply RS.drewN) | (with_reducible apply RS.drew)))) (by ((try simp only [World.size_alloc, World.size_setCell, World.size_drew]) <;> omega)) (by ((try simp only [World.size_alloc, World.size_setCell, World.size_drew]) <;> omega))).mono ?_
      rintro e w7 ⟨A7, cap7, B7, kap7, rfl, h7, g7, hd7, hO_w7⟩
      have hz_w7 := hO_w7.size
      (try simp only [World.size_alloc, World.size_setCell, World.size_drew] at hz_w7)
      have hs_w7_0 : w1.heap.size < w7.heap.size := (by omega)
      have c_w7_0 := fun o => (bcell hO_w7).1 (w1.heap.size) o (by (try simp only [World.size_alloc, World.size_setCell, World.size_drew]) <;> omega)
      have f_w7_0 := fun o => (bcell hO_w7).2 (w1.heap.size) o (by (try simp only [World.size_alloc, World.size_setCell, World.size_drew]) <;> omega)
      have hs_w7_1 : w2.heap.size < w7.heap.size := (by omega)
      have c_w7_1 := fun o => (bcell hO_w7).1 (w2.heap.size) o (by (try simp only [World.size_alloc, World.size_setCell, World.size_drew]) <;> omega)
      have f_w7_1 := fun o => (bcell hO_w7).2 (w2.heap.size) o (by (try simp only [World.size_alloc, World.size_setCell, World.size_drew]) <;> omega)
      have hs_w7_2 : w5.heap.size < w7.heap.size := (by omega)
      have c_w7_2 := fun o => (bcell hO_w7).1 (w5.heap.size) o (by (try simp only [World.size_alloc, World.size_setCell, World.size_drew]) <;> omega)
      have f_w7_2 := fun o => (bcell hO_w7).2 (w5.heap.size) o (by (try simp only [World.size_alloc, World.size_setCell, World.size_drew]) <;> omega)
      have s7 := own_rs h7
      have t7 := own_rs g7
      have tA := TA.out
      have tB := TB.out
      have sA := S2.out
      have sB := T2.out
      have K1 : Hid (RS (w7.alloc (.cells #[.int .i64 W', .slice A7 n cap7, .slice B7 m kap7, .int .i64 X1, .int .i64 Y1] 26)) w1.heap.size 1 A n (iv p)) := Lib.hid (by (repeat (first | with_reducible assumption | ((with_reducible refine RS.below (by assumption) ?_ ?_) <;> try ((try simp only [World.size_alloc, World.size_setCell, World.size_drew]) <;> omega)) | ((with_reducible refine RS.alloc ?_ ?_ _) <;> try ((try simp only [World.size_alloc, World.size_setCell, World.size_drew]) <;> omega)) | ((with_reducible refine RS.setRow ?_ ?_ _) <;> try ((try simp only [World.size_alloc, World.size_setCell, World.size_drew]) <;> omega)) | ((with_reducible refine RS.setCell ?_ ?_ _) <;> try ((try simp only [World.size_alloc, World.size_setCell, World.size_drew]) <;> omega)) | ((with_reducible refine RS.setCells ?_ ?_ _ _) <;> try ((try simp only [World.size_alloc, World.size_setCell, World.size_drew]) <;> omega)) | (with_reducible apply RS.drewN) | (with_reducible apply RS.drew))))
      have K2 : Hid (RS (w7.alloc (.cells #[.int .i64 W', .slice A7 n cap7, .slice B7 m kap7, .int .i64 X1, .int .i64 Y1] 26)) w1.heap.size 64 B m (tc q)) := Lib.hid (by (repeat (first | with_reducible assumption | ((with_reducible refine RS.below (by assumption) ?_ ?_) <;> try ((try simp only [World.size_alloc, World.size_setCell, World.size_drew]) <;> omega)) | ((with_reducible refine RS.alloc ?_ ?_ _) <;> try ((try simp only [World.size_alloc, World.size_setCell, World.size_drew]) <;> omega)) | ((with_reducible refine RS.setRow ?_ ?_ _) <;> try ((try simp only [World.size_alloc, World.size_setCell, World.size_drew]) <;> omega)) | ((with_reducible refine RS.setCell ?_ ?_ _) <;> try ((try simp only [World.size_alloc, World.size_setCell, World.size_drew]) <;> omega)) | ((with_reducible refine RS.setCells ?_ ?_ _ _) <;> try ((try simp only [World.size_alloc, World.size_setCell, World.size_drew]) <;> omega)) | (with_reducible apply RS.drewN) | (with_reducible apply RS.drew))))
      have K3 : Hid (RS (w7.alloc (.cells #[.int .i64 W', .slice A7 n cap7, .slice B7 m kap7, .int .i64 X1, .int .i64 Y1] 26)) w2.heap.size 1 A2 n (iv p)) := Lib.hid (by (repeat (first | with_reducible assumption | ((with_reducible refine RS.below (by assumption) ?_ ?_) <;> try ((try simp only [World.size_alloc, World.size_setCell, World.size_drew]) <;> omega)) | ((with_reducible refine RS.alloc ?_ ?_ _) <;> try ((try simp only [World.size_alloc, World.size_setCell, World.size_drew]) <;> omega)) | ((with_reducible refine RS.setRow ?_ ?_ _) <;> try ((try simp only [World.size_alloc, World.size_setCell, World.size_drew]) <;> omega)) | ((with_reducible refine RS.setCell ?_ ?_ _) <;> try ((try simp only [World.size_alloc, World.size_setCell, World.size_drew]) <;> omega)) | ((with_reducible refine RS.setCells ?_ ?_ _ _) <;> try ((try simp only [World.size_alloc, World.size_setCell, World.size_drew]) <;> omega)) | (with_reducible apply RS.drewN) | (with_reducible apply RS.drew))))
      have K4 : Hid (RS (w7.alloc (.cells #[.int .i64 W', .slice A7 n cap7, .slice B7 m kap7, .int .i64 X1, .int .i64 Y1] 26)) w2.heap.size 64 B2 m (tc q)) := Lib.hid (by (repeat (first | with_reducible assumption | ((with_reducible refine RS.below (by assumption) ?_ ?_) <;> try ((try simp only [World.size_alloc, World.size_setCell, World.size_drew]) <;> omega)) | ((with_reducible refine RS.alloc ?_ ?_ _) <;> try ((try simp only [World.size_alloc, World.size_setCell, World.size_drew]) <;> omega)) | ((with_reducible refine RS.setRow ?_ ?_ _) <;> try ((try simp only [World.size_alloc, World.size_setCell, World.size_drew]) <;> omega)) | ((with_reducible refine RS.setCell ?_ ?_ _) <;> try ((try simp only [World.size_alloc, World.size_setCell, World.size_drew]) <;> omega)) | ((with_reducible refine RS.setCells ?_ ?_ _ _) <;> try ((try simp only [World.size_alloc, World.size_setCell, World.size_drew]) <;> omega)) | (with_reducible apply RS.drewN) | (with_reducible apply RS.drew))))
      have K5 : Hid (RS (w7.alloc (.cells #[.int .i64 W', .slice A7 n cap7, .slice B7 m kap7, .int .i64 X1, .int .i64 Y1] 26)) w5.heap.size 1 A5 n (iv p)) := Lib.hid (by (repeat (first | with_reducible assumption | ((with_reducible refine RS.below (by assumption) ?_ ?_) <;> try ((try simp only [World.size_alloc, World.size_setCell, World.size_drew]) <;> omega)) | ((with_reducible refine RS.alloc ?_ ?_ _) <;> try ((try simp only [World.size_alloc, World.size_setCell, World.size_drew]) <;> omega)) | ((with_reducible refine RS.setRow ?_ ?_ _) <;> try ((try simp only [World.size_alloc, World.size_setCell, World.size_drew]) <;> omega)) | ((with_reducible refine RS.setCell ?_ ?_ _) <;> try ((try simp only [World.size_alloc, World.size_setCell, World.size_drew]) <;> omega)) | ((with_reducible refine RS.setCells ?_ ?_ _ _) <;> try ((try simp only [World.size_alloc, World.size_setCell, World.size_drew]) <;> omega)) | (with_reducible apply RS.drewN) | (with_reducible apply RS.drew))))
      have K6 : Hid (RS (w7.alloc (.cells #[.int .i64 W', .slice A7 n cap7, .slice B7 m kap7, .int .i64 X1, .int .i64 Y1] 26)) w5.heap.size 64 B5 m (tc q)) := Lib.hid (by (repeat (first | with_reducible assumption | ((with_reducible refine RS.below (by assumption) ?_ ?_) <;> try ((try simp only [World.size_alloc, World.size_setCell, World.size_drew]) <;> omega)) | ((with_reducible refine RS.alloc ?_ ?_ _) <;> try ((try simp only [World.size_alloc, World.size_setCell, World.size_drew]) <;> omega)) | ((with_reducible refine RS.setRow ?_ ?_ _) <;> try ((try simp only [World.size_alloc, World.size_setCell, World.size_drew]) <;> omega)) | ((with_reducible refine RS.setCell ?_ ?_ _) <;> try ((try simp only [World.size_alloc, World.size_setCell, World.size_drew]) <;> omega)) | ((with_reducible refine RS.setCells ?_ ?_ _ _) <;> try ((try simp only [World.size_alloc, World.size_setCell, World.size_drew]) <;> omega)) | (with_reducible apply RS.drewN) | (with_reducible apply RS.drew))))
      have K7 : Hid (RS (w7.alloc (.cells #[.int .i64 W', .slice A7 n cap7, .slice B7 m kap7, .int .i64 X1, .int .i64 Y1] 26)) w7.heap.size 1 A7 n (iv p)) := Lib.hid (by (repeat (first | with_reducible assumption | ((with_reducible refine RS.below (by assumption) ?_ ?_) <;> try ((try simp only [World.size_alloc, World.size_setCell, World.size_drew]) <;> omega)) | ((with_reducible refine RS.alloc ?_ ?_ _) <;> try ((try simp only [World.size_alloc, World.size_setCell, World.size_drew]) <;> omega)) | ((with_reducible refine RS.setRow ?_ ?_ _) <;> try ((try simp only [World.size_alloc, World.size_setCell, World.size_drew]) <;> omega)) | ((with_reducible refine RS.setCell ?_ ?_ _) <;> try ((try simp only [World.size_alloc, World.size_setCell, World.size_drew]) <;> omega)) | ((with_reducible refine RS.setCells ?_ ?_ _ _) <;> try ((try simp only [World.size_alloc, World.size_setCell, World.size_drew]) <;> omega)) | (with_reducible apply RS.drewN) | (with_reducible apply RS.drew))))
      have K8 : Hid (RS (w7.alloc (.cells #[.int .i64 W', .slice A7 n cap7, .slice B7 m kap7, .int .i64 X1, .int .i64 Y1] 26)) w7.heap.size 64 B7 m (tc q)) := Lib.hid (by (repeat (first | with_reducible assumption | ((with_reducible refine RS.below (by assumption) ?_ ?_) <;> try ((try simp only [World.size_alloc, World.size_setCell, World.size_drew]) <;> omega)) | ((with_reducible refine RS.alloc ?_ ?_ _) <;> try ((try simp only [World.size_alloc, World.size_setCell, World.size_drew]) <;> omega)) | ((with_reducible refine RS.setRow ?_ ?_ _) <;> try ((try simp only [World.size_alloc, World.size_setCell, World.size_drew]) <;> omega)) | ((with_reducible refine RS.setCell ?_ ?_ _) <;> try ((try simp only [World.size_alloc, World.size_setCell, World.size_drew]) <;> omega)) | ((with_reducible refine RS.setCells ?_ ?_ _ _) <;> try ((try simp only [World.size_alloc, World.size_setCell, World.size_drew]) <;> omega)) | (with_reducible apply RS.drewN) | (with_reducible apply RS.drew))))
      have G1 := Lib.hid (FB.alloc (FB.below hO_w7 (FB.below hO_w6 (FB.alloc (FB.below hO_w5 HF1.out (by omega)) (.cells #[.int .i64 W', .slice A5 n cap5, .slice B5 m kap5, .int .i64 X2, .int .i64 Y2] 26)) (by ((try simp only [World.size_alloc, World.size_setCell, World.size_drew]) <;> omega))) (by ((try simp only [World.size_alloc, World.size_setCell, World.size_drew]) <;> omega))) (.cells #[.int .i64 W', .slice A7 n cap7, .slice B7 m kap7, .int .i64 X1, .int .i64 Y1] 26))
      have G2 := Lib.hid (FB.alloc (FB.below hO_w7 (FB.below hO_w6 (FB.alloc (FB.below hO_w5 HF2.out (by omega)) (.cells #[.int .i64 W', .slice A5 n cap5, .slice B5 m kap5, .int .i64 X2, .int .i64 Y2] 26)) (by ((try simp only [World.size_alloc, World.size_setCell, World.size_drew]) <;> omega))) (by ((try simp only [World.size_alloc, World.size_setCell, World.size_drew]) <;> omega))) (.cells #[.int .i64 W', .slice A7 n cap7, .slice B7 m kap7, .int .i64 X1, .int .i64 Y1] 26))
      have G5 := Lib.hid (FB.alloc (FB.below hO_w7 (FB.below hO_w6 (FB.new w5 26 W' A5 n cap5 B5 m kap5 X2 Y2) (by ((try simp only [World.size_alloc, World.size_setCell, World.size_drew]) <;> omega))) (by ((try simp only [World.size_alloc, World.size_setCell, World.size_drew]) <;> omega))) (.cells #[.int .i64 W', .slice A7 n cap7, .slice B7 m kap7, .int .i64 X1, .int .i64 Y1] 26))
      have G7 := Lib.hid (FB.new w7 26 W' A7 n cap7 B7 m kap7 X1 Y1)
      have b8 : Hid (Below w4.heap.size w4 (w7.alloc (.cells #[.int .i64 W', .slice A7 n cap7, .slice B7 m kap7, .int .i64 X1, .int .i64 Y1] 26))) := by
        refine Lib.hid ?_
        (repeat (first | with_reducible exact Below.refl _ _ | ((with_reducible refine viaO (by assumption) ?_ ?_ ?_) <;> try ((try simp only [World.size_alloc, World.size_setCell, World.size_drew]) <;> omega)) | ((with_reducible refine Below.alloc ?_ ?_ _) <;> try ((try simp only [World.size_alloc, World.size_setCell, World.size_drew]) <;> omega)) | ((with_reducible refine Below.setCell ?_ ?_ _) <;> try ((try simp only [World.size_alloc, World.size_setCell, World.size_drew]) <;> omega)) | (with_reducible refine below_drewN ?_ _) | (with_reducible refine Below.drew ?_) | ((with_reducible refine via (by assumption) ?_ ?_) <;> try ((try simp only [World.size_alloc, World.size_setCell, World.size_drew]) <;> omega))))
      (try simp only [World.size_alloc] at hz_w6)
      have z2 : w2.heap.size < w5.heap.size := by omega
      have z3 : w5.heap.size < w7.heap.size := by omega
      obtain ⟨w8, hw8⟩ : ∃ w8, (w7.alloc (.cells #[.int .i64 W', .slice A7 n cap7, .slice B7 m kap7, .int .i64 X1, .int .i64 Y1] 26)) = w8 := ⟨_, rfl⟩
      have hs8 : w8.heap.size = w7.heap.size + 1 := by rw [← hw8]; simp
      rw [hw8] at K1 K2 K3 K4 K5 K6 K7 K8 G1 G2 G5 G7 b8
      clear tA tB sA sB TA TB S2 T2 s5 t5 s6 t6 s7 t7 h5 g5 hd5 h6 g6 hd6 h7 g7 hd7 hO_w5 hO_w6 hO_w7 HF1 HF2 HH HT HU
      go_wp2
      (try rw [hw8])
      clear hw8
      go_loopw [9] (fun i wr => ∃ k : Nat, k ≤ 4 ∧ i = .int .i64 (5 * (k : Int)) ∧ Below w8.heap.size w8 wr) (fun i _ => 20 - (intOf i).toNat)
      case atStart => exact ⟨0, by omega, rfl, Below.refl _ _⟩
      case round =>
        obtain ⟨k, hk, rfl, hb⟩ := hrel
        have HBR := Lib.hid hb
        have hbs := hb.size
        obtain ⟨j0, j1, j2, j3, j4⟩ := (FB.below hb G1.out (by omega)).cells
        obtain ⟨i0, i1, i2, i3, i4⟩ := (FB.below hb G5.out (by omega)).cells
        by_cases hlt : k < 4
        · have HL1 : Hid ((fvd W' n m X2 Y2 p q && inB (5 * (k : Int)) 0 15) = true) := Lib.hid (by rw [HG2.out, inB_true.2 (by omega)]; rfl)
          have HL2 : Hid ((fvd W' n m X' Y' p q && inB (5 * (k : Int)) 0 15) = true) := Lib.hid (by rw [HG0.out, inB_true.2 (by omega)]; rfl)
          have R1 := Lib.hid (RS.below hb K1.out (by omega))
          have R2 := Lib.hid (RS.below hb K2.out (by omega))
          have R5 := Lib.hid (RS.below hb K5.out (by omega))
          have R6 := Lib.hid (RS.below hb K6.out (by omega))
          have i5 : 5 * (k : Int) < 16 := by omega
          have hle := lnN_le true
          clear hb
          go_wp2
          go_region_held3 (fun w' => w'.cell? ⟨w5.heap.size, 0, none⟩ = some (.int .i64 W') ∧ w'.cell? ⟨w5.heap.size, 1, none⟩ = some (.slice A5 n cap5) ∧ w'.cell? ⟨w5.heap.size, 2, none⟩ = some (.slice B5 m kap5) ∧ w'.cell? ⟨w5.heap.size, 3, none⟩ = some (.int .i64 X2) ∧ w'.cell? ⟨w5.heap.size, 4, none⟩ = some (.int .i64 Y2) ∧ w'.cell? ⟨w1.heap.size, 0, none⟩ = some (.int .i64 W') ∧ w'.cell? ⟨w1.heap.size, 1, none⟩ = some (.slice A n c) ∧ w'.cell? ⟨w1.heap.size, 2, none⟩ = some (.slice B m d) ∧ w'.cell? ⟨w1.heap.size, 3, none⟩ = some (.int .i64 X') ∧ w'.cell? ⟨w1.heap.size, 4, none⟩ = some (.int .i64 Y')) (go_simp) (first | (go_at_call 14; (first | ((with_reducible refine Go.Calls.mono (iln_c W' A5 n cap5 B5 m kap5 X2 Y2 (5 * (k : Int)) p q true HL1.out _ (C := w5.heap.size) (C' := w5.heap.size) (by have r1 := R5.out; (repeat (first | with_reducible assumption | ((with_reducible refine RS.below (by assumption) ?_ ?_) <;> try ((try simp only [World.size_alloc, World.size_setCell, World.size_drew]) <;> omega)) | ((with_reducible refine RS.alloc ?_ ?_ _) <;> try ((try simp only [World.size_alloc, World.size_setCell, World.size_drew]) <;> omega)) | ((with_reducible refine RS.setRow ?_ ?_ _) <;> try ((try simp only [World.size_alloc, World.size_setCell, World.size_drew]) <;> omega)) | ((with_reducible refine RS.setCell ?_ ?_ _) <;> try ((try simp only [World.size_alloc, World.size_setCell, World.size_drew]) <;> omega)) | ((with_reducible refine RS.setCells ?_ ?_ _ _) <;> try ((try simp only [World.size_alloc, World.size_setCell, World.size_drew]) <;> omega)) | (with_reducible apply RS.drewN) | (with_reducible apply RS.drew)))) (by have r1 := R6.out; (repeat (first | with_reducible assumption | ((with_reducible refine RS.below (by assumption) ?_ ?_) <;> try ((try simp only [World.size_alloc, World.size_setCell, World.size_drew]) <;> omega)) | ((with_reducible refine RS.alloc ?_ ?_ _) <;> try ((try simp only [World.size_alloc, World.size_setCell, World.size_drew]) <;> omega)) | ((with_reducible refine RS.setRow ?_ ?_ _) <;> try ((try simp only [World.size_alloc, World.size_setCell, World.size_drew]) <;> omega)) | ((with_reducible refine RS.setCell ?_ ?_ _) <;> try ((try simp only [World.size_alloc, World.size_setCell, World.size_drew]) <;> omega)) | ((with_reducible refine RS.setCells ?_ ?_ _ _) <;> try ((try simp only [World.size_alloc, World.size_setCell, World.size_drew]) <;> omega)) | (with_reducible apply RS.drewN) | (with_reducible apply RS.drew)))) (by ((try simp only [World.size_alloc, World.size_setCell, World.size_drew]) <;> omega)) (by ((try simp only [World.size_alloc, World.size_setCell, World.size_drew]) <;> omega)) (by omega) (by omega)) ?_); rintro e w9 ⟨A9, cap9, rfl, h9, hO_w9⟩; have hz_w9 := hO_w9.size; (try simp only [World.size_alloc, World.size_setCell, World.size_drew] at hz_w9); have hs_w9_0 : w1.heap.size < w9.heap.size := (by omega); have c_w9_0 := fun o => (bcell hO_w9).1 (w1.heap.size) o (by (try simp only [World.size_alloc, World.size_setCell, World.size_drew]) <;> omega); have f_w9_0 := fun o => (bcell hO_w9).2 (w1.heap.size) o (by (try simp only [World.size_alloc, World.size_setCell, World.size_drew]) <;> omega); have hs_w9_1 : w2.heap.size < w9.heap.size := (by omega); have c_w9_1 := fun o => (bcell hO_w9).1 (w2.heap.size) o (by (try simp only [World.size_alloc, World.size_setCell, World.size_drew]) <;> omega); have f_w9_1 := fun o => (bcell hO_w9).2 (w2.heap.size) o (by (try simp only [World.size_alloc, World.size_setCell, World.size_drew]) <;> omega); have hs_w9_2 : w5.heap.size < w9.heap.size := (by omega); have c_w9_2 := fun o => (bcell hO_w9).1 (w5.heap.size) o (by (try simp only [World.size_alloc, World.size_setCell, World.size_drew]) <;> omega); have f_w9_2 := fun o => (bcell hO_w9).2 (w5.heap.size) o (by (try simp only [World.size_alloc, World.size_setCell, World.size_drew]) <;> omega); have hs_w9_3 : w7.heap.size < w9.heap.size := (by omega); have c_w9_3 := fun o => (bcell hO_w9).1 (w7.heap.size) o (by (try simp only [World.size_alloc, World.size_setCell, World.size_drew]) <;> omega); have f_w9_3 := fun o => (bcell hO_w9).2 (w7.heap.size) o (by (try simp only [World.size_alloc, World.size_setCell, World.size_drew]) <;> omega); rw [HL.out] at h9; have s9 := own_rs h9; clear h9) | ((with_reducible refine Go.Calls.mono (iln_c W' A n c B m d X' Y' (5 * (k : Int)) p q true HL2.out _ (C := w1.heap.size) (C' := w1.heap.size) (by have r1 := R1.out; (repeat (first | with_reducible assumption | ((with_reducible refine RS.below (by assumption) ?_ ?_) <;> try ((try simp only [World.size_alloc, World.size_setCell, World.size_drew]) <;> omega)) | ((with_reducible refine RS.alloc ?_ ?_ _) <;> try ((try simp only [World.size_alloc, World.size_setCell, World.size_drew]) <;> omega)) | ((with_reducible refine RS.setRow ?_ ?_ _) <;> try ((try simp only [World.size_alloc, World.size_setCell, World.size_drew]) <;> omega)) | ((with_reducible refine RS.setCell ?_ ?_ _) <;> try ((try simp only [World.size_alloc, World.size_setCell, World.size_drew]) <;> omega)) | ((with_reducible refine RS.setCells ?_ ?_ _ _) <;> try ((try simp only [World.size_alloc, World.size_setCell, World.size_drew]) <;> omega)) | (with_reducible apply RS.drewN) | (with_reducible apply RS.drew)))) (by have r1 := R2.out; (repeat (first | with_reducible assumption | ((with_reducible refine RS.below (by assumption) ?_ ?_) <;> try ((try simp only [World.size_alloc, World.size_setCell, World.size_drew]) <;> omega)) | ((with_reducible refine RS.alloc ?_ ?_ _) <;> try ((try simp only [World.size_alloc, World.size_setCell, World.size_drew]) <;> omega)) | ((with_reducible refine RS.setRow ?_ ?_ _) <;> try ((try simp only [World.size_alloc, World.size_setCell, World.size_drew]) <;> omega)) | ((with_reducible refine RS.setCell ?_ ?_ _) <;> try ((try simp only [World.size_alloc, World.size_setCell, World.size_drew]) <;> omega)) | ((with_reducible refine RS.setCells ?_ ?_ _ _) <;> try ((try simp only [World.size_alloc, World.size_setCell, World.size_drew]) <;> omega)) | (with_reducible apply RS.drewN) | (with_reducible apply RS.drew)))) (by ((try simp only [World.size_alloc, World.size_setCell, World.size_drew]) <;> omega)) (by ((try simp only [World.size_alloc, World.size_setCell, World.size_drew]) <;> omega)) (by omega) (by omega)) ?_); rintro e w10 ⟨A10, cap10, rfl, h10, hO_w10⟩; have hz_w10 := hO_w10.size; (try simp only [World.size_alloc, World.size_setCell, World.size_drew] at hz_w10); have hs_w10_0 : w1.heap.size < w10.heap.size := (by omega); have c_w10_0 := fun o => (bcell hO_w10).1 (w1.heap.size) o (by (try simp only [World.size_alloc, World.size_setCell, World.size_drew]) <;> omega); have f_w10_0 := fun o => (bcell hO_w10).2 (w1.heap.size) o (by (try simp only [World.size_alloc, World.size_setCell, World.size_drew]) <;> omega); have hs_w10_1 : w2.heap.size < w10.heap.size := (by omega); have c_w10_1 := fun o => (bcell hO_w10).1 (w2.heap.size) o (by (try simp only [World.size_alloc, World.size_setCell, World.size_drew]) <;> omega); have f_w10_1 := fun o => (bcell hO_w10).2 (w2.heap.size) o (by (try simp only [World.size_alloc, World.size_setCell, World.size_drew]) <;> omega); have hs_w10_2 : w5.heap.size < w10.heap.size := (by omega); have c_w10_2 := fun o => (bcell hO_w10).1 (w5.heap.size) o (by (try simp only [World.size_alloc, World.size_setCell, World.size_drew]) <;> omega); have f_w10_2 := fun o => (bcell hO_w10).2 (w5.heap.size) o (by (try simp only [World.size_alloc, World.size_setCell, World.size_drew]) <;> omega); have hs_w10_3 : w7.heap.size < w10.heap.size := (by omega); have c_w10_3 := fun o => (bcell hO_w10).1 (w7.heap.size) o (by (try simp only [World.size_alloc, World.size_setCell, World.size_drew]) <;> omega); have f_w10_3 := fun o => (bcell hO_w10).2 (w7.heap.size) o (by (try simp only [World.size_alloc, World.size_setCell, World.size_drew]) <;> omega); skip; have s10 := own_rs h10; clear h10))) | (go_at_call 13; (refine (sameInts_c _ _ _ _ _ _ _ _ (C := w9.heap.size) (C' := w10.heap.size) (by (repeat (first | with_reducible assumption | ((with_reducible refine RS.below (by assumption) ?_ ?_) <;> try ((try simp only [World.size_alloc, World.size_setCell, World.size_drew]) <;> omega)) | ((with_reducible refine RS.alloc ?_ ?_ _) <;> try ((try simp only [World.size_alloc, World.size_setCell, World.size_drew]) <;> omega)) | ((with_reducible refine RS.setRow ?_ ?_ _) <;> try ((try simp only [World.size_alloc, World.size_setCell, World.size_drew]) <;> omega)) | ((with_reducible refine RS.setCell ?_ ?_ _) <;> try ((try simp only [World.size_alloc, World.size_setCell, World.size_drew]) <;> omega)) | ((with_reducible refine RS.setCells ?_ ?_ _ _) <;> try ((try simp only [World.size_alloc, World.size_setCell, World.size_drew]) <;> omega)) | (with_reducible apply RS.drewN) | (with_reducible apply RS.drew)))) (by (repeat (first | with_reducible assumption | ((with_reducible refine RS.below (by assumption) ?_ ?_) <;> try ((try simp only [World.size_alloc, World.size_setCell, World.size_drew]) <;> omega)) | ((with_reducible refine RS.alloc ?_ ?_ _) <;> try ((try simp only [World.size_alloc, World.size_setCell, World.size_drew]) <;> omega)) | ((with_reducible refine RS.setRow ?_ ?_ _) <;> try ((try simp only [World.size_alloc, World.size_setCell, World.size_drew]) <;> omega)) | ((with_reducible refine RS.setCell ?_ ?_ _) <;> try ((try simp only [World.size_alloc, World.size_setCell, World.size_drew]) <;> omega)) | ((with_reducible refine RS.setCells ?_ ?_ _ _) <;> try ((try simp only [World.size_alloc, World.size_setCell, World.size_drew]) <;> omega)) | (with_reducible apply RS.drewN) | (with_reducible apply RS.drew)))) (by ((try simp only [World.size_alloc, World.size_setCell, World.size_drew]) <;> omega)) (by ((try simp only [World.size_alloc, World.size_setCell, World.size_drew]) <;> omega)) (by omega) (fun _ _ => rfl)).mono ?_; rintro e w11 ⟨rfl, hO_w11⟩; have hz_w11 := hO_w11.size; (try simp only [World.size_alloc, World.size_setCell, World.size_drew] at hz_w11); have hs_w11_0 : w1.heap.size < w11.heap.size := (by omega); have c_w11_0 := fun o => (bcell hO_w11).1 (w1.heap.size) o (by (try simp only [World.size_alloc, World.size_setCell, World.size_drew]) <;> omega); have f_w11_0 := fun o => (bcell hO_w11).2 (w1.heap.size) o (by (try simp only [World.size_alloc, World.size_setCell, World.size_drew]) <;> omega); have hs_w11_1 : w2.heap.size < w11.heap.size := (by omega); have c_w11_1 := fun o => (bcell hO_w11).1 (w2.heap.size) o (by (try simp only [World.size_alloc, World.size_setCell, World.size_drew]) <;> omega); have f_w11_1 := fun o => (bcell hO_w11).2 (w2.heap.size) o (by (try simp only [World.size_alloc, World.size_setCell, World.size_drew]) <;> omega); have hs_w11_2 : w5.heap.size < w11.heap.size := (by omega); have c_w11_2 := fun o => (bcell hO_w11).1 (w5.heap.size) o (by (try simp only [World.size_alloc, World.size_setCell, World.size_drew]) <;> omega); have f_w11_2 := fun o => (bcell hO_w11).2 (w5.heap.size) o (by (try simp only [World.size_alloc, World.size_setCell, World.size_drew]) <;> omega); have hs_w11_3 : w7.heap.size < w11.heap.size := (by omega); have c_w11_3 := fun o => (bcell hO_w11).1 (w7.heap.size) o (by (try simp only [World.size_alloc, World.size_setCell, World.size_drew]) <;> omega); have f_w11_3 := fun o => (bcell hO_w11).2 (w7.heap.size) o (by (try simp only [World.size_alloc, World.size_setCell, World.size_drew]) <;> omega))))
          all_goals
            go_wp2
            go_roundw
            case rel =>
              refine ⟨k + 1, by omega, ?_, HBR.out.trans ?_⟩
              · congr 1 <;> omega
              · refine Below.mono (B := wr.heap.size) ?_ (by omega)
                (repeat (first | with_reducible exact Below.refl _ _ | ((with_reducible refine viaO (by assumption) ?_ ?_ ?_) <;> try ((try simp only [World.size_alloc, World.size_setCell, World.size_drew]) <;> omega)) | ((with_reducible refine Below.alloc ?_ ?_ _) <;> try ((try simp only [World.size_alloc, World.size_setCell, World.size_drew]) <;> omega)) | ((with_reducible refine Below.setCell ?_ ?_ _) <;> try ((try simp only [World.size_alloc, World.size_setCell, World.size_drew]) <;> omega)) | (with_reducible refine below_drewN ?_ _) | (with_reducible refine Below.drew ?_) | ((with_reducible refine via (by assumption) ?_ ?_) <;> try ((try simp only [World.size_alloc, World.size_setCell, World.size_drew]) <;> omega))))
            case measure => simp [intOf]; omega
        · have hk4 : k = 4 := by omega
          subst hk4
          obtain ⟨u0, u1, u2, u3, u4⟩ := (FB.below hb G2.out (by omega)).cells
          obtain ⟨x0', x1', x2', x3', x4'⟩ := (FB.below hb G7.out (by omega)).cells
          have R3 := Lib.hid (RS.below hb K3.out (by omega))
          have R4 := Lib.hid (RS.below hb K4.out (by omega))
          have R7 := Lib.hid (RS.below hb K7.out (by omega))
          have R8 := Lib.hid (RS.below hb K8.out (by omega))
          clear hb
          go_wp2_with (first | (go_at_call 6; (refine (ifv_c _ _ _ _ _ _ _ _ _ p q _ HG1.out _ (C := w2.heap.size) (C' := w2.heap.size) R3.out R4.out (by ((try simp only [World.size_alloc, World.size_setCell, World.size_drew]) <;> omega)) (by ((try simp only [World.size_alloc, World.size_setCell, World.size_drew]) <;> omega)) (by omega) (by omega)).mono ?_; rintro e w12 ⟨rfl, hO_w12⟩; have hz_w12 := hO_w12.size; (try simp only [World.size_alloc, World.size_setCell, World.size_drew] at hz_w12); have hs_w12_0 : w2.heap.size < w12.heap.size := (by omega); have c_w12_0 := fun o => (bcell hO_w12).1 (w2.heap.size) o (by (try simp only [World.size_alloc, World.size_setCell, World.size_drew]) <;> omega); have f_w12_0 := fun o => (bcell hO_w12).2 (w2.heap.size) o (by (try simp only [World.size_alloc, World.size_setCell, World.size_drew]) <;> omega); have hs_w12_1 : w7.heap.size < w12.heap.size := (by omega); have c_w12_1 := fun o => (bcell hO_w12).1 (w7.heap.size) o (by (try simp only [World.size_alloc, World.size_setCell, World.size_drew]) <;> omega); have f_w12_1 := fun o => (bcell hO_w12).2 (w7.heap.size) o (by (try simp only [World.size_alloc, World.size_setCell, World.size_drew]) <;> omega))) | (go_at_call 11; (refine (sameField_c _ _ _ _ _ _ _ _ _ _ _ _ _ p q _ (C1 := w7.heap.size) (C2 := w7.heap.size) (C3 := w2.heap.size) (C4 := w2.heap.size) (RS.below hO_w12 R7.out (by omega)) (RS.below hO_w12 R8.out (by omega)) (RS.below hO_w12 R3.out (by omega)) (RS.below hO_w12 R4.out (by omega)) (by ((try simp only [World.size_alloc, World.size_setCell, World.size_drew]) <;> omega)) (by ((try simp only [World.size_alloc, World.size_setCell, World.size_drew]) <;> omega)) (by ((try simp only [World.size_alloc, World.size_setCell, World.size_drew]) <;> omega)) (by ((try simp only [World.size_alloc, World.size_setCell, World.size_drew]) <;> omega)) (by omega) (by omega)).mono ?_; rintro e w13 ⟨rfl, hO_w13⟩; have hz_w13 := hO_w13.size; (try simp only [World.size_alloc, World.size_setCell, World.size_drew] at hz_w13))))
          go_ret
          refine ⟨rfl, b0.out.trans ((b8.out.mono (by omega)).trans ((HBR.out.mono (by omega)).trans ?_))⟩
          exact (hO_w12.mono (by omega)).trans (hO_w13.mono (by omega))

set_option maxRecDepth 100000 in
theorem lifted (os : Os) (started : os.Started) (H : Type) (enc : TypeId × Value → H) :
    ReturnsInHanded {} Try.checked os 4 .any (Rows.fnShiftFieldSpec.pre6 enc Try.prog Try.f4 Rows.fnShiftFieldRow.domain false) (Rows.fnShiftFieldSpec.post enc Try.prog Try.f4 false true false false) := by
  refine returnsInHanded_of_change (C := Try.checked) own started (by kernel_rfl) Try.func4
    (ChangeSpec.witness6 (enc := enc) (C := Try.checked) false ⟨#[], #[.slice none 0 0], []⟩ 8 (by kernel_rfl) (by kernel_rfl) (by kernel_rfl) (by kernel_rfl)) ?_
  intro W base args ds gs before hval0 hW hcnd _
  have hval : ∀ (j : Nat) t v, Try.f4.params[j]? = some t → args[j]? = some v → Value.okWide Try.prog W .any base t v := hval0
  have hW' := hW
  obtain ⟨p, q, hA0, hV, rfl, hfz, hnd⟩ := hW
  have hA : DataW.TrodAll enc Try.prog W 0 (fun _ => true) true Try.f4.params.toList args.toList ds p := hA0
  rw [Try.params4] at hA hval
  obtain ⟨v0, vs0, d0, ds0, p0, q0, hargs, rfl, rfl, h0, r0⟩ := trodAll_cons hA
  obtain ⟨rfl, rfl, rfl⟩ := trodAll_nil r0
  obtain rfl : args = #[v0] := by cases args; simp_all
  obtain ⟨rfl, rfl⟩ := trodVars_none hV
  have lt0 : ∀ x ∈ p0, x.block < W.heap.size := by obtain ⟨m, hm⟩ := h0; exact DataW.trod_lt m _ _ _ hm
  have a0 := codeArg (hval 0 22 v0 rfl rfl) h0
  clear hA0 hval0
  refine (walk v0 W a0).mono fun e W' ⟨he, bel⟩ => ?_
  subst he
  exact ⟨_, rfl, _, _, _, [], _, [], hW', trodAll_mk1 (shut_bool Try.underlying4 _), (trodAll_cons_mk (Below.trod laidOut (by kernel_rfl) (of_decide_eq_true (by kernel_rfl)) h0 bel lt0) trodAll_mk0), rfl, bel.frame _, fun h => by cases h⟩

theorem proved : Rows.FnShiftFieldSaid :=
  OpenClaim.holds_of_wide 4 Try.f4 rfl rfl rfl rfl rfl rfl rfl ⟨rfl, rfl, rfl, rfl, rfl⟩ rfl rfl rfl rfl rfl (by kernel_rfl) Try.func4 (by kernel_rfl)
    (of_decide_eq_true (by kernel_rfl)) (by unfold Func.isWrapper; first | (rw [if_pos (by decide +kernel)]; kernel_rfl) | (rw [if_neg (by decide +kernel)]; exact ⟨rfl, rfl⟩))
    (fun os started H enc _ => lifted os started H enc)
#print axioms proved

end Go.Proofs.Ythopeedonikdhaa.lawFnShiftField
