/-
  The law FnExactShiftField holds: for every input the program's ShiftField returns what the reference's returns, in memory of its own, and leaves its argument. No conditions.
-/
import Derived.Test.YtojnfojecpdolaaFieldOpen
import Derived.Test.YtojnfojecpdolaaFieldShift4
import Derived.Test.YtojnfojecpdolaaMark
namespace Go.Proofs.Ytojnfojecpdolaa.lawFnExactShiftField
set_option linter.all false
set_option linter.unusedSimpArgs false
set_option linter.unusedVariables false
open Go.ChangeShapes Go.WideShapes Go.ChangeAt Go.RowKit

theorem fb_grown {w w' : World} {g : Nat} {t : TypeId} {W X Y : Int} {A B : Option Addr} {n c m d : Nat} {r : Option Nat} (h : FB w g t W A n c B m d X Y) (hG : w.grownBy w' r) (hr : ∀ x, r = some x → x ≠ g) : FB w' g t W A n c B m d X Y :=
  (hG.block g (heap_lt h) (fun e => hr g e.symm rfl)).trans h

set_option maxHeartbeats 2000000 in
theorem walk (v0 v1 v2 : Value) (w : World) (h0 : FieldArg w v0) (h1 : IntArg w v1) (h2 : IntArg w v2) : Calls Try.prog 11 #[v0, v1, v2] w fun e w' => e = .returned (.bool true) ∧ Below w.heap.size w w' := by
  obtain ⟨W, A, n, c, B, m, d, X, Y, p, q, rfl, hA, hB, hnc, hmd, hc, hd⟩ := h0
  unfold maxLen at hc hd
  obtain ⟨dx, rfl, _, _⟩ := h1
  obtain ⟨dy, rfl, _, _⟩ := h2
  by_cases hs : n + m ≤ 1048576
  · have H1 := Lib.hid (fun w => szField_ok W A n c B m d X Y w hs)
    obtain ⟨v, hv⟩ : ∃ v, shv W n m X Y p q dx dy = v := ⟨_, rfl⟩
    have HI := Lib.hid (fun A c B d w C C' h h' hC hC' => ish_c W A n c B m d X Y dx dy p q v hv w (C := C) (C' := C') h h' hC hC' (by omega) (by omega))
    have HS := Lib.hid (fun A c B d w C C' h h' hC hC' => ssh_c W A n c B m d X Y dx dy p q v hv w (C := C) (C' := C') h h' hC hC' (by omega) (by omega))
    have k1 : ¬ (1048576 : Int) - n - m < 0 := by omega
    have ln := shK_le v n
    have lm := shK_le v m
    clear hv
    generalize shI v W = W1 at HI HS
    generalize shK v n = n1 at HI HS ln
    generalize shK v m = m1 at HI HS lm
    generalize shI v ((X + dx) % (8 * W)) = X1 at HI HS
    generalize shI v ((Y + dy) % (8 * (n / W))) = Y1 at HI HS
    go_enter Try.func11, Try.ntmps11
    go_wp2_with fail
    refine (H1.out _).mono ?_
    rintro e w1 ⟨rfl, hO_w1⟩
    have hz_w1 := hO_w1.size
    (try simp only [World.size_alloc, World.size_setCell, World.size_drew] at hz_w1)
    have hs_w1_0 : w.heap.size < w1.heap.size := (by omega)
    have c_w1_0 := fun o => (bcell hO_w1).1 (w.heap.size) o (by (try simp only [World.size_alloc, World.size_setCell, World.size_drew]) <;> omega)
    have f_w1_0 := fun o => (bcell hO_w1).2 (w.heap.size) o (by (try simp only [World.size_alloc, World.size_setCell, World.size_drew]) <;> omega)
    go_wp2_with fail
    refine (toField_c W A n c B m d X Y p q _ (C := w.heap.size) (C' := w.heap.size) (by (repeat (first | with_reducible assumption | ((with_reducible refine RS.below (by assumption) ?_ ?_) <;> try ((try simp only [World.size_alloc, World.size_setCell, World.size_drew]) <;> omega)) | ((with_reducible refine RS.alloc ?_ ?_ _) <;> try ((try simp only [World.size_alloc, World.size_setCell, World.size_drew]) <;> omega)) | ((with_reducible refine RS.setRow ?_ ?_ _) <;> try ((try simp only [World.size_alloc, World.size_setCell, World.size_drew]) <;> omega)) | ((with_reducible refine RS.setCell ?_ ?_ _) <;> try ((try simp only [World.size_alloc, World.size_setCell, World.size_drew]) <;> omega)) | ((with_reducible refine RS.setCells ?_ ?_ _ _) <;> try ((try simp only [World.size_alloc, World.size_setCell, World.size_drew]) <;> omega)) | (with_reducible apply RS.drewN) | (with_reducible apply RS.drew)))) (by (repeat (first | with_reducible assumption | ((with_reducible refine RS.below (by assumption) ?_ ?_) <;> try ((try simp only [World.size_alloc, World.size_setCell, World.size_drew]) <;> omega)) | ((with_reducible refine RS.alloc ?_ ?_ _) <;> try ((try simp only [World.size_alloc, World.size_setCell, World.size_drew]) <;> omega)) | ((with_reducible refine RS.setRow ?_ ?_ _) <;> try ((try simp only [World.size_alloc, World.size_setCell, World.size_drew]) <;> omega)) | ((with_reducible refine RS.setCell ?_ ?_ _) <;> try ((try simp only [World.size_alloc, World.size_setCell, World.size_drew]) <;> omega)) | ((with_reducible refine RS.setCells ?_ ?_ _ _) <;> try ((try simp only [World.size_alloc, World.size_setCell, World.size_drew]) <;> omega)) | (with_reducible apply RS.drewN) | (with_reducible apply RS.drew)))) (by ((try simp only [World.size_alloc, World.size_setCell, World.size_drew]) <;> omega)) (by ((try simp only [World.size_alloc, World.size_setCell, World.size_drew]) <;> omega)) (by omega) (by omega)).mono ?_
    rintro e w2 ⟨A2, cap2, B2, kap2, rfl, h2, g2, hd2, hO_w2⟩
    have hz_w2 := hO_w2.size
    (try simp only [World.size_alloc, World.size_setCell, World.size_drew] at hz_w2)
    have hs_w2_0 : w.heap.size < w2.heap.size := (by omega)
    have c_w2_0 := fun o => (bcell hO_w2).1 (w.heap.size) o (by (try simp only [World.size_alloc, World.size_setCell, World.size_drew]) <;> omega)
    have f_w2_0 := fun o => (bcell hO_w2).2 (w.heap.size) o (by (try simp only [World.size_alloc, World.size_setCell, World.size_drew]) <;> omega)
    have s2 := own_rs h2
    have t2 := own_rs g2
    go_wp2_with fail
    refine (HS.out _ _ _ _ _ w2.heap.size w2.heap.size (by (repeat (first | with_reducible assumption | ((with_reducible refine RS.below (by assumption) ?_ ?_) <;> try ((try simp only [World.size_alloc, World.size_setCell, World.size_drew]) <;> omega)) | ((with_reducible refine RS.alloc ?_ ?_ _) <;> try ((try simp only [World.size_alloc, World.size_setCell, World.size_drew]) <;> omega)) | ((with_reducible refine RS.setRow ?_ ?_ _) <;> try ((try simp only [World.size_alloc, World.size_setCell, World.size_drew]) <;> omega)) | ((with_reducible refine RS.setCell ?_ ?_ _) <;> try ((try simp only [World.size_alloc, World.size_setCell, World.size_drew]) <;> omega)) | ((with_reducible refine RS.setCells ?_ ?_ _ _) <;> try ((try simp only [World.size_alloc, World.size_setCell, World.size_drew]) <;> omega)) | (with_reducible apply RS.drewN) | (with_reducible apply RS.drew)))) (by (repeat (first | with_reducible assumption | ((with_reducible refine RS.below (by assumption) ?_ ?_) <;> try ((try simp only [World.size_alloc, World.size_setCell, World.size_drew]) <;> omega)) | ((with_reducible refine RS.alloc ?_ ?_ _) <;> try ((try simp only [World.size_alloc, World.size_setCell, World.size_drew]) <;> omega)) | ((with_reducible refine RS.setRow ?_ ?_ _) <;> try ((try simp only [World.size_alloc, World.size_setCell, World.size_drew]) <;> omega)) | ((with_reducible refine RS.setCell ?_ ?_ _) <;> try ((try simp only [World.size_alloc, World.size_setCell, World.size_drew]) <;> omega)) | ((with_reducible refine RS.setCells ?_ ?_ _ _) <;> try ((try simp only [World.size_alloc, World.size_setCell, World.size_drew]) <;> omega)) | (with_reducible apply RS.drewN) | (with_reducible apply RS.drew)))) (by ((try simp only [World.size_alloc, World.size_setCell, World.size_drew]) <;> omega)) (by ((try simp only [World.size_alloc, World.size_setCell, World.size_drew]) <;> omega))).mono ?_
    rintro e w3 ⟨A3, cap3, B3, kap3, rfl, h3, g3, hd3, hO_w3⟩
    have hz_w3 := hO_w3.size
    (try simp only [World.size_alloc, World.size_setCell, World.size_drew] at hz_w3)
    have hs_w3_0 : w.heap.size < w3.heap.size := (by omega)
    have c_w3_0 := fun o => (bcell hO_w3).1 (w.heap.size) o (by (try simp only [World.size_alloc, World.size_setCell, World.size_drew]) <;> omega)
    have f_w3_0 := fun o => (bcell hO_w3).2 (w.heap.size) o (by (try simp only [World.size_alloc, World.size_setCell, World.size_drew]) <;> omega)
    have s3 := own_rs h3
    have t3 := own_rs g3
    clear h2 g2 s2 t2 hd2
    go_wp2_with fail
    refine (toField_c W A n c B m d X Y p q _ (C := w.heap.size) (C' := w.heap.size) (by (repeat (first | with_reducible assumption | ((with_reducible refine RS.below (by assumption) ?_ ?_) <;> try ((try simp only [World.size_alloc, World.size_setCell, World.size_drew]) <;> omega)) | ((with_reducible refine RS.alloc ?_ ?_ _) <;> try ((try simp only [World.size_alloc, World.size_setCell, World.size_drew]) <;> omega)) | ((with_reducible refine RS.setRow ?_ ?_ _) <;> try ((try simp only [World.size_alloc, World.size_setCell, World.size_drew]) <;> omega)) | ((with_reducible refine RS.setCell ?_ ?_ _) <;> try ((try simp only [World.size_alloc, World.size_setCell, World.size_drew]) <;> omega)) | ((with_reducible refine RS.setCells ?_ ?_ _ _) <;> try ((try simp only [World.size_alloc, World.size_setCell, World.size_drew]) <;> omega)) | (with_reducible apply RS.drewN) | (with_reducible apply RS.drew)))) (by (repeat (first | with_reducible assumption | ((with_reducible refine RS.below (by assumption) ?_ ?_) <;> try ((try simp only [World.size_alloc, World.size_setCell, World.size_drew]) <;> omega)) | ((with_reducible refine RS.alloc ?_ ?_ _) <;> try ((try simp only [World.size_alloc, World.size_setCell, World.size_drew]) <;> omega)) | ((with_reducible refine RS.setRow ?_ ?_ _) <;> try ((try simp only [World.size_alloc, World.size_setCell, World.size_drew]) <;> omega)) | ((with_reducible refine RS.setCell ?_ ?_ _) <;> try ((try simp only [World.size_alloc, World.size_setCell, World.size_drew]) <;> omega)) | ((with_reducible refine RS.setCells ?_ ?_ _ _) <;> try ((try simp only [World.size_alloc, World.size_setCell, World.size_drew]) <;> omega)) | (with_reducible apply RS.drewN) | (with_reducible apply RS.drew)))) (by ((try simp only [World.size_alloc, World.size_setCell, World.size_drew]) <;> omega)) (by ((try simp only [World.size_alloc, World.size_setCell, World.size_drew]) <;> omega)) (by omega) (by omega)).mono ?_
    rintro e w4 ⟨A4, cap4, B4, kap4, rfl, h4, g4, hd4, hO_w4⟩
    have hz_w4 := hO_w4.size
    (try simp only [World.size_alloc, World.size_setCell, World.size_drew] at hz_w4)
    have hs_w4_0 : w.heap.size < w4.heap.size := (by omega)
    have c_w4_0 := fun o => (bcell hO_w4).1 (w.heap.size) o (by (try simp only [World.size_alloc, World.size_setCell, World.size_drew]) <;> omega)
    have f_w4_0 := fun o => (bcell hO_w4).2 (w.heap.size) o (by (try simp only [World.size_alloc, World.size_setCell, World.size_drew]) <;> omega)
    have hs_w4_1 : w3.heap.size < w4.heap.size := (by omega)
    have c_w4_1 := fun o => (bcell hO_w4).1 (w3.heap.size) o (by (try simp only [World.size_alloc, World.size_setCell, World.size_drew]) <;> omega)
    have f_w4_1 := fun o => (bcell hO_w4).2 (w3.heap.size) o (by (try simp only [World.size_alloc, World.size_setCell, World.size_drew]) <;> omega)
    have s4 := own_rs h4
    have t4 := own_rs g4
    go_wp2_with fail
    refine (HI.out _ _ _ _ _ w4.heap.size w4.heap.size (by (repeat (first | with_reducible assumption | ((with_reducible refine RS.below (by assumption) ?_ ?_) <;> try ((try simp only [World.size_alloc, World.size_setCell, World.size_drew]) <;> omega)) | ((with_reducible refine RS.alloc ?_ ?_ _) <;> try ((try simp only [World.size_alloc, World.size_setCell, World.size_drew]) <;> omega)) | ((with_reducible refine RS.setRow ?_ ?_ _) <;> try ((try simp only [World.size_alloc, World.size_setCell, World.size_drew]) <;> omega)) | ((with_reducible refine RS.setCell ?_ ?_ _) <;> try ((try simp only [World.size_alloc, World.size_setCell, World.size_drew]) <;> omega)) | ((with_reducible refine RS.setCells ?_ ?_ _ _) <;> try ((try simp only [World.size_alloc, World.size_setCell, World.size_drew]) <;> omega)) | (with_reducible apply RS.drewN) | (with_reducible apply RS.drew)))) (by (repeat (first | with_reducible assumption | ((with_reducible refine RS.below (by assumption) ?_ ?_) <;> try ((try simp only [World.size_alloc, World.size_setCell, World.size_drew]) <;> omega)) | ((with_reducible refine RS.alloc ?_ ?_ _) <;> try ((try simp only [World.size_alloc, World.size_setCell, World.size_drew]) <;> omega)) | ((with_reducible refine RS.setRow ?_ ?_ _) <;> try ((try simp only [World.size_alloc, World.size_setCell, World.size_drew]) <;> omega)) | ((with_reducible refine RS.setCell ?_ ?_ _) <;> try ((try simp only [World.size_alloc, World.size_setCell, World.size_drew]) <;> omega)) | ((with_reducible refine RS.setCells ?_ ?_ _ _) <;> try ((try simp only [World.size_alloc, World.size_setCell, World.size_drew]) <;> omega)) | (with_reducible apply RS.drewN) | (with_reducible apply RS.drew)))) (by ((try simp only [World.size_alloc, World.size_setCell, World.size_drew]) <;> omega)) (by ((try simp only [World.size_alloc, World.size_setCell, World.size_drew]) <;> omega))).mono ?_
    rintro e w5 ⟨A5, cap5, B5, kap5, rfl, h5, g5, hd5, hO_w5⟩
    have hz_w5 := hO_w5.size
    (try simp only [World.size_alloc, World.size_setCell, World.size_drew] at hz_w5)
    have hs_w5_0 : w.heap.size < w5.heap.size := (by omega)
    have c_w5_0 := fun o => (bcell hO_w5).1 (w.heap.size) o (by (try simp only [World.size_alloc, World.size_setCell, World.size_drew]) <;> omega)
    have f_w5_0 := fun o => (bcell hO_w5).2 (w.heap.size) o (by (try simp only [World.size_alloc, World.size_setCell, World.size_drew]) <;> omega)
    have hs_w5_1 : w3.heap.size < w5.heap.size := (by omega)
    have c_w5_1 := fun o => (bcell hO_w5).1 (w3.heap.size) o (by (try simp only [World.size_alloc, World.size_setCell, World.size_drew]) <;> omega)
    have f_w5_1 := fun o => (bcell hO_w5).2 (w3.heap.size) o (by (try simp only [World.size_alloc, World.size_setCell, World.size_drew]) <;> omega)
    have hs_w5_2 : w4.heap.size < w5.heap.size := (by omega)
    have c_w5_2 := fun o => (bcell hO_w5).1 (w4.heap.size) o (by (try simp only [World.size_alloc, World.size_setCell, World.size_drew]) <;> omega)
    have f_w5_2 := fun o => (bcell hO_w5).2 (w4.heap.size) o (by (try simp only [World.size_alloc, World.size_setCell, World.size_drew]) <;> omega)
    have s5 := own_rs h5
    have t5 := own_rs g5
    have L4 : Hid (∀ g, (Value.slice A4 n cap4).ownBlock = some g → w3.heap.size + 1 ≤ g ∧ g < w4.heap.size) := Lib.hid (fun g hg => by have := h4.lt g hg; simp only [World.size_alloc] at this; exact this)
    have M4 : Hid (∀ g, (Value.slice B4 m kap4).ownBlock = some g → w3.heap.size + 1 ≤ g ∧ g < w4.heap.size) := Lib.hid (fun g hg => by have := g4.lt g hg; simp only [World.size_alloc] at this; exact this)
    have L5 : Hid (∀ g, (Value.slice A5 n1 cap5).ownBlock = some g → w4.heap.size + 1 ≤ g ∧ g < w5.heap.size) := Lib.hid (fun g hg => by have := h5.lt g hg; simp only [World.size_alloc] at this; exact this)
    have M5 : Hid (∀ g, (Value.slice B5 m1 kap5).ownBlock = some g → w4.heap.size + 1 ≤ g ∧ g < w5.heap.size) := Lib.hid (fun g hg => by have := g5.lt g hg; simp only [World.size_alloc] at this; exact this)
    have H4 := Lib.hid h4
    have G4 := Lib.hid g4
    have D4 := Lib.hid hd4
    have H5 := Lib.hid h5
    have G5 := Lib.hid g5
    have D5 := Lib.hid hd5
    clear h4 g4 h3 g3 h5 g5 hd3 hd4 hd5
    go_wp2_with fail
    refine (eqField_c _ _ _ _ _ _ _ _ _ _ _ _ _ p q _ (C1 := w5.heap.size) (C2 := w5.heap.size) (C3 := w3.heap.size) (C4 := w3.heap.size) (by (repeat (first | with_reducible assumption | ((with_reducible refine RS.below (by assumption) ?_ ?_) <;> try ((try simp only [World.size_alloc, World.size_setCell, World.size_drew]) <;> omega)) | ((with_reducible refine RS.alloc ?_ ?_ _) <;> try ((try simp only [World.size_alloc, World.size_setCell, World.size_drew]) <;> omega)) | ((with_reducible refine RS.setRow ?_ ?_ _) <;> try ((try simp only [World.size_alloc, World.size_setCell, World.size_drew]) <;> omega)) | ((with_reducible refine RS.setCell ?_ ?_ _) <;> try ((try simp only [World.size_alloc, World.size_setCell, World.size_drew]) <;> omega)) | ((with_reducible refine RS.setCells ?_ ?_ _ _) <;> try ((try simp only [World.size_alloc, World.size_setCell, World.size_drew]) <;> omega)) | (with_reducible apply RS.drewN) | (with_reducible apply RS.drew)))) (by (repeat (first | with_reducible assumption | ((with_reducible refine RS.below (by assumption) ?_ ?_) <;> try ((try simp only [World.size_alloc, World.size_setCell, World.size_drew]) <;> omega)) | ((with_reducible refine RS.alloc ?_ ?_ _) <;> try ((try simp only [World.size_alloc, World.size_setCell, World.size_drew]) <;> omega)) | ((with_reducible refine RS.setRow ?_ ?_ _) <;> try ((try simp only [World.size_alloc, World.size_setCell, World.size_drew]) <;> omega)) | ((with_reducible refine RS.setCell ?_ ?_ _) <;> try ((try simp only [World.size_alloc, World.size_setCell, World.size_drew]) <;> omega)) | ((with_reducible refine RS.setCells ?_ ?_ _ _) <;> try ((try simp only [World.size_alloc, World.size_setCell, World.size_drew]) <;> omega)) | (with_reducible apply RS.drewN) | (with_reducible apply RS.drew)))) (by (repeat (first | with_reducible assumption | ((with_reducible refine RS.below (by assumption) ?_ ?_) <;> try ((try simp only [World.size_alloc, World.size_setCell, World.size_drew]) <;> omega)) | ((with_reducible refine RS.alloc ?_ ?_ _) <;> try ((try simp only [World.size_alloc, World.size_setCell, World.size_drew]) <;> omega)) | ((with_reducible refine RS.setRow ?_ ?_ _) <;> try ((try simp only [World.size_alloc, World.size_setCell, World.size_drew]) <;> omega)) | ((with_reducible refine RS.setCell ?_ ?_ _) <;> try ((try simp only [World.size_alloc, World.size_setCell, World.size_drew]) <;> omega)) | ((with_reducible refine RS.setCells ?_ ?_ _ _) <;> try ((try simp only [World.size_alloc, World.size_setCell, World.size_drew]) <;> omega)) | (with_reducible apply RS.drewN) | (with_reducible apply RS.drew)))) (by (repeat (first | with_reducible assumption | ((with_reducible refine RS.below (by assumption) ?_ ?_) <;> try ((try simp only [World.size_alloc, World.size_setCell, World.size_drew]) <;> omega)) | ((with_reducible refine RS.alloc ?_ ?_ _) <;> try ((try simp only [World.size_alloc, World.size_setCell, World.size_drew]) <;> omega)) | ((with_reducible refine RS.setRow ?_ ?_ _) <;> try ((try simp only [World.size_alloc, World.size_setCell, World.size_drew]) <;> omega)) | ((with_reducible refine RS.setCell ?_ ?_ _) <;> try ((try simp only [World.size_alloc, World.size_setCell, World.size_drew]) <;> omega)) | ((with_reducible refine RS.setCells ?_ ?_ _ _) <;> try ((try simp only [World.size_alloc, World.size_setCell, World.size_drew]) <;> omega)) | (with_reducible apply RS.drewN) | (with_reducible apply RS.drew)))) (by ((try simp only [World.size_alloc, World.size_setCell, World.size_drew]) <;> omega)) (by ((try simp only [World.size_alloc, World.size_setCell, World.size_drew]) <;> omega)) (by ((try simp only [World.size_alloc, World.size_setCell, World.size_drew]) <;> omega)) (by ((try simp only [World.size_alloc, World.size_setCell, World.size_drew]) <;> omega)) (by omega) (by omega)).mono ?_
    rintro e w6 ⟨rfl, hO_w6⟩
    have hz_w6 := hO_w6.size
    (try simp only [World.size_alloc, World.size_setCell, World.size_drew] at hz_w6)
    have hs_w6_0 : w.heap.size < w6.heap.size := (by omega)
    have c_w6_0 := fun o => (bcell hO_w6).1 (w.heap.size) o (by (try simp only [World.size_alloc, World.size_setCell, World.size_drew]) <;> omega)
    have f_w6_0 := fun o => (bcell hO_w6).2 (w.heap.size) o (by (try simp only [World.size_alloc, World.size_setCell, World.size_drew]) <;> omega)
    have hs_w6_1 : w3.heap.size < w6.heap.size := (by omega)
    have c_w6_1 := fun o => (bcell hO_w6).1 (w3.heap.size) o (by (try simp only [World.size_alloc, World.size_setCell, World.size_drew]) <;> omega)
    have f_w6_1 := fun o => (bcell hO_w6).2 (w3.heap.size) o (by (try simp only [World.size_alloc, World.size_setCell, World.size_drew]) <;> omega)
    have hs_w6_2 : w4.heap.size < w6.heap.size := (by omega)
    have c_w6_2 := fun o => (bcell hO_w6).1 (w4.heap.size) o (by (try simp only [World.size_alloc, World.size_setCell, World.size_drew]) <;> omega)
    have f_w6_2 := fun o => (bcell hO_w6).2 (w4.heap.size) o (by (try simp only [World.size_alloc, World.size_setCell, World.size_drew]) <;> omega)
    have hs_w6_3 : w5.heap.size < w6.heap.size := (by omega)
    have c_w6_3 := fun o => (bcell hO_w6).1 (w5.heap.size) o (by (try simp only [World.size_alloc, World.size_setCell, World.size_drew]) <;> omega)
    have f_w6_3 := fun o => (bcell hO_w6).2 (w5.heap.size) o (by (try simp only [World.size_alloc, World.size_setCell, World.size_drew]) <;> omega)
    go_wp2
    go_region_held3 (fun w' => w'.cell? ⟨w.heap.size, 0, none⟩ = some (.int .i64 W) ∧ w'.cell? ⟨w.heap.size, 1, none⟩ = some (.slice A n c) ∧ w'.cell? ⟨w.heap.size, 2, none⟩ = some (.slice B m d) ∧ w'.cell? ⟨w.heap.size, 3, none⟩ = some (.int .i64 X) ∧ w'.cell? ⟨w.heap.size, 4, none⟩ = some (.int .i64 Y) ∧ w'.cell? ⟨w4.heap.size, 0, none⟩ = some (.int .i64 W) ∧ w'.cell? ⟨w4.heap.size, 1, none⟩ = some (.slice A4 n cap4) ∧ w'.cell? ⟨w4.heap.size, 2, none⟩ = some (.slice B4 m kap4) ∧ w'.cell? ⟨w4.heap.size, 3, none⟩ = some (.int .i64 X) ∧ w'.cell? ⟨w4.heap.size, 4, none⟩ = some (.int .i64 Y)) (go_simp) (first | (go_at_call 20; (refine (toField_c W A n c B m d X Y p q _ (C := w.heap.size) (C' := w.heap.size) (by (repeat (first | with_reducible assumption | ((with_reducible refine RS.below (by assumption) ?_ ?_) <;> try ((try simp only [World.size_alloc, World.size_setCell, World.size_drew]) <;> omega)) | ((with_reducible refine RS.alloc ?_ ?_ _) <;> try ((try simp only [World.size_alloc, World.size_setCell, World.size_drew]) <;> omega)) | ((with_reducible refine RS.setRow ?_ ?_ _) <;> try ((try simp only [World.size_alloc, World.size_setCell, World.size_drew]) <;> omega)) | ((with_reducible refine RS.setCell ?_ ?_ _) <;> try ((try simp only [World.size_alloc, World.size_setCell, World.size_drew]) <;> omega)) | ((with_reducible refine RS.setCells ?_ ?_ _ _) <;> try ((try simp only [World.size_alloc, World.size_setCell, World.size_drew]) <;> omega)) | (with_reducible apply RS.drewN) | (with_reducible apply RS.drew)))) (by (repeat (first | with_reducible assumption | ((with_reducible refine RS.below (by assumption) ?_ ?_) <;> try ((try simp only [World.size_alloc, World.size_setCell, World.size_drew]) <;> omega)) | ((with_reducible refine RS.alloc ?_ ?_ _) <;> try ((try simp only [World.size_alloc, World.size_setCell, World.size_drew]) <;> omega)) | ((with_reducible refine RS.setRow ?_ ?_ _) <;> try ((try simp only [World.size_alloc, World.size_setCell, World.size_drew]) <;> omega)) | ((with_reducible refine RS.setCell ?_ ?_ _) <;> try ((try simp only [World.size_alloc, World.size_setCell, World.size_drew]) <;> omega)) | ((with_reducible refine RS.setCells ?_ ?_ _ _) <;> try ((try simp only [World.size_alloc, World.size_setCell, World.size_drew]) <;> omega)) | (with_reducible apply RS.drewN) | (with_reducible apply RS.drew)))) (by ((try simp only [World.size_alloc, World.size_setCell, World.size_drew]) <;> omega)) (by ((try simp only [World.size_alloc, World.size_setCell, World.size_drew]) <;> omega)) (by omega) (by omega)).mono ?_; rintro e w7 ⟨A7, cap7, B7, kap7, rfl, h7, g7, hd7, hO_w7⟩; have hz_w7 := hO_w7.size; (try simp only [World.size_alloc, World.size_setCell, World.size_drew] at hz_w7); have hs_w7_0 : w.heap.size < w7.heap.size := (by omega); have c_w7_0 := fun o => (bcell hO_w7).1 (w.heap.size) o (by (try simp only [World.size_alloc, World.size_setCell, World.size_drew]) <;> omega); have f_w7_0 := fun o => (bcell hO_w7).2 (w.heap.size) o (by (try simp only [World.size_alloc, World.size_setCell, World.size_drew]) <;> omega); have hs_w7_1 : w3.heap.size < w7.heap.size := (by omega); have c_w7_1 := fun o => (bcell hO_w7).1 (w3.heap.size) o (by (try simp only [World.size_alloc, World.size_setCell, World.size_drew]) <;> omega); have f_w7_1 := fun o => (bcell hO_w7).2 (w3.heap.size) o (by (try simp only [World.size_alloc, World.size_setCell, World.size_drew]) <;> omega); have hs_w7_2 : w4.heap.size < w7.heap.size := (by omega); have c_w7_2 := fun o => (bcell hO_w7).1 (w4.heap.size) o (by (try simp only [World.size_alloc, World.size_setCell, World.size_drew]) <;> omega); have f_w7_2 := fun o => (bcell hO_w7).2 (w4.heap.size) o (by (try simp only [World.size_alloc, World.size_setCell, World.size_drew]) <;> omega); have hs_w7_3 : w5.heap.size < w7.heap.size := (by omega); have c_w7_3 := fun o => (bcell hO_w7).1 (w5.heap.size) o (by (try simp only [World.size_alloc, World.size_setCell, World.size_drew]) <;> omega); have f_w7_3 := fun o => (bcell hO_w7).2 (w5.heap.size) o (by (try simp only [World.size_alloc, World.size_setCell, World.size_drew]) <;> omega); have s7 := own_rs h7; have t7 := own_rs g7)) | (go_at_call 21; (refine (eqField_c _ _ _ _ _ _ _ _ _ _ _ _ _ p q _ (C1 := w4.heap.size) (C2 := w4.heap.size) (C3 := w7.heap.size) (C4 := w7.heap.size) (by (repeat (first | with_reducible assumption | ((with_reducible refine RS.below (by assumption) ?_ ?_) <;> try ((try simp only [World.size_alloc, World.size_setCell, World.size_drew]) <;> omega)) | ((with_reducible refine RS.alloc ?_ ?_ _) <;> try ((try simp only [World.size_alloc, World.size_setCell, World.size_drew]) <;> omega)) | ((with_reducible refine RS.setRow ?_ ?_ _) <;> try ((try simp only [World.size_alloc, World.size_setCell, World.size_drew]) <;> omega)) | ((with_reducible refine RS.setCell ?_ ?_ _) <;> try ((try simp only [World.size_alloc, World.size_setCell, World.size_drew]) <;> omega)) | ((with_reducible refine RS.setCells ?_ ?_ _ _) <;> try ((try simp only [World.size_alloc, World.size_setCell, World.size_drew]) <;> omega)) | (with_reducible apply RS.drewN) | (with_reducible apply RS.drew)))) (by (repeat (first | with_reducible assumption | ((with_reducible refine RS.below (by assumption) ?_ ?_) <;> try ((try simp only [World.size_alloc, World.size_setCell, World.size_drew]) <;> omega)) | ((with_reducible refine RS.alloc ?_ ?_ _) <;> try ((try simp only [World.size_alloc, World.size_setCell, World.size_drew]) <;> omega)) | ((with_reducible refine RS.setRow ?_ ?_ _) <;> try ((try simp only [World.size_alloc, World.size_setCell, World.size_drew]) <;> omega)) | ((with_reducible refine RS.setCell ?_ ?_ _) <;> try ((try simp only [World.size_alloc, World.size_setCell, World.size_drew]) <;> omega)) | ((with_reducible refine RS.setCells ?_ ?_ _ _) <;> try ((try simp only [World.size_alloc, World.size_setCell, World.size_drew]) <;> omega)) | (with_reducible apply RS.drewN) | (with_reducible apply RS.drew)))) (by (repeat (first | with_reducible assumption | ((with_reducible refine RS.below (by assumption) ?_ ?_) <;> try ((try simp only [World.size_alloc, World.size_setCell, World.size_drew]) <;> omega)) | ((with_reducible refine RS.alloc ?_ ?_ _) <;> try ((try simp only [World.size_alloc, World.size_setCell, World.size_drew]) <;> omega)) | ((with_reducible refine RS.setRow ?_ ?_ _) <;> try ((try simp only [World.size_alloc, World.size_setCell, World.size_drew]) <;> omega)) | ((with_reducible refine RS.setCell ?_ ?_ _) <;> try ((try simp only [World.size_alloc, World.size_setCell, World.size_drew]) <;> omega)) | ((with_reducible refine RS.setCells ?_ ?_ _ _) <;> try ((try simp only [World.size_alloc, World.size_setCell, World.size_drew]) <;> omega)) | (with_reducible apply RS.drewN) | (with_reducible apply RS.drew)))) (by (repeat (first | with_reducible assumption | ((with_reducible refine RS.below (by assumption) ?_ ?_) <;> try ((try simp only [World.size_alloc, World.size_setCell, World.size_drew]) <;> omega)) | ((with_reducible refine RS.alloc ?_ ?_ _) <;> try ((try simp only [World.size_alloc, World.size_setCell, World.size_drew]) <;> omega)) | ((with_reducible refine RS.setRow ?_ ?_ _) <;> try ((try simp only [World.size_alloc, World.size_setCell, World.size_drew]) <;> omega)) | ((with_reducible refine RS.setCell ?_ ?_ _) <;> try ((try simp only [World.size_alloc, World.size_setCell, World.size_drew]) <;> omega)) | ((with_reducible refine RS.setCells ?_ ?_ _ _) <;> try ((try simp only [World.size_alloc, World.size_setCell, World.size_drew]) <;> omega)) | (with_reducible apply RS.drewN) | (with_reducible apply RS.drew)))) (by ((try simp only [World.size_alloc, World.size_setCell, World.size_drew]) <;> omega)) (by ((try simp only [World.size_alloc, World.size_setCell, World.size_drew]) <;> omega)) (by ((try simp only [World.size_alloc, World.size_setCell, World.size_drew]) <;> omega)) (by ((try simp only [World.size_alloc, World.size_setCell, World.size_drew]) <;> omega)) (by omega) (by omega)).mono ?_; rintro e w8 ⟨rfl, hO_w8⟩; have hz_w8 := hO_w8.size; (try simp only [World.size_alloc, World.size_setCell, World.size_drew] at hz_w8); have hs_w8_0 : w.heap.size < w8.heap.size := (by omega); have c_w8_0 := fun o => (bcell hO_w8).1 (w.heap.size) o (by (try simp only [World.size_alloc, World.size_setCell, World.size_drew]) <;> omega); have f_w8_0 := fun o => (bcell hO_w8).2 (w.heap.size) o (by (try simp only [World.size_alloc, World.size_setCell, World.size_drew]) <;> omega); have hs_w8_1 : w3.heap.size < w8.heap.size := (by omega); have c_w8_1 := fun o => (bcell hO_w8).1 (w3.heap.size) o (by (try simp only [World.size_alloc, World.size_setCell, World.size_drew]) <;> omega); have f_w8_1 := fun o => (bcell hO_w8).2 (w3.heap.size) o (by (try simp only [World.size_alloc, World.size_setCell, World.size_drew]) <;> omega); have hs_w8_2 : w4.heap.size < w8.heap.size := (by omega); have c_w8_2 := fun o => (bcell hO_w8).1 (w4.heap.size) o (by (try simp only [World.size_alloc, World.size_setCell, World.size_drew]) <;> omega); have f_w8_2 := fun o => (bcell hO_w8).2 (w4.heap.size) o (by (try simp only [World.size_alloc, World.size_setCell, World.size_drew]) <;> omega); have hs_w8_3 : w5.heap.size < w8.heap.size := (by omega); have c_w8_3 := fun o => (bcell hO_w8).1 (w5.heap.size) o (by (try simp only [World.size_alloc, World.size_setCell, World.size_drew]) <;> omega); have f_w8_3 := fun o => (bcell hO_w8).2 (w5.heap.size) o (by (try simp only [World.size_alloc, World.size_setCell, World.size_drew]) <;> omega))))
    have b48 : Hid (Below w4.heap.size w4 w8) := by
      refine Lib.hid ?_
      (repeat (first | with_reducible exact Below.refl _ _ | ((with_reducible refine viaO (by assumption) ?_ ?_ ?_) <;> try ((try simp only [World.size_alloc, World.size_setCell, World.size_drew]) <;> omega)) | ((with_reducible refine Below.alloc ?_ ?_ _) <;> try ((try simp only [World.size_alloc, World.size_setCell, World.size_drew]) <;> omega)) | ((with_reducible refine Below.setCell ?_ ?_ _) <;> try ((try simp only [World.size_alloc, World.size_setCell, World.size_drew]) <;> omega)) | (with_reducible refine below_drewN ?_ _) | (with_reducible refine Below.drew ?_) | ((with_reducible refine via (by assumption) ?_ ?_) <;> try ((try simp only [World.size_alloc, World.size_setCell, World.size_drew]) <;> omega))))
    have b58 : Hid (Below w5.heap.size w5 w8) := by
      refine Lib.hid ?_
      (repeat (first | with_reducible exact Below.refl _ _ | ((with_reducible refine viaO (by assumption) ?_ ?_ ?_) <;> try ((try simp only [World.size_alloc, World.size_setCell, World.size_drew]) <;> omega)) | ((with_reducible refine Below.alloc ?_ ?_ _) <;> try ((try simp only [World.size_alloc, World.size_setCell, World.size_drew]) <;> omega)) | ((with_reducible refine Below.setCell ?_ ?_ _) <;> try ((try simp only [World.size_alloc, World.size_setCell, World.size_drew]) <;> omega)) | (with_reducible refine below_drewN ?_ _) | (with_reducible refine Below.drew ?_) | ((with_reducible refine via (by assumption) ?_ ?_) <;> try ((try simp only [World.size_alloc, World.size_setCell, World.size_drew]) <;> omega))))
    have b38 : Hid (Below w3.heap.size w3 w8) := by
      refine Lib.hid ?_
      (repeat (first | with_reducible exact Below.refl _ _ | ((with_reducible refine viaO (by assumption) ?_ ?_ ?_) <;> try ((try simp only [World.size_alloc, World.size_setCell, World.size_drew]) <;> omega)) | ((with_reducible refine Below.alloc ?_ ?_ _) <;> try ((try simp only [World.size_alloc, World.size_setCell, World.size_drew]) <;> omega)) | ((with_reducible refine Below.setCell ?_ ?_ _) <;> try ((try simp only [World.size_alloc, World.size_setCell, World.size_drew]) <;> omega)) | (with_reducible refine below_drewN ?_ _) | (with_reducible refine Below.drew ?_) | ((with_reducible refine via (by assumption) ?_ ?_) <;> try ((try simp only [World.size_alloc, World.size_setCell, World.size_drew]) <;> omega))))
    have b08 : Hid (Below w.heap.size w w8) := by
      refine Lib.hid ?_
      (repeat (first | with_reducible exact Below.refl _ _ | ((with_reducible refine viaO (by assumption) ?_ ?_ ?_) <;> try ((try simp only [World.size_alloc, World.size_setCell, World.size_drew]) <;> omega)) | ((with_reducible refine Below.alloc ?_ ?_ _) <;> try ((try simp only [World.size_alloc, World.size_setCell, World.size_drew]) <;> omega)) | ((with_reducible refine Below.setCell ?_ ?_ _) <;> try ((try simp only [World.size_alloc, World.size_setCell, World.size_drew]) <;> omega)) | (with_reducible refine below_drewN ?_ _) | (with_reducible refine Below.drew ?_) | ((with_reducible refine via (by assumption) ?_ ?_) <;> try ((try simp only [World.size_alloc, World.size_setCell, World.size_drew]) <;> omega))))
    have c08 : Hid (Below (w.heap.size + 1) (w.alloc (.cells #[.int .i64 W, .slice A n c, .slice B m d, .int .i64 X, .int .i64 Y] 39)) w8) := by
      refine Lib.hid ?_
      (repeat (first | with_reducible exact Below.refl _ _ | ((with_reducible refine viaO (by assumption) ?_ ?_ ?_) <;> try ((try simp only [World.size_alloc, World.size_setCell, World.size_drew]) <;> omega)) | ((with_reducible refine Below.alloc ?_ ?_ _) <;> try ((try simp only [World.size_alloc, World.size_setCell, World.size_drew]) <;> omega)) | ((with_reducible refine Below.setCell ?_ ?_ _) <;> try ((try simp only [World.size_alloc, World.size_setCell, World.size_drew]) <;> omega)) | (with_reducible refine below_drewN ?_ _) | (with_reducible refine Below.drew ?_) | ((with_reducible refine via (by assumption) ?_ ?_) <;> try ((try simp only [World.size_alloc, World.size_setCell, World.size_drew]) <;> omega))))
    have c38 : Hid (Below (w3.heap.size + 1) (w3.alloc (.cells #[.int .i64 W1, .slice A3 n1 cap3, .slice B3 m1 kap3, .int .i64 X1, .int .i64 Y1] 26)) w8) := by
      refine Lib.hid ?_
      (repeat (first | with_reducible exact Below.refl _ _ | ((with_reducible refine viaO (by assumption) ?_ ?_ ?_) <;> try ((try simp only [World.size_alloc, World.size_setCell, World.size_drew]) <;> omega)) | ((with_reducible refine Below.alloc ?_ ?_ _) <;> try ((try simp only [World.size_alloc, World.size_setCell, World.size_drew]) <;> omega)) | ((with_reducible refine Below.setCell ?_ ?_ _) <;> try ((try simp only [World.size_alloc, World.size_setCell, World.size_drew]) <;> omega)) | (with_reducible refine below_drewN ?_ _) | (with_reducible refine Below.drew ?_) | ((with_reducible refine via (by assumption) ?_ ?_) <;> try ((try simp only [World.size_alloc, World.size_setCell, World.size_drew]) <;> omega))))
    have c48 : Hid (Below (w4.heap.size + 1) (w4.alloc (.cells #[.int .i64 W, .slice A4 n cap4, .slice B4 m kap4, .int .i64 X, .int .i64 Y] 26)) w8) := by
      refine Lib.hid ?_
      (repeat (first | with_reducible exact Below.refl _ _ | ((with_reducible refine viaO (by assumption) ?_ ?_ ?_) <;> try ((try simp only [World.size_alloc, World.size_setCell, World.size_drew]) <;> omega)) | ((with_reducible refine Below.alloc ?_ ?_ _) <;> try ((try simp only [World.size_alloc, World.size_setCell, World.size_drew]) <;> omega)) | ((with_reducible refine Below.setCell ?_ ?_ _) <;> try ((try simp only [World.size_alloc, World.size_setCell, World.size_drew]) <;> omega)) | (with_reducible refine below_drewN ?_ _) | (with_reducible refine Below.drew ?_) | ((with_reducible refine via (by assumption) ?_ ?_) <;> try ((try simp only [World.size_alloc, World.size_setCell, World.size_drew]) <;> omega))))
    have c58 : Hid (Below (w5.heap.size + 1) (w5.alloc (.cells #[.int .i64 W1, .slice A5 n1 cap5, .slice B5 m1 kap5, .int .i64 X1, .int .i64 Y1] 26)) w8) := by
      refine Lib.hid ?_
      (repeat (first | with_reducible exact Below.refl _ _ | ((with_reducible refine viaO (by assumption) ?_ ?_ ?_) <;> try ((try simp only [World.size_alloc, World.size_setCell, World.size_drew]) <;> omega)) | ((with_reducible refine Below.alloc ?_ ?_ _) <;> try ((try simp only [World.size_alloc, World.size_setCell, World.size_drew]) <;> omega)) | ((with_reducible refine Below.setCell ?_ ?_ _) <;> try ((try simp only [World.size_alloc, World.size_setCell, World.size_drew]) <;> omega)) | (with_reducible refine below_drewN ?_ _) | (with_reducible refine Below.drew ?_) | ((with_reducible refine via (by assumption) ?_ ?_) <;> try ((try simp only [World.size_alloc, World.size_setCell, World.size_drew]) <;> omega))))
    have F0 := Lib.hid (FB.below c08.out (FB.new w _ _ _ _ _ _ _ _ _ _) (by omega))
    have F3 := Lib.hid (FB.below c38.out (FB.new w3 _ _ _ _ _ _ _ _ _ _) (by omega))
    have F4 := FB.below c48.out (FB.new w4 _ _ _ _ _ _ _ _ _ _) (by omega)
    have F5 := Lib.hid (FB.below c58.out (FB.new w5 _ _ _ _ _ _ _ _ _ _) (by omega))
    have R4 := Lib.hid (own_below H4.out b48.out (Nat.le_refl _))
    have Q4 := Lib.hid (own_below G4.out b48.out (Nat.le_refl _))
    have R5 := Lib.hid (own_below H5.out b58.out (Nat.le_refl _))
    have Q5 := Lib.hid (own_below G5.out b58.out (Nat.le_refl _))
    have TA := Lib.hid (RS.below b08.out hA (Nat.le_refl _))
    have TB := Lib.hid (RS.below b08.out hB (Nat.le_refl _))
    have T3 := Lib.hid (RS.below b38.out s3 (Nat.le_refl _))
    have U3 := Lib.hid (RS.below b38.out t3 (Nat.le_refl _))
    have B0 := Lib.hid b08.out
    obtain ⟨d0, d1, d2, d3, d4⟩ := F4.cells
    have hz8 := c58.out.size
    simp only [World.size_alloc] at hz8
    have z1 : w.heap.size < w3.heap.size := by omega
    have z2 : w3.heap.size < w4.heap.size := by omega
    have z3 : w4.heap.size < w5.heap.size := by omega
    clear b48 b58 b38 b08 c08 c38 c48 c58 F4 H4 G4 H5 G5 hA hB s3 t3 s4 t4 s5 t5 s7 t7 h7 g7 hd7 hO_w1 hO_w2 hO_w3 hO_w4 hO_w5 hO_w6 hO_w7 hO_w8
    clear c_w1_0 f_w1_0 c_w2_0 f_w2_0 c_w3_0 f_w3_0 c_w4_0 f_w4_0 c_w4_1 f_w4_1 c_w5_0 f_w5_0 c_w5_1 f_w5_1 c_w5_2 f_w5_2 c_w6_0 f_w6_0 c_w6_1 f_w6_1 c_w6_2 f_w6_2 c_w6_3 f_w6_3 c_w7_0 f_w7_0 c_w7_1 f_w7_1 c_w7_2 f_w7_2 c_w7_3 f_w7_3 c_w8_0 f_w8_0 c_w8_1 f_w8_1 c_w8_2 f_w8_2 c_w8_3 f_w8_3
    (try clear hHeld)
    go_wp2_with fail
    refine (markField_c W A4 n cap4 B4 m kap4 X Y 1 _ _ p q w8 R4.out Q4.out D4.out (by omega) (by omega) (by omega) (by omega)).mono ?_
    rintro e w9 ⟨rfl, -, -, w9', hG1, hG2⟩
    have hO_w9 : Below (w3.heap.size + 1) w8 w9 := ((Below.refl _ _).grown hG1 (by omega) (fun g hg => (L4.out g hg).1)).grown hG2 (by have := hG1.size; omega) (fun g hg => (M4.out g hg).1)
    have hz_w9 := hO_w9.size
    have nA : ∀ x, (Value.slice A4 n cap4).ownBlock = some x → x ≠ w5.heap.size := fun x hx => by have := (L4.out x hx).2; omega
    have nB : ∀ x, (Value.slice B4 m kap4).ownBlock = some x → x ≠ w5.heap.size := fun x hx => by have := (M4.out x hx).2; omega
    have ne : ∀ {u u' : Option Nat}, (∀ g, u = some g → w4.heap.size + 1 ≤ g ∧ g < w5.heap.size) → (∀ g, u' = some g → w3.heap.size + 1 ≤ g ∧ g < w4.heap.size) → u = none ∨ u ≠ u' := fun {u u'} h1 h2 => by
      cases hu : u with
      | none => exact .inl rfl
      | some x =>
        refine .inr fun hy => ?_
        have e1 := (h1 x hu).1
        have e2 := (h2 x hy.symm).2
        omega
    have F5a := fb_grown (fb_grown F5.out hG1 nA) hG2 nB
    have R5a := Lib.hid ((R5.out.kept hG1 (ne L5.out L4.out)).kept hG2 (ne L5.out M4.out))
    have Q5a := Lib.hid ((Q5.out.kept hG1 (ne M5.out L4.out)).kept hG2 (ne M5.out M4.out))
    have F0a := Lib.hid (FB.below hO_w9 F0.out (by omega))
    have F3a := FB.below hO_w9 F3.out (by omega)
    have TAa := Lib.hid (RS.below hO_w9 TA.out (by omega))
    have TBa := Lib.hid (RS.below hO_w9 TB.out (by omega))
    have T3a := Lib.hid (RS.below hO_w9 T3.out (by omega))
    have U3a := Lib.hid (RS.below hO_w9 U3.out (by omega))
    have B0a := Lib.hid (B0.out.trans (hO_w9.mono (by omega)))
    have S5a := Lib.hid (own_rs R5a.out)
    have V5a := Lib.hid (own_rs Q5a.out)
    obtain ⟨e0, e1, e2, e3, e4⟩ := F5a.cells
    obtain ⟨i0, i1, i2, i3, i4⟩ := F3a.cells
    have k2 : ¬ (1 : Int) + n + 64 * m < 0 := by omega
    have HF5 := Lib.hid F5a
    have HF3 := Lib.hid F3a
    clear hG1 hG2 F5a F3a d0 d1 d2 d3 d4 nA nB F5 F0 F3 R5 Q5 TA TB T3 U3 B0 R4 Q4 D4 hO_w9
    go_wp2_with fail
    refine (eqField_c _ _ _ _ _ _ _ _ _ _ _ _ _ p q _ (C1 := w9.heap.size) (C2 := w9.heap.size) (C3 := w3.heap.size) (C4 := w3.heap.size) S5a.out V5a.out T3a.out U3a.out (by ((try simp only [World.size_alloc, World.size_setCell, World.size_drew]) <;> omega)) (by ((try simp only [World.size_alloc, World.size_setCell, World.size_drew]) <;> omega)) (by ((try simp only [World.size_alloc, World.size_setCell, World.size_drew]) <;> omega)) (by ((try simp only [World.size_alloc, World.size_setCell, World.size_drew]) <;> omega)) (by omega) (by omega)).mono ?_
    rintro e w10 ⟨rfl, hO_w10⟩
    have hz_w10 := hO_w10.size
    (try simp only [World.size_alloc, World.size_setCell, World.size_drew] at hz_w10)
    have R5b := Lib.hid (own_below R5a.out hO_w10 (Nat.le_refl _))
    have Q5b := Lib.hid (own_below Q5a.out hO_w10 (Nat.le_refl _))
    have F5b := FB.below hO_w10 HF5.out (by omega)
    have F3b := Lib.hid (FB.below hO_w10 HF3.out (by omega))
    have F0b := Lib.hid (FB.below hO_w10 F0a.out (by omega))
    have TAb := Lib.hid (RS.below hO_w10 TAa.out (by omega))
    have TBb := Lib.hid (RS.below hO_w10 TBa.out (by omega))
    have T3b := Lib.hid (RS.below hO_w10 T3a.out (by omega))
    have U3b := Lib.hid (RS.below hO_w10 U3a.out (by omega))
    have B0b := Lib.hid (B0a.out.trans (hO_w10.mono (by omega)))
    clear e0 e1 e2 e3 e4 i0 i1 i2 i3 i4 HF5 HF3 F0a TAa TBa T3a U3a B0a S5a V5a R5a Q5a hO_w10
    obtain ⟨e0, e1, e2, e3, e4⟩ := F5b.cells
    go_wp2_with fail
    refine (markField_c W1 A5 n1 cap5 B5 m1 kap5 X1 Y1 1 _ _ p q w10 R5b.out Q5b.out D5.out (by omega) (by omega) (by omega) (by omega)).mono ?_
    rintro e w11 ⟨rfl, R5c, Q5c, w11', hG1, hG2⟩
    have hO_w11 : Below (w4.heap.size + 1) w10 w11 := ((Below.refl _ _).grown hG1 (by omega) (fun g hg => (L5.out g hg).1)).grown hG2 (by have := hG1.size; omega) (fun g hg => (M5.out g hg).1)
    have hz_w11 := hO_w11.size
    have nA : ∀ x, (Value.slice A5 n1 cap5).ownBlock = some x → x ≠ w5.heap.size := fun x hx => by have := (L5.out x hx).2; omega
    have nB : ∀ x, (Value.slice B5 m1 kap5).ownBlock = some x → x ≠ w5.heap.size := fun x hx => by have := (M5.out x hx).2; omega
    have F5c := fb_grown (fb_grown F5b hG1 nA) hG2 nB
    have S5c := Lib.hid (own_rs R5c)
    have V5c := Lib.hid (own_rs Q5c)
    have F3c := FB.below hO_w11 F3b.out (by omega)
    have F0c := FB.below hO_w11 F0b.out (by omega)
    have hA := RS.below hO_w11 TAb.out (by omega)
    have hB := RS.below hO_w11 TBb.out (by omega)
    have T3c := Lib.hid (RS.below hO_w11 T3b.out (by omega))
    have U3c := Lib.hid (RS.below hO_w11 U3b.out (by omega))
    have B0c := Lib.hid (B0b.out.trans (hO_w11.mono (by omega)))
    have m1' : 0 ≤ (1 : Int) + n1 + 64 * m1 := by omega
    have m2' : ¬ (1 : Int) + n1 + 64 * m1 < 0 := by omega
    clear hG1 hG2 e0 e1 e2 e3 e4 R5c Q5c nA nB F5b F3b F0b TAb TBb T3b U3b B0b R5b Q5b D5 hO_w11 ne
    obtain ⟨e0, e1, e2, e3, e4⟩ := F5c.cells
    obtain ⟨i0, i1, i2, i3, i4⟩ := F3c.cells
    obtain ⟨c0, c1, c2, c3, c4⟩ := F0c.cells
    clear F5c F3c F0c
    go_wp2_with fail
    refine (heldField_c W1 A5 n1 cap5 B5 m1 kap5 X1 Y1 1 _ (C := w11.heap.size) (C' := w11.heap.size) S5c.out V5c.out (by ((try simp only [World.size_alloc, World.size_setCell, World.size_drew]) <;> omega)) (by ((try simp only [World.size_alloc, World.size_setCell, World.size_drew]) <;> omega)) (by omega) (by omega) (by omega) (by omega)).mono ?_
    rintro e w12 ⟨rfl, hO_w12⟩
    have hz_w12 := hO_w12.size
    (try simp only [World.size_alloc, World.size_setCell, World.size_drew] at hz_w12)
    have hs_w12_0 : w.heap.size < w12.heap.size := (by omega)
    have c_w12_0 := fun o => (bcell hO_w12).1 (w.heap.size) o (by (try simp only [World.size_alloc, World.size_setCell, World.size_drew]) <;> omega)
    have f_w12_0 := fun o => (bcell hO_w12).2 (w.heap.size) o (by (try simp only [World.size_alloc, World.size_setCell, World.size_drew]) <;> omega)
    have hs_w12_1 : w3.heap.size < w12.heap.size := (by omega)
    have c_w12_1 := fun o => (bcell hO_w12).1 (w3.heap.size) o (by (try simp only [World.size_alloc, World.size_setCell, World.size_drew]) <;> omega)
    have f_w12_1 := fun o => (bcell hO_w12).2 (w3.heap.size) o (by (try simp only [World.size_alloc, World.size_setCell, World.size_drew]) <;> omega)
    have hs_w12_2 : w5.heap.size < w12.heap.size := (by omega)
    have c_w12_2 := fun o => (bcell hO_w12).1 (w5.heap.size) o (by (try simp only [World.size_alloc, World.size_setCell, World.size_drew]) <;> omega)
    have f_w12_2 := fun o => (bcell hO_w12).2 (w5.heap.size) o (by (try simp only [World.size_alloc, World.size_setCell, World.size_drew]) <;> omega)
    go_wp2_with fail
    refine (toField_c W A n c B m d X Y p q _ (C := w.heap.size) (C' := w.heap.size) (by (repeat (first | with_reducible assumption | ((with_reducible refine RS.below (by assumption) ?_ ?_) <;> try ((try simp only [World.size_alloc, World.size_setCell, World.size_drew]) <;> omega)) | ((with_reducible refine RS.alloc ?_ ?_ _) <;> try ((try simp only [World.size_alloc, World.size_setCell, World.size_drew]) <;> omega)) | ((with_reducible refine RS.setRow ?_ ?_ _) <;> try ((try simp only [World.size_alloc, World.size_setCell, World.size_drew]) <;> omega)) | ((with_reducible refine RS.setCell ?_ ?_ _) <;> try ((try simp only [World.size_alloc, World.size_setCell, World.size_drew]) <;> omega)) | ((with_reducible refine RS.setCells ?_ ?_ _ _) <;> try ((try simp only [World.size_alloc, World.size_setCell, World.size_drew]) <;> omega)) | (with_reducible apply RS.drewN) | (with_reducible apply RS.drew)))) (by (repeat (first | with_reducible assumption | ((with_reducible refine RS.below (by assumption) ?_ ?_) <;> try ((try simp only [World.size_alloc, World.size_setCell, World.size_drew]) <;> omega)) | ((with_reducible refine RS.alloc ?_ ?_ _) <;> try ((try simp only [World.size_alloc, World.size_setCell, World.size_drew]) <;> omega)) | ((with_reducible refine RS.setRow ?_ ?_ _) <;> try ((try simp only [World.size_alloc, World.size_setCell, World.size_drew]) <;> omega)) | ((with_reducible refine RS.setCell ?_ ?_ _) <;> try ((try simp only [World.size_alloc, World.size_setCell, World.size_drew]) <;> omega)) | ((with_reducible refine RS.setCells ?_ ?_ _ _) <;> try ((try simp only [World.size_alloc, World.size_setCell, World.size_drew]) <;> omega)) | (with_reducible apply RS.drewN) | (with_reducible apply RS.drew)))) (by ((try simp only [World.size_alloc, World.size_setCell, World.size_drew]) <;> omega)) (by ((try simp only [World.size_alloc, World.size_setCell, World.size_drew]) <;> omega)) (by omega) (by omega)).mono ?_
    rintro e w13 ⟨A13, cap13, B13, kap13, rfl, h13, g13, hd13, hO_w13⟩
    have hz_w13 := hO_w13.size
    (try simp only [World.size_alloc, World.size_setCell, World.size_drew] at hz_w13)
    have hs_w13_0 : w.heap.size < w13.heap.size := (by omega)
    have c_w13_0 := fun o => (bcell hO_w13).1 (w.heap.size) o (by (try simp only [World.size_alloc, World.size_setCell, World.size_drew]) <;> omega)
    have f_w13_0 := fun o => (bcell hO_w13).2 (w.heap.size) o (by (try simp only [World.size_alloc, World.size_setCell, World.size_drew]) <;> omega)
    have hs_w13_1 : w3.heap.size < w13.heap.size := (by omega)
    have c_w13_1 := fun o => (bcell hO_w13).1 (w3.heap.size) o (by (try simp only [World.size_alloc, World.size_setCell, World.size_drew]) <;> omega)
    have f_w13_1 := fun o => (bcell hO_w13).2 (w3.heap.size) o (by (try simp only [World.size_alloc, World.size_setCell, World.size_drew]) <;> omega)
    have hs_w13_2 : w5.heap.size < w13.heap.size := (by omega)
    have c_w13_2 := fun o => (bcell hO_w13).1 (w5.heap.size) o (by (try simp only [World.size_alloc, World.size_setCell, World.size_drew]) <;> omega)
    have f_w13_2 := fun o => (bcell hO_w13).2 (w5.heap.size) o (by (try simp only [World.size_alloc, World.size_setCell, World.size_drew]) <;> omega)
    have s13 := own_rs h13
    have t13 := own_rs g13
    go_wp2_with fail
    refine (HI.out _ _ _ _ _ w13.heap.size w13.heap.size (by (repeat (first | with_reducible assumption | ((with_reducible refine RS.below (by assumption) ?_ ?_) <;> try ((try simp only [World.size_alloc, World.size_setCell, World.size_drew]) <;> omega)) | ((with_reducible refine RS.alloc ?_ ?_ _) <;> try ((try simp only [World.size_alloc, World.size_setCell, World.size_drew]) <;> omega)) | ((with_reducible refine RS.setRow ?_ ?_ _) <;> try ((try simp only [World.size_alloc, World.size_setCell, World.size_drew]) <;> omega)) | ((with_reducible refine RS.setCell ?_ ?_ _) <;> try ((try simp only [World.size_alloc, World.size_setCell, World.size_drew]) <;> omega)) | ((with_reducible refine RS.setCells ?_ ?_ _ _) <;> try ((try simp only [World.size_alloc, World.size_setCell, World.size_drew]) <;> omega)) | (with_reducible apply RS.drewN) | (with_reducible apply RS.drew)))) (by (repeat (first | with_reducible assumption | ((with_reducible refine RS.below (by assumption) ?_ ?_) <;> try ((try simp only [World.size_alloc, World.size_setCell, World.size_drew]) <;> omega)) | ((with_reducible refine RS.alloc ?_ ?_ _) <;> try ((try simp only [World.size_alloc, World.size_setCell, World.size_drew]) <;> omega)) | ((with_reducible refine RS.setRow ?_ ?_ _) <;> try ((try simp only [World.size_alloc, World.size_setCell, World.size_drew]) <;> omega)) | ((with_reducible refine RS.setCell ?_ ?_ _) <;> try ((try simp only [World.size_alloc, World.size_setCell, World.size_drew]) <;> omega)) | ((with_reducible refine RS.setCells ?_ ?_ _ _) <;> try ((try simp only [World.size_alloc, World.size_setCell, World.size_drew]) <;> omega)) | (with_reducible apply RS.drewN) | (with_reducible apply RS.drew)))) (by ((try simp only [World.size_alloc, World.size_setCell, World.size_drew]) <;> omega)) (by ((try simp only [World.size_alloc, World.size_setCell, World.size_drew]) <;> omega))).mono ?_
    rintro e w14 ⟨A14, cap14, B14, kap14, rfl, h14, g14, hd14, hO_w14⟩
    have hz_w14 := hO_w14.size
    (try simp only [World.size_alloc, World.size_setCell, World.size_drew] at hz_w14)
    have hs_w14_0 : w.heap.size < w14.heap.size := (by omega)
    have c_w14_0 := fun o => (bcell hO_w14).1 (w.heap.size) o (by (try simp only [World.size_alloc, World.size_setCell, World.size_drew]) <;> omega)
    have f_w14_0 := fun o => (bcell hO_w14).2 (w.heap.size) o (by (try simp only [World.size_alloc, World.size_setCell, World.size_drew]) <;> omega)
    have hs_w14_1 : w3.heap.size < w14.heap.size := (by omega)
    have c_w14_1 := fun o => (bcell hO_w14).1 (w3.heap.size) o (by (try simp only [World.size_alloc, World.size_setCell, World.size_drew]) <;> omega)
    have f_w14_1 := fun o => (bcell hO_w14).2 (w3.heap.size) o (by (try simp only [World.size_alloc, World.size_setCell, World.size_drew]) <;> omega)
    have hs_w14_2 : w5.heap.size < w14.heap.size := (by omega)
    have c_w14_2 := fun o => (bcell hO_w14).1 (w5.heap.size) o (by (try simp only [World.size_alloc, World.size_setCell, World.size_drew]) <;> omega)
    have f_w14_2 := fun o => (bcell hO_w14).2 (w5.heap.size) o (by (try simp only [World.size_alloc, World.size_setCell, World.size_drew]) <;> omega)
    have s14 := own_rs h14
    have t14 := own_rs g14
    have H14 := Lib.hid s14
    have T14 := Lib.hid t14
    have hb13 : Hid (Below w11.heap.size w11 w14) := Lib.hid ((hO_w12.mono (by omega)).trans ((hO_w13.mono (by omega)).trans (hO_w14.mono (by omega))))
    have T3d := Lib.hid (RS.below hb13.out T3c.out (by omega))
    have U3d := Lib.hid (RS.below hb13.out U3c.out (by omega))
    have S5d := Lib.hid (RS.below hb13.out S5c.out (by omega))
    have V5d := Lib.hid (RS.below hb13.out V5c.out (by omega))
    clear h13 g13 hd13 s13 t13 h14 g14 hd14 s14 t14 hA hB hO_w12 hO_w13 hO_w14
    go_wp2_with fail
    refine (eqField_c _ _ _ _ _ _ _ _ _ _ _ _ _ p q _ (C1 := w14.heap.size) (C2 := w14.heap.size) (C3 := w3.heap.size) (C4 := w3.heap.size) (RS.alloc H14.out (by ((try simp only [World.size_alloc, World.size_setCell, World.size_drew]) <;> omega)) _) (RS.alloc T14.out (by ((try simp only [World.size_alloc, World.size_setCell, World.size_drew]) <;> omega)) _) (RS.alloc T3d.out (by ((try simp only [World.size_alloc, World.size_setCell, World.size_drew]) <;> omega)) _) (RS.alloc U3d.out (by ((try simp only [World.size_alloc, World.size_setCell, World.size_drew]) <;> omega)) _) (by ((try simp only [World.size_alloc, World.size_setCell, World.size_drew]) <;> omega)) (by ((try simp only [World.size_alloc, World.size_setCell, World.size_drew]) <;> omega)) (by ((try simp only [World.size_alloc, World.size_setCell, World.size_drew]) <;> omega)) (by ((try simp only [World.size_alloc, World.size_setCell, World.size_drew]) <;> omega)) (by omega) (by omega)).mono ?_
    rintro e w15 ⟨rfl, hO_w15⟩
    have hz_w15 := hO_w15.size
    (try simp only [World.size_alloc, World.size_setCell, World.size_drew] at hz_w15)
    have hs_w15_0 : w.heap.size < w15.heap.size := (by omega)
    have c_w15_0 := fun o => (bcell hO_w15).1 (w.heap.size) o (by (try simp only [World.size_alloc, World.size_setCell, World.size_drew]) <;> omega)
    have f_w15_0 := fun o => (bcell hO_w15).2 (w.heap.size) o (by (try simp only [World.size_alloc, World.size_setCell, World.size_drew]) <;> omega)
    have hs_w15_1 : w3.heap.size < w15.heap.size := (by omega)
    have c_w15_1 := fun o => (bcell hO_w15).1 (w3.heap.size) o (by (try simp only [World.size_alloc, World.size_setCell, World.size_drew]) <;> omega)
    have f_w15_1 := fun o => (bcell hO_w15).2 (w3.heap.size) o (by (try simp only [World.size_alloc, World.size_setCell, World.size_drew]) <;> omega)
    have hs_w15_2 : w5.heap.size < w15.heap.size := (by omega)
    have c_w15_2 := fun o => (bcell hO_w15).1 (w5.heap.size) o (by (try simp only [World.size_alloc, World.size_setCell, World.size_drew]) <;> omega)
    have f_w15_2 := fun o => (bcell hO_w15).2 (w5.heap.size) o (by (try simp only [World.size_alloc, World.size_setCell, World.size_drew]) <;> omega)
    go_wp2_with fail
    refine (heldField_c W1 A5 n1 cap5 B5 m1 kap5 X1 Y1 1 _ (C := w11.heap.size) (C' := w11.heap.size) (RS.below hO_w15 (RS.alloc S5d.out (by ((try simp only [World.size_alloc, World.size_setCell, World.size_drew]) <;> omega)) _) (by ((try simp only [World.size_alloc, World.size_setCell, World.size_drew]) <;> omega))) (RS.below hO_w15 (RS.alloc V5d.out (by ((try simp only [World.size_alloc, World.size_setCell, World.size_drew]) <;> omega)) _) (by ((try simp only [World.size_alloc, World.size_setCell, World.size_drew]) <;> omega))) (by ((try simp only [World.size_alloc, World.size_setCell, World.size_drew]) <;> omega)) (by ((try simp only [World.size_alloc, World.size_setCell, World.size_drew]) <;> omega)) (by omega) (by omega) (by omega) (by omega)).mono ?_
    rintro e w16 ⟨rfl, hO_w16⟩
    have hz_w16 := hO_w16.size
    (try simp only [World.size_alloc, World.size_setCell, World.size_drew] at hz_w16)
    go_wp2
    go_ret
    refine ⟨rfl, B0c.out.trans ?_⟩
    refine (hb13.out.mono (by omega)).trans ?_
    (repeat (first | with_reducible exact Below.refl _ _ | ((with_reducible refine viaO (by assumption) ?_ ?_ ?_) <;> try ((try simp only [World.size_alloc, World.size_setCell, World.size_drew]) <;> omega)) | ((with_reducible refine Below.alloc ?_ ?_ _) <;> try ((try simp only [World.size_alloc, World.size_setCell, World.size_drew]) <;> omega)) | ((with_reducible refine Below.setCell ?_ ?_ _) <;> try ((try simp only [World.size_alloc, World.size_setCell, World.size_drew]) <;> omega)) | (with_reducible refine below_drewN ?_ _) | (with_reducible refine Below.drew ?_) | ((with_reducible refine via (by assumption) ?_ ?_) <;> try ((try simp only [World.size_alloc, World.size_setCell, World.size_drew]) <;> omega))))
  · have H1 := Lib.hid (fun w => szField_no W A n c B m d X Y w (by omega) (by omega) (by omega))
    go_enter Try.func11, Try.ntmps11
    go_wp2_with fail
    refine (H1.out _).mono ?_
    rintro e w1 ⟨rfl, hO_w1⟩
    have hz_w1 := hO_w1.size
    (try simp only [World.size_alloc, World.size_setCell, World.size_drew] at hz_w1)
    have hs_w1_0 : w.heap.size < w1.heap.size := (by omega)
    have c_w1_0 := fun o => (bcell hO_w1).1 (w.heap.size) o (by (try simp only [World.size_alloc, World.size_setCell, World.size_drew]) <;> omega)
    have f_w1_0 := fun o => (bcell hO_w1).2 (w.heap.size) o (by (try simp only [World.size_alloc, World.size_setCell, World.size_drew]) <;> omega)
    go_wp2
    go_ret
    refine ⟨rfl, ?_⟩
    (repeat (first | with_reducible exact Below.refl _ _ | ((with_reducible refine viaO (by assumption) ?_ ?_ ?_) <;> try ((try simp only [World.size_alloc, World.size_setCell, World.size_drew]) <;> omega)) | ((with_reducible refine Below.alloc ?_ ?_ _) <;> try ((try simp only [World.size_alloc, World.size_setCell, World.size_drew]) <;> omega)) | ((with_reducible refine Below.setCell ?_ ?_ _) <;> try ((try simp only [World.size_alloc, World.size_setCell, World.size_drew]) <;> omega)) | (with_reducible refine below_drewN ?_ _) | (with_reducible refine Below.drew ?_) | ((with_reducible refine via (by assumption) ?_ ?_) <;> try ((try simp only [World.size_alloc, World.size_setCell, World.size_drew]) <;> omega))))

set_option maxRecDepth 100000 in
theorem lifted (os : Os) (started : os.Started) (H : Type) (enc : TypeId × Value → H) :
    ReturnsInHanded {} Try.checked os 11 .any (Rows.fnExactShiftFieldSpec.pre6 enc Try.prog Try.f11 Rows.fnExactShiftFieldRow.domain false) (Rows.fnExactShiftFieldSpec.post enc Try.prog Try.f11 false true false false) := by
  refine returnsInHanded_of_change (C := Try.checked) own started (by kernel_rfl) Try.func11
    (ChangeSpec.witness6 (enc := enc) (C := Try.checked) false ⟨#[], #[.agg #[.int .i64 0, .slice none 0 0, .slice none 0 0, .int .i64 0, .int .i64 0], .int .i64 0, .int .i64 0], []⟩ 8 (by kernel_rfl) (by kernel_rfl) (by kernel_rfl) (by kernel_rfl)) ?_
  intro W base args ds gs before hval0 hW hcnd _
  have hval : ∀ (j : Nat) t v, Try.f11.params[j]? = some t → args[j]? = some v → Value.okWide Try.prog W .any base t v := hval0
  have hW' := hW
  obtain ⟨p, q, hA0, hV, rfl, hfz, hnd⟩ := hW
  have hA : DataW.TrodAll enc Try.prog W 0 (fun _ => true) true Try.f11.params.toList args.toList ds p := hA0
  rw [Try.params11] at hA hval
  obtain ⟨v0, vs0, d0, ds0, p0, q0, hargs, rfl, rfl, h0, r0⟩ := trodAll_cons hA
  obtain ⟨v1, vs1, d1, ds1, p1, q1, rfl, rfl, rfl, h1, r1⟩ := trodAll_cons r0
  obtain ⟨v2, vs2, d2, ds2, p2, q2, rfl, rfl, rfl, h2, r2⟩ := trodAll_cons r1
  obtain ⟨rfl, rfl, rfl⟩ := trodAll_nil r2
  obtain rfl : args = #[v0, v1, v2] := by cases args; simp_all
  obtain ⟨rfl, rfl⟩ := trodVars_none hV
  have lt0 : ∀ x ∈ p0, x.block < W.heap.size := by obtain ⟨m, hm⟩ := h0; exact DataW.trod_lt m _ _ _ hm
  have a0 := fieldArg (hval 0 39 v0 rfl rfl) h0
  have lt1 : ∀ x ∈ p1, x.block < W.heap.size := by obtain ⟨m, hm⟩ := h1; exact DataW.trod_lt m _ _ _ hm
  have a1 := intArg (hval 1 3 v1 rfl rfl) h1
  have lt2 : ∀ x ∈ p2, x.block < W.heap.size := by obtain ⟨m, hm⟩ := h2; exact DataW.trod_lt m _ _ _ hm
  have a2 := intArg (hval 2 3 v2 rfl rfl) h2
  clear hA0 hval0
  refine (walk v0 v1 v2 W a0 a1 a2).mono fun e W' ⟨he, bel⟩ => ?_
  subst he
  exact ⟨_, rfl, _, _, _, [], _, [], hW', trodAll_mk1 (shut_bool Try.underlying4 _), (trodAll_cons_mk (Below.trod laidOut (by kernel_rfl) (of_decide_eq_true (by kernel_rfl)) h0 bel lt0) (trodAll_cons_mk (Below.trod laidOut (by kernel_rfl) (of_decide_eq_true (by kernel_rfl)) h1 bel lt1) (trodAll_cons_mk (Below.trod laidOut (by kernel_rfl) (of_decide_eq_true (by kernel_rfl)) h2 bel lt2) trodAll_mk0))), rfl, bel.frame _, fun h => by cases h⟩

theorem proved : Rows.FnExactShiftFieldSaid :=
  OpenClaim.holds_of_wide 11 Try.f11 rfl rfl rfl rfl rfl rfl rfl ⟨rfl, rfl, rfl, rfl, rfl⟩ rfl rfl rfl rfl rfl (by kernel_rfl) Try.func11 (by kernel_rfl)
    (of_decide_eq_true (by kernel_rfl)) (by unfold Func.isWrapper; first | (rw [if_pos (by decide +kernel)]; kernel_rfl) | (rw [if_neg (by decide +kernel)]; exact ⟨rfl, rfl⟩))
    (fun os started H enc _ => lifted os started H enc)
#print axioms proved

end Go.Proofs.Ytojnfojecpdolaa.lawFnExactShiftField
