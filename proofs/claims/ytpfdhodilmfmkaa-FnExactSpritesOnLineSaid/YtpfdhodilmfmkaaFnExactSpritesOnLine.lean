/-
  The law FnExactSpritesOnLine holds: for every input the program's SpritesOnLine returns what the reference's returns, in memory of its own, and leaves its arguments. No conditions.
-/
import Derived.Test.YtpfdhodilmfmkaaSprOpen
import Derived.Test.YtpfdhodilmfmkaaSprTop
import Derived.Test.YtpfdhodilmfmkaaField2
import Derived.Test.YtpfdhodilmfmkaaSprMark
namespace Go.Proofs.Ytpfdhodilmfmkaa.lawFnExactSpritesOnLine
set_option linter.all false
set_option linter.unusedSimpArgs false
set_option linter.unusedVariables false
open Go.ChangeShapes Go.WideShapes Go.ChangeAt Go.RowKit

set_option maxHeartbeats 2000000 in
theorem walk (v0 v1 v2 : Value) (w : World) (h0 : SpritesArg w v0) (h1 : TilesArg w v1) (h2 : IntArg w v2) : Calls Try.prog 12 #[v0, v1, v2] w fun e w' => e = .returned (.bool true) ∧ Below w.heap.size w w' := by
  obtain ⟨A, n, c, s, rfl, hA, hnc, hc⟩ := h0
  obtain ⟨B, m, d, q, rfl, hB, hmd, hd⟩ := h1
  obtain ⟨y, rfl, _, _⟩ := h2
  unfold maxLen at hc hd
  by_cases g1 : n ≤ 1048576
  · have H1 := Lib.hid (fun w => by have := szSpriteS_c A n c 1048576 w (by omega) (by omega); rw [if_pos (by omega)] at this; exact this)
    have k1 : ¬ (1048576 : Int) - n < 0 := by omega
    by_cases g2 : n + m ≤ 1048576
    · have H2 := Lib.hid (fun w => by have := szTileS_c B m d (1048576 - (n : Int)) w (by omega) (by omega); rw [if_pos (by omega)] at this; exact this)
      have k2 : ¬ (1048576 : Int) - n - m < 0 := by omega
      obtain ⟨L, hL⟩ : ∃ L, solL n m s q y = L := ⟨_, rfl⟩
      have HI := Lib.hid (fun A c B d w C C' h1 h2 h3 h4 => isol_c A n c B m d s q y w (C := C) (C' := C') h1 h2 h3 h4 (by omega) (by omega))
      have HS := Lib.hid (fun A c B d w C C' h1 h2 h3 h4 => ssol_c A n c B m d s q y w (C := C) (C' := C') h1 h2 h3 h4 (by omega) (by omega))
      rw [hL] at HI HS
      have hle : L.length ≤ 4 := by rw [← hL]; exact solL_le n m s q y
      clear hL
      go_enter Try.func12, Try.ntmps12
      go_wp2_with fail
      refine (H1.out _).mono ?_
      rintro e w' ⟨rfl, rfl⟩
      go_wp2_with fail
      refine (H2.out _).mono ?_
      rintro e w' ⟨rfl, rfl⟩
      go_wp2_with fail
      refine (toSpriteS_c _ _ _ s _ (B := w.heap.size) (by (repeat (first | with_reducible assumption | ((with_reducible refine RS.below (by assumption) ?_ ?_) <;> try ((try simp only [World.size_alloc, World.size_setCell, World.size_drew]) <;> omega)) | ((with_reducible refine RS.alloc ?_ ?_ _) <;> try ((try simp only [World.size_alloc, World.size_setCell, World.size_drew]) <;> omega)) | ((with_reducible refine RS.setRow ?_ ?_ _) <;> try ((try simp only [World.size_alloc, World.size_setCell, World.size_drew]) <;> omega)) | ((with_reducible refine RS.setCell ?_ ?_ _) <;> try ((try simp only [World.size_alloc, World.size_setCell, World.size_drew]) <;> omega)) | ((with_reducible refine RS.setCells ?_ ?_ _ _) <;> try ((try simp only [World.size_alloc, World.size_setCell, World.size_drew]) <;> omega)) | (with_reducible apply RS.drewN) | (with_reducible apply RS.drew)))) (by ((try simp only [World.size_alloc, World.size_setCell, World.size_drew]) <;> omega)) g1).mono ?_
      rintro e w1 ⟨A1, cap1, rfl, h1, hO_w1⟩
      have hz_w1 := hO_w1.size
      (try simp only [World.size_alloc, World.size_setCell, World.size_drew] at hz_w1)
      have s1 := own_rs h1
      have l1 := own_cap h1
      go_wp2_with fail
      refine (toTileS_c _ _ _ q _ (B := w.heap.size) (by (repeat (first | with_reducible assumption | ((with_reducible refine RS.below (by assumption) ?_ ?_) <;> try ((try simp only [World.size_alloc, World.size_setCell, World.size_drew]) <;> omega)) | ((with_reducible refine RS.alloc ?_ ?_ _) <;> try ((try simp only [World.size_alloc, World.size_setCell, World.size_drew]) <;> omega)) | ((with_reducible refine RS.setRow ?_ ?_ _) <;> try ((try simp only [World.size_alloc, World.size_setCell, World.size_drew]) <;> omega)) | ((with_reducible refine RS.setCell ?_ ?_ _) <;> try ((try simp only [World.size_alloc, World.size_setCell, World.size_drew]) <;> omega)) | ((with_reducible refine RS.setCells ?_ ?_ _ _) <;> try ((try simp only [World.size_alloc, World.size_setCell, World.size_drew]) <;> omega)) | (with_reducible apply RS.drewN) | (with_reducible apply RS.drew)))) (by ((try simp only [World.size_alloc, World.size_setCell, World.size_drew]) <;> omega)) (by omega)).mono ?_
      rintro e w2 ⟨A2, cap2, rfl, h2, hO_w2⟩
      have hz_w2 := hO_w2.size
      (try simp only [World.size_alloc, World.size_setCell, World.size_drew] at hz_w2)
      have s2 := own_rs h2
      have l2 := own_cap h2
      go_wp2_with fail
      refine (HS.out _ _ _ _ _ w1.heap.size w2.heap.size (by (repeat (first | with_reducible assumption | ((with_reducible refine RS.below (by assumption) ?_ ?_) <;> try ((try simp only [World.size_alloc, World.size_setCell, World.size_drew]) <;> omega)) | ((with_reducible refine RS.alloc ?_ ?_ _) <;> try ((try simp only [World.size_alloc, World.size_setCell, World.size_drew]) <;> omega)) | ((with_reducible refine RS.setRow ?_ ?_ _) <;> try ((try simp only [World.size_alloc, World.size_setCell, World.size_drew]) <;> omega)) | ((with_reducible refine RS.setCell ?_ ?_ _) <;> try ((try simp only [World.size_alloc, World.size_setCell, World.size_drew]) <;> omega)) | ((with_reducible refine RS.setCells ?_ ?_ _ _) <;> try ((try simp only [World.size_alloc, World.size_setCell, World.size_drew]) <;> omega)) | (with_reducible apply RS.drewN) | (with_reducible apply RS.drew)))) (by (repeat (first | with_reducible assumption | ((with_reducible refine RS.below (by assumption) ?_ ?_) <;> try ((try simp only [World.size_alloc, World.size_setCell, World.size_drew]) <;> omega)) | ((with_reducible refine RS.alloc ?_ ?_ _) <;> try ((try simp only [World.size_alloc, World.size_setCell, World.size_drew]) <;> omega)) | ((with_reducible refine RS.setRow ?_ ?_ _) <;> try ((try simp only [World.size_alloc, World.size_setCell, World.size_drew]) <;> omega)) | ((with_reducible refine RS.setCell ?_ ?_ _) <;> try ((try simp only [World.size_alloc, World.size_setCell, World.size_drew]) <;> omega)) | ((with_reducible refine RS.setCells ?_ ?_ _ _) <;> try ((try simp only [World.size_alloc, World.size_setCell, World.size_drew]) <;> omega)) | (with_reducible apply RS.drewN) | (with_reducible apply RS.drew)))) (by ((try simp only [World.size_alloc, World.size_setCell, World.size_drew]) <;> omega)) (by ((try simp only [World.size_alloc, World.size_setCell, World.size_drew]) <;> omega))).mono ?_
      rintro e w3 ⟨A3, cap3, rfl, h3, hO_w3⟩
      have hz_w3 := hO_w3.size
      (try simp only [World.size_alloc, World.size_setCell, World.size_drew] at hz_w3)
      have s3 := own_rs h3
      have l3 := own_cap h3
      clear h1 h2 h3 s1 s2
      go_wp2_with fail
      refine (toSpriteS_c _ _ _ s _ (B := w.heap.size) (by (repeat (first | with_reducible assumption | ((with_reducible refine RS.below (by assumption) ?_ ?_) <;> try ((try simp only [World.size_alloc, World.size_setCell, World.size_drew]) <;> omega)) | ((with_reducible refine RS.alloc ?_ ?_ _) <;> try ((try simp only [World.size_alloc, World.size_setCell, World.size_drew]) <;> omega)) | ((with_reducible refine RS.setRow ?_ ?_ _) <;> try ((try simp only [World.size_alloc, World.size_setCell, World.size_drew]) <;> omega)) | ((with_reducible refine RS.setCell ?_ ?_ _) <;> try ((try simp only [World.size_alloc, World.size_setCell, World.size_drew]) <;> omega)) | ((with_reducible refine RS.setCells ?_ ?_ _ _) <;> try ((try simp only [World.size_alloc, World.size_setCell, World.size_drew]) <;> omega)) | (with_reducible apply RS.drewN) | (with_reducible apply RS.drew)))) (by ((try simp only [World.size_alloc, World.size_setCell, World.size_drew]) <;> omega)) g1).mono ?_
      rintro e w4 ⟨A4, cap4, rfl, h4, hO_w4⟩
      have hz_w4 := hO_w4.size
      (try simp only [World.size_alloc, World.size_setCell, World.size_drew] at hz_w4)
      have s4 := own_rs h4
      have l4 := own_cap h4
      go_wp2_with fail
      refine (toTileS_c _ _ _ q _ (B := w.heap.size) (by (repeat (first | with_reducible assumption | ((with_reducible refine RS.below (by assumption) ?_ ?_) <;> try ((try simp only [World.size_alloc, World.size_setCell, World.size_drew]) <;> omega)) | ((with_reducible refine RS.alloc ?_ ?_ _) <;> try ((try simp only [World.size_alloc, World.size_setCell, World.size_drew]) <;> omega)) | ((with_reducible refine RS.setRow ?_ ?_ _) <;> try ((try simp only [World.size_alloc, World.size_setCell, World.size_drew]) <;> omega)) | ((with_reducible refine RS.setCell ?_ ?_ _) <;> try ((try simp only [World.size_alloc, World.size_setCell, World.size_drew]) <;> omega)) | ((with_reducible refine RS.setCells ?_ ?_ _ _) <;> try ((try simp only [World.size_alloc, World.size_setCell, World.size_drew]) <;> omega)) | (with_reducible apply RS.drewN) | (with_reducible apply RS.drew)))) (by ((try simp only [World.size_alloc, World.size_setCell, World.size_drew]) <;> omega)) (by omega)).mono ?_
      rintro e w5 ⟨A5, cap5, rfl, h5, hO_w5⟩
      have hz_w5 := hO_w5.size
      (try simp only [World.size_alloc, World.size_setCell, World.size_drew] at hz_w5)
      have s5 := own_rs h5
      have l5 := own_cap h5
      go_wp2_with fail
      refine (HI.out _ _ _ _ _ w4.heap.size w5.heap.size (by (repeat (first | with_reducible assumption | ((with_reducible refine RS.below (by assumption) ?_ ?_) <;> try ((try simp only [World.size_alloc, World.size_setCell, World.size_drew]) <;> omega)) | ((with_reducible refine RS.alloc ?_ ?_ _) <;> try ((try simp only [World.size_alloc, World.size_setCell, World.size_drew]) <;> omega)) | ((with_reducible refine RS.setRow ?_ ?_ _) <;> try ((try simp only [World.size_alloc, World.size_setCell, World.size_drew]) <;> omega)) | ((with_reducible refine RS.setCell ?_ ?_ _) <;> try ((try simp only [World.size_alloc, World.size_setCell, World.size_drew]) <;> omega)) | ((with_reducible refine RS.setCells ?_ ?_ _ _) <;> try ((try simp only [World.size_alloc, World.size_setCell, World.size_drew]) <;> omega)) | (with_reducible apply RS.drewN) | (with_reducible apply RS.drew)))) (by (repeat (first | with_reducible assumption | ((with_reducible refine RS.below (by assumption) ?_ ?_) <;> try ((try simp only [World.size_alloc, World.size_setCell, World.size_drew]) <;> omega)) | ((with_reducible refine RS.alloc ?_ ?_ _) <;> try ((try simp only [World.size_alloc, World.size_setCell, World.size_drew]) <;> omega)) | ((with_reducible refine RS.setRow ?_ ?_ _) <;> try ((try simp only [World.size_alloc, World.size_setCell, World.size_drew]) <;> omega)) | ((with_reducible refine RS.setCell ?_ ?_ _) <;> try ((try simp only [World.size_alloc, World.size_setCell, World.size_drew]) <;> omega)) | ((with_reducible refine RS.setCells ?_ ?_ _ _) <;> try ((try simp only [World.size_alloc, World.size_setCell, World.size_drew]) <;> omega)) | (with_reducible apply RS.drewN) | (with_reducible apply RS.drew)))) (by ((try simp only [World.size_alloc, World.size_setCell, World.size_drew]) <;> omega)) (by ((try simp only [World.size_alloc, World.size_setCell, World.size_drew]) <;> omega))).mono ?_
      rintro e w6 ⟨A6, cap6, rfl, h6, hO_w6⟩
      have hz_w6 := hO_w6.size
      (try simp only [World.size_alloc, World.size_setCell, World.size_drew] at hz_w6)
      have s6 := own_rs h6
      have l6 := own_cap h6
      have H4 := Lib.hid h4
      have H5 := Lib.hid h5
      have H6 := Lib.hid h6
      have S3 := Lib.hid s3
      have S6 := Lib.hid s6
      clear h4 h5 h6 s3 s6
      go_wp2_with fail
      refine (eqIntS_c _ _ _ _ _ _ _ _ (C := w6.heap.size) (C' := w3.heap.size) S6.out (RS.below hO_w6 (RS.below hO_w5 (RS.below hO_w4 S3.out (Nat.le_refl _)) (by omega)) (by omega)) (by ((try simp only [World.size_alloc, World.size_setCell, World.size_drew]) <;> omega)) (by ((try simp only [World.size_alloc, World.size_setCell, World.size_drew]) <;> omega)) (by omega) (fun _ _ => rfl)).mono ?_
      rintro e w7 ⟨rfl, hO_w7⟩
      have hz_w7 := hO_w7.size
      (try simp only [World.size_alloc, World.size_setCell, World.size_drew] at hz_w7)
      go_wp2_with fail
      refine (toSpriteS_c _ _ _ s _ (B := w.heap.size) (by (repeat (first | with_reducible assumption | ((with_reducible refine RS.below (by assumption) ?_ ?_) <;> try ((try simp only [World.size_alloc, World.size_setCell, World.size_drew]) <;> omega)) | ((with_reducible refine RS.alloc ?_ ?_ _) <;> try ((try simp only [World.size_alloc, World.size_setCell, World.size_drew]) <;> omega)) | ((with_reducible refine RS.setRow ?_ ?_ _) <;> try ((try simp only [World.size_alloc, World.size_setCell, World.size_drew]) <;> omega)) | ((with_reducible refine RS.setCell ?_ ?_ _) <;> try ((try simp only [World.size_alloc, World.size_setCell, World.size_drew]) <;> omega)) | ((with_reducible refine RS.setCells ?_ ?_ _ _) <;> try ((try simp only [World.size_alloc, World.size_setCell, World.size_drew]) <;> omega)) | (with_reducible apply RS.drewN) | (with_reducible apply RS.drew)))) (by ((try simp only [World.size_alloc, World.size_setCell, World.size_drew]) <;> omega)) g1).mono ?_
      rintro e w8 ⟨A8, cap8, rfl, h8, hO_w8⟩
      have hz_w8 := hO_w8.size
      (try simp only [World.size_alloc, World.size_setCell, World.size_drew] at hz_w8)
      have s8 := own_rs h8
      have l8 := own_cap h8
      go_wp2_with fail
      refine (eqSpriteS_c _ _ _ _ _ s _ (C := w4.heap.size) (C' := w8.heap.size) (by (repeat (first | with_reducible assumption | ((with_reducible refine RS.below (by assumption) ?_ ?_) <;> try ((try simp only [World.size_alloc, World.size_setCell, World.size_drew]) <;> omega)) | ((with_reducible refine RS.alloc ?_ ?_ _) <;> try ((try simp only [World.size_alloc, World.size_setCell, World.size_drew]) <;> omega)) | ((with_reducible refine RS.setRow ?_ ?_ _) <;> try ((try simp only [World.size_alloc, World.size_setCell, World.size_drew]) <;> omega)) | ((with_reducible refine RS.setCell ?_ ?_ _) <;> try ((try simp only [World.size_alloc, World.size_setCell, World.size_drew]) <;> omega)) | ((with_reducible refine RS.setCells ?_ ?_ _ _) <;> try ((try simp only [World.size_alloc, World.size_setCell, World.size_drew]) <;> omega)) | (with_reducible apply RS.drewN) | (with_reducible apply RS.drew)))) (by (repeat (first | with_reducible assumption | ((with_reducible refine RS.below (by assumption) ?_ ?_) <;> try ((try simp only [World.size_alloc, World.size_setCell, World.size_drew]) <;> omega)) | ((with_reducible refine RS.alloc ?_ ?_ _) <;> try ((try simp only [World.size_alloc, World.size_setCell, World.size_drew]) <;> omega)) | ((with_reducible refine RS.setRow ?_ ?_ _) <;> try ((try simp only [World.size_alloc, World.size_setCell, World.size_drew]) <;> omega)) | ((with_reducible refine RS.setCell ?_ ?_ _) <;> try ((try simp only [World.size_alloc, World.size_setCell, World.size_drew]) <;> omega)) | ((with_reducible refine RS.setCells ?_ ?_ _ _) <;> try ((try simp only [World.size_alloc, World.size_setCell, World.size_drew]) <;> omega)) | (with_reducible apply RS.drewN) | (with_reducible apply RS.drew)))) (by ((try simp only [World.size_alloc, World.size_setCell, World.size_drew]) <;> omega)) (by ((try simp only [World.size_alloc, World.size_setCell, World.size_drew]) <;> omega)) (by omega)).mono ?_
      rintro e w9 ⟨rfl, hO_w9⟩
      have hz_w9 := hO_w9.size
      (try simp only [World.size_alloc, World.size_setCell, World.size_drew] at hz_w9)
      clear h8 s8
      go_wp2_with fail
      refine (toTileS_c _ _ _ q _ (B := w.heap.size) (by (repeat (first | with_reducible assumption | ((with_reducible refine RS.below (by assumption) ?_ ?_) <;> try ((try simp only [World.size_alloc, World.size_setCell, World.size_drew]) <;> omega)) | ((with_reducible refine RS.alloc ?_ ?_ _) <;> try ((try simp only [World.size_alloc, World.size_setCell, World.size_drew]) <;> omega)) | ((with_reducible refine RS.setRow ?_ ?_ _) <;> try ((try simp only [World.size_alloc, World.size_setCell, World.size_drew]) <;> omega)) | ((with_reducible refine RS.setCell ?_ ?_ _) <;> try ((try simp only [World.size_alloc, World.size_setCell, World.size_drew]) <;> omega)) | ((with_reducible refine RS.setCells ?_ ?_ _ _) <;> try ((try simp only [World.size_alloc, World.size_setCell, World.size_drew]) <;> omega)) | (with_reducible apply RS.drewN) | (with_reducible apply RS.drew)))) (by ((try simp only [World.size_alloc, World.size_setCell, World.size_drew]) <;> omega)) (by omega)).mono ?_
      rintro e w10 ⟨A10, cap10, rfl, h10, hO_w10⟩
      have hz_w10 := hO_w10.size
      (try simp only [World.size_alloc, World.size_setCell, World.size_drew] at hz_w10)
      have s10 := own_rs h10
      have l10 := own_cap h10
      go_wp2_with fail
      refine (eqTileS_c _ _ _ _ _ q _ (C := w5.heap.size) (C' := w10.heap.size) (by (repeat (first | with_reducible assumption | ((with_reducible refine RS.below (by assumption) ?_ ?_) <;> try ((try simp only [World.size_alloc, World.size_setCell, World.size_drew]) <;> omega)) | ((with_reducible refine RS.alloc ?_ ?_ _) <;> try ((try simp only [World.size_alloc, World.size_setCell, World.size_drew]) <;> omega)) | ((with_reducible refine RS.setRow ?_ ?_ _) <;> try ((try simp only [World.size_alloc, World.size_setCell, World.size_drew]) <;> omega)) | ((with_reducible refine RS.setCell ?_ ?_ _) <;> try ((try simp only [World.size_alloc, World.size_setCell, World.size_drew]) <;> omega)) | ((with_reducible refine RS.setCells ?_ ?_ _ _) <;> try ((try simp only [World.size_alloc, World.size_setCell, World.size_drew]) <;> omega)) | (with_reducible apply RS.drewN) | (with_reducible apply RS.drew)))) (by (repeat (first | with_reducible assumption | ((with_reducible refine RS.below (by assumption) ?_ ?_) <;> try ((try simp only [World.size_alloc, World.size_setCell, World.size_drew]) <;> omega)) | ((with_reducible refine RS.alloc ?_ ?_ _) <;> try ((try simp only [World.size_alloc, World.size_setCell, World.size_drew]) <;> omega)) | ((with_reducible refine RS.setRow ?_ ?_ _) <;> try ((try simp only [World.size_alloc, World.size_setCell, World.size_drew]) <;> omega)) | ((with_reducible refine RS.setCell ?_ ?_ _) <;> try ((try simp only [World.size_alloc, World.size_setCell, World.size_drew]) <;> omega)) | ((with_reducible refine RS.setCells ?_ ?_ _ _) <;> try ((try simp only [World.size_alloc, World.size_setCell, World.size_drew]) <;> omega)) | (with_reducible apply RS.drewN) | (with_reducible apply RS.drew)))) (by ((try simp only [World.size_alloc, World.size_setCell, World.size_drew]) <;> omega)) (by ((try simp only [World.size_alloc, World.size_setCell, World.size_drew]) <;> omega)) (by omega)).mono ?_
      rintro e w11 ⟨rfl, hO_w11⟩
      have hz_w11 := hO_w11.size
      (try simp only [World.size_alloc, World.size_setCell, World.size_drew] at hz_w11)
      clear h10 s10 s4 s5
      have b4 : Hid (Below w4.heap.size w4 w11) := by
        refine Lib.hid ?_
        (repeat (first | with_reducible exact Below.refl _ _ | ((with_reducible refine viaO (by assumption) ?_ ?_ ?_) <;> try ((try simp only [World.size_alloc, World.size_setCell, World.size_drew]) <;> omega)) | ((with_reducible refine Below.alloc ?_ ?_ _) <;> try ((try simp only [World.size_alloc, World.size_setCell, World.size_drew]) <;> omega)) | ((with_reducible refine Below.setCell ?_ ?_ _) <;> try ((try simp only [World.size_alloc, World.size_setCell, World.size_drew]) <;> omega)) | (with_reducible refine below_drewN ?_ _) | (with_reducible refine Below.drew ?_) | ((with_reducible refine via (by assumption) ?_ ?_) <;> try ((try simp only [World.size_alloc, World.size_setCell, World.size_drew]) <;> omega))))
      have b5 : Hid (Below w5.heap.size w5 w11) := by
        refine Lib.hid ?_
        (repeat (first | with_reducible exact Below.refl _ _ | ((with_reducible refine viaO (by assumption) ?_ ?_ ?_) <;> try ((try simp only [World.size_alloc, World.size_setCell, World.size_drew]) <;> omega)) | ((with_reducible refine Below.alloc ?_ ?_ _) <;> try ((try simp only [World.size_alloc, World.size_setCell, World.size_drew]) <;> omega)) | ((with_reducible refine Below.setCell ?_ ?_ _) <;> try ((try simp only [World.size_alloc, World.size_setCell, World.size_drew]) <;> omega)) | (with_reducible refine below_drewN ?_ _) | (with_reducible refine Below.drew ?_) | ((with_reducible refine via (by assumption) ?_ ?_) <;> try ((try simp only [World.size_alloc, World.size_setCell, World.size_drew]) <;> omega))))
      have b6 : Hid (Below w6.heap.size w6 w11) := by
        refine Lib.hid ?_
        (repeat (first | with_reducible exact Below.refl _ _ | ((with_reducible refine viaO (by assumption) ?_ ?_ ?_) <;> try ((try simp only [World.size_alloc, World.size_setCell, World.size_drew]) <;> omega)) | ((with_reducible refine Below.alloc ?_ ?_ _) <;> try ((try simp only [World.size_alloc, World.size_setCell, World.size_drew]) <;> omega)) | ((with_reducible refine Below.setCell ?_ ?_ _) <;> try ((try simp only [World.size_alloc, World.size_setCell, World.size_drew]) <;> omega)) | (with_reducible refine below_drewN ?_ _) | (with_reducible refine Below.drew ?_) | ((with_reducible refine via (by assumption) ?_ ?_) <;> try ((try simp only [World.size_alloc, World.size_setCell, World.size_drew]) <;> omega))))
      have b3 : Hid (Below w3.heap.size w3 w11) := by
        refine Lib.hid ?_
        (repeat (first | with_reducible exact Below.refl _ _ | ((with_reducible refine viaO (by assumption) ?_ ?_ ?_) <;> try ((try simp only [World.size_alloc, World.size_setCell, World.size_drew]) <;> omega)) | ((with_reducible refine Below.alloc ?_ ?_ _) <;> try ((try simp only [World.size_alloc, World.size_setCell, World.size_drew]) <;> omega)) | ((with_reducible refine Below.setCell ?_ ?_ _) <;> try ((try simp only [World.size_alloc, World.size_setCell, World.size_drew]) <;> omega)) | (with_reducible refine below_drewN ?_ _) | (with_reducible refine Below.drew ?_) | ((with_reducible refine via (by assumption) ?_ ?_) <;> try ((try simp only [World.size_alloc, World.size_setCell, World.size_drew]) <;> omega))))
      have b0 : Hid (Below w.heap.size w w11) := by
        refine Lib.hid ?_
        (repeat (first | with_reducible exact Below.refl _ _ | ((with_reducible refine viaO (by assumption) ?_ ?_ ?_) <;> try ((try simp only [World.size_alloc, World.size_setCell, World.size_drew]) <;> omega)) | ((with_reducible refine Below.alloc ?_ ?_ _) <;> try ((try simp only [World.size_alloc, World.size_setCell, World.size_drew]) <;> omega)) | ((with_reducible refine Below.setCell ?_ ?_ _) <;> try ((try simp only [World.size_alloc, World.size_setCell, World.size_drew]) <;> omega)) | (with_reducible refine below_drewN ?_ _) | (with_reducible refine Below.drew ?_) | ((with_reducible refine via (by assumption) ?_ ?_) <;> try ((try simp only [World.size_alloc, World.size_setCell, World.size_drew]) <;> omega))))
      have h4 := own_below H4.out b4.out (Nat.le_refl _)
      have h5 := own_below H5.out b5.out (Nat.le_refl _)
      have h6 := own_below H6.out b6.out (Nat.le_refl _)
      have N1 := Lib.hid (own_ne h6 H4.out (by omega))
      have N2 := Lib.hid (own_ne h6 H5.out (by omega))
      have N3 := Lib.hid (own_ne h5 H4.out (by omega))
      have T3 := Lib.hid (RS.below b3.out S3.out (Nat.le_refl _))
      have TA := Lib.hid (RS.below b0.out hA (Nat.le_refl _))
      have TB := Lib.hid (RS.below b0.out hB (Nat.le_refl _))
      have hz3 := b3.out.size
      have hz0 := b0.out.size
      clear b3 b4 b5 b6 hO_w1 hO_w2 hO_w3 hO_w4 hO_w5 hO_w6 hO_w7 hO_w8 hO_w9 hO_w10 hO_w11 H4 H5 H6 S3 S6 hA hB
      have H4 := Lib.hid h4
      have H5 := Lib.hid h5
      have H6 := Lib.hid h6
      clear h4 h5 h6
      go_wp2_with fail
      refine (markSpriteS_c _ _ _ _ _ _ _ H4.out g1 (by omega) (by omega)).mono ?_
      rintro e w12 ⟨rfl, hG1⟩
      have hO_w12 : Below w3.heap.size w11 w12 := (Below.refl _ _).grown hG1 (by omega) (fun g hg => (H4.out.lt g hg).1)
      have hz_w12 := hO_w12.size
      have H5' := Lib.hid (H5.out.kept hG1 N3.out)
      have H6' := Lib.hid (H6.out.kept hG1 N1.out)
      have k3 : ¬ (1 : Int) + 6 * n < 0 := by omega
      clear hG1 H4 H5 H6 N1 N3
      go_wp2_with fail
      refine (markTileS_c _ _ _ _ _ _ _ H5'.out (by omega) (by omega) (by omega) (fun j _ => ⟨_, rfl⟩)).mono ?_
      rintro e w13 ⟨rfl, -, hG2⟩
      have hO_w13 : Below w3.heap.size w12 w13 := (Below.refl _ _).grown hG2 (by omega) (fun g hg => by have := (H5'.out.lt g hg).1; omega)
      have hz_w13 := hO_w13.size
      have H6a := Lib.hid (H6'.out.kept hG2 N2.out)
      have k4 : ¬ (1 : Int) + 6 * n + 64 * m < 0 := by omega
      have T3a := Lib.hid (RS.below hO_w13 (RS.below hO_w12 T3.out (Nat.le_refl _)) (Nat.le_refl _))
      have TAa := Lib.hid (RS.below hO_w13 (RS.below hO_w12 TA.out (by omega)) (by omega))
      have TBa := Lib.hid (RS.below hO_w13 (RS.below hO_w12 TB.out (by omega)) (by omega))
      have B0a := Lib.hid (b0.out.trans ((hO_w12.mono (by omega)).trans (hO_w13.mono (by omega))))
      clear hG2 H5' H6' N2 T3 TA TB b0 hO_w12 hO_w13
      go_wp2_with fail
      refine (eqIntS_c _ _ _ _ _ _ _ _ (C := w13.heap.size) (C' := w3.heap.size) (own_rs H6a.out) T3a.out (by ((try simp only [World.size_alloc, World.size_setCell, World.size_drew]) <;> omega)) (by ((try simp only [World.size_alloc, World.size_setCell, World.size_drew]) <;> omega)) (by omega) (fun _ _ => rfl)).mono ?_
      rintro e w14 ⟨rfl, hO_w14⟩
      have hz_w14 := hO_w14.size
      (try simp only [World.size_alloc, World.size_setCell, World.size_drew] at hz_w14)
      have h6b := own_below H6a.out hO_w14 (Nat.le_refl _)
      rw [Nat.mul_one] at h6b
      have T3b := Lib.hid (RS.below hO_w14 T3a.out (by omega))
      have TAb := Lib.hid (RS.below hO_w14 TAa.out (by omega))
      have TBb := Lib.hid (RS.below hO_w14 TBa.out (by omega))
      have B0b := Lib.hid (B0a.out.trans (hO_w14.mono (by omega)))
      clear H6a T3a TAa TBa B0a hO_w14
      have H6b := Lib.hid h6b
      clear h6b
      go_wp2_with fail
      refine (markIntS_c _ _ _ _ _ _ _ H6b.out (by omega) (by omega) (by omega) (fun j _ => ⟨_, rfl⟩)).mono ?_
      rintro e w15 ⟨rfl, h6c, hG⟩
      have hO_w15 : Below w3.heap.size w14 w15 := (Below.refl _ _).grown hG (by omega) (fun g hg => by have := (H6b.out.lt g hg).1; omega)
      have hz_w15 := hO_w15.size
      have S6c := Lib.hid (own_rs (sz := 1) (by rw [Nat.mul_one]; exact h6c))
      have T3c := Lib.hid (RS.below hO_w15 T3b.out (by omega))
      have hA := RS.below hO_w15 TAb.out (by omega)
      have hB := RS.below hO_w15 TBb.out (by omega)
      have B0c := Lib.hid (B0b.out.trans (hO_w15.mono (by omega)))
      have m1 : 0 ≤ (1 : Int) + L.length := by omega
      have m2 : ¬ (1 : Int) + L.length < 0 := by omega
      clear hG H6b h6c T3b TAb TBb B0b hO_w15
      go_wp2_with fail
      refine (heldIntS_c _ _ _ _ _ S6c.out (by omega) (by omega) (by omega)).mono ?_
      rintro e w' ⟨rfl, rfl⟩
      go_wp2_with fail
      refine (toSpriteS_c _ _ _ s _ (B := w.heap.size) (by (repeat (first | with_reducible assumption | ((with_reducible refine RS.below (by assumption) ?_ ?_) <;> try ((try simp only [World.size_alloc, World.size_setCell, World.size_drew]) <;> omega)) | ((with_reducible refine RS.alloc ?_ ?_ _) <;> try ((try simp only [World.size_alloc, World.size_setCell, World.size_drew]) <;> omega)) | ((with_reducible refine RS.setRow ?_ ?_ _) <;> try ((try simp only [World.size_alloc, World.size_setCell, World.size_drew]) <;> omega)) | ((with_reducible refine RS.setCell ?_ ?_ _) <;> try ((try simp only [World.size_alloc, World.size_setCell, World.size_drew]) <;> omega)) | ((with_reducible refine RS.setCells ?_ ?_ _ _) <;> try ((try simp only [World.size_alloc, World.size_setCell, World.size_drew]) <;> omega)) | (with_reducible apply RS.drewN) | (with_reducible apply RS.drew)))) (by ((try simp only [World.size_alloc, World.size_setCell, World.size_drew]) <;> omega)) g1).mono ?_
      rintro e w16 ⟨A16, cap16, rfl, h16, hO_w16⟩
      have hz_w16 := hO_w16.size
      (try simp only [World.size_alloc, World.size_setCell, World.size_drew] at hz_w16)
      have s16 := own_rs h16
      have l16 := own_cap h16
      go_wp2_with fail
      refine (toTileS_c _ _ _ q _ (B := w.heap.size) (by (repeat (first | with_reducible assumption | ((with_reducible refine RS.below (by assumption) ?_ ?_) <;> try ((try simp only [World.size_alloc, World.size_setCell, World.size_drew]) <;> omega)) | ((with_reducible refine RS.alloc ?_ ?_ _) <;> try ((try simp only [World.size_alloc, World.size_setCell, World.size_drew]) <;> omega)) | ((with_reducible refine RS.setRow ?_ ?_ _) <;> try ((try simp only [World.size_alloc, World.size_setCell, World.size_drew]) <;> omega)) | ((with_reducible refine RS.setCell ?_ ?_ _) <;> try ((try simp only [World.size_alloc, World.size_setCell, World.size_drew]) <;> omega)) | ((with_reducible refine RS.setCells ?_ ?_ _ _) <;> try ((try simp only [World.size_alloc, World.size_setCell, World.size_drew]) <;> omega)) | (with_reducible apply RS.drewN) | (with_reducible apply RS.drew)))) (by ((try simp only [World.size_alloc, World.size_setCell, World.size_drew]) <;> omega)) (by omega)).mono ?_
      rintro e w17 ⟨A17, cap17, rfl, h17, hO_w17⟩
      have hz_w17 := hO_w17.size
      (try simp only [World.size_alloc, World.size_setCell, World.size_drew] at hz_w17)
      have s17 := own_rs h17
      have l17 := own_cap h17
      go_wp2_with fail
      refine (HI.out _ _ _ _ _ w16.heap.size w17.heap.size (by (repeat (first | with_reducible assumption | ((with_reducible refine RS.below (by assumption) ?_ ?_) <;> try ((try simp only [World.size_alloc, World.size_setCell, World.size_drew]) <;> omega)) | ((with_reducible refine RS.alloc ?_ ?_ _) <;> try ((try simp only [World.size_alloc, World.size_setCell, World.size_drew]) <;> omega)) | ((with_reducible refine RS.setRow ?_ ?_ _) <;> try ((try simp only [World.size_alloc, World.size_setCell, World.size_drew]) <;> omega)) | ((with_reducible refine RS.setCell ?_ ?_ _) <;> try ((try simp only [World.size_alloc, World.size_setCell, World.size_drew]) <;> omega)) | ((with_reducible refine RS.setCells ?_ ?_ _ _) <;> try ((try simp only [World.size_alloc, World.size_setCell, World.size_drew]) <;> omega)) | (with_reducible apply RS.drewN) | (with_reducible apply RS.drew)))) (by (repeat (first | with_reducible assumption | ((with_reducible refine RS.below (by assumption) ?_ ?_) <;> try ((try simp only [World.size_alloc, World.size_setCell, World.size_drew]) <;> omega)) | ((with_reducible refine RS.alloc ?_ ?_ _) <;> try ((try simp only [World.size_alloc, World.size_setCell, World.size_drew]) <;> omega)) | ((with_reducible refine RS.setRow ?_ ?_ _) <;> try ((try simp only [World.size_alloc, World.size_setCell, World.size_drew]) <;> omega)) | ((with_reducible refine RS.setCell ?_ ?_ _) <;> try ((try simp only [World.size_alloc, World.size_setCell, World.size_drew]) <;> omega)) | ((with_reducible refine RS.setCells ?_ ?_ _ _) <;> try ((try simp only [World.size_alloc, World.size_setCell, World.size_drew]) <;> omega)) | (with_reducible apply RS.drewN) | (with_reducible apply RS.drew)))) (by ((try simp only [World.size_alloc, World.size_setCell, World.size_drew]) <;> omega)) (by ((try simp only [World.size_alloc, World.size_setCell, World.size_drew]) <;> omega))).mono ?_
      rintro e w18 ⟨A18, cap18, rfl, h18, hO_w18⟩
      have hz_w18 := hO_w18.size
      (try simp only [World.size_alloc, World.size_setCell, World.size_drew] at hz_w18)
      have s18 := own_rs h18
      have l18 := own_cap h18
      have H18 := Lib.hid h18
      have S18 := Lib.hid s18
      clear h16 h17 h18 s16 s17 s18
      go_wp2_with fail
      refine (eqIntS_c _ _ _ _ _ _ _ _ (C := w18.heap.size) (C' := w3.heap.size) S18.out (RS.below hO_w18 (RS.below hO_w17 (RS.below hO_w16 T3c.out (by omega)) (by omega)) (by omega)) (by ((try simp only [World.size_alloc, World.size_setCell, World.size_drew]) <;> omega)) (by ((try simp only [World.size_alloc, World.size_setCell, World.size_drew]) <;> omega)) (by omega) (fun _ _ => rfl)).mono ?_
      rintro e w19 ⟨rfl, hO_w19⟩
      have hz_w19 := hO_w19.size
      (try simp only [World.size_alloc, World.size_setCell, World.size_drew] at hz_w19)
      go_wp2_with fail
      refine (heldIntS_c _ _ _ _ _ (RS.below hO_w19 (RS.below hO_w18 (RS.below hO_w17 (RS.below hO_w16 S6c.out (by omega)) (by omega)) (by omega)) (by omega)) (by omega) (by omega) (by omega)).mono ?_
      rintro e w' ⟨rfl, rfl⟩
      go_wp2
      go_ret
      refine ⟨rfl, B0c.out.trans ?_⟩
      exact (((hO_w16.mono (by omega)).trans (hO_w17.mono (by omega))).trans (hO_w18.mono (by omega))).trans (hO_w19.mono (by omega))
    · have H2 := Lib.hid (fun w => by have := szTileS_c B m d (1048576 - (n : Int)) w (by omega) (by omega); rw [if_neg (by omega)] at this; exact this)
      go_enter Try.func12, Try.ntmps12
      go_wp2_with fail
      refine (H1.out _).mono ?_
      rintro e w' ⟨rfl, rfl⟩
      go_wp2_with fail
      refine (H2.out _).mono ?_
      rintro e w' ⟨rfl, rfl⟩
      go_wp2
      go_ret
      exact ⟨rfl, Below.refl _ _⟩
  · have H1 := Lib.hid (fun w => by have := szSpriteS_c A n c 1048576 w (by omega) (by omega); rw [if_neg (by omega)] at this; exact this)
    go_enter Try.func12, Try.ntmps12
    go_wp2_with fail
    refine (H1.out _).mono ?_
    rintro e w' ⟨rfl, rfl⟩
    go_wp2
    go_ret
    exact ⟨rfl, Below.refl _ _⟩

set_option maxRecDepth 100000 in
theorem lifted (os : Os) (started : os.Started) (H : Type) (enc : TypeId × Value → H) :
    ReturnsInHanded {} Try.checked os 12 .any (Rows.fnExactSpritesOnLineSpec.pre6 enc Try.prog Try.f12 Rows.fnExactSpritesOnLineRow.domain false) (Rows.fnExactSpritesOnLineSpec.post enc Try.prog Try.f12 false true false false) := by
  refine returnsInHanded_of_change (C := Try.checked) own started (by kernel_rfl) Try.func12
    (ChangeSpec.witness6 (enc := enc) (C := Try.checked) false ⟨#[], #[.slice none 0 0, .slice none 0 0, .int .i64 0], []⟩ 8 (by kernel_rfl) (by kernel_rfl) (by kernel_rfl) (by kernel_rfl)) ?_
  intro W base args ds gs before hval0 hW hcnd _
  have hval : ∀ (j : Nat) t v, Try.f12.params[j]? = some t → args[j]? = some v → Value.okWide Try.prog W .any base t v := hval0
  have hW' := hW
  obtain ⟨p, q, hA0, hV, rfl, hfz, hnd⟩ := hW
  have hA : DataW.TrodAll enc Try.prog W 0 (fun _ => true) true Try.f12.params.toList args.toList ds p := hA0
  rw [Try.params12] at hA hval
  obtain ⟨v0, vs0, d0, ds0, p0, q0, hargs, rfl, rfl, h0, r0⟩ := trodAll_cons hA
  obtain ⟨v1, vs1, d1, ds1, p1, q1, rfl, rfl, rfl, h1, r1⟩ := trodAll_cons r0
  obtain ⟨v2, vs2, d2, ds2, p2, q2, rfl, rfl, rfl, h2, r2⟩ := trodAll_cons r1
  obtain ⟨rfl, rfl, rfl⟩ := trodAll_nil r2
  obtain rfl : args = #[v0, v1, v2] := by cases args; simp_all
  obtain ⟨rfl, rfl⟩ := trodVars_none hV
  have lt0 : ∀ x ∈ p0, x.block < W.heap.size := by obtain ⟨m, hm⟩ := h0; exact DataW.trod_lt m _ _ _ hm
  have a0 := spritesArg (hval 0 32 v0 rfl rfl) h0
  have lt1 : ∀ x ∈ p1, x.block < W.heap.size := by obtain ⟨m, hm⟩ := h1; exact DataW.trod_lt m _ _ _ hm
  have a1 := tilesArg (hval 1 33 v1 rfl rfl) h1
  have lt2 : ∀ x ∈ p2, x.block < W.heap.size := by obtain ⟨m, hm⟩ := h2; exact DataW.trod_lt m _ _ _ hm
  have a2 := intArg (hval 2 3 v2 rfl rfl) h2
  clear hA0 hval0
  refine (walk v0 v1 v2 W a0 a1 a2).mono fun e W' ⟨he, bel⟩ => ?_
  subst he
  exact ⟨_, rfl, _, _, _, [], _, [], hW', trodAll_mk1 (shut_bool Try.underlying4 _), (trodAll_cons_mk (Below.trod laidOut (by kernel_rfl) (of_decide_eq_true (by kernel_rfl)) h0 bel lt0) (trodAll_cons_mk (Below.trod laidOut (by kernel_rfl) (of_decide_eq_true (by kernel_rfl)) h1 bel lt1) (trodAll_cons_mk (Below.trod laidOut (by kernel_rfl) (of_decide_eq_true (by kernel_rfl)) h2 bel lt2) trodAll_mk0))), rfl, bel.frame _, fun h => by cases h⟩

theorem proved : Rows.FnExactSpritesOnLineSaid :=
  OpenClaim.holds_of_wide 12 Try.f12 rfl rfl rfl rfl rfl rfl rfl ⟨rfl, rfl, rfl, rfl, rfl⟩ rfl rfl rfl rfl rfl (by kernel_rfl) Try.func12 (by kernel_rfl)
    (of_decide_eq_true (by kernel_rfl)) (by unfold Func.isWrapper; first | (rw [if_pos (by decide +kernel)]; kernel_rfl) | (rw [if_neg (by decide +kernel)]; exact ⟨rfl, rfl⟩))
    (fun os started H enc _ => lifted os started H enc)
#print axioms proved

end Go.Proofs.Ytpfdhodilmfmkaa.lawFnExactSpritesOnLine
