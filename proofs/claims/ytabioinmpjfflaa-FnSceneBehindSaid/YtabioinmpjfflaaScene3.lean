/-
  The contracts of ScenePixel in the program and in the reference. Conditions: at most 1048576 numbers, tiles and sprites.
-/
import Derived.Test.YtabioinmpjfflaaScene2
namespace Go.Proofs.Ytabioinmpjfflaa
set_option linter.all false
set_option linter.unusedSimpArgs false
set_option linter.unusedVariables false
set_option maxRecDepth 20000
open Go.ChangeShapes Go.WideShapes Go.ChangeAt Go.RowKit

theorem scd_parts {W : Int} {n m : Nat} {X Y : Int} {p : Nat → Int} {q : Nat → Nat → Int} {k : Nat} {s : Nat → Spr} (h : scd W n m X Y p q k s = true) : fvd W n m X Y p q = true ∧ svd k m s q = true := by
  unfold scd at h
  simpa only [Bool.and_eq_true] using h
/-- The value of ScenePixel. -/
def scr (W : Int) (n m : Nat) (X Y : Int) (p : Nat → Int) (q : Nat → Nat → Int) (k : Nat) (s : Nat → Spr) (x y : Int) : Int :=
  if (scd W n m X Y p q k s && inB x 0 31 && inB y 0 15) = true then scp W.toNat n X.toNat Y.toNat p q k s x.toNat y.toNat else -1
theorem scr_no {W : Int} {n m : Nat} {X Y : Int} {p : Nat → Int} {q : Nat → Nat → Int} {k : Nat} {s : Nat → Spr} {x y : Int} (h : (scd W n m X Y p q k s && inB x 0 31 && inB y 0 15) = false) : scr W n m X Y p q k s x y = -1 := by
  unfold scr; rw [h]; rfl

set_option maxHeartbeats 2000000 in
theorem iscr_c (W : Int) (A : Option Addr) (n c : Nat) (B : Option Addr) (m d : Nat) (X Y : Int) (S : Option Addr) (k e : Nat) (x y : Int) (p : Nat → Int) (q : Nat → Nat → Int) (s : Nat → Spr) (w : World) {C C' C2 : Nat} (h : RS w C 1 A n (iv p)) (h' : RS w C' 64 B m (tc q)) (h2 : RS w C2 6 S k (sc s)) (hC : C ≤ w.heap.size) (hC' : C' ≤ w.heap.size) (hC2 : C2 ≤ w.heap.size) (hn : n ≤ 1048576) (hm : m ≤ 1048576) (hk : k ≤ 1048576) :
    Calls Try.prog 17 #[scV W A n c B m d X Y S k e, .int .i64 x, .int .i64 y] w fun e w' => e = .returned (.int .i64 (scr W n m X Y p q k s x y)) ∧ Below w.heap.size w w' := by
  have H := Lib.hid h
  have H' := Lib.hid h'
  have H2 := Lib.hid h2
  clear h h' h2
  cases hv : scd W n m X Y p q k s
  · rw [scr_no (by rw [hv]; rfl)]
    have HV := Lib.hid hv
    clear hv
    go_enter Try.func17, Try.ntmps17
    go_wp2_with (first | (go_at_call 22; (refine (isc_c _ _ _ _ _ _ _ _ _ _ _ _ p q s _ HV.out _ (C := C) (C' := C') (C2 := C2) (H.out.alloc hC _) (H'.out.alloc hC' _) (H2.out.alloc hC2 _) (by ((try simp only [World.size_alloc, World.size_setCell, World.size_drew]) <;> omega)) (by ((try simp only [World.size_alloc, World.size_setCell, World.size_drew]) <;> omega)) (by ((try simp only [World.size_alloc, World.size_setCell, World.size_drew]) <;> omega)) hn hm hk).mono ?_; rintro e w1 ⟨rfl, hO_w1⟩; have hz_w1 := hO_w1.size; (try simp only [World.size_alloc, World.size_setCell, World.size_drew] at hz_w1); have hs_w1_0 : w.heap.size < w1.heap.size := (by omega); have c_w1_0 := fun o => (bcell hO_w1).1 (w.heap.size) o (by (try simp only [World.size_alloc, World.size_setCell, World.size_drew]) <;> omega); have f_w1_0 := fun o => (bcell hO_w1).2 (w.heap.size) o (by (try simp only [World.size_alloc, World.size_setCell, World.size_drew]) <;> omega))))
    go_ret
    refine ⟨rfl, ?_⟩
    (repeat (first | with_reducible exact Below.refl _ _ | ((with_reducible refine viaO (by assumption) ?_ ?_ ?_) <;> try ((try simp only [World.size_alloc, World.size_setCell, World.size_drew]) <;> omega)) | ((with_reducible refine Below.alloc ?_ ?_ _) <;> try ((try simp only [World.size_alloc, World.size_setCell, World.size_drew]) <;> omega)) | ((with_reducible refine Below.setCell ?_ ?_ _) <;> try ((try simp only [World.size_alloc, World.size_setCell, World.size_drew]) <;> omega)) | (with_reducible refine below_drewN ?_ _) | (with_reducible refine Below.drew ?_) | ((with_reducible refine via (by assumption) ?_ ?_) <;> try ((try simp only [World.size_alloc, World.size_setCell, World.size_drew]) <;> omega))))
  · have HV := Lib.hid hv
    cases hx : inB x 0 31
    · rw [scr_no (by rw [hv, hx]; rfl)]
      have HX := Lib.hid hx
      clear hv hx
      go_enter Try.func17, Try.ntmps17
      go_wp2_with (first | (go_at_call 22; (refine (isc_c _ _ _ _ _ _ _ _ _ _ _ _ p q s _ HV.out _ (C := C) (C' := C') (C2 := C2) (H.out.alloc hC _) (H'.out.alloc hC' _) (H2.out.alloc hC2 _) (by ((try simp only [World.size_alloc, World.size_setCell, World.size_drew]) <;> omega)) (by ((try simp only [World.size_alloc, World.size_setCell, World.size_drew]) <;> omega)) (by ((try simp only [World.size_alloc, World.size_setCell, World.size_drew]) <;> omega)) hn hm hk).mono ?_; rintro e w1 ⟨rfl, hO_w1⟩; have hz_w1 := hO_w1.size; (try simp only [World.size_alloc, World.size_setCell, World.size_drew] at hz_w1); have hs_w1_0 : w.heap.size < w1.heap.size := (by omega); have c_w1_0 := fun o => (bcell hO_w1).1 (w.heap.size) o (by (try simp only [World.size_alloc, World.size_setCell, World.size_drew]) <;> omega); have f_w1_0 := fun o => (bcell hO_w1).2 (w.heap.size) o (by (try simp only [World.size_alloc, World.size_setCell, World.size_drew]) <;> omega))) | (go_at_call 36; (with_reducible refine (within_c x 0 31 _ HX.out _).mono ?_); rintro e w' ⟨rfl, rfl⟩))
      go_ret
      refine ⟨rfl, ?_⟩
      (repeat (first | with_reducible exact Below.refl _ _ | ((with_reducible refine viaO (by assumption) ?_ ?_ ?_) <;> try ((try simp only [World.size_alloc, World.size_setCell, World.size_drew]) <;> omega)) | ((with_reducible refine Below.alloc ?_ ?_ _) <;> try ((try simp only [World.size_alloc, World.size_setCell, World.size_drew]) <;> omega)) | ((with_reducible refine Below.setCell ?_ ?_ _) <;> try ((try simp only [World.size_alloc, World.size_setCell, World.size_drew]) <;> omega)) | (with_reducible refine below_drewN ?_ _) | (with_reducible refine Below.drew ?_) | ((with_reducible refine via (by assumption) ?_ ?_) <;> try ((try simp only [World.size_alloc, World.size_setCell, World.size_drew]) <;> omega))))
    · have HX := Lib.hid hx
      cases hy : inB y 0 15
      · rw [scr_no (by rw [hv, hx, hy]; rfl)]
        have HY := Lib.hid hy
        clear hv hx hy
        go_enter Try.func17, Try.ntmps17
        go_wp2_with (first | (go_at_call 22; (refine (isc_c _ _ _ _ _ _ _ _ _ _ _ _ p q s _ HV.out _ (C := C) (C' := C') (C2 := C2) (H.out.alloc hC _) (H'.out.alloc hC' _) (H2.out.alloc hC2 _) (by ((try simp only [World.size_alloc, World.size_setCell, World.size_drew]) <;> omega)) (by ((try simp only [World.size_alloc, World.size_setCell, World.size_drew]) <;> omega)) (by ((try simp only [World.size_alloc, World.size_setCell, World.size_drew]) <;> omega)) hn hm hk).mono ?_; rintro e w1 ⟨rfl, hO_w1⟩; have hz_w1 := hO_w1.size; (try simp only [World.size_alloc, World.size_setCell, World.size_drew] at hz_w1); have hs_w1_0 : w.heap.size < w1.heap.size := (by omega); have c_w1_0 := fun o => (bcell hO_w1).1 (w.heap.size) o (by (try simp only [World.size_alloc, World.size_setCell, World.size_drew]) <;> omega); have f_w1_0 := fun o => (bcell hO_w1).2 (w.heap.size) o (by (try simp only [World.size_alloc, World.size_setCell, World.size_drew]) <;> omega))) | (go_at_call 36; (first | (with_reducible refine (within_c x 0 31 _ HX.out _).mono ?_) | (with_reducible refine (within_c y 0 15 _ HY.out _).mono ?_)); rintro e w' ⟨rfl, rfl⟩))
        go_ret
        refine ⟨rfl, ?_⟩
        (repeat (first | with_reducible exact Below.refl _ _ | ((with_reducible refine viaO (by assumption) ?_ ?_ ?_) <;> try ((try simp only [World.size_alloc, World.size_setCell, World.size_drew]) <;> omega)) | ((with_reducible refine Below.alloc ?_ ?_ _) <;> try ((try simp only [World.size_alloc, World.size_setCell, World.size_drew]) <;> omega)) | ((with_reducible refine Below.setCell ?_ ?_ _) <;> try ((try simp only [World.size_alloc, World.size_setCell, World.size_drew]) <;> omega)) | (with_reducible refine below_drewN ?_ _) | (with_reducible refine Below.drew ?_) | ((with_reducible refine via (by assumption) ?_ ?_) <;> try ((try simp only [World.size_alloc, World.size_setCell, World.size_drew]) <;> omega))))
      · have HY := Lib.hid hy
        have hr : scr W n m X Y p q k s x y = scp W.toNat n X.toNat Y.toNat p q k s x.toNat y.toNat := by unfold scr; rw [hv, hx, hy]; rfl
        obtain ⟨hf, hs⟩ := scd_parts hv
        obtain ⟨W', X', Y', rfl, rfl, rfl, hX, hY, hok⟩ := fok_of hf
        obtain ⟨x0, x1⟩ := inB_true.1 hx
        obtain ⟨y0, y1⟩ := inB_true.1 hy
        obtain ⟨x', rfl⟩ := Int.eq_ofNat_of_zero_le x0
        obtain ⟨y', rfl⟩ := Int.eq_ofNat_of_zero_le y0
        rw [hr]
        simp only [Int.toNat_natCast]
        have hx' : x' ≤ 31 := by omega
        have hx32 : (x' : Int) < 32 := by omega
        have hy' : y' ≤ 15 := by omega
        have HOK := Lib.hid hok
        have HSV := Lib.hid hs
        have HL := Lib.hid (fun u hS h h' h2 h3 h4 h5 => iscl_c w.heap.size W' n m A c B d X' Y' S k e p q s y' u (C := C) (C' := C') (C2 := C2) hok hs hS h h' h2 h3 h4 h5 hX hY hy')
        clear hv hx hy hr x0 x1 y0 y1 hf hs hok
        go_enter Try.func17, Try.ntmps17
        go_wp2_with (first | ((go_at_call 22; (refine (isc_c _ _ _ _ _ _ _ _ _ _ _ _ p q s _ HV.out _ (C := C) (C' := C') (C2 := C2) (H.out.alloc hC _) (H'.out.alloc hC' _) (H2.out.alloc hC2 _) (by ((try simp only [World.size_alloc, World.size_setCell, World.size_drew]) <;> omega)) (by ((try simp only [World.size_alloc, World.size_setCell, World.size_drew]) <;> omega)) (by ((try simp only [World.size_alloc, World.size_setCell, World.size_drew]) <;> omega)) hn hm hk).mono ?_; rintro e w1 ⟨rfl, hO_w1⟩; have hz_w1 := hO_w1.size; (try simp only [World.size_alloc, World.size_setCell, World.size_drew] at hz_w1); have hs_w1_0 : w.heap.size < w1.heap.size := (by omega); have c_w1_0 := fun o => (bcell hO_w1).1 (w.heap.size) o (by (try simp only [World.size_alloc, World.size_setCell, World.size_drew]) <;> omega); have f_w1_0 := fun o => (bcell hO_w1).2 (w.heap.size) o (by (try simp only [World.size_alloc, World.size_setCell, World.size_drew]) <;> omega))); have hS1 := Lib.hid (SB.below hO_w1 (SB.new w 29 W' A n c B m d X' Y' S k e) (by simp)); have hb1 := Lib.hid hO_w1) | (go_at_call 36; (first | (with_reducible refine (within_c x' 0 31 _ HX.out _).mono ?_) | (with_reducible refine (within_c y' 0 15 _ HY.out _).mono ?_)); rintro e w' ⟨rfl, rfl⟩) | (go_at_call 37; refine (HL.out _ hS1.out (by have h1 := H.out; (repeat (first | with_reducible assumption | ((with_reducible refine RS.below (by assumption) ?_ ?_) <;> try ((try simp only [World.size_alloc, World.size_setCell, World.size_drew]) <;> omega)) | ((with_reducible refine RS.alloc ?_ ?_ _) <;> try ((try simp only [World.size_alloc, World.size_setCell, World.size_drew]) <;> omega)) | ((with_reducible refine RS.setRow ?_ ?_ _) <;> try ((try simp only [World.size_alloc, World.size_setCell, World.size_drew]) <;> omega)) | ((with_reducible refine RS.setCell ?_ ?_ _) <;> try ((try simp only [World.size_alloc, World.size_setCell, World.size_drew]) <;> omega)) | ((with_reducible refine RS.setCells ?_ ?_ _ _) <;> try ((try simp only [World.size_alloc, World.size_setCell, World.size_drew]) <;> omega)) | (with_reducible apply RS.drewN) | (with_reducible apply RS.drew)))) (by have h1 := H'.out; (repeat (first | with_reducible assumption | ((with_reducible refine RS.below (by assumption) ?_ ?_) <;> try ((try simp only [World.size_alloc, World.size_setCell, World.size_drew]) <;> omega)) | ((with_reducible refine RS.alloc ?_ ?_ _) <;> try ((try simp only [World.size_alloc, World.size_setCell, World.size_drew]) <;> omega)) | ((with_reducible refine RS.setRow ?_ ?_ _) <;> try ((try simp only [World.size_alloc, World.size_setCell, World.size_drew]) <;> omega)) | ((with_reducible refine RS.setCell ?_ ?_ _) <;> try ((try simp only [World.size_alloc, World.size_setCell, World.size_drew]) <;> omega)) | ((with_reducible refine RS.setCells ?_ ?_ _ _) <;> try ((try simp only [World.size_alloc, World.size_setCell, World.size_drew]) <;> omega)) | (with_reducible apply RS.drewN) | (with_reducible apply RS.drew)))) (by have h1 := H2.out; (repeat (first | with_reducible assumption | ((with_reducible refine RS.below (by assumption) ?_ ?_) <;> try ((try simp only [World.size_alloc, World.size_setCell, World.size_drew]) <;> omega)) | ((with_reducible refine RS.alloc ?_ ?_ _) <;> try ((try simp only [World.size_alloc, World.size_setCell, World.size_drew]) <;> omega)) | ((with_reducible refine RS.setRow ?_ ?_ _) <;> try ((try simp only [World.size_alloc, World.size_setCell, World.size_drew]) <;> omega)) | ((with_reducible refine RS.setCell ?_ ?_ _) <;> try ((try simp only [World.size_alloc, World.size_setCell, World.size_drew]) <;> omega)) | ((with_reducible refine RS.setCells ?_ ?_ _ _) <;> try ((try simp only [World.size_alloc, World.size_setCell, World.size_drew]) <;> omega)) | (with_reducible apply RS.drewN) | (with_reducible apply RS.drew)))) (by ((try simp only [World.size_alloc, World.size_setCell, World.size_drew]) <;> omega)) (by ((try simp only [World.size_alloc, World.size_setCell, World.size_drew]) <;> omega)) (by ((try simp only [World.size_alloc, World.size_setCell, World.size_drew]) <;> omega))).mono ?_; rintro e w2 ⟨A2, cap2, rfl, hown, hO_w2⟩; obtain ⟨go, hgo, hgo0, hgo1⟩ := own_head hown (by decide); subst hgo; have ck := (hown.cellAt x' (by omega)).trans (map_get (by omega)); simp only [iv] at ck))
        go_ret
        refine ⟨rfl, ?_⟩
        (repeat (first | with_reducible exact Below.refl _ _ | ((with_reducible refine viaO (by assumption) ?_ ?_ ?_) <;> try ((try simp only [World.size_alloc, World.size_setCell, World.size_drew]) <;> omega)) | ((with_reducible refine Below.alloc ?_ ?_ _) <;> try ((try simp only [World.size_alloc, World.size_setCell, World.size_drew]) <;> omega)) | ((with_reducible refine Below.setCell ?_ ?_ _) <;> try ((try simp only [World.size_alloc, World.size_setCell, World.size_drew]) <;> omega)) | (with_reducible refine below_drewN ?_ _) | (with_reducible refine Below.drew ?_) | ((with_reducible refine via (by assumption) ?_ ?_) <;> try ((try simp only [World.size_alloc, World.size_setCell, World.size_drew]) <;> omega))))

end Go.Proofs.Ytabioinmpjfflaa
