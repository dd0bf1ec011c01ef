/-
  What DrawSceneValid, DrawFirstTouch, DrawScenePixel and DrawSceneLine draw. No conditions.
-/
import Derived.Test.YtabioinmpjfflaaSceneDraw
namespace Go.Proofs.Ytabioinmpjfflaa
set_option linter.all false
set_option linter.unusedSimpArgs false
set_option linter.unusedVariables false
set_option maxRecDepth 20000
open Go.ChangeShapes Go.WideShapes Go.ChangeAt Go.RowKit

/-- What a drawn scene is. -/
def SCG (w' : World) (W : Int) (A : Option Addr) (n c : Nat) (B : Option Addr) (m d : Nat) (X Y : Int) (S : Option Addr) (k f : Nat) : Prop := ∃ (p : Nat → Int) (q : Nat → Nat → Int) (s : Nat → Spr), RS w' w'.heap.size 1 A n (iv p) ∧ RS w' w'.heap.size 64 B m (tc q) ∧ RS w' w'.heap.size 6 S k (sc s) ∧ n ≤ c ∧ m ≤ d ∧ k ≤ f ∧ n ≤ 100 ∧ m ≤ 100 ∧ k ≤ 24
def DC0 (w : World) (e : Ending) (w' : World) : Prop := ∃ (W : Int) (A : Option Addr) (n c : Nat) (B : Option Addr) (m d : Nat) (X Y : Int) (S : Option Addr) (k f : Nat), e = .returned (scV W A n c B m d X Y S k f) ∧ SCG w' W A n c B m d X Y S k f ∧ Below w.heap.size w w'
def DC1 (w : World) (e : Ending) (w' : World) : Prop := ∃ (W : Int) (A : Option Addr) (n c : Nat) (B : Option Addr) (m d : Nat) (X Y : Int) (S : Option Addr) (k f : Nat) (y : Int), e = .returned (.tuple #[scV W A n c B m d X Y S k f, .int .i64 y]) ∧ (-1 ≤ y ∧ y ≤ 17) ∧ SCG w' W A n c B m d X Y S k f ∧ Below w.heap.size w w'
def DC2 (w : World) (e : Ending) (w' : World) : Prop := ∃ (W : Int) (A : Option Addr) (n c : Nat) (B : Option Addr) (m d : Nat) (X Y : Int) (S : Option Addr) (k f : Nat) (x y : Int), e = .returned (.tuple #[scV W A n c B m d X Y S k f, .int .i64 x, .int .i64 y]) ∧ SCG w' W A n c B m d X Y S k f ∧ Below w.heap.size w w'

set_option maxRecDepth 100000 in
set_option maxHeartbeats 2000000 in
theorem drawSceneValid_c (a : Option Addr) (len cap : Nat) (w : World) (hcode : Code w a len) (hl : len ≤ cap) : Calls Try.prog 21 #[.slice a len cap] w (DC0 w) := by
  go_enter Try.func21, Try.ntmps21
  have hZ0 := SH.new w 29 0 none 0 0 none 0 0 0 0 none 0 0
  go_wp2_with fail
  refine (open_c _ _ _ _ (hcode.keep (by (repeat (first | with_reducible exact Below.refl _ _ | ((with_reducible refine viaO (by assumption) ?_ ?_ ?_) <;> try ((try simp only [World.size_alloc, World.size_setCell, World.size_drew]) <;> omega)) | ((with_reducible refine Below.alloc ?_ ?_ _) <;> try ((try simp only [World.size_alloc, World.size_setCell, World.size_drew]) <;> omega)) | ((with_reducible refine Below.setCell ?_ ?_ _) <;> try ((try simp only [World.size_alloc, World.size_setCell, World.size_drew]) <;> omega)) | (with_reducible refine below_drewN ?_ _) | (with_reducible refine Below.drew ?_) | ((with_reducible refine via (by assumption) ?_ ?_) <;> try ((try simp only [World.size_alloc, World.size_setCell, World.size_drew]) <;> omega)))))) (by assumption)).mono ?_
  rintro e w1 ⟨R, rfl, hR0, hO_w1, hR_w1⟩
  have hz_w1 := hO_w1.size
  (try simp only [World.size_alloc, World.size_setCell, World.size_drew] at hz_w1)
  (try simp only [World.size_alloc, World.size_setCell, World.size_drew] at hR0)
  have hlt_w1 := hR_w1.lt
  have hZ1 := SH.below hO_w1 hZ0 (by simp)
  have hb1 : Below w.heap.size w w1 := by
    (repeat (first | with_reducible exact Below.refl _ _ | ((with_reducible refine viaO (by assumption) ?_ ?_ ?_) <;> try ((try simp only [World.size_alloc, World.size_setCell, World.size_drew]) <;> omega)) | ((with_reducible refine Below.alloc ?_ ?_ _) <;> try ((try simp only [World.size_alloc, World.size_setCell, World.size_drew]) <;> omega)) | ((with_reducible refine Below.setCell ?_ ?_ _) <;> try ((try simp only [World.size_alloc, World.size_setCell, World.size_drew]) <;> omega)) | (with_reducible refine below_drewN ?_ _) | (with_reducible refine Below.drew ?_) | ((with_reducible refine via (by assumption) ?_ ?_) <;> try ((try simp only [World.size_alloc, World.size_setCell, World.size_drew]) <;> omega))))
  clear hZ0 hO_w1
  go_wp2_with fail
  refine (l20Scene_c _ _ _ _ hR_w1 (by omega) (by omega) (by omega)).mono ?_
  rintro e w2 ⟨W, A, n, c, B, m, d, X, Y, S, k, f, p, q, s, rfl, hA, hB, hS, ⟨g1, g2, g3, g4, g5, g6⟩, hO2, hR2⟩
  have hz2 := hO2.size
  have hZ2 := SH.only hO2 hZ1 (by omega)
  have hb2 : Below w.heap.size w w2 := viaO hO2 hb1 (by omega) (by omega)
  have hlt1 : w.heap.size < w1.heap.size := by omega
  have HA := Lib.hid hA
  have HB := Lib.hid hB
  have HS := Lib.hid hS
  obtain ⟨d0, d1, d2, d3, d4, d5⟩ := hZ2.sb.cells
  obtain ⟨y0, y1, y2, y3, y4, y5⟩ := hZ2.free
  clear hO2 hZ1 hA hB hS
  go_wp2
  refine bodyPost_ret (v := scV W A n c B m d X Y S k f) (by simp [results, Try.results21, go_sem, *]) rfl ⟨W, A, n, c, B, m, d, X, Y, S, k, f, rfl, ⟨p, q, s, RT.rs (base := w1.heap.size) ?_, RT.rs (base := w1.heap.size) ?_, RT.rs (base := w1.heap.size) ?_, g1, g2, g3, g4, g5, g6⟩, ?_⟩
  · exact (((((HA.out.far (by simp; omega) _).far (by simp; omega) _).far (by simp; omega) _).far (by simp; omega) _).far (by simp; omega) _).far (by simp; omega) _
  · exact (((((HB.out.far (by simp; omega) _).far (by simp; omega) _).far (by simp; omega) _).far (by simp; omega) _).far (by simp; omega) _).far (by simp; omega) _
  · exact (((((HS.out.far (by simp; omega) _).far (by simp; omega) _).far (by simp; omega) _).far (by simp; omega) _).far (by simp; omega) _).far (by simp; omega) _
  · (repeat (first | with_reducible exact Below.refl _ _ | ((with_reducible refine viaO (by assumption) ?_ ?_ ?_) <;> try ((try simp only [World.size_alloc, World.size_setCell, World.size_drew]) <;> omega)) | ((with_reducible refine Below.alloc ?_ ?_ _) <;> try ((try simp only [World.size_alloc, World.size_setCell, World.size_drew]) <;> omega)) | ((with_reducible refine Below.setCell ?_ ?_ _) <;> try ((try simp only [World.size_alloc, World.size_setCell, World.size_drew]) <;> omega)) | (with_reducible refine below_drewN ?_ _) | (with_reducible refine Below.drew ?_) | ((with_reducible refine via (by assumption) ?_ ?_) <;> try ((try simp only [World.size_alloc, World.size_setCell, World.size_drew]) <;> omega))))

set_option maxRecDepth 100000 in
set_option maxHeartbeats 2000000 in
theorem drawFirstTouch_c (a : Option Addr) (len cap : Nat) (w : World) (hcode : Code w a len) (hl : len ≤ cap) : Calls Try.prog 27 #[.slice a len cap] w (DC0 w) := by
  go_enter Try.func27, Try.ntmps27
  have hZ0 := SH.new w 29 0 none 0 0 none 0 0 0 0 none 0 0
  go_wp2_with fail
  refine (open_c _ _ _ _ (hcode.keep (by (repeat (first | with_reducible exact Below.refl _ _ | ((with_reducible refine viaO (by assumption) ?_ ?_ ?_) <;> try ((try simp only [World.size_alloc, World.size_setCell, World.size_drew]) <;> omega)) | ((with_reducible refine Below.alloc ?_ ?_ _) <;> try ((try simp only [World.size_alloc, World.size_setCell, World.size_drew]) <;> omega)) | ((with_reducible refine Below.setCell ?_ ?_ _) <;> try ((try simp only [World.size_alloc, World.size_setCell, World.size_drew]) <;> omega)) | (with_reducible refine below_drewN ?_ _) | (with_reducible refine Below.drew ?_) | ((with_reducible refine via (by assumption) ?_ ?_) <;> try ((try simp only [World.size_alloc, World.size_setCell, World.size_drew]) <;> omega)))))) (by assumption)).mono ?_
  rintro e w1 ⟨R, rfl, hR0, hO_w1, hR_w1⟩
  have hz_w1 := hO_w1.size
  (try simp only [World.size_alloc, World.size_setCell, World.size_drew] at hz_w1)
  (try simp only [World.size_alloc, World.size_setCell, World.size_drew] at hR0)
  have hlt_w1 := hR_w1.lt
  have hZ1 := SH.below hO_w1 hZ0 (by simp)
  have hb1 : Below w.heap.size w w1 := by
    (repeat (first | with_reducible exact Below.refl _ _ | ((with_reducible refine viaO (by assumption) ?_ ?_ ?_) <;> try ((try simp only [World.size_alloc, World.size_setCell, World.size_drew]) <;> omega)) | ((with_reducible refine Below.alloc ?_ ?_ _) <;> try ((try simp only [World.size_alloc, World.size_setCell, World.size_drew]) <;> omega)) | ((with_reducible refine Below.setCell ?_ ?_ _) <;> try ((try simp only [World.size_alloc, World.size_setCell, World.size_drew]) <;> omega)) | (with_reducible refine below_drewN ?_ _) | (with_reducible refine Below.drew ?_) | ((with_reducible refine via (by assumption) ?_ ?_) <;> try ((try simp only [World.size_alloc, World.size_setCell, World.size_drew]) <;> omega))))
  clear hZ0 hO_w1
  go_wp2_with fail
  refine (l20Scene_c _ _ _ _ hR_w1 (by omega) (by omega) (by omega)).mono ?_
  rintro e w2 ⟨W, A, n, c, B, m, d, X, Y, S, k, f, p, q, s, rfl, hA, hB, hS, ⟨g1, g2, g3, g4, g5, g6⟩, hO2, hR2⟩
  have hz2 := hO2.size
  have hZ2 := SH.only hO2 hZ1 (by omega)
  have hb2 : Below w.heap.size w w2 := viaO hO2 hb1 (by omega) (by omega)
  have hlt1 : w.heap.size < w1.heap.size := by omega
  have HA := Lib.hid hA
  have HB := Lib.hid hB
  have HS := Lib.hid hS
  obtain ⟨d0, d1, d2, d3, d4, d5⟩ := hZ2.sb.cells
  obtain ⟨y0, y1, y2, y3, y4, y5⟩ := hZ2.free
  clear hO2 hZ1 hA hB hS
  go_wp2
  refine bodyPost_ret (v := scV W A n c B m d X Y S k f) (by simp [results, Try.results27, go_sem, *]) rfl ⟨W, A, n, c, B, m, d, X, Y, S, k, f, rfl, ⟨p, q, s, RT.rs (base := w1.heap.size) ?_, RT.rs (base := w1.heap.size) ?_, RT.rs (base := w1.heap.size) ?_, g1, g2, g3, g4, g5, g6⟩, ?_⟩
  · exact (((((HA.out.far (by simp; omega) _).far (by simp; omega) _).far (by simp; omega) _).far (by simp; omega) _).far (by simp; omega) _).far (by simp; omega) _
  · exact (((((HB.out.far (by simp; omega) _).far (by simp; omega) _).far (by simp; omega) _).far (by simp; omega) _).far (by simp; omega) _).far (by simp; omega) _
  · exact (((((HS.out.far (by simp; omega) _).far (by simp; omega) _).far (by simp; omega) _).far (by simp; omega) _).far (by simp; omega) _).far (by simp; omega) _
  · (repeat (first | with_reducible exact Below.refl _ _ | ((with_reducible refine viaO (by assumption) ?_ ?_ ?_) <;> try ((try simp only [World.size_alloc, World.size_setCell, World.size_drew]) <;> omega)) | ((with_reducible refine Below.alloc ?_ ?_ _) <;> try ((try simp only [World.size_alloc, World.size_setCell, World.size_drew]) <;> omega)) | ((with_reducible refine Below.setCell ?_ ?_ _) <;> try ((try simp only [World.size_alloc, World.size_setCell, World.size_drew]) <;> omega)) | (with_reducible refine below_drewN ?_ _) | (with_reducible refine Below.drew ?_) | ((with_reducible refine via (by assumption) ?_ ?_) <;> try ((try simp only [World.size_alloc, World.size_setCell, World.size_drew]) <;> omega))))

set_option maxRecDepth 100000 in
set_option maxHeartbeats 2000000 in
theorem drawScenePixel_c (a : Option Addr) (len cap : Nat) (w : World) (hcode : Code w a len) (hl : len ≤ cap) : Calls Try.prog 16 #[.slice a len cap] w (DC2 w) := by
  go_enter Try.func16, Try.ntmps16
  have hZ0 := SH.new w 29 0 none 0 0 none 0 0 0 0 none 0 0
  go_wp2_with fail
  refine (open_c _ _ _ _ (hcode.keep (by (repeat (first | with_reducible exact Below.refl _ _ | ((with_reducible refine viaO (by assumption) ?_ ?_ ?_) <;> try ((try simp only [World.size_alloc, World.size_setCell, World.size_drew]) <;> omega)) | ((with_reducible refine Below.alloc ?_ ?_ _) <;> try ((try simp only [World.size_alloc, World.size_setCell, World.size_drew]) <;> omega)) | ((with_reducible refine Below.setCell ?_ ?_ _) <;> try ((try simp only [World.size_alloc, World.size_setCell, World.size_drew]) <;> omega)) | (with_reducible refine below_drewN ?_ _) | (with_reducible refine Below.drew ?_) | ((with_reducible refine via (by assumption) ?_ ?_) <;> try ((try simp only [World.size_alloc, World.size_setCell, World.size_drew]) <;> omega)))))) (by assumption)).mono ?_
  rintro e w1 ⟨R, rfl, hR0, hO_w1, hR_w1⟩
  have hz_w1 := hO_w1.size
  (try simp only [World.size_alloc, World.size_setCell, World.size_drew] at hz_w1)
  (try simp only [World.size_alloc, World.size_setCell, World.size_drew] at hR0)
  have hlt_w1 := hR_w1.lt
  have hZ1 := SH.below hO_w1 hZ0 (by simp)
  have hb1 : Below w.heap.size w w1 := by
    (repeat (first | with_reducible exact Below.refl _ _ | ((with_reducible refine viaO (by assumption) ?_ ?_ ?_) <;> try ((try simp only [World.size_alloc, World.size_setCell, World.size_drew]) <;> omega)) | ((with_reducible refine Below.alloc ?_ ?_ _) <;> try ((try simp only [World.size_alloc, World.size_setCell, World.size_drew]) <;> omega)) | ((with_reducible refine Below.setCell ?_ ?_ _) <;> try ((try simp only [World.size_alloc, World.size_setCell, World.size_drew]) <;> omega)) | (with_reducible refine below_drewN ?_ _) | (with_reducible refine Below.drew ?_) | ((with_reducible refine via (by assumption) ?_ ?_) <;> try ((try simp only [World.size_alloc, World.size_setCell, World.size_drew]) <;> omega))))
  clear hZ0 hO_w1
  go_wp2_with fail
  refine (l20Scene_c _ _ _ _ hR_w1 (by omega) (by omega) (by omega)).mono ?_
  rintro e w2 ⟨W, A, n, c, B, m, d, X, Y, S, k, f, p, q, s, rfl, hA, hB, hS, ⟨g1, g2, g3, g4, g5, g6⟩, hO2, hR2⟩
  have hz2 := hO2.size
  have hlt1 : w.heap.size < w1.heap.size := by omega
  have hA2 := hA.alloc (.cells #[.int .i64 W, .slice A n c, .slice B m d, .int .i64 X, .int .i64 Y, .slice S k f] 29)
  have hB2 := hB.alloc (.cells #[.int .i64 W, .slice A n c, .slice B m d, .int .i64 X, .int .i64 Y, .slice S k f] 29)
  have hS2 := hS.alloc (.cells #[.int .i64 W, .slice A n c, .slice B m d, .int .i64 X, .int .i64 Y, .slice S k f] 29)
  have hR3 := hR2.alloc (.cells #[.int .i64 W, .slice A n c, .slice B m d, .int .i64 X, .int .i64 Y, .slice S k f] 29)
  have hZ3 := (SH.only hO2 hZ1 (by omega)).alloc (.cells #[.int .i64 W, .slice A n c, .slice B m d, .int .i64 X, .int .i64 Y, .slice S k f] 29)
  have hF3 := SH.new w2 29 W A n c B m d X Y S k f
  have hb2 : Below w.heap.size w w2 := viaO hO2 hb1 (by omega) (by omega)
  have hb3 := hb2.alloc (by omega) (.cells #[.int .i64 W, .slice A n c, .slice B m d, .int .i64 X, .int .i64 Y, .slice S k f] 29)
  have hR1lt := hR_w1.lt
  clear hA hB hS hR2 hb2 hO2 hZ1
  go_wp2_with fail
  refine (l20XY_c _ _ _ _ hR3 (by omega) (by omega) (by omega)).mono ?_
  rintro e w4 ⟨x, y, rfl, hO4, hR4⟩
  have hz4 := hO4.size
  simp only [World.size_alloc] at hz4
  have HA := Lib.hid (hA2.only hO4 (by omega))
  have HB := Lib.hid (hB2.only hO4 (by omega))
  have HS := Lib.hid (hS2.only hO4 (by omega))
  have hZ4 := SH.only hO4 hZ3 (by omega)
  have hF4 := SH.only hO4 hF3 (by omega)
  have hb4 := viaO hO4 hb3 (by omega) (by simp; omega)
  obtain ⟨c0, c1, c2, c3, c4, c5⟩ := hF4.sb.cells
  obtain ⟨d0, d1, d2, d3, d4, d5⟩ := hZ4.sb.cells
  obtain ⟨y0, y1, y2, y3, y4, y5⟩ := hZ4.free
  clear hO4 hZ3 hF3 hA2 hB2 hS2 hR3 hb3
  go_wp2
  refine bodyPost_ret (v := .tuple #[scV W A n c B m d X Y S k f, .int .i64 x, .int .i64 y]) (by simp [results, Try.results16, go_sem, *]) rfl ⟨W, A, n, c, B, m, d, X, Y, S, k, f, x, y, rfl, ⟨p, q, s, RT.rs (base := w1.heap.size) ?_, RT.rs (base := w1.heap.size) ?_, RT.rs (base := w1.heap.size) ?_, g1, g2, g3, g4, g5, g6⟩, ?_⟩
  · exact (((((HA.out.far (by simp; omega) _).far (by simp; omega) _).far (by simp; omega) _).far (by simp; omega) _).far (by simp; omega) _).far (by simp; omega) _
  · exact (((((HB.out.far (by simp; omega) _).far (by simp; omega) _).far (by simp; omega) _).far (by simp; omega) _).far (by simp; omega) _).far (by simp; omega) _
  · exact (((((HS.out.far (by simp; omega) _).far (by simp; omega) _).far (by simp; omega) _).far (by simp; omega) _).far (by simp; omega) _).far (by simp; omega) _
  · (repeat (first | with_reducible exact Below.refl _ _ | ((with_reducible refine viaO (by assumption) ?_ ?_ ?_) <;> try ((try simp only [World.size_alloc, World.size_setCell, World.size_drew]) <;> omega)) | ((with_reducible refine Below.alloc ?_ ?_ _) <;> try ((try simp only [World.size_alloc, World.size_setCell, World.size_drew]) <;> omega)) | ((with_reducible refine Below.setCell ?_ ?_ _) <;> try ((try simp only [World.size_alloc, World.size_setCell, World.size_drew]) <;> omega)) | (with_reducible refine below_drewN ?_ _) | (with_reducible refine Below.drew ?_) | ((with_reducible refine via (by assumption) ?_ ?_) <;> try ((try simp only [World.size_alloc, World.size_setCell, World.size_drew]) <;> omega))))

end Go.Proofs.Ytabioinmpjfflaa
