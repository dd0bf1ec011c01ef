/-
  Fields: measured, copied, compared. Conditions: at most 1048576 numbers and tiles.
-/
import Derived.Test.YtabioinmpjfflaaField
namespace Go.Proofs.Ytabioinmpjfflaa
set_option linter.all false
set_option linter.unusedSimpArgs false
set_option linter.unusedVariables false
set_option maxRecDepth 20000
open Go.ChangeShapes Go.WideShapes Go.ChangeAt Go.RowKit

theorem szIntS_c (A : Option Addr) (n cap : Nat) (left : Int) (w : World) (hl : 0 ≤ left ∧ left ≤ 1048576) (hn : n ≤ 9223372036854775807) :
    Calls Try.prog 64 #[.slice A n cap, .int .i64 left] w fun e w' => e = .returned (.int .i64 (if (n : Int) ≤ left then left - n else -1)) ∧ w = w' := by
  have e1 : IntKind.i64.wrap (left - (n : Int)) = left - n := IntWalk.i64_in _ (by omega)
  by_cases h : (n : Int) ≤ left
  · rw [if_pos h]
    have h1 : ¬ left - (n : Int) < 0 := by omega
    go_enter Try.func64, Try.ntmps64
    go_wp2
    go_ret
    exact ⟨rfl, rfl⟩
  · rw [if_neg h]
    have h1 : left - (n : Int) < 0 := by omega
    go_enter Try.func64, Try.ntmps64
    go_wp2
    go_ret
    exact ⟨rfl, rfl⟩

theorem szTileS_c (A : Option Addr) (n cap : Nat) (left : Int) (w : World) (hl : 0 ≤ left ∧ left ≤ 1048576) (hn : n ≤ 9223372036854775807) :
    Calls Try.prog 65 #[.slice A n cap, .int .i64 left] w fun e w' => e = .returned (.int .i64 (if (n : Int) ≤ left then left - n else -1)) ∧ w = w' := by
  have e1 : IntKind.i64.wrap (left - (n : Int)) = left - n := IntWalk.i64_in _ (by omega)
  by_cases h : (n : Int) ≤ left
  · rw [if_pos h]
    have h1 : ¬ left - (n : Int) < 0 := by omega
    go_enter Try.func65, Try.ntmps65
    go_wp2
    go_ret
    exact ⟨rfl, rfl⟩
  · rw [if_neg h]
    have h1 : left - (n : Int) < 0 := by omega
    go_enter Try.func65, Try.ntmps65
    go_wp2
    go_ret
    exact ⟨rfl, rfl⟩

theorem szField_ok (W : Int) (A : Option Addr) (n c : Nat) (B : Option Addr) (m d : Nat) (X Y : Int) (w : World) (h : n + m ≤ 1048576) :
    Calls Try.prog 48 #[fdV W A n c B m d X Y, .int .i64 1048576] w fun e w' => e = .returned (.int .i64 (1048576 - n - m)) ∧ Below w.heap.size w w' := by
  have H1 := Lib.hid (fun w => szIntS_c A n c 1048576 w (by omega) (by omega))
  have H2 := Lib.hid (fun w => szTileS_c B m d (1048576 - (n : Int)) w (by omega) (by omega))
  rw [if_pos (by omega)] at H1 H2
  have h1 : ¬ (1048576 : Int) - n < 0 := by omega
  have h2 : ¬ (1048576 : Int) - n - m < 0 := by omega
  go_enter Try.func48, Try.ntmps48
  go_wp2_with (first | (go_at_call 64; refine (H1.out _).mono ?_; rintro e w1 ⟨rfl, rfl⟩) | (go_at_call 65; refine (H2.out _).mono ?_; rintro e w1 ⟨rfl, rfl⟩))
  go_ret
  refine ⟨rfl, ?_⟩
  (repeat (first | with_reducible exact Below.refl _ _ | ((with_reducible refine viaO (by assumption) ?_ ?_ ?_) <;> try ((try simp only [World.size_alloc, World.size_setCell, World.size_drew]) <;> omega)) | ((with_reducible refine Below.alloc ?_ ?_ _) <;> try ((try simp only [World.size_alloc, World.size_setCell, World.size_drew]) <;> omega)) | ((with_reducible refine Below.setCell ?_ ?_ _) <;> try ((try simp only [World.size_alloc, World.size_setCell, World.size_drew]) <;> omega)) | (with_reducible refine below_drewN ?_ _) | (with_reducible refine Below.drew ?_) | ((with_reducible refine via (by assumption) ?_ ?_) <;> try ((try simp only [World.size_alloc, World.size_setCell, World.size_drew]) <;> omega))))
theorem szField_no (W : Int) (A : Option Addr) (n c : Nat) (B : Option Addr) (m d : Nat) (X Y : Int) (w : World) (h : 1048576 < n + m) (hn : n ≤ 9223372036854775807) (hm : m ≤ 9223372036854775807) :
    Calls Try.prog 48 #[fdV W A n c B m d X Y, .int .i64 1048576] w fun e w' => e = .returned (.int .i64 (-1)) ∧ Below w.heap.size w w' := by
  have H1 := Lib.hid (fun w => szIntS_c A n c 1048576 w (by omega) hn)
  by_cases hn1 : n ≤ 1048576
  · have H2 := Lib.hid (fun w => szTileS_c B m d (1048576 - (n : Int)) w (by omega) hm)
    rw [if_pos (by omega)] at H1
    rw [if_neg (by omega)] at H2
    have h1 : ¬ (1048576 : Int) - n < 0 := by omega
    go_enter Try.func48, Try.ntmps48
    go_wp2_with (first | (go_at_call 64; refine (H1.out _).mono ?_; rintro e w1 ⟨rfl, rfl⟩) | (go_at_call 65; refine (H2.out _).mono ?_; rintro e w1 ⟨rfl, rfl⟩))
    go_ret
    refine ⟨rfl, ?_⟩
    (repeat (first | with_reducible exact Below.refl _ _ | ((with_reducible refine viaO (by assumption) ?_ ?_ ?_) <;> try ((try simp only [World.size_alloc, World.size_setCell, World.size_drew]) <;> omega)) | ((with_reducible refine Below.alloc ?_ ?_ _) <;> try ((try simp only [World.size_alloc, World.size_setCell, World.size_drew]) <;> omega)) | ((with_reducible refine Below.setCell ?_ ?_ _) <;> try ((try simp only [World.size_alloc, World.size_setCell, World.size_drew]) <;> omega)) | (with_reducible refine below_drewN ?_ _) | (with_reducible refine Below.drew ?_) | ((with_reducible refine via (by assumption) ?_ ?_) <;> try ((try simp only [World.size_alloc, World.size_setCell, World.size_drew]) <;> omega))))
  · rw [if_neg (by omega)] at H1
    go_enter Try.func48, Try.ntmps48
    go_wp2_with (go_at_call 64; refine (H1.out _).mono ?_; rintro e w1 ⟨rfl, rfl⟩)
    go_ret
    refine ⟨rfl, ?_⟩
    (repeat (first | with_reducible exact Below.refl _ _ | ((with_reducible refine viaO (by assumption) ?_ ?_ ?_) <;> try ((try simp only [World.size_alloc, World.size_setCell, World.size_drew]) <;> omega)) | ((with_reducible refine Below.alloc ?_ ?_ _) <;> try ((try simp only [World.size_alloc, World.size_setCell, World.size_drew]) <;> omega)) | ((with_reducible refine Below.setCell ?_ ?_ _) <;> try ((try simp only [World.size_alloc, World.size_setCell, World.size_drew]) <;> omega)) | (with_reducible refine below_drewN ?_ _) | (with_reducible refine Below.drew ?_) | ((with_reducible refine via (by assumption) ?_ ?_) <;> try ((try simp only [World.size_alloc, World.size_setCell, World.size_drew]) <;> omega))))

/-- A new field, its lists the call's own. -/
def GField (W : Int) (n m : Nat) (X Y : Int) (p : Nat → Int) (q : Nat → Nat → Int) (w : World) (e : Ending) (w' : World) : Prop :=
  ∃ (A : Option Addr) (c : Nat) (B : Option Addr) (d : Nat), e = .returned (fdV W A n c B m d X Y) ∧ w'.ownsRow w.heap.size 3 1 (.slice A n c) n ((List.range (n * 1)).map (iv p)) ∧
    w'.ownsRow w.heap.size 36 64 (.slice B m d) m ((List.range (m * 64)).map (tc q)) ∧ ((Value.slice B m d).ownBlock = none ∨ (Value.slice B m d).ownBlock ≠ (Value.slice A n c).ownBlock) ∧ Below w.heap.size w w'

theorem toField_c (W : Int) (A : Option Addr) (n c : Nat) (B : Option Addr) (m d : Nat) (X Y : Int) (p : Nat → Int) (q : Nat → Nat → Int) (w : World) {C C' : Nat} (h : RS w C 1 A n (iv p)) (h' : RS w C' 64 B m (tc q)) (hC : C ≤ w.heap.size) (hC' : C' ≤ w.heap.size)
    (hn : n ≤ 1048576) (hm : m ≤ 1048576) : Calls Try.prog 50 #[fdV W A n c B m d X Y] w (GField W n m X Y p q w) := by
  go_enter Try.func50, Try.ntmps50
  go_wp2_with fail
  refine (toIntS_c _ _ _ _ _ (B := C) (by (repeat (first | with_reducible assumption | ((with_reducible refine RS.below (by assumption) ?_ ?_) <;> try ((try simp only [World.size_alloc, World.size_setCell, World.size_drew]) <;> omega)) | ((with_reducible refine RS.alloc ?_ ?_ _) <;> try ((try simp only [World.size_alloc, World.size_setCell, World.size_drew]) <;> omega)) | ((with_reducible refine RS.setRow ?_ ?_ _) <;> try ((try simp only [World.size_alloc, World.size_setCell, World.size_drew]) <;> omega)) | ((with_reducible refine RS.setCell ?_ ?_ _) <;> try ((try simp only [World.size_alloc, World.size_setCell, World.size_drew]) <;> omega)) | ((with_reducible refine RS.setCells ?_ ?_ _ _) <;> try ((try simp only [World.size_alloc, World.size_setCell, World.size_drew]) <;> omega)) | (with_reducible apply RS.drewN) | (with_reducible apply RS.drew)))) (by ((try simp only [World.size_alloc, World.size_setCell, World.size_drew]) <;> omega)) hn).mono ?_
  rintro e w1 ⟨A1, cap1, rfl, h1, hO_w1⟩
  have hz_w1 := hO_w1.size
  (try simp only [World.size_alloc, World.size_setCell, World.size_drew] at hz_w1)
  have hs_w1_0 : w.heap.size < w1.heap.size := (by omega)
  have c_w1_0 := fun o => (bcell hO_w1).1 (w.heap.size) o (by (try simp only [World.size_alloc, World.size_setCell, World.size_drew]) <;> omega)
  have f_w1_0 := fun o => (bcell hO_w1).2 (w.heap.size) o (by (try simp only [World.size_alloc, World.size_setCell, World.size_drew]) <;> omega)
  have hs_w1_1 : w.heap.size + 1 < w1.heap.size := (by omega)
  have c_w1_1 := fun o => (bcell hO_w1).1 (w.heap.size + 1) o (by (try simp only [World.size_alloc, World.size_setCell, World.size_drew]) <;> omega)
  have f_w1_1 := fun o => (bcell hO_w1).2 (w.heap.size + 1) o (by (try simp only [World.size_alloc, World.size_setCell, World.size_drew]) <;> omega)
  have hs_w1_2 : w.heap.size + 1 + 1 < w1.heap.size := (by omega)
  have c_w1_2 := fun o => (bcell hO_w1).1 (w.heap.size + 1 + 1) o (by (try simp only [World.size_alloc, World.size_setCell, World.size_drew]) <;> omega)
  have f_w1_2 := fun o => (bcell hO_w1).2 (w.heap.size + 1 + 1) o (by (try simp only [World.size_alloc, World.size_setCell, World.size_drew]) <;> omega)
  have s1 := own_rs h1
  have l1 := own_cap h1
  have H1 := Lib.hid (own_base (base' := w.heap.size + 3) h1 (by ((try simp only [World.size_alloc, World.size_setCell, World.size_drew]) <;> omega)))
  have N1 := Lib.hid h1.lt
  clear h1 s1
  go_wp2_with fail
  refine (toTileS_c _ _ _ _ _ (B := C') (by (repeat (first | with_reducible assumption | ((with_reducible refine RS.below (by assumption) ?_ ?_) <;> try ((try simp only [World.size_alloc, World.size_setCell, World.size_drew]) <;> omega)) | ((with_reducible refine RS.alloc ?_ ?_ _) <;> try ((try simp only [World.size_alloc, World.size_setCell, World.size_drew]) <;> omega)) | ((with_reducible refine RS.setRow ?_ ?_ _) <;> try ((try simp only [World.size_alloc, World.size_setCell, World.size_drew]) <;> omega)) | ((with_reducible refine RS.setCell ?_ ?_ _) <;> try ((try simp only [World.size_alloc, World.size_setCell, World.size_drew]) <;> omega)) | ((with_reducible refine RS.setCells ?_ ?_ _ _) <;> try ((try simp only [World.size_alloc, World.size_setCell, World.size_drew]) <;> omega)) | (with_reducible apply RS.drewN) | (with_reducible apply RS.drew)))) (by ((try simp only [World.size_alloc, World.size_setCell, World.size_drew]) <;> omega)) hm).mono ?_
  rintro e w2 ⟨A2, cap2, rfl, h2, hO_w2⟩
  have hz_w2 := hO_w2.size
  (try simp only [World.size_alloc, World.size_setCell, World.size_drew] at hz_w2)
  have hs_w2_0 : w.heap.size < w2.heap.size := (by omega)
  have c_w2_0 := fun o => (bcell hO_w2).1 (w.heap.size) o (by (try simp only [World.size_alloc, World.size_setCell, World.size_drew]) <;> omega)
  have f_w2_0 := fun o => (bcell hO_w2).2 (w.heap.size) o (by (try simp only [World.size_alloc, World.size_setCell, World.size_drew]) <;> omega)
  have hs_w2_1 : w.heap.size + 1 < w2.heap.size := (by omega)
  have c_w2_1 := fun o => (bcell hO_w2).1 (w.heap.size + 1) o (by (try simp only [World.size_alloc, World.size_setCell, World.size_drew]) <;> omega)
  have f_w2_1 := fun o => (bcell hO_w2).2 (w.heap.size + 1) o (by (try simp only [World.size_alloc, World.size_setCell, World.size_drew]) <;> omega)
  have hs_w2_2 : w.heap.size + 1 + 1 < w2.heap.size := (by omega)
  have c_w2_2 := fun o => (bcell hO_w2).1 (w.heap.size + 1 + 1) o (by (try simp only [World.size_alloc, World.size_setCell, World.size_drew]) <;> omega)
  have f_w2_2 := fun o => (bcell hO_w2).2 (w.heap.size + 1 + 1) o (by (try simp only [World.size_alloc, World.size_setCell, World.size_drew]) <;> omega)
  have s2 := own_rs h2
  have l2 := own_cap h2
  have G1 := Lib.hid (own_below (ownsRow_setCell_below H1.out (a := ⟨w.heap.size + 1 + 1, 1, none⟩) (show w.heap.size + 1 + 1 < _ by omega) (.slice A1 n cap1)) hO_w2 (Nat.le_refl _))
  have G2 := Lib.hid (own_base (base' := w.heap.size + 3) h2 (by ((try simp only [World.size_alloc, World.size_setCell, World.size_drew]) <;> omega)))
  have N2 := Lib.hid h2.lt
  clear h2 s2 H1
  go_wp2
  refine bodyPost_ret (v := fdV W A1 n cap1 A2 m cap2 X Y) (by simp [results, Try.results50, go_sem, *]) rfl ⟨A1, cap1, A2, cap2, rfl, ?_, ?_, ?_, ?_⟩
  · refine own_base (base := w.heap.size + 3) ?_ (by omega)
    repeat (refine ownsRow_setCell_below ?_ (by simp <;> omega) _)
    exact G1.out
  · refine own_base (base := w.heap.size + 3) ?_ (by omega)
    repeat (refine ownsRow_setCell_below ?_ (by simp <;> omega) _)
    exact G2.out
  · cases hx : (Value.slice A2 m cap2).ownBlock with
    | none => exact .inl rfl
    | some x =>
      refine .inr fun hy => ?_
      have e1 := (N2.out _ hx).1
      (try simp only [World.size_setCell, World.size_alloc] at e1)
      have e2 := (N1.out _ hy.symm).2
      omega
  · (repeat (first | with_reducible exact Below.refl _ _ | ((with_reducible refine viaO (by assumption) ?_ ?_ ?_) <;> try ((try simp only [World.size_alloc, World.size_setCell, World.size_drew]) <;> omega)) | ((with_reducible refine Below.alloc ?_ ?_ _) <;> try ((try simp only [World.size_alloc, World.size_setCell, World.size_drew]) <;> omega)) | ((with_reducible refine Below.setCell ?_ ?_ _) <;> try ((try simp only [World.size_alloc, World.size_setCell, World.size_drew]) <;> omega)) | (with_reducible refine below_drewN ?_ _) | (with_reducible refine Below.drew ?_) | ((with_reducible refine via (by assumption) ?_ ?_) <;> try ((try simp only [World.size_alloc, World.size_setCell, World.size_drew]) <;> omega))))

theorem eqField_c (W : Int) (A : Option Addr) (n c : Nat) (B : Option Addr) (m d : Nat) (X Y : Int) (A' : Option Addr) (c' : Nat) (B' : Option Addr) (d' : Nat) (p : Nat → Int) (q : Nat → Nat → Int) (w : World) {C1 C2 C3 C4 : Nat}
    (h1 : RS w C1 1 A n (iv p)) (h2 : RS w C2 64 B m (tc q)) (h3 : RS w C3 1 A' n (iv p)) (h4 : RS w C4 64 B' m (tc q)) (g1 : C1 ≤ w.heap.size) (g2 : C2 ≤ w.heap.size) (g3 : C3 ≤ w.heap.size) (g4 : C4 ≤ w.heap.size) (hn : n ≤ 1048576) (hm : m ≤ 1048576) :
    Calls Try.prog 52 #[fdV W A n c B m d X Y, fdV W A' n c' B' m d' X Y] w fun e w' => e = .returned (.bool true) ∧ Below w.heap.size w w' := by
  go_enter Try.func52, Try.ntmps52
  go_wp2_with fail
  refine (eqIntS_c _ _ _ _ _ _ _ _ (C := C1) (C' := C3) (by (repeat (first | with_reducible assumption | ((with_reducible refine RS.below (by assumption) ?_ ?_) <;> try ((try simp only [World.size_alloc, World.size_setCell, World.size_drew]) <;> omega)) | ((with_reducible refine RS.alloc ?_ ?_ _) <;> try ((try simp only [World.size_alloc, World.size_setCell, World.size_drew]) <;> omega)) | ((with_reducible refine RS.setRow ?_ ?_ _) <;> try ((try simp only [World.size_alloc, World.size_setCell, World.size_drew]) <;> omega)) | ((with_reducible refine RS.setCell ?_ ?_ _) <;> try ((try simp only [World.size_alloc, World.size_setCell, World.size_drew]) <;> omega)) | ((with_reducible refine RS.setCells ?_ ?_ _ _) <;> try ((try simp only [World.size_alloc, World.size_setCell, World.size_drew]) <;> omega)) | (with_reducible apply RS.drewN) | (with_reducible apply RS.drew)))) (by (repeat (first | with_reducible assumption | ((with_reducible refine RS.below (by assumption) ?_ ?_) <;> try ((try simp only [World.size_alloc, World.size_setCell, World.size_drew]) <;> omega)) | ((with_reducible refine RS.alloc ?_ ?_ _) <;> try ((try simp only [World.size_alloc, World.size_setCell, World.size_drew]) <;> omega)) | ((with_reducible refine RS.setRow ?_ ?_ _) <;> try ((try simp only [World.size_alloc, World.size_setCell, World.size_drew]) <;> omega)) | ((with_reducible refine RS.setCell ?_ ?_ _) <;> try ((try simp only [World.size_alloc, World.size_setCell, World.size_drew]) <;> omega)) | ((with_reducible refine RS.setCells ?_ ?_ _ _) <;> try ((try simp only [World.size_alloc, World.size_setCell, World.size_drew]) <;> omega)) | (with_reducible apply RS.drewN) | (with_reducible apply RS.drew)))) (by ((try simp only [World.size_alloc, World.size_setCell, World.size_drew]) <;> omega)) (by ((try simp only [World.size_alloc, World.size_setCell, World.size_drew]) <;> omega)) hn (fun _ _ => rfl)).mono ?_
  rintro e w1 ⟨rfl, hO_w1⟩
  have hz_w1 := hO_w1.size
  (try simp only [World.size_alloc, World.size_setCell, World.size_drew] at hz_w1)
  have hs_w1_0 : w.heap.size < w1.heap.size := (by omega)
  have c_w1_0 := fun o => (bcell hO_w1).1 (w.heap.size) o (by (try simp only [World.size_alloc, World.size_setCell, World.size_drew]) <;> omega)
  have f_w1_0 := fun o => (bcell hO_w1).2 (w.heap.size) o (by (try simp only [World.size_alloc, World.size_setCell, World.size_drew]) <;> omega)
  have hs_w1_1 : w.heap.size + 1 < w1.heap.size := (by omega)
  have c_w1_1 := fun o => (bcell hO_w1).1 (w.heap.size + 1) o (by (try simp only [World.size_alloc, World.size_setCell, World.size_drew]) <;> omega)
  have f_w1_1 := fun o => (bcell hO_w1).2 (w.heap.size + 1) o (by (try simp only [World.size_alloc, World.size_setCell, World.size_drew]) <;> omega)
  go_wp2_with fail
  refine (eqTileS_c _ _ _ _ _ _ _ (C := C2) (C' := C4) (by (repeat (first | with_reducible assumption | ((with_reducible refine RS.below (by assumption) ?_ ?_) <;> try ((try simp only [World.size_alloc, World.size_setCell, World.size_drew]) <;> omega)) | ((with_reducible refine RS.alloc ?_ ?_ _) <;> try ((try simp only [World.size_alloc, World.size_setCell, World.size_drew]) <;> omega)) | ((with_reducible refine RS.setRow ?_ ?_ _) <;> try ((try simp only [World.size_alloc, World.size_setCell, World.size_drew]) <;> omega)) | ((with_reducible refine RS.setCell ?_ ?_ _) <;> try ((try simp only [World.size_alloc, World.size_setCell, World.size_drew]) <;> omega)) | ((with_reducible refine RS.setCells ?_ ?_ _ _) <;> try ((try simp only [World.size_alloc, World.size_setCell, World.size_drew]) <;> omega)) | (with_reducible apply RS.drewN) | (with_reducible apply RS.drew)))) (by (repeat (first | with_reducible assumption | ((with_reducible refine RS.below (by assumption) ?_ ?_) <;> try ((try simp only [World.size_alloc, World.size_setCell, World.size_drew]) <;> omega)) | ((with_reducible refine RS.alloc ?_ ?_ _) <;> try ((try simp only [World.size_alloc, World.size_setCell, World.size_drew]) <;> omega)) | ((with_reducible refine RS.setRow ?_ ?_ _) <;> try ((try simp only [World.size_alloc, World.size_setCell, World.size_drew]) <;> omega)) | ((with_reducible refine RS.setCell ?_ ?_ _) <;> try ((try simp only [World.size_alloc, World.size_setCell, World.size_drew]) <;> omega)) | ((with_reducible refine RS.setCells ?_ ?_ _ _) <;> try ((try simp only [World.size_alloc, World.size_setCell, World.size_drew]) <;> omega)) | (with_reducible apply RS.drewN) | (with_reducible apply RS.drew)))) (by ((try simp only [World.size_alloc, World.size_setCell, World.size_drew]) <;> omega)) (by ((try simp only [World.size_alloc, World.size_setCell, World.size_drew]) <;> omega)) hm).mono ?_
  rintro e w2 ⟨rfl, hO_w2⟩
  have hz_w2 := hO_w2.size
  (try simp only [World.size_alloc, World.size_setCell, World.size_drew] at hz_w2)
  have hs_w2_0 : w.heap.size < w2.heap.size := (by omega)
  have c_w2_0 := fun o => (bcell hO_w2).1 (w.heap.size) o (by (try simp only [World.size_alloc, World.size_setCell, World.size_drew]) <;> omega)
  have f_w2_0 := fun o => (bcell hO_w2).2 (w.heap.size) o (by (try simp only [World.size_alloc, World.size_setCell, World.size_drew]) <;> omega)
  have hs_w2_1 : w.heap.size + 1 < w2.heap.size := (by omega)
  have c_w2_1 := fun o => (bcell hO_w2).1 (w.heap.size + 1) o (by (try simp only [World.size_alloc, World.size_setCell, World.size_drew]) <;> omega)
  have f_w2_1 := fun o => (bcell hO_w2).2 (w.heap.size + 1) o (by (try simp only [World.size_alloc, World.size_setCell, World.size_drew]) <;> omega)
  go_wp2
  go_ret
  refine ⟨rfl, ?_⟩
  (repeat (first | with_reducible exact Below.refl _ _ | ((with_reducible refine viaO (by assumption) ?_ ?_ ?_) <;> try ((try simp only [World.size_alloc, World.size_setCell, World.size_drew]) <;> omega)) | ((with_reducible refine Below.alloc ?_ ?_ _) <;> try ((try simp only [World.size_alloc, World.size_setCell, World.size_drew]) <;> omega)) | ((with_reducible refine Below.setCell ?_ ?_ _) <;> try ((try simp only [World.size_alloc, World.size_setCell, World.size_drew]) <;> omega)) | (with_reducible refine below_drewN ?_ _) | (with_reducible refine Below.drew ?_) | ((with_reducible refine via (by assumption) ?_ ?_) <;> try ((try simp only [World.size_alloc, World.size_setCell, World.size_drew]) <;> omega))))

end Go.Proofs.Ytabioinmpjfflaa
