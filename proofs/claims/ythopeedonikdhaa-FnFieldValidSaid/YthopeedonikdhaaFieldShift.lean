/-
  The contracts of ShiftField in the program and in the reference. Conditions: at most 524288 tiles and numbers.
-/
import Derived.Test.YthopeedonikdhaaFieldLine
import Derived.Test.YthopeedonikdhaaField2
import Derived.Deep.DeepCutAuto
namespace Go.Proofs.Ythopeedonikdhaa
set_option linter.all false
set_option linter.unusedSimpArgs false
set_option linter.unusedVariables false
open Go.ChangeShapes Go.WideShapes Go.ChangeAt Go.RowKit

/-- The remainder that is not negative. -/
def mdl (a b : Int) : Int := (a.tmod b + b).tmod b
theorem mdl_eq {a b : Int} (hb : 0 < b) : mdl a b = a % b := by
  unfold mdl
  have h1 : -b < a.tmod b := by
    have := Int.lt_tmod_of_pos a hb
    exact this
  have h2 : a.tmod b < b := Int.tmod_lt_of_pos a hb
  have h3 : 0 ≤ a.tmod b + b := by omega
  rw [Int.tmod_eq_emod_of_nonneg h3, Int.add_emod_right]
  have h4 := Int.tmod_add_mul_tdiv a b
  have h5 : a.tmod b = a - b * a.tdiv b := by omega
  rw [h5, Int.sub_mul_emod_self_left]
theorem modulo_c (a b : Int) (w : World) (hb0 : 1 ≤ b) (hb : b ≤ 64) (ha0 : -1000 ≤ a) (ha : a ≤ 1000) : Calls Try.prog 24 #[.int .i64 a, .int .i64 b] w fun e w' => e = .returned (.int .i64 (a % b)) ∧ w = w' := by
  have h1 : -b < a.tmod b := Int.lt_tmod_of_pos a (by omega)
  have h2 : a.tmod b < b := Int.tmod_lt_of_pos a (by omega)
  have h3 := mdl_eq (a := a) (b := b) (by omega)
  unfold mdl at h3
  have hb' : ¬ b = 0 := by omega
  go_enter Try.func24, Try.ntmps24
  go_wp2
  go_ret
  exact ⟨rfl, rfl⟩

theorem RS.seg {w : World} {B sz n b off : Nat} {c : Nat → Value} (h : RS w B sz (some ⟨b, off, none⟩) n c) (hn : 0 < n) : ∀ j, j < n * sz → w.cell? ⟨b, off + j, none⟩ = some (c (0 * sz + j)) := fun j hj => by
  obtain ⟨b', off', he, _, hc⟩ := h.at_ hn
  cases he
  rw [Nat.zero_mul, Nat.zero_add]
  exact hc j hj

theorem copyField_c (W : Int) (A : Option Addr) (n c : Nat) (B : Option Addr) (m d : Nat) (X Y : Int) (p : Nat → Int) (q : Nat → Nat → Int) (w : World) {C C' : Nat} (h : RS w C 1 A n (iv p)) (h' : RS w C' 64 B m (tc q)) (hC : C ≤ w.heap.size) (hC' : C' ≤ w.heap.size)
    (hn0 : 0 < n) (hm0 : 0 < m) (hn : n ≤ 1048576) (hm : m ≤ 1048576) : Calls Try.prog 23 #[fdV W A n c B m d X Y] w (GField W n m X Y p q w) := by
  obtain ⟨b, off, rfl, hb, -⟩ := h.at_ hn0
  obtain ⟨b', off', rfl, hb', -⟩ := h'.at_ hm0
  go_enter Try.func23, Try.ntmps23
  go_wp2_with (first | (at_builtin; refine wpList_append_all Try.underlying23 info3 rfl (by omega) (by omega) rfl _ _ rfl _ 0 n 0 c b off none (iv p) rfl rfl (own_nil _ _ _ _ _) (RS.seg (B := C) (by (repeat (first | with_reducible assumption | ((with_reducible refine RS.below (by assumption) ?_ ?_) <;> try ((try simp only [World.size_alloc, World.size_setCell, World.size_drew]) <;> omega)) | ((with_reducible refine RS.alloc ?_ ?_ _) <;> try ((try simp only [World.size_alloc, World.size_setCell, World.size_drew]) <;> omega)) | ((with_reducible refine RS.setRow ?_ ?_ _) <;> try ((try simp only [World.size_alloc, World.size_setCell, World.size_drew]) <;> omega)) | ((with_reducible refine RS.setCell ?_ ?_ _) <;> try ((try simp only [World.size_alloc, World.size_setCell, World.size_drew]) <;> omega)) | ((with_reducible refine RS.setCells ?_ ?_ _ _) <;> try ((try simp only [World.size_alloc, World.size_setCell, World.size_drew]) <;> omega)) | (with_reducible apply RS.drewN) | (with_reducible apply RS.drew)))) hn0) (fun _ _ => rfl) (by omega) (Nat.le_refl _) ?_; intro A1 cap1 w1 h1 hO_w1; rw [Nat.zero_add] at h1; simp only [Nat.zero_add]; have hz_w1 := hO_w1.size; (try simp only [World.size_alloc, World.size_setCell, World.size_drew] at hz_w1); have hs_w1_0 : w.heap.size < w1.heap.size := (by omega); have c_w1_0 := fun o => (bcell hO_w1).1 (w.heap.size) o (by (try simp only [World.size_alloc, World.size_setCell, World.size_drew]) <;> omega); have f_w1_0 := fun o => (bcell hO_w1).2 (w.heap.size) o (by (try simp only [World.size_alloc, World.size_setCell, World.size_drew]) <;> omega); have hs_w1_1 : w.heap.size + 1 < w1.heap.size := (by omega); have c_w1_1 := fun o => (bcell hO_w1).1 (w.heap.size + 1) o (by (try simp only [World.size_alloc, World.size_setCell, World.size_drew]) <;> omega); have f_w1_1 := fun o => (bcell hO_w1).2 (w.heap.size + 1) o (by (try simp only [World.size_alloc, World.size_setCell, World.size_drew]) <;> omega); have H1 := Lib.hid (own_base (base' := w.heap.size + 2) h1 (by ((try simp only [World.size_alloc, World.size_setCell, World.size_drew]) <;> omega))); have N1 := Lib.hid h1.lt; clear h1) | (at_builtin; refine wpList_append_all Try.underlying24 info45 rfl (by omega) (by omega) rfl _ _ rfl _ 0 m 0 d b' off' none (tc q) rfl rfl (own_nil _ _ _ _ _) (RS.seg (B := C') (by (repeat (first | with_reducible assumption | ((with_reducible refine RS.below (by assumption) ?_ ?_) <;> try ((try simp only [World.size_alloc, World.size_setCell, World.size_drew]) <;> omega)) | ((with_reducible refine RS.alloc ?_ ?_ _) <;> try ((try simp only [World.size_alloc, World.size_setCell, World.size_drew]) <;> omega)) | ((with_reducible refine RS.setRow ?_ ?_ _) <;> try ((try simp only [World.size_alloc, World.size_setCell, World.size_drew]) <;> omega)) | ((with_reducible refine RS.setCell ?_ ?_ _) <;> try ((try simp only [World.size_alloc, World.size_setCell, World.size_drew]) <;> omega)) | ((with_reducible refine RS.setCells ?_ ?_ _ _) <;> try ((try simp only [World.size_alloc, World.size_setCell, World.size_drew]) <;> omega)) | (with_reducible apply RS.drewN) | (with_reducible apply RS.drew)))) hm0) (fun _ _ => rfl) (by omega) (Nat.le_refl _) ?_; intro A2 cap2 w2 h2 hO_w2; rw [Nat.zero_add] at h2; simp only [Nat.zero_add]; have hz_w2 := hO_w2.size; (try simp only [World.size_alloc, World.size_setCell, World.size_drew] at hz_w2); have hs_w2_0 : w.heap.size < w2.heap.size := (by omega); have c_w2_0 := fun o => (bcell hO_w2).1 (w.heap.size) o (by (try simp only [World.size_alloc, World.size_setCell, World.size_drew]) <;> omega); have f_w2_0 := fun o => (bcell hO_w2).2 (w.heap.size) o (by (try simp only [World.size_alloc, World.size_setCell, World.size_drew]) <;> omega); have hs_w2_1 : w.heap.size + 1 < w2.heap.size := (by omega); have c_w2_1 := fun o => (bcell hO_w2).1 (w.heap.size + 1) o (by (try simp only [World.size_alloc, World.size_setCell, World.size_drew]) <;> omega); have f_w2_1 := fun o => (bcell hO_w2).2 (w.heap.size + 1) o (by (try simp only [World.size_alloc, World.size_setCell, World.size_drew]) <;> omega)))
  have G1 := Lib.hid (own_below (ownsRow_setCell_below H1.out (a := ⟨w.heap.size, 1, none⟩) (show w.heap.size < _ by omega) (.slice A1 n cap1)) hO_w2 (Nat.le_refl _))
  have G2 := Lib.hid (own_base (base' := w.heap.size + 2) h2 (by ((try simp only [World.size_alloc, World.size_setCell, World.size_drew]) <;> omega)))
  have N2 := Lib.hid h2.lt
  clear h2 H1
  go_wp2
  refine bodyPost_ret (v := fdV W A1 n cap1 A2 m cap2 X Y) (by simp [results, Try.results23, go_sem, *]) rfl ⟨A1, cap1, A2, cap2, rfl, ?_, ?_, ?_, ?_⟩
  · refine own_base (base := w.heap.size + 2) ?_ (by omega)
    repeat (refine ownsRow_setCell_below ?_ (by simp <;> omega) _)
    exact G1.out
  · refine own_base (base := w.heap.size + 2) ?_ (by omega)
    repeat (refine ownsRow_setCell_below ?_ (by simp <;> omega) _)
    exact G2.out
  · cases hx : (Value.slice A2 m cap2).ownBlock with
    | none => exact .inl rfl
    | some x =>
      refine .inr fun hy => ?_
      have e1 := (N2.out _ hx).1
      (try simp only [World.size_setCell, World.size_alloc] at e1)
      have e2 := (N1.out _ hy.symm).2
      omega
  · (repeat (first | with_reducible exact Below.refl _ _ | ((with_reducible refine viaO (by assumption) ?_ ?_ ?_) <;> try ((try simp only [World.size_alloc, World.size_setCell, World.size_drew]) <;> omega)) | ((with_reducible refine Below.alloc ?_ ?_ _) <;> try ((try simp only [World.size_alloc, World.size_setCell, World.size_drew]) <;> omega)) | ((with_reducible refine Below.setCell ?_ ?_ _) <;> try ((try simp only [World.size_alloc, World.size_setCell, World.size_drew]) <;> omega)) | (with_reducible refine below_drewN ?_ _) | (with_reducible refine Below.drew ?_) | ((with_reducible refine via (by assumption) ?_ ?_) <;> try ((try simp only [World.size_alloc, World.size_setCell, World.size_drew]) <;> omega))))

/-- Whether a shift has a result. -/
def shv (W : Int) (n m : Nat) (X Y : Int) (p : Nat → Int) (q : Nat → Nat → Int) (dx dy : Int) : Bool := fvd W n m X Y p q && inB dx (-255) 255 && inB dy (-255) 255
theorem shv_no1 {W : Int} {n m : Nat} {X Y : Int} {p : Nat → Int} {q : Nat → Nat → Int} {dx dy : Int} (h : fvd W n m X Y p q = false) : shv W n m X Y p q dx dy = false := by unfold shv; rw [h]; rfl
theorem shv_no2 {W : Int} {n m : Nat} {X Y : Int} {p : Nat → Int} {q : Nat → Nat → Int} {dx dy : Int} (h : inB dx (-255) 255 = false) : shv W n m X Y p q dx dy = false := by unfold shv; rw [h, Bool.and_false]; rfl
theorem shv_no3 {W : Int} {n m : Nat} {X Y : Int} {p : Nat → Int} {q : Nat → Nat → Int} {dx dy : Int} (h : inB dy (-255) 255 = false) : shv W n m X Y p q dx dy = false := by unfold shv; rw [h, Bool.and_false]
theorem shv_yes {W : Int} {n m : Nat} {X Y : Int} {p : Nat → Int} {q : Nat → Nat → Int} {dx dy : Int} (h : fvd W n m X Y p q = true) (h1 : inB dx (-255) 255 = true) (h2 : inB dy (-255) 255 = true) : shv W n m X Y p q dx dy = true := by unfold shv; rw [h, h1, h2]; rfl
/-- What a shift gives. -/
def ShF (v : Bool) (W : Int) (n m : Nat) (X Y dx dy : Int) (p : Nat → Int) (q : Nat → Nat → Int) : World → Ending → World → Prop :=
  if v then GField W n m ((X + dx) % (8 * W)) ((Y + dy) % (8 * (n / W))) p q else GField 0 0 0 0 0 p q
theorem zeroField {p : Nat → Int} {q : Nat → Nat → Int} {w w' : World} (hb : Below w.heap.size w w') : GField 0 0 0 0 0 p q w (.returned (fdV 0 none 0 0 none 0 0 0 0)) w' :=
  ⟨none, 0, none, 0, rfl, own_nil _ _ _ _ _, own_nil _ _ _ _ _, .inl rfl, hb⟩

theorem ishn_c (W : Int) (A : Option Addr) (n c : Nat) (B : Option Addr) (m d : Nat) (X Y dx dy : Int) (p : Nat → Int) (q : Nat → Nat → Int) (w : World) {C C' : Nat} (h : RS w C 1 A n (iv p)) (h' : RS w C' 64 B m (tc q)) (hC : C ≤ w.heap.size) (hC' : C' ≤ w.heap.size) (hn : n ≤ 1048576) (hm : m ≤ 1048576)
    (hv : shv W n m X Y p q dx dy = false) : Calls Try.prog 10 #[fdV W A n c B m d X Y, .int .i64 dx, .int .i64 dy] w (GField 0 0 0 0 0 p q w) := by
  have H := Lib.hid h
  have H' := Lib.hid h'
  clear h h'
  cases hv1 : fvd W n m X Y p q
  · have HV := Lib.hid hv1
    clear hv hv1
    go_enter Try.func10, Try.ntmps10
    go_wp2_with (first | (go_at_call 6; (refine (ifv_c _ _ _ _ _ _ _ _ _ p q _ HV.out _ (C := C) (C' := C') (RS.alloc (RS.alloc H.out hC _) (by ((try simp only [World.size_alloc, World.size_setCell, World.size_drew]) <;> omega)) _) (RS.alloc (RS.alloc H'.out hC' _) (by ((try simp only [World.size_alloc, World.size_setCell, World.size_drew]) <;> omega)) _) (by ((try simp only [World.size_alloc, World.size_setCell, World.size_drew]) <;> omega)) (by ((try simp only [World.size_alloc, World.size_setCell, World.size_drew]) <;> omega)) hn hm).mono ?_; rintro e w1 ⟨rfl, hO_w1⟩; have hz_w1 := hO_w1.size; (try simp only [World.size_alloc, World.size_setCell, World.size_drew] at hz_w1); have hs_w1_0 : w.heap.size < w1.heap.size := (by omega); have c_w1_0 := fun o => (bcell hO_w1).1 (w.heap.size) o (by (try simp only [World.size_alloc, World.size_setCell, World.size_drew]) <;> omega); have f_w1_0 := fun o => (bcell hO_w1).2 (w.heap.size) o (by (try simp only [World.size_alloc, World.size_setCell, World.size_drew]) <;> omega); have hs_w1_1 : w.heap.size + 1 < w1.heap.size := (by omega); have c_w1_1 := fun o => (bcell hO_w1).1 (w.heap.size + 1) o (by (try simp only [World.size_alloc, World.size_setCell, World.size_drew]) <;> omega); have f_w1_1 := fun o => (bcell hO_w1).2 (w.heap.size + 1) o (by (try simp only [World.size_alloc, World.size_setCell, World.size_drew]) <;> omega))))
    refine bodyPost_ret (v := fdV 0 none 0 0 none 0 0 0 0) (by simp [results, Try.results10, go_sem, *]) rfl (zeroField ?_)
    (repeat (first | with_reducible exact Below.refl _ _ | ((with_reducible refine viaO (by assumption) ?_ ?_ ?_) <;> try ((try simp only [World.size_alloc, World.size_setCell, World.size_drew]) <;> omega)) | ((with_reducible refine Below.alloc ?_ ?_ _) <;> try ((try simp only [World.size_alloc, World.size_setCell, World.size_drew]) <;> omega)) | ((with_reducible refine Below.setCell ?_ ?_ _) <;> try ((try simp only [World.size_alloc, World.size_setCell, World.size_drew]) <;> omega)) | (with_reducible refine below_drewN ?_ _) | (with_reducible refine Below.drew ?_) | ((with_reducible refine via (by assumption) ?_ ?_) <;> try ((try simp only [World.size_alloc, World.size_setCell, World.size_drew]) <;> omega))))
  · have HV := Lib.hid hv1
    cases hx : inB dx (-255) 255
    · have HX := Lib.hid hx
      clear hv hv1 hx
      go_enter Try.func10, Try.ntmps10
      go_wp2_with (first | (go_at_call 6; (refine (ifv_c _ _ _ _ _ _ _ _ _ p q _ HV.out _ (C := C) (C' := C') (RS.alloc (RS.alloc H.out hC _) (by ((try simp only [World.size_alloc, World.size_setCell, World.size_drew]) <;> omega)) _) (RS.alloc (RS.alloc H'.out hC' _) (by ((try simp only [World.size_alloc, World.size_setCell, World.size_drew]) <;> omega)) _) (by ((try simp only [World.size_alloc, World.size_setCell, World.size_drew]) <;> omega)) (by ((try simp only [World.size_alloc, World.size_setCell, World.size_drew]) <;> omega)) hn hm).mono ?_; rintro e w1 ⟨rfl, hO_w1⟩; have hz_w1 := hO_w1.size; (try simp only [World.size_alloc, World.size_setCell, World.size_drew] at hz_w1); have hs_w1_0 : w.heap.size < w1.heap.size := (by omega); have c_w1_0 := fun o => (bcell hO_w1).1 (w.heap.size) o (by (try simp only [World.size_alloc, World.size_setCell, World.size_drew]) <;> omega); have f_w1_0 := fun o => (bcell hO_w1).2 (w.heap.size) o (by (try simp only [World.size_alloc, World.size_setCell, World.size_drew]) <;> omega); have hs_w1_1 : w.heap.size + 1 < w1.heap.size := (by omega); have c_w1_1 := fun o => (bcell hO_w1).1 (w.heap.size + 1) o (by (try simp only [World.size_alloc, World.size_setCell, World.size_drew]) <;> omega); have f_w1_1 := fun o => (bcell hO_w1).2 (w.heap.size + 1) o (by (try simp only [World.size_alloc, World.size_setCell, World.size_drew]) <;> omega))) | (go_at_call 17; (with_reducible refine (within_c dx (-255) 255 _ HX.out _).mono ?_); rintro e w' ⟨rfl, rfl⟩))
      refine bodyPost_ret (v := fdV 0 none 0 0 none 0 0 0 0) (by simp [results, Try.results10, go_sem, *]) rfl (zeroField ?_)
      (repeat (first | with_reducible exact Below.refl _ _ | ((with_reducible refine viaO (by assumption) ?_ ?_ ?_) <;> try ((try simp only [World.size_alloc, World.size_setCell, World.size_drew]) <;> omega)) | ((with_reducible refine Below.alloc ?_ ?_ _) <;> try ((try simp only [World.size_alloc, World.size_setCell, World.size_drew]) <;> omega)) | ((with_reducible refine Below.setCell ?_ ?_ _) <;> try ((try simp only [World.size_alloc, World.size_setCell, World.size_drew]) <;> omega)) | (with_reducible refine below_drewN ?_ _) | (with_reducible refine Below.drew ?_) | ((with_reducible refine via (by assumption) ?_ ?_) <;> try ((try simp only [World.size_alloc, World.size_setCell, World.size_drew]) <;> omega))))
    · have HX := Lib.hid hx
      cases hy : inB dy (-255) 255
      · have HY := Lib.hid hy
        clear hv hv1 hx hy
        go_enter Try.func10, Try.ntmps10
        go_wp2_with (first | (go_at_call 6; (refine (ifv_c _ _ _ _ _ _ _ _ _ p q _ HV.out _ (C := C) (C' := C') (RS.alloc (RS.alloc H.out hC _) (by ((try simp only [World.size_alloc, World.size_setCell, World.size_drew]) <;> omega)) _) (RS.alloc (RS.alloc H'.out hC' _) (by ((try simp only [World.size_alloc, World.size_setCell, World.size_drew]) <;> omega)) _) (by ((try simp only [World.size_alloc, World.size_setCell, World.size_drew]) <;> omega)) (by ((try simp only [World.size_alloc, World.size_setCell, World.size_drew]) <;> omega)) hn hm).mono ?_; rintro e w1 ⟨rfl, hO_w1⟩; have hz_w1 := hO_w1.size; (try simp only [World.size_alloc, World.size_setCell, World.size_drew] at hz_w1); have hs_w1_0 : w.heap.size < w1.heap.size := (by omega); have c_w1_0 := fun o => (bcell hO_w1).1 (w.heap.size) o (by (try simp only [World.size_alloc, World.size_setCell, World.size_drew]) <;> omega); have f_w1_0 := fun o => (bcell hO_w1).2 (w.heap.size) o (by (try simp only [World.size_alloc, World.size_setCell, World.size_drew]) <;> omega); have hs_w1_1 : w.heap.size + 1 < w1.heap.size := (by omega); have c_w1_1 := fun o => (bcell hO_w1).1 (w.heap.size + 1) o (by (try simp only [World.size_alloc, World.size_setCell, World.size_drew]) <;> omega); have f_w1_1 := fun o => (bcell hO_w1).2 (w.heap.size + 1) o (by (try simp only [World.size_alloc, World.size_setCell, World.size_drew]) <;> omega))) | (go_at_call 17; (first | (with_reducible refine (within_c dx (-255) 255 _ HX.out _).mono ?_) | (with_reducible refine (within_c dy (-255) 255 _ HY.out _).mono ?_)); rintro e w' ⟨rfl, rfl⟩))
        refine bodyPost_ret (v := fdV 0 none 0 0 none 0 0 0 0) (by simp [results, Try.results10, go_sem, *]) rfl (zeroField ?_)
        (repeat (first | with_reducible exact Below.refl _ _ | ((with_reducible refine viaO (by assumption) ?_ ?_ ?_) <;> try ((try simp only [World.size_alloc, World.size_setCell, World.size_drew]) <;> omega)) | ((with_reducible refine Below.alloc ?_ ?_ _) <;> try ((try simp only [World.size_alloc, World.size_setCell, World.size_drew]) <;> omega)) | ((with_reducible refine Below.setCell ?_ ?_ _) <;> try ((try simp only [World.size_alloc, World.size_setCell, World.size_drew]) <;> omega)) | (with_reducible refine below_drewN ?_ _) | (with_reducible refine Below.drew ?_) | ((with_reducible refine via (by assumption) ?_ ?_) <;> try ((try simp only [World.size_alloc, World.size_setCell, World.size_drew]) <;> omega))))
      · rw [shv_yes hv1 hx hy] at hv
        cases hv

theorem sshn_c (W : Int) (A : Option Addr) (n c : Nat) (B : Option Addr) (m d : Nat) (X Y dx dy : Int) (p : Nat → Int) (q : Nat → Nat → Int) (w : World) {C C' : Nat} (h : RS w C 1 A n (iv p)) (h' : RS w C' 64 B m (tc q)) (hC : C ≤ w.heap.size) (hC' : C' ≤ w.heap.size) (hn : n ≤ 1048576) (hm : m ≤ 1048576)
    (hv : shv W n m X Y p q dx dy = false) : Calls Try.prog 12 #[fdV W A n c B m d X Y, .int .i64 dx, .int .i64 dy] w (GField 0 0 0 0 0 p q w) := by
  have H := Lib.hid h
  have H' := Lib.hid h'
  clear h h'
  cases hv1 : fvd W n m X Y p q
  · have HV := Lib.hid hv1
    clear hv hv1
    go_enter Try.func12, Try.ntmps12
    go_wp2_with (first | (go_at_call 7; (refine (sfv_c _ _ _ _ _ _ _ _ _ p q _ HV.out _ (C := C) (C' := C') (RS.alloc (RS.alloc H.out hC _) (by ((try simp only [World.size_alloc, World.size_setCell, World.size_drew]) <;> omega)) _) (RS.alloc (RS.alloc H'.out hC' _) (by ((try simp only [World.size_alloc, World.size_setCell, World.size_drew]) <;> omega)) _) (by ((try simp only [World.size_alloc, World.size_setCell, World.size_drew]) <;> omega)) (by ((try simp only [World.size_alloc, World.size_setCell, World.size_drew]) <;> omega)) hn hm).mono ?_; rintro e w1 ⟨rfl, hO_w1⟩; have hz_w1 := hO_w1.size; (try simp only [World.size_alloc, World.size_setCell, World.size_drew] at hz_w1); have hs_w1_0 : w.heap.size < w1.heap.size := (by omega); have c_w1_0 := fun o => (bcell hO_w1).1 (w.heap.size) o (by (try simp only [World.size_alloc, World.size_setCell, World.size_drew]) <;> omega); have f_w1_0 := fun o => (bcell hO_w1).2 (w.heap.size) o (by (try simp only [World.size_alloc, World.size_setCell, World.size_drew]) <;> omega); have hs_w1_1 : w.heap.size + 1 < w1.heap.size := (by omega); have c_w1_1 := fun o => (bcell hO_w1).1 (w.heap.size + 1) o (by (try simp only [World.size_alloc, World.size_setCell, World.size_drew]) <;> omega); have f_w1_1 := fun o => (bcell hO_w1).2 (w.heap.size + 1) o (by (try simp only [World.size_alloc, World.size_setCell, World.size_drew]) <;> omega))))
    refine bodyPost_ret (v := fdV 0 none 0 0 none 0 0 0 0) (by simp [results, Try.results12, go_sem, *]) rfl (zeroField ?_)
    (repeat (first | with_reducible exact Below.refl _ _ | ((with_reducible refine viaO (by assumption) ?_ ?_ ?_) <;> try ((try simp only [World.size_alloc, World.size_setCell, World.size_drew]) <;> omega)) | ((with_reducible refine Below.alloc ?_ ?_ _) <;> try ((try simp only [World.size_alloc, World.size_setCell, World.size_drew]) <;> omega)) | ((with_reducible refine Below.setCell ?_ ?_ _) <;> try ((try simp only [World.size_alloc, World.size_setCell, World.size_drew]) <;> omega)) | (with_reducible refine below_drewN ?_ _) | (with_reducible refine Below.drew ?_) | ((with_reducible refine via (by assumption) ?_ ?_) <;> try ((try simp only [World.size_alloc, World.size_setCell, World.size_drew]) <;> omega))))
  · have HV := Lib.hid hv1
    cases hx : inB dx (-255) 255
    · have HX := Lib.hid hx
      clear hv hv1 hx
      go_enter Try.func12, Try.ntmps12
      go_wp2_with (first | (go_at_call 7; (refine (sfv_c _ _ _ _ _ _ _ _ _ p q _ HV.out _ (C := C) (C' := C') (RS.alloc (RS.alloc H.out hC _) (by ((try simp only [World.size_alloc, World.size_setCell, World.size_drew]) <;> omega)) _) (RS.alloc (RS.alloc H'.out hC' _) (by ((try simp only [World.size_alloc, World.size_setCell, World.size_drew]) <;> omega)) _) (by ((try simp only [World.size_alloc, World.size_setCell, World.size_drew]) <;> omega)) (by ((try simp only [World.size_alloc, World.size_setCell, World.size_drew]) <;> omega)) hn hm).mono ?_; rintro e w1 ⟨rfl, hO_w1⟩; have hz_w1 := hO_w1.size; (try simp only [World.size_alloc, World.size_setCell, World.size_drew] at hz_w1); have hs_w1_0 : w.heap.size < w1.heap.size := (by omega); have c_w1_0 := fun o => (bcell hO_w1).1 (w.heap.size) o (by (try simp only [World.size_alloc, World.size_setCell, World.size_drew]) <;> omega); have f_w1_0 := fun o => (bcell hO_w1).2 (w.heap.size) o (by (try simp only [World.size_alloc, World.size_setCell, World.size_drew]) <;> omega); have hs_w1_1 : w.heap.size + 1 < w1.heap.size := (by omega); have c_w1_1 := fun o => (bcell hO_w1).1 (w.heap.size + 1) o (by (try simp only [World.size_alloc, World.size_setCell, World.size_drew]) <;> omega); have f_w1_1 := fun o => (bcell hO_w1).2 (w.heap.size + 1) o (by (try simp only [World.size_alloc, World.size_setCell, World.size_drew]) <;> omega))) | (go_at_call 19; (with_reducible refine (l1In_c dx (-255) 255 _ HX.out _).mono ?_); rintro e w' ⟨rfl, rfl⟩))
      refine bodyPost_ret (v := fdV 0 none 0 0 none 0 0 0 0) (by simp [results, Try.results12, go_sem, *]) rfl (zeroField ?_)
      (repeat (first | with_reducible exact Below.refl _ _ | ((with_reducible refine viaO (by assumption) ?_ ?_ ?_) <;> try ((try simp only [World.size_alloc, World.size_setCell, World.size_drew]) <;> omega)) | ((with_reducible refine Below.alloc ?_ ?_ _) <;> try ((try simp only [World.size_alloc, World.size_setCell, World.size_drew]) <;> omega)) | ((with_reducible refine Below.setCell ?_ ?_ _) <;> try ((try simp only [World.size_alloc, World.size_setCell, World.size_drew]) <;> omega)) | (with_reducible refine below_drewN ?_ _) | (with_reducible refine Below.drew ?_) | ((with_reducible refine via (by assumption) ?_ ?_) <;> try ((try simp only [World.size_alloc, World.size_setCell, World.size_drew]) <;> omega))))
    · have HX := Lib.hid hx
      cases hy : inB dy (-255) 255
      · have HY := Lib.hid hy
        clear hv hv1 hx hy
        go_enter Try.func12, Try.ntmps12
        go_wp2_with (first | (go_at_call 7; (refine (sfv_c _ _ _ _ _ _ _ _ _ p q _ HV.out _ (C := C) (C' := C') (RS.alloc (RS.alloc H.out hC _) (by ((try simp only [World.size_alloc, World.size_setCell, World.size_drew]) <;> omega)) _) (RS.alloc (RS.alloc H'.out hC' _) (by ((try simp only [World.size_alloc, World.size_setCell, World.size_drew]) <;> omega)) _) (by ((try simp only [World.size_alloc, World.size_setCell, World.size_drew]) <;> omega)) (by ((try simp only [World.size_alloc, World.size_setCell, World.size_drew]) <;> omega)) hn hm).mono ?_; rintro e w1 ⟨rfl, hO_w1⟩; have hz_w1 := hO_w1.size; (try simp only [World.size_alloc, World.size_setCell, World.size_drew] at hz_w1); have hs_w1_0 : w.heap.size < w1.heap.size := (by omega); have c_w1_0 := fun o => (bcell hO_w1).1 (w.heap.size) o (by (try simp only [World.size_alloc, World.size_setCell, World.size_drew]) <;> omega); have f_w1_0 := fun o => (bcell hO_w1).2 (w.heap.size) o (by (try simp only [World.size_alloc, World.size_setCell, World.size_drew]) <;> omega); have hs_w1_1 : w.heap.size + 1 < w1.heap.size := (by omega); have c_w1_1 := fun o => (bcell hO_w1).1 (w.heap.size + 1) o (by (try simp only [World.size_alloc, World.size_setCell, World.size_drew]) <;> omega); have f_w1_1 := fun o => (bcell hO_w1).2 (w.heap.size + 1) o (by (try simp only [World.size_alloc, World.size_setCell, World.size_drew]) <;> omega))) | (go_at_call 19; (first | (with_reducible refine (l1In_c dx (-255) 255 _ HX.out _).mono ?_) | (with_reducible refine (l1In_c dy (-255) 255 _ HY.out _).mono ?_)); rintro e w' ⟨rfl, rfl⟩))
        refine bodyPost_ret (v := fdV 0 none 0 0 none 0 0 0 0) (by simp [results, Try.results12, go_sem, *]) rfl (zeroField ?_)
        (repeat (first | with_reducible exact Below.refl _ _ | ((with_reducible refine viaO (by assumption) ?_ ?_ ?_) <;> try ((try simp only [World.size_alloc, World.size_setCell, World.size_drew]) <;> omega)) | ((with_reducible refine Below.alloc ?_ ?_ _) <;> try ((try simp only [World.size_alloc, World.size_setCell, World.size_drew]) <;> omega)) | ((with_reducible refine Below.setCell ?_ ?_ _) <;> try ((try simp only [World.size_alloc, World.size_setCell, World.size_drew]) <;> omega)) | (with_reducible refine below_drewN ?_ _) | (with_reducible refine Below.drew ?_) | ((with_reducible refine via (by assumption) ?_ ?_) <;> try ((try simp only [World.size_alloc, World.size_setCell, World.size_drew]) <;> omega))))
      · rw [shv_yes hv1 hx hy] at hv
        cases hv

end Go.Proofs.Ythopeedonikdhaa
