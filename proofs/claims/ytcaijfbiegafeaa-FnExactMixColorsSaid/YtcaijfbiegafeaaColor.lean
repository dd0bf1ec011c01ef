/-
  The contracts of the functions on colors, in the program and in the reference. No conditions.
-/
import Derived.Test.YtcaijfbiegafeaaRd
namespace Go.Proofs.Ytcaijfbiegafeaa
set_option linter.all false
set_option linter.unusedSimpArgs false
set_option linter.unusedVariables false
open Go.ChangeShapes Go.WideShapes Go.ChangeAt Go.RowKit

def cv (r g b : Int) : Bool := inB r 0 31 && inB g 0 31 && inB b 0 31
theorem cv_true {r g b : Int} (h : cv r g b = true) : 0 ≤ r ∧ r ≤ 31 ∧ 0 ≤ g ∧ g ≤ 31 ∧ 0 ≤ b ∧ b ≤ 31 := by
  simp only [cv, Bool.and_eq_true, inB_true] at h; omega
theorem cv_mk {r g b : Int} (h : 0 ≤ r ∧ r ≤ 31 ∧ 0 ≤ g ∧ g ≤ 31 ∧ 0 ≤ b ∧ b ≤ 31) : cv r g b = true := by
  simp only [cv, Bool.and_eq_true, inB_true]; omega
abbrev colV (r g b : Int) : Value := .agg #[.int .i64 r, .int .i64 g, .int .i64 b]
def pk (r g b : Int) : Int := if cv r g b = true then r + 32 * g + 1024 * b else -1
def upR (n : Int) : Int := if inB n 0 32767 = true then n % 32 else 0
def upG (n : Int) : Int := if inB n 0 32767 = true then n / 32 % 32 else 0
def upB (n : Int) : Int := if inB n 0 32767 = true then n / 1024 else 0
def mx (ok : Bool) (x y : Int) : Int := if ok = true then (x + y) / 2 else 0
def fd (ok : Bool) (x l : Int) : Int := if ok = true then x * l / 16 else 0

theorem icv_c (r g b : Int) (v : Bool) (h : cv r g b = v) (w : World) : Calls Try.prog 16 #[colV r g b] w fun e w' => e = .returned (.bool v) ∧ Below w.heap.size w w' := by
  subst h
  cases hr : inB r 0 31 <;> cases hg : inB g 0 31 <;> cases hb : inB b 0 31
  all_goals
    go_enter Try.func16, Try.ntmps16
    go_wp2_with (go_at_call 33; refine (within_c _ _ _ _ (by assumption) _).mono ?_; rintro e w1 ⟨rfl, rfl⟩)
    go_ret
    exact ⟨by simp [cv, hr, hg, hb], (Below.refl _ _).alloc (Nat.le_refl _) _⟩

theorem scv_c (r g b : Int) (v : Bool) (h : cv r g b = v) (w : World) : Calls Try.prog 14 #[colV r g b] w fun e w' => e = .returned (.bool v) ∧ Below w.heap.size w w' := by
  subst h
  cases hr : inB r 0 31 <;> cases hg : inB g 0 31 <;> cases hb : inB b 0 31
  all_goals
    go_enter Try.func14, Try.ntmps14
    go_wp2_with (go_at_call 32; refine (l1In_c _ _ _ _ (by assumption) _).mono ?_; rintro e w1 ⟨rfl, rfl⟩)
    go_ret
    exact ⟨by simp [cv, hr, hg, hb], (Below.refl _ _).alloc (Nat.le_refl _) _⟩

theorem toColor_c (r g b : Int) (w : World) : Calls Try.prog 15 #[colV r g b] w fun e w' => e = .returned (colV r g b) ∧ Below w.heap.size w w' := by
  go_enter Try.func15, Try.ntmps15
  go_wp2
  refine bodyPost_ret (v := colV r g b) (by simp [results, Try.results15, go_sem, *]) rfl ⟨rfl, ?_⟩
  (repeat (first | with_reducible exact Below.refl _ _ | ((with_reducible refine viaO (by assumption) ?_ ?_ ?_) <;> try ((try simp only [World.size_alloc, World.size_setCell, World.size_drew]) <;> omega)) | ((with_reducible refine Below.alloc ?_ ?_ _) <;> try ((try simp only [World.size_alloc, World.size_setCell, World.size_drew]) <;> omega)) | ((with_reducible refine Below.setCell ?_ ?_ _) <;> try ((try simp only [World.size_alloc, World.size_setCell, World.size_drew]) <;> omega)) | (with_reducible refine below_drewN ?_ _) | (with_reducible refine Below.drew ?_) | ((with_reducible refine via (by assumption) ?_ ?_) <;> try ((try simp only [World.size_alloc, World.size_setCell, World.size_drew]) <;> omega))))

theorem eqColor_c (r g b : Int) (w : World) : Calls Try.prog 19 #[colV r g b, colV r g b] w fun e w' => e = .returned (.bool true) ∧ Below w.heap.size w w' := by
  go_enter Try.func19, Try.ntmps19
  go_wp2
  go_ret
  refine ⟨rfl, ?_⟩
  (repeat (first | with_reducible exact Below.refl _ _ | ((with_reducible refine viaO (by assumption) ?_ ?_ ?_) <;> try ((try simp only [World.size_alloc, World.size_setCell, World.size_drew]) <;> omega)) | ((with_reducible refine Below.alloc ?_ ?_ _) <;> try ((try simp only [World.size_alloc, World.size_setCell, World.size_drew]) <;> omega)) | ((with_reducible refine Below.setCell ?_ ?_ _) <;> try ((try simp only [World.size_alloc, World.size_setCell, World.size_drew]) <;> omega)) | (with_reducible refine below_drewN ?_ _) | (with_reducible refine Below.drew ?_) | ((with_reducible refine via (by assumption) ?_ ?_) <;> try ((try simp only [World.size_alloc, World.size_setCell, World.size_drew]) <;> omega))))

theorem ipk_c (r g b n : Int) (hn : pk r g b = n) (w : World) : Calls Try.prog 21 #[colV r g b] w fun e w' => e = .returned (.int .i64 n) ∧ Below w.heap.size w w' := by
  subst hn
  cases hv : cv r g b
  · have Hv := Lib.hid hv
    clear hv
    go_enter Try.func21, Try.ntmps21
    go_wp2_with (go_at_call 16; refine (icv_c _ _ _ _ Hv.out _).mono ?_; rintro e w1 ⟨rfl, hb⟩; obtain ⟨hc, hf⟩ := bcell hb; have hz := hb.size; (try simp only [World.size_alloc, World.size_setCell, World.size_drew] at hz); have hs : w.heap.size < w1.heap.size := (by omega))
    go_ret
    refine ⟨by simp [pk, Hv.out], ?_⟩
    (repeat (first | with_reducible exact Below.refl _ _ | ((with_reducible refine viaO (by assumption) ?_ ?_ ?_) <;> try ((try simp only [World.size_alloc, World.size_setCell, World.size_drew]) <;> omega)) | ((with_reducible refine Below.alloc ?_ ?_ _) <;> try ((try simp only [World.size_alloc, World.size_setCell, World.size_drew]) <;> omega)) | ((with_reducible refine Below.setCell ?_ ?_ _) <;> try ((try simp only [World.size_alloc, World.size_setCell, World.size_drew]) <;> omega)) | (with_reducible refine below_drewN ?_ _) | (with_reducible refine Below.drew ?_) | ((with_reducible refine via (by assumption) ?_ ?_) <;> try ((try simp only [World.size_alloc, World.size_setCell, World.size_drew]) <;> omega))))
  · obtain ⟨r0, r1, g0, g1, b0, b1⟩ := cv_true hv
    have Hv := Lib.hid hv
    clear hv
    go_enter Try.func21, Try.ntmps21
    go_wp2_with (go_at_call 16; refine (icv_c _ _ _ _ Hv.out _).mono ?_; rintro e w1 ⟨rfl, hb⟩; obtain ⟨hc, hf⟩ := bcell hb; have hz := hb.size; (try simp only [World.size_alloc, World.size_setCell, World.size_drew] at hz); have hs : w.heap.size < w1.heap.size := (by omega))
    go_ret
    refine ⟨ret_int (by simp [pk, Hv.out]), ?_⟩
    (repeat (first | with_reducible exact Below.refl _ _ | ((with_reducible refine viaO (by assumption) ?_ ?_ ?_) <;> try ((try simp only [World.size_alloc, World.size_setCell, World.size_drew]) <;> omega)) | ((with_reducible refine Below.alloc ?_ ?_ _) <;> try ((try simp only [World.size_alloc, World.size_setCell, World.size_drew]) <;> omega)) | ((with_reducible refine Below.setCell ?_ ?_ _) <;> try ((try simp only [World.size_alloc, World.size_setCell, World.size_drew]) <;> omega)) | (with_reducible refine below_drewN ?_ _) | (with_reducible refine Below.drew ?_) | ((with_reducible refine via (by assumption) ?_ ?_) <;> try ((try simp only [World.size_alloc, World.size_setCell, World.size_drew]) <;> omega))))

theorem spk_c (r g b n : Int) (hn : pk r g b = n) (w : World) : Calls Try.prog 20 #[colV r g b] w fun e w' => e = .returned (.int .i64 n) ∧ Below w.heap.size w w' := by
  subst hn
  cases hv : cv r g b
  · have Hv := Lib.hid hv
    clear hv
    go_enter Try.func20, Try.ntmps20
    go_wp2_with (go_at_call 14; refine (scv_c _ _ _ _ Hv.out _).mono ?_; rintro e w1 ⟨rfl, hb⟩; obtain ⟨hc, hf⟩ := bcell hb; have hz := hb.size; (try simp only [World.size_alloc, World.size_setCell, World.size_drew] at hz); have hs : w.heap.size < w1.heap.size := (by omega))
    go_ret
    refine ⟨by simp [pk, Hv.out], ?_⟩
    (repeat (first | with_reducible exact Below.refl _ _ | ((with_reducible refine viaO (by assumption) ?_ ?_ ?_) <;> try ((try simp only [World.size_alloc, World.size_setCell, World.size_drew]) <;> omega)) | ((with_reducible refine Below.alloc ?_ ?_ _) <;> try ((try simp only [World.size_alloc, World.size_setCell, World.size_drew]) <;> omega)) | ((with_reducible refine Below.setCell ?_ ?_ _) <;> try ((try simp only [World.size_alloc, World.size_setCell, World.size_drew]) <;> omega)) | (with_reducible refine below_drewN ?_ _) | (with_reducible refine Below.drew ?_) | ((with_reducible refine via (by assumption) ?_ ?_) <;> try ((try simp only [World.size_alloc, World.size_setCell, World.size_drew]) <;> omega))))
  · obtain ⟨r0, r1, g0, g1, b0, b1⟩ := cv_true hv
    have Hv := Lib.hid hv
    clear hv
    go_enter Try.func20, Try.ntmps20
    go_wp2_with (go_at_call 14; refine (scv_c _ _ _ _ Hv.out _).mono ?_; rintro e w1 ⟨rfl, hb⟩; obtain ⟨hc, hf⟩ := bcell hb; have hz := hb.size; (try simp only [World.size_alloc, World.size_setCell, World.size_drew] at hz); have hs : w.heap.size < w1.heap.size := (by omega))
    go_ret
    refine ⟨ret_int (by simp [pk, Hv.out]), ?_⟩
    (repeat (first | with_reducible exact Below.refl _ _ | ((with_reducible refine viaO (by assumption) ?_ ?_ ?_) <;> try ((try simp only [World.size_alloc, World.size_setCell, World.size_drew]) <;> omega)) | ((with_reducible refine Below.alloc ?_ ?_ _) <;> try ((try simp only [World.size_alloc, World.size_setCell, World.size_drew]) <;> omega)) | ((with_reducible refine Below.setCell ?_ ?_ _) <;> try ((try simp only [World.size_alloc, World.size_setCell, World.size_drew]) <;> omega)) | (with_reducible refine below_drewN ?_ _) | (with_reducible refine Below.drew ?_) | ((with_reducible refine via (by assumption) ?_ ?_) <;> try ((try simp only [World.size_alloc, World.size_setCell, World.size_drew]) <;> omega))))

theorem iup_c (n : Int) (w : World) : Calls Try.prog 18 #[.int .i64 n] w fun e w' => e = .returned (.tuple #[colV (upR n) (upG n) (upB n), .bool (inB n 0 32767)]) ∧ Below w.heap.size w w' := by
  cases hv : inB n 0 32767
  · have Hv := Lib.hid hv
    clear hv
    go_enter Try.func18, Try.ntmps18
    go_wp2_with (go_at_call 33; refine (within_c _ _ _ _ Hv.out _).mono ?_; rintro e w1 ⟨rfl, rfl⟩)
    refine bodyPost_ret (v := .tuple #[colV 0 0 0, .bool false]) (by simp [results, Try.results18, go_sem, *]) rfl ⟨by simp [upR, upG, upB, Hv.out], ?_⟩
    (repeat (first | with_reducible exact Below.refl _ _ | ((with_reducible refine viaO (by assumption) ?_ ?_ ?_) <;> try ((try simp only [World.size_alloc, World.size_setCell, World.size_drew]) <;> omega)) | ((with_reducible refine Below.alloc ?_ ?_ _) <;> try ((try simp only [World.size_alloc, World.size_setCell, World.size_drew]) <;> omega)) | ((with_reducible refine Below.setCell ?_ ?_ _) <;> try ((try simp only [World.size_alloc, World.size_setCell, World.size_drew]) <;> omega)) | (with_reducible refine below_drewN ?_ _) | (with_reducible refine Below.drew ?_) | ((with_reducible refine via (by assumption) ?_ ?_) <;> try ((try simp only [World.size_alloc, World.size_setCell, World.size_drew]) <;> omega))))
  · obtain ⟨n0, n1⟩ := inB_true.1 hv
    have Hv := Lib.hid hv
    clear hv
    go_enter Try.func18, Try.ntmps18
    go_wp2_with (go_at_call 33; refine (within_c _ _ _ _ Hv.out _).mono ?_; rintro e w1 ⟨rfl, rfl⟩)
    refine bodyPost_ret (v := .tuple #[colV (n % 32) (n / 32 % 32) (n / 1024), .bool true]) (by simp [results, Try.results18, go_sem, *]) rfl ⟨by simp [upR, upG, upB, Hv.out], ?_⟩
    (repeat (first | with_reducible exact Below.refl _ _ | ((with_reducible refine viaO (by assumption) ?_ ?_ ?_) <;> try ((try simp only [World.size_alloc, World.size_setCell, World.size_drew]) <;> omega)) | ((with_reducible refine Below.alloc ?_ ?_ _) <;> try ((try simp only [World.size_alloc, World.size_setCell, World.size_drew]) <;> omega)) | ((with_reducible refine Below.setCell ?_ ?_ _) <;> try ((try simp only [World.size_alloc, World.size_setCell, World.size_drew]) <;> omega)) | (with_reducible refine below_drewN ?_ _) | (with_reducible refine Below.drew ?_) | ((with_reducible refine via (by assumption) ?_ ?_) <;> try ((try simp only [World.size_alloc, World.size_setCell, World.size_drew]) <;> omega))))

theorem sup_c (n : Int) (w : World) : Calls Try.prog 17 #[.int .i64 n] w fun e w' => e = .returned (.tuple #[colV (upR n) (upG n) (upB n), .bool (inB n 0 32767)]) ∧ Below w.heap.size w w' := by
  cases hv : inB n 0 32767
  · have Hv := Lib.hid hv
    clear hv
    go_enter Try.func17, Try.ntmps17
    go_wp2_with (go_at_call 32; refine (l1In_c _ _ _ _ Hv.out _).mono ?_; rintro e w1 ⟨rfl, rfl⟩)
    refine bodyPost_ret (v := .tuple #[colV 0 0 0, .bool false]) (by simp [results, Try.results17, go_sem, *]) rfl ⟨by simp [upR, upG, upB, Hv.out], ?_⟩
    (repeat (first | with_reducible exact Below.refl _ _ | ((with_reducible refine viaO (by assumption) ?_ ?_ ?_) <;> try ((try simp only [World.size_alloc, World.size_setCell, World.size_drew]) <;> omega)) | ((with_reducible refine Below.alloc ?_ ?_ _) <;> try ((try simp only [World.size_alloc, World.size_setCell, World.size_drew]) <;> omega)) | ((with_reducible refine Below.setCell ?_ ?_ _) <;> try ((try simp only [World.size_alloc, World.size_setCell, World.size_drew]) <;> omega)) | (with_reducible refine below_drewN ?_ _) | (with_reducible refine Below.drew ?_) | ((with_reducible refine via (by assumption) ?_ ?_) <;> try ((try simp only [World.size_alloc, World.size_setCell, World.size_drew]) <;> omega))))
  · obtain ⟨n0, n1⟩ := inB_true.1 hv
    have Hv := Lib.hid hv
    clear hv
    go_enter Try.func17, Try.ntmps17
    go_wp2_with (go_at_call 32; refine (l1In_c _ _ _ _ Hv.out _).mono ?_; rintro e w1 ⟨rfl, rfl⟩)
    refine bodyPost_ret (v := .tuple #[colV (n % 32) (n / 32 % 32) (n / 1024), .bool true]) (by simp [results, Try.results17, go_sem, *]) rfl ⟨by simp [upR, upG, upB, Hv.out], ?_⟩
    (repeat (first | with_reducible exact Below.refl _ _ | ((with_reducible refine viaO (by assumption) ?_ ?_ ?_) <;> try ((try simp only [World.size_alloc, World.size_setCell, World.size_drew]) <;> omega)) | ((with_reducible refine Below.alloc ?_ ?_ _) <;> try ((try simp only [World.size_alloc, World.size_setCell, World.size_drew]) <;> omega)) | ((with_reducible refine Below.setCell ?_ ?_ _) <;> try ((try simp only [World.size_alloc, World.size_setCell, World.size_drew]) <;> omega)) | (with_reducible refine below_drewN ?_ _) | (with_reducible refine Below.drew ?_) | ((with_reducible refine via (by assumption) ?_ ?_) <;> try ((try simp only [World.size_alloc, World.size_setCell, World.size_drew]) <;> omega))))

theorem imx_c (r g b x y z : Int) (v : Bool) (hv : (cv r g b && cv x y z) = v) (w : World) : Calls Try.prog 25 #[colV r g b, colV x y z] w fun e w' => e = .returned (colV (mx v r x) (mx v g y) (mx v b z)) ∧ Below w.heap.size w w' := by
  subst hv
  have key : ∀ p q : Bool, cv r g b = p → cv x y z = q → Calls Try.prog 25 #[colV r g b, colV x y z] w fun e w' => e = .returned (colV (mx (p && q) r x) (mx (p && q) g y) (mx (p && q) b z)) ∧ Below w.heap.size w w' := by
    intro p q hp hq
    have Hp := Lib.hid hp
    have Hq := Lib.hid hq
    cases p
    · clear hp hq
      go_enter Try.func25, Try.ntmps25
      go_wp2_with (first | (go_at_call 16; refine (icv_c r g b _ Hp.out _).mono ?_; rintro e w1 ⟨rfl, hb⟩; obtain ⟨hc, hf⟩ := bcell hb; have hz := hb.size; (try simp only [World.size_alloc, World.size_setCell, World.size_drew] at hz); have hs : w.heap.size < w1.heap.size ∧ w.heap.size + 1 < w1.heap.size ∧ w.heap.size + 2 < w1.heap.size := (by omega)))
      refine bodyPost_ret (v := colV 0 0 0) (by simp [results, Try.results25, go_sem, *]) rfl ⟨by simp [mx], ?_⟩
      (repeat (first | with_reducible exact Below.refl _ _ | ((with_reducible refine viaO (by assumption) ?_ ?_ ?_) <;> try ((try simp only [World.size_alloc, World.size_setCell, World.size_drew]) <;> omega)) | ((with_reducible refine Below.alloc ?_ ?_ _) <;> try ((try simp only [World.size_alloc, World.size_setCell, World.size_drew]) <;> omega)) | ((with_reducible refine Below.setCell ?_ ?_ _) <;> try ((try simp only [World.size_alloc, World.size_setCell, World.size_drew]) <;> omega)) | (with_reducible refine below_drewN ?_ _) | (with_reducible refine Below.drew ?_) | ((with_reducible refine via (by assumption) ?_ ?_) <;> try ((try simp only [World.size_alloc, World.size_setCell, World.size_drew]) <;> omega))))
    · obtain ⟨r0, r1, g0, g1, b0, b1⟩ := cv_true hp
      cases q
      · clear hp hq
        go_enter Try.func25, Try.ntmps25
        go_wp2_with fail
        refine (icv_c _ _ _ _ Hp.out _).mono ?_
        rintro e w1 ⟨rfl, hb⟩
        obtain ⟨hc, hf⟩ := bcell hb; have hz := hb.size; (try simp only [World.size_alloc, World.size_setCell, World.size_drew] at hz); have hs : w.heap.size < w1.heap.size ∧ w.heap.size + 1 < w1.heap.size ∧ w.heap.size + 2 < w1.heap.size := (by omega)
        go_wp2_with fail
        refine (icv_c _ _ _ _ Hq.out _).mono ?_
        rintro e w2 ⟨rfl, hb2⟩
        obtain ⟨hc, hf⟩ := bcell hb2; have hz := hb2.size; (try simp only [World.size_alloc, World.size_setCell, World.size_drew] at hz); have hs : w.heap.size < w2.heap.size ∧ w.heap.size + 1 < w2.heap.size ∧ w.heap.size + 2 < w2.heap.size := (by omega)
        go_wp2
        refine bodyPost_ret (v := colV 0 0 0) (by simp [results, Try.results25, go_sem, *]) rfl ⟨by simp [mx], ?_⟩
        (repeat (first | with_reducible exact Below.refl _ _ | ((with_reducible refine viaO (by assumption) ?_ ?_ ?_) <;> try ((try simp only [World.size_alloc, World.size_setCell, World.size_drew]) <;> omega)) | ((with_reducible refine Below.alloc ?_ ?_ _) <;> try ((try simp only [World.size_alloc, World.size_setCell, World.size_drew]) <;> omega)) | ((with_reducible refine Below.setCell ?_ ?_ _) <;> try ((try simp only [World.size_alloc, World.size_setCell, World.size_drew]) <;> omega)) | (with_reducible refine below_drewN ?_ _) | (with_reducible refine Below.drew ?_) | ((with_reducible refine via (by assumption) ?_ ?_) <;> try ((try simp only [World.size_alloc, World.size_setCell, World.size_drew]) <;> omega))))
      · obtain ⟨x0, x1, y0, y1, z0, z1⟩ := cv_true hq
        clear hp hq
        go_enter Try.func25, Try.ntmps25
        go_wp2_with fail
        refine (icv_c _ _ _ _ Hp.out _).mono ?_
        rintro e w1 ⟨rfl, hb⟩
        obtain ⟨hc, hf⟩ := bcell hb; have hz := hb.size; (try simp only [World.size_alloc, World.size_setCell, World.size_drew] at hz); have hs : w.heap.size < w1.heap.size ∧ w.heap.size + 1 < w1.heap.size ∧ w.heap.size + 2 < w1.heap.size := (by omega)
        go_wp2_with fail
        refine (icv_c _ _ _ _ Hq.out _).mono ?_
        rintro e w2 ⟨rfl, hb2⟩
        obtain ⟨hc, hf⟩ := bcell hb2; have hz := hb2.size; (try simp only [World.size_alloc, World.size_setCell, World.size_drew] at hz); have hs : w.heap.size < w2.heap.size ∧ w.heap.size + 1 < w2.heap.size ∧ w.heap.size + 2 < w2.heap.size := (by omega)
        go_wp2
        refine bodyPost_ret (v := colV ((r + x) / 2) ((g + y) / 2) ((b + z) / 2)) (by simp [results, Try.results25, go_sem, *]) rfl ⟨by simp [mx], ?_⟩
        (repeat (first | with_reducible exact Below.refl _ _ | ((with_reducible refine viaO (by assumption) ?_ ?_ ?_) <;> try ((try simp only [World.size_alloc, World.size_setCell, World.size_drew]) <;> omega)) | ((with_reducible refine Below.alloc ?_ ?_ _) <;> try ((try simp only [World.size_alloc, World.size_setCell, World.size_drew]) <;> omega)) | ((with_reducible refine Below.setCell ?_ ?_ _) <;> try ((try simp only [World.size_alloc, World.size_setCell, World.size_drew]) <;> omega)) | (with_reducible refine below_drewN ?_ _) | (with_reducible refine Below.drew ?_) | ((with_reducible refine via (by assumption) ?_ ?_) <;> try ((try simp only [World.size_alloc, World.size_setCell, World.size_drew]) <;> omega))))
  exact key _ _ rfl rfl

theorem smx_c (r g b x y z : Int) (v : Bool) (hv : (cv r g b && cv x y z) = v) (w : World) : Calls Try.prog 24 #[colV r g b, colV x y z] w fun e w' => e = .returned (colV (mx v r x) (mx v g y) (mx v b z)) ∧ Below w.heap.size w w' := by
  subst hv
  have key : ∀ p q : Bool, cv r g b = p → cv x y z = q → Calls Try.prog 24 #[colV r g b, colV x y z] w fun e w' => e = .returned (colV (mx (p && q) r x) (mx (p && q) g y) (mx (p && q) b z)) ∧ Below w.heap.size w w' := by
    intro p q hp hq
    have Hp := Lib.hid hp
    have Hq := Lib.hid hq
    cases p
    · clear hp hq
      go_enter Try.func24, Try.ntmps24
      go_wp2_with (first | (go_at_call 14; refine (scv_c r g b _ Hp.out _).mono ?_; rintro e w1 ⟨rfl, hb⟩; obtain ⟨hc, hf⟩ := bcell hb; have hz := hb.size; (try simp only [World.size_alloc, World.size_setCell, World.size_drew] at hz); have hs : w.heap.size < w1.heap.size ∧ w.heap.size + 1 < w1.heap.size ∧ w.heap.size + 2 < w1.heap.size := (by omega)))
      refine bodyPost_ret (v := colV 0 0 0) (by simp [results, Try.results24, go_sem, *]) rfl ⟨by simp [mx], ?_⟩
      (repeat (first | with_reducible exact Below.refl _ _ | ((with_reducible refine viaO (by assumption) ?_ ?_ ?_) <;> try ((try simp only [World.size_alloc, World.size_setCell, World.size_drew]) <;> omega)) | ((with_reducible refine Below.alloc ?_ ?_ _) <;> try ((try simp only [World.size_alloc, World.size_setCell, World.size_drew]) <;> omega)) | ((with_reducible refine Below.setCell ?_ ?_ _) <;> try ((try simp only [World.size_alloc, World.size_setCell, World.size_drew]) <;> omega)) | (with_reducible refine below_drewN ?_ _) | (with_reducible refine Below.drew ?_) | ((with_reducible refine via (by assumption) ?_ ?_) <;> try ((try simp only [World.size_alloc, World.size_setCell, World.size_drew]) <;> omega))))
    · obtain ⟨r0, r1, g0, g1, b0, b1⟩ := cv_true hp
      cases q
      · clear hp hq
        go_enter Try.func24, Try.ntmps24
        go_wp2_with fail
        refine (scv_c _ _ _ _ Hp.out _).mono ?_
        rintro e w1 ⟨rfl, hb⟩
        obtain ⟨hc, hf⟩ := bcell hb; have hz := hb.size; (try simp only [World.size_alloc, World.size_setCell, World.size_drew] at hz); have hs : w.heap.size < w1.heap.size ∧ w.heap.size + 1 < w1.heap.size ∧ w.heap.size + 2 < w1.heap.size := (by omega)
        go_wp2_with fail
        refine (scv_c _ _ _ _ Hq.out _).mono ?_
        rintro e w2 ⟨rfl, hb2⟩
        obtain ⟨hc, hf⟩ := bcell hb2; have hz := hb2.size; (try simp only [World.size_alloc, World.size_setCell, World.size_drew] at hz); have hs : w.heap.size < w2.heap.size ∧ w.heap.size + 1 < w2.heap.size ∧ w.heap.size + 2 < w2.heap.size := (by omega)
        go_wp2
        refine bodyPost_ret (v := colV 0 0 0) (by simp [results, Try.results24, go_sem, *]) rfl ⟨by simp [mx], ?_⟩
        (repeat (first | with_reducible exact Below.refl _ _ | ((with_reducible refine viaO (by assumption) ?_ ?_ ?_) <;> try ((try simp only [World.size_alloc, World.size_setCell, World.size_drew]) <;> omega)) | ((with_reducible refine Below.alloc ?_ ?_ _) <;> try ((try simp only [World.size_alloc, World.size_setCell, World.size_drew]) <;> omega)) | ((with_reducible refine Below.setCell ?_ ?_ _) <;> try ((try simp only [World.size_alloc, World.size_setCell, World.size_drew]) <;> omega)) | (with_reducible refine below_drewN ?_ _) | (with_reducible refine Below.drew ?_) | ((with_reducible refine via (by assumption) ?_ ?_) <;> try ((try simp only [World.size_alloc, World.size_setCell, World.size_drew]) <;> omega))))
      · obtain ⟨x0, x1, y0, y1, z0, z1⟩ := cv_true hq
        clear hp hq
        go_enter Try.func24, Try.ntmps24
        go_wp2_with fail
        refine (scv_c _ _ _ _ Hp.out _).mono ?_
        rintro e w1 ⟨rfl, hb⟩
        obtain ⟨hc, hf⟩ := bcell hb; have hz := hb.size; (try simp only [World.size_alloc, World.size_setCell, World.size_drew] at hz); have hs : w.heap.size < w1.heap.size ∧ w.heap.size + 1 < w1.heap.size ∧ w.heap.size + 2 < w1.heap.size := (by omega)
        go_wp2_with fail
        refine (scv_c _ _ _ _ Hq.out _).mono ?_
        rintro e w2 ⟨rfl, hb2⟩
        obtain ⟨hc, hf⟩ := bcell hb2; have hz := hb2.size; (try simp only [World.size_alloc, World.size_setCell, World.size_drew] at hz); have hs : w.heap.size < w2.heap.size ∧ w.heap.size + 1 < w2.heap.size ∧ w.heap.size + 2 < w2.heap.size := (by omega)
        go_wp2
        refine bodyPost_ret (v := colV ((r + x) / 2) ((g + y) / 2) ((b + z) / 2)) (by simp [results, Try.results24, go_sem, *]) rfl ⟨by simp [mx], ?_⟩
        (repeat (first | with_reducible exact Below.refl _ _ | ((with_reducible refine viaO (by assumption) ?_ ?_ ?_) <;> try ((try simp only [World.size_alloc, World.size_setCell, World.size_drew]) <;> omega)) | ((with_reducible refine Below.alloc ?_ ?_ _) <;> try ((try simp only [World.size_alloc, World.size_setCell, World.size_drew]) <;> omega)) | ((with_reducible refine Below.setCell ?_ ?_ _) <;> try ((try simp only [World.size_alloc, World.size_setCell, World.size_drew]) <;> omega)) | (with_reducible refine below_drewN ?_ _) | (with_reducible refine Below.drew ?_) | ((with_reducible refine via (by assumption) ?_ ?_) <;> try ((try simp only [World.size_alloc, World.size_setCell, World.size_drew]) <;> omega))))
  exact key _ _ rfl rfl

theorem ifd_c (r g b l : Int) (v : Bool) (hv : (cv r g b && inB l 0 16) = v) (w : World) : Calls Try.prog 23 #[colV r g b, .int .i64 l] w fun e w' => e = .returned (colV (fd v r l) (fd v g l) (fd v b l)) ∧ Below w.heap.size w w' := by
  subst hv
  have key : ∀ p q : Bool, cv r g b = p → inB l 0 16 = q → Calls Try.prog 23 #[colV r g b, .int .i64 l] w fun e w' => e = .returned (colV (fd (p && q) r l) (fd (p && q) g l) (fd (p && q) b l)) ∧ Below w.heap.size w w' := by
    intro p q hp hq
    have Hp := Lib.hid hp
    have Hq := Lib.hid hq
    cases p
    · clear hp hq
      go_enter Try.func23, Try.ntmps23
      go_wp2_with (first | (go_at_call 16; refine (icv_c r g b _ Hp.out _).mono ?_; rintro e w1 ⟨rfl, hb⟩; obtain ⟨hc, hf⟩ := bcell hb; have hz := hb.size; (try simp only [World.size_alloc, World.size_setCell, World.size_drew] at hz); have hs : w.heap.size < w1.heap.size ∧ w.heap.size + 1 < w1.heap.size := (by omega)))
      refine bodyPost_ret (v := colV 0 0 0) (by simp [results, Try.results23, go_sem, *]) rfl ⟨by simp [fd], ?_⟩
      (repeat (first | with_reducible exact Below.refl _ _ | ((with_reducible refine viaO (by assumption) ?_ ?_ ?_) <;> try ((try simp only [World.size_alloc, World.size_setCell, World.size_drew]) <;> omega)) | ((with_reducible refine Below.alloc ?_ ?_ _) <;> try ((try simp only [World.size_alloc, World.size_setCell, World.size_drew]) <;> omega)) | ((with_reducible refine Below.setCell ?_ ?_ _) <;> try ((try simp only [World.size_alloc, World.size_setCell, World.size_drew]) <;> omega)) | (with_reducible refine below_drewN ?_ _) | (with_reducible refine Below.drew ?_) | ((with_reducible refine via (by assumption) ?_ ?_) <;> try ((try simp only [World.size_alloc, World.size_setCell, World.size_drew]) <;> omega))))
    · obtain ⟨r0, r1, g0, g1, b0, b1⟩ := cv_true hp
      cases q
      · clear hp hq
        go_enter Try.func23, Try.ntmps23
        go_wp2_with (first | (go_at_call 16; refine (icv_c r g b _ Hp.out _).mono ?_; rintro e w1 ⟨rfl, hb⟩; obtain ⟨hc, hf⟩ := bcell hb; have hz := hb.size; (try simp only [World.size_alloc, World.size_setCell, World.size_drew] at hz); have hs : w.heap.size < w1.heap.size ∧ w.heap.size + 1 < w1.heap.size := (by omega)) | (go_at_call 33; refine (within_c _ _ _ _ Hq.out _).mono ?_; rintro e w1 ⟨rfl, rfl⟩))
        refine bodyPost_ret (v := colV 0 0 0) (by simp [results, Try.results23, go_sem, *]) rfl ⟨by simp [fd], ?_⟩
        (repeat (first | with_reducible exact Below.refl _ _ | ((with_reducible refine viaO (by assumption) ?_ ?_ ?_) <;> try ((try simp only [World.size_alloc, World.size_setCell, World.size_drew]) <;> omega)) | ((with_reducible refine Below.alloc ?_ ?_ _) <;> try ((try simp only [World.size_alloc, World.size_setCell, World.size_drew]) <;> omega)) | ((with_reducible refine Below.setCell ?_ ?_ _) <;> try ((try simp only [World.size_alloc, World.size_setCell, World.size_drew]) <;> omega)) | (with_reducible refine below_drewN ?_ _) | (with_reducible refine Below.drew ?_) | ((with_reducible refine via (by assumption) ?_ ?_) <;> try ((try simp only [World.size_alloc, World.size_setCell, World.size_drew]) <;> omega))))
      · obtain ⟨l0, l1⟩ := inB_true.1 hq
        have er : ∀ t : Int, 0 ≤ t → t ≤ 31 → 0 ≤ t * l ∧ t * l ≤ 496 := fun t h0 h1 => ⟨Int.mul_nonneg h0 l0, by
          have := Int.mul_le_mul h1 l1 l0 (by omega : (0 : Int) ≤ 31)
          omega⟩
        obtain ⟨p0, p1⟩ := er r r0 r1
        obtain ⟨p2, p3⟩ := er g g0 g1
        obtain ⟨p4, p5⟩ := er b b0 b1
        clear hp hq er
        go_enter Try.func23, Try.ntmps23
        go_wp2_with (first | (go_at_call 16; refine (icv_c r g b _ Hp.out _).mono ?_; rintro e w1 ⟨rfl, hb⟩; obtain ⟨hc, hf⟩ := bcell hb; have hz := hb.size; (try simp only [World.size_alloc, World.size_setCell, World.size_drew] at hz); have hs : w.heap.size < w1.heap.size ∧ w.heap.size + 1 < w1.heap.size := (by omega)) | (go_at_call 33; refine (within_c _ _ _ _ Hq.out _).mono ?_; rintro e w1 ⟨rfl, rfl⟩))
        refine bodyPost_ret (v := colV (r * l / 16) (g * l / 16) (b * l / 16)) (by simp [results, Try.results23, go_sem, *]) rfl ⟨by simp [fd], ?_⟩
        (repeat (first | with_reducible exact Below.refl _ _ | ((with_reducible refine viaO (by assumption) ?_ ?_ ?_) <;> try ((try simp only [World.size_alloc, World.size_setCell, World.size_drew]) <;> omega)) | ((with_reducible refine Below.alloc ?_ ?_ _) <;> try ((try simp only [World.size_alloc, World.size_setCell, World.size_drew]) <;> omega)) | ((with_reducible refine Below.setCell ?_ ?_ _) <;> try ((try simp only [World.size_alloc, World.size_setCell, World.size_drew]) <;> omega)) | (with_reducible refine below_drewN ?_ _) | (with_reducible refine Below.drew ?_) | ((with_reducible refine via (by assumption) ?_ ?_) <;> try ((try simp only [World.size_alloc, World.size_setCell, World.size_drew]) <;> omega))))
  exact key _ _ rfl rfl

theorem sfd_c (r g b l : Int) (v : Bool) (hv : (cv r g b && inB l 0 16) = v) (w : World) : Calls Try.prog 22 #[colV r g b, .int .i64 l] w fun e w' => e = .returned (colV (fd v r l) (fd v g l) (fd v b l)) ∧ Below w.heap.size w w' := by
  subst hv
  have key : ∀ p q : Bool, cv r g b = p → inB l 0 16 = q → Calls Try.prog 22 #[colV r g b, .int .i64 l] w fun e w' => e = .returned (colV (fd (p && q) r l) (fd (p && q) g l) (fd (p && q) b l)) ∧ Below w.heap.size w w' := by
    intro p q hp hq
    have Hp := Lib.hid hp
    have Hq := Lib.hid hq
    cases p
    · clear hp hq
      go_enter Try.func22, Try.ntmps22
      go_wp2_with (first | (go_at_call 14; refine (scv_c r g b _ Hp.out _).mono ?_; rintro e w1 ⟨rfl, hb⟩; obtain ⟨hc, hf⟩ := bcell hb; have hz := hb.size; (try simp only [World.size_alloc, World.size_setCell, World.size_drew] at hz); have hs : w.heap.size < w1.heap.size ∧ w.heap.size + 1 < w1.heap.size := (by omega)))
      refine bodyPost_ret (v := colV 0 0 0) (by simp [results, Try.results22, go_sem, *]) rfl ⟨by simp [fd], ?_⟩
      (repeat (first | with_reducible exact Below.refl _ _ | ((with_reducible refine viaO (by assumption) ?_ ?_ ?_) <;> try ((try simp only [World.size_alloc, World.size_setCell, World.size_drew]) <;> omega)) | ((with_reducible refine Below.alloc ?_ ?_ _) <;> try ((try simp only [World.size_alloc, World.size_setCell, World.size_drew]) <;> omega)) | ((with_reducible refine Below.setCell ?_ ?_ _) <;> try ((try simp only [World.size_alloc, World.size_setCell, World.size_drew]) <;> omega)) | (with_reducible refine below_drewN ?_ _) | (with_reducible refine Below.drew ?_) | ((with_reducible refine via (by assumption) ?_ ?_) <;> try ((try simp only [World.size_alloc, World.size_setCell, World.size_drew]) <;> omega))))
    · obtain ⟨r0, r1, g0, g1, b0, b1⟩ := cv_true hp
      cases q
      · clear hp hq
        go_enter Try.func22, Try.ntmps22
        go_wp2_with (first | (go_at_call 14; refine (scv_c r g b _ Hp.out _).mono ?_; rintro e w1 ⟨rfl, hb⟩; obtain ⟨hc, hf⟩ := bcell hb; have hz := hb.size; (try simp only [World.size_alloc, World.size_setCell, World.size_drew] at hz); have hs : w.heap.size < w1.heap.size ∧ w.heap.size + 1 < w1.heap.size := (by omega)) | (go_at_call 32; refine (l1In_c _ _ _ _ Hq.out _).mono ?_; rintro e w1 ⟨rfl, rfl⟩))
        refine bodyPost_ret (v := colV 0 0 0) (by simp [results, Try.results22, go_sem, *]) rfl ⟨by simp [fd], ?_⟩
        (repeat (first | with_reducible exact Below.refl _ _ | ((with_reducible refine viaO (by assumption) ?_ ?_ ?_) <;> try ((try simp only [World.size_alloc, World.size_setCell, World.size_drew]) <;> omega)) | ((with_reducible refine Below.alloc ?_ ?_ _) <;> try ((try simp only [World.size_alloc, World.size_setCell, World.size_drew]) <;> omega)) | ((with_reducible refine Below.setCell ?_ ?_ _) <;> try ((try simp only [World.size_alloc, World.size_setCell, World.size_drew]) <;> omega)) | (with_reducible refine below_drewN ?_ _) | (with_reducible refine Below.drew ?_) | ((with_reducible refine via (by assumption) ?_ ?_) <;> try ((try simp only [World.size_alloc, World.size_setCell, World.size_drew]) <;> omega))))
      · obtain ⟨l0, l1⟩ := inB_true.1 hq
        have er : ∀ t : Int, 0 ≤ t → t ≤ 31 → 0 ≤ t * l ∧ t * l ≤ 496 := fun t h0 h1 => ⟨Int.mul_nonneg h0 l0, by
          have := Int.mul_le_mul h1 l1 l0 (by omega : (0 : Int) ≤ 31)
          omega⟩
        obtain ⟨p0, p1⟩ := er r r0 r1
        obtain ⟨p2, p3⟩ := er g g0 g1
        obtain ⟨p4, p5⟩ := er b b0 b1
        clear hp hq er
        go_enter Try.func22, Try.ntmps22
        go_wp2_with (first | (go_at_call 14; refine (scv_c r g b _ Hp.out _).mono ?_; rintro e w1 ⟨rfl, hb⟩; obtain ⟨hc, hf⟩ := bcell hb; have hz := hb.size; (try simp only [World.size_alloc, World.size_setCell, World.size_drew] at hz); have hs : w.heap.size < w1.heap.size ∧ w.heap.size + 1 < w1.heap.size := (by omega)) | (go_at_call 32; refine (l1In_c _ _ _ _ Hq.out _).mono ?_; rintro e w1 ⟨rfl, rfl⟩))
        refine bodyPost_ret (v := colV (r * l / 16) (g * l / 16) (b * l / 16)) (by simp [results, Try.results22, go_sem, *]) rfl ⟨by simp [fd], ?_⟩
        (repeat (first | with_reducible exact Below.refl _ _ | ((with_reducible refine viaO (by assumption) ?_ ?_ ?_) <;> try ((try simp only [World.size_alloc, World.size_setCell, World.size_drew]) <;> omega)) | ((with_reducible refine Below.alloc ?_ ?_ _) <;> try ((try simp only [World.size_alloc, World.size_setCell, World.size_drew]) <;> omega)) | ((with_reducible refine Below.setCell ?_ ?_ _) <;> try ((try simp only [World.size_alloc, World.size_setCell, World.size_drew]) <;> omega)) | (with_reducible refine below_drewN ?_ _) | (with_reducible refine Below.drew ?_) | ((with_reducible refine via (by assumption) ?_ ?_) <;> try ((try simp only [World.size_alloc, World.size_setCell, World.size_drew]) <;> omega))))
  exact key _ _ rfl rfl

end Go.Proofs.Ytcaijfbiegafeaa
