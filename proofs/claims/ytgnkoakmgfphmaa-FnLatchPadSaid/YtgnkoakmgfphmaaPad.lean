/-
  The contracts of the functions on controllers, in the program and in the reference. No conditions.
-/
import Derived.Test.YtgnkoakmgfphmaaRd
import Derived.IntWalk
namespace Go.Proofs.Ytgnkoakmgfphmaa
set_option linter.all false
set_option linter.unusedSimpArgs false
set_option linter.unusedVariables false
open Go.ChangeShapes Go.WideShapes Go.ChangeAt Go.RowKit

def pv (p t r : Int) : Bool := inB p 0 255 && inB t 0 255 && inB r 0 8
theorem pv_true {p t r : Int} (h : pv p t r = true) : 0 ≤ p ∧ p ≤ 255 ∧ 0 ≤ t ∧ t ≤ 255 ∧ 0 ≤ r ∧ r ≤ 8 := by
  simp only [pv, Bool.and_eq_true, inB_true] at h; omega
theorem pv_mk {p t r : Int} (h : 0 ≤ p ∧ p ≤ 255 ∧ 0 ≤ t ∧ t ≤ 255 ∧ 0 ≤ r ∧ r ≤ 8) : pv p t r = true := by
  simp only [pv, Bool.and_eq_true, inB_true]; omega
abbrev padV (p t r : Int) : Value := .agg #[.int .i64 p, .int .i64 t, .int .i64 r]
def onlyIf (v : Bool) (x : Int) : Int := if v = true then x else 0
theorem onlyIf_true (x : Int) : onlyIf true x = x := rfl
theorem onlyIf_false (x : Int) : onlyIf false x = 0 := rfl

theorem ipv_c (p t r : Int) (v : Bool) (h : pv p t r = v) (w : World) : Calls Try.prog 18 #[padV p t r] w fun e w' => e = .returned (.bool v) ∧ Below w.heap.size w w' := by
  subst h
  cases hr : inB p 0 255 <;> cases hg : inB t 0 255 <;> cases hb : inB r 0 8
  all_goals
    go_enter Try.func18, Try.ntmps18
    go_wp2_with (first | (go_at_call 37; refine (within_c _ _ _ _ (by assumption) _).mono ?_; rintro e w1 ⟨rfl, rfl⟩) | (go_at_call 35; refine (isByte_c _ _ (by assumption) _).mono ?_; rintro e w1 ⟨rfl, rfl⟩))
    go_ret
    exact ⟨by simp [pv, hr, hg, hb], (Below.refl _ _).alloc (Nat.le_refl _) _⟩

theorem spv_c (p t r : Int) (v : Bool) (h : pv p t r = v) (w : World) : Calls Try.prog 16 #[padV p t r] w fun e w' => e = .returned (.bool v) ∧ Below w.heap.size w w' := by
  subst h
  cases hr : inB p 0 255 <;> cases hg : inB t 0 255 <;> cases hb : inB r 0 8
  all_goals
    go_enter Try.func16, Try.ntmps16
    go_wp2_with (first | (go_at_call 36; refine (l1In_c _ _ _ _ (by assumption) _).mono ?_; rintro e w1 ⟨rfl, rfl⟩) | (go_at_call 34; refine (l1Byte_c _ _ (by assumption) _).mono ?_; rintro e w1 ⟨rfl, rfl⟩))
    go_ret
    exact ⟨by simp [pv, hr, hg, hb], (Below.refl _ _).alloc (Nat.le_refl _) _⟩

theorem toPad_c (p t r : Int) (w : World) : Calls Try.prog 17 #[padV p t r] w fun e w' => e = .returned (padV p t r) ∧ Below w.heap.size w w' := by
  go_enter Try.func17, Try.ntmps17
  go_wp2
  refine bodyPost_ret (v := padV p t r) (by simp [results, Try.results17, go_sem]) rfl ⟨rfl, ?_⟩
  (repeat (first | with_reducible exact Below.refl _ _ | ((with_reducible refine viaO (by assumption) ?_ ?_ ?_) <;> try ((try simp only [World.size_alloc, World.size_setCell, World.size_drew]) <;> omega)) | ((with_reducible refine Below.alloc ?_ ?_ _) <;> try ((try simp only [World.size_alloc, World.size_setCell, World.size_drew]) <;> omega)) | ((with_reducible refine Below.setCell ?_ ?_ _) <;> try ((try simp only [World.size_alloc, World.size_setCell, World.size_drew]) <;> omega)) | (with_reducible refine below_drewN ?_ _) | (with_reducible refine Below.drew ?_) | ((with_reducible refine via (by assumption) ?_ ?_) <;> try ((try simp only [World.size_alloc, World.size_setCell, World.size_drew]) <;> omega))))

theorem eqPad_c (p t r : Int) (w : World) : Calls Try.prog 21 #[padV p t r, padV p t r] w fun e w' => e = .returned (.bool true) ∧ Below w.heap.size w w' := by
  go_enter Try.func21, Try.ntmps21
  go_wp2
  go_ret
  refine ⟨rfl, ?_⟩
  (repeat (first | with_reducible exact Below.refl _ _ | ((with_reducible refine viaO (by assumption) ?_ ?_ ?_) <;> try ((try simp only [World.size_alloc, World.size_setCell, World.size_drew]) <;> omega)) | ((with_reducible refine Below.alloc ?_ ?_ _) <;> try ((try simp only [World.size_alloc, World.size_setCell, World.size_drew]) <;> omega)) | ((with_reducible refine Below.setCell ?_ ?_ _) <;> try ((try simp only [World.size_alloc, World.size_setCell, World.size_drew]) <;> omega)) | (with_reducible refine below_drewN ?_ _) | (with_reducible refine Below.drew ?_) | ((with_reducible refine via (by assumption) ?_ ?_) <;> try ((try simp only [World.size_alloc, World.size_setCell, World.size_drew]) <;> omega))))

theorem ipr_c (p t r b : Int) (v : Bool) (hv : (pv p t r && inB b 0 255) = v) (w : World) : Calls Try.prog 23 #[padV p t r, .int .i64 b] w fun e w' => e = .returned (padV (onlyIf v b) (onlyIf v t) (onlyIf v r)) ∧ Below w.heap.size w w' := by
  subst hv
  have key : ∀ x y : Bool, pv p t r = x → inB b 0 255 = y → Calls Try.prog 23 #[padV p t r, .int .i64 b] w fun e w' => e = .returned (padV (onlyIf (x && y) b) (onlyIf (x && y) t) (onlyIf (x && y) r)) ∧ Below w.heap.size w w' := by
    intro x y hp hq
    have Hp := Lib.hid hp
    have Hq := Lib.hid hq
    clear hp hq
    cases x
    · go_enter Try.func23, Try.ntmps23
      go_wp2_with fail
      refine (ipv_c _ _ _ _ Hp.out _).mono ?_
      rintro e w1 ⟨rfl, hO_w1⟩
      have hz_w1 := hO_w1.size
      (try simp only [World.size_alloc, World.size_setCell, World.size_drew] at hz_w1)
      have hs_w1_0 : w.heap.size < w1.heap.size := (by omega)
      have c_w1_0 := fun o => (bcell hO_w1).1 (w.heap.size) o (by (try simp only [World.size_alloc, World.size_setCell, World.size_drew]) <;> omega)
      have f_w1_0 := fun o => (bcell hO_w1).2 (w.heap.size) o (by (try simp only [World.size_alloc, World.size_setCell, World.size_drew]) <;> omega)
      have hs_w1_1 : w.heap.size + 1 < w1.heap.size := (by omega)
      have c_w1_1 := fun o => (bcell hO_w1).1 (w.heap.size + 1) o (by (try simp only [World.size_alloc, World.size_setCell, World.size_drew]) <;> omega)
      have f_w1_1 := fun o => (bcell hO_w1).2 (w.heap.size + 1) o (by (try simp only [World.size_alloc, World.size_setCell, World.size_drew]) <;> omega)
      go_wp2
      refine bodyPost_ret (v := padV 0 0 0) (by simp [results, Try.results23, go_sem, *]) rfl ⟨rfl, ?_⟩
      (repeat (first | with_reducible exact Below.refl _ _ | ((with_reducible refine viaO (by assumption) ?_ ?_ ?_) <;> try ((try simp only [World.size_alloc, World.size_setCell, World.size_drew]) <;> omega)) | ((with_reducible refine Below.alloc ?_ ?_ _) <;> try ((try simp only [World.size_alloc, World.size_setCell, World.size_drew]) <;> omega)) | ((with_reducible refine Below.setCell ?_ ?_ _) <;> try ((try simp only [World.size_alloc, World.size_setCell, World.size_drew]) <;> omega)) | (with_reducible refine below_drewN ?_ _) | (with_reducible refine Below.drew ?_) | ((with_reducible refine via (by assumption) ?_ ?_) <;> try ((try simp only [World.size_alloc, World.size_setCell, World.size_drew]) <;> omega))))
    · cases y
      · go_enter Try.func23, Try.ntmps23
        go_wp2_with fail
        refine (ipv_c _ _ _ _ Hp.out _).mono ?_
        rintro e w1 ⟨rfl, hO_w1⟩
        have hz_w1 := hO_w1.size
        (try simp only [World.size_alloc, World.size_setCell, World.size_drew] at hz_w1)
        have hs_w1_0 : w.heap.size < w1.heap.size := (by omega)
        have c_w1_0 := fun o => (bcell hO_w1).1 (w.heap.size) o (by (try simp only [World.size_alloc, World.size_setCell, World.size_drew]) <;> omega)
        have f_w1_0 := fun o => (bcell hO_w1).2 (w.heap.size) o (by (try simp only [World.size_alloc, World.size_setCell, World.size_drew]) <;> omega)
        have hs_w1_1 : w.heap.size + 1 < w1.heap.size := (by omega)
        have c_w1_1 := fun o => (bcell hO_w1).1 (w.heap.size + 1) o (by (try simp only [World.size_alloc, World.size_setCell, World.size_drew]) <;> omega)
        have f_w1_1 := fun o => (bcell hO_w1).2 (w.heap.size + 1) o (by (try simp only [World.size_alloc, World.size_setCell, World.size_drew]) <;> omega)
        go_wp2_with (go_at_call 35; refine (isByte_c _ _ Hq.out _).mono ?_; rintro e w1 ⟨rfl, rfl⟩)
        refine bodyPost_ret (v := padV 0 0 0) (by simp [results, Try.results23, go_sem, *]) rfl ⟨rfl, ?_⟩
        (repeat (first | with_reducible exact Below.refl _ _ | ((with_reducible refine viaO (by assumption) ?_ ?_ ?_) <;> try ((try simp only [World.size_alloc, World.size_setCell, World.size_drew]) <;> omega)) | ((with_reducible refine Below.alloc ?_ ?_ _) <;> try ((try simp only [World.size_alloc, World.size_setCell, World.size_drew]) <;> omega)) | ((with_reducible refine Below.setCell ?_ ?_ _) <;> try ((try simp only [World.size_alloc, World.size_setCell, World.size_drew]) <;> omega)) | (with_reducible refine below_drewN ?_ _) | (with_reducible refine Below.drew ?_) | ((with_reducible refine via (by assumption) ?_ ?_) <;> try ((try simp only [World.size_alloc, World.size_setCell, World.size_drew]) <;> omega))))
      · go_enter Try.func23, Try.ntmps23
        go_wp2_with fail
        refine (ipv_c _ _ _ _ Hp.out _).mono ?_
        rintro e w1 ⟨rfl, hO_w1⟩
        have hz_w1 := hO_w1.size
        (try simp only [World.size_alloc, World.size_setCell, World.size_drew] at hz_w1)
        have hs_w1_0 : w.heap.size < w1.heap.size := (by omega)
        have c_w1_0 := fun o => (bcell hO_w1).1 (w.heap.size) o (by (try simp only [World.size_alloc, World.size_setCell, World.size_drew]) <;> omega)
        have f_w1_0 := fun o => (bcell hO_w1).2 (w.heap.size) o (by (try simp only [World.size_alloc, World.size_setCell, World.size_drew]) <;> omega)
        have hs_w1_1 : w.heap.size + 1 < w1.heap.size := (by omega)
        have c_w1_1 := fun o => (bcell hO_w1).1 (w.heap.size + 1) o (by (try simp only [World.size_alloc, World.size_setCell, World.size_drew]) <;> omega)
        have f_w1_1 := fun o => (bcell hO_w1).2 (w.heap.size + 1) o (by (try simp only [World.size_alloc, World.size_setCell, World.size_drew]) <;> omega)
        go_wp2_with (go_at_call 35; refine (isByte_c _ _ Hq.out _).mono ?_; rintro e w1 ⟨rfl, rfl⟩)
        refine bodyPost_ret (v := padV b t r) (by simp [results, Try.results23, go_sem, *]) rfl ⟨rfl, ?_⟩
        (repeat (first | with_reducible exact Below.refl _ _ | ((with_reducible refine viaO (by assumption) ?_ ?_ ?_) <;> try ((try simp only [World.size_alloc, World.size_setCell, World.size_drew]) <;> omega)) | ((with_reducible refine Below.alloc ?_ ?_ _) <;> try ((try simp only [World.size_alloc, World.size_setCell, World.size_drew]) <;> omega)) | ((with_reducible refine Below.setCell ?_ ?_ _) <;> try ((try simp only [World.size_alloc, World.size_setCell, World.size_drew]) <;> omega)) | (with_reducible refine below_drewN ?_ _) | (with_reducible refine Below.drew ?_) | ((with_reducible refine via (by assumption) ?_ ?_) <;> try ((try simp only [World.size_alloc, World.size_setCell, World.size_drew]) <;> omega))))
  exact key _ _ rfl rfl

theorem spr_c (p t r b : Int) (v : Bool) (hv : (pv p t r && inB b 0 255) = v) (w : World) : Calls Try.prog 22 #[padV p t r, .int .i64 b] w fun e w' => e = .returned (padV (onlyIf v b) (onlyIf v t) (onlyIf v r)) ∧ Below w.heap.size w w' := by
  subst hv
  have key : ∀ x y : Bool, pv p t r = x → inB b 0 255 = y → Calls Try.prog 22 #[padV p t r, .int .i64 b] w fun e w' => e = .returned (padV (onlyIf (x && y) b) (onlyIf (x && y) t) (onlyIf (x && y) r)) ∧ Below w.heap.size w w' := by
    intro x y hp hq
    have Hp := Lib.hid hp
    have Hq := Lib.hid hq
    clear hp hq
    cases x
    · go_enter Try.func22, Try.ntmps22
      go_wp2_with fail
      refine (spv_c _ _ _ _ Hp.out _).mono ?_
      rintro e w1 ⟨rfl, hO_w1⟩
      have hz_w1 := hO_w1.size
      (try simp only [World.size_alloc, World.size_setCell, World.size_drew] at hz_w1)
      have hs_w1_0 : w.heap.size < w1.heap.size := (by omega)
      have c_w1_0 := fun o => (bcell hO_w1).1 (w.heap.size) o (by (try simp only [World.size_alloc, World.size_setCell, World.size_drew]) <;> omega)
      have f_w1_0 := fun o => (bcell hO_w1).2 (w.heap.size) o (by (try simp only [World.size_alloc, World.size_setCell, World.size_drew]) <;> omega)
      have hs_w1_1 : w.heap.size + 1 < w1.heap.size := (by omega)
      have c_w1_1 := fun o => (bcell hO_w1).1 (w.heap.size + 1) o (by (try simp only [World.size_alloc, World.size_setCell, World.size_drew]) <;> omega)
      have f_w1_1 := fun o => (bcell hO_w1).2 (w.heap.size + 1) o (by (try simp only [World.size_alloc, World.size_setCell, World.size_drew]) <;> omega)
      go_wp2
      refine bodyPost_ret (v := padV 0 0 0) (by simp [results, Try.results22, go_sem, *]) rfl ⟨rfl, ?_⟩
      (repeat (first | with_reducible exact Below.refl _ _ | ((with_reducible refine viaO (by assumption) ?_ ?_ ?_) <;> try ((try simp only [World.size_alloc, World.size_setCell, World.size_drew]) <;> omega)) | ((with_reducible refine Below.alloc ?_ ?_ _) <;> try ((try simp only [World.size_alloc, World.size_setCell, World.size_drew]) <;> omega)) | ((with_reducible refine Below.setCell ?_ ?_ _) <;> try ((try simp only [World.size_alloc, World.size_setCell, World.size_drew]) <;> omega)) | (with_reducible refine below_drewN ?_ _) | (with_reducible refine Below.drew ?_) | ((with_reducible refine via (by assumption) ?_ ?_) <;> try ((try simp only [World.size_alloc, World.size_setCell, World.size_drew]) <;> omega))))
    · cases y
      · go_enter Try.func22, Try.ntmps22
        go_wp2_with fail
        refine (spv_c _ _ _ _ Hp.out _).mono ?_
        rintro e w1 ⟨rfl, hO_w1⟩
        have hz_w1 := hO_w1.size
        (try simp only [World.size_alloc, World.size_setCell, World.size_drew] at hz_w1)
        have hs_w1_0 : w.heap.size < w1.heap.size := (by omega)
        have c_w1_0 := fun o => (bcell hO_w1).1 (w.heap.size) o (by (try simp only [World.size_alloc, World.size_setCell, World.size_drew]) <;> omega)
        have f_w1_0 := fun o => (bcell hO_w1).2 (w.heap.size) o (by (try simp only [World.size_alloc, World.size_setCell, World.size_drew]) <;> omega)
        have hs_w1_1 : w.heap.size + 1 < w1.heap.size := (by omega)
        have c_w1_1 := fun o => (bcell hO_w1).1 (w.heap.size + 1) o (by (try simp only [World.size_alloc, World.size_setCell, World.size_drew]) <;> omega)
        have f_w1_1 := fun o => (bcell hO_w1).2 (w.heap.size + 1) o (by (try simp only [World.size_alloc, World.size_setCell, World.size_drew]) <;> omega)
        go_wp2_with (go_at_call 34; refine (l1Byte_c _ _ Hq.out _).mono ?_; rintro e w1 ⟨rfl, rfl⟩)
        refine bodyPost_ret (v := padV 0 0 0) (by simp [results, Try.results22, go_sem, *]) rfl ⟨rfl, ?_⟩
        (repeat (first | with_reducible exact Below.refl _ _ | ((with_reducible refine viaO (by assumption) ?_ ?_ ?_) <;> try ((try simp only [World.size_alloc, World.size_setCell, World.size_drew]) <;> omega)) | ((with_reducible refine Below.alloc ?_ ?_ _) <;> try ((try simp only [World.size_alloc, World.size_setCell, World.size_drew]) <;> omega)) | ((with_reducible refine Below.setCell ?_ ?_ _) <;> try ((try simp only [World.size_alloc, World.size_setCell, World.size_drew]) <;> omega)) | (with_reducible refine below_drewN ?_ _) | (with_reducible refine Below.drew ?_) | ((with_reducible refine via (by assumption) ?_ ?_) <;> try ((try simp only [World.size_alloc, World.size_setCell, World.size_drew]) <;> omega))))
      · go_enter Try.func22, Try.ntmps22
        go_wp2_with fail
        refine (spv_c _ _ _ _ Hp.out _).mono ?_
        rintro e w1 ⟨rfl, hO_w1⟩
        have hz_w1 := hO_w1.size
        (try simp only [World.size_alloc, World.size_setCell, World.size_drew] at hz_w1)
        have hs_w1_0 : w.heap.size < w1.heap.size := (by omega)
        have c_w1_0 := fun o => (bcell hO_w1).1 (w.heap.size) o (by (try simp only [World.size_alloc, World.size_setCell, World.size_drew]) <;> omega)
        have f_w1_0 := fun o => (bcell hO_w1).2 (w.heap.size) o (by (try simp only [World.size_alloc, World.size_setCell, World.size_drew]) <;> omega)
        have hs_w1_1 : w.heap.size + 1 < w1.heap.size := (by omega)
        have c_w1_1 := fun o => (bcell hO_w1).1 (w.heap.size + 1) o (by (try simp only [World.size_alloc, World.size_setCell, World.size_drew]) <;> omega)
        have f_w1_1 := fun o => (bcell hO_w1).2 (w.heap.size + 1) o (by (try simp only [World.size_alloc, World.size_setCell, World.size_drew]) <;> omega)
        go_wp2_with (go_at_call 34; refine (l1Byte_c _ _ Hq.out _).mono ?_; rintro e w1 ⟨rfl, rfl⟩)
        refine bodyPost_ret (v := padV b t r) (by simp [results, Try.results22, go_sem, *]) rfl ⟨rfl, ?_⟩
        (repeat (first | with_reducible exact Below.refl _ _ | ((with_reducible refine viaO (by assumption) ?_ ?_ ?_) <;> try ((try simp only [World.size_alloc, World.size_setCell, World.size_drew]) <;> omega)) | ((with_reducible refine Below.alloc ?_ ?_ _) <;> try ((try simp only [World.size_alloc, World.size_setCell, World.size_drew]) <;> omega)) | ((with_reducible refine Below.setCell ?_ ?_ _) <;> try ((try simp only [World.size_alloc, World.size_setCell, World.size_drew]) <;> omega)) | (with_reducible refine below_drewN ?_ _) | (with_reducible refine Below.drew ?_) | ((with_reducible refine via (by assumption) ?_ ?_) <;> try ((try simp only [World.size_alloc, World.size_setCell, World.size_drew]) <;> omega))))
  exact key _ _ rfl rfl

theorem ila_c (p t r : Int) (v : Bool) (hv : pv p t r = v) (w : World) : Calls Try.prog 20 #[padV p t r] w fun e w' => e = .returned (padV (onlyIf v p) (onlyIf v p) 0) ∧ Below w.heap.size w w' := by
  have Hv := Lib.hid hv
  clear hv
  cases v
  · go_enter Try.func20, Try.ntmps20
    go_wp2_with fail
    refine (ipv_c _ _ _ _ Hv.out _).mono ?_
    rintro e w1 ⟨rfl, hO_w1⟩
    have hz_w1 := hO_w1.size
    (try simp only [World.size_alloc, World.size_setCell, World.size_drew] at hz_w1)
    have hs_w1_0 : w.heap.size < w1.heap.size := (by omega)
    have c_w1_0 := fun o => (bcell hO_w1).1 (w.heap.size) o (by (try simp only [World.size_alloc, World.size_setCell, World.size_drew]) <;> omega)
    have f_w1_0 := fun o => (bcell hO_w1).2 (w.heap.size) o (by (try simp only [World.size_alloc, World.size_setCell, World.size_drew]) <;> omega)
    have hs_w1_1 : w.heap.size + 1 < w1.heap.size := (by omega)
    have c_w1_1 := fun o => (bcell hO_w1).1 (w.heap.size + 1) o (by (try simp only [World.size_alloc, World.size_setCell, World.size_drew]) <;> omega)
    have f_w1_1 := fun o => (bcell hO_w1).2 (w.heap.size + 1) o (by (try simp only [World.size_alloc, World.size_setCell, World.size_drew]) <;> omega)
    go_wp2
    refine bodyPost_ret (v := padV 0 0 0) (by simp [results, Try.results20, go_sem, *]) rfl ⟨rfl, ?_⟩
    (repeat (first | with_reducible exact Below.refl _ _ | ((with_reducible refine viaO (by assumption) ?_ ?_ ?_) <;> try ((try simp only [World.size_alloc, World.size_setCell, World.size_drew]) <;> omega)) | ((with_reducible refine Below.alloc ?_ ?_ _) <;> try ((try simp only [World.size_alloc, World.size_setCell, World.size_drew]) <;> omega)) | ((with_reducible refine Below.setCell ?_ ?_ _) <;> try ((try simp only [World.size_alloc, World.size_setCell, World.size_drew]) <;> omega)) | (with_reducible refine below_drewN ?_ _) | (with_reducible refine Below.drew ?_) | ((with_reducible refine via (by assumption) ?_ ?_) <;> try ((try simp only [World.size_alloc, World.size_setCell, World.size_drew]) <;> omega))))
  · go_enter Try.func20, Try.ntmps20
    go_wp2_with fail
    refine (ipv_c _ _ _ _ Hv.out _).mono ?_
    rintro e w1 ⟨rfl, hO_w1⟩
    have hz_w1 := hO_w1.size
    (try simp only [World.size_alloc, World.size_setCell, World.size_drew] at hz_w1)
    have hs_w1_0 : w.heap.size < w1.heap.size := (by omega)
    have c_w1_0 := fun o => (bcell hO_w1).1 (w.heap.size) o (by (try simp only [World.size_alloc, World.size_setCell, World.size_drew]) <;> omega)
    have f_w1_0 := fun o => (bcell hO_w1).2 (w.heap.size) o (by (try simp only [World.size_alloc, World.size_setCell, World.size_drew]) <;> omega)
    have hs_w1_1 : w.heap.size + 1 < w1.heap.size := (by omega)
    have c_w1_1 := fun o => (bcell hO_w1).1 (w.heap.size + 1) o (by (try simp only [World.size_alloc, World.size_setCell, World.size_drew]) <;> omega)
    have f_w1_1 := fun o => (bcell hO_w1).2 (w.heap.size + 1) o (by (try simp only [World.size_alloc, World.size_setCell, World.size_drew]) <;> omega)
    go_wp2
    refine bodyPost_ret (v := padV p p 0) (by simp [results, Try.results20, go_sem, *]) rfl ⟨rfl, ?_⟩
    (repeat (first | with_reducible exact Below.refl _ _ | ((with_reducible refine viaO (by assumption) ?_ ?_ ?_) <;> try ((try simp only [World.size_alloc, World.size_setCell, World.size_drew]) <;> omega)) | ((with_reducible refine Below.alloc ?_ ?_ _) <;> try ((try simp only [World.size_alloc, World.size_setCell, World.size_drew]) <;> omega)) | ((with_reducible refine Below.setCell ?_ ?_ _) <;> try ((try simp only [World.size_alloc, World.size_setCell, World.size_drew]) <;> omega)) | (with_reducible refine below_drewN ?_ _) | (with_reducible refine Below.drew ?_) | ((with_reducible refine via (by assumption) ?_ ?_) <;> try ((try simp only [World.size_alloc, World.size_setCell, World.size_drew]) <;> omega))))

theorem sla_c (p t r : Int) (v : Bool) (hv : pv p t r = v) (w : World) : Calls Try.prog 19 #[padV p t r] w fun e w' => e = .returned (padV (onlyIf v p) (onlyIf v p) 0) ∧ Below w.heap.size w w' := by
  have Hv := Lib.hid hv
  clear hv
  cases v
  · go_enter Try.func19, Try.ntmps19
    go_wp2_with fail
    refine (spv_c _ _ _ _ Hv.out _).mono ?_
    rintro e w1 ⟨rfl, hO_w1⟩
    have hz_w1 := hO_w1.size
    (try simp only [World.size_alloc, World.size_setCell, World.size_drew] at hz_w1)
    have hs_w1_0 : w.heap.size < w1.heap.size := (by omega)
    have c_w1_0 := fun o => (bcell hO_w1).1 (w.heap.size) o (by (try simp only [World.size_alloc, World.size_setCell, World.size_drew]) <;> omega)
    have f_w1_0 := fun o => (bcell hO_w1).2 (w.heap.size) o (by (try simp only [World.size_alloc, World.size_setCell, World.size_drew]) <;> omega)
    have hs_w1_1 : w.heap.size + 1 < w1.heap.size := (by omega)
    have c_w1_1 := fun o => (bcell hO_w1).1 (w.heap.size + 1) o (by (try simp only [World.size_alloc, World.size_setCell, World.size_drew]) <;> omega)
    have f_w1_1 := fun o => (bcell hO_w1).2 (w.heap.size + 1) o (by (try simp only [World.size_alloc, World.size_setCell, World.size_drew]) <;> omega)
    go_wp2
    refine bodyPost_ret (v := padV 0 0 0) (by simp [results, Try.results19, go_sem, *]) rfl ⟨rfl, ?_⟩
    (repeat (first | with_reducible exact Below.refl _ _ | ((with_reducible refine viaO (by assumption) ?_ ?_ ?_) <;> try ((try simp only [World.size_alloc, World.size_setCell, World.size_drew]) <;> omega)) | ((with_reducible refine Below.alloc ?_ ?_ _) <;> try ((try simp only [World.size_alloc, World.size_setCell, World.size_drew]) <;> omega)) | ((with_reducible refine Below.setCell ?_ ?_ _) <;> try ((try simp only [World.size_alloc, World.size_setCell, World.size_drew]) <;> omega)) | (with_reducible refine below_drewN ?_ _) | (with_reducible refine Below.drew ?_) | ((with_reducible refine via (by assumption) ?_ ?_) <;> try ((try simp only [World.size_alloc, World.size_setCell, World.size_drew]) <;> omega))))
  · go_enter Try.func19, Try.ntmps19
    go_wp2_with fail
    refine (spv_c _ _ _ _ Hv.out _).mono ?_
    rintro e w1 ⟨rfl, hO_w1⟩
    have hz_w1 := hO_w1.size
    (try simp only [World.size_alloc, World.size_setCell, World.size_drew] at hz_w1)
    have hs_w1_0 : w.heap.size < w1.heap.size := (by omega)
    have c_w1_0 := fun o => (bcell hO_w1).1 (w.heap.size) o (by (try simp only [World.size_alloc, World.size_setCell, World.size_drew]) <;> omega)
    have f_w1_0 := fun o => (bcell hO_w1).2 (w.heap.size) o (by (try simp only [World.size_alloc, World.size_setCell, World.size_drew]) <;> omega)
    have hs_w1_1 : w.heap.size + 1 < w1.heap.size := (by omega)
    have c_w1_1 := fun o => (bcell hO_w1).1 (w.heap.size + 1) o (by (try simp only [World.size_alloc, World.size_setCell, World.size_drew]) <;> omega)
    have f_w1_1 := fun o => (bcell hO_w1).2 (w.heap.size + 1) o (by (try simp only [World.size_alloc, World.size_setCell, World.size_drew]) <;> omega)
    go_wp2
    refine bodyPost_ret (v := padV p p 0) (by simp [results, Try.results19, go_sem, *]) rfl ⟨rfl, ?_⟩
    (repeat (first | with_reducible exact Below.refl _ _ | ((with_reducible refine viaO (by assumption) ?_ ?_ ?_) <;> try ((try simp only [World.size_alloc, World.size_setCell, World.size_drew]) <;> omega)) | ((with_reducible refine Below.alloc ?_ ?_ _) <;> try ((try simp only [World.size_alloc, World.size_setCell, World.size_drew]) <;> omega)) | ((with_reducible refine Below.setCell ?_ ?_ _) <;> try ((try simp only [World.size_alloc, World.size_setCell, World.size_drew]) <;> omega)) | (with_reducible refine below_drewN ?_ _) | (with_reducible refine Below.drew ?_) | ((with_reducible refine via (by assumption) ?_ ?_) <;> try ((try simp only [World.size_alloc, World.size_setCell, World.size_drew]) <;> omega))))

/-- The digit that is read. -/
def bitAt (t r : Int) : Int := t / 2 ^ r.toNat % 2
theorem shr_rem {t r : Int} (h0 : 0 ≤ t) : (t / 2 ^ r.toNat).tmod 2 = bitAt t r := by
  have p : (0 : Int) < 2 ^ r.toNat := Int.pow_pos (by omega)
  exact Int.tmod_eq_emod_of_nonneg (Int.ediv_nonneg h0 (by omega))
theorem and_one {x : Int} (h0 : 0 ≤ x) (h1 : x ≤ 255) : bits .and .i64 x 1 = x % 2 := by
  obtain ⟨n, rfl⟩ := Int.eq_ofNat_of_zero_le h0
  have h : ∀ n < 256, bits .and .i64 ((n : Nat) : Int) 1 = ((n : Nat) : Int) % 2 := by decide +kernel
  exact h n (by omega)
theorem shr_and {t r : Int} (h0 : 0 ≤ t) (h1 : t ≤ 255) : bits .and .i64 (t / 2 ^ r.toNat) 1 = bitAt t r := by
  have p : (0 : Int) < 2 ^ r.toNat := Int.pow_pos (by omega)
  exact and_one (Int.ediv_nonneg h0 (by omega)) (Int.le_trans (Int.ediv_le_self _ h0) h1)
theorem bitAt_01 (t r : Int) : bitAt t r = 0 ∨ bitAt t r = 1 := by unfold bitAt; omega

theorem ird_c_no (p t r : Int) (hv : pv p t r = false) (w : World) : Calls Try.prog 25 #[padV p t r] w fun e w' => e = .returned (.tuple #[padV 0 0 0, .int .i64 0]) ∧ Below w.heap.size w w' := by
  have Hv := Lib.hid hv
  clear hv
  go_enter Try.func25, Try.ntmps25
  go_wp2_with fail
  refine (ipv_c _ _ _ _ Hv.out _).mono ?_
  rintro e w1 ⟨rfl, hO_w1⟩
  have hz_w1 := hO_w1.size
  (try simp only [World.size_alloc, World.size_setCell, World.size_drew] at hz_w1)
  have hs_w1_0 : w.heap.size < w1.heap.size := (by omega)
  have c_w1_0 := fun o => (bcell hO_w1).1 (w.heap.size) o (by (try simp only [World.size_alloc, World.size_setCell, World.size_drew]) <;> omega)
  have f_w1_0 := fun o => (bcell hO_w1).2 (w.heap.size) o (by (try simp only [World.size_alloc, World.size_setCell, World.size_drew]) <;> omega)
  have hs_w1_1 : w.heap.size + 1 < w1.heap.size := (by omega)
  have c_w1_1 := fun o => (bcell hO_w1).1 (w.heap.size + 1) o (by (try simp only [World.size_alloc, World.size_setCell, World.size_drew]) <;> omega)
  have f_w1_1 := fun o => (bcell hO_w1).2 (w.heap.size + 1) o (by (try simp only [World.size_alloc, World.size_setCell, World.size_drew]) <;> omega)
  go_wp2
  refine bodyPost_ret (v := .tuple #[padV 0 0 0, .int .i64 0]) (by simp [results, Try.results25, go_sem, *]) rfl ⟨rfl, ?_⟩
  (repeat (first | with_reducible exact Below.refl _ _ | ((with_reducible refine viaO (by assumption) ?_ ?_ ?_) <;> try ((try simp only [World.size_alloc, World.size_setCell, World.size_drew]) <;> omega)) | ((with_reducible refine Below.alloc ?_ ?_ _) <;> try ((try simp only [World.size_alloc, World.size_setCell, World.size_drew]) <;> omega)) | ((with_reducible refine Below.setCell ?_ ?_ _) <;> try ((try simp only [World.size_alloc, World.size_setCell, World.size_drew]) <;> omega)) | (with_reducible refine below_drewN ?_ _) | (with_reducible refine Below.drew ?_) | ((with_reducible refine via (by assumption) ?_ ?_) <;> try ((try simp only [World.size_alloc, World.size_setCell, World.size_drew]) <;> omega))))
theorem ird_c_8 (p t : Int) (hv : pv p t 8 = true) (w : World) : Calls Try.prog 25 #[padV p t 8] w fun e w' => e = .returned (.tuple #[padV p t 8, .int .i64 1]) ∧ Below w.heap.size w w' := by
  have Hv := Lib.hid hv
  clear hv
  go_enter Try.func25, Try.ntmps25
  go_wp2_with fail
  refine (ipv_c _ _ _ _ Hv.out _).mono ?_
  rintro e w1 ⟨rfl, hO_w1⟩
  have hz_w1 := hO_w1.size
  (try simp only [World.size_alloc, World.size_setCell, World.size_drew] at hz_w1)
  have hs_w1_0 : w.heap.size < w1.heap.size := (by omega)
  have c_w1_0 := fun o => (bcell hO_w1).1 (w.heap.size) o (by (try simp only [World.size_alloc, World.size_setCell, World.size_drew]) <;> omega)
  have f_w1_0 := fun o => (bcell hO_w1).2 (w.heap.size) o (by (try simp only [World.size_alloc, World.size_setCell, World.size_drew]) <;> omega)
  have hs_w1_1 : w.heap.size + 1 < w1.heap.size := (by omega)
  have c_w1_1 := fun o => (bcell hO_w1).1 (w.heap.size + 1) o (by (try simp only [World.size_alloc, World.size_setCell, World.size_drew]) <;> omega)
  have f_w1_1 := fun o => (bcell hO_w1).2 (w.heap.size + 1) o (by (try simp only [World.size_alloc, World.size_setCell, World.size_drew]) <;> omega)
  go_wp2
  refine bodyPost_ret (v := .tuple #[padV p t 8, .int .i64 1]) (by simp [results, Try.results25, go_sem, *]) rfl ⟨rfl, ?_⟩
  (repeat (first | with_reducible exact Below.refl _ _ | ((with_reducible refine viaO (by assumption) ?_ ?_ ?_) <;> try ((try simp only [World.size_alloc, World.size_setCell, World.size_drew]) <;> omega)) | ((with_reducible refine Below.alloc ?_ ?_ _) <;> try ((try simp only [World.size_alloc, World.size_setCell, World.size_drew]) <;> omega)) | ((with_reducible refine Below.setCell ?_ ?_ _) <;> try ((try simp only [World.size_alloc, World.size_setCell, World.size_drew]) <;> omega)) | (with_reducible refine below_drewN ?_ _) | (with_reducible refine Below.drew ?_) | ((with_reducible refine via (by assumption) ?_ ?_) <;> try ((try simp only [World.size_alloc, World.size_setCell, World.size_drew]) <;> omega))))
theorem ird_c_yes (p t r : Int) (hv : pv p t r = true) (hr : r ≠ 8) (w : World) : Calls Try.prog 25 #[padV p t r] w fun e w' => e = .returned (.tuple #[padV p t (r + 1), .int .i64 (bitAt t r)]) ∧ Below w.heap.size w w' := by
  obtain ⟨p0, p1, t0, t1, r0, r1⟩ := pv_true hv
  have Hv := Lib.hid hv
  clear hv
  have r8 : (r == 8) = false := by simpa using hr
  have r7 : r < 8 := by omega
  clear r1 hr
  go_enter Try.func25, Try.ntmps25
  go_wp2_with fail
  refine (ipv_c _ _ _ _ Hv.out _).mono ?_
  rintro e w1 ⟨rfl, hO_w1⟩
  have hz_w1 := hO_w1.size
  (try simp only [World.size_alloc, World.size_setCell, World.size_drew] at hz_w1)
  have hs_w1_0 : w.heap.size < w1.heap.size := (by omega)
  have c_w1_0 := fun o => (bcell hO_w1).1 (w.heap.size) o (by (try simp only [World.size_alloc, World.size_setCell, World.size_drew]) <;> omega)
  have f_w1_0 := fun o => (bcell hO_w1).2 (w.heap.size) o (by (try simp only [World.size_alloc, World.size_setCell, World.size_drew]) <;> omega)
  have hs_w1_1 : w.heap.size + 1 < w1.heap.size := (by omega)
  have c_w1_1 := fun o => (bcell hO_w1).1 (w.heap.size + 1) o (by (try simp only [World.size_alloc, World.size_setCell, World.size_drew]) <;> omega)
  have f_w1_1 := fun o => (bcell hO_w1).2 (w.heap.size + 1) o (by (try simp only [World.size_alloc, World.size_setCell, World.size_drew]) <;> omega)
  go_wp2
  refine bodyPost_ret (v := .tuple #[padV p t (r + 1), .int .i64 (bitAt t r)]) (by simp [results, Try.results25, go_sem, *]; first | exact shr_and t0 t1 | exact shr_rem t0) rfl ⟨rfl, ?_⟩
  (repeat (first | with_reducible exact Below.refl _ _ | ((with_reducible refine viaO (by assumption) ?_ ?_ ?_) <;> try ((try simp only [World.size_alloc, World.size_setCell, World.size_drew]) <;> omega)) | ((with_reducible refine Below.alloc ?_ ?_ _) <;> try ((try simp only [World.size_alloc, World.size_setCell, World.size_drew]) <;> omega)) | ((with_reducible refine Below.setCell ?_ ?_ _) <;> try ((try simp only [World.size_alloc, World.size_setCell, World.size_drew]) <;> omega)) | (with_reducible refine below_drewN ?_ _) | (with_reducible refine Below.drew ?_) | ((with_reducible refine via (by assumption) ?_ ?_) <;> try ((try simp only [World.size_alloc, World.size_setCell, World.size_drew]) <;> omega))))

theorem srd_c_no (p t r : Int) (hv : pv p t r = false) (w : World) : Calls Try.prog 24 #[padV p t r] w fun e w' => e = .returned (.tuple #[padV 0 0 0, .int .i64 0]) ∧ Below w.heap.size w w' := by
  have Hv := Lib.hid hv
  clear hv
  go_enter Try.func24, Try.ntmps24
  go_wp2_with fail
  refine (spv_c _ _ _ _ Hv.out _).mono ?_
  rintro e w1 ⟨rfl, hO_w1⟩
  have hz_w1 := hO_w1.size
  (try simp only [World.size_alloc, World.size_setCell, World.size_drew] at hz_w1)
  have hs_w1_0 : w.heap.size < w1.heap.size := (by omega)
  have c_w1_0 := fun o => (bcell hO_w1).1 (w.heap.size) o (by (try simp only [World.size_alloc, World.size_setCell, World.size_drew]) <;> omega)
  have f_w1_0 := fun o => (bcell hO_w1).2 (w.heap.size) o (by (try simp only [World.size_alloc, World.size_setCell, World.size_drew]) <;> omega)
  have hs_w1_1 : w.heap.size + 1 < w1.heap.size := (by omega)
  have c_w1_1 := fun o => (bcell hO_w1).1 (w.heap.size + 1) o (by (try simp only [World.size_alloc, World.size_setCell, World.size_drew]) <;> omega)
  have f_w1_1 := fun o => (bcell hO_w1).2 (w.heap.size + 1) o (by (try simp only [World.size_alloc, World.size_setCell, World.size_drew]) <;> omega)
  go_wp2
  refine bodyPost_ret (v := .tuple #[padV 0 0 0, .int .i64 0]) (by simp [results, Try.results24, go_sem, *]) rfl ⟨rfl, ?_⟩
  (repeat (first | with_reducible exact Below.refl _ _ | ((with_reducible refine viaO (by assumption) ?_ ?_ ?_) <;> try ((try simp only [World.size_alloc, World.size_setCell, World.size_drew]) <;> omega)) | ((with_reducible refine Below.alloc ?_ ?_ _) <;> try ((try simp only [World.size_alloc, World.size_setCell, World.size_drew]) <;> omega)) | ((with_reducible refine Below.setCell ?_ ?_ _) <;> try ((try simp only [World.size_alloc, World.size_setCell, World.size_drew]) <;> omega)) | (with_reducible refine below_drewN ?_ _) | (with_reducible refine Below.drew ?_) | ((with_reducible refine via (by assumption) ?_ ?_) <;> try ((try simp only [World.size_alloc, World.size_setCell, World.size_drew]) <;> omega))))
theorem srd_c_8 (p t : Int) (hv : pv p t 8 = true) (w : World) : Calls Try.prog 24 #[padV p t 8] w fun e w' => e = .returned (.tuple #[padV p t 8, .int .i64 1]) ∧ Below w.heap.size w w' := by
  have Hv := Lib.hid hv
  clear hv
  go_enter Try.func24, Try.ntmps24
  go_wp2_with fail
  refine (spv_c _ _ _ _ Hv.out _).mono ?_
  rintro e w1 ⟨rfl, hO_w1⟩
  have hz_w1 := hO_w1.size
  (try simp only [World.size_alloc, World.size_setCell, World.size_drew] at hz_w1)
  have hs_w1_0 : w.heap.size < w1.heap.size := (by omega)
  have c_w1_0 := fun o => (bcell hO_w1).1 (w.heap.size) o (by (try simp only [World.size_alloc, World.size_setCell, World.size_drew]) <;> omega)
  have f_w1_0 := fun o => (bcell hO_w1).2 (w.heap.size) o (by (try simp only [World.size_alloc, World.size_setCell, World.size_drew]) <;> omega)
  have hs_w1_1 : w.heap.size + 1 < w1.heap.size := (by omega)
  have c_w1_1 := fun o => (bcell hO_w1).1 (w.heap.size + 1) o (by (try simp only [World.size_alloc, World.size_setCell, World.size_drew]) <;> omega)
  have f_w1_1 := fun o => (bcell hO_w1).2 (w.heap.size + 1) o (by (try simp only [World.size_alloc, World.size_setCell, World.size_drew]) <;> omega)
  go_wp2
  refine bodyPost_ret (v := .tuple #[padV p t 8, .int .i64 1]) (by simp [results, Try.results24, go_sem, *]) rfl ⟨rfl, ?_⟩
  (repeat (first | with_reducible exact Below.refl _ _ | ((with_reducible refine viaO (by assumption) ?_ ?_ ?_) <;> try ((try simp only [World.size_alloc, World.size_setCell, World.size_drew]) <;> omega)) | ((with_reducible refine Below.alloc ?_ ?_ _) <;> try ((try simp only [World.size_alloc, World.size_setCell, World.size_drew]) <;> omega)) | ((with_reducible refine Below.setCell ?_ ?_ _) <;> try ((try simp only [World.size_alloc, World.size_setCell, World.size_drew]) <;> omega)) | (with_reducible refine below_drewN ?_ _) | (with_reducible refine Below.drew ?_) | ((with_reducible refine via (by assumption) ?_ ?_) <;> try ((try simp only [World.size_alloc, World.size_setCell, World.size_drew]) <;> omega))))
theorem srd_c_yes (p t r : Int) (hv : pv p t r = true) (hr : r ≠ 8) (w : World) : Calls Try.prog 24 #[padV p t r] w fun e w' => e = .returned (.tuple #[padV p t (r + 1), .int .i64 (bitAt t r)]) ∧ Below w.heap.size w w' := by
  obtain ⟨p0, p1, t0, t1, r0, r1⟩ := pv_true hv
  have Hv := Lib.hid hv
  clear hv
  have r8 : (r == 8) = false := by simpa using hr
  have r7 : r < 8 := by omega
  clear r1 hr
  go_enter Try.func24, Try.ntmps24
  go_wp2_with fail
  refine (spv_c _ _ _ _ Hv.out _).mono ?_
  rintro e w1 ⟨rfl, hO_w1⟩
  have hz_w1 := hO_w1.size
  (try simp only [World.size_alloc, World.size_setCell, World.size_drew] at hz_w1)
  have hs_w1_0 : w.heap.size < w1.heap.size := (by omega)
  have c_w1_0 := fun o => (bcell hO_w1).1 (w.heap.size) o (by (try simp only [World.size_alloc, World.size_setCell, World.size_drew]) <;> omega)
  have f_w1_0 := fun o => (bcell hO_w1).2 (w.heap.size) o (by (try simp only [World.size_alloc, World.size_setCell, World.size_drew]) <;> omega)
  have hs_w1_1 : w.heap.size + 1 < w1.heap.size := (by omega)
  have c_w1_1 := fun o => (bcell hO_w1).1 (w.heap.size + 1) o (by (try simp only [World.size_alloc, World.size_setCell, World.size_drew]) <;> omega)
  have f_w1_1 := fun o => (bcell hO_w1).2 (w.heap.size + 1) o (by (try simp only [World.size_alloc, World.size_setCell, World.size_drew]) <;> omega)
  go_wp2
  refine bodyPost_ret (v := .tuple #[padV p t (r + 1), .int .i64 (bitAt t r)]) (by simp [results, Try.results24, go_sem, *]; first | exact shr_and t0 t1 | exact shr_rem t0) rfl ⟨rfl, ?_⟩
  (repeat (first | with_reducible exact Below.refl _ _ | ((with_reducible refine viaO (by assumption) ?_ ?_ ?_) <;> try ((try simp only [World.size_alloc, World.size_setCell, World.size_drew]) <;> omega)) | ((with_reducible refine Below.alloc ?_ ?_ _) <;> try ((try simp only [World.size_alloc, World.size_setCell, World.size_drew]) <;> omega)) | ((with_reducible refine Below.setCell ?_ ?_ _) <;> try ((try simp only [World.size_alloc, World.size_setCell, World.size_drew]) <;> omega)) | (with_reducible refine below_drewN ?_ _) | (with_reducible refine Below.drew ?_) | ((with_reducible refine via (by assumption) ?_ ?_) <;> try ((try simp only [World.size_alloc, World.size_setCell, World.size_drew]) <;> omega))))

def nextR (v : Bool) (r : Int) : Int := if v = true then (if r = 8 then 8 else r + 1) else 0
def readB (v : Bool) (t r : Int) : Int := if v = true then (if r = 8 then 1 else bitAt t r) else 0

theorem ird_c (p t r : Int) (v : Bool) (hv : pv p t r = v) (w : World) : Calls Try.prog 25 #[padV p t r] w fun e w' => e = .returned (.tuple #[padV (onlyIf v p) (onlyIf v t) (nextR v r), .int .i64 (readB v t r)]) ∧ Below w.heap.size w w' := by
  cases v
  · exact ird_c_no p t r hv w
  · by_cases hr : r = 8
    · subst hr
      simp only [nextR, readB, onlyIf, if_true]
      exact ird_c_8 p t hv w
    · simp only [nextR, readB, onlyIf, if_true, if_neg hr]
      exact ird_c_yes p t r hv hr w

theorem srd_c (p t r : Int) (v : Bool) (hv : pv p t r = v) (w : World) : Calls Try.prog 24 #[padV p t r] w fun e w' => e = .returned (.tuple #[padV (onlyIf v p) (onlyIf v t) (nextR v r), .int .i64 (readB v t r)]) ∧ Below w.heap.size w w' := by
  cases v
  · exact srd_c_no p t r hv w
  · by_cases hr : r = 8
    · subst hr
      simp only [nextR, readB, onlyIf, if_true]
      exact srd_c_8 p t hv w
    · simp only [nextR, readB, onlyIf, if_true, if_neg hr]
      exact srd_c_yes p t r hv hr w

def np (v : Bool) (a b : Int) : Int := if v = true then bits .andNot .i64 b a else 0

theorem inp_c (a b : Int) (v : Bool) (hv : (inB a 0 255 && inB b 0 255) = v) (w : World) : Calls Try.prog 15 #[.int .i64 a, .int .i64 b] w fun e w' => e = .returned (.int .i64 (np v a b)) ∧ w = w' := by
  subst hv
  cases ha : inB a 0 255 <;> cases hb : inB b 0 255
  all_goals
    have Ha := Lib.hid ha
    have Hb := Lib.hid hb
    clear ha hb
    go_enter Try.func15, Try.ntmps15
    go_wp2_with (first | (go_at_call 35; (with_reducible refine (isByte_c a _ Ha.out _).mono ?_); rintro e w1 ⟨rfl, rfl⟩) | (go_at_call 35; (with_reducible refine (isByte_c b _ Hb.out _).mono ?_); rintro e w1 ⟨rfl, rfl⟩))
    go_ret
    exact ⟨rfl, rfl⟩

theorem snp_c (a b : Int) (v : Bool) (hv : (inB a 0 255 && inB b 0 255) = v) (w : World) : Calls Try.prog 14 #[.int .i64 a, .int .i64 b] w fun e w' => e = .returned (.int .i64 (np v a b)) ∧ w = w' := by
  subst hv
  cases ha : inB a 0 255 <;> cases hb : inB b 0 255
  all_goals
    have Ha := Lib.hid ha
    have Hb := Lib.hid hb
    clear ha hb
    go_enter Try.func14, Try.ntmps14
    go_wp2_with (first | (go_at_call 34; (with_reducible refine (l1Byte_c a _ Ha.out _).mono ?_); rintro e w1 ⟨rfl, rfl⟩) | (go_at_call 34; (with_reducible refine (l1Byte_c b _ Hb.out _).mono ?_); rintro e w1 ⟨rfl, rfl⟩))
    go_ret
    exact ⟨rfl, rfl⟩

end Go.Proofs.Ytgnkoakmgfphmaa
