/-
  The law FnFadeColor holds: fading darkens, for every code. No conditions.
-/
import Derived.Test.YtcaijfbiegafeaaOpen
import Derived.Test.YtcaijfbiegafeaaColorDraw
namespace Go.Proofs.Ytcaijfbiegafeaa.lawFnFadeColor
set_option linter.all false
set_option linter.unusedSimpArgs false
set_option linter.unusedVariables false
open Go.ChangeShapes Go.WideShapes Go.ChangeAt Go.RowKit

theorem full {x : Int} (v : Bool) : fd v x 16 = if v = true then x else 0 := by
  unfold fd; split <;> omega
theorem fd_false (x l : Int) : fd false x l = 0 := rfl
theorem fd_true (x l : Int) : fd true x l = x * l / 16 := rfl
theorem mono {x l m : Int} (hx : 0 ≤ x) (hm : m ≤ l) : fd true x m ≤ fd true x l := by
  rw [fd_true, fd_true]
  exact Int.ediv_le_ediv (by omega) (Int.mul_le_mul_of_nonneg_left hm hx)

theorem at16 {r g b : Int} (h : cv r g b = true) (w : World) : Calls Try.prog 23 #[colV r g b, .int .i64 16] w fun e w' => e = .returned (colV r g b) ∧ Below w.heap.size w w' := by
  have := ifd_c r g b 16 true (by rw [h]; decide) w
  simpa only [full, if_true] using this
theorem at0 {r g b : Int} (h : cv r g b = true) (w : World) : Calls Try.prog 23 #[colV r g b, .int .i64 0] w fun e w' => e = .returned (colV 0 0 0) ∧ Below w.heap.size w w' := by
  have := ifd_c r g b 0 true (by rw [h]; decide) w
  have z : ∀ x, fd true x 0 = 0 := fun x => by rw [fd_true]; simp
  simpa only [z] using this
theorem least {x l : Int} (hx : 0 ≤ x) (hl : l ≤ 16) : fd true x l ≤ x := by
  have := mono hx hl
  rwa [full, if_pos rfl] at this

set_option maxHeartbeats 2000000 in
theorem walk (v0 : Value) (w : World) (h0 : CodeArg w v0) : Calls Try.prog 10 #[v0] w fun e w' => e = .returned (.bool true) ∧ Below w.heap.size w w' := by
  obtain ⟨a, len, cap, rfl, hcode, hl⟩ := h0
  have hm := hcode.1; unfold maxLen at hm
  by_cases hlen : 1048576 < len
  · go_enter Try.func10, Try.ntmps10
    go_wp2
    go_ret
    exact ⟨rfl, Below.refl _ _⟩
  · go_enter Try.func10, Try.ntmps10
    go_wp2_with fail
    refine (drawFadeColor_c _ _ _ _ hcode hl).mono ?_
    rintro e w1 ⟨r, g, b, l, rfl, hl0, hl1, hO_w1⟩
    have hz_w1 := hO_w1.size
    cases hv : cv r g b && inB l 0 16
    · have HV := Lib.hid hv
      clear hv
      have z : ∀ x y, fd false x y = 0 := fd_false
      go_wp2_with fail
      refine (ifd_c _ _ _ _ false HV.out _).mono ?_
      rintro e w2 ⟨rfl, hO_w2⟩
      have hz_w2 := hO_w2.size
      (try simp only [World.size_alloc, World.size_setCell, World.size_drew] at hz_w2)
      have hs_w2_0 : w1.heap.size < w2.heap.size := (by omega)
      have c_w2_0 := fun o => (bcell hO_w2).1 (w1.heap.size) o (by (try simp only [World.size_alloc, World.size_setCell, World.size_drew]) <;> omega)
      have f_w2_0 := fun o => (bcell hO_w2).2 (w1.heap.size) o (by (try simp only [World.size_alloc, World.size_setCell, World.size_drew]) <;> omega)
      go_wp2_with fail
      refine wp_region_over (by kernel_rfl) (by kernel_rfl) ?_
      intro w3 hO_w3
      have hz_w3 := hO_w3.size
      (try simp only [World.size_alloc, World.size_setCell, World.size_drew] at hz_w3)
      have hs_w3_0 : w1.heap.size < w3.heap.size := (by omega)
      have c_w3_0 := fun o => (bcell hO_w3).1 (w1.heap.size) o (by (try simp only [World.size_alloc, World.size_setCell, World.size_drew]) <;> omega)
      have f_w3_0 := fun o => (bcell hO_w3).2 (w1.heap.size) o (by (try simp only [World.size_alloc, World.size_setCell, World.size_drew]) <;> omega)
      have hs_w3_1 : w2.heap.size < w3.heap.size := (by omega)
      have c_w3_1 := fun o => (bcell hO_w3).1 (w2.heap.size) o (by (try simp only [World.size_alloc, World.size_setCell, World.size_drew]) <;> omega)
      have f_w3_1 := fun o => (bcell hO_w3).2 (w2.heap.size) o (by (try simp only [World.size_alloc, World.size_setCell, World.size_drew]) <;> omega)
      have v_w3_0 := fun x o => over_cell w3 x (w1.heap.size) o hs_w3_0
      have v_w3_1 := fun x o => over_cell w3 x (w2.heap.size) o hs_w3_1
      repeat (go_big_quiet_step ((go_at_call 22; refine Calls.over_of (sfd_c _ _ _ _ false HV.out _))))
      refine wpQuiet_nil ?_
      intro w4 hx_w4
      obtain ⟨x_w4, hx_w4⟩ := hx_w4
      have hO_w4 : Below w3.heap.size w3 w4 := hx_w4 ▸ over_below w3 x_w4
      clear hx_w4
      have hz_w4 := hO_w4.size
      have hs_w4_0 : w1.heap.size < w4.heap.size := (by omega)
      have c_w4_0 := fun o => (bcell hO_w4).1 (w1.heap.size) o (by (try simp only [World.size_alloc, World.size_setCell, World.size_drew]) <;> omega)
      have f_w4_0 := fun o => (bcell hO_w4).2 (w1.heap.size) o (by (try simp only [World.size_alloc, World.size_setCell, World.size_drew]) <;> omega)
      have hs_w4_1 : w2.heap.size < w4.heap.size := (by omega)
      have c_w4_1 := fun o => (bcell hO_w4).1 (w2.heap.size) o (by (try simp only [World.size_alloc, World.size_setCell, World.size_drew]) <;> omega)
      have f_w4_1 := fun o => (bcell hO_w4).2 (w2.heap.size) o (by (try simp only [World.size_alloc, World.size_setCell, World.size_drew]) <;> omega)
      cases hc : cv r g b
      · go_wp2_with fail
        refine (scv_c _ _ _ _ hc _).mono ?_
        rintro e w5 ⟨rfl, hO_w5⟩
        have hz_w5 := hO_w5.size
        (try simp only [World.size_alloc, World.size_setCell, World.size_drew] at hz_w5)
        have hs_w5_0 : w1.heap.size < w5.heap.size := (by omega)
        have c_w5_0 := fun o => (bcell hO_w5).1 (w1.heap.size) o (by (try simp only [World.size_alloc, World.size_setCell, World.size_drew]) <;> omega)
        have f_w5_0 := fun o => (bcell hO_w5).2 (w1.heap.size) o (by (try simp only [World.size_alloc, World.size_setCell, World.size_drew]) <;> omega)
        have hs_w5_1 : w2.heap.size < w5.heap.size := (by omega)
        have c_w5_1 := fun o => (bcell hO_w5).1 (w2.heap.size) o (by (try simp only [World.size_alloc, World.size_setCell, World.size_drew]) <;> omega)
        have f_w5_1 := fun o => (bcell hO_w5).2 (w2.heap.size) o (by (try simp only [World.size_alloc, World.size_setCell, World.size_drew]) <;> omega)
        go_wp2_with (go_at_call 27; refine (alive_c _).mono ?_; rintro e w' ⟨rfl, rfl⟩)
        go_ret
        refine ⟨rfl, ?_⟩
        (repeat (first | with_reducible exact Below.refl _ _ | ((with_reducible refine viaO (by assumption) ?_ ?_ ?_) <;> try ((try simp only [World.size_alloc, World.size_setCell, World.size_drew]) <;> omega)) | ((with_reducible refine Below.alloc ?_ ?_ _) <;> try ((try simp only [World.size_alloc, World.size_setCell, World.size_drew]) <;> omega)) | ((with_reducible refine Below.setCell ?_ ?_ _) <;> try ((try simp only [World.size_alloc, World.size_setCell, World.size_drew]) <;> omega)) | (with_reducible refine below_drewN ?_ _) | (with_reducible refine Below.drew ?_) | ((with_reducible refine via (by assumption) ?_ ?_) <;> try ((try simp only [World.size_alloc, World.size_setCell, World.size_drew]) <;> omega))))
      · have hb : inB l 0 16 = false := by have := HV.out; rw [hc] at this; simpa using this
        have hb' := inB_false.1 hb
        have hc' := Lib.hid hc
        clear hb hc
        go_wp2_with fail
        refine (scv_c _ _ _ _ hc'.out _).mono ?_
        rintro e w5 ⟨rfl, hO_w5⟩
        have hz_w5 := hO_w5.size
        (try simp only [World.size_alloc, World.size_setCell, World.size_drew] at hz_w5)
        have hs_w5_0 : w1.heap.size < w5.heap.size := (by omega)
        have c_w5_0 := fun o => (bcell hO_w5).1 (w1.heap.size) o (by (try simp only [World.size_alloc, World.size_setCell, World.size_drew]) <;> omega)
        have f_w5_0 := fun o => (bcell hO_w5).2 (w1.heap.size) o (by (try simp only [World.size_alloc, World.size_setCell, World.size_drew]) <;> omega)
        have hs_w5_1 : w2.heap.size < w5.heap.size := (by omega)
        have c_w5_1 := fun o => (bcell hO_w5).1 (w2.heap.size) o (by (try simp only [World.size_alloc, World.size_setCell, World.size_drew]) <;> omega)
        have f_w5_1 := fun o => (bcell hO_w5).2 (w2.heap.size) o (by (try simp only [World.size_alloc, World.size_setCell, World.size_drew]) <;> omega)
        rcases hb' with hb' | hb'
        all_goals
          go_wp2_with (go_at_call 27; refine (alive_c _).mono ?_; rintro e w' ⟨rfl, rfl⟩)
          go_ret
          refine ⟨rfl, ?_⟩
          (repeat (first | with_reducible exact Below.refl _ _ | ((with_reducible refine viaO (by assumption) ?_ ?_ ?_) <;> try ((try simp only [World.size_alloc, World.size_setCell, World.size_drew]) <;> omega)) | ((with_reducible refine Below.alloc ?_ ?_ _) <;> try ((try simp only [World.size_alloc, World.size_setCell, World.size_drew]) <;> omega)) | ((with_reducible refine Below.setCell ?_ ?_ _) <;> try ((try simp only [World.size_alloc, World.size_setCell, World.size_drew]) <;> omega)) | (with_reducible refine below_drewN ?_ _) | (with_reducible refine Below.drew ?_) | ((with_reducible refine via (by assumption) ?_ ?_) <;> try ((try simp only [World.size_alloc, World.size_setCell, World.size_drew]) <;> omega))))
    · have HV := Lib.hid hv
      simp only [Bool.and_eq_true] at hv
      obtain ⟨hc, hi⟩ := hv
      obtain ⟨r0, r1, g0, g1, b0, b1⟩ := cv_true hc
      obtain ⟨i0, i1⟩ := inB_true.1 hi
      have HC := Lib.hid hc
      clear hc hi
      go_wp2_with fail
      refine (ifd_c _ _ _ _ true HV.out _).mono ?_
      rintro e w2 ⟨rfl, hO_w2⟩
      have hz_w2 := hO_w2.size
      (try simp only [World.size_alloc, World.size_setCell, World.size_drew] at hz_w2)
      have hs_w2_0 : w1.heap.size < w2.heap.size := (by omega)
      have c_w2_0 := fun o => (bcell hO_w2).1 (w1.heap.size) o (by (try simp only [World.size_alloc, World.size_setCell, World.size_drew]) <;> omega)
      have f_w2_0 := fun o => (bcell hO_w2).2 (w1.heap.size) o (by (try simp only [World.size_alloc, World.size_setCell, World.size_drew]) <;> omega)
      go_wp2_with fail
      refine wp_region_over (by kernel_rfl) (by kernel_rfl) ?_
      intro w3 hO_w3
      have hz_w3 := hO_w3.size
      (try simp only [World.size_alloc, World.size_setCell, World.size_drew] at hz_w3)
      have hs_w3_0 : w1.heap.size < w3.heap.size := (by omega)
      have c_w3_0 := fun o => (bcell hO_w3).1 (w1.heap.size) o (by (try simp only [World.size_alloc, World.size_setCell, World.size_drew]) <;> omega)
      have f_w3_0 := fun o => (bcell hO_w3).2 (w1.heap.size) o (by (try simp only [World.size_alloc, World.size_setCell, World.size_drew]) <;> omega)
      have hs_w3_1 : w2.heap.size < w3.heap.size := (by omega)
      have c_w3_1 := fun o => (bcell hO_w3).1 (w2.heap.size) o (by (try simp only [World.size_alloc, World.size_setCell, World.size_drew]) <;> omega)
      have f_w3_1 := fun o => (bcell hO_w3).2 (w2.heap.size) o (by (try simp only [World.size_alloc, World.size_setCell, World.size_drew]) <;> omega)
      have v_w3_0 := fun x o => over_cell w3 x (w1.heap.size) o hs_w3_0
      have v_w3_1 := fun x o => over_cell w3 x (w2.heap.size) o hs_w3_1
      repeat (go_big_quiet_step ((go_at_call 22; refine Calls.over_of (sfd_c _ _ _ _ true HV.out _))))
      refine wpQuiet_nil ?_
      intro w4 hx_w4
      obtain ⟨x_w4, hx_w4⟩ := hx_w4
      have hO_w4 : Below w3.heap.size w3 w4 := hx_w4 ▸ over_below w3 x_w4
      clear hx_w4
      have hz_w4 := hO_w4.size
      have hs_w4_0 : w1.heap.size < w4.heap.size := (by omega)
      have c_w4_0 := fun o => (bcell hO_w4).1 (w1.heap.size) o (by (try simp only [World.size_alloc, World.size_setCell, World.size_drew]) <;> omega)
      have f_w4_0 := fun o => (bcell hO_w4).2 (w1.heap.size) o (by (try simp only [World.size_alloc, World.size_setCell, World.size_drew]) <;> omega)
      have hs_w4_1 : w2.heap.size < w4.heap.size := (by omega)
      have c_w4_1 := fun o => (bcell hO_w4).1 (w2.heap.size) o (by (try simp only [World.size_alloc, World.size_setCell, World.size_drew]) <;> omega)
      have f_w4_1 := fun o => (bcell hO_w4).2 (w2.heap.size) o (by (try simp only [World.size_alloc, World.size_setCell, World.size_drew]) <;> omega)
      go_wp2_with fail
      refine (scv_c _ _ _ _ HC.out _).mono ?_
      rintro e w5 ⟨rfl, hO_w5⟩
      have hz_w5 := hO_w5.size
      (try simp only [World.size_alloc, World.size_setCell, World.size_drew] at hz_w5)
      have hs_w5_0 : w1.heap.size < w5.heap.size := (by omega)
      have c_w5_0 := fun o => (bcell hO_w5).1 (w1.heap.size) o (by (try simp only [World.size_alloc, World.size_setCell, World.size_drew]) <;> omega)
      have f_w5_0 := fun o => (bcell hO_w5).2 (w1.heap.size) o (by (try simp only [World.size_alloc, World.size_setCell, World.size_drew]) <;> omega)
      have hs_w5_1 : w2.heap.size < w5.heap.size := (by omega)
      have c_w5_1 := fun o => (bcell hO_w5).1 (w2.heap.size) o (by (try simp only [World.size_alloc, World.size_setCell, World.size_drew]) <;> omega)
      have f_w5_1 := fun o => (bcell hO_w5).2 (w2.heap.size) o (by (try simp only [World.size_alloc, World.size_setCell, World.size_drew]) <;> omega)
      have q1 := least r0 i1
      go_wp2_with fail
      · have q2 := mono r0 (show l - 1 ≤ l by omega)
        have q3 := mono g0 (show l - 1 ≤ l by omega)
        have q4 := mono b0 (show l - 1 ≤ l by omega)
        refine (ifd_c _ _ _ _ true (by rw [HC.out, Bool.true_and, inB_true]; omega) _).mono ?_
        rintro e w6 ⟨rfl, hO_w6⟩
        have hz_w6 := hO_w6.size
        (try simp only [World.size_alloc, World.size_setCell, World.size_drew] at hz_w6)
        have hs_w6_0 : w1.heap.size < w6.heap.size := (by omega)
        have c_w6_0 := fun o => (bcell hO_w6).1 (w1.heap.size) o (by (try simp only [World.size_alloc, World.size_setCell, World.size_drew]) <;> omega)
        have f_w6_0 := fun o => (bcell hO_w6).2 (w1.heap.size) o (by (try simp only [World.size_alloc, World.size_setCell, World.size_drew]) <;> omega)
        have hs_w6_1 : w2.heap.size < w6.heap.size := (by omega)
        have c_w6_1 := fun o => (bcell hO_w6).1 (w2.heap.size) o (by (try simp only [World.size_alloc, World.size_setCell, World.size_drew]) <;> omega)
        have f_w6_1 := fun o => (bcell hO_w6).2 (w2.heap.size) o (by (try simp only [World.size_alloc, World.size_setCell, World.size_drew]) <;> omega)
        go_wp2_with fail
        refine wp_region_over (by kernel_rfl) (by kernel_rfl) ?_
        intro w7 hO_w7
        have hz_w7 := hO_w7.size
        (try simp only [World.size_alloc, World.size_setCell, World.size_drew] at hz_w7)
        have hs_w7_0 : w1.heap.size < w7.heap.size := (by omega)
        have c_w7_0 := fun o => (bcell hO_w7).1 (w1.heap.size) o (by (try simp only [World.size_alloc, World.size_setCell, World.size_drew]) <;> omega)
        have f_w7_0 := fun o => (bcell hO_w7).2 (w1.heap.size) o (by (try simp only [World.size_alloc, World.size_setCell, World.size_drew]) <;> omega)
        have hs_w7_1 : w2.heap.size < w7.heap.size := (by omega)
        have c_w7_1 := fun o => (bcell hO_w7).1 (w2.heap.size) o (by (try simp only [World.size_alloc, World.size_setCell, World.size_drew]) <;> omega)
        have f_w7_1 := fun o => (bcell hO_w7).2 (w2.heap.size) o (by (try simp only [World.size_alloc, World.size_setCell, World.size_drew]) <;> omega)
        have hs_w7_2 : w6.heap.size < w7.heap.size := (by omega)
        have c_w7_2 := fun o => (bcell hO_w7).1 (w6.heap.size) o (by (try simp only [World.size_alloc, World.size_setCell, World.size_drew]) <;> omega)
        have f_w7_2 := fun o => (bcell hO_w7).2 (w6.heap.size) o (by (try simp only [World.size_alloc, World.size_setCell, World.size_drew]) <;> omega)
        have v_w7_0 := fun x o => over_cell w7 x (w1.heap.size) o hs_w7_0
        have v_w7_1 := fun x o => over_cell w7 x (w2.heap.size) o hs_w7_1
        have v_w7_2 := fun x o => over_cell w7 x (w6.heap.size) o hs_w7_2
        repeat (go_big_quiet_step (first | (go_at_call 23; with_reducible refine Calls.over_of (at16 HC.out _)) | (go_at_call 23; with_reducible refine Calls.over_of (at0 HC.out _))))
        refine wpQuiet_nil ?_
        intro w8 hx_w8
        obtain ⟨x_w8, hx_w8⟩ := hx_w8
        have hO_w8 : Below w7.heap.size w7 w8 := hx_w8 ▸ over_below w7 x_w8
        clear hx_w8
        have hz_w8 := hO_w8.size
        have hs_w8_0 : w1.heap.size < w8.heap.size := (by omega)
        have c_w8_0 := fun o => (bcell hO_w8).1 (w1.heap.size) o (by (try simp only [World.size_alloc, World.size_setCell, World.size_drew]) <;> omega)
        have f_w8_0 := fun o => (bcell hO_w8).2 (w1.heap.size) o (by (try simp only [World.size_alloc, World.size_setCell, World.size_drew]) <;> omega)
        have hs_w8_1 : w2.heap.size < w8.heap.size := (by omega)
        have c_w8_1 := fun o => (bcell hO_w8).1 (w2.heap.size) o (by (try simp only [World.size_alloc, World.size_setCell, World.size_drew]) <;> omega)
        have f_w8_1 := fun o => (bcell hO_w8).2 (w2.heap.size) o (by (try simp only [World.size_alloc, World.size_setCell, World.size_drew]) <;> omega)
        have hs_w8_2 : w6.heap.size < w8.heap.size := (by omega)
        have c_w8_2 := fun o => (bcell hO_w8).1 (w6.heap.size) o (by (try simp only [World.size_alloc, World.size_setCell, World.size_drew]) <;> omega)
        have f_w8_2 := fun o => (bcell hO_w8).2 (w6.heap.size) o (by (try simp only [World.size_alloc, World.size_setCell, World.size_drew]) <;> omega)
        go_wp2
        go_ret
        refine ⟨rfl, ?_⟩
        (repeat (first | with_reducible exact Below.refl _ _ | ((with_reducible refine viaO (by assumption) ?_ ?_ ?_) <;> try ((try simp only [World.size_alloc, World.size_setCell, World.size_drew]) <;> omega)) | ((with_reducible refine Below.alloc ?_ ?_ _) <;> try ((try simp only [World.size_alloc, World.size_setCell, World.size_drew]) <;> omega)) | ((with_reducible refine Below.setCell ?_ ?_ _) <;> try ((try simp only [World.size_alloc, World.size_setCell, World.size_drew]) <;> omega)) | (with_reducible refine below_drewN ?_ _) | (with_reducible refine Below.drew ?_) | ((with_reducible refine via (by assumption) ?_ ?_) <;> try ((try simp only [World.size_alloc, World.size_setCell, World.size_drew]) <;> omega))))
      · have q2 := mono r0 i0
        have q3 := mono g0 i0
        have q4 := mono b0 i0
        refine (ifd_c _ _ _ _ true (by rw [HC.out, Bool.true_and, inB_true]; omega) _).mono ?_
        rintro e w6 ⟨rfl, hO_w6⟩
        have hz_w6 := hO_w6.size
        (try simp only [World.size_alloc, World.size_setCell, World.size_drew] at hz_w6)
        have hs_w6_0 : w1.heap.size < w6.heap.size := (by omega)
        have c_w6_0 := fun o => (bcell hO_w6).1 (w1.heap.size) o (by (try simp only [World.size_alloc, World.size_setCell, World.size_drew]) <;> omega)
        have f_w6_0 := fun o => (bcell hO_w6).2 (w1.heap.size) o (by (try simp only [World.size_alloc, World.size_setCell, World.size_drew]) <;> omega)
        have hs_w6_1 : w2.heap.size < w6.heap.size := (by omega)
        have c_w6_1 := fun o => (bcell hO_w6).1 (w2.heap.size) o (by (try simp only [World.size_alloc, World.size_setCell, World.size_drew]) <;> omega)
        have f_w6_1 := fun o => (bcell hO_w6).2 (w2.heap.size) o (by (try simp only [World.size_alloc, World.size_setCell, World.size_drew]) <;> omega)
        go_wp2_with fail
        refine wp_region_over (by kernel_rfl) (by kernel_rfl) ?_
        intro w7 hO_w7
        have hz_w7 := hO_w7.size
        (try simp only [World.size_alloc, World.size_setCell, World.size_drew] at hz_w7)
        have hs_w7_0 : w1.heap.size < w7.heap.size := (by omega)
        have c_w7_0 := fun o => (bcell hO_w7).1 (w1.heap.size) o (by (try simp only [World.size_alloc, World.size_setCell, World.size_drew]) <;> omega)
        have f_w7_0 := fun o => (bcell hO_w7).2 (w1.heap.size) o (by (try simp only [World.size_alloc, World.size_setCell, World.size_drew]) <;> omega)
        have hs_w7_1 : w2.heap.size < w7.heap.size := (by omega)
        have c_w7_1 := fun o => (bcell hO_w7).1 (w2.heap.size) o (by (try simp only [World.size_alloc, World.size_setCell, World.size_drew]) <;> omega)
        have f_w7_1 := fun o => (bcell hO_w7).2 (w2.heap.size) o (by (try simp only [World.size_alloc, World.size_setCell, World.size_drew]) <;> omega)
        have hs_w7_2 : w6.heap.size < w7.heap.size := (by omega)
        have c_w7_2 := fun o => (bcell hO_w7).1 (w6.heap.size) o (by (try simp only [World.size_alloc, World.size_setCell, World.size_drew]) <;> omega)
        have f_w7_2 := fun o => (bcell hO_w7).2 (w6.heap.size) o (by (try simp only [World.size_alloc, World.size_setCell, World.size_drew]) <;> omega)
        have v_w7_0 := fun x o => over_cell w7 x (w1.heap.size) o hs_w7_0
        have v_w7_1 := fun x o => over_cell w7 x (w2.heap.size) o hs_w7_1
        have v_w7_2 := fun x o => over_cell w7 x (w6.heap.size) o hs_w7_2
        repeat (go_big_quiet_step (first | (go_at_call 23; with_reducible refine Calls.over_of (at16 HC.out _)) | (go_at_call 23; with_reducible refine Calls.over_of (at0 HC.out _))))
        refine wpQuiet_nil ?_
        intro w8 hx_w8
        obtain ⟨x_w8, hx_w8⟩ := hx_w8
        have hO_w8 : Below w7.heap.size w7 w8 := hx_w8 ▸ over_below w7 x_w8
        clear hx_w8
        have hz_w8 := hO_w8.size
        have hs_w8_0 : w1.heap.size < w8.heap.size := (by omega)
        have c_w8_0 := fun o => (bcell hO_w8).1 (w1.heap.size) o (by (try simp only [World.size_alloc, World.size_setCell, World.size_drew]) <;> omega)
        have f_w8_0 := fun o => (bcell hO_w8).2 (w1.heap.size) o (by (try simp only [World.size_alloc, World.size_setCell, World.size_drew]) <;> omega)
        have hs_w8_1 : w2.heap.size < w8.heap.size := (by omega)
        have c_w8_1 := fun o => (bcell hO_w8).1 (w2.heap.size) o (by (try simp only [World.size_alloc, World.size_setCell, World.size_drew]) <;> omega)
        have f_w8_1 := fun o => (bcell hO_w8).2 (w2.heap.size) o (by (try simp only [World.size_alloc, World.size_setCell, World.size_drew]) <;> omega)
        have hs_w8_2 : w6.heap.size < w8.heap.size := (by omega)
        have c_w8_2 := fun o => (bcell hO_w8).1 (w6.heap.size) o (by (try simp only [World.size_alloc, World.size_setCell, World.size_drew]) <;> omega)
        have f_w8_2 := fun o => (bcell hO_w8).2 (w6.heap.size) o (by (try simp only [World.size_alloc, World.size_setCell, World.size_drew]) <;> omega)
        go_wp2
        go_ret
        refine ⟨rfl, ?_⟩
        (repeat (first | with_reducible exact Below.refl _ _ | ((with_reducible refine viaO (by assumption) ?_ ?_ ?_) <;> try ((try simp only [World.size_alloc, World.size_setCell, World.size_drew]) <;> omega)) | ((with_reducible refine Below.alloc ?_ ?_ _) <;> try ((try simp only [World.size_alloc, World.size_setCell, World.size_drew]) <;> omega)) | ((with_reducible refine Below.setCell ?_ ?_ _) <;> try ((try simp only [World.size_alloc, World.size_setCell, World.size_drew]) <;> omega)) | (with_reducible refine below_drewN ?_ _) | (with_reducible refine Below.drew ?_) | ((with_reducible refine via (by assumption) ?_ ?_) <;> try ((try simp only [World.size_alloc, World.size_setCell, World.size_drew]) <;> omega))))

set_option maxRecDepth 100000 in
theorem lifted (os : Os) (started : os.Started) (H : Type) (enc : TypeId × Value → H) :
    ReturnsInHanded {} Try.checked os 10 .any (Rows.fnFadeColorSpec.pre6 enc Try.prog Try.f10 Rows.fnFadeColorRow.domain false) (Rows.fnFadeColorSpec.post enc Try.prog Try.f10 false true false false) := by
  refine returnsInHanded_of_change (C := Try.checked) own started (by kernel_rfl) Try.func10
    (ChangeSpec.witness6 (enc := enc) (C := Try.checked) false ⟨#[], #[.slice none 0 0], []⟩ 8 (by kernel_rfl) (by kernel_rfl) (by kernel_rfl) (by kernel_rfl)) ?_
  intro W base args ds gs before hval0 hW hcnd _
  have hval : ∀ (j : Nat) t v, Try.f10.params[j]? = some t → args[j]? = some v → Value.okWide Try.prog W .any base t v := hval0
  have hW' := hW
  obtain ⟨p, q, hA0, hV, rfl, hfz, hnd⟩ := hW
  have hA : DataW.TrodAll enc Try.prog W 0 (fun _ => true) true Try.f10.params.toList args.toList ds p := hA0
  rw [Try.params10] at hA hval
  obtain ⟨v0, vs0, d0, ds0, p0, q0, hargs, rfl, rfl, h0, r0⟩ := trodAll_cons hA
  obtain ⟨rfl, rfl, rfl⟩ := trodAll_nil r0
  obtain rfl : args = #[v0] := by cases args; simp_all
  obtain ⟨rfl, rfl⟩ := trodVars_none hV
  have lt0 : ∀ x ∈ p0, x.block < W.heap.size := by obtain ⟨m, hm⟩ := h0; exact DataW.trod_lt m _ _ _ hm
  have a0 := codeArg (hval 0 37 v0 rfl rfl) h0
  clear hA0 hval0
  refine (walk v0 W a0).mono fun e W' ⟨he, bel⟩ => ?_
  subst he
  exact ⟨_, rfl, _, _, _, [], _, [], hW', trodAll_mk1 (shut_bool Try.underlying4 _), (trodAll_cons_mk (Below.trod laidOut (by kernel_rfl) (of_decide_eq_true (by kernel_rfl)) h0 bel lt0) trodAll_mk0), rfl, bel.frame _, fun h => by cases h⟩

theorem proved : Rows.FnFadeColorSaid :=
  OpenClaim.holds_of_wide 10 Try.f10 rfl rfl rfl rfl rfl rfl rfl ⟨rfl, rfl, rfl, rfl, rfl⟩ rfl rfl rfl rfl rfl (by kernel_rfl) Try.func10 (by kernel_rfl)
    (of_decide_eq_true (by kernel_rfl)) (by unfold Func.isWrapper; first | (rw [if_pos (by decide +kernel)]; kernel_rfl) | (rw [if_neg (by decide +kernel)]; exact ⟨rfl, rfl⟩))
    (fun os started H enc _ => lifted os started H enc)
#print axioms proved

end Go.Proofs.Ytcaijfbiegafeaa.lawFnFadeColor
