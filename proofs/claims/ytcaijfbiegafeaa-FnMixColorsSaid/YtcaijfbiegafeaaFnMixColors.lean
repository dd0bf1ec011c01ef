/-
  The law FnMixColors holds: mixing lies between, does not look at the order, and a color mixed with itself is itself; for every code. No conditions.
-/
import Derived.Test.YtcaijfbiegafeaaOpen
import Derived.Test.YtcaijfbiegafeaaColorDraw
namespace Go.Proofs.Ytcaijfbiegafeaa.lawFnMixColors
set_option linter.all false
set_option linter.unusedSimpArgs false
set_option linter.unusedVariables false
open Go.ChangeShapes Go.WideShapes Go.ChangeAt Go.RowKit

theorem mxc (v : Bool) (a b : Int) : mx v a b = mx v b a := by unfold mx; rw [Int.add_comm]
theorem mxs (a : Int) : mx true a a = a := by unfold mx; simp; omega
theorem mxb (a b : Int) : (if b < a then b else a) ≤ mx true a b ∧ mx true a b ≤ (if a < b then b else a) := by unfold mx; simp; split <;> split <;> omega
theorem swap (r g b x y z : Int) (v : Bool) (hv : (cv r g b && cv x y z) = v) (w : World) : Calls Try.prog 25 #[colV x y z, colV r g b] w fun e w' => e = .returned (colV (mx v r x) (mx v g y) (mx v b z)) ∧ Below w.heap.size w w' := by
  rw [mxc v r x, mxc v g y, mxc v b z]
  exact imx_c _ _ _ _ _ _ v (by rw [Bool.and_comm]; exact hv) w

theorem self (r g b : Int) (hv : cv r g b = true) (w : World) : Calls Try.prog 25 #[colV r g b, colV r g b] w fun e w' => e = .returned (colV r g b) ∧ Below w.heap.size w w' := by
  have := imx_c r g b r g b true (by rw [hv]; rfl) w
  rwa [mxs r, mxs g, mxs b] at this

set_option maxHeartbeats 8000000 in
theorem walk (v0 : Value) (w : World) (h0 : CodeArg w v0) : Calls Try.prog 11 #[v0] w fun e w' => e = .returned (.bool true) ∧ Below w.heap.size w w' := by
  obtain ⟨a, len, cap, rfl, hcode, hl⟩ := h0
  have hm := hcode.1; unfold maxLen at hm
  by_cases hlen : 1048576 < len
  · go_enter Try.func11, Try.ntmps11
    go_wp2
    go_ret
    exact ⟨rfl, Below.refl _ _⟩
  · go_enter Try.func11, Try.ntmps11
    go_wp2_with fail
    refine (drawMixColors_c _ _ _ _ hcode hl).mono ?_
    rintro e w1 ⟨r, g, b, x, y, z, rfl, hO_w1⟩
    have hz_w1 := hO_w1.size
    clear hm hcode
    cases hv : (cv r g b && cv x y z)
    · have HV := Lib.hid hv
      have HS := Lib.hid (fun w => smx_c r g b x y z false hv w)
      have HW := Lib.hid (fun w => swap r g b x y z false hv w)
      have m1 : mx false r x = 0 := rfl
      have m2 : mx false g y = 0 := rfl
      have m3 : mx false b z = 0 := rfl
      clear hv
      go_wp2_with fail
      refine (imx_c _ _ _ _ _ _ false HV.out _).mono ?_
      rintro e w2 ⟨rfl, hO_w2⟩
      have hz_w2 := hO_w2.size
      (try simp only [World.size_alloc, World.size_setCell, World.size_drew] at hz_w2)
      have hs_w2_0 : w1.heap.size < w2.heap.size := (by omega)
      have c_w2_0 := fun o => (bcell hO_w2).1 (w1.heap.size) o (by (try simp only [World.size_alloc, World.size_setCell, World.size_drew]) <;> omega)
      have f_w2_0 := fun o => (bcell hO_w2).2 (w1.heap.size) o (by (try simp only [World.size_alloc, World.size_setCell, World.size_drew]) <;> omega)
      have hs_w2_1 : w1.heap.size + 1 < w2.heap.size := (by omega)
      have c_w2_1 := fun o => (bcell hO_w2).1 (w1.heap.size + 1) o (by (try simp only [World.size_alloc, World.size_setCell, World.size_drew]) <;> omega)
      have f_w2_1 := fun o => (bcell hO_w2).2 (w1.heap.size + 1) o (by (try simp only [World.size_alloc, World.size_setCell, World.size_drew]) <;> omega)
      go_wp2
      refine wp_region_over (by kernel_rfl) (by kernel_rfl) ?_
      intro W3 hO_W3
      have hz_W3 := hO_W3.size
      (try simp only [World.size_alloc, World.size_setCell, World.size_drew] at hz_W3)
      have hs_W3_0 : w1.heap.size < W3.heap.size := (by omega)
      have c_W3_0 := fun o => (bcell hO_W3).1 (w1.heap.size) o (by (try simp only [World.size_alloc, World.size_setCell, World.size_drew]) <;> omega)
      have f_W3_0 := fun o => (bcell hO_W3).2 (w1.heap.size) o (by (try simp only [World.size_alloc, World.size_setCell, World.size_drew]) <;> omega)
      have hs_W3_1 : w1.heap.size + 1 < W3.heap.size := (by omega)
      have c_W3_1 := fun o => (bcell hO_W3).1 (w1.heap.size + 1) o (by (try simp only [World.size_alloc, World.size_setCell, World.size_drew]) <;> omega)
      have f_W3_1 := fun o => (bcell hO_W3).2 (w1.heap.size + 1) o (by (try simp only [World.size_alloc, World.size_setCell, World.size_drew]) <;> omega)
      have hs_W3_2 : w2.heap.size < W3.heap.size := (by omega)
      have c_W3_2 := fun o => (bcell hO_W3).1 (w2.heap.size) o (by (try simp only [World.size_alloc, World.size_setCell, World.size_drew]) <;> omega)
      have f_W3_2 := fun o => (bcell hO_W3).2 (w2.heap.size) o (by (try simp only [World.size_alloc, World.size_setCell, World.size_drew]) <;> omega)
      have v_W3_0 := fun x o => over_cell W3 x (w1.heap.size) o hs_W3_0
      have v_W3_1 := fun x o => over_cell W3 x (w1.heap.size + 1) o hs_W3_1
      have v_W3_2 := fun x o => over_cell W3 x (w2.heap.size) o hs_W3_2
      repeat (go_big_quiet_step (first | (go_at_call 24; (with_reducible refine Calls.over_of (HS.out _))) | (go_at_call 25; (with_reducible refine Calls.over_of (HW.out _)))))
      refine wpQuiet_nil ?_
      intro W4 hx_W4
      obtain ⟨x_W4, hx_W4⟩ := hx_W4
      have hO_W4 : Below W3.heap.size W3 W4 := hx_W4 ▸ over_below W3 x_W4
      clear hx_W4
      have hz_W4 := hO_W4.size
      have hs_W4_0 : w1.heap.size < W4.heap.size := (by omega)
      have c_W4_0 := fun o => (bcell hO_W4).1 (w1.heap.size) o (by (try simp only [World.size_alloc, World.size_setCell, World.size_drew]) <;> omega)
      have f_W4_0 := fun o => (bcell hO_W4).2 (w1.heap.size) o (by (try simp only [World.size_alloc, World.size_setCell, World.size_drew]) <;> omega)
      have hs_W4_1 : w1.heap.size + 1 < W4.heap.size := (by omega)
      have c_W4_1 := fun o => (bcell hO_W4).1 (w1.heap.size + 1) o (by (try simp only [World.size_alloc, World.size_setCell, World.size_drew]) <;> omega)
      have f_W4_1 := fun o => (bcell hO_W4).2 (w1.heap.size + 1) o (by (try simp only [World.size_alloc, World.size_setCell, World.size_drew]) <;> omega)
      have hs_W4_2 : w2.heap.size < W4.heap.size := (by omega)
      have c_W4_2 := fun o => (bcell hO_W4).1 (w2.heap.size) o (by (try simp only [World.size_alloc, World.size_setCell, World.size_drew]) <;> omega)
      have f_W4_2 := fun o => (bcell hO_W4).2 (w2.heap.size) o (by (try simp only [World.size_alloc, World.size_setCell, World.size_drew]) <;> omega)
      cases h1 : cv r g b
      · have H1 := Lib.hid h1
        clear h1
        go_wp2_with fail
        refine (scv_c _ _ _ _ H1.out _).mono ?_
        rintro e w5 ⟨rfl, hO_w5⟩
        have hz_w5 := hO_w5.size
        (try simp only [World.size_alloc, World.size_setCell, World.size_drew] at hz_w5)
        have hs_w5_0 : w1.heap.size < w5.heap.size := (by omega)
        have c_w5_0 := fun o => (bcell hO_w5).1 (w1.heap.size) o (by (try simp only [World.size_alloc, World.size_setCell, World.size_drew]) <;> omega)
        have f_w5_0 := fun o => (bcell hO_w5).2 (w1.heap.size) o (by (try simp only [World.size_alloc, World.size_setCell, World.size_drew]) <;> omega)
        have hs_w5_1 : w1.heap.size + 1 < w5.heap.size := (by omega)
        have c_w5_1 := fun o => (bcell hO_w5).1 (w1.heap.size + 1) o (by (try simp only [World.size_alloc, World.size_setCell, World.size_drew]) <;> omega)
        have f_w5_1 := fun o => (bcell hO_w5).2 (w1.heap.size + 1) o (by (try simp only [World.size_alloc, World.size_setCell, World.size_drew]) <;> omega)
        have hs_w5_2 : w2.heap.size < w5.heap.size := (by omega)
        have c_w5_2 := fun o => (bcell hO_w5).1 (w2.heap.size) o (by (try simp only [World.size_alloc, World.size_setCell, World.size_drew]) <;> omega)
        have f_w5_2 := fun o => (bcell hO_w5).2 (w2.heap.size) o (by (try simp only [World.size_alloc, World.size_setCell, World.size_drew]) <;> omega)
        go_wp2_with (go_at_call 27; refine (alive_c _).mono ?_; rintro e w' ⟨rfl, rfl⟩)
        go_ret
        refine ⟨rfl, ?_⟩
        (repeat (first | with_reducible exact Below.refl _ _ | ((with_reducible refine viaO (by assumption) ?_ ?_ ?_) <;> try ((try simp only [World.size_alloc, World.size_setCell, World.size_drew]) <;> omega)) | ((with_reducible refine Below.alloc ?_ ?_ _) <;> try ((try simp only [World.size_alloc, World.size_setCell, World.size_drew]) <;> omega)) | ((with_reducible refine Below.setCell ?_ ?_ _) <;> try ((try simp only [World.size_alloc, World.size_setCell, World.size_drew]) <;> omega)) | (with_reducible refine below_drewN ?_ _) | (with_reducible refine Below.drew ?_) | ((with_reducible refine via (by assumption) ?_ ?_) <;> try ((try simp only [World.size_alloc, World.size_setCell, World.size_drew]) <;> omega))))
      · have h2 : cv x y z = false := by
          have := HV.out
          rw [h1] at this
          simpa using this
        have H1 := Lib.hid h1
        have H2 := Lib.hid h2
        clear h1 h2
        go_wp2_with fail
        refine (scv_c _ _ _ _ H1.out _).mono ?_
        rintro e w5 ⟨rfl, hO_w5⟩
        have hz_w5 := hO_w5.size
        (try simp only [World.size_alloc, World.size_setCell, World.size_drew] at hz_w5)
        have hs_w5_0 : w1.heap.size < w5.heap.size := (by omega)
        have c_w5_0 := fun o => (bcell hO_w5).1 (w1.heap.size) o (by (try simp only [World.size_alloc, World.size_setCell, World.size_drew]) <;> omega)
        have f_w5_0 := fun o => (bcell hO_w5).2 (w1.heap.size) o (by (try simp only [World.size_alloc, World.size_setCell, World.size_drew]) <;> omega)
        have hs_w5_1 : w1.heap.size + 1 < w5.heap.size := (by omega)
        have c_w5_1 := fun o => (bcell hO_w5).1 (w1.heap.size + 1) o (by (try simp only [World.size_alloc, World.size_setCell, World.size_drew]) <;> omega)
        have f_w5_1 := fun o => (bcell hO_w5).2 (w1.heap.size + 1) o (by (try simp only [World.size_alloc, World.size_setCell, World.size_drew]) <;> omega)
        have hs_w5_2 : w2.heap.size < w5.heap.size := (by omega)
        have c_w5_2 := fun o => (bcell hO_w5).1 (w2.heap.size) o (by (try simp only [World.size_alloc, World.size_setCell, World.size_drew]) <;> omega)
        have f_w5_2 := fun o => (bcell hO_w5).2 (w2.heap.size) o (by (try simp only [World.size_alloc, World.size_setCell, World.size_drew]) <;> omega)
        go_wp2_with fail
        refine (scv_c _ _ _ _ H2.out _).mono ?_
        rintro e w6 ⟨rfl, hO_w6⟩
        have hz_w6 := hO_w6.size
        (try simp only [World.size_alloc, World.size_setCell, World.size_drew] at hz_w6)
        have hs_w6_0 : w1.heap.size < w6.heap.size := (by omega)
        have c_w6_0 := fun o => (bcell hO_w6).1 (w1.heap.size) o (by (try simp only [World.size_alloc, World.size_setCell, World.size_drew]) <;> omega)
        have f_w6_0 := fun o => (bcell hO_w6).2 (w1.heap.size) o (by (try simp only [World.size_alloc, World.size_setCell, World.size_drew]) <;> omega)
        have hs_w6_1 : w1.heap.size + 1 < w6.heap.size := (by omega)
        have c_w6_1 := fun o => (bcell hO_w6).1 (w1.heap.size + 1) o (by (try simp only [World.size_alloc, World.size_setCell, World.size_drew]) <;> omega)
        have f_w6_1 := fun o => (bcell hO_w6).2 (w1.heap.size + 1) o (by (try simp only [World.size_alloc, World.size_setCell, World.size_drew]) <;> omega)
        have hs_w6_2 : w2.heap.size < w6.heap.size := (by omega)
        have c_w6_2 := fun o => (bcell hO_w6).1 (w2.heap.size) o (by (try simp only [World.size_alloc, World.size_setCell, World.size_drew]) <;> omega)
        have f_w6_2 := fun o => (bcell hO_w6).2 (w2.heap.size) o (by (try simp only [World.size_alloc, World.size_setCell, World.size_drew]) <;> omega)
        go_wp2_with (go_at_call 27; refine (alive_c _).mono ?_; rintro e w' ⟨rfl, rfl⟩)
        go_ret
        refine ⟨rfl, ?_⟩
        (repeat (first | with_reducible exact Below.refl _ _ | ((with_reducible refine viaO (by assumption) ?_ ?_ ?_) <;> try ((try simp only [World.size_alloc, World.size_setCell, World.size_drew]) <;> omega)) | ((with_reducible refine Below.alloc ?_ ?_ _) <;> try ((try simp only [World.size_alloc, World.size_setCell, World.size_drew]) <;> omega)) | ((with_reducible refine Below.setCell ?_ ?_ _) <;> try ((try simp only [World.size_alloc, World.size_setCell, World.size_drew]) <;> omega)) | (with_reducible refine below_drewN ?_ _) | (with_reducible refine Below.drew ?_) | ((with_reducible refine via (by assumption) ?_ ?_) <;> try ((try simp only [World.size_alloc, World.size_setCell, World.size_drew]) <;> omega))))
    · have h12 : cv r g b = true ∧ cv x y z = true := by simpa using hv
      have HV := Lib.hid hv
      have H1 := Lib.hid h12.1
      have H2 := Lib.hid h12.2
      have HS := Lib.hid (fun w => smx_c r g b x y z true hv w)
      have HW := Lib.hid (fun w => swap r g b x y z true hv w)
      have HM := Lib.hid (fun w => self r g b h12.1 w)
      have b1 := mxb r x
      have b2 := mxb g y
      have b3 := mxb b z
      clear hv h12
      go_wp2_with fail
      refine (imx_c _ _ _ _ _ _ true HV.out _).mono ?_
      rintro e w2 ⟨rfl, hO_w2⟩
      have hz_w2 := hO_w2.size
      (try simp only [World.size_alloc, World.size_setCell, World.size_drew] at hz_w2)
      have hs_w2_0 : w1.heap.size < w2.heap.size := (by omega)
      have c_w2_0 := fun o => (bcell hO_w2).1 (w1.heap.size) o (by (try simp only [World.size_alloc, World.size_setCell, World.size_drew]) <;> omega)
      have f_w2_0 := fun o => (bcell hO_w2).2 (w1.heap.size) o (by (try simp only [World.size_alloc, World.size_setCell, World.size_drew]) <;> omega)
      have hs_w2_1 : w1.heap.size + 1 < w2.heap.size := (by omega)
      have c_w2_1 := fun o => (bcell hO_w2).1 (w1.heap.size + 1) o (by (try simp only [World.size_alloc, World.size_setCell, World.size_drew]) <;> omega)
      have f_w2_1 := fun o => (bcell hO_w2).2 (w1.heap.size + 1) o (by (try simp only [World.size_alloc, World.size_setCell, World.size_drew]) <;> omega)
      go_wp2
      refine wp_region_over (by kernel_rfl) (by kernel_rfl) ?_
      intro W3 hO_W3
      have hz_W3 := hO_W3.size
      (try simp only [World.size_alloc, World.size_setCell, World.size_drew] at hz_W3)
      have hs_W3_0 : w1.heap.size < W3.heap.size := (by omega)
      have c_W3_0 := fun o => (bcell hO_W3).1 (w1.heap.size) o (by (try simp only [World.size_alloc, World.size_setCell, World.size_drew]) <;> omega)
      have f_W3_0 := fun o => (bcell hO_W3).2 (w1.heap.size) o (by (try simp only [World.size_alloc, World.size_setCell, World.size_drew]) <;> omega)
      have hs_W3_1 : w1.heap.size + 1 < W3.heap.size := (by omega)
      have c_W3_1 := fun o => (bcell hO_W3).1 (w1.heap.size + 1) o (by (try simp only [World.size_alloc, World.size_setCell, World.size_drew]) <;> omega)
      have f_W3_1 := fun o => (bcell hO_W3).2 (w1.heap.size + 1) o (by (try simp only [World.size_alloc, World.size_setCell, World.size_drew]) <;> omega)
      have hs_W3_2 : w2.heap.size < W3.heap.size := (by omega)
      have c_W3_2 := fun o => (bcell hO_W3).1 (w2.heap.size) o (by (try simp only [World.size_alloc, World.size_setCell, World.size_drew]) <;> omega)
      have f_W3_2 := fun o => (bcell hO_W3).2 (w2.heap.size) o (by (try simp only [World.size_alloc, World.size_setCell, World.size_drew]) <;> omega)
      have v_W3_0 := fun x o => over_cell W3 x (w1.heap.size) o hs_W3_0
      have v_W3_1 := fun x o => over_cell W3 x (w1.heap.size + 1) o hs_W3_1
      have v_W3_2 := fun x o => over_cell W3 x (w2.heap.size) o hs_W3_2
      repeat (go_big_quiet_step (first | (go_at_call 24; (with_reducible refine Calls.over_of (HS.out _))) | (go_at_call 25; (with_reducible refine Calls.over_of (HW.out _)))))
      refine wpQuiet_nil ?_
      intro W4 hx_W4
      obtain ⟨x_W4, hx_W4⟩ := hx_W4
      have hO_W4 : Below W3.heap.size W3 W4 := hx_W4 ▸ over_below W3 x_W4
      clear hx_W4
      have hz_W4 := hO_W4.size
      have hs_W4_0 : w1.heap.size < W4.heap.size := (by omega)
      have c_W4_0 := fun o => (bcell hO_W4).1 (w1.heap.size) o (by (try simp only [World.size_alloc, World.size_setCell, World.size_drew]) <;> omega)
      have f_W4_0 := fun o => (bcell hO_W4).2 (w1.heap.size) o (by (try simp only [World.size_alloc, World.size_setCell, World.size_drew]) <;> omega)
      have hs_W4_1 : w1.heap.size + 1 < W4.heap.size := (by omega)
      have c_W4_1 := fun o => (bcell hO_W4).1 (w1.heap.size + 1) o (by (try simp only [World.size_alloc, World.size_setCell, World.size_drew]) <;> omega)
      have f_W4_1 := fun o => (bcell hO_W4).2 (w1.heap.size + 1) o (by (try simp only [World.size_alloc, World.size_setCell, World.size_drew]) <;> omega)
      have hs_W4_2 : w2.heap.size < W4.heap.size := (by omega)
      have c_W4_2 := fun o => (bcell hO_W4).1 (w2.heap.size) o (by (try simp only [World.size_alloc, World.size_setCell, World.size_drew]) <;> omega)
      have f_W4_2 := fun o => (bcell hO_W4).2 (w2.heap.size) o (by (try simp only [World.size_alloc, World.size_setCell, World.size_drew]) <;> omega)
      go_wp2_with fail
      refine (scv_c _ _ _ _ H1.out _).mono ?_
      rintro e w5 ⟨rfl, hO_w5⟩
      have hz_w5 := hO_w5.size
      (try simp only [World.size_alloc, World.size_setCell, World.size_drew] at hz_w5)
      have hs_w5_0 : w1.heap.size < w5.heap.size := (by omega)
      have c_w5_0 := fun o => (bcell hO_w5).1 (w1.heap.size) o (by (try simp only [World.size_alloc, World.size_setCell, World.size_drew]) <;> omega)
      have f_w5_0 := fun o => (bcell hO_w5).2 (w1.heap.size) o (by (try simp only [World.size_alloc, World.size_setCell, World.size_drew]) <;> omega)
      have hs_w5_1 : w1.heap.size + 1 < w5.heap.size := (by omega)
      have c_w5_1 := fun o => (bcell hO_w5).1 (w1.heap.size + 1) o (by (try simp only [World.size_alloc, World.size_setCell, World.size_drew]) <;> omega)
      have f_w5_1 := fun o => (bcell hO_w5).2 (w1.heap.size + 1) o (by (try simp only [World.size_alloc, World.size_setCell, World.size_drew]) <;> omega)
      have hs_w5_2 : w2.heap.size < w5.heap.size := (by omega)
      have c_w5_2 := fun o => (bcell hO_w5).1 (w2.heap.size) o (by (try simp only [World.size_alloc, World.size_setCell, World.size_drew]) <;> omega)
      have f_w5_2 := fun o => (bcell hO_w5).2 (w2.heap.size) o (by (try simp only [World.size_alloc, World.size_setCell, World.size_drew]) <;> omega)
      go_wp2_with fail
      refine (scv_c _ _ _ _ H2.out _).mono ?_
      rintro e w6 ⟨rfl, hO_w6⟩
      have hz_w6 := hO_w6.size
      (try simp only [World.size_alloc, World.size_setCell, World.size_drew] at hz_w6)
      have hs_w6_0 : w1.heap.size < w6.heap.size := (by omega)
      have c_w6_0 := fun o => (bcell hO_w6).1 (w1.heap.size) o (by (try simp only [World.size_alloc, World.size_setCell, World.size_drew]) <;> omega)
      have f_w6_0 := fun o => (bcell hO_w6).2 (w1.heap.size) o (by (try simp only [World.size_alloc, World.size_setCell, World.size_drew]) <;> omega)
      have hs_w6_1 : w1.heap.size + 1 < w6.heap.size := (by omega)
      have c_w6_1 := fun o => (bcell hO_w6).1 (w1.heap.size + 1) o (by (try simp only [World.size_alloc, World.size_setCell, World.size_drew]) <;> omega)
      have f_w6_1 := fun o => (bcell hO_w6).2 (w1.heap.size + 1) o (by (try simp only [World.size_alloc, World.size_setCell, World.size_drew]) <;> omega)
      have hs_w6_2 : w2.heap.size < w6.heap.size := (by omega)
      have c_w6_2 := fun o => (bcell hO_w6).1 (w2.heap.size) o (by (try simp only [World.size_alloc, World.size_setCell, World.size_drew]) <;> omega)
      have f_w6_2 := fun o => (bcell hO_w6).2 (w2.heap.size) o (by (try simp only [World.size_alloc, World.size_setCell, World.size_drew]) <;> omega)
      generalize mx true r x = c1 at *
      generalize mx true g y = c2 at *
      generalize mx true b z = c3 at *
      go_wp2_with fail
      refine wp_region_over (by kernel_rfl) (by kernel_rfl) ?_
      intro V3 hO_V3
      have hz_V3 := hO_V3.size
      (try simp only [World.size_alloc, World.size_setCell, World.size_drew] at hz_V3)
      have hs_V3_0 : w1.heap.size < V3.heap.size := (by omega)
      have c_V3_0 := fun o => (bcell hO_V3).1 (w1.heap.size) o (by (try simp only [World.size_alloc, World.size_setCell, World.size_drew]) <;> omega)
      have f_V3_0 := fun o => (bcell hO_V3).2 (w1.heap.size) o (by (try simp only [World.size_alloc, World.size_setCell, World.size_drew]) <;> omega)
      have hs_V3_1 : w1.heap.size + 1 < V3.heap.size := (by omega)
      have c_V3_1 := fun o => (bcell hO_V3).1 (w1.heap.size + 1) o (by (try simp only [World.size_alloc, World.size_setCell, World.size_drew]) <;> omega)
      have f_V3_1 := fun o => (bcell hO_V3).2 (w1.heap.size + 1) o (by (try simp only [World.size_alloc, World.size_setCell, World.size_drew]) <;> omega)
      have hs_V3_2 : w2.heap.size < V3.heap.size := (by omega)
      have c_V3_2 := fun o => (bcell hO_V3).1 (w2.heap.size) o (by (try simp only [World.size_alloc, World.size_setCell, World.size_drew]) <;> omega)
      have f_V3_2 := fun o => (bcell hO_V3).2 (w2.heap.size) o (by (try simp only [World.size_alloc, World.size_setCell, World.size_drew]) <;> omega)
      have v_V3_0 := fun x o => over_cell V3 x (w1.heap.size) o hs_V3_0
      have v_V3_1 := fun x o => over_cell V3 x (w1.heap.size + 1) o hs_V3_1
      have v_V3_2 := fun x o => over_cell V3 x (w2.heap.size) o hs_V3_2
      simp only [List.append_eq, List.cons_append, List.nil_append]
      repeat (go_big_quiet_step ((go_at_call 25; (with_reducible refine Calls.over_of (HM.out _)))))
      refine wpQuiet_nil ?_
      intro V4 hx_V4
      obtain ⟨x_V4, hx_V4⟩ := hx_V4
      have hO_V4 : Below V3.heap.size V3 V4 := hx_V4 ▸ over_below V3 x_V4
      clear hx_V4
      have hz_V4 := hO_V4.size
      have hs_V4_0 : w1.heap.size < V4.heap.size := (by omega)
      have c_V4_0 := fun o => (bcell hO_V4).1 (w1.heap.size) o (by (try simp only [World.size_alloc, World.size_setCell, World.size_drew]) <;> omega)
      have f_V4_0 := fun o => (bcell hO_V4).2 (w1.heap.size) o (by (try simp only [World.size_alloc, World.size_setCell, World.size_drew]) <;> omega)
      have hs_V4_1 : w1.heap.size + 1 < V4.heap.size := (by omega)
      have c_V4_1 := fun o => (bcell hO_V4).1 (w1.heap.size + 1) o (by (try simp only [World.size_alloc, World.size_setCell, World.size_drew]) <;> omega)
      have f_V4_1 := fun o => (bcell hO_V4).2 (w1.heap.size + 1) o (by (try simp only [World.size_alloc, World.size_setCell, World.size_drew]) <;> omega)
      have hs_V4_2 : w2.heap.size < V4.heap.size := (by omega)
      have c_V4_2 := fun o => (bcell hO_V4).1 (w2.heap.size) o (by (try simp only [World.size_alloc, World.size_setCell, World.size_drew]) <;> omega)
      have f_V4_2 := fun o => (bcell hO_V4).2 (w2.heap.size) o (by (try simp only [World.size_alloc, World.size_setCell, World.size_drew]) <;> omega)
      go_wp2
      all_goals
        go_ret
        refine ⟨rfl, ?_⟩
        (repeat (first | with_reducible exact Below.refl _ _ | ((with_reducible refine viaO (by assumption) ?_ ?_ ?_) <;> try ((try simp only [World.size_alloc, World.size_setCell, World.size_drew]) <;> omega)) | ((with_reducible refine Below.alloc ?_ ?_ _) <;> try ((try simp only [World.size_alloc, World.size_setCell, World.size_drew]) <;> omega)) | ((with_reducible refine Below.setCell ?_ ?_ _) <;> try ((try simp only [World.size_alloc, World.size_setCell, World.size_drew]) <;> omega)) | (with_reducible refine below_drewN ?_ _) | (with_reducible refine Below.drew ?_) | ((with_reducible refine via (by assumption) ?_ ?_) <;> try ((try simp only [World.size_alloc, World.size_setCell, World.size_drew]) <;> omega))))

set_option maxRecDepth 100000 in
theorem lifted (os : Os) (started : os.Started) (H : Type) (enc : TypeId × Value → H) :
    ReturnsInHanded {} Try.checked os 11 .any (Rows.fnMixColorsSpec.pre6 enc Try.prog Try.f11 Rows.fnMixColorsRow.domain false) (Rows.fnMixColorsSpec.post enc Try.prog Try.f11 false true false false) := by
  refine returnsInHanded_of_change (C := Try.checked) own started (by kernel_rfl) Try.func11
    (ChangeSpec.witness6 (enc := enc) (C := Try.checked) false ⟨#[], #[.slice none 0 0], []⟩ 8 (by kernel_rfl) (by kernel_rfl) (by kernel_rfl) (by kernel_rfl)) ?_
  intro W base args ds gs before hval0 hW hcnd _
  have hval : ∀ (j : Nat) t v, Try.f11.params[j]? = some t → args[j]? = some v → Value.okWide Try.prog W .any base t v := hval0
  have hW' := hW
  obtain ⟨p, q, hA0, hV, rfl, hfz, hnd⟩ := hW
  have hA : DataW.TrodAll enc Try.prog W 0 (fun _ => true) true Try.f11.params.toList args.toList ds p := hA0
  rw [Try.params11] at hA hval
  obtain ⟨v0, vs0, d0, ds0, p0, q0, hargs, rfl, rfl, h0, r0⟩ := trodAll_cons hA
  obtain ⟨rfl, rfl, rfl⟩ := trodAll_nil r0
  obtain rfl : args = #[v0] := by cases args; simp_all
  obtain ⟨rfl, rfl⟩ := trodVars_none hV
  have lt0 : ∀ x ∈ p0, x.block < W.heap.size := by obtain ⟨m, hm⟩ := h0; exact DataW.trod_lt m _ _ _ hm
  have a0 := codeArg (hval 0 37 v0 rfl rfl) h0
  clear hA0 hval0
  refine (walk v0 W a0).mono fun e W' ⟨he, bel⟩ => ?_
  subst he
  exact ⟨_, rfl, _, _, _, [], _, [], hW', trodAll_mk1 (shut_bool Try.underlying4 _), (trodAll_cons_mk (Below.trod laidOut (by kernel_rfl) (of_decide_eq_true (by kernel_rfl)) h0 bel lt0) trodAll_mk0), rfl, bel.frame _, fun h => by cases h⟩

theorem proved : Rows.FnMixColorsSaid :=
  OpenClaim.holds_of_wide 11 Try.f11 rfl rfl rfl rfl rfl rfl rfl ⟨rfl, rfl, rfl, rfl, rfl⟩ rfl rfl rfl rfl rfl (by kernel_rfl) Try.func11 (by kernel_rfl)
    (of_decide_eq_true (by kernel_rfl)) (by unfold Func.isWrapper; first | (rw [if_pos (by decide +kernel)]; kernel_rfl) | (rw [if_neg (by decide +kernel)]; exact ⟨rfl, rfl⟩))
    (fun os started H enc _ => lifted os started H enc)
#print axioms proved

end Go.Proofs.Ytcaijfbiegafeaa.lawFnMixColors
