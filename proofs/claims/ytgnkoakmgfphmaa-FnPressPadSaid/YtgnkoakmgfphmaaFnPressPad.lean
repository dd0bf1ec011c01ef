/-
  The law FnPressPad holds: pressing does not disturb reading: only Pressed changes, pressing the same buttons again changes nothing; for every code. No conditions.
-/
import Derived.Test.YtgnkoakmgfphmaaOpen
import Derived.Test.YtgnkoakmgfphmaaPadLaw
import Derived.Test.YtgnkoakmgfphmaaPadDraw
namespace Go.Proofs.Ytgnkoakmgfphmaa.lawFnPressPad
set_option linter.all false
set_option linter.unusedSimpArgs false
set_option linter.unusedVariables false
open Go.ChangeShapes Go.WideShapes Go.ChangeAt Go.RowKit

set_option maxHeartbeats 2000000 in
theorem walk (v0 : Value) (w : World) (h0 : CodeArg w v0) : Calls Try.prog 11 #[v0] w fun e w' => e = .returned (.bool true) ∧ Below w.heap.size w w' := by
  obtain ⟨a, len, cap, rfl, hcode, hl⟩ := h0
  have hm := hcode.1; unfold maxLen at hm
  by_cases hlen : 1048576 < len
  · go_enter Try.func11, Try.ntmps11
    go_wp2
    go_ret
    exact ⟨rfl, Below.refl _ _⟩
  · go_enter Try.func11, Try.ntmps11
    go_wp2_with fail
    refine (drawPressPad_c _ _ _ _ hcode hl).mono ?_
    rintro e w1 ⟨p, t, r, b, rfl, hO_w1⟩
    have hz_w1 := hO_w1.size
    have z0 : ∀ x, onlyIf false x = 0 := onlyIf_false
    have z1 : ∀ x, onlyIf true x = x := onlyIf_true
    cases hp : pv p t r
    · have HP := Lib.hid hp
      have HV := Lib.hid (show (pv p t r && inB b 0 255) = false by rw [hp]; rfl)
      clear hp
      go_wp2_with fail
      refine (ipr_c _ _ _ _ false HV.out _).mono ?_
      rintro e w2 ⟨rfl, hO_w2⟩
      have hz_w2 := hO_w2.size
      (try simp only [World.size_alloc, World.size_setCell, World.size_drew] at hz_w2)
      have hs_w2_0 : w1.heap.size < w2.heap.size := (by omega)
      have c_w2_0 := fun o => (bcell hO_w2).1 (w1.heap.size) o (by (try simp only [World.size_alloc, World.size_setCell, World.size_drew]) <;> omega)
      have f_w2_0 := fun o => (bcell hO_w2).2 (w1.heap.size) o (by (try simp only [World.size_alloc, World.size_setCell, World.size_drew]) <;> omega)
      go_wp2_with fail
      refine wp_region_over (by kernel_rfl) (by kernel_rfl) ?_
      intro w3 hO_w3
      have hz_w3 := hO_w3.size
      (try simp only [World.size_alloc, World.size_setCell, World.size_drew] at hz_w3)
      have hs_w3_0 : w1.heap.size < w3.heap.size := (by omega)
      have c_w3_0 := fun o => (bcell hO_w3).1 (w1.heap.size) o (by (try simp only [World.size_alloc, World.size_setCell, World.size_drew]) <;> omega)
      have f_w3_0 := fun o => (bcell hO_w3).2 (w1.heap.size) o (by (try simp only [World.size_alloc, World.size_setCell, World.size_drew]) <;> omega)
      have hs_w3_1 : w2.heap.size < w3.heap.size := (by omega)
      have c_w3_1 := fun o => (bcell hO_w3).1 (w2.heap.size) o (by (try simp only [World.size_alloc, World.size_setCell, World.size_drew]) <;> omega)
      have f_w3_1 := fun o => (bcell hO_w3).2 (w2.heap.size) o (by (try simp only [World.size_alloc, World.size_setCell, World.size_drew]) <;> omega)
      have v_w3_0 := fun x o => over_cell w3 x (w1.heap.size) o hs_w3_0
      have v_w3_1 := fun x o => over_cell w3 x (w2.heap.size) o hs_w3_1
      repeat (go_big_quiet_step ((go_at_call 22; refine Calls.over_of (spr_c _ _ _ _ false HV.out _))))
      refine wpQuiet_nil ?_
      intro w4 hx_w4
      obtain ⟨x_w4, hx_w4⟩ := hx_w4
      have hO_w4 : Below w3.heap.size w3 w4 := hx_w4 ▸ over_below w3 x_w4
      clear hx_w4
      have hz_w4 := hO_w4.size
      have hs_w4_0 : w1.heap.size < w4.heap.size := (by omega)
      have c_w4_0 := fun o => (bcell hO_w4).1 (w1.heap.size) o (by (try simp only [World.size_alloc, World.size_setCell, World.size_drew]) <;> omega)
      have f_w4_0 := fun o => (bcell hO_w4).2 (w1.heap.size) o (by (try simp only [World.size_alloc, World.size_setCell, World.size_drew]) <;> omega)
      have hs_w4_1 : w2.heap.size < w4.heap.size := (by omega)
      have c_w4_1 := fun o => (bcell hO_w4).1 (w2.heap.size) o (by (try simp only [World.size_alloc, World.size_setCell, World.size_drew]) <;> omega)
      have f_w4_1 := fun o => (bcell hO_w4).2 (w2.heap.size) o (by (try simp only [World.size_alloc, World.size_setCell, World.size_drew]) <;> omega)
      go_wp2_with fail
      refine (spv_c _ _ _ _ HP.out _).mono ?_
      rintro e w5 ⟨rfl, hO_w5⟩
      have hz_w5 := hO_w5.size
      (try simp only [World.size_alloc, World.size_setCell, World.size_drew] at hz_w5)
      have hs_w5_0 : w1.heap.size < w5.heap.size := (by omega)
      have c_w5_0 := fun o => (bcell hO_w5).1 (w1.heap.size) o (by (try simp only [World.size_alloc, World.size_setCell, World.size_drew]) <;> omega)
      have f_w5_0 := fun o => (bcell hO_w5).2 (w1.heap.size) o (by (try simp only [World.size_alloc, World.size_setCell, World.size_drew]) <;> omega)
      have hs_w5_1 : w2.heap.size < w5.heap.size := (by omega)
      have c_w5_1 := fun o => (bcell hO_w5).1 (w2.heap.size) o (by (try simp only [World.size_alloc, World.size_setCell, World.size_drew]) <;> omega)
      have f_w5_1 := fun o => (bcell hO_w5).2 (w2.heap.size) o (by (try simp only [World.size_alloc, World.size_setCell, World.size_drew]) <;> omega)
      go_wp2_with (go_at_call 28; refine (alive_c _).mono ?_; rintro e w' ⟨rfl, rfl⟩)
      go_ret
      refine ⟨rfl, ?_⟩
      (repeat (first | with_reducible exact Below.refl _ _ | ((with_reducible refine viaO (by assumption) ?_ ?_ ?_) <;> try ((try simp only [World.size_alloc, World.size_setCell, World.size_drew]) <;> omega)) | ((with_reducible refine Below.alloc ?_ ?_ _) <;> try ((try simp only [World.size_alloc, World.size_setCell, World.size_drew]) <;> omega)) | ((with_reducible refine Below.setCell ?_ ?_ _) <;> try ((try simp only [World.size_alloc, World.size_setCell, World.size_drew]) <;> omega)) | (with_reducible refine below_drewN ?_ _) | (with_reducible refine Below.drew ?_) | ((with_reducible refine via (by assumption) ?_ ?_) <;> try ((try simp only [World.size_alloc, World.size_setCell, World.size_drew]) <;> omega))))
    · cases hb : inB b 0 255
      · have HP := Lib.hid hp
        have HB := Lib.hid hb
        have HV := Lib.hid (show (pv p t r && inB b 0 255) = false by rw [hp, hb]; rfl)
        clear hp hb
        go_wp2_with fail
        refine (ipr_c _ _ _ _ false HV.out _).mono ?_
        rintro e w2 ⟨rfl, hO_w2⟩
        have hz_w2 := hO_w2.size
        (try simp only [World.size_alloc, World.size_setCell, World.size_drew] at hz_w2)
        have hs_w2_0 : w1.heap.size < w2.heap.size := (by omega)
        have c_w2_0 := fun o => (bcell hO_w2).1 (w1.heap.size) o (by (try simp only [World.size_alloc, World.size_setCell, World.size_drew]) <;> omega)
        have f_w2_0 := fun o => (bcell hO_w2).2 (w1.heap.size) o (by (try simp only [World.size_alloc, World.size_setCell, World.size_drew]) <;> omega)
        go_wp2_with fail
        refine wp_region_over (by kernel_rfl) (by kernel_rfl) ?_
        intro w3 hO_w3
        have hz_w3 := hO_w3.size
        (try simp only [World.size_alloc, World.size_setCell, World.size_drew] at hz_w3)
        have hs_w3_0 : w1.heap.size < w3.heap.size := (by omega)
        have c_w3_0 := fun o => (bcell hO_w3).1 (w1.heap.size) o (by (try simp only [World.size_alloc, World.size_setCell, World.size_drew]) <;> omega)
        have f_w3_0 := fun o => (bcell hO_w3).2 (w1.heap.size) o (by (try simp only [World.size_alloc, World.size_setCell, World.size_drew]) <;> omega)
        have hs_w3_1 : w2.heap.size < w3.heap.size := (by omega)
        have c_w3_1 := fun o => (bcell hO_w3).1 (w2.heap.size) o (by (try simp only [World.size_alloc, World.size_setCell, World.size_drew]) <;> omega)
        have f_w3_1 := fun o => (bcell hO_w3).2 (w2.heap.size) o (by (try simp only [World.size_alloc, World.size_setCell, World.size_drew]) <;> omega)
        have v_w3_0 := fun x o => over_cell w3 x (w1.heap.size) o hs_w3_0
        have v_w3_1 := fun x o => over_cell w3 x (w2.heap.size) o hs_w3_1
        repeat (go_big_quiet_step ((go_at_call 22; refine Calls.over_of (spr_c _ _ _ _ false HV.out _))))
        refine wpQuiet_nil ?_
        intro w4 hx_w4
        obtain ⟨x_w4, hx_w4⟩ := hx_w4
        have hO_w4 : Below w3.heap.size w3 w4 := hx_w4 ▸ over_below w3 x_w4
        clear hx_w4
        have hz_w4 := hO_w4.size
        have hs_w4_0 : w1.heap.size < w4.heap.size := (by omega)
        have c_w4_0 := fun o => (bcell hO_w4).1 (w1.heap.size) o (by (try simp only [World.size_alloc, World.size_setCell, World.size_drew]) <;> omega)
        have f_w4_0 := fun o => (bcell hO_w4).2 (w1.heap.size) o (by (try simp only [World.size_alloc, World.size_setCell, World.size_drew]) <;> omega)
        have hs_w4_1 : w2.heap.size < w4.heap.size := (by omega)
        have c_w4_1 := fun o => (bcell hO_w4).1 (w2.heap.size) o (by (try simp only [World.size_alloc, World.size_setCell, World.size_drew]) <;> omega)
        have f_w4_1 := fun o => (bcell hO_w4).2 (w2.heap.size) o (by (try simp only [World.size_alloc, World.size_setCell, World.size_drew]) <;> omega)
        go_wp2_with fail
        refine (spv_c _ _ _ _ HP.out _).mono ?_
        rintro e w5 ⟨rfl, hO_w5⟩
        have hz_w5 := hO_w5.size
        (try simp only [World.size_alloc, World.size_setCell, World.size_drew] at hz_w5)
        have hs_w5_0 : w1.heap.size < w5.heap.size := (by omega)
        have c_w5_0 := fun o => (bcell hO_w5).1 (w1.heap.size) o (by (try simp only [World.size_alloc, World.size_setCell, World.size_drew]) <;> omega)
        have f_w5_0 := fun o => (bcell hO_w5).2 (w1.heap.size) o (by (try simp only [World.size_alloc, World.size_setCell, World.size_drew]) <;> omega)
        have hs_w5_1 : w2.heap.size < w5.heap.size := (by omega)
        have c_w5_1 := fun o => (bcell hO_w5).1 (w2.heap.size) o (by (try simp only [World.size_alloc, World.size_setCell, World.size_drew]) <;> omega)
        have f_w5_1 := fun o => (bcell hO_w5).2 (w2.heap.size) o (by (try simp only [World.size_alloc, World.size_setCell, World.size_drew]) <;> omega)
        go_wp2_with (first | (go_at_call 27; (with_reducible refine (lawByte_c b _ HB.out _).mono ?_); rintro e w1 ⟨rfl, rfl⟩) | (go_at_call 28; refine (alive_c _).mono ?_; rintro e w' ⟨rfl, rfl⟩))
        go_ret
        refine ⟨rfl, ?_⟩
        (repeat (first | with_reducible exact Below.refl _ _ | ((with_reducible refine viaO (by assumption) ?_ ?_ ?_) <;> try ((try simp only [World.size_alloc, World.size_setCell, World.size_drew]) <;> omega)) | ((with_reducible refine Below.alloc ?_ ?_ _) <;> try ((try simp only [World.size_alloc, World.size_setCell, World.size_drew]) <;> omega)) | ((with_reducible refine Below.setCell ?_ ?_ _) <;> try ((try simp only [World.size_alloc, World.size_setCell, World.size_drew]) <;> omega)) | (with_reducible refine below_drewN ?_ _) | (with_reducible refine Below.drew ?_) | ((with_reducible refine via (by assumption) ?_ ?_) <;> try ((try simp only [World.size_alloc, World.size_setCell, World.size_drew]) <;> omega))))
      · have HP := Lib.hid hp
        have HB := Lib.hid hb
        have HV := Lib.hid (show (pv p t r && inB b 0 255) = true by rw [hp, hb]; rfl)
        obtain ⟨p0, p1, t0, t1, r0, r1⟩ := pv_true hp
        obtain ⟨b0, b1⟩ := inB_true.1 hb
        have HW := Lib.hid (show (pv b t r && inB b 0 255) = true by rw [pv_mk ⟨b0, b1, t0, t1, r0, r1⟩, hb]; rfl)
        clear hp hb p0 p1 t0 t1 r0 r1 b0 b1
        go_wp2_with fail
        refine (ipr_c _ _ _ _ true HV.out _).mono ?_
        rintro e w2 ⟨rfl, hO_w2⟩
        have hz_w2 := hO_w2.size
        (try simp only [World.size_alloc, World.size_setCell, World.size_drew] at hz_w2)
        have hs_w2_0 : w1.heap.size < w2.heap.size := (by omega)
        have c_w2_0 := fun o => (bcell hO_w2).1 (w1.heap.size) o (by (try simp only [World.size_alloc, World.size_setCell, World.size_drew]) <;> omega)
        have f_w2_0 := fun o => (bcell hO_w2).2 (w1.heap.size) o (by (try simp only [World.size_alloc, World.size_setCell, World.size_drew]) <;> omega)
        go_wp2_with fail
        refine wp_region_over (by kernel_rfl) (by kernel_rfl) ?_
        intro w3 hO_w3
        have hz_w3 := hO_w3.size
        (try simp only [World.size_alloc, World.size_setCell, World.size_drew] at hz_w3)
        have hs_w3_0 : w1.heap.size < w3.heap.size := (by omega)
        have c_w3_0 := fun o => (bcell hO_w3).1 (w1.heap.size) o (by (try simp only [World.size_alloc, World.size_setCell, World.size_drew]) <;> omega)
        have f_w3_0 := fun o => (bcell hO_w3).2 (w1.heap.size) o (by (try simp only [World.size_alloc, World.size_setCell, World.size_drew]) <;> omega)
        have hs_w3_1 : w2.heap.size < w3.heap.size := (by omega)
        have c_w3_1 := fun o => (bcell hO_w3).1 (w2.heap.size) o (by (try simp only [World.size_alloc, World.size_setCell, World.size_drew]) <;> omega)
        have f_w3_1 := fun o => (bcell hO_w3).2 (w2.heap.size) o (by (try simp only [World.size_alloc, World.size_setCell, World.size_drew]) <;> omega)
        have v_w3_0 := fun x o => over_cell w3 x (w1.heap.size) o hs_w3_0
        have v_w3_1 := fun x o => over_cell w3 x (w2.heap.size) o hs_w3_1
        repeat (go_big_quiet_step ((go_at_call 22; refine Calls.over_of (spr_c _ _ _ _ true HV.out _))))
        refine wpQuiet_nil ?_
        intro w4 hx_w4
        obtain ⟨x_w4, hx_w4⟩ := hx_w4
        have hO_w4 : Below w3.heap.size w3 w4 := hx_w4 ▸ over_below w3 x_w4
        clear hx_w4
        have hz_w4 := hO_w4.size
        have hs_w4_0 : w1.heap.size < w4.heap.size := (by omega)
        have c_w4_0 := fun o => (bcell hO_w4).1 (w1.heap.size) o (by (try simp only [World.size_alloc, World.size_setCell, World.size_drew]) <;> omega)
        have f_w4_0 := fun o => (bcell hO_w4).2 (w1.heap.size) o (by (try simp only [World.size_alloc, World.size_setCell, World.size_drew]) <;> omega)
        have hs_w4_1 : w2.heap.size < w4.heap.size := (by omega)
        have c_w4_1 := fun o => (bcell hO_w4).1 (w2.heap.size) o (by (try simp only [World.size_alloc, World.size_setCell, World.size_drew]) <;> omega)
        have f_w4_1 := fun o => (bcell hO_w4).2 (w2.heap.size) o (by (try simp only [World.size_alloc, World.size_setCell, World.size_drew]) <;> omega)
        go_wp2_with fail
        refine (spv_c _ _ _ _ HP.out _).mono ?_
        rintro e w5 ⟨rfl, hO_w5⟩
        have hz_w5 := hO_w5.size
        (try simp only [World.size_alloc, World.size_setCell, World.size_drew] at hz_w5)
        have hs_w5_0 : w1.heap.size < w5.heap.size := (by omega)
        have c_w5_0 := fun o => (bcell hO_w5).1 (w1.heap.size) o (by (try simp only [World.size_alloc, World.size_setCell, World.size_drew]) <;> omega)
        have f_w5_0 := fun o => (bcell hO_w5).2 (w1.heap.size) o (by (try simp only [World.size_alloc, World.size_setCell, World.size_drew]) <;> omega)
        have hs_w5_1 : w2.heap.size < w5.heap.size := (by omega)
        have c_w5_1 := fun o => (bcell hO_w5).1 (w2.heap.size) o (by (try simp only [World.size_alloc, World.size_setCell, World.size_drew]) <;> omega)
        have f_w5_1 := fun o => (bcell hO_w5).2 (w2.heap.size) o (by (try simp only [World.size_alloc, World.size_setCell, World.size_drew]) <;> omega)
        go_wp2_with (go_at_call 27; (with_reducible refine (lawByte_c b _ HB.out _).mono ?_); rintro e w1 ⟨rfl, rfl⟩)
        refine wp_region_over (by kernel_rfl) (by kernel_rfl) ?_
        intro w6 hO_w6
        have hz_w6 := hO_w6.size
        (try simp only [World.size_alloc, World.size_setCell, World.size_drew] at hz_w6)
        have hs_w6_0 : w1.heap.size < w6.heap.size := (by omega)
        have c_w6_0 := fun o => (bcell hO_w6).1 (w1.heap.size) o (by (try simp only [World.size_alloc, World.size_setCell, World.size_drew]) <;> omega)
        have f_w6_0 := fun o => (bcell hO_w6).2 (w1.heap.size) o (by (try simp only [World.size_alloc, World.size_setCell, World.size_drew]) <;> omega)
        have hs_w6_1 : w2.heap.size < w6.heap.size := (by omega)
        have c_w6_1 := fun o => (bcell hO_w6).1 (w2.heap.size) o (by (try simp only [World.size_alloc, World.size_setCell, World.size_drew]) <;> omega)
        have f_w6_1 := fun o => (bcell hO_w6).2 (w2.heap.size) o (by (try simp only [World.size_alloc, World.size_setCell, World.size_drew]) <;> omega)
        have v_w6_0 := fun x o => over_cell w6 x (w1.heap.size) o hs_w6_0
        have v_w6_1 := fun x o => over_cell w6 x (w2.heap.size) o hs_w6_1
        repeat (go_big_quiet_step ((go_at_call 23; refine Calls.over_of (ipr_c _ _ _ _ true HW.out _))))
        refine wpQuiet_nil ?_
        intro w7 hx_w7
        obtain ⟨x_w7, hx_w7⟩ := hx_w7
        have hO_w7 : Below w6.heap.size w6 w7 := hx_w7 ▸ over_below w6 x_w7
        clear hx_w7
        have hz_w7 := hO_w7.size
        have hs_w7_0 : w1.heap.size < w7.heap.size := (by omega)
        have c_w7_0 := fun o => (bcell hO_w7).1 (w1.heap.size) o (by (try simp only [World.size_alloc, World.size_setCell, World.size_drew]) <;> omega)
        have f_w7_0 := fun o => (bcell hO_w7).2 (w1.heap.size) o (by (try simp only [World.size_alloc, World.size_setCell, World.size_drew]) <;> omega)
        have hs_w7_1 : w2.heap.size < w7.heap.size := (by omega)
        have c_w7_1 := fun o => (bcell hO_w7).1 (w2.heap.size) o (by (try simp only [World.size_alloc, World.size_setCell, World.size_drew]) <;> omega)
        have f_w7_1 := fun o => (bcell hO_w7).2 (w2.heap.size) o (by (try simp only [World.size_alloc, World.size_setCell, World.size_drew]) <;> omega)
        go_wp2
        go_ret
        refine ⟨rfl, ?_⟩
        (repeat (first | with_reducible exact Below.refl _ _ | ((with_reducible refine viaO (by assumption) ?_ ?_ ?_) <;> try ((try simp only [World.size_alloc, World.size_setCell, World.size_drew]) <;> omega)) | ((with_reducible refine Below.alloc ?_ ?_ _) <;> try ((try simp only [World.size_alloc, World.size_setCell, World.size_drew]) <;> omega)) | ((with_reducible refine Below.setCell ?_ ?_ _) <;> try ((try simp only [World.size_alloc, World.size_setCell, World.size_drew]) <;> omega)) | (with_reducible refine below_drewN ?_ _) | (with_reducible refine Below.drew ?_) | ((with_reducible refine via (by assumption) ?_ ?_) <;> try ((try simp only [World.size_alloc, World.size_setCell, World.size_drew]) <;> omega))))

set_option maxRecDepth 100000 in
theorem lifted (os : Os) (started : os.Started) (H : Type) (enc : TypeId × Value → H) :
    ReturnsInHanded {} Try.checked os 11 .any (Rows.fnPressPadSpec.pre6 enc Try.prog Try.f11 Rows.fnPressPadRow.domain false) (Rows.fnPressPadSpec.post enc Try.prog Try.f11 false true false false) := by
  refine returnsInHanded_of_change (C := Try.checked) own started (by kernel_rfl) Try.func11
    (ChangeSpec.witness6 (enc := enc) (C := Try.checked) false ⟨#[], #[.slice none 0 0], []⟩ 8 (by kernel_rfl) (by kernel_rfl) (by kernel_rfl) (by kernel_rfl)) ?_
  intro W base args ds gs before hval0 hW hcnd _
  have hval : ∀ (j : Nat) t v, Try.f11.params[j]? = some t → args[j]? = some v → Value.okWide Try.prog W .any base t v := hval0
  have hW' := hW
  obtain ⟨p, q, hA0, hV, rfl, hfz, hnd⟩ := hW
  have hA : DataW.TrodAll enc Try.prog W 0 (fun _ => true) true Try.f11.params.toList args.toList ds p := hA0
  rw [Try.params11] at hA hval
  obtain ⟨v0, vs0, d0, ds0, p0, q0, hargs, rfl, rfl, h0, r0⟩ := trodAll_cons hA
  obtain ⟨rfl, rfl, rfl⟩ := trodAll_nil r0
  obtain rfl : args = #[v0] := by cases args; simp_all
  obtain ⟨rfl, rfl⟩ := trodVars_none hV
  have lt0 : ∀ x ∈ p0, x.block < W.heap.size := by obtain ⟨m, hm⟩ := h0; exact DataW.trod_lt m _ _ _ hm
  have a0 := codeArg (hval 0 36 v0 rfl rfl) h0
  clear hA0 hval0
  refine (walk v0 W a0).mono fun e W' ⟨he, bel⟩ => ?_
  subst he
  exact ⟨_, rfl, _, _, _, [], _, [], hW', trodAll_mk1 (shut_bool Try.underlying4 _), (trodAll_cons_mk (Below.trod laidOut (by kernel_rfl) (of_decide_eq_true (by kernel_rfl)) h0 bel lt0) trodAll_mk0), rfl, bel.frame _, fun h => by cases h⟩

theorem proved : Rows.FnPressPadSaid :=
  OpenClaim.holds_of_wide 11 Try.f11 rfl rfl rfl rfl rfl rfl rfl ⟨rfl, rfl, rfl, rfl, rfl⟩ rfl rfl rfl rfl rfl (by kernel_rfl) Try.func11 (by kernel_rfl)
    (of_decide_eq_true (by kernel_rfl)) (by unfold Func.isWrapper; first | (rw [if_pos (by decide +kernel)]; kernel_rfl) | (rw [if_neg (by decide +kernel)]; exact ⟨rfl, rfl⟩))
    (fun os started H enc _ => lifted os started H enc)
#print axioms proved

end Go.Proofs.Ytgnkoakmgfphmaa.lawFnPressPad
