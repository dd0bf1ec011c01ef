/-
  The law FnNewlyPressed holds: new buttons are pressed and were not; for every code. No conditions.
-/
import Derived.Test.YtgnkoakmgfphmaaOpen
import Derived.Test.YtgnkoakmgfphmaaPadLaw
import Derived.Test.YtgnkoakmgfphmaaPadDraw
namespace Go.Proofs.Ytgnkoakmgfphmaa.lawFnNewlyPressed
set_option linter.all false
set_option linter.unusedSimpArgs false
set_option linter.unusedVariables false
open Go.ChangeShapes Go.WideShapes Go.ChangeAt Go.RowKit

theorem zeroNew (y : Int) (hy : inB y 0 255 = true) (y0 : 0 ≤ y) (y1 : y ≤ 255) : ∀ w : World, Calls Try.prog 15 #[.int .i64 0, .int .i64 y] w fun e w' => e = .returned (.int .i64 y) ∧ w = w' := fun w => by
  have := inp_c 0 y true (by rw [hy]; decide) w
  rwa [show np true 0 y = y from law5 y y0 y1] at this
theorem sameNew (x : Int) (hx : inB x 0 255 = true) : ∀ w : World, Calls Try.prog 15 #[.int .i64 x, .int .i64 x] w fun e w' => e = .returned (.int .i64 0) ∧ w = w' := fun w => by
  have := inp_c x x true (by rw [hx]; rfl) w
  rwa [show np true x x = 0 from law6 x] at this

set_option maxHeartbeats 2000000 in
theorem walk (v0 : Value) (w : World) (h0 : CodeArg w v0) : Calls Try.prog 8 #[v0] w fun e w' => e = .returned (.bool true) ∧ Below w.heap.size w w' := by
  obtain ⟨a, len, cap, rfl, hcode, hl⟩ := h0
  have hm := hcode.1; unfold maxLen at hm
  by_cases hlen : 1048576 < len
  · go_enter Try.func8, Try.ntmps8
    go_wp2
    go_ret
    exact ⟨rfl, Below.refl _ _⟩
  · go_enter Try.func8, Try.ntmps8
    go_wp2_with fail
    refine (drawNewlyPressed_c _ _ _ _ hcode hl).mono ?_
    rintro e w1 ⟨x, y, ⟨hx0, hx1, hy0, hy1, rfl⟩, hO_w1⟩
    have hz_w1 := hO_w1.size
    have z0 : np false x y = 0 := rfl
    have z1 : np true x y = bits .andNot .i64 y x := rfl
    cases hx : inB x 0 255
    · have HX := Lib.hid hx
      have HV := Lib.hid (show (inB x 0 255 && inB y 0 255) = false by rw [hx]; rfl)
      clear hx z1
      go_wp2_with (first | (go_at_call 15; refine (inp_c _ _ false HV.out _).mono ?_; rintro e w1 ⟨rfl, rfl⟩) | (go_at_call 14; refine (snp_c _ _ false HV.out _).mono ?_; rintro e w1 ⟨rfl, rfl⟩) | (go_at_call 27; (with_reducible refine (lawByte_c x _ HX.out _).mono ?_); rintro e w1 ⟨rfl, rfl⟩) | (go_at_call 28; refine (alive_c _).mono ?_; rintro e w' ⟨rfl, rfl⟩))
      go_ret
      refine ⟨rfl, ?_⟩
      (repeat (first | with_reducible exact Below.refl _ _ | ((with_reducible refine viaO (by assumption) ?_ ?_ ?_) <;> try ((try simp only [World.size_alloc, World.size_setCell, World.size_drew]) <;> omega)) | ((with_reducible refine Below.alloc ?_ ?_ _) <;> try ((try simp only [World.size_alloc, World.size_setCell, World.size_drew]) <;> omega)) | ((with_reducible refine Below.setCell ?_ ?_ _) <;> try ((try simp only [World.size_alloc, World.size_setCell, World.size_drew]) <;> omega)) | (with_reducible refine below_drewN ?_ _) | (with_reducible refine Below.drew ?_) | ((with_reducible refine via (by assumption) ?_ ?_) <;> try ((try simp only [World.size_alloc, World.size_setCell, World.size_drew]) <;> omega))))
    · cases hy : inB y 0 255
      · have HX := Lib.hid hx
        have HY := Lib.hid hy
        have HV := Lib.hid (show (inB x 0 255 && inB y 0 255) = false by rw [hx, hy]; rfl)
        clear hx hy z1
        go_wp2_with (first | (go_at_call 15; refine (inp_c _ _ false HV.out _).mono ?_; rintro e w1 ⟨rfl, rfl⟩) | (go_at_call 14; refine (snp_c _ _ false HV.out _).mono ?_; rintro e w1 ⟨rfl, rfl⟩) | (go_at_call 27; (with_reducible refine (lawByte_c x _ HX.out _).mono ?_); rintro e w1 ⟨rfl, rfl⟩) | (go_at_call 27; (with_reducible refine (lawByte_c y _ HY.out _).mono ?_); rintro e w1 ⟨rfl, rfl⟩) | (go_at_call 28; refine (alive_c _).mono ?_; rintro e w' ⟨rfl, rfl⟩))
        go_ret
        refine ⟨rfl, ?_⟩
        (repeat (first | with_reducible exact Below.refl _ _ | ((with_reducible refine viaO (by assumption) ?_ ?_ ?_) <;> try ((try simp only [World.size_alloc, World.size_setCell, World.size_drew]) <;> omega)) | ((with_reducible refine Below.alloc ?_ ?_ _) <;> try ((try simp only [World.size_alloc, World.size_setCell, World.size_drew]) <;> omega)) | ((with_reducible refine Below.setCell ?_ ?_ _) <;> try ((try simp only [World.size_alloc, World.size_setCell, World.size_drew]) <;> omega)) | (with_reducible refine below_drewN ?_ _) | (with_reducible refine Below.drew ?_) | ((with_reducible refine via (by assumption) ?_ ?_) <;> try ((try simp only [World.size_alloc, World.size_setCell, World.size_drew]) <;> omega))))
      · have HX := Lib.hid hx
        have HY := Lib.hid hy
        have HV := Lib.hid (show (inB x 0 255 && inB y 0 255) = true by rw [hx, hy]; rfl)
        obtain ⟨x0, x1⟩ := inB_true.1 hx
        obtain ⟨y0, y1⟩ := inB_true.1 hy
        have l1 := law1 x y
        have l2 := law2 x y
        have l3 := law3 x y y0 y1
        have HZ := Lib.hid (zeroNew y hy y0 y1)
        have HS := Lib.hid (sameNew x hx)
        clear hx hy z0
        generalize bits .andNot .i64 y x = n at *
        go_wp2_with (first | (go_at_call 15; (with_reducible refine (inp_c x y true HV.out _).mono ?_); rintro e w1 ⟨rfl, rfl⟩) | (go_at_call 14; (with_reducible refine (snp_c x y true HV.out _).mono ?_); rintro e w1 ⟨rfl, rfl⟩) | (go_at_call 15; (with_reducible refine (HZ.out _).mono ?_); rintro e w1 ⟨rfl, rfl⟩) | (go_at_call 15; (with_reducible refine (HS.out _).mono ?_); rintro e w1 ⟨rfl, rfl⟩) | (go_at_call 27; (with_reducible refine (lawByte_c x _ HX.out _).mono ?_); rintro e w1 ⟨rfl, rfl⟩) | (go_at_call 27; (with_reducible refine (lawByte_c y _ HY.out _).mono ?_); rintro e w1 ⟨rfl, rfl⟩) | (go_at_call 28; refine (alive_c _).mono ?_; rintro e w' ⟨rfl, rfl⟩))
        go_ret
        refine ⟨rfl, ?_⟩
        (repeat (first | with_reducible exact Below.refl _ _ | ((with_reducible refine viaO (by assumption) ?_ ?_ ?_) <;> try ((try simp only [World.size_alloc, World.size_setCell, World.size_drew]) <;> omega)) | ((with_reducible refine Below.alloc ?_ ?_ _) <;> try ((try simp only [World.size_alloc, World.size_setCell, World.size_drew]) <;> omega)) | ((with_reducible refine Below.setCell ?_ ?_ _) <;> try ((try simp only [World.size_alloc, World.size_setCell, World.size_drew]) <;> omega)) | (with_reducible refine below_drewN ?_ _) | (with_reducible refine Below.drew ?_) | ((with_reducible refine via (by assumption) ?_ ?_) <;> try ((try simp only [World.size_alloc, World.size_setCell, World.size_drew]) <;> omega))))

set_option maxRecDepth 100000 in
theorem lifted (os : Os) (started : os.Started) (H : Type) (enc : TypeId × Value → H) :
    ReturnsInHanded {} Try.checked os 8 .any (Rows.fnNewlyPressedSpec.pre6 enc Try.prog Try.f8 Rows.fnNewlyPressedRow.domain false) (Rows.fnNewlyPressedSpec.post enc Try.prog Try.f8 false true false false) := by
  refine returnsInHanded_of_change (C := Try.checked) own started (by kernel_rfl) Try.func8
    (ChangeSpec.witness6 (enc := enc) (C := Try.checked) false ⟨#[], #[.slice none 0 0], []⟩ 8 (by kernel_rfl) (by kernel_rfl) (by kernel_rfl) (by kernel_rfl)) ?_
  intro W base args ds gs before hval0 hW hcnd _
  have hval : ∀ (j : Nat) t v, Try.f8.params[j]? = some t → args[j]? = some v → Value.okWide Try.prog W .any base t v := hval0
  have hW' := hW
  obtain ⟨p, q, hA0, hV, rfl, hfz, hnd⟩ := hW
  have hA : DataW.TrodAll enc Try.prog W 0 (fun _ => true) true Try.f8.params.toList args.toList ds p := hA0
  rw [Try.params8] at hA hval
  obtain ⟨v0, vs0, d0, ds0, p0, q0, hargs, rfl, rfl, h0, r0⟩ := trodAll_cons hA
  obtain ⟨rfl, rfl, rfl⟩ := trodAll_nil r0
  obtain rfl : args = #[v0] := by cases args; simp_all
  obtain ⟨rfl, rfl⟩ := trodVars_none hV
  have lt0 : ∀ x ∈ p0, x.block < W.heap.size := by obtain ⟨m, hm⟩ := h0; exact DataW.trod_lt m _ _ _ hm
  have a0 := codeArg (hval 0 36 v0 rfl rfl) h0
  clear hA0 hval0
  refine (walk v0 W a0).mono fun e W' ⟨he, bel⟩ => ?_
  subst he
  exact ⟨_, rfl, _, _, _, [], _, [], hW', trodAll_mk1 (shut_bool Try.underlying4 _), (trodAll_cons_mk (Below.trod laidOut (by kernel_rfl) (of_decide_eq_true (by kernel_rfl)) h0 bel lt0) trodAll_mk0), rfl, bel.frame _, fun h => by cases h⟩

theorem proved : Rows.FnNewlyPressedSaid :=
  OpenClaim.holds_of_wide 8 Try.f8 rfl rfl rfl rfl rfl rfl rfl ⟨rfl, rfl, rfl, rfl, rfl⟩ rfl rfl rfl rfl rfl (by kernel_rfl) Try.func8 (by kernel_rfl)
    (of_decide_eq_true (by kernel_rfl)) (by unfold Func.isWrapper; first | (rw [if_pos (by decide +kernel)]; kernel_rfl) | (rw [if_neg (by decide +kernel)]; exact ⟨rfl, rfl⟩))
    (fun os started H enc _ => lifted os started H enc)
#print axioms proved

end Go.Proofs.Ytgnkoakmgfphmaa.lawFnNewlyPressed
