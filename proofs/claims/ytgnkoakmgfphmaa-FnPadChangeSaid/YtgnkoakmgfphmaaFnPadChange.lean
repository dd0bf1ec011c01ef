/-
  The law FnPadChange holds: the buttons that are pressed now are those that are newly pressed together with those that were pressed before and are still; for every code. No conditions.
-/
import Derived.Test.YtgnkoakmgfphmaaOpen
import Derived.Test.YtgnkoakmgfphmaaPadLaw
import Derived.Test.YtgnkoakmgfphmaaPadDraw
namespace Go.Proofs.Ytgnkoakmgfphmaa.lawFnPadChange
set_option linter.all false
set_option linter.unusedSimpArgs false
set_option linter.unusedVariables false
open Go.ChangeShapes Go.WideShapes Go.ChangeAt Go.RowKit

set_option maxHeartbeats 2000000 in
theorem walk (v0 : Value) (w : World) (h0 : CodeArg w v0) : Calls Try.prog 10 #[v0] w fun e w' => e = .returned (.bool true) ∧ Below w.heap.size w w' := by
  obtain ⟨a, len, cap, rfl, hcode, hl⟩ := h0
  have hm := hcode.1; unfold maxLen at hm
  by_cases hlen : 1048576 < len
  · go_enter Try.func10, Try.ntmps10
    go_wp2
    go_ret
    exact ⟨rfl, Below.refl _ _⟩
  · go_enter Try.func10, Try.ntmps10
    go_wp2_with fail
    refine (drawNewlyPressed_c _ _ _ _ hcode hl).mono ?_
    rintro e w1 ⟨x, y, ⟨hx0, hx1, hy0, hy1, rfl⟩, hO_w1⟩
    have hz_w1 := hO_w1.size
    have z0 : np false x y = 0 := rfl
    have z1 : np true x y = bits .andNot .i64 y x := rfl
    cases hx : inB x 0 255
    · have HX := Lib.hid hx
      have HV := Lib.hid (show (inB x 0 255 && inB y 0 255) = false by rw [hx]; rfl)
      clear hx z1
      go_wp2_with (first | (go_at_call 15; refine (inp_c _ _ false HV.out _).mono ?_; rintro e w1 ⟨rfl, rfl⟩) | (go_at_call 14; refine (snp_c _ _ false HV.out _).mono ?_; rintro e w1 ⟨rfl, rfl⟩) | (go_at_call 27; (with_reducible refine (lawByte_c x _ HX.out _).mono ?_); rintro e w1 ⟨rfl, rfl⟩) | (go_at_call 28; refine (alive_c _).mono ?_; rintro e w' ⟨rfl, rfl⟩))
      go_ret
      refine ⟨rfl, ?_⟩
      (repeat (first | with_reducible exact Below.refl _ _ | ((with_reducible refine viaO (by assumption) ?_ ?_ ?_) <;> try ((try simp only [World.size_alloc, World.size_setCell, World.size_drew]) <;> omega)) | ((with_reducible refine Below.alloc ?_ ?_ _) <;> try ((try simp only [World.size_alloc, World.size_setCell, World.size_drew]) <;> omega)) | ((with_reducible refine Below.setCell ?_ ?_ _) <;> try ((try simp only [World.size_alloc, World.size_setCell, World.size_drew]) <;> omega)) | (with_reducible refine below_drewN ?_ _) | (with_reducible refine Below.drew ?_) | ((with_reducible refine via (by assumption) ?_ ?_) <;> try ((try simp only [World.size_alloc, World.size_setCell, World.size_drew]) <;> omega))))
    · cases hy : inB y 0 255
      · have HX := Lib.hid hx
        have HY := Lib.hid hy
        have HV := Lib.hid (show (inB x 0 255 && inB y 0 255) = false by rw [hx, hy]; rfl)
        clear hx hy z1
        go_wp2_with (first | (go_at_call 15; refine (inp_c _ _ false HV.out _).mono ?_; rintro e w1 ⟨rfl, rfl⟩) | (go_at_call 14; refine (snp_c _ _ false HV.out _).mono ?_; rintro e w1 ⟨rfl, rfl⟩) | (go_at_call 27; (with_reducible refine (lawByte_c x _ HX.out _).mono ?_); rintro e w1 ⟨rfl, rfl⟩) | (go_at_call 27; (with_reducible refine (lawByte_c y _ HY.out _).mono ?_); rintro e w1 ⟨rfl, rfl⟩) | (go_at_call 28; refine (alive_c _).mono ?_; rintro e w' ⟨rfl, rfl⟩))
        go_ret
        refine ⟨rfl, ?_⟩
        (repeat (first | with_reducible exact Below.refl _ _ | ((with_reducible refine viaO (by assumption) ?_ ?_ ?_) <;> try ((try simp only [World.size_alloc, World.size_setCell, World.size_drew]) <;> omega)) | ((with_reducible refine Below.alloc ?_ ?_ _) <;> try ((try simp only [World.size_alloc, World.size_setCell, World.size_drew]) <;> omega)) | ((with_reducible refine Below.setCell ?_ ?_ _) <;> try ((try simp only [World.size_alloc, World.size_setCell, World.size_drew]) <;> omega)) | (with_reducible refine below_drewN ?_ _) | (with_reducible refine Below.drew ?_) | ((with_reducible refine via (by assumption) ?_ ?_) <;> try ((try simp only [World.size_alloc, World.size_setCell, World.size_drew]) <;> omega))))
      · have HX := Lib.hid hx
        have HY := Lib.hid hy
        have HV := Lib.hid (show (inB x 0 255 && inB y 0 255) = true by rw [hx, hy]; rfl)
        obtain ⟨x0, x1⟩ := inB_true.1 hx
        obtain ⟨y0, y1⟩ := inB_true.1 hy
        have l4 := law4 x y y0 y1
        obtain ⟨⟨n0, n1⟩, ⟨m0, m1⟩, hs⟩ := count_split x y x0 x1 y0 y1
        clear hx hy z0
        generalize bits .andNot .i64 y x = n at *
        generalize hmm : bits .and .i64 x y = m at *
        have c1 := ones_le n.toNat (by omega)
        have c2 := ones_le m.toNat (by omega)
        have HN := Lib.hid (countOnes_c n n0 n1)
        have HM := Lib.hid (countOnes_c m m0 m1)
        have HB := Lib.hid (countOnes_c y y0 y1)
        generalize Lib.onesCount n.toNat = cn at *
        generalize Lib.onesCount m.toNat = cm at *
        generalize Lib.onesCount y.toNat = cy at *
        go_wp2_with (first | (go_at_call 15; (with_reducible refine (inp_c x y true HV.out _).mono ?_); rintro e w1 ⟨rfl, rfl⟩) | (go_at_call 14; (with_reducible refine (snp_c x y true HV.out _).mono ?_); rintro e w1 ⟨rfl, rfl⟩) | (go_at_call 30; (with_reducible refine (HN.out _).mono ?_); rintro e w1 ⟨rfl, rfl⟩) | (go_at_call 30; (with_reducible refine (HM.out _).mono ?_); rintro e w1 ⟨rfl, rfl⟩) | (go_at_call 30; (with_reducible refine (HB.out _).mono ?_); rintro e w1 ⟨rfl, rfl⟩) | (go_at_call 27; (with_reducible refine (lawByte_c x _ HX.out _).mono ?_); rintro e w1 ⟨rfl, rfl⟩) | (go_at_call 27; (with_reducible refine (lawByte_c y _ HY.out _).mono ?_); rintro e w1 ⟨rfl, rfl⟩))
        go_ret
        refine ⟨rfl, ?_⟩
        (repeat (first | with_reducible exact Below.refl _ _ | ((with_reducible refine viaO (by assumption) ?_ ?_ ?_) <;> try ((try simp only [World.size_alloc, World.size_setCell, World.size_drew]) <;> omega)) | ((with_reducible refine Below.alloc ?_ ?_ _) <;> try ((try simp only [World.size_alloc, World.size_setCell, World.size_drew]) <;> omega)) | ((with_reducible refine Below.setCell ?_ ?_ _) <;> try ((try simp only [World.size_alloc, World.size_setCell, World.size_drew]) <;> omega)) | (with_reducible refine below_drewN ?_ _) | (with_reducible refine Below.drew ?_) | ((with_reducible refine via (by assumption) ?_ ?_) <;> try ((try simp only [World.size_alloc, World.size_setCell, World.size_drew]) <;> omega))))

set_option maxRecDepth 100000 in
theorem lifted (os : Os) (started : os.Started) (H : Type) (enc : TypeId × Value → H) :
    ReturnsInHanded {} Try.checked os 10 .any (Rows.fnPadChangeSpec.pre6 enc Try.prog Try.f10 Rows.fnPadChangeRow.domain false) (Rows.fnPadChangeSpec.post enc Try.prog Try.f10 false true false false) := by
  refine returnsInHanded_of_change (C := Try.checked) own started (by kernel_rfl) Try.func10
    (ChangeSpec.witness6 (enc := enc) (C := Try.checked) false ⟨#[], #[.slice none 0 0], []⟩ 8 (by kernel_rfl) (by kernel_rfl) (by kernel_rfl) (by kernel_rfl)) ?_
  intro W base args ds gs before hval0 hW hcnd _
  have hval : ∀ (j : Nat) t v, Try.f10.params[j]? = some t → args[j]? = some v → Value.okWide Try.prog W .any base t v := hval0
  have hW' := hW
  obtain ⟨p, q, hA0, hV, rfl, hfz, hnd⟩ := hW
  have hA : DataW.TrodAll enc Try.prog W 0 (fun _ => true) true Try.f10.params.toList args.toList ds p := hA0
  rw [Try.params10] at hA hval
  obtain ⟨v0, vs0, d0, ds0, p0, q0, hargs, rfl, rfl, h0, r0⟩ := trodAll_cons hA
  obtain ⟨rfl, rfl, rfl⟩ := trodAll_nil r0
  obtain rfl : args = #[v0] := by cases args; simp_all
  obtain ⟨rfl, rfl⟩ := trodVars_none hV
  have lt0 : ∀ x ∈ p0, x.block < W.heap.size := by obtain ⟨m, hm⟩ := h0; exact DataW.trod_lt m _ _ _ hm
  have a0 := codeArg (hval 0 36 v0 rfl rfl) h0
  clear hA0 hval0
  refine (walk v0 W a0).mono fun e W' ⟨he, bel⟩ => ?_
  subst he
  exact ⟨_, rfl, _, _, _, [], _, [], hW', trodAll_mk1 (shut_bool Try.underlying4 _), (trodAll_cons_mk (Below.trod laidOut (by kernel_rfl) (of_decide_eq_true (by kernel_rfl)) h0 bel lt0) trodAll_mk0), rfl, bel.frame _, fun h => by cases h⟩

theorem proved : Rows.FnPadChangeSaid :=
  OpenClaim.holds_of_wide 10 Try.f10 rfl rfl rfl rfl rfl rfl rfl ⟨rfl, rfl, rfl, rfl, rfl⟩ rfl rfl rfl rfl rfl (by kernel_rfl) Try.func10 (by kernel_rfl)
    (of_decide_eq_true (by kernel_rfl)) (by unfold Func.isWrapper; first | (rw [if_pos (by decide +kernel)]; kernel_rfl) | (rw [if_neg (by decide +kernel)]; exact ⟨rfl, rfl⟩))
    (fun os started H enc _ => lifted os started H enc)
#print axioms proved

end Go.Proofs.Ytgnkoakmgfphmaa.lawFnPadChange
