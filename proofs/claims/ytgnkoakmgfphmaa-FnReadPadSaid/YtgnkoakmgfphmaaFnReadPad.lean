/-
  The law FnReadPad holds: reading proceeds: Read grows by 1 up to 8, the buttons do not change, the read value is 0 or 1; for every code. No conditions.
-/
import Derived.Test.YtgnkoakmgfphmaaOpen
import Derived.Test.YtgnkoakmgfphmaaPad
import Derived.Test.YtgnkoakmgfphmaaPadDraw
namespace Go.Proofs.Ytgnkoakmgfphmaa.lawFnReadPad
set_option linter.all false
set_option linter.unusedSimpArgs false
set_option linter.unusedVariables false
open Go.ChangeShapes Go.WideShapes Go.ChangeAt Go.RowKit

set_option maxHeartbeats 2000000 in
theorem walk (v0 : Value) (w : World) (h0 : CodeArg w v0) : Calls Try.prog 12 #[v0] w fun e w' => e = .returned (.bool true) ∧ Below w.heap.size w w' := by
  obtain ⟨a, len, cap, rfl, hcode, hl⟩ := h0
  have hm := hcode.1; unfold maxLen at hm
  by_cases hlen : 1048576 < len
  · go_enter Try.func12, Try.ntmps12
    go_wp2
    go_ret
    exact ⟨rfl, Below.refl _ _⟩
  · go_enter Try.func12, Try.ntmps12
    go_wp2_with fail
    refine (drawReadPad_c _ _ _ _ hcode hl).mono ?_
    rintro e w1 ⟨p, t, r, rfl, hO_w1⟩
    have hz_w1 := hO_w1.size
    cases hv : pv p t r
    · have HV := Lib.hid hv
      clear hv
      have z1 : ∀ x, onlyIf false x = 0 := onlyIf_false
      have z2 : nextR false r = 0 := rfl
      have z3 : readB false t r = 0 := rfl
      go_wp2_with fail
      refine (ird_c _ _ _ _ HV.out _).mono ?_
      rintro e w2 ⟨rfl, hO_w2⟩
      have hz_w2 := hO_w2.size
      (try simp only [World.size_alloc, World.size_setCell, World.size_drew] at hz_w2)
      have hs_w2_0 : w1.heap.size < w2.heap.size := (by omega)
      have c_w2_0 := fun o => (bcell hO_w2).1 (w1.heap.size) o (by (try simp only [World.size_alloc, World.size_setCell, World.size_drew]) <;> omega)
      have f_w2_0 := fun o => (bcell hO_w2).2 (w1.heap.size) o (by (try simp only [World.size_alloc, World.size_setCell, World.size_drew]) <;> omega)
      go_wp2_with fail
      refine (srd_c _ _ _ _ HV.out _).mono ?_
      rintro e w3 ⟨rfl, hO_w3⟩
      have hz_w3 := hO_w3.size
      (try simp only [World.size_alloc, World.size_setCell, World.size_drew] at hz_w3)
      have hs_w3_0 : w1.heap.size < w3.heap.size := (by omega)
      have c_w3_0 := fun o => (bcell hO_w3).1 (w1.heap.size) o (by (try simp only [World.size_alloc, World.size_setCell, World.size_drew]) <;> omega)
      have f_w3_0 := fun o => (bcell hO_w3).2 (w1.heap.size) o (by (try simp only [World.size_alloc, World.size_setCell, World.size_drew]) <;> omega)
      have hs_w3_1 : w2.heap.size < w3.heap.size := (by omega)
      have c_w3_1 := fun o => (bcell hO_w3).1 (w2.heap.size) o (by (try simp only [World.size_alloc, World.size_setCell, World.size_drew]) <;> omega)
      have f_w3_1 := fun o => (bcell hO_w3).2 (w2.heap.size) o (by (try simp only [World.size_alloc, World.size_setCell, World.size_drew]) <;> omega)
      go_wp2_with fail
      refine (spv_c _ _ _ _ HV.out _).mono ?_
      rintro e w4 ⟨rfl, hO_w4⟩
      have hz_w4 := hO_w4.size
      (try simp only [World.size_alloc, World.size_setCell, World.size_drew] at hz_w4)
      have hs_w4_0 : w1.heap.size < w4.heap.size := (by omega)
      have c_w4_0 := fun o => (bcell hO_w4).1 (w1.heap.size) o (by (try simp only [World.size_alloc, World.size_setCell, World.size_drew]) <;> omega)
      have f_w4_0 := fun o => (bcell hO_w4).2 (w1.heap.size) o (by (try simp only [World.size_alloc, World.size_setCell, World.size_drew]) <;> omega)
      have hs_w4_1 : w2.heap.size < w4.heap.size := (by omega)
      have c_w4_1 := fun o => (bcell hO_w4).1 (w2.heap.size) o (by (try simp only [World.size_alloc, World.size_setCell, World.size_drew]) <;> omega)
      have f_w4_1 := fun o => (bcell hO_w4).2 (w2.heap.size) o (by (try simp only [World.size_alloc, World.size_setCell, World.size_drew]) <;> omega)
      have hs_w4_2 : w3.heap.size < w4.heap.size := (by omega)
      have c_w4_2 := fun o => (bcell hO_w4).1 (w3.heap.size) o (by (try simp only [World.size_alloc, World.size_setCell, World.size_drew]) <;> omega)
      have f_w4_2 := fun o => (bcell hO_w4).2 (w3.heap.size) o (by (try simp only [World.size_alloc, World.size_setCell, World.size_drew]) <;> omega)
      go_wp2_with (go_at_call 28; refine (alive_c _).mono ?_; rintro e w' ⟨rfl, rfl⟩)
      go_ret
      refine ⟨rfl, ?_⟩
      (repeat (first | with_reducible exact Below.refl _ _ | ((with_reducible refine viaO (by assumption) ?_ ?_ ?_) <;> try ((try simp only [World.size_alloc, World.size_setCell, World.size_drew]) <;> omega)) | ((with_reducible refine Below.alloc ?_ ?_ _) <;> try ((try simp only [World.size_alloc, World.size_setCell, World.size_drew]) <;> omega)) | ((with_reducible refine Below.setCell ?_ ?_ _) <;> try ((try simp only [World.size_alloc, World.size_setCell, World.size_drew]) <;> omega)) | (with_reducible refine below_drewN ?_ _) | (with_reducible refine Below.drew ?_) | ((with_reducible refine via (by assumption) ?_ ?_) <;> try ((try simp only [World.size_alloc, World.size_setCell, World.size_drew]) <;> omega))))
    · have HV := Lib.hid hv
      obtain ⟨p0, p1, t0, t1, r0, r1⟩ := pv_true hv
      clear hv
      by_cases hr : r = 8
      · subst hr
        have z1 : ∀ x, onlyIf true x = x := onlyIf_true
        have z2 : nextR true 8 = 8 := rfl
        have z3 : readB true t 8 = 1 := rfl
        go_wp2_with fail
        refine (ird_c _ _ _ _ HV.out _).mono ?_
        rintro e w2 ⟨rfl, hO_w2⟩
        have hz_w2 := hO_w2.size
        (try simp only [World.size_alloc, World.size_setCell, World.size_drew] at hz_w2)
        have hs_w2_0 : w1.heap.size < w2.heap.size := (by omega)
        have c_w2_0 := fun o => (bcell hO_w2).1 (w1.heap.size) o (by (try simp only [World.size_alloc, World.size_setCell, World.size_drew]) <;> omega)
        have f_w2_0 := fun o => (bcell hO_w2).2 (w1.heap.size) o (by (try simp only [World.size_alloc, World.size_setCell, World.size_drew]) <;> omega)
        go_wp2_with fail
        refine (srd_c _ _ _ _ HV.out _).mono ?_
        rintro e w3 ⟨rfl, hO_w3⟩
        have hz_w3 := hO_w3.size
        (try simp only [World.size_alloc, World.size_setCell, World.size_drew] at hz_w3)
        have hs_w3_0 : w1.heap.size < w3.heap.size := (by omega)
        have c_w3_0 := fun o => (bcell hO_w3).1 (w1.heap.size) o (by (try simp only [World.size_alloc, World.size_setCell, World.size_drew]) <;> omega)
        have f_w3_0 := fun o => (bcell hO_w3).2 (w1.heap.size) o (by (try simp only [World.size_alloc, World.size_setCell, World.size_drew]) <;> omega)
        have hs_w3_1 : w2.heap.size < w3.heap.size := (by omega)
        have c_w3_1 := fun o => (bcell hO_w3).1 (w2.heap.size) o (by (try simp only [World.size_alloc, World.size_setCell, World.size_drew]) <;> omega)
        have f_w3_1 := fun o => (bcell hO_w3).2 (w2.heap.size) o (by (try simp only [World.size_alloc, World.size_setCell, World.size_drew]) <;> omega)
        go_wp2_with fail
        refine (spv_c _ _ _ _ HV.out _).mono ?_
        rintro e w4 ⟨rfl, hO_w4⟩
        have hz_w4 := hO_w4.size
        (try simp only [World.size_alloc, World.size_setCell, World.size_drew] at hz_w4)
        have hs_w4_0 : w1.heap.size < w4.heap.size := (by omega)
        have c_w4_0 := fun o => (bcell hO_w4).1 (w1.heap.size) o (by (try simp only [World.size_alloc, World.size_setCell, World.size_drew]) <;> omega)
        have f_w4_0 := fun o => (bcell hO_w4).2 (w1.heap.size) o (by (try simp only [World.size_alloc, World.size_setCell, World.size_drew]) <;> omega)
        have hs_w4_1 : w2.heap.size < w4.heap.size := (by omega)
        have c_w4_1 := fun o => (bcell hO_w4).1 (w2.heap.size) o (by (try simp only [World.size_alloc, World.size_setCell, World.size_drew]) <;> omega)
        have f_w4_1 := fun o => (bcell hO_w4).2 (w2.heap.size) o (by (try simp only [World.size_alloc, World.size_setCell, World.size_drew]) <;> omega)
        have hs_w4_2 : w3.heap.size < w4.heap.size := (by omega)
        have c_w4_2 := fun o => (bcell hO_w4).1 (w3.heap.size) o (by (try simp only [World.size_alloc, World.size_setCell, World.size_drew]) <;> omega)
        have f_w4_2 := fun o => (bcell hO_w4).2 (w3.heap.size) o (by (try simp only [World.size_alloc, World.size_setCell, World.size_drew]) <;> omega)
        go_wp2
        go_ret
        refine ⟨rfl, ?_⟩
        (repeat (first | with_reducible exact Below.refl _ _ | ((with_reducible refine viaO (by assumption) ?_ ?_ ?_) <;> try ((try simp only [World.size_alloc, World.size_setCell, World.size_drew]) <;> omega)) | ((with_reducible refine Below.alloc ?_ ?_ _) <;> try ((try simp only [World.size_alloc, World.size_setCell, World.size_drew]) <;> omega)) | ((with_reducible refine Below.setCell ?_ ?_ _) <;> try ((try simp only [World.size_alloc, World.size_setCell, World.size_drew]) <;> omega)) | (with_reducible refine below_drewN ?_ _) | (with_reducible refine Below.drew ?_) | ((with_reducible refine via (by assumption) ?_ ?_) <;> try ((try simp only [World.size_alloc, World.size_setCell, World.size_drew]) <;> omega))))
      · have z1 : ∀ x, onlyIf true x = x := onlyIf_true
        have z2 : nextR true r = r + 1 := by simp [nextR, hr]
        have r7 : r < 8 := by omega
        have hx : readB true t r = bitAt t r := by simp [readB, hr]
        rcases bitAt_01 t r with hb | hb
        all_goals
          rw [hb] at hx
          clear hb hr
          go_wp2_with fail
          refine (ird_c _ _ _ _ HV.out _).mono ?_
          rintro e w2 ⟨rfl, hO_w2⟩
          have hz_w2 := hO_w2.size
          (try simp only [World.size_alloc, World.size_setCell, World.size_drew] at hz_w2)
          have hs_w2_0 : w1.heap.size < w2.heap.size := (by omega)
          have c_w2_0 := fun o => (bcell hO_w2).1 (w1.heap.size) o (by (try simp only [World.size_alloc, World.size_setCell, World.size_drew]) <;> omega)
          have f_w2_0 := fun o => (bcell hO_w2).2 (w1.heap.size) o (by (try simp only [World.size_alloc, World.size_setCell, World.size_drew]) <;> omega)
          go_wp2_with fail
          refine (srd_c _ _ _ _ HV.out _).mono ?_
          rintro e w3 ⟨rfl, hO_w3⟩
          have hz_w3 := hO_w3.size
          (try simp only [World.size_alloc, World.size_setCell, World.size_drew] at hz_w3)
          have hs_w3_0 : w1.heap.size < w3.heap.size := (by omega)
          have c_w3_0 := fun o => (bcell hO_w3).1 (w1.heap.size) o (by (try simp only [World.size_alloc, World.size_setCell, World.size_drew]) <;> omega)
          have f_w3_0 := fun o => (bcell hO_w3).2 (w1.heap.size) o (by (try simp only [World.size_alloc, World.size_setCell, World.size_drew]) <;> omega)
          have hs_w3_1 : w2.heap.size < w3.heap.size := (by omega)
          have c_w3_1 := fun o => (bcell hO_w3).1 (w2.heap.size) o (by (try simp only [World.size_alloc, World.size_setCell, World.size_drew]) <;> omega)
          have f_w3_1 := fun o => (bcell hO_w3).2 (w2.heap.size) o (by (try simp only [World.size_alloc, World.size_setCell, World.size_drew]) <;> omega)
          go_wp2_with fail
          refine (spv_c _ _ _ _ HV.out _).mono ?_
          rintro e w4 ⟨rfl, hO_w4⟩
          have hz_w4 := hO_w4.size
          (try simp only [World.size_alloc, World.size_setCell, World.size_drew] at hz_w4)
          have hs_w4_0 : w1.heap.size < w4.heap.size := (by omega)
          have c_w4_0 := fun o => (bcell hO_w4).1 (w1.heap.size) o (by (try simp only [World.size_alloc, World.size_setCell, World.size_drew]) <;> omega)
          have f_w4_0 := fun o => (bcell hO_w4).2 (w1.heap.size) o (by (try simp only [World.size_alloc, World.size_setCell, World.size_drew]) <;> omega)
          have hs_w4_1 : w2.heap.size < w4.heap.size := (by omega)
          have c_w4_1 := fun o => (bcell hO_w4).1 (w2.heap.size) o (by (try simp only [World.size_alloc, World.size_setCell, World.size_drew]) <;> omega)
          have f_w4_1 := fun o => (bcell hO_w4).2 (w2.heap.size) o (by (try simp only [World.size_alloc, World.size_setCell, World.size_drew]) <;> omega)
          have hs_w4_2 : w3.heap.size < w4.heap.size := (by omega)
          have c_w4_2 := fun o => (bcell hO_w4).1 (w3.heap.size) o (by (try simp only [World.size_alloc, World.size_setCell, World.size_drew]) <;> omega)
          have f_w4_2 := fun o => (bcell hO_w4).2 (w3.heap.size) o (by (try simp only [World.size_alloc, World.size_setCell, World.size_drew]) <;> omega)
          go_wp2
          all_goals
            go_ret
            refine ⟨rfl, ?_⟩
            (repeat (first | with_reducible exact Below.refl _ _ | ((with_reducible refine viaO (by assumption) ?_ ?_ ?_) <;> try ((try simp only [World.size_alloc, World.size_setCell, World.size_drew]) <;> omega)) | ((with_reducible refine Below.alloc ?_ ?_ _) <;> try ((try simp only [World.size_alloc, World.size_setCell, World.size_drew]) <;> omega)) | ((with_reducible refine Below.setCell ?_ ?_ _) <;> try ((try simp only [World.size_alloc, World.size_setCell, World.size_drew]) <;> omega)) | (with_reducible refine below_drewN ?_ _) | (with_reducible refine Below.drew ?_) | ((with_reducible refine via (by assumption) ?_ ?_) <;> try ((try simp only [World.size_alloc, World.size_setCell, World.size_drew]) <;> omega))))

set_option maxRecDepth 100000 in
theorem lifted (os : Os) (started : os.Started) (H : Type) (enc : TypeId × Value → H) :
    ReturnsInHanded {} Try.checked os 12 .any (Rows.fnReadPadSpec.pre6 enc Try.prog Try.f12 Rows.fnReadPadRow.domain false) (Rows.fnReadPadSpec.post enc Try.prog Try.f12 false true false false) := by
  refine returnsInHanded_of_change (C := Try.checked) own started (by kernel_rfl) Try.func12
    (ChangeSpec.witness6 (enc := enc) (C := Try.checked) false ⟨#[], #[.slice none 0 0], []⟩ 8 (by kernel_rfl) (by kernel_rfl) (by kernel_rfl) (by kernel_rfl)) ?_
  intro W base args ds gs before hval0 hW hcnd _
  have hval : ∀ (j : Nat) t v, Try.f12.params[j]? = some t → args[j]? = some v → Value.okWide Try.prog W .any base t v := hval0
  have hW' := hW
  obtain ⟨p, q, hA0, hV, rfl, hfz, hnd⟩ := hW
  have hA : DataW.TrodAll enc Try.prog W 0 (fun _ => true) true Try.f12.params.toList args.toList ds p := hA0
  rw [Try.params12] at hA hval
  obtain ⟨v0, vs0, d0, ds0, p0, q0, hargs, rfl, rfl, h0, r0⟩ := trodAll_cons hA
  obtain ⟨rfl, rfl, rfl⟩ := trodAll_nil r0
  obtain rfl : args = #[v0] := by cases args; simp_all
  obtain ⟨rfl, rfl⟩ := trodVars_none hV
  have lt0 : ∀ x ∈ p0, x.block < W.heap.size := by obtain ⟨m, hm⟩ := h0; exact DataW.trod_lt m _ _ _ hm
  have a0 := codeArg (hval 0 36 v0 rfl rfl) h0
  clear hA0 hval0
  refine (walk v0 W a0).mono fun e W' ⟨he, bel⟩ => ?_
  subst he
  exact ⟨_, rfl, _, _, _, [], _, [], hW', trodAll_mk1 (shut_bool Try.underlying4 _), (trodAll_cons_mk (Below.trod laidOut (by kernel_rfl) (of_decide_eq_true (by kernel_rfl)) h0 bel lt0) trodAll_mk0), rfl, bel.frame _, fun h => by cases h⟩

theorem proved : Rows.FnReadPadSaid :=
  OpenClaim.holds_of_wide 12 Try.f12 rfl rfl rfl rfl rfl rfl rfl ⟨rfl, rfl, rfl, rfl, rfl⟩ rfl rfl rfl rfl rfl (by kernel_rfl) Try.func12 (by kernel_rfl)
    (of_decide_eq_true (by kernel_rfl)) (by unfold Func.isWrapper; first | (rw [if_pos (by decide +kernel)]; kernel_rfl) | (rw [if_neg (by decide +kernel)]; exact ⟨rfl, rfl⟩))
    (fun os started H enc _ => lifted os started H enc)
#print axioms proved

end Go.Proofs.Ytgnkoakmgfphmaa.lawFnReadPad
