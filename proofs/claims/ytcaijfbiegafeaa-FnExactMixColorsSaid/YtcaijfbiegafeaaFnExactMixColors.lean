/-
  The law FnExactMixColors holds: for every input the program's MixColors returns what the reference's returns. No conditions.
-/
import Derived.Test.YtcaijfbiegafeaaOpen
import Derived.Test.YtcaijfbiegafeaaColor
import Derived.Test.YtcaijfbiegafeaaThree
import Derived.Deep.RegionHeld3
import Derived.Deep.DeepCutAuto
namespace Go.Proofs.Ytcaijfbiegafeaa.lawFnExactMixColors
set_option linter.all false
set_option linter.unusedSimpArgs false
set_option linter.unusedVariables false
open Go.ChangeShapes Go.WideShapes Go.ChangeAt Go.RowKit

theorem keep6 {W : World} {h k : Nat} {t t' : TypeId} {r g b x y z : Int} (h0 : B3 W h t r g b) (h1 : B3 W k t' x y z) :
    W.cell? ⟨h, 0, none⟩ = some (.int .i64 r) ∧ W.cell? ⟨h, 1, none⟩ = some (.int .i64 g) ∧ W.cell? ⟨h, 2, none⟩ = some (.int .i64 b) ∧ W.cell? ⟨k, 0, none⟩ = some (.int .i64 x) ∧ W.cell? ⟨k, 1, none⟩ = some (.int .i64 y) ∧ W.cell? ⟨k, 2, none⟩ = some (.int .i64 z) :=
  ⟨h0.cells.1, h0.cells.2.1, h0.cells.2.2, h1.cells.1, h1.cells.2.1, h1.cells.2.2⟩
set_option maxHeartbeats 4000000 in
theorem walk (v0 v1 : Value) (w : World) (h0 : ThreeArg w v0) (h1 : ThreeArg w v1) : Calls Try.prog 7 #[v0, v1] w fun e w' => e = .returned (.bool true) ∧ Below w.heap.size w w' := by
  obtain ⟨r, g, b, rfl⟩ := h0
  obtain ⟨x, y, z, rfl⟩ := h1
  obtain ⟨v, hv⟩ : ∃ v, (cv r g b && cv x y z) = v := ⟨_, rfl⟩
  have HI := Lib.hid (fun w => imx_c r g b x y z v hv w)
  have HS := Lib.hid (fun w => smx_c r g b x y z v hv w)
  clear hv
  generalize mx v r x = m1 at *
  generalize mx v g y = m2 at *
  generalize mx v b z = m3 at *
  have k0 := (B3.new w 23 r g b).alloc (.cells #[.int .i64 x, .int .i64 y, .int .i64 z] 23)
  have k1 := B3.new1 w (.cells #[.int .i64 r, .int .i64 g, .int .i64 b] 23) 23 x y z
  have K0 := Lib.hid k0
  have K1 := Lib.hid k1
  have n2 : B3 (((w.alloc (.cells #[.int .i64 r, .int .i64 g, .int .i64 b] 23)).alloc (.cells #[.int .i64 x, .int .i64 y, .int .i64 z] 23)).alloc (.cells #[.int .i64 0, .int .i64 0, .int .i64 0] 25)) (w.heap.size + 1 + 1) 25 0 0 0 := by
    have := B3.new1 (w.alloc (.cells #[.int .i64 r, .int .i64 g, .int .i64 b] 23)) (.cells #[.int .i64 x, .int .i64 y, .int .i64 z] 23) 25 0 0 0
    rwa [World.size_alloc] at this
  have N2 := Lib.hid n2
  obtain ⟨a0, a1, a2⟩ := k0.cells
  obtain ⟨b0, b1, b2⟩ := k1.cells
  clear k0 k1 n2
  go_enter Try.func7, Try.ntmps7
  go_upto_region 1 with fail
  go_cut [5] (fun s wx => ∃ h : Nat, s = .pointer (some ⟨h, 0, none⟩) ∧ w.heap.size + 2 ≤ h ∧ B3 wx h 25 m1 m2 m3 ∧ Below (w.heap.size + 2) ((w.alloc (.cells #[.int .i64 r, .int .i64 g, .int .i64 b] 23)).alloc (.cells #[.int .i64 x, .int .i64 y, .int .i64 z] 23)) wx)
  case first =>
    go_region_held3 (fun w' => w'.cell? ⟨w.heap.size, 0, none⟩ = some (.int .i64 r) ∧ w'.cell? ⟨w.heap.size, 1, none⟩ = some (.int .i64 g) ∧ w'.cell? ⟨w.heap.size, 2, none⟩ = some (.int .i64 b) ∧ w'.cell? ⟨w.heap.size + 1, 0, none⟩ = some (.int .i64 x) ∧ w'.cell? ⟨w.heap.size + 1, 1, none⟩ = some (.int .i64 y) ∧ w'.cell? ⟨w.heap.size + 1, 2, none⟩ = some (.int .i64 z)) ((have kk0 := K0.out; have kk1 := K1.out; refine keep6 (t := 23) (t' := 23) ?_ ?_ <;> (repeat (first | with_reducible assumption | with_reducible exact B3.new _ _ _ _ _ | ((with_reducible refine B3.below ?_ (by assumption) ?_) <;> try ((try simp only [World.size_alloc, World.size_setCell, World.size_drew]) <;> omega)) | (with_reducible refine B3.alloc ?_ _) | (with_reducible refine B3.far ?_ (by simp <;> omega) _) | (with_reducible refine B3.drewN ?_ _) | (with_reducible refine B3.drew ?_))))) (first
      | (go_at_call 15; (refine (toColor_c _ _ _ _).mono ?_; rintro e w1 ⟨rfl, hO_w1⟩; have hz_w1 := hO_w1.size; (try simp only [World.size_alloc, World.size_setCell, World.size_drew] at hz_w1); have hs_w1_0 : w.heap.size < w1.heap.size := (by omega); have c_w1_0 := fun o => (bcell hO_w1).1 (w.heap.size) o (by (try simp only [World.size_alloc, World.size_setCell, World.size_drew]) <;> omega); have f_w1_0 := fun o => (bcell hO_w1).2 (w.heap.size) o (by (try simp only [World.size_alloc, World.size_setCell, World.size_drew]) <;> omega); have hs_w1_1 : w.heap.size + 1 < w1.heap.size := (by omega); have c_w1_1 := fun o => (bcell hO_w1).1 (w.heap.size + 1) o (by (try simp only [World.size_alloc, World.size_setCell, World.size_drew]) <;> omega); have f_w1_1 := fun o => (bcell hO_w1).2 (w.heap.size + 1) o (by (try simp only [World.size_alloc, World.size_setCell, World.size_drew]) <;> omega)); have g_w1 := (bcell hO_w1).1; have e_w1 := (bcell hO_w1).2; (try simp only [Nat.add_one_le_iff] at hz_w1); (try have hs_w1_2 : w.heap.size + 2 < w1.heap.size := (by omega)))
      | (go_at_call 24; (refine (HS.out _).mono ?_; rintro e w1 ⟨rfl, hO_w1⟩; have hz_w1 := hO_w1.size; (try simp only [World.size_alloc, World.size_setCell, World.size_drew] at hz_w1); have hs_w1_0 : w.heap.size < w1.heap.size := (by omega); have c_w1_0 := fun o => (bcell hO_w1).1 (w.heap.size) o (by (try simp only [World.size_alloc, World.size_setCell, World.size_drew]) <;> omega); have f_w1_0 := fun o => (bcell hO_w1).2 (w.heap.size) o (by (try simp only [World.size_alloc, World.size_setCell, World.size_drew]) <;> omega); have hs_w1_1 : w.heap.size + 1 < w1.heap.size := (by omega); have c_w1_1 := fun o => (bcell hO_w1).1 (w.heap.size + 1) o (by (try simp only [World.size_alloc, World.size_setCell, World.size_drew]) <;> omega); have f_w1_1 := fun o => (bcell hO_w1).2 (w.heap.size + 1) o (by (try simp only [World.size_alloc, World.size_setCell, World.size_drew]) <;> omega)); have g_w1 := (bcell hO_w1).1; have e_w1 := (bcell hO_w1).2; (try simp only [Nat.add_one_le_iff] at hz_w1); (try have hs_w1_2 : w.heap.size + 2 < w1.heap.size := (by omega))))
    all_goals
      go_wp2_with fail
      go_meet
      refine ⟨_, rfl, ?_, ?_, ?_⟩
      · omega
      · have n2 := N2.out
        first
          | exact B3.new _ _ _ _ _
          | (refine B3.put (x := 0) (y := 0) (z := 0) ?_ _ _ _
             (repeat (first | with_reducible assumption | with_reducible exact B3.new _ _ _ _ _ | ((with_reducible refine B3.below ?_ (by assumption) ?_) <;> try ((try simp only [World.size_alloc, World.size_setCell, World.size_drew]) <;> omega)) | (with_reducible refine B3.alloc ?_ _) | (with_reducible refine B3.far ?_ (by simp <;> omega) _) | (with_reducible refine B3.drewN ?_ _) | (with_reducible refine B3.drew ?_))))
      · (repeat (first | with_reducible exact Below.refl _ _ | ((with_reducible refine viaO (by assumption) ?_ ?_ ?_) <;> try ((try simp only [World.size_alloc, World.size_setCell, World.size_drew]) <;> omega)) | ((with_reducible refine Below.alloc ?_ ?_ _) <;> try ((try simp only [World.size_alloc, World.size_setCell, World.size_drew]) <;> omega)) | ((with_reducible refine Below.setCell ?_ ?_ _) <;> try ((try simp only [World.size_alloc, World.size_setCell, World.size_drew]) <;> omega)) | (with_reducible refine below_drewN ?_ _) | (with_reducible refine Below.drew ?_) | ((with_reducible refine via (by assumption) ?_ ?_) <;> try ((try simp only [World.size_alloc, World.size_setCell, World.size_drew]) <;> omega))))
  case rest =>
    obtain ⟨h, rfl, hh, hB, hb⟩ := hcut
    have hz := hb.size
    (try simp only [World.size_alloc, World.size_setCell, World.size_drew] at hz)
    have k0 := K0.out.below hb (by omega)
    have k1 := K1.out.below hb (by omega)
    have K0' := Lib.hid k0
    have K1' := Lib.hid k1
    have hl := hB.lt
    have KB := Lib.hid hB
    have HB := Lib.hid hb
    obtain ⟨a0, a1, a2⟩ := k0.cells
    obtain ⟨b0, b1, b2⟩ := k1.cells
    clear k0 k1 hb hB K0 K1 N2
    go_upto_region 2 with fail
    go_cut [6] (fun s wx => ∃ h' : Nat, s = .pointer (some ⟨h', 0, none⟩) ∧ B3 wx h' 25 m1 m2 m3 ∧ Below wc.heap.size wc wx)
    case first =>
      go_region_held3 (fun w' => w'.cell? ⟨w.heap.size, 0, none⟩ = some (.int .i64 r) ∧ w'.cell? ⟨w.heap.size, 1, none⟩ = some (.int .i64 g) ∧ w'.cell? ⟨w.heap.size, 2, none⟩ = some (.int .i64 b) ∧ w'.cell? ⟨w.heap.size + 1, 0, none⟩ = some (.int .i64 x) ∧ w'.cell? ⟨w.heap.size + 1, 1, none⟩ = some (.int .i64 y) ∧ w'.cell? ⟨w.heap.size + 1, 2, none⟩ = some (.int .i64 z)) ((have kk0 := K0'.out; have kk1 := K1'.out; refine keep6 (t := 23) (t' := 23) ?_ ?_ <;> (repeat (first | with_reducible assumption | with_reducible exact B3.new _ _ _ _ _ | ((with_reducible refine B3.below ?_ (by assumption) ?_) <;> try ((try simp only [World.size_alloc, World.size_setCell, World.size_drew]) <;> omega)) | (with_reducible refine B3.alloc ?_ _) | (with_reducible refine B3.far ?_ (by simp <;> omega) _) | (with_reducible refine B3.drewN ?_ _) | (with_reducible refine B3.drew ?_))))) (first
        | ((go_at_call 15; (refine (toColor_c _ _ _ _).mono ?_; rintro e w1 ⟨rfl, hO_w1⟩; have hz_w1 := hO_w1.size; (try simp only [World.size_alloc, World.size_setCell, World.size_drew] at hz_w1); have hs_w1_0 : w.heap.size < w1.heap.size := (by omega); have c_w1_0 := fun o => (bcell hO_w1).1 (w.heap.size) o (by (try simp only [World.size_alloc, World.size_setCell, World.size_drew]) <;> omega); have f_w1_0 := fun o => (bcell hO_w1).2 (w.heap.size) o (by (try simp only [World.size_alloc, World.size_setCell, World.size_drew]) <;> omega); have hs_w1_1 : w.heap.size + 1 < w1.heap.size := (by omega); have c_w1_1 := fun o => (bcell hO_w1).1 (w.heap.size + 1) o (by (try simp only [World.size_alloc, World.size_setCell, World.size_drew]) <;> omega); have f_w1_1 := fun o => (bcell hO_w1).2 (w.heap.size + 1) o (by (try simp only [World.size_alloc, World.size_setCell, World.size_drew]) <;> omega)); have g_w1 := (bcell hO_w1).1; have e_w1 := (bcell hO_w1).2; (try simp only [Nat.add_one_le_iff] at hz_w1); (try have hs_w1_2 : w.heap.size + 2 < w1.heap.size := (by omega))); (try have hs_w1_3 : wc.heap.size < w1.heap.size := (by omega)))
        | ((go_at_call 25; (refine (HI.out _).mono ?_; rintro e w1 ⟨rfl, hO_w1⟩; have hz_w1 := hO_w1.size; (try simp only [World.size_alloc, World.size_setCell, World.size_drew] at hz_w1); have hs_w1_0 : w.heap.size < w1.heap.size := (by omega); have c_w1_0 := fun o => (bcell hO_w1).1 (w.heap.size) o (by (try simp only [World.size_alloc, World.size_setCell, World.size_drew]) <;> omega); have f_w1_0 := fun o => (bcell hO_w1).2 (w.heap.size) o (by (try simp only [World.size_alloc, World.size_setCell, World.size_drew]) <;> omega); have hs_w1_1 : w.heap.size + 1 < w1.heap.size := (by omega); have c_w1_1 := fun o => (bcell hO_w1).1 (w.heap.size + 1) o (by (try simp only [World.size_alloc, World.size_setCell, World.size_drew]) <;> omega); have f_w1_1 := fun o => (bcell hO_w1).2 (w.heap.size + 1) o (by (try simp only [World.size_alloc, World.size_setCell, World.size_drew]) <;> omega)); have g_w1 := (bcell hO_w1).1; have e_w1 := (bcell hO_w1).2; (try simp only [Nat.add_one_le_iff] at hz_w1); (try have hs_w1_2 : w.heap.size + 2 < w1.heap.size := (by omega))); (try have hs_w1_3 : wc.heap.size < w1.heap.size := (by omega))))
      all_goals
        go_wp2_with fail
        go_meet
        refine ⟨_, rfl, ?_, ?_⟩
        · first
            | exact B3.new _ _ _ _ _
            | (refine B3.put (x := 0) (y := 0) (z := 0) ?_ _ _ _
               (repeat (first | with_reducible assumption | with_reducible exact B3.new _ _ _ _ _ | ((with_reducible refine B3.below ?_ (by assumption) ?_) <;> try ((try simp only [World.size_alloc, World.size_setCell, World.size_drew]) <;> omega)) | (with_reducible refine B3.alloc ?_ _) | (with_reducible refine B3.far ?_ (by simp <;> omega) _) | (with_reducible refine B3.drewN ?_ _) | (with_reducible refine B3.drew ?_))))
        · (repeat (first | with_reducible exact Below.refl _ _ | ((with_reducible refine viaO (by assumption) ?_ ?_ ?_) <;> try ((try simp only [World.size_alloc, World.size_setCell, World.size_drew]) <;> omega)) | ((with_reducible refine Below.alloc ?_ ?_ _) <;> try ((try simp only [World.size_alloc, World.size_setCell, World.size_drew]) <;> omega)) | ((with_reducible refine Below.setCell ?_ ?_ _) <;> try ((try simp only [World.size_alloc, World.size_setCell, World.size_drew]) <;> omega)) | (with_reducible refine below_drewN ?_ _) | (with_reducible refine Below.drew ?_) | ((with_reducible refine via (by assumption) ?_ ?_) <;> try ((try simp only [World.size_alloc, World.size_setCell, World.size_drew]) <;> omega))))
    case rest =>
      obtain ⟨h', rfl, hB', hb'⟩ := hcut
      have hB := KB.out.below hb' hl
      have hz' := hb'.size
      obtain ⟨d0, d1, d2⟩ := hB.cells
      obtain ⟨f0, f1, f2⟩ := hB'.cells
      go_wp2_with fail
      refine (eqColor_c _ _ _ _).mono ?_
      rintro e w5 ⟨rfl, hO_w5⟩
      have hz_w5 := hO_w5.size
      (try simp only [World.size_alloc, World.size_setCell, World.size_drew] at hz_w5)
      go_wp2
      go_ret
      refine ⟨rfl, ?_⟩
      refine ((Below.trans ?_ (HB.out.mono (by omega))).trans (hb'.mono (by omega))).trans (hO_w5.mono (by omega))
      (repeat (first | with_reducible exact Below.refl _ _ | ((with_reducible refine viaO (by assumption) ?_ ?_ ?_) <;> try ((try simp only [World.size_alloc, World.size_setCell, World.size_drew]) <;> omega)) | ((with_reducible refine Below.alloc ?_ ?_ _) <;> try ((try simp only [World.size_alloc, World.size_setCell, World.size_drew]) <;> omega)) | ((with_reducible refine Below.setCell ?_ ?_ _) <;> try ((try simp only [World.size_alloc, World.size_setCell, World.size_drew]) <;> omega)) | (with_reducible refine below_drewN ?_ _) | (with_reducible refine Below.drew ?_) | ((with_reducible refine via (by assumption) ?_ ?_) <;> try ((try simp only [World.size_alloc, World.size_setCell, World.size_drew]) <;> omega))))

set_option maxRecDepth 100000 in
theorem lifted (os : Os) (started : os.Started) (H : Type) (enc : TypeId × Value → H) :
    ReturnsInHanded {} Try.checked os 7 .any (Rows.fnExactMixColorsSpec.pre6 enc Try.prog Try.f7 Rows.fnExactMixColorsRow.domain false) (Rows.fnExactMixColorsSpec.post enc Try.prog Try.f7 false true false false) := by
  refine returnsInHanded_of_change (C := Try.checked) own started (by kernel_rfl) Try.func7
    (ChangeSpec.witness6 (enc := enc) (C := Try.checked) false ⟨#[], #[.agg #[.int .i64 0, .int .i64 0, .int .i64 0], .agg #[.int .i64 0, .int .i64 0, .int .i64 0]], []⟩ 8 (by kernel_rfl) (by kernel_rfl) (by kernel_rfl) (by kernel_rfl)) ?_
  intro W base args ds gs before hval0 hW hcnd _
  have hval : ∀ (j : Nat) t v, Try.f7.params[j]? = some t → args[j]? = some v → Value.okWide Try.prog W .any base t v := hval0
  have hW' := hW
  obtain ⟨p, q, hA0, hV, rfl, hfz, hnd⟩ := hW
  have hA : DataW.TrodAll enc Try.prog W 0 (fun _ => true) true Try.f7.params.toList args.toList ds p := hA0
  rw [Try.params7] at hA hval
  obtain ⟨v0, vs0, d0, ds0, p0, q0, hargs, rfl, rfl, h0, r0⟩ := trodAll_cons hA
  obtain ⟨v1, vs1, d1, ds1, p1, q1, rfl, rfl, rfl, h1, r1⟩ := trodAll_cons r0
  obtain ⟨rfl, rfl, rfl⟩ := trodAll_nil r1
  obtain rfl : args = #[v0, v1] := by cases args; simp_all
  obtain ⟨rfl, rfl⟩ := trodVars_none hV
  have lt0 : ∀ x ∈ p0, x.block < W.heap.size := by obtain ⟨m, hm⟩ := h0; exact DataW.trod_lt m _ _ _ hm
  have a0 := colorArg (hval 0 23 v0 rfl rfl) h0
  have lt1 : ∀ x ∈ p1, x.block < W.heap.size := by obtain ⟨m, hm⟩ := h1; exact DataW.trod_lt m _ _ _ hm
  have a1 := colorArg (hval 1 23 v1 rfl rfl) h1
  clear hA0 hval0
  refine (walk v0 v1 W a0 a1).mono fun e W' ⟨he, bel⟩ => ?_
  subst he
  exact ⟨_, rfl, _, _, _, [], _, [], hW', trodAll_mk1 (shut_bool Try.underlying4 _), (trodAll_cons_mk (Below.trod laidOut (by kernel_rfl) (of_decide_eq_true (by kernel_rfl)) h0 bel lt0) (trodAll_cons_mk (Below.trod laidOut (by kernel_rfl) (of_decide_eq_true (by kernel_rfl)) h1 bel lt1) trodAll_mk0)), rfl, bel.frame _, fun h => by cases h⟩

theorem proved : Rows.FnExactMixColorsSaid :=
  OpenClaim.holds_of_wide 7 Try.f7 rfl rfl rfl rfl rfl rfl rfl ⟨rfl, rfl, rfl, rfl, rfl⟩ rfl rfl rfl rfl rfl (by kernel_rfl) Try.func7 (by kernel_rfl)
    (of_decide_eq_true (by kernel_rfl)) (by unfold Func.isWrapper; first | (rw [if_pos (by decide +kernel)]; kernel_rfl) | (rw [if_neg (by decide +kernel)]; exact ⟨rfl, rfl⟩))
    (fun os started H enc _ => lifted os started H enc)
#print axioms proved

end Go.Proofs.Ytcaijfbiegafeaa.lawFnExactMixColors
