/-
  The law FnTimerRate holds: a timer fires regularly: in n times Reload + 1 cycles just n times; for every code. No conditions.
-/
import Derived.Test.YtnbfaaddhnhphaaOpen
import Derived.Test.YtnbfaaddhnhphaaTimerDraw
import Derived.Test.YtnbfaaddhnhphaaTimerLaw
namespace Go.Proofs.Ytnbfaaddhnhphaa.lawFnTimerRate
set_option linter.all false
set_option linter.unusedSimpArgs false
set_option linter.unusedVariables false
open Go.ChangeShapes Go.WideShapes Go.ChangeAt Go.RowKit

theorem prod_bound {m r : Int} (hm : 0 ≤ m ∧ m < 50) (hr : 0 ≤ r ∧ r ≤ 1000) : 0 ≤ m * (r + 1) ∧ m * (r + 1) ≤ 100000 := by
  have h1 := Int.mul_nonneg hm.1 (show 0 ≤ r + 1 by omega)
  have h2 := Int.mul_le_mul (show m ≤ 49 by omega) (show r + 1 ≤ 1001 by omega) (by omega) (by omega)
  omega

theorem isr_c (l r f m : Int) (hl : 0 ≤ l ∧ l ≤ r) (hr : r ≤ 1000) (hf : 0 ≤ f ∧ f ≤ 8) (hm : 0 ≤ m ∧ m < 50) (w : World) : Calls Try.prog 8 #[tmV l r f, .int .i64 (m * (r + 1))] w fun e w' => e = .returned (tmV l r (f + m)) ∧ Below w.heap.size w w' := by
  have hb := prod_bound hm (r := r) ⟨by omega, hr⟩
  have h := isk_yes l r f (m * (r + 1)) (tmv_mk ⟨by omega, by omega, by omega, by omega, by omega, by omega⟩) (inB_true.2 hb) w
  have e := sk_rate (l := l) (r := r) (f := f) (m := m) hl.1 hl.2 hm.1
  rwa [e.1, e.2] at h

theorem ssr_c (l r f m : Int) (hl : 0 ≤ l ∧ l ≤ r) (hr : r ≤ 1000) (hf : 0 ≤ f ∧ f ≤ 8) (hm : 0 ≤ m ∧ m < 50) (w : World) : Calls Try.prog 9 #[tmV l r f, .int .i64 (m * (r + 1))] w fun e w' => e = .returned (tmV l r (f + m)) ∧ Below w.heap.size w w' := by
  have hb := prod_bound hm (r := r) ⟨by omega, hr⟩
  have h := ssk_yes l r f (m * (r + 1)) (tmv_mk ⟨by omega, by omega, by omega, by omega, by omega, by omega⟩) (inB_true.2 hb) w
  have e := sk_rate (l := l) (r := r) (f := f) (m := m) hl.1 hl.2 hm.1
  rwa [e.1, e.2] at h

set_option maxHeartbeats 8000000 in
theorem walk (v0 : Value) (w : World) (h0 : CodeArg w v0) : Calls Try.prog 3 #[v0] w fun e w' => e = .returned (.bool true) ∧ Below w.heap.size w w' := by
  obtain ⟨a, len, cap, rfl, hcode, hl⟩ := h0
  have hm := hcode.1; unfold maxLen at hm
  by_cases hlen : 1048576 < len
  · go_enter Try.func3, Try.ntmps3
    go_wp2
    go_ret
    exact ⟨rfl, Below.refl _ _⟩
  · go_enter Try.func3, Try.ntmps3
    go_wp2_with fail
    refine (drawSkipTimer_c _ _ _ _ hcode hl).mono ?_
    rintro e w1 ⟨l, r, f, n, hf, hn, rfl, hO_w1⟩
    have hz_w1 := hO_w1.size
    clear hm hcode
    cases hv : tmv l r f
    · have HT := Lib.hid hv
      clear hv
      go_wp2_with fail
      refine (stv_c _ _ _ _ HT.out _).mono ?_
      rintro e w2 ⟨rfl, hO_w2⟩
      have hz_w2 := hO_w2.size
      (try simp only [World.size_alloc, World.size_setCell, World.size_drew] at hz_w2)
      have hs_w2_0 : w1.heap.size < w2.heap.size := (by omega)
      have c_w2_0 := fun o => (bcell hO_w2).1 (w1.heap.size) o (by (try simp only [World.size_alloc, World.size_setCell, World.size_drew]) <;> omega)
      have f_w2_0 := fun o => (bcell hO_w2).2 (w1.heap.size) o (by (try simp only [World.size_alloc, World.size_setCell, World.size_drew]) <;> omega)
      go_wp2_with (go_at_call 7; refine (alive_c _).mono ?_; rintro e w' ⟨rfl, rfl⟩)
      go_ret
      refine ⟨rfl, ?_⟩
      (repeat (first | with_reducible exact Below.refl _ _ | ((with_reducible refine viaO (by assumption) ?_ ?_ ?_) <;> try ((try simp only [World.size_alloc, World.size_setCell, World.size_drew]) <;> omega)) | ((with_reducible refine Below.alloc ?_ ?_ _) <;> try ((try simp only [World.size_alloc, World.size_setCell, World.size_drew]) <;> omega)) | ((with_reducible refine Below.setCell ?_ ?_ _) <;> try ((try simp only [World.size_alloc, World.size_setCell, World.size_drew]) <;> omega)) | (with_reducible refine below_drewN ?_ _) | (with_reducible refine Below.drew ?_) | ((with_reducible refine via (by assumption) ?_ ?_) <;> try ((try simp only [World.size_alloc, World.size_setCell, World.size_drew]) <;> omega))))
    · obtain ⟨l0, l1, r0, r1, f0, f1⟩ := tmv_true hv
      have HT := Lib.hid hv
      clear hv
      obtain ⟨q, hq⟩ : ∃ q, (if r < l then r else l) = q := ⟨_, rfl⟩
      have hq0 : 0 ≤ q ∧ q ≤ r := by rw [← hq]; split <;> omega
      by_cases hn0 : 0 < n
      · obtain ⟨m, hmm⟩ : ∃ m, n % 50 = m := ⟨_, rfl⟩
        have hm0 : 0 ≤ m ∧ m < 50 := by omega
        have hb := prod_bound hm0 ⟨r0, r1⟩
        have H1 := Lib.hid (fun w => isr_c q r f m hq0 r1 ⟨f0, hf⟩ hm0 w)
        have H2 := Lib.hid (fun w => ssr_c q r f m hq0 r1 ⟨f0, hf⟩ hm0 w)
        have e1 : IntKind.i64.wrap (r + 1) = r + 1 := IntWalk.i64_in _ (by omega)
        have e2 : IntKind.i64.wrap (m * (r + 1)) = m * (r + 1) := IntWalk.i64_in _ (by omega)
        have e3 : IntKind.i64.wrap (f + m) = f + m := IntWalk.i64_in _ (by omega)
        go_wp2_with fail
        refine (stv_c _ _ _ _ HT.out _).mono ?_
        rintro e w2 ⟨rfl, hO_w2⟩
        have hz_w2 := hO_w2.size
        (try simp only [World.size_alloc, World.size_setCell, World.size_drew] at hz_w2)
        have hs_w2_0 : w1.heap.size < w2.heap.size := (by omega)
        have c_w2_0 := fun o => (bcell hO_w2).1 (w1.heap.size) o (by (try simp only [World.size_alloc, World.size_setCell, World.size_drew]) <;> omega)
        have f_w2_0 := fun o => (bcell hO_w2).2 (w1.heap.size) o (by (try simp only [World.size_alloc, World.size_setCell, World.size_drew]) <;> omega)
        go_wp2_with fail
        refine (H1.out _).mono ?_
        rintro e w3 ⟨rfl, hO_w3⟩
        have hz_w3 := hO_w3.size
        (try simp only [World.size_alloc, World.size_setCell, World.size_drew] at hz_w3)
        have hs_w3_0 : w1.heap.size < w3.heap.size := (by omega)
        have c_w3_0 := fun o => (bcell hO_w3).1 (w1.heap.size) o (by (try simp only [World.size_alloc, World.size_setCell, World.size_drew]) <;> omega)
        have f_w3_0 := fun o => (bcell hO_w3).2 (w1.heap.size) o (by (try simp only [World.size_alloc, World.size_setCell, World.size_drew]) <;> omega)
        go_wp2_with fail
        refine wp_region_over (by kernel_rfl) (by kernel_rfl) ?_
        intro w4 hO_w4
        have hz_w4 := hO_w4.size
        (try simp only [World.size_alloc, World.size_setCell, World.size_drew] at hz_w4)
        have hs_w4_0 : w1.heap.size < w4.heap.size := (by omega)
        have c_w4_0 := fun o => (bcell hO_w4).1 (w1.heap.size) o (by (try simp only [World.size_alloc, World.size_setCell, World.size_drew]) <;> omega)
        have f_w4_0 := fun o => (bcell hO_w4).2 (w1.heap.size) o (by (try simp only [World.size_alloc, World.size_setCell, World.size_drew]) <;> omega)
        have hs_w4_1 : w3.heap.size < w4.heap.size := (by omega)
        have c_w4_1 := fun o => (bcell hO_w4).1 (w3.heap.size) o (by (try simp only [World.size_alloc, World.size_setCell, World.size_drew]) <;> omega)
        have f_w4_1 := fun o => (bcell hO_w4).2 (w3.heap.size) o (by (try simp only [World.size_alloc, World.size_setCell, World.size_drew]) <;> omega)
        have v_w4_0 := fun x o => over_cell w4 x (w1.heap.size) o hs_w4_0
        have v_w4_1 := fun x o => over_cell w4 x (w3.heap.size) o hs_w4_1
        repeat (go_big_quiet_step ((go_at_call 9; (with_reducible refine Calls.over_of (H2.out _)))))
        refine wpQuiet_nil ?_
        intro w5 hx_w5
        obtain ⟨x_w5, hx_w5⟩ := hx_w5
        have hO_w5 : Below w4.heap.size w4 w5 := hx_w5 ▸ over_below w4 x_w5
        clear hx_w5
        have hz_w5 := hO_w5.size
        have hs_w5_0 : w1.heap.size < w5.heap.size := (by omega)
        have c_w5_0 := fun o => (bcell hO_w5).1 (w1.heap.size) o (by (try simp only [World.size_alloc, World.size_setCell, World.size_drew]) <;> omega)
        have f_w5_0 := fun o => (bcell hO_w5).2 (w1.heap.size) o (by (try simp only [World.size_alloc, World.size_setCell, World.size_drew]) <;> omega)
        have hs_w5_1 : w3.heap.size < w5.heap.size := (by omega)
        have c_w5_1 := fun o => (bcell hO_w5).1 (w3.heap.size) o (by (try simp only [World.size_alloc, World.size_setCell, World.size_drew]) <;> omega)
        have f_w5_1 := fun o => (bcell hO_w5).2 (w3.heap.size) o (by (try simp only [World.size_alloc, World.size_setCell, World.size_drew]) <;> omega)
        go_wp2
        go_ret
        refine ⟨rfl, ?_⟩
        (repeat (first | with_reducible exact Below.refl _ _ | ((with_reducible refine viaO (by assumption) ?_ ?_ ?_) <;> try ((try simp only [World.size_alloc, World.size_setCell, World.size_drew]) <;> omega)) | ((with_reducible refine Below.alloc ?_ ?_ _) <;> try ((try simp only [World.size_alloc, World.size_setCell, World.size_drew]) <;> omega)) | ((with_reducible refine Below.setCell ?_ ?_ _) <;> try ((try simp only [World.size_alloc, World.size_setCell, World.size_drew]) <;> omega)) | (with_reducible refine below_drewN ?_ _) | (with_reducible refine Below.drew ?_) | ((with_reducible refine via (by assumption) ?_ ?_) <;> try ((try simp only [World.size_alloc, World.size_setCell, World.size_drew]) <;> omega))))
      · have H1 := Lib.hid (fun w => isr_c q r f 0 hq0 r1 ⟨f0, hf⟩ (by omega) w)
        have H2 := Lib.hid (fun w => ssr_c q r f 0 hq0 r1 ⟨f0, hf⟩ (by omega) w)
        rw [Int.zero_mul, Int.add_zero] at H1 H2
        have e1 : IntKind.i64.wrap (r + 1) = r + 1 := IntWalk.i64_in _ (by omega)
        have e4 : (0 : Int) * (r + 1) = 0 := Int.zero_mul _
        go_wp2_with fail
        refine (stv_c _ _ _ _ HT.out _).mono ?_
        rintro e w2 ⟨rfl, hO_w2⟩
        have hz_w2 := hO_w2.size
        (try simp only [World.size_alloc, World.size_setCell, World.size_drew] at hz_w2)
        have hs_w2_0 : w1.heap.size < w2.heap.size := (by omega)
        have c_w2_0 := fun o => (bcell hO_w2).1 (w1.heap.size) o (by (try simp only [World.size_alloc, World.size_setCell, World.size_drew]) <;> omega)
        have f_w2_0 := fun o => (bcell hO_w2).2 (w1.heap.size) o (by (try simp only [World.size_alloc, World.size_setCell, World.size_drew]) <;> omega)
        go_wp2_with fail
        refine (H1.out _).mono ?_
        rintro e w3 ⟨rfl, hO_w3⟩
        have hz_w3 := hO_w3.size
        (try simp only [World.size_alloc, World.size_setCell, World.size_drew] at hz_w3)
        have hs_w3_0 : w1.heap.size < w3.heap.size := (by omega)
        have c_w3_0 := fun o => (bcell hO_w3).1 (w1.heap.size) o (by (try simp only [World.size_alloc, World.size_setCell, World.size_drew]) <;> omega)
        have f_w3_0 := fun o => (bcell hO_w3).2 (w1.heap.size) o (by (try simp only [World.size_alloc, World.size_setCell, World.size_drew]) <;> omega)
        go_wp2_with fail
        refine wp_region_over (by kernel_rfl) (by kernel_rfl) ?_
        intro w4 hO_w4
        have hz_w4 := hO_w4.size
        (try simp only [World.size_alloc, World.size_setCell, World.size_drew] at hz_w4)
        have hs_w4_0 : w1.heap.size < w4.heap.size := (by omega)
        have c_w4_0 := fun o => (bcell hO_w4).1 (w1.heap.size) o (by (try simp only [World.size_alloc, World.size_setCell, World.size_drew]) <;> omega)
        have f_w4_0 := fun o => (bcell hO_w4).2 (w1.heap.size) o (by (try simp only [World.size_alloc, World.size_setCell, World.size_drew]) <;> omega)
        have hs_w4_1 : w3.heap.size < w4.heap.size := (by omega)
        have c_w4_1 := fun o => (bcell hO_w4).1 (w3.heap.size) o (by (try simp only [World.size_alloc, World.size_setCell, World.size_drew]) <;> omega)
        have f_w4_1 := fun o => (bcell hO_w4).2 (w3.heap.size) o (by (try simp only [World.size_alloc, World.size_setCell, World.size_drew]) <;> omega)
        have v_w4_0 := fun x o => over_cell w4 x (w1.heap.size) o hs_w4_0
        have v_w4_1 := fun x o => over_cell w4 x (w3.heap.size) o hs_w4_1
        repeat (go_big_quiet_step ((go_at_call 9; (with_reducible refine Calls.over_of (H2.out _)))))
        refine wpQuiet_nil ?_
        intro w5 hx_w5
        obtain ⟨x_w5, hx_w5⟩ := hx_w5
        have hO_w5 : Below w4.heap.size w4 w5 := hx_w5 ▸ over_below w4 x_w5
        clear hx_w5
        have hz_w5 := hO_w5.size
        have hs_w5_0 : w1.heap.size < w5.heap.size := (by omega)
        have c_w5_0 := fun o => (bcell hO_w5).1 (w1.heap.size) o (by (try simp only [World.size_alloc, World.size_setCell, World.size_drew]) <;> omega)
        have f_w5_0 := fun o => (bcell hO_w5).2 (w1.heap.size) o (by (try simp only [World.size_alloc, World.size_setCell, World.size_drew]) <;> omega)
        have hs_w5_1 : w3.heap.size < w5.heap.size := (by omega)
        have c_w5_1 := fun o => (bcell hO_w5).1 (w3.heap.size) o (by (try simp only [World.size_alloc, World.size_setCell, World.size_drew]) <;> omega)
        have f_w5_1 := fun o => (bcell hO_w5).2 (w3.heap.size) o (by (try simp only [World.size_alloc, World.size_setCell, World.size_drew]) <;> omega)
        go_wp2
        go_ret
        refine ⟨rfl, ?_⟩
        (repeat (first | with_reducible exact Below.refl _ _ | ((with_reducible refine viaO (by assumption) ?_ ?_ ?_) <;> try ((try simp only [World.size_alloc, World.size_setCell, World.size_drew]) <;> omega)) | ((with_reducible refine Below.alloc ?_ ?_ _) <;> try ((try simp only [World.size_alloc, World.size_setCell, World.size_drew]) <;> omega)) | ((with_reducible refine Below.setCell ?_ ?_ _) <;> try ((try simp only [World.size_alloc, World.size_setCell, World.size_drew]) <;> omega)) | (with_reducible refine below_drewN ?_ _) | (with_reducible refine Below.drew ?_) | ((with_reducible refine via (by assumption) ?_ ?_) <;> try ((try simp only [World.size_alloc, World.size_setCell, World.size_drew]) <;> omega))))

set_option maxRecDepth 100000 in
theorem lifted (os : Os) (started : os.Started) (H : Type) (enc : TypeId × Value → H) :
    ReturnsInHanded {} Try.checked os 3 .any (Rows.fnTimerRateSpec.pre6 enc Try.prog Try.f3 Rows.fnTimerRateRow.domain false) (Rows.fnTimerRateSpec.post enc Try.prog Try.f3 false true false false) := by
  refine returnsInHanded_of_change (C := Try.checked) own started (by kernel_rfl) Try.func3
    (ChangeSpec.witness6 (enc := enc) (C := Try.checked) false ⟨#[], #[.slice none 0 0], []⟩ 8 (by kernel_rfl) (by kernel_rfl) (by kernel_rfl) (by kernel_rfl)) ?_
  intro W base args ds gs before hval0 hW hcnd _
  have hval : ∀ (j : Nat) t v, Try.f3.params[j]? = some t → args[j]? = some v → Value.okWide Try.prog W .any base t v := hval0
  have hW' := hW
  obtain ⟨p, q, hA0, hV, rfl, hfz, hnd⟩ := hW
  have hA : DataW.TrodAll enc Try.prog W 0 (fun _ => true) true Try.f3.params.toList args.toList ds p := hA0
  rw [Try.params3] at hA hval
  obtain ⟨v0, vs0, d0, ds0, p0, q0, hargs, rfl, rfl, h0, r0⟩ := trodAll_cons hA
  obtain ⟨rfl, rfl, rfl⟩ := trodAll_nil r0
  obtain rfl : args = #[v0] := by cases args; simp_all
  obtain ⟨rfl, rfl⟩ := trodVars_none hV
  have lt0 : ∀ x ∈ p0, x.block < W.heap.size := by obtain ⟨m, hm⟩ := h0; exact DataW.trod_lt m _ _ _ hm
  have a0 := codeArg (hval 0 22 v0 rfl rfl) h0
  clear hA0 hval0
  refine (walk v0 W a0).mono fun e W' ⟨he, bel⟩ => ?_
  subst he
  exact ⟨_, rfl, _, _, _, [], _, [], hW', trodAll_mk1 (shut_bool Try.underlying4 _), (trodAll_cons_mk (Below.trod laidOut (by kernel_rfl) (of_decide_eq_true (by kernel_rfl)) h0 bel lt0) trodAll_mk0), rfl, bel.frame _, fun h => by cases h⟩

theorem proved : Rows.FnTimerRateSaid :=
  OpenClaim.holds_of_wide 3 Try.f3 rfl rfl rfl rfl rfl rfl rfl ⟨rfl, rfl, rfl, rfl, rfl⟩ rfl rfl rfl rfl rfl (by kernel_rfl) Try.func3 (by kernel_rfl)
    (of_decide_eq_true (by kernel_rfl)) (by unfold Func.isWrapper; first | (rw [if_pos (by decide +kernel)]; kernel_rfl) | (rw [if_neg (by decide +kernel)]; exact ⟨rfl, rfl⟩))
    (fun os started H enc _ => lifted os started H enc)
#print axioms proved

end Go.Proofs.Ytnbfaaddhnhphaa.lawFnTimerRate
