/-
  The law FnSkipTimer holds: skipping is ticking so many times, and skipping in two parts is skipping their sum; for every code. No conditions.
-/
import Derived.Test.YtnbfaaddhnhphaaOpen
import Derived.Test.YtnbfaaddhnhphaaTimerDraw
import Derived.Test.YtnbfaaddhnhphaaTimerLaw
namespace Go.Proofs.Ytnbfaaddhnhphaa.lawFnSkipTimer
set_option linter.all false
set_option linter.unusedSimpArgs false
set_option linter.unusedVariables false
open Go.ChangeShapes Go.WideShapes Go.ChangeAt Go.RowKit

theorem onlyIf_true (x : Int) : onlyIf true x = x := rfl
theorem onlyIf_false (x : Int) : onlyIf false x = 0 := rfl
theorem tick {l r f : Int} {k : Nat} (hl : 0 ≤ l) (hr : 0 ≤ r) : skL (skL l r k) r 1 = skL l r ((k + 1 : Nat) : Int) ∧ skF (skL l r k) r (skF l r f k) 1 = skF l r f ((k + 1 : Nat) : Int) := by
  have := sk_add (l := l) (r := r) (f := f) (a := k) (b := 1) hl hr (by omega) (by omega)
  simpa using this

set_option maxHeartbeats 8000000 in
theorem walk (v0 : Value) (w : World) (h0 : CodeArg w v0) : Calls Try.prog 4 #[v0] w fun e w' => e = .returned (.bool true) ∧ Below w.heap.size w w' := by
  obtain ⟨a, len, cap, rfl, hcode, hl⟩ := h0
  have hm := hcode.1; unfold maxLen at hm
  by_cases hlen : 1048576 < len
  · go_enter Try.func4, Try.ntmps4
    go_wp2
    go_ret
    exact ⟨rfl, Below.refl _ _⟩
  · go_enter Try.func4, Try.ntmps4
    go_wp2_with fail
    refine (drawSkipTimer_c _ _ _ _ hcode hl).mono ?_
    rintro e w1 ⟨l, r, f, n, hf, hn, rfl, hO_w1⟩
    have hz_w1 := hO_w1.size
    clear hm hcode
    cases hv : (tmv l r f && inB n 0 100000)
    · have HV := Lib.hid hv
      have z0 : ∀ x, onlyIf false x = 0 := onlyIf_false
      have HS := Lib.hid (fun w => ssk_c l r f n false hv w)
      clear hv
      go_wp2_with fail
      refine (isk_c _ _ _ _ _ HV.out _).mono ?_
      rintro e w2 ⟨rfl, hO_w2⟩
      have hz_w2 := hO_w2.size
      (try simp only [World.size_alloc, World.size_setCell, World.size_drew] at hz_w2)
      have hs_w2_0 : w1.heap.size < w2.heap.size := (by omega)
      have c_w2_0 := fun o => (bcell hO_w2).1 (w1.heap.size) o (by (try simp only [World.size_alloc, World.size_setCell, World.size_drew]) <;> omega)
      have f_w2_0 := fun o => (bcell hO_w2).2 (w1.heap.size) o (by (try simp only [World.size_alloc, World.size_setCell, World.size_drew]) <;> omega)
      go_wp2_with fail
      refine wp_region_over (by kernel_rfl) (by kernel_rfl) ?_
      intro w3 hO_w3
      have hz_w3 := hO_w3.size
      (try simp only [World.size_alloc, World.size_setCell, World.size_drew] at hz_w3)
      have hs_w3_0 : w1.heap.size < w3.heap.size := (by omega)
      have c_w3_0 := fun o => (bcell hO_w3).1 (w1.heap.size) o (by (try simp only [World.size_alloc, World.size_setCell, World.size_drew]) <;> omega)
      have f_w3_0 := fun o => (bcell hO_w3).2 (w1.heap.size) o (by (try simp only [World.size_alloc, World.size_setCell, World.size_drew]) <;> omega)
      have hs_w3_1 : w2.heap.size < w3.heap.size := (by omega)
      have c_w3_1 := fun o => (bcell hO_w3).1 (w2.heap.size) o (by (try simp only [World.size_alloc, World.size_setCell, World.size_drew]) <;> omega)
      have f_w3_1 := fun o => (bcell hO_w3).2 (w2.heap.size) o (by (try simp only [World.size_alloc, World.size_setCell, World.size_drew]) <;> omega)
      have v_w3_0 := fun x o => over_cell w3 x (w1.heap.size) o hs_w3_0
      have v_w3_1 := fun x o => over_cell w3 x (w2.heap.size) o hs_w3_1
      repeat (go_big_quiet_step ((go_at_call 9; refine Calls.over_of (HS.out _))))
      refine wpQuiet_nil ?_
      intro w4 hx_w4
      obtain ⟨x_w4, hx_w4⟩ := hx_w4
      have hO_w4 : Below w3.heap.size w3 w4 := hx_w4 ▸ over_below w3 x_w4
      clear hx_w4
      have hz_w4 := hO_w4.size
      have hs_w4_0 : w1.heap.size < w4.heap.size := (by omega)
      have c_w4_0 := fun o => (bcell hO_w4).1 (w1.heap.size) o (by (try simp only [World.size_alloc, World.size_setCell, World.size_drew]) <;> omega)
      have f_w4_0 := fun o => (bcell hO_w4).2 (w1.heap.size) o (by (try simp only [World.size_alloc, World.size_setCell, World.size_drew]) <;> omega)
      have hs_w4_1 : w2.heap.size < w4.heap.size := (by omega)
      have c_w4_1 := fun o => (bcell hO_w4).1 (w2.heap.size) o (by (try simp only [World.size_alloc, World.size_setCell, World.size_drew]) <;> omega)
      have f_w4_1 := fun o => (bcell hO_w4).2 (w2.heap.size) o (by (try simp only [World.size_alloc, World.size_setCell, World.size_drew]) <;> omega)
      cases ht : tmv l r f
      · have HT := Lib.hid ht
        clear ht
        go_wp2_with fail
        refine (stv_c _ _ _ _ HT.out _).mono ?_
        rintro e w5 ⟨rfl, hO_w5⟩
        have hz_w5 := hO_w5.size
        (try simp only [World.size_alloc, World.size_setCell, World.size_drew] at hz_w5)
        have hs_w5_0 : w1.heap.size < w5.heap.size := (by omega)
        have c_w5_0 := fun o => (bcell hO_w5).1 (w1.heap.size) o (by (try simp only [World.size_alloc, World.size_setCell, World.size_drew]) <;> omega)
        have f_w5_0 := fun o => (bcell hO_w5).2 (w1.heap.size) o (by (try simp only [World.size_alloc, World.size_setCell, World.size_drew]) <;> omega)
        have hs_w5_1 : w2.heap.size < w5.heap.size := (by omega)
        have c_w5_1 := fun o => (bcell hO_w5).1 (w2.heap.size) o (by (try simp only [World.size_alloc, World.size_setCell, World.size_drew]) <;> omega)
        have f_w5_1 := fun o => (bcell hO_w5).2 (w2.heap.size) o (by (try simp only [World.size_alloc, World.size_setCell, World.size_drew]) <;> omega)
        go_wp2_with (go_at_call 7; refine (alive_c _).mono ?_; rintro e w' ⟨rfl, rfl⟩)
        go_ret
        refine ⟨rfl, ?_⟩
        (repeat (first | with_reducible exact Below.refl _ _ | ((with_reducible refine viaO (by assumption) ?_ ?_ ?_) <;> try ((try simp only [World.size_alloc, World.size_setCell, World.size_drew]) <;> omega)) | ((with_reducible refine Below.alloc ?_ ?_ _) <;> try ((try simp only [World.size_alloc, World.size_setCell, World.size_drew]) <;> omega)) | ((with_reducible refine Below.setCell ?_ ?_ _) <;> try ((try simp only [World.size_alloc, World.size_setCell, World.size_drew]) <;> omega)) | (with_reducible refine below_drewN ?_ _) | (with_reducible refine Below.drew ?_) | ((with_reducible refine via (by assumption) ?_ ?_) <;> try ((try simp only [World.size_alloc, World.size_setCell, World.size_drew]) <;> omega))))
      · have hout : inB n 0 100000 = false := by have := HV.out; rw [ht] at this; simpa using this
        have HT := Lib.hid ht
        clear ht
        rcases inB_false.1 hout with hlo | hhi
        · clear hout
          go_wp2_with fail
          refine (stv_c _ _ _ _ HT.out _).mono ?_
          rintro e w5 ⟨rfl, hO_w5⟩
          have hz_w5 := hO_w5.size
          (try simp only [World.size_alloc, World.size_setCell, World.size_drew] at hz_w5)
          have hs_w5_0 : w1.heap.size < w5.heap.size := (by omega)
          have c_w5_0 := fun o => (bcell hO_w5).1 (w1.heap.size) o (by (try simp only [World.size_alloc, World.size_setCell, World.size_drew]) <;> omega)
          have f_w5_0 := fun o => (bcell hO_w5).2 (w1.heap.size) o (by (try simp only [World.size_alloc, World.size_setCell, World.size_drew]) <;> omega)
          have hs_w5_1 : w2.heap.size < w5.heap.size := (by omega)
          have c_w5_1 := fun o => (bcell hO_w5).1 (w2.heap.size) o (by (try simp only [World.size_alloc, World.size_setCell, World.size_drew]) <;> omega)
          have f_w5_1 := fun o => (bcell hO_w5).2 (w2.heap.size) o (by (try simp only [World.size_alloc, World.size_setCell, World.size_drew]) <;> omega)
          go_wp2_with (go_at_call 7; refine (alive_c _).mono ?_; rintro e w' ⟨rfl, rfl⟩)
          go_ret
          refine ⟨rfl, ?_⟩
          (repeat (first | with_reducible exact Below.refl _ _ | ((with_reducible refine viaO (by assumption) ?_ ?_ ?_) <;> try ((try simp only [World.size_alloc, World.size_setCell, World.size_drew]) <;> omega)) | ((with_reducible refine Below.alloc ?_ ?_ _) <;> try ((try simp only [World.size_alloc, World.size_setCell, World.size_drew]) <;> omega)) | ((with_reducible refine Below.setCell ?_ ?_ _) <;> try ((try simp only [World.size_alloc, World.size_setCell, World.size_drew]) <;> omega)) | (with_reducible refine below_drewN ?_ _) | (with_reducible refine Below.drew ?_) | ((with_reducible refine via (by assumption) ?_ ?_) <;> try ((try simp only [World.size_alloc, World.size_setCell, World.size_drew]) <;> omega))))
        · clear hout
          have hlo : ¬ n < 0 := by omega
          go_wp2_with fail
          refine (stv_c _ _ _ _ HT.out _).mono ?_
          rintro e w5 ⟨rfl, hO_w5⟩
          have hz_w5 := hO_w5.size
          (try simp only [World.size_alloc, World.size_setCell, World.size_drew] at hz_w5)
          have hs_w5_0 : w1.heap.size < w5.heap.size := (by omega)
          have c_w5_0 := fun o => (bcell hO_w5).1 (w1.heap.size) o (by (try simp only [World.size_alloc, World.size_setCell, World.size_drew]) <;> omega)
          have f_w5_0 := fun o => (bcell hO_w5).2 (w1.heap.size) o (by (try simp only [World.size_alloc, World.size_setCell, World.size_drew]) <;> omega)
          have hs_w5_1 : w2.heap.size < w5.heap.size := (by omega)
          have c_w5_1 := fun o => (bcell hO_w5).1 (w2.heap.size) o (by (try simp only [World.size_alloc, World.size_setCell, World.size_drew]) <;> omega)
          have f_w5_1 := fun o => (bcell hO_w5).2 (w2.heap.size) o (by (try simp only [World.size_alloc, World.size_setCell, World.size_drew]) <;> omega)
          go_wp2_with (go_at_call 7; refine (alive_c _).mono ?_; rintro e w' ⟨rfl, rfl⟩)
          go_ret
          refine ⟨rfl, ?_⟩
          (repeat (first | with_reducible exact Below.refl _ _ | ((with_reducible refine viaO (by assumption) ?_ ?_ ?_) <;> try ((try simp only [World.size_alloc, World.size_setCell, World.size_drew]) <;> omega)) | ((with_reducible refine Below.alloc ?_ ?_ _) <;> try ((try simp only [World.size_alloc, World.size_setCell, World.size_drew]) <;> omega)) | ((with_reducible refine Below.setCell ?_ ?_ _) <;> try ((try simp only [World.size_alloc, World.size_setCell, World.size_drew]) <;> omega)) | (with_reducible refine below_drewN ?_ _) | (with_reducible refine Below.drew ?_) | ((with_reducible refine via (by assumption) ?_ ?_) <;> try ((try simp only [World.size_alloc, World.size_setCell, World.size_drew]) <;> omega))))
    · have hv' := hv
      rw [Bool.and_eq_true] at hv'
      obtain ⟨l0, l1, r0, r1, f0, f1⟩ := tmv_true hv'.1
      obtain ⟨n0, n1⟩ := inB_true.1 hv'.2
      have HV := Lib.hid hv
      have HT := Lib.hid hv'.1
      have z1 : ∀ x, onlyIf true x = x := onlyIf_true
      have HS := Lib.hid (fun w => ssk_c l r f n true hv w)
      clear hv hv'
      go_wp2_with fail
      refine (isk_c _ _ _ _ _ HV.out _).mono ?_
      rintro e w2 ⟨rfl, hO_w2⟩
      have hz_w2 := hO_w2.size
      (try simp only [World.size_alloc, World.size_setCell, World.size_drew] at hz_w2)
      have hs_w2_0 : w1.heap.size < w2.heap.size := (by omega)
      have c_w2_0 := fun o => (bcell hO_w2).1 (w1.heap.size) o (by (try simp only [World.size_alloc, World.size_setCell, World.size_drew]) <;> omega)
      have f_w2_0 := fun o => (bcell hO_w2).2 (w1.heap.size) o (by (try simp only [World.size_alloc, World.size_setCell, World.size_drew]) <;> omega)
      go_wp2_with fail
      refine wp_region_over (by kernel_rfl) (by kernel_rfl) ?_
      intro w3 hO_w3
      have hz_w3 := hO_w3.size
      (try simp only [World.size_alloc, World.size_setCell, World.size_drew] at hz_w3)
      have hs_w3_0 : w1.heap.size < w3.heap.size := (by omega)
      have c_w3_0 := fun o => (bcell hO_w3).1 (w1.heap.size) o (by (try simp only [World.size_alloc, World.size_setCell, World.size_drew]) <;> omega)
      have f_w3_0 := fun o => (bcell hO_w3).2 (w1.heap.size) o (by (try simp only [World.size_alloc, World.size_setCell, World.size_drew]) <;> omega)
      have hs_w3_1 : w2.heap.size < w3.heap.size := (by omega)
      have c_w3_1 := fun o => (bcell hO_w3).1 (w2.heap.size) o (by (try simp only [World.size_alloc, World.size_setCell, World.size_drew]) <;> omega)
      have f_w3_1 := fun o => (bcell hO_w3).2 (w2.heap.size) o (by (try simp only [World.size_alloc, World.size_setCell, World.size_drew]) <;> omega)
      have v_w3_0 := fun x o => over_cell w3 x (w1.heap.size) o hs_w3_0
      have v_w3_1 := fun x o => over_cell w3 x (w2.heap.size) o hs_w3_1
      repeat (go_big_quiet_step ((go_at_call 9; refine Calls.over_of (HS.out _))))
      refine wpQuiet_nil ?_
      intro w4 hx_w4
      obtain ⟨x_w4, hx_w4⟩ := hx_w4
      have hO_w4 : Below w3.heap.size w3 w4 := hx_w4 ▸ over_below w3 x_w4
      clear hx_w4
      have hz_w4 := hO_w4.size
      have hs_w4_0 : w1.heap.size < w4.heap.size := (by omega)
      have c_w4_0 := fun o => (bcell hO_w4).1 (w1.heap.size) o (by (try simp only [World.size_alloc, World.size_setCell, World.size_drew]) <;> omega)
      have f_w4_0 := fun o => (bcell hO_w4).2 (w1.heap.size) o (by (try simp only [World.size_alloc, World.size_setCell, World.size_drew]) <;> omega)
      have hs_w4_1 : w2.heap.size < w4.heap.size := (by omega)
      have c_w4_1 := fun o => (bcell hO_w4).1 (w2.heap.size) o (by (try simp only [World.size_alloc, World.size_setCell, World.size_drew]) <;> omega)
      have f_w4_1 := fun o => (bcell hO_w4).2 (w2.heap.size) o (by (try simp only [World.size_alloc, World.size_setCell, World.size_drew]) <;> omega)
      have X4 : B3 w4 w1.heap.size 24 l r f := (((B3.new w1 24 l r f).below hO_w2 (by simp)).alloc _ |>.below hO_w3 (by simp; omega)).below hO_w4 (by omega)
      have Y4 : B3 w4 w2.heap.size 24 (skL l r n) r (skF l r f n) := ((B3.new w2 24 (skL l r n) r (skF l r f n)).below hO_w3 (by simp)).below hO_w4 (by omega)
      go_wp2_with fail
      refine (stv_c _ _ _ _ HT.out _).mono ?_
      rintro e w5 ⟨rfl, hO_w5⟩
      have hz_w5 := hO_w5.size
      (try simp only [World.size_alloc, World.size_setCell, World.size_drew] at hz_w5)
      have hs_w5_0 : w1.heap.size < w5.heap.size := (by omega)
      have c_w5_0 := fun o => (bcell hO_w5).1 (w1.heap.size) o (by (try simp only [World.size_alloc, World.size_setCell, World.size_drew]) <;> omega)
      have f_w5_0 := fun o => (bcell hO_w5).2 (w1.heap.size) o (by (try simp only [World.size_alloc, World.size_setCell, World.size_drew]) <;> omega)
      have hs_w5_1 : w2.heap.size < w5.heap.size := (by omega)
      have c_w5_1 := fun o => (bcell hO_w5).1 (w2.heap.size) o (by (try simp only [World.size_alloc, World.size_setCell, World.size_drew]) <;> omega)
      have f_w5_1 := fun o => (bcell hO_w5).2 (w2.heap.size) o (by (try simp only [World.size_alloc, World.size_setCell, World.size_drew]) <;> omega)
      obtain ⟨q0, q1, q2⟩ := (X4.below hO_w5 (by omega)).cells
      have X5 := (X4.below hO_w5 (by omega)).alloc (.cells #[.int .i64 l, .int .i64 r, .int .i64 f] 24)
      have Y5 := (Y4.below hO_w5 (by omega)).alloc (.cells #[.int .i64 l, .int .i64 r, .int .i64 f] 24)
      have V5 := B3.new w5 24 l r f
      have hb5 : Below w.heap.size w w5 := by
        (repeat (first | with_reducible exact Below.refl _ _ | ((with_reducible refine viaO (by assumption) ?_ ?_ ?_) <;> try ((try simp only [World.size_alloc, World.size_setCell, World.size_drew]) <;> omega)) | ((with_reducible refine Below.alloc ?_ ?_ _) <;> try ((try simp only [World.size_alloc, World.size_setCell, World.size_drew]) <;> omega)) | ((with_reducible refine Below.setCell ?_ ?_ _) <;> try ((try simp only [World.size_alloc, World.size_setCell, World.size_drew]) <;> omega)) | (with_reducible refine below_drewN ?_ _) | (with_reducible refine Below.drew ?_) | ((with_reducible refine via (by assumption) ?_ ?_) <;> try ((try simp only [World.size_alloc, World.size_setCell, World.size_drew]) <;> omega))))
      have e5 : ¬ n < 0 := by omega
      have e6 : ¬ 100000 < n := by omega
      have f8 : f ≤ 8 := hf
      have hth : ∀ k : Int, 0 ≤ k → k ≤ 100000 → tmv (skL l r k) r (skF l r f k) = true := fun k k0 k1 => sk_bounds ⟨l0, l1⟩ ⟨r0, r1⟩ ⟨f0, f8⟩ ⟨k0, k1⟩
      have HK := Lib.hid hth
      have HA := Lib.hid (fun w => isk_yes l r f (n / 3) HT.out (inB_true.2 ⟨by omega, by omega⟩) w)
      have HB' := Lib.hid (show ∀ w, Calls Try.prog 8 #[tmV (skL l r (n / 3)) r (skF l r f (n / 3)), .int .i64 (n - n / 3)] w fun e w' => e = .returned (tmV (skL l r n) r (skF l r f n)) ∧ Below w.heap.size w w' from fun w => by
        have := isk_yes (skL l r (n / 3)) r (skF l r f (n / 3)) (n - n / 3) (hth (n / 3) (by omega) (by omega)) (inB_true.2 ⟨by omega, by omega⟩) w
        have e := sk_add (l := l) (r := r) (f := f) (a := n / 3) (b := n - n / 3) l0 r0 (by omega) (by omega)
        rw [show n / 3 + (n - n / 3) = n by omega] at e
        rwa [e.1, e.2] at this)
      have HX5 := Lib.hid X5
      have HY5 := Lib.hid Y5
      have HV5 := Lib.hid V5
      have HB5 := Lib.hid hb5
      have hlt1 : w1.heap.size < w2.heap.size := by omega
      have hlt2 : w2.heap.size < w5.heap.size := by omega
      clear hth X4 Y4 X5 Y5 V5 hb5 c_w2_0 f_w2_0 c_w3_0 f_w3_0 c_w3_1 f_w3_1 v_w3_0 v_w3_1 c_w4_0 f_w4_0 c_w4_1 f_w4_1 hO_w2 hO_w3 hO_w4
      clear c_w5_0 f_w5_0 c_w5_1 f_w5_1 hO_w5
      go_wp2
      clear q0 q1 q2
      go_loopw [7] (fun i wr => ∃ k : Nat, (k : Int) ≤ n ∧ i = .int .i64 k ∧ (200 < n → k = 0) ∧ B3 wr w5.heap.size 24 (skL l r k) r (skF l r f k) ∧ B3 wr w1.heap.size 24 l r f ∧ B3 wr w2.heap.size 24 (skL l r n) r (skF l r f n) ∧ Below w.heap.size w wr) (fun i _ => (n - intOf i).toNat)
      case atStart =>
        have hz := sk_zero l r f l0
        refine ⟨0, by omega, rfl, fun _ => rfl, ?_, HX5.out, HY5.out, HB5.out.alloc (by omega) _⟩
        rw [show skL l r ((0 : Nat) : Int) = l from hz.1, show skF l r f ((0 : Nat) : Int) = f from hz.2]
        exact HV5.out
      case round =>
        obtain ⟨k, hk, rfl, hk0, hV, hX, hY, hb⟩ := hrel
        have HVr := Lib.hid hV
        have HXr := Lib.hid hX
        have HYr := Lib.hid hY
        have HBr := Lib.hid hb
        have hlr := hV.lt
        obtain ⟨a0, a1, a2⟩ := hV.cells
        obtain ⟨g0, g1, g2⟩ := hV.free
        by_cases hlk : (k : Int) < n ∧ n ≤ 200
        · obtain ⟨hlk, h200⟩ := hlk
          have HTk := Lib.hid (HK.out (k : Int) (by omega) (by omega))
          have hT := tick (l := l) (r := r) (f := f) (k := k) l0 r0
          have HTT := Lib.hid hT
          clear hV hX hY hb hk0 hT
          go_wp2_with fail
          refine (itt_c _ _ _ _ HTk.out _).mono ?_
          rintro e w6 ⟨rfl, hO_w6⟩
          have hz_w6 := hO_w6.size
          (try simp only [World.size_alloc, World.size_setCell, World.size_drew] at hz_w6)
          have hs_w6_0 : w5.heap.size < w6.heap.size := (by omega)
          have c_w6_0 := fun o => (bcell hO_w6).1 (w5.heap.size) o (by (try simp only [World.size_alloc, World.size_setCell, World.size_drew]) <;> omega)
          have f_w6_0 := fun o => (bcell hO_w6).2 (w5.heap.size) o (by (try simp only [World.size_alloc, World.size_setCell, World.size_drew]) <;> omega)
          go_wp2
          go_roundw
          case rel =>
            refine ⟨k + 1, by omega, by go_num, by omega, ?_, ?_, ?_, ?_⟩
            · rw [← HTT.out.1, ← HTT.out.2]
              exact (HVr.out.below hO_w6 (by omega)).put _ _ _
            · exact (((HXr.out.below hO_w6 (by omega)).far (by simp; omega) _).far (by simp; omega) _).far (by simp; omega) _
            · exact (((HYr.out.below hO_w6 (by omega)).far (by simp; omega) _).far (by simp; omega) _).far (by simp; omega) _
            · refine Below.trans HBr.out ?_
              (repeat (first | with_reducible exact Below.refl _ _ | ((with_reducible refine viaO (by assumption) ?_ ?_ ?_) <;> try ((try simp only [World.size_alloc, World.size_setCell, World.size_drew]) <;> omega)) | ((with_reducible refine Below.alloc ?_ ?_ _) <;> try ((try simp only [World.size_alloc, World.size_setCell, World.size_drew]) <;> omega)) | ((with_reducible refine Below.setCell ?_ ?_ _) <;> try ((try simp only [World.size_alloc, World.size_setCell, World.size_drew]) <;> omega)) | (with_reducible refine below_drewN ?_ _) | (with_reducible refine Below.drew ?_) | ((with_reducible refine via (by assumption) ?_ ?_) <;> try ((try simp only [World.size_alloc, World.size_setCell, World.size_drew]) <;> omega))))
          case measure => simp [intOf]; omega
        · obtain ⟨b0, b1, b2⟩ := hX.cells
          obtain ⟨d0, d1, d2⟩ := hY.cells
          clear hV hX hY hb g0 g1 g2
          have e7 : IntKind.i64.wrap (n - n / 3) = n - n / 3 := IntWalk.i64_in _ (by omega)
          by_cases h200 : 200 < n
          · obtain rfl := hk0 h200
            have e8 : ¬ n ≤ 200 := by omega
            have e9 : (0 : Int) < n := by omega
            clear hk0 hlk
            go_wp2_with fail
            refine wp_region_over (by kernel_rfl) (by kernel_rfl) ?_
            intro W6 hO_W6
            have hz_W6 := hO_W6.size
            (try simp only [World.size_alloc, World.size_setCell, World.size_drew] at hz_W6)
            have hs_W6_0 : w1.heap.size < W6.heap.size := (by omega)
            have c_W6_0 := fun o => (bcell hO_W6).1 (w1.heap.size) o (by (try simp only [World.size_alloc, World.size_setCell, World.size_drew]) <;> omega)
            have f_W6_0 := fun o => (bcell hO_W6).2 (w1.heap.size) o (by (try simp only [World.size_alloc, World.size_setCell, World.size_drew]) <;> omega)
            have hs_W6_1 : w2.heap.size < W6.heap.size := (by omega)
            have c_W6_1 := fun o => (bcell hO_W6).1 (w2.heap.size) o (by (try simp only [World.size_alloc, World.size_setCell, World.size_drew]) <;> omega)
            have f_W6_1 := fun o => (bcell hO_W6).2 (w2.heap.size) o (by (try simp only [World.size_alloc, World.size_setCell, World.size_drew]) <;> omega)
            have hs_W6_2 : w5.heap.size < W6.heap.size := (by omega)
            have c_W6_2 := fun o => (bcell hO_W6).1 (w5.heap.size) o (by (try simp only [World.size_alloc, World.size_setCell, World.size_drew]) <;> omega)
            have f_W6_2 := fun o => (bcell hO_W6).2 (w5.heap.size) o (by (try simp only [World.size_alloc, World.size_setCell, World.size_drew]) <;> omega)
            have v_W6_0 := fun x o => over_cell W6 x (w1.heap.size) o hs_W6_0
            have v_W6_1 := fun x o => over_cell W6 x (w2.heap.size) o hs_W6_1
            have v_W6_2 := fun x o => over_cell W6 x (w5.heap.size) o hs_W6_2
            repeat (go_big_quiet_step ((go_at_call 8; first | (with_reducible refine Calls.over_of (HA.out _)) | (with_reducible refine Calls.over_of (HB'.out _)))))
            refine wpQuiet_nil ?_
            intro W7 hx_W7
            obtain ⟨x_W7, hx_W7⟩ := hx_W7
            have hO_W7 : Below W6.heap.size W6 W7 := hx_W7 ▸ over_below W6 x_W7
            clear hx_W7
            have hz_W7 := hO_W7.size
            have hs_W7_0 : w1.heap.size < W7.heap.size := (by omega)
            have c_W7_0 := fun o => (bcell hO_W7).1 (w1.heap.size) o (by (try simp only [World.size_alloc, World.size_setCell, World.size_drew]) <;> omega)
            have f_W7_0 := fun o => (bcell hO_W7).2 (w1.heap.size) o (by (try simp only [World.size_alloc, World.size_setCell, World.size_drew]) <;> omega)
            have hs_W7_1 : w2.heap.size < W7.heap.size := (by omega)
            have c_W7_1 := fun o => (bcell hO_W7).1 (w2.heap.size) o (by (try simp only [World.size_alloc, World.size_setCell, World.size_drew]) <;> omega)
            have f_W7_1 := fun o => (bcell hO_W7).2 (w2.heap.size) o (by (try simp only [World.size_alloc, World.size_setCell, World.size_drew]) <;> omega)
            have hs_W7_2 : w5.heap.size < W7.heap.size := (by omega)
            have c_W7_2 := fun o => (bcell hO_W7).1 (w5.heap.size) o (by (try simp only [World.size_alloc, World.size_setCell, World.size_drew]) <;> omega)
            have f_W7_2 := fun o => (bcell hO_W7).2 (w5.heap.size) o (by (try simp only [World.size_alloc, World.size_setCell, World.size_drew]) <;> omega)
            go_wp2
            go_ret
            refine ⟨rfl, ?_⟩
            refine Below.trans HBr.out ?_
            (repeat (first | with_reducible exact Below.refl _ _ | ((with_reducible refine viaO (by assumption) ?_ ?_ ?_) <;> try ((try simp only [World.size_alloc, World.size_setCell, World.size_drew]) <;> omega)) | ((with_reducible refine Below.alloc ?_ ?_ _) <;> try ((try simp only [World.size_alloc, World.size_setCell, World.size_drew]) <;> omega)) | ((with_reducible refine Below.setCell ?_ ?_ _) <;> try ((try simp only [World.size_alloc, World.size_setCell, World.size_drew]) <;> omega)) | (with_reducible refine below_drewN ?_ _) | (with_reducible refine Below.drew ?_) | ((with_reducible refine via (by assumption) ?_ ?_) <;> try ((try simp only [World.size_alloc, World.size_setCell, World.size_drew]) <;> omega))))
          · have hkn : (k : Int) = n := by omega
            clear hk0 hlk
            subst hkn
            have h201 : decide ((200 : Int) < (k : Int)) = false := by simpa using h200
            go_wp2_with fail
            refine wp_region_over (by kernel_rfl) (by kernel_rfl) ?_
            intro W6 hO_W6
            have hz_W6 := hO_W6.size
            (try simp only [World.size_alloc, World.size_setCell, World.size_drew] at hz_W6)
            have hs_W6_0 : w1.heap.size < W6.heap.size := (by omega)
            have c_W6_0 := fun o => (bcell hO_W6).1 (w1.heap.size) o (by (try simp only [World.size_alloc, World.size_setCell, World.size_drew]) <;> omega)
            have f_W6_0 := fun o => (bcell hO_W6).2 (w1.heap.size) o (by (try simp only [World.size_alloc, World.size_setCell, World.size_drew]) <;> omega)
            have hs_W6_1 : w2.heap.size < W6.heap.size := (by omega)
            have c_W6_1 := fun o => (bcell hO_W6).1 (w2.heap.size) o (by (try simp only [World.size_alloc, World.size_setCell, World.size_drew]) <;> omega)
            have f_W6_1 := fun o => (bcell hO_W6).2 (w2.heap.size) o (by (try simp only [World.size_alloc, World.size_setCell, World.size_drew]) <;> omega)
            have hs_W6_2 : w5.heap.size < W6.heap.size := (by omega)
            have c_W6_2 := fun o => (bcell hO_W6).1 (w5.heap.size) o (by (try simp only [World.size_alloc, World.size_setCell, World.size_drew]) <;> omega)
            have f_W6_2 := fun o => (bcell hO_W6).2 (w5.heap.size) o (by (try simp only [World.size_alloc, World.size_setCell, World.size_drew]) <;> omega)
            have v_W6_0 := fun x o => over_cell W6 x (w1.heap.size) o hs_W6_0
            have v_W6_1 := fun x o => over_cell W6 x (w2.heap.size) o hs_W6_1
            have v_W6_2 := fun x o => over_cell W6 x (w5.heap.size) o hs_W6_2
            repeat (go_big_quiet_step ((go_at_call 8; first | (with_reducible refine Calls.over_of (HA.out _)) | (with_reducible refine Calls.over_of (HB'.out _)))))
            refine wpQuiet_nil ?_
            intro W7 hx_W7
            obtain ⟨x_W7, hx_W7⟩ := hx_W7
            have hO_W7 : Below W6.heap.size W6 W7 := hx_W7 ▸ over_below W6 x_W7
            clear hx_W7
            have hz_W7 := hO_W7.size
            have hs_W7_0 : w1.heap.size < W7.heap.size := (by omega)
            have c_W7_0 := fun o => (bcell hO_W7).1 (w1.heap.size) o (by (try simp only [World.size_alloc, World.size_setCell, World.size_drew]) <;> omega)
            have f_W7_0 := fun o => (bcell hO_W7).2 (w1.heap.size) o (by (try simp only [World.size_alloc, World.size_setCell, World.size_drew]) <;> omega)
            have hs_W7_1 : w2.heap.size < W7.heap.size := (by omega)
            have c_W7_1 := fun o => (bcell hO_W7).1 (w2.heap.size) o (by (try simp only [World.size_alloc, World.size_setCell, World.size_drew]) <;> omega)
            have f_W7_1 := fun o => (bcell hO_W7).2 (w2.heap.size) o (by (try simp only [World.size_alloc, World.size_setCell, World.size_drew]) <;> omega)
            have hs_W7_2 : w5.heap.size < W7.heap.size := (by omega)
            have c_W7_2 := fun o => (bcell hO_W7).1 (w5.heap.size) o (by (try simp only [World.size_alloc, World.size_setCell, World.size_drew]) <;> omega)
            have f_W7_2 := fun o => (bcell hO_W7).2 (w5.heap.size) o (by (try simp only [World.size_alloc, World.size_setCell, World.size_drew]) <;> omega)
            go_wp2
            go_ret
            refine ⟨rfl, ?_⟩
            refine Below.trans HBr.out ?_
            (repeat (first | with_reducible exact Below.refl _ _ | ((with_reducible refine viaO (by assumption) ?_ ?_ ?_) <;> try ((try simp only [World.size_alloc, World.size_setCell, World.size_drew]) <;> omega)) | ((with_reducible refine Below.alloc ?_ ?_ _) <;> try ((try simp only [World.size_alloc, World.size_setCell, World.size_drew]) <;> omega)) | ((with_reducible refine Below.setCell ?_ ?_ _) <;> try ((try simp only [World.size_alloc, World.size_setCell, World.size_drew]) <;> omega)) | (with_reducible refine below_drewN ?_ _) | (with_reducible refine Below.drew ?_) | ((with_reducible refine via (by assumption) ?_ ?_) <;> try ((try simp only [World.size_alloc, World.size_setCell, World.size_drew]) <;> omega))))

set_option maxRecDepth 100000 in
theorem lifted (os : Os) (started : os.Started) (H : Type) (enc : TypeId × Value → H) :
    ReturnsInHanded {} Try.checked os 4 .any (Rows.fnSkipTimerSpec.pre6 enc Try.prog Try.f4 Rows.fnSkipTimerRow.domain false) (Rows.fnSkipTimerSpec.post enc Try.prog Try.f4 false true false false) := by
  refine returnsInHanded_of_change (C := Try.checked) own started (by kernel_rfl) Try.func4
    (ChangeSpec.witness6 (enc := enc) (C := Try.checked) false ⟨#[], #[.slice none 0 0], []⟩ 8 (by kernel_rfl) (by kernel_rfl) (by kernel_rfl) (by kernel_rfl)) ?_
  intro W base args ds gs before hval0 hW hcnd _
  have hval : ∀ (j : Nat) t v, Try.f4.params[j]? = some t → args[j]? = some v → Value.okWide Try.prog W .any base t v := hval0
  have hW' := hW
  obtain ⟨p, q, hA0, hV, rfl, hfz, hnd⟩ := hW
  have hA : DataW.TrodAll enc Try.prog W 0 (fun _ => true) true Try.f4.params.toList args.toList ds p := hA0
  rw [Try.params4] at hA hval
  obtain ⟨v0, vs0, d0, ds0, p0, q0, hargs, rfl, rfl, h0, r0⟩ := trodAll_cons hA
  obtain ⟨rfl, rfl, rfl⟩ := trodAll_nil r0
  obtain rfl : args = #[v0] := by cases args; simp_all
  obtain ⟨rfl, rfl⟩ := trodVars_none hV
  have lt0 : ∀ x ∈ p0, x.block < W.heap.size := by obtain ⟨m, hm⟩ := h0; exact DataW.trod_lt m _ _ _ hm
  have a0 := codeArg (hval 0 22 v0 rfl rfl) h0
  clear hA0 hval0
  refine (walk v0 W a0).mono fun e W' ⟨he, bel⟩ => ?_
  subst he
  exact ⟨_, rfl, _, _, _, [], _, [], hW', trodAll_mk1 (shut_bool Try.underlying4 _), (trodAll_cons_mk (Below.trod laidOut (by kernel_rfl) (of_decide_eq_true (by kernel_rfl)) h0 bel lt0) trodAll_mk0), rfl, bel.frame _, fun h => by cases h⟩

theorem proved : Rows.FnSkipTimerSaid :=
  OpenClaim.holds_of_wide 4 Try.f4 rfl rfl rfl rfl rfl rfl rfl ⟨rfl, rfl, rfl, rfl, rfl⟩ rfl rfl rfl rfl rfl (by kernel_rfl) Try.func4 (by kernel_rfl)
    (of_decide_eq_true (by kernel_rfl)) (by unfold Func.isWrapper; first | (rw [if_pos (by decide +kernel)]; kernel_rfl) | (rw [if_neg (by decide +kernel)]; exact ⟨rfl, rfl⟩))
    (fun os started H enc _ => lifted os started H enc)
#print axioms proved

end Go.Proofs.Ytnbfaaddhnhphaa.lawFnSkipTimer
