/-
  The contracts of the functions on timers, in the program and in the reference. No conditions.
-/
import Derived.Test.YtnbfaaddhnhphaaThree
import Derived.IntWalk
import Derived.StillTailTactics
namespace Go.Proofs.Ytnbfaaddhnhphaa
set_option linter.all false
set_option linter.unusedSimpArgs false
set_option linter.unusedVariables false
open Go.ChangeShapes Go.WideShapes Go.ChangeAt Go.RowKit

def tmv (l r f : Int) : Bool := inB l 0 1000 && inB r 0 1000 && inB f 0 1000000000
theorem tmv_true {l r f : Int} (h : tmv l r f = true) : 0 ≤ l ∧ l ≤ 1000 ∧ 0 ≤ r ∧ r ≤ 1000 ∧ 0 ≤ f ∧ f ≤ 1000000000 := by
  simp only [tmv, Bool.and_eq_true, inB_true] at h; omega
theorem tmv_mk {l r f : Int} (h : 0 ≤ l ∧ l ≤ 1000 ∧ 0 ≤ r ∧ r ≤ 1000 ∧ 0 ≤ f ∧ f ≤ 1000000000) : tmv l r f = true := by
  simp only [tmv, Bool.and_eq_true, inB_true]; omega
abbrev tmV (l r f : Int) : Value := .agg #[.int .i64 l, .int .i64 r, .int .i64 f]
/-- A timer behind n cycles. -/
def skL (l r n : Int) : Int := if n ≤ l then l - n else r - (n - (l + 1)) % (r + 1)
def skF (l r f n : Int) : Int := if n ≤ l then f else f + (1 + (n - (l + 1)) / (r + 1))
def onlyIf (v : Bool) (x : Int) : Int := if v = true then x else 0

theorem itv_c (l r f : Int) (v : Bool) (h : tmv l r f = v) (w : World) : Calls Try.prog 16 #[tmV l r f] w fun e w' => e = .returned (.bool v) ∧ Below w.heap.size w w' := by
  subst h
  cases hr : inB l 0 1000 <;> cases hg : inB r 0 1000 <;> cases hb : inB f 0 1000000000
  all_goals
    go_enter Try.func16, Try.ntmps16
    go_wp2_with (go_at_call 17; refine (within_c _ _ _ _ (by assumption) _).mono ?_; rintro e w1 ⟨rfl, rfl⟩)
    go_ret
    exact ⟨by simp [tmv, hr, hg, hb], (Below.refl _ _).alloc (Nat.le_refl _) _⟩

theorem stv_c (l r f : Int) (v : Bool) (h : tmv l r f = v) (w : World) : Calls Try.prog 6 #[tmV l r f] w fun e w' => e = .returned (.bool v) ∧ Below w.heap.size w w' := by
  subst h
  cases hr : inB l 0 1000 <;> cases hg : inB r 0 1000 <;> cases hb : inB f 0 1000000000
  all_goals
    go_enter Try.func6, Try.ntmps6
    go_wp2_with (go_at_call 14; refine (l1In_c _ _ _ _ (by assumption) _).mono ?_; rintro e w1 ⟨rfl, rfl⟩)
    go_ret
    exact ⟨by simp [tmv, hr, hg, hb], (Below.refl _ _).alloc (Nat.le_refl _) _⟩

theorem skip_c (l r f n : Int) (h : tmv l r f = true) (h0 : 0 ≤ n) (h1 : n ≤ 100000) (w : World) : Calls Try.prog 18 #[tmV l r f, .int .i64 n] w fun e w' => e = .returned (tmV (skL l r n) r (skF l r f n)) ∧ Below w.heap.size w w' := by
  obtain ⟨a0, a1, a2, a3, a4, a5⟩ := tmv_true h
  clear h
  by_cases hle : n ≤ l
  · have e1 : skL l r n = l - n := if_pos hle
    have e2 : skF l r f n = f := if_pos hle
    rw [e1, e2]
    go_enter Try.func18, Try.ntmps18
    go_wp2
    refine bodyPost_ret (v := tmV (l - n) r f) (by simp [results, Try.results18, go_sem, *]) rfl ⟨rfl, ?_⟩
    (repeat (first | with_reducible exact Below.refl _ _ | ((with_reducible refine viaO (by assumption) ?_ ?_ ?_) <;> try ((try simp only [World.size_alloc, World.size_setCell, World.size_drew]) <;> omega)) | ((with_reducible refine Below.alloc ?_ ?_ _) <;> try ((try simp only [World.size_alloc, World.size_setCell, World.size_drew]) <;> omega)) | ((with_reducible refine Below.setCell ?_ ?_ _) <;> try ((try simp only [World.size_alloc, World.size_setCell, World.size_drew]) <;> omega)) | (with_reducible refine below_drewN ?_ _) | (with_reducible refine Below.drew ?_) | ((with_reducible refine via (by assumption) ?_ ?_) <;> try ((try simp only [World.size_alloc, World.size_setCell, World.size_drew]) <;> omega))))
  · have e1 : skL l r n = r - (n - (l + 1)) % (r + 1) := if_neg hle
    have e2 : skF l r f n = f + (1 + (n - (l + 1)) / (r + 1)) := if_neg hle
    rw [e1, e2]
    obtain ⟨q, hq⟩ : ∃ q, (n - (l + 1)) / (r + 1) = q := ⟨_, rfl⟩
    obtain ⟨m, hm⟩ : ∃ m, (n - (l + 1)) % (r + 1) = m := ⟨_, rfl⟩
    have hq0 : 0 ≤ q := by rw [← hq]; exact Int.ediv_nonneg (by omega) (by omega)
    have hq1 : q ≤ n - (l + 1) := by rw [← hq]; exact Int.ediv_le_self _ (by omega)
    have hm0 : 0 ≤ m := by rw [← hm]; exact Int.emod_nonneg _ (by omega)
    have hm1 : m < r + 1 := by rw [← hm]; exact Int.emod_lt_of_pos _ (by omega)
    have e6 : IntKind.i64.wrap ((n - (l + 1)).tdiv (r + 1)) = q := by rw [IntWalk.i64_quo _ _ (by omega), hq]
    have e7 : (n - (l + 1)).tmod (r + 1) = m := by rw [Int.tmod_eq_emod_of_nonneg (by omega), hm]
    rw [hq, hm]
    clear hq hm
    have e8 : IntKind.i64.wrap (1 + q) = 1 + q := IntWalk.i64_in _ (by omega)
    have e9 : IntKind.i64.wrap (f + (1 + q)) = f + (1 + q) := IntWalk.i64_in _ (by omega)
    have e10 : IntKind.i64.wrap (r - m) = r - m := IntWalk.i64_in _ (by omega)
    have E := Lib.hid (And.intro e6 (And.intro e7 (And.intro e8 (And.intro e9 e10))))
    clear e6 e7 e8 e9 e10
    have k0 := (B3.new w 24 l r f).alloc (.cells #[.int .i64 0, .int .i64 0, .int .i64 0] 24)
    have k1 := B3.new1 w (.cells #[.int .i64 l, .int .i64 r, .int .i64 f] 24) 24 0 0 0
    have bel : Below w.heap.size w ((w.alloc (.cells #[.int .i64 l, .int .i64 r, .int .i64 f] 24)).alloc (.cells #[.int .i64 0, .int .i64 0, .int .i64 0] 24)) := by
      (repeat (first | with_reducible exact Below.refl _ _ | ((with_reducible refine viaO (by assumption) ?_ ?_ ?_) <;> try ((try simp only [World.size_alloc, World.size_setCell, World.size_drew]) <;> omega)) | ((with_reducible refine Below.alloc ?_ ?_ _) <;> try ((try simp only [World.size_alloc, World.size_setCell, World.size_drew]) <;> omega)) | ((with_reducible refine Below.setCell ?_ ?_ _) <;> try ((try simp only [World.size_alloc, World.size_setCell, World.size_drew]) <;> omega)) | (with_reducible refine below_drewN ?_ _) | (with_reducible refine Below.drew ?_) | ((with_reducible refine via (by assumption) ?_ ?_) <;> try ((try simp only [World.size_alloc, World.size_setCell, World.size_drew]) <;> omega))))
    have K0 := Lib.hid k0
    have K1 := Lib.hid k1
    have HB := Lib.hid bel
    clear k0 k1 bel
    go_enter Try.func18, Try.ntmps18
    go_wp2
    generalize ((w.alloc (.cells #[.int .i64 l, .int .i64 r, .int .i64 f] 24)).alloc (.cells #[.int .i64 0, .int .i64 0, .int .i64 0] 24)) = W at *
    have e3 : IntKind.i64.wrap (r + 1) = r + 1 := IntWalk.i64_in _ (by omega)
    have e5 : ¬ (r + 1 = 0) := by omega
    obtain ⟨e6, e7, e8, e9, e10⟩ := E.out
    obtain ⟨c0, c1, c2⟩ := K0.out.cells
    obtain ⟨z0, z1, z2⟩ := K1.out.cells
    obtain ⟨f0, f1, f2⟩ := K0.out.free
    obtain ⟨y0, y1, y2⟩ := K1.out.free
    go_still_tail 10, (by kernel_rfl)
    change wpList _ _ _ _ _ W.drew
    go_wp2
    have k0 := (K0.out.put2 (f + (1 + q))).drew
    have k1 := (K1.out.far (a := ⟨w.heap.size, 2, none⟩) (by simp) (.int .i64 (f + (1 + q)))).drew
    have bel := ((HB.out.setCell (p := ⟨w.heap.size, 2, none⟩) (Nat.le_refl _) (.int .i64 (f + (1 + q))))).drew
    have K0' := Lib.hid k0
    have K1' := Lib.hid k1
    have HB' := Lib.hid bel
    clear k0 k1 bel K0 K1 HB c0 c1 c2 z0 z1 z2 f0 f1 f2 y0 y1 y2
    generalize (W.setCell ⟨w.heap.size, 2, none⟩ (.int .i64 (f + (1 + q)))).drew = V at *
    obtain ⟨c0, c1, c2⟩ := K0'.out.cells
    obtain ⟨z0, z1, z2⟩ := K1'.out.cells
    obtain ⟨f0, f1, f2⟩ := K0'.out.free
    obtain ⟨y0, y1, y2⟩ := K1'.out.free
    go_still_tail 9, (by kernel_rfl)
    change wpList _ _ _ _ _ V.drew
    go_wp2
    refine bodyPost_ret (v := tmV (r - m) r (f + (1 + q))) (by simp [results, Try.results18, go_sem, *]) rfl ⟨rfl, ?_⟩
    refine Below.trans HB'.out ?_
    (repeat (first | with_reducible exact Below.refl _ _ | ((with_reducible refine viaO (by assumption) ?_ ?_ ?_) <;> try ((try simp only [World.size_alloc, World.size_setCell, World.size_drew]) <;> omega)) | ((with_reducible refine Below.alloc ?_ ?_ _) <;> try ((try simp only [World.size_alloc, World.size_setCell, World.size_drew]) <;> omega)) | ((with_reducible refine Below.setCell ?_ ?_ _) <;> try ((try simp only [World.size_alloc, World.size_setCell, World.size_drew]) <;> omega)) | (with_reducible refine below_drewN ?_ _) | (with_reducible refine Below.drew ?_) | ((with_reducible refine via (by assumption) ?_ ?_) <;> try ((try simp only [World.size_alloc, World.size_setCell, World.size_drew]) <;> omega))))

theorem isk_yes (l r f n : Int) (h : tmv l r f = true) (hn : inB n 0 100000 = true) (w : World) : Calls Try.prog 8 #[tmV l r f, .int .i64 n] w fun e w' => e = .returned (tmV (skL l r n) r (skF l r f n)) ∧ Below w.heap.size w w' := by
  obtain ⟨n0, n1⟩ := inB_true.1 hn
  have H := Lib.hid h
  have HN := Lib.hid hn
  clear h hn
  go_enter Try.func8, Try.ntmps8
  go_wp2_with fail
  refine (itv_c _ _ _ _ H.out _).mono ?_
  rintro e w1 ⟨rfl, hO_w1⟩
  have hz_w1 := hO_w1.size
  (try simp only [World.size_alloc, World.size_setCell, World.size_drew] at hz_w1)
  have hs_w1_0 : w.heap.size < w1.heap.size := (by omega)
  have c_w1_0 := fun o => (bcell hO_w1).1 (w.heap.size) o (by (try simp only [World.size_alloc, World.size_setCell, World.size_drew]) <;> omega)
  have f_w1_0 := fun o => (bcell hO_w1).2 (w.heap.size) o (by (try simp only [World.size_alloc, World.size_setCell, World.size_drew]) <;> omega)
  have hs_w1_1 : w.heap.size + 1 < w1.heap.size := (by omega)
  have c_w1_1 := fun o => (bcell hO_w1).1 (w.heap.size + 1) o (by (try simp only [World.size_alloc, World.size_setCell, World.size_drew]) <;> omega)
  have f_w1_1 := fun o => (bcell hO_w1).2 (w.heap.size + 1) o (by (try simp only [World.size_alloc, World.size_setCell, World.size_drew]) <;> omega)
  go_wp2_with (go_at_call 17; refine (within_c _ _ _ _ HN.out _).mono ?_; rintro e w1 ⟨rfl, rfl⟩)
  go_wp2_with fail
  refine (skip_c _ _ _ _ H.out n0 n1 _).mono ?_
  rintro e w2 ⟨rfl, hO_w2⟩
  have hz_w2 := hO_w2.size
  (try simp only [World.size_alloc, World.size_setCell, World.size_drew] at hz_w2)
  have hs_w2_0 : w.heap.size < w2.heap.size := (by omega)
  have c_w2_0 := fun o => (bcell hO_w2).1 (w.heap.size) o (by (try simp only [World.size_alloc, World.size_setCell, World.size_drew]) <;> omega)
  have f_w2_0 := fun o => (bcell hO_w2).2 (w.heap.size) o (by (try simp only [World.size_alloc, World.size_setCell, World.size_drew]) <;> omega)
  have hs_w2_1 : w.heap.size + 1 < w2.heap.size := (by omega)
  have c_w2_1 := fun o => (bcell hO_w2).1 (w.heap.size + 1) o (by (try simp only [World.size_alloc, World.size_setCell, World.size_drew]) <;> omega)
  have f_w2_1 := fun o => (bcell hO_w2).2 (w.heap.size + 1) o (by (try simp only [World.size_alloc, World.size_setCell, World.size_drew]) <;> omega)
  go_wp2
  refine bodyPost_ret (v := tmV (skL l r n) r (skF l r f n)) (by simp [results, Try.results8, go_sem, *]) rfl ⟨rfl, ?_⟩
  (repeat (first | with_reducible exact Below.refl _ _ | ((with_reducible refine viaO (by assumption) ?_ ?_ ?_) <;> try ((try simp only [World.size_alloc, World.size_setCell, World.size_drew]) <;> omega)) | ((with_reducible refine Below.alloc ?_ ?_ _) <;> try ((try simp only [World.size_alloc, World.size_setCell, World.size_drew]) <;> omega)) | ((with_reducible refine Below.setCell ?_ ?_ _) <;> try ((try simp only [World.size_alloc, World.size_setCell, World.size_drew]) <;> omega)) | (with_reducible refine below_drewN ?_ _) | (with_reducible refine Below.drew ?_) | ((with_reducible refine via (by assumption) ?_ ?_) <;> try ((try simp only [World.size_alloc, World.size_setCell, World.size_drew]) <;> omega))))

theorem isk_no (l r f n : Int) (h : (tmv l r f && inB n 0 100000) = false) (w : World) : Calls Try.prog 8 #[tmV l r f, .int .i64 n] w fun e w' => e = .returned (tmV 0 0 0) ∧ Below w.heap.size w w' := by
  cases hv : tmv l r f
  · have H := Lib.hid hv
    clear h hv
    go_enter Try.func8, Try.ntmps8
    go_wp2_with fail
    refine (itv_c _ _ _ _ H.out _).mono ?_
    rintro e w1 ⟨rfl, hO_w1⟩
    have hz_w1 := hO_w1.size
    (try simp only [World.size_alloc, World.size_setCell, World.size_drew] at hz_w1)
    have hs_w1_0 : w.heap.size < w1.heap.size := (by omega)
    have c_w1_0 := fun o => (bcell hO_w1).1 (w.heap.size) o (by (try simp only [World.size_alloc, World.size_setCell, World.size_drew]) <;> omega)
    have f_w1_0 := fun o => (bcell hO_w1).2 (w.heap.size) o (by (try simp only [World.size_alloc, World.size_setCell, World.size_drew]) <;> omega)
    have hs_w1_1 : w.heap.size + 1 < w1.heap.size := (by omega)
    have c_w1_1 := fun o => (bcell hO_w1).1 (w.heap.size + 1) o (by (try simp only [World.size_alloc, World.size_setCell, World.size_drew]) <;> omega)
    have f_w1_1 := fun o => (bcell hO_w1).2 (w.heap.size + 1) o (by (try simp only [World.size_alloc, World.size_setCell, World.size_drew]) <;> omega)
    go_wp2
    refine bodyPost_ret (v := tmV 0 0 0) (by simp [results, Try.results8, go_sem, *]) rfl ⟨rfl, ?_⟩
    (repeat (first | with_reducible exact Below.refl _ _ | ((with_reducible refine viaO (by assumption) ?_ ?_ ?_) <;> try ((try simp only [World.size_alloc, World.size_setCell, World.size_drew]) <;> omega)) | ((with_reducible refine Below.alloc ?_ ?_ _) <;> try ((try simp only [World.size_alloc, World.size_setCell, World.size_drew]) <;> omega)) | ((with_reducible refine Below.setCell ?_ ?_ _) <;> try ((try simp only [World.size_alloc, World.size_setCell, World.size_drew]) <;> omega)) | (with_reducible refine below_drewN ?_ _) | (with_reducible refine Below.drew ?_) | ((with_reducible refine via (by assumption) ?_ ?_) <;> try ((try simp only [World.size_alloc, World.size_setCell, World.size_drew]) <;> omega))))
  · have hn : inB n 0 100000 = false := by rw [hv] at h; simpa using h
    have H := Lib.hid hv
    have HN := Lib.hid hn
    clear h hv hn
    go_enter Try.func8, Try.ntmps8
    go_wp2_with fail
    refine (itv_c _ _ _ _ H.out _).mono ?_
    rintro e w1 ⟨rfl, hO_w1⟩
    have hz_w1 := hO_w1.size
    (try simp only [World.size_alloc, World.size_setCell, World.size_drew] at hz_w1)
    have hs_w1_0 : w.heap.size < w1.heap.size := (by omega)
    have c_w1_0 := fun o => (bcell hO_w1).1 (w.heap.size) o (by (try simp only [World.size_alloc, World.size_setCell, World.size_drew]) <;> omega)
    have f_w1_0 := fun o => (bcell hO_w1).2 (w.heap.size) o (by (try simp only [World.size_alloc, World.size_setCell, World.size_drew]) <;> omega)
    have hs_w1_1 : w.heap.size + 1 < w1.heap.size := (by omega)
    have c_w1_1 := fun o => (bcell hO_w1).1 (w.heap.size + 1) o (by (try simp only [World.size_alloc, World.size_setCell, World.size_drew]) <;> omega)
    have f_w1_1 := fun o => (bcell hO_w1).2 (w.heap.size + 1) o (by (try simp only [World.size_alloc, World.size_setCell, World.size_drew]) <;> omega)
    go_wp2_with (go_at_call 17; refine (within_c _ _ _ _ HN.out _).mono ?_; rintro e w1 ⟨rfl, rfl⟩)
    refine bodyPost_ret (v := tmV 0 0 0) (by simp [results, Try.results8, go_sem, *]) rfl ⟨rfl, ?_⟩
    (repeat (first | with_reducible exact Below.refl _ _ | ((with_reducible refine viaO (by assumption) ?_ ?_ ?_) <;> try ((try simp only [World.size_alloc, World.size_setCell, World.size_drew]) <;> omega)) | ((with_reducible refine Below.alloc ?_ ?_ _) <;> try ((try simp only [World.size_alloc, World.size_setCell, World.size_drew]) <;> omega)) | ((with_reducible refine Below.setCell ?_ ?_ _) <;> try ((try simp only [World.size_alloc, World.size_setCell, World.size_drew]) <;> omega)) | (with_reducible refine below_drewN ?_ _) | (with_reducible refine Below.drew ?_) | ((with_reducible refine via (by assumption) ?_ ?_) <;> try ((try simp only [World.size_alloc, World.size_setCell, World.size_drew]) <;> omega))))

theorem ssk_no (l r f n : Int) (h : (tmv l r f && inB n 0 100000) = false) (w : World) : Calls Try.prog 9 #[tmV l r f, .int .i64 n] w fun e w' => e = .returned (tmV 0 0 0) ∧ Below w.heap.size w w' := by
  cases hv : tmv l r f
  · have H := Lib.hid hv
    clear h hv
    go_enter Try.func9, Try.ntmps9
    go_wp2_with fail
    refine (stv_c _ _ _ _ H.out _).mono ?_
    rintro e w1 ⟨rfl, hO_w1⟩
    have hz_w1 := hO_w1.size
    (try simp only [World.size_alloc, World.size_setCell, World.size_drew] at hz_w1)
    have hs_w1_0 : w.heap.size < w1.heap.size := (by omega)
    have c_w1_0 := fun o => (bcell hO_w1).1 (w.heap.size) o (by (try simp only [World.size_alloc, World.size_setCell, World.size_drew]) <;> omega)
    have f_w1_0 := fun o => (bcell hO_w1).2 (w.heap.size) o (by (try simp only [World.size_alloc, World.size_setCell, World.size_drew]) <;> omega)
    have hs_w1_1 : w.heap.size + 1 < w1.heap.size := (by omega)
    have c_w1_1 := fun o => (bcell hO_w1).1 (w.heap.size + 1) o (by (try simp only [World.size_alloc, World.size_setCell, World.size_drew]) <;> omega)
    have f_w1_1 := fun o => (bcell hO_w1).2 (w.heap.size + 1) o (by (try simp only [World.size_alloc, World.size_setCell, World.size_drew]) <;> omega)
    go_wp2
    refine bodyPost_ret (v := tmV 0 0 0) (by simp [results, Try.results9, go_sem, *]) rfl ⟨rfl, ?_⟩
    (repeat (first | with_reducible exact Below.refl _ _ | ((with_reducible refine viaO (by assumption) ?_ ?_ ?_) <;> try ((try simp only [World.size_alloc, World.size_setCell, World.size_drew]) <;> omega)) | ((with_reducible refine Below.alloc ?_ ?_ _) <;> try ((try simp only [World.size_alloc, World.size_setCell, World.size_drew]) <;> omega)) | ((with_reducible refine Below.setCell ?_ ?_ _) <;> try ((try simp only [World.size_alloc, World.size_setCell, World.size_drew]) <;> omega)) | (with_reducible refine below_drewN ?_ _) | (with_reducible refine Below.drew ?_) | ((with_reducible refine via (by assumption) ?_ ?_) <;> try ((try simp only [World.size_alloc, World.size_setCell, World.size_drew]) <;> omega))))
  · have hn : inB n 0 100000 = false := by rw [hv] at h; simpa using h
    have H := Lib.hid hv
    have HN := Lib.hid hn
    clear h hv hn
    go_enter Try.func9, Try.ntmps9
    go_wp2_with fail
    refine (stv_c _ _ _ _ H.out _).mono ?_
    rintro e w1 ⟨rfl, hO_w1⟩
    have hz_w1 := hO_w1.size
    (try simp only [World.size_alloc, World.size_setCell, World.size_drew] at hz_w1)
    have hs_w1_0 : w.heap.size < w1.heap.size := (by omega)
    have c_w1_0 := fun o => (bcell hO_w1).1 (w.heap.size) o (by (try simp only [World.size_alloc, World.size_setCell, World.size_drew]) <;> omega)
    have f_w1_0 := fun o => (bcell hO_w1).2 (w.heap.size) o (by (try simp only [World.size_alloc, World.size_setCell, World.size_drew]) <;> omega)
    have hs_w1_1 : w.heap.size + 1 < w1.heap.size := (by omega)
    have c_w1_1 := fun o => (bcell hO_w1).1 (w.heap.size + 1) o (by (try simp only [World.size_alloc, World.size_setCell, World.size_drew]) <;> omega)
    have f_w1_1 := fun o => (bcell hO_w1).2 (w.heap.size + 1) o (by (try simp only [World.size_alloc, World.size_setCell, World.size_drew]) <;> omega)
    go_wp2_with (go_at_call 14; refine (l1In_c _ _ _ _ HN.out _).mono ?_; rintro e w1 ⟨rfl, rfl⟩)
    refine bodyPost_ret (v := tmV 0 0 0) (by simp [results, Try.results9, go_sem, *]) rfl ⟨rfl, ?_⟩
    (repeat (first | with_reducible exact Below.refl _ _ | ((with_reducible refine viaO (by assumption) ?_ ?_ ?_) <;> try ((try simp only [World.size_alloc, World.size_setCell, World.size_drew]) <;> omega)) | ((with_reducible refine Below.alloc ?_ ?_ _) <;> try ((try simp only [World.size_alloc, World.size_setCell, World.size_drew]) <;> omega)) | ((with_reducible refine Below.setCell ?_ ?_ _) <;> try ((try simp only [World.size_alloc, World.size_setCell, World.size_drew]) <;> omega)) | (with_reducible refine below_drewN ?_ _) | (with_reducible refine Below.drew ?_) | ((with_reducible refine via (by assumption) ?_ ?_) <;> try ((try simp only [World.size_alloc, World.size_setCell, World.size_drew]) <;> omega))))

theorem ssk_yes (l r f n : Int) (h : tmv l r f = true) (hn : inB n 0 100000 = true) (w : World) : Calls Try.prog 9 #[tmV l r f, .int .i64 n] w fun e w' => e = .returned (tmV (skL l r n) r (skF l r f n)) ∧ Below w.heap.size w w' := by
  obtain ⟨n0, n1⟩ := inB_true.1 hn
  obtain ⟨a0, a1, a2, a3, a4, a5⟩ := tmv_true h
  have H := Lib.hid h
  have HN := Lib.hid hn
  clear h hn
  by_cases hle : n ≤ l
  · have e1 : skL l r n = l - n := if_pos hle
    have e2 : skF l r f n = f := if_pos hle
    rw [e1, e2]
    clear e1 e2
    go_enter Try.func9, Try.ntmps9
    go_wp2_with fail
    refine (stv_c _ _ _ _ H.out _).mono ?_
    rintro e w1 ⟨rfl, hO_w1⟩
    have hz_w1 := hO_w1.size
    (try simp only [World.size_alloc, World.size_setCell, World.size_drew] at hz_w1)
    have hs_w1_0 : w.heap.size < w1.heap.size := (by omega)
    have c_w1_0 := fun o => (bcell hO_w1).1 (w.heap.size) o (by (try simp only [World.size_alloc, World.size_setCell, World.size_drew]) <;> omega)
    have f_w1_0 := fun o => (bcell hO_w1).2 (w.heap.size) o (by (try simp only [World.size_alloc, World.size_setCell, World.size_drew]) <;> omega)
    have hs_w1_1 : w.heap.size + 1 < w1.heap.size := (by omega)
    have c_w1_1 := fun o => (bcell hO_w1).1 (w.heap.size + 1) o (by (try simp only [World.size_alloc, World.size_setCell, World.size_drew]) <;> omega)
    have f_w1_1 := fun o => (bcell hO_w1).2 (w.heap.size + 1) o (by (try simp only [World.size_alloc, World.size_setCell, World.size_drew]) <;> omega)
    go_wp2_with (go_at_call 14; refine (l1In_c _ _ _ _ HN.out _).mono ?_; rintro e w1 ⟨rfl, rfl⟩)
    refine bodyPost_ret (v := tmV (l - n) r f) (by simp [results, Try.results9, go_sem, *]) rfl ⟨rfl, ?_⟩
    (repeat (first | with_reducible exact Below.refl _ _ | ((with_reducible refine viaO (by assumption) ?_ ?_ ?_) <;> try ((try simp only [World.size_alloc, World.size_setCell, World.size_drew]) <;> omega)) | ((with_reducible refine Below.alloc ?_ ?_ _) <;> try ((try simp only [World.size_alloc, World.size_setCell, World.size_drew]) <;> omega)) | ((with_reducible refine Below.setCell ?_ ?_ _) <;> try ((try simp only [World.size_alloc, World.size_setCell, World.size_drew]) <;> omega)) | (with_reducible refine below_drewN ?_ _) | (with_reducible refine Below.drew ?_) | ((with_reducible refine via (by assumption) ?_ ?_) <;> try ((try simp only [World.size_alloc, World.size_setCell, World.size_drew]) <;> omega))))
  · have e1 : skL l r n = r - (n - (l + 1)) % (r + 1) := if_neg hle
    have e2 : skF l r f n = f + (1 + (n - (l + 1)) / (r + 1)) := if_neg hle
    rw [e1, e2]
    clear e1 e2
    rw [show n - (l + 1) = n - l - 1 by omega]
    obtain ⟨q, hq⟩ : ∃ q, (n - l - 1) / (r + 1) = q := ⟨_, rfl⟩
    obtain ⟨m, hm⟩ : ∃ m, (n - l - 1) % (r + 1) = m := ⟨_, rfl⟩
    have hq0 : 0 ≤ q := by rw [← hq]; exact Int.ediv_nonneg (by omega) (by omega)
    have hq1 : q ≤ n - l - 1 := by rw [← hq]; exact Int.ediv_le_self _ (by omega)
    have hm0 : 0 ≤ m := by rw [← hm]; exact Int.emod_nonneg _ (by omega)
    have hm1 : m < r + 1 := by rw [← hm]; exact Int.emod_lt_of_pos _ (by omega)
    have e6 : IntKind.i64.wrap ((n - l - 1).tdiv (r + 1)) = q := by rw [IntWalk.i64_quo _ _ (by omega), hq]
    have e7 : (n - l - 1).tmod (r + 1) = m := by rw [Int.tmod_eq_emod_of_nonneg (by omega), hm]
    rw [hq, hm]
    clear hq hm
    have e8 : IntKind.i64.wrap (f + 1) = f + 1 := IntWalk.i64_in _ (by omega)
    rw [show f + (1 + q) = f + 1 + q by omega]
    have e9 : IntKind.i64.wrap (f + 1 + q) = f + 1 + q := IntWalk.i64_in _ (by omega)
    have e10 : IntKind.i64.wrap (r - m) = r - m := IntWalk.i64_in _ (by omega)
    have E := Lib.hid (And.intro e6 (And.intro e7 (And.intro e8 (And.intro e9 e10))))
    clear e6 e7 e8 e9 e10
    have k0 := (B3.new w 24 l r f).alloc (.cells #[.int .i64 0, .int .i64 0, .int .i64 0] 24)
    have k1 := B3.new1 w (.cells #[.int .i64 l, .int .i64 r, .int .i64 f] 24) 24 0 0 0
    have bel : Below w.heap.size w ((w.alloc (.cells #[.int .i64 l, .int .i64 r, .int .i64 f] 24)).alloc (.cells #[.int .i64 0, .int .i64 0, .int .i64 0] 24)) := by
      (repeat (first | with_reducible exact Below.refl _ _ | ((with_reducible refine viaO (by assumption) ?_ ?_ ?_) <;> try ((try simp only [World.size_alloc, World.size_setCell, World.size_drew]) <;> omega)) | ((with_reducible refine Below.alloc ?_ ?_ _) <;> try ((try simp only [World.size_alloc, World.size_setCell, World.size_drew]) <;> omega)) | ((with_reducible refine Below.setCell ?_ ?_ _) <;> try ((try simp only [World.size_alloc, World.size_setCell, World.size_drew]) <;> omega)) | (with_reducible refine below_drewN ?_ _) | (with_reducible refine Below.drew ?_) | ((with_reducible refine via (by assumption) ?_ ?_) <;> try ((try simp only [World.size_alloc, World.size_setCell, World.size_drew]) <;> omega))))
    have KK0 := Lib.hid k0
    have KK1 := Lib.hid k1
    have HBB := Lib.hid bel
    clear k0 k1 bel
    go_enter Try.func9, Try.ntmps9
    go_wp2_with fail
    refine (stv_c _ _ _ _ H.out _).mono ?_
    rintro e W ⟨rfl, hO_W⟩
    have hz_W := hO_W.size
    (try simp only [World.size_alloc, World.size_setCell, World.size_drew] at hz_W)
    have k0 := KK0.out.below hO_W (by simp <;> omega)
    have k1 := KK1.out.below hO_W (by simp)
    have K0 := Lib.hid k0
    have K1 := Lib.hid k1
    have HB := Lib.hid (via hO_W HBB.out HBB.out.size)
    obtain ⟨cc0, cc1, cc2⟩ := k0.cells
    clear k0 k1 KK0 KK1 HBB
    go_wp2_with (go_at_call 14; refine (l1In_c _ _ _ _ HN.out _).mono ?_; rintro e w1 ⟨rfl, rfl⟩)
    clear cc0 cc1 cc2
    have e3 : IntKind.i64.wrap (r + 1) = r + 1 := IntWalk.i64_in _ (by omega)
    have e5 : ¬ (r + 1 = 0) := by omega
    obtain ⟨e6, e7, e8, e9, e10⟩ := E.out
    obtain ⟨c0, c1, c2⟩ := K0.out.cells
    obtain ⟨z0, z1, z2⟩ := K1.out.cells
    obtain ⟨f0, f1, f2⟩ := K0.out.free
    obtain ⟨y0, y1, y2⟩ := K1.out.free
    go_still_tail 10, (by kernel_rfl)
    change wpList _ _ _ _ _ W.drew
    go_wp2
    have k0 := (K0.out.put2 (f + 1 + q)).drew
    have k1 := (K1.out.far (a := ⟨w.heap.size, 2, none⟩) (by simp) (.int .i64 (f + 1 + q))).drew
    have bel := ((HB.out.setCell (p := ⟨w.heap.size, 2, none⟩) (Nat.le_refl _) (.int .i64 (f + 1 + q)))).drew
    have K0' := Lib.hid k0
    have K1' := Lib.hid k1
    have HB' := Lib.hid bel
    clear k0 k1 bel K0 K1 HB c0 c1 c2 z0 z1 z2 f0 f1 f2 y0 y1 y2
    generalize (W.setCell ⟨w.heap.size, 2, none⟩ (.int .i64 (f + 1 + q))).drew = V at *
    obtain ⟨c0, c1, c2⟩ := K0'.out.cells
    obtain ⟨z0, z1, z2⟩ := K1'.out.cells
    obtain ⟨f0, f1, f2⟩ := K0'.out.free
    obtain ⟨y0, y1, y2⟩ := K1'.out.free
    go_still_tail 9, (by kernel_rfl)
    change wpList _ _ _ _ _ V.drew
    go_wp2
    refine bodyPost_ret (v := tmV (r - m) r (f + 1 + q)) (by simp [results, Try.results9, go_sem, *]) rfl ⟨rfl, ?_⟩
    refine Below.trans HB'.out ?_
    (repeat (first | with_reducible exact Below.refl _ _ | ((with_reducible refine viaO (by assumption) ?_ ?_ ?_) <;> try ((try simp only [World.size_alloc, World.size_setCell, World.size_drew]) <;> omega)) | ((with_reducible refine Below.alloc ?_ ?_ _) <;> try ((try simp only [World.size_alloc, World.size_setCell, World.size_drew]) <;> omega)) | ((with_reducible refine Below.setCell ?_ ?_ _) <;> try ((try simp only [World.size_alloc, World.size_setCell, World.size_drew]) <;> omega)) | (with_reducible refine below_drewN ?_ _) | (with_reducible refine Below.drew ?_) | ((with_reducible refine via (by assumption) ?_ ?_) <;> try ((try simp only [World.size_alloc, World.size_setCell, World.size_drew]) <;> omega))))

theorem isk_c (l r f n : Int) (v : Bool) (hv : (tmv l r f && inB n 0 100000) = v) (w : World) : Calls Try.prog 8 #[tmV l r f, .int .i64 n] w fun e w' => e = .returned (tmV (onlyIf v (skL l r n)) (onlyIf v r) (onlyIf v (skF l r f n))) ∧ Below w.heap.size w w' := by
  cases v
  · exact isk_no l r f n hv w
  · rw [Bool.and_eq_true] at hv
    exact isk_yes l r f n hv.1 hv.2 w

theorem ssk_c (l r f n : Int) (v : Bool) (hv : (tmv l r f && inB n 0 100000) = v) (w : World) : Calls Try.prog 9 #[tmV l r f, .int .i64 n] w fun e w' => e = .returned (tmV (onlyIf v (skL l r n)) (onlyIf v r) (onlyIf v (skF l r f n))) ∧ Below w.heap.size w w' := by
  cases v
  · exact ssk_no l r f n hv w
  · rw [Bool.and_eq_true] at hv
    exact ssk_yes l r f n hv.1 hv.2 w

theorem itt_c (l r f : Int) (v : Bool) (hv : tmv l r f = v) (w : World) : Calls Try.prog 10 #[tmV l r f] w fun e w' => e = .returned (tmV (onlyIf v (skL l r 1)) (onlyIf v r) (onlyIf v (skF l r f 1))) ∧ Below w.heap.size w w' := by
  have H := Lib.hid (show (tmv l r f && inB 1 0 100000) = v by rw [hv]; cases v <;> rfl)
  clear hv
  go_enter Try.func10, Try.ntmps10
  go_wp2_with fail
  refine (isk_c _ _ _ _ _ H.out _).mono ?_
  rintro e w1 ⟨rfl, hO_w1⟩
  have hz_w1 := hO_w1.size
  (try simp only [World.size_alloc, World.size_setCell, World.size_drew] at hz_w1)
  have hs_w1_0 : w.heap.size < w1.heap.size := (by omega)
  have c_w1_0 := fun o => (bcell hO_w1).1 (w.heap.size) o (by (try simp only [World.size_alloc, World.size_setCell, World.size_drew]) <;> omega)
  have f_w1_0 := fun o => (bcell hO_w1).2 (w.heap.size) o (by (try simp only [World.size_alloc, World.size_setCell, World.size_drew]) <;> omega)
  have hs_w1_1 : w.heap.size + 1 < w1.heap.size := (by omega)
  have c_w1_1 := fun o => (bcell hO_w1).1 (w.heap.size + 1) o (by (try simp only [World.size_alloc, World.size_setCell, World.size_drew]) <;> omega)
  have f_w1_1 := fun o => (bcell hO_w1).2 (w.heap.size + 1) o (by (try simp only [World.size_alloc, World.size_setCell, World.size_drew]) <;> omega)
  go_wp2
  refine bodyPost_ret (v := tmV (onlyIf v (skL l r 1)) (onlyIf v r) (onlyIf v (skF l r f 1))) (by simp [results, Try.results10, go_sem, *]) rfl ⟨rfl, ?_⟩
  (repeat (first | with_reducible exact Below.refl _ _ | ((with_reducible refine viaO (by assumption) ?_ ?_ ?_) <;> try ((try simp only [World.size_alloc, World.size_setCell, World.size_drew]) <;> omega)) | ((with_reducible refine Below.alloc ?_ ?_ _) <;> try ((try simp only [World.size_alloc, World.size_setCell, World.size_drew]) <;> omega)) | ((with_reducible refine Below.setCell ?_ ?_ _) <;> try ((try simp only [World.size_alloc, World.size_setCell, World.size_drew]) <;> omega)) | (with_reducible refine below_drewN ?_ _) | (with_reducible refine Below.drew ?_) | ((with_reducible refine via (by assumption) ?_ ?_) <;> try ((try simp only [World.size_alloc, World.size_setCell, World.size_drew]) <;> omega))))

end Go.Proofs.Ytnbfaaddhnhphaa
