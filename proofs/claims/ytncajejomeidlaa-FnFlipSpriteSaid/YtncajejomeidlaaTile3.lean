/-
  The contracts of FlipTile, in the program and in the reference. No conditions.
-/
import Derived.Test.YtncajejomeidlaaTile2
import Derived.IntWalk
namespace Go.Proofs.Ytncajejomeidlaa
set_option linter.all false
set_option linter.unusedSimpArgs false
set_option linter.unusedVariables false
open Go.ChangeShapes Go.WideShapes Go.ChangeAt Go.RowKit

def fl (b : Bool) (n : Nat) : Nat := if b = true then 7 - n else n
theorem fl_lt (b : Bool) {n : Nat} (h : n < 8) : fl b n < 8 := by unfold fl; split <;> omega
def flipP (a d : Bool) (p : Nat → Int) : Nat → Int := fun j => p (8 * fl d (j / 8) + fl a (j % 8))
def flipK (a d : Bool) (p : Nat → Int) (k : Nat) : Nat → Int := fun j => if j < k then flipP a d p j else 0
theorem flip_lt (a d : Bool) {k : Nat} (hk : k < 64) : 8 * fl d (k / 8) + fl a (k % 8) < 64 := by
  have h1 := fl_lt d (n := k / 8) (by omega)
  have h2 := fl_lt a (n := k % 8) (by omega)
  generalize fl d (k / 8) = x at *
  generalize fl a (k % 8) = y at *
  omega
theorem flip_step (a d : Bool) (p : Nat → Int) (k : Nat) : ∀ j, j < 64 → upd (flipK a d p k) k (p (8 * fl d (k / 8) + fl a (k % 8))) j = flipK a d p (k + 1) j := fun j _ => by
  simp only [upd, flipK]
  by_cases e : j = k
  · subst e; rw [if_pos rfl, if_pos (Nat.lt_succ_self _)]; rfl
  · rw [if_neg e]
    by_cases h : j < k
    · rw [if_pos h, if_pos (Nat.lt_succ_of_lt h)]
    · rw [if_neg h, if_neg (fun y => (Nat.lt_or_eq_of_le (Nat.le_of_lt_succ y)).elim h e)]
theorem flip_end (a d : Bool) (p : Nat → Int) : ∀ j, j < 64 → flipK a d p 64 j = flipP a d p j := fun _ hj => if_pos hj

theorem ifl_no (p : Nat → Int) (a d : Bool) (hv : tvd p = false) (w : World) : Calls Try.prog 8 #[.agg (tv p), .bool a, .bool d] w fun e w' => e = .returned (.agg (tv zeroT)) ∧ Below w.heap.size w w' := by
  have HV := Lib.hid hv
  clear hv
  have hT : TB ((w.alloc (.cells (tv p) 35)).alloc (.cells (tv zeroT) 35)) w.heap.size 35 p := (TB.new w 35 p).alloc _
  have hZ := TB.new1 w (.cells (tv p) 35) 35 zeroT
  go_enter Try.func8, Try.ntmps8
  go_wp2_with (first | ((with_reducible refine atLoad (ty := 35) ?_); refine wpList_load_tile rfl 35 _ rfl _ rfl 35 _ (hT) _ Try.underlying35 rfl size35 ?_) | ((with_reducible refine atAlloc (ty := 35) ?_); refine wpList_alloc_tile rfl 35 rfl zero35 ?_; (try simp only [World.size_alloc, World.size_setCell, setRow_size])))
  go_wp2_with fail
  refine (itv_c _ _ HV.out _).mono ?_
  rintro e w1 ⟨rfl, hO_w1⟩
  have hz_w1 := hO_w1.size
  (try simp only [World.size_alloc, World.size_setCell, World.size_drew] at hz_w1)
  have hZ1 := hZ.below hO_w1 (by simp)
  clear hT hZ
  go_wp2_with (first | ((with_reducible refine atBuild (ty := 35) ?_); refine wpList_build_tile rfl 35 rfl build35 ?_) | ((with_reducible refine atStore (ty := 35) ?_); refine wpList_store_tile rfl 35 _ _ rfl _ rfl (zeroT) rfl 35 _ (hZ1) size35 ?_))
  refine bodyPost_ret (v := .agg (tv (zeroT))) (results_cell_row rfl _ _ _ _ _ _ _ rfl (hZ1.row _) Try.underlying35 rfl (by rw [tv_size]; exact size35)) rfl ⟨rfl, ?_⟩
  refine below_setRow ?_ (by omega) _
  (repeat (first | with_reducible exact Below.refl _ _ | ((with_reducible refine viaO (by assumption) ?_ ?_ ?_) <;> try ((try simp only [World.size_alloc, World.size_setCell, World.size_drew]) <;> omega)) | ((with_reducible refine Below.alloc ?_ ?_ _) <;> try ((try simp only [World.size_alloc, World.size_setCell, World.size_drew]) <;> omega)) | ((with_reducible refine Below.setCell ?_ ?_ _) <;> try ((try simp only [World.size_alloc, World.size_setCell, World.size_drew]) <;> omega)) | (with_reducible refine below_drewN ?_ _) | (with_reducible refine Below.drew ?_) | ((with_reducible refine via (by assumption) ?_ ?_) <;> try ((try simp only [World.size_alloc, World.size_setCell, World.size_drew]) <;> omega))))

set_option maxHeartbeats 800000 in
theorem ifl_yes (p : Nat → Int) (a d : Bool) (hv : tvd p = true) (w : World) : Calls Try.prog 8 #[.agg (tv p), .bool a, .bool d] w fun e w' => e = .returned (.agg (tv (flipP a d p))) ∧ Below w.heap.size w w' := by
  have HV := Lib.hid hv
  clear hv
  have hT : TB ((w.alloc (.cells (tv p) 35)).alloc (.cells (tv zeroT) 35)) w.heap.size 35 p := (TB.new w 35 p).alloc _
  have hZ := TB.new1 w (.cells (tv p) 35) 35 zeroT
  go_enter Try.func8, Try.ntmps8
  go_wp2_with (first | ((with_reducible refine atLoad (ty := 35) ?_); refine wpList_load_tile rfl 35 _ rfl _ rfl 35 _ (hT) _ Try.underlying35 rfl size35 ?_) | ((with_reducible refine atAlloc (ty := 35) ?_); refine wpList_alloc_tile rfl 35 rfl zero35 ?_; (try simp only [World.size_alloc, World.size_setCell, setRow_size])))
  go_wp2_with fail
  refine (itv_c _ _ HV.out _).mono ?_
  rintro e w1 ⟨rfl, hO_w1⟩
  have hz_w1 := hO_w1.size
  (try simp only [World.size_alloc, World.size_setCell, World.size_drew] at hz_w1)
  have hT1 := hT.below hO_w1 (by simp <;> omega)
  have hZ1 := hZ.below hO_w1 (by simp)
  clear hT hZ
  go_wp2_with ((with_reducible refine atAlloc (ty := 35) ?_); refine wpList_alloc_tile rfl 35 rfl zero35 ?_; (try simp only [World.size_alloc, World.size_setCell, setRow_size]))
  have HT := Lib.hid (hT1.alloc (.cells (tv zeroT) 35))
  have HZ := Lib.hid (hZ1.alloc (.cells (tv zeroT) 35))
  have hlt : w.heap.size + 1 < w1.heap.size := by omega
  clear hT1 hZ1
  go_loopw [15] (fun i wr => ∃ k : Nat, k ≤ 64 ∧ i = .int .i64 k ∧ TB wr w.heap.size 35 p ∧ TB wr w1.heap.size 35 (flipK a d p k) ∧ TB wr (w.heap.size + 1) 35 zeroT ∧ Below w.heap.size w wr) (fun i _ => 64 - (intOf i).toNat)
  case atStart =>
    refine ⟨0, by omega, rfl, HT.out, (TB.new _ _ _).congr (fun i _ => by simp [flipK, zeroT]), HZ.out, ?_⟩
    (repeat (first | with_reducible exact Below.refl _ _ | ((with_reducible refine viaO (by assumption) ?_ ?_ ?_) <;> try ((try simp only [World.size_alloc, World.size_setCell, World.size_drew]) <;> omega)) | ((with_reducible refine Below.alloc ?_ ?_ _) <;> try ((try simp only [World.size_alloc, World.size_setCell, World.size_drew]) <;> omega)) | ((with_reducible refine Below.setCell ?_ ?_ _) <;> try ((try simp only [World.size_alloc, World.size_setCell, World.size_drew]) <;> omega)) | (with_reducible refine below_drewN ?_ _) | (with_reducible refine Below.drew ?_) | ((with_reducible refine via (by assumption) ?_ ?_) <;> try ((try simp only [World.size_alloc, World.size_setCell, World.size_drew]) <;> omega))))
  case round =>
    obtain ⟨k, hk, rfl, h0, h1, h2, hb⟩ := hrel
    have H0 := Lib.hid h0
    have H1 := Lib.hid h1
    have H2 := Lib.hid h2
    have HB := Lib.hid hb
    by_cases hlk : k < 64
    · have c0 := h0.cell _ (flip_lt a d hlk)
      have c1 := h1.cell k hlk
      have f1 := h1.frozen k
      have hst := Lib.hid (fun X : TB wr w1.heap.size 35 (flipK a d p k) => (X.put k (p (8 * fl d (k / 8) + fl a (k % 8)))).congr (flip_step a d p k))
      clear h0 h1 h2 hb
      cases a <;> cases d
      all_goals
        simp only [fl, if_true, Bool.false_eq_true, if_false] at c0 hst
        go_wp2
        go_roundw
        case rel => exact ⟨k + 1, by omega, by go_num, H0.out.far (by simp <;> omega) _, hst.out H1.out, H2.out.far (by simp <;> omega) _, HB.out.setCell (by simp <;> omega) _⟩
        case measure => simp [intOf]; omega
    · have hk64 : k = 64 := by omega
      subst hk64
      have h3 := h1.congr (flip_end a d p)
      clear h0 h1 hb
      go_wp2_with (first | ((with_reducible refine atLoad (ty := 35) ?_); refine wpList_load_tile rfl 35 _ rfl _ rfl 35 _ (h3) _ Try.underlying35 rfl size35 ?_) | ((with_reducible refine atStore (ty := 35) ?_); refine wpList_store_tile rfl 35 _ _ rfl _ rfl (flipP a d p) rfl 35 _ (h2) size35 ?_))
      refine bodyPost_ret (v := .agg (tv (flipP a d p))) (results_cell_row rfl _ _ _ _ _ _ _ rfl (h2.row _) Try.underlying35 rfl (by rw [tv_size]; exact size35)) rfl ⟨rfl, ?_⟩
      exact below_setRow HB.out (by omega) _

def flipR (v a d : Bool) (p : Nat → Int) : Nat → Int := if v = true then flipP a d p else zeroT

theorem ifl_c (p : Nat → Int) (a d v : Bool) (hv : tvd p = v) (w : World) : Calls Try.prog 8 #[.agg (tv p), .bool a, .bool d] w fun e w' => e = .returned (.agg (tv (flipR v a d p))) ∧ Below w.heap.size w w' := by
  cases v
  · rw [show flipR false a d p = zeroT from rfl]; exact ifl_no p a d hv w
  · rw [show flipR true a d p = flipP a d p from rfl]; exact ifl_yes p a d hv w

end Go.Proofs.Ytncajejomeidlaa
