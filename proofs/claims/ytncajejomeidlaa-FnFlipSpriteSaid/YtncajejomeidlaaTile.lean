/-
  The contracts of the functions on tiles, in the program and in the reference. No conditions.
-/
import Derived.Test.YtncajejomeidlaaTileMem
import Derived.IntWalk
namespace Go.Proofs.Ytncajejomeidlaa
set_option linter.all false
set_option linter.unusedSimpArgs false
set_option linter.unusedVariables false
open Go.ChangeShapes Go.WideShapes Go.ChangeAt Go.RowKit

theorem size33 : (Try.prog.info? 33).map (·.size) = some 64 := by kernel_rfl
theorem size35 : (Try.prog.info? 35).map (·.size) = some 64 := by kernel_rfl
theorem zero33 : (Try.prog.info? 33).map (·.zero) = some (some (.agg (tv zeroT))) := by kernel_rfl
theorem zero35 : (Try.prog.info? 35).map (·.zero) = some (some (.agg (tv zeroT))) := by kernel_rfl

/-- The pixel at an index of a tile's array. -/
theorem index_tile (p : Nat → Int) (k : Nat) (W : World) (hk : k < 64) : (Instr.index 33 (.agg (tv p)) (.int .i64 (k : Int))).run Try.prog W = .ok (.int .i64 (p k)) W := by
  have hu := run_underlying (w := W) Try.underlying33
  have hs : (sizeOf 3).run Try.prog W = .ok 1 W := by kernel_rfl
  have hp : (part 3 (tv p) k).run Try.prog W = .ok (.int .i64 (p k)) W := by
    have ha : (isAgg 3).run Try.prog W = .ok false W := by kernel_rfl
    simp [part, Sem.run_bind, ha, tv_get p k hk]
  simp [Instr.index, asIntOf, hu, hs, hk, hp]

def tvd (p : Nat → Int) : Bool := (List.range 64).all fun i => inB (p i) 0 3
theorem tvd_true {p : Nat → Int} : tvd p = true ↔ ∀ i, i < 64 → inB (p i) 0 3 = true := by simp [tvd]
theorem tvd_no {p : Nat → Int} {k : Nat} (hk : k < 64) (h : inB (p k) 0 3 = false) : tvd p = false := by
  cases hv : tvd p
  · rfl
  · have := tvd_true.1 hv k hk
    rw [h] at this; cases this

theorem itv_c (p : Nat → Int) (v : Bool) (hv : tvd p = v) (w : World) : Calls Try.prog 22 #[.agg (tv p)] w fun e w' => e = .returned (.bool v) ∧ Below w.heap.size w w' := by
  subst hv
  go_enter Try.func22, Try.ntmps22
  go_wp2_with ((with_reducible refine atLoad (ty := 33) ?_); refine wpList_load_tile rfl 33 _ rfl _ rfl 35 _ (TB.new _ _ _) _ Try.underlying33 rfl size33 ?_)
  go_loop [7] (fun i => ∃ k : Nat, k ≤ 64 ∧ i = .int .i64 k ∧ Hid (∀ j, j < k → inB (p j) 0 3 = true)) (fun i => 64 - (intOf i).toNat)
  case atStart => exact ⟨0, by omega, rfl, fun j hj => by omega⟩
  case round =>
    obtain ⟨k, hk, rfl, hall⟩ := hrel
    by_cases hlt : k < 64
    · have hix := index_tile p k
      cases hb : inB (p k) 0 3
      · go_wp2_with (go_at_call 19; refine (within_c _ _ _ _ hb _).mono ?_; rintro e w1 ⟨rfl, rfl⟩)
        go_ret
        exact ⟨ret_bool (tvd_no hlt hb).symm, (Below.refl _ _).alloc (Nat.le_refl _) _⟩
      · go_wp2_with (go_at_call 19; refine (within_c _ _ _ _ hb _).mono ?_; rintro e w1 ⟨rfl, rfl⟩)
        go_round
        case rel => exact ⟨k + 1, by omega, by go_num, fun j hj => by
          by_cases e : j = k
          · subst e; exact hb
          · exact hall.out j (by omega)⟩
        case measure => simp [intOf]; omega
    · have hk64 : k = 64 := by omega
      subst hk64
      go_wp2
      go_ret
      exact ⟨ret_bool (tvd_true.2 hall.out).symm, (Below.refl _ _).alloc (Nat.le_refl _) _⟩

theorem stv_c (p : Nat → Int) (v : Bool) (hv : tvd p = v) (w : World) : Calls Try.prog 15 #[.agg (tv p)] w fun e w' => e = .returned (.bool v) ∧ Below w.heap.size w w' := by
  subst hv
  have hT := TB.new w 35 p
  go_enter Try.func15, Try.ntmps15
  go_wp2
  go_loop [3] (fun i => ∃ k : Nat, k ≤ 64 ∧ i = .int .i64 k ∧ Hid (∀ j, j < k → inB (p j) 0 3 = true)) (fun i => 64 - (intOf i).toNat)
  case atStart => exact ⟨0, by omega, rfl, fun j hj => by omega⟩
  case round =>
    obtain ⟨k, hk, rfl, hall⟩ := hrel
    by_cases hlt : k < 64
    · have hc := hT.cell k hlt
      clear hT
      cases hb : inB (p k) 0 3
      · go_wp2_with (go_at_call 16; refine (l1In_c _ _ _ _ hb _).mono ?_; rintro e w1 ⟨rfl, rfl⟩)
        go_ret
        exact ⟨ret_bool (tvd_no hlt hb).symm, (Below.refl _ _).alloc (Nat.le_refl _) _⟩
      · go_wp2_with (go_at_call 16; refine (l1In_c _ _ _ _ hb _).mono ?_; rintro e w1 ⟨rfl, rfl⟩)
        go_round
        case rel => exact ⟨k + 1, by omega, by go_num, fun j hj => by
          by_cases e : j = k
          · subst e; exact hb
          · exact hall.out j (by omega)⟩
        case measure => simp [intOf]; omega
    · have hk64 : k = 64 := by omega
      subst hk64
      go_wp2
      go_ret
      exact ⟨ret_bool (tvd_true.2 hall.out).symm, (Below.refl _ _).alloc (Nat.le_refl _) _⟩

theorem build35 (W : World) : (Instr.build 35 #[]).run Try.prog W = .ok (.agg (tv zeroT)) W := by kernel_rfl

end Go.Proofs.Ytncajejomeidlaa
