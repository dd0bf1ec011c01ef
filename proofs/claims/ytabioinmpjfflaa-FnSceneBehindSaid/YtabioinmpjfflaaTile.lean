/-
  The contracts of the functions on tiles, in the program and in the reference. No conditions.
-/
import Derived.Test.YtabioinmpjfflaaTileMem
import Derived.IntWalk
namespace Go.Proofs.Ytabioinmpjfflaa
set_option linter.all false
set_option linter.unusedSimpArgs false
set_option linter.unusedVariables false
set_option maxRecDepth 20000
open Go.ChangeShapes Go.WideShapes Go.ChangeAt Go.RowKit

theorem size34 : (Try.prog.info? 34).map (·.size) = some 64 := by kernel_rfl
theorem size36 : (Try.prog.info? 36).map (·.size) = some 64 := by kernel_rfl
theorem zero34 : (Try.prog.info? 34).map (·.zero) = some (some (.agg (tv zeroT))) := by kernel_rfl
theorem zero36 : (Try.prog.info? 36).map (·.zero) = some (some (.agg (tv zeroT))) := by kernel_rfl

theorem size104 : (Try.prog.info? 104).map (·.size) = some 64 := by kernel_rfl

/-- The pixel at an index of a tile's array. -/
theorem index_tile (p : Nat → Int) (k : Nat) (W : World) (hk : k < 64) : (Instr.index 34 (.agg (tv p)) (.int .i64 (k : Int))).run Try.prog W = .ok (.int .i64 (p k)) W := by
  have hu := run_underlying (w := W) Try.underlying34
  have hs : (sizeOf 3).run Try.prog W = .ok 1 W := by kernel_rfl
  have hp : (part 3 (tv p) k).run Try.prog W = .ok (.int .i64 (p k)) W := by
    have ha : (isAgg 3).run Try.prog W = .ok false W := by kernel_rfl
    simp [part, Sem.run_bind, ha, tv_get p k hk]
  simp [Instr.index, asIntOf, hu, hs, hk, hp]

def tvd (p : Nat → Int) : Bool := (List.range 64).all fun i => inB (p i) 0 3
theorem tvd_true {p : Nat → Int} : tvd p = true ↔ ∀ i, i < 64 → inB (p i) 0 3 = true := by simp [tvd]
theorem tvd_no {p : Nat → Int} {k : Nat} (hk : k < 64) (h : inB (p k) 0 3 = false) : tvd p = false := by
  cases hv : tvd p
  · rfl
  · have := tvd_true.1 hv k hk
    rw [h] at this; cases this

theorem itv_c (p : Nat → Int) (v : Bool) (hv : tvd p = v) (w : World) : Calls Try.prog 63 #[.agg (tv p)] w fun e w' => e = .returned (.bool v) ∧ Below w.heap.size w w' := by
  subst hv
  go_enter Try.func63, Try.ntmps63
  go_wp2_with ((with_reducible refine atLoad (ty := 34) ?_); refine wpList_load_tile rfl 34 _ rfl _ rfl 36 _ (TB.new _ _ _) _ Try.underlying34 rfl size34 ?_)
  go_loop [7] (fun i => ∃ k : Nat, k ≤ 64 ∧ i = .int .i64 k ∧ Hid (∀ j, j < k → inB (p j) 0 3 = true)) (fun i => 64 - (intOf i).toNat)
  case atStart => exact ⟨0, by omega, rfl, fun j hj => by omega⟩
  case round =>
    obtain ⟨k, hk, rfl, hall⟩ := hrel
    by_cases hlt : k < 64
    · have hix := index_tile p k
      cases hb : inB (p k) 0 3
      · go_wp2_with (go_at_call 36; refine (within_c _ _ _ _ hb _).mono ?_; rintro e w1 ⟨rfl, rfl⟩)
        go_ret
        exact ⟨ret_bool (tvd_no hlt hb).symm, (Below.refl _ _).alloc (Nat.le_refl _) _⟩
      · go_wp2_with (go_at_call 36; refine (within_c _ _ _ _ hb _).mono ?_; rintro e w1 ⟨rfl, rfl⟩)
        go_round
        case rel => exact ⟨k + 1, by omega, by go_num, fun j hj => by
          by_cases e : j = k
          · subst e; exact hb
          · exact hall.out j (by omega)⟩
        case measure => simp [intOf]; omega
    · have hk64 : k = 64 := by omega
      subst hk64
      go_wp2
      go_ret
      exact ⟨ret_bool (tvd_true.2 hall.out).symm, (Below.refl _ _).alloc (Nat.le_refl _) _⟩

theorem stv_c (p : Nat → Int) (v : Bool) (hv : tvd p = v) (w : World) : Calls Try.prog 59 #[.agg (tv p)] w fun e w' => e = .returned (.bool v) ∧ Below w.heap.size w w' := by
  subst hv
  have hT := TB.new w 36 p
  go_enter Try.func59, Try.ntmps59
  go_wp2
  go_loop [3] (fun i => ∃ k : Nat, k ≤ 64 ∧ i = .int .i64 k ∧ Hid (∀ j, j < k → inB (p j) 0 3 = true)) (fun i => 64 - (intOf i).toNat)
  case atStart => exact ⟨0, by omega, rfl, fun j hj => by omega⟩
  case round =>
    obtain ⟨k, hk, rfl, hall⟩ := hrel
    by_cases hlt : k < 64
    · have hc := hT.cell k hlt
      clear hT
      cases hb : inB (p k) 0 3
      · go_wp2_with (go_at_call 39; refine (l1In_c _ _ _ _ hb _).mono ?_; rintro e w1 ⟨rfl, rfl⟩)
        go_ret
        exact ⟨ret_bool (tvd_no hlt hb).symm, (Below.refl _ _).alloc (Nat.le_refl _) _⟩
      · go_wp2_with (go_at_call 39; refine (l1In_c _ _ _ _ hb _).mono ?_; rintro e w1 ⟨rfl, rfl⟩)
        go_round
        case rel => exact ⟨k + 1, by omega, by go_num, fun j hj => by
          by_cases e : j = k
          · subst e; exact hb
          · exact hall.out j (by omega)⟩
        case measure => simp [intOf]; omega
    · have hk64 : k = 64 := by omega
      subst hk64
      go_wp2
      go_ret
      exact ⟨ret_bool (tvd_true.2 hall.out).symm, (Below.refl _ _).alloc (Nat.le_refl _) _⟩

theorem toIntA64_c (p : Nat → Int) (w : World) : Calls Try.prog 75 #[.agg (tv p)] w fun e w' => e = .returned (.agg (tv p)) ∧ Below w.heap.size w w' := by
  go_enter Try.func75, Try.ntmps75
  go_wp2_with ((with_reducible refine atAlloc (ty := 34) ?_); refine wpList_alloc_tile rfl 34 rfl zero34 ?_; (try simp only [World.size_alloc, World.size_setCell, setRow_size]))
  go_loopw [4] (fun i wr => ∃ k : Nat, k ≤ 64 ∧ i = .int .i64 k ∧ TB wr w.heap.size 34 p ∧ TB wr (w.heap.size + 1) 34 zeroT ∧ TB wr (w.heap.size + 1 + 1) 34 (fun j => if j < k then p j else 0) ∧ Below w.heap.size w wr) (fun i _ => 64 - (intOf i).toNat)
  case atStart =>
    refine ⟨0, by omega, rfl, ((TB.new _ _ _).alloc _).alloc _, ?_, ?_, ?_⟩
    · have := (TB.new (w.alloc (.cells (tv p) 34)) 34 zeroT).alloc (.cells (tv zeroT) 34)
      simpa using this
    · have := TB.new ((w.alloc (.cells (tv p) 34)).alloc (.cells (tv zeroT) 34)) 34 zeroT
      simp only [World.size_alloc] at this
      exact this.congr fun i _ => by simp [zeroT]
    · (repeat (first | with_reducible exact Below.refl _ _ | ((with_reducible refine viaO (by assumption) ?_ ?_ ?_) <;> try ((try simp only [World.size_alloc, World.size_setCell, World.size_drew]) <;> omega)) | ((with_reducible refine Below.alloc ?_ ?_ _) <;> try ((try simp only [World.size_alloc, World.size_setCell, World.size_drew]) <;> omega)) | ((with_reducible refine Below.setCell ?_ ?_ _) <;> try ((try simp only [World.size_alloc, World.size_setCell, World.size_drew]) <;> omega)) | (with_reducible refine below_drewN ?_ _) | (with_reducible refine Below.drew ?_) | ((with_reducible refine via (by assumption) ?_ ?_) <;> try ((try simp only [World.size_alloc, World.size_setCell, World.size_drew]) <;> omega))))
  case round =>
    obtain ⟨k, hk, rfl, h1, h2, h3, hb⟩ := hrel
    have H1 := Lib.hid h1
    have H2 := Lib.hid h2
    have H3 := Lib.hid h3
    have HB := Lib.hid hb
    by_cases hlt : k < 64
    · have c1 := h1.cell k hlt
      have c3 := h3.cell k hlt
      have f3 := h3.frozen k
      clear h1 h2 h3 hb
      go_wp2
      go_roundw
      case rel =>
        refine ⟨k + 1, by omega, by go_num, H1.out.far (by simp <;> omega) _, H2.out.far (by simp) _, ?_, HB.out.setCell (by simp <;> omega) _⟩
        refine (H3.out.put k (p k)).congr fun i hi => ?_
        simp only [upd]
        by_cases e : i = k
        · subst e; simp
        · simp only [if_neg e]; split <;> split <;> first | rfl | omega
      case measure => simp [intOf]; omega
    · have hk64 : k = 64 := by omega
      subst hk64
      have h4 : TB wr (w.heap.size + 1 + 1) 34 p := h3.congr fun i hi => by simp [hi]
      clear h1 h3 hb
      go_wp2_with (first | ((with_reducible refine atLoad (ty := 34) ?_); refine wpList_load_tile rfl 34 _ rfl _ rfl 34 _ (h4) _ Try.underlying34 rfl size34 ?_) | ((with_reducible refine atStore (ty := 34) ?_); refine wpList_store_tile rfl 34 _ _ rfl _ rfl (p) rfl 34 _ (h2) size34 ?_))
      refine bodyPost_ret (v := .agg (tv p)) (results_cell_row rfl _ _ _ _ _ _ _ rfl (h2.row p) Try.underlying34 rfl (by rw [tv_size]; exact size34)) rfl ⟨rfl, ?_⟩
      exact below_setRow HB.out (by omega) _

theorem build36 (W : World) : (Instr.build 36 #[]).run Try.prog W = .ok (.agg (tv zeroT)) W := by kernel_rfl

theorem toTile_c (p : Nat → Int) (w : World) : Calls Try.prog 73 #[.agg (tv p)] w fun e w' => e = .returned (.agg (tv p)) ∧ Below w.heap.size w w' := by
  go_enter Try.func73, Try.ntmps73
  go_wp2_with (first | ((with_reducible refine atAlloc (ty := 36) ?_); refine wpList_alloc_tile rfl 36 rfl zero36 ?_; (try simp only [World.size_alloc, World.size_setCell, setRow_size])) | ((with_reducible refine atLoad (ty := 34) ?_); refine wpList_load_tile rfl 34 _ rfl _ rfl 104 _ (((TB.new w _ _).alloc _).alloc _) _ Try.underlying34 rfl size34 ?_))
  go_wp2_with fail
  refine (toIntA64_c _ _).mono ?_
  rintro e w1 ⟨rfl, hO_w1⟩
  have hz_w1 := hO_w1.size
  (try simp only [World.size_alloc, World.size_setCell, World.size_drew] at hz_w1)
  have t2 : TB w1 (w.heap.size + 1) 36 zeroT := TB.below ((TB.new1 w _ _ _).alloc _) hO_w1 (by simp only [World.size_alloc]; omega)
  have t3 : TB w1 (w.heap.size + 1 + 1) 36 zeroT := TB.below (TB.new2 w _ _ _ _) hO_w1 (by simp only [World.size_alloc]; omega)
  go_wp2_with (first | ((with_reducible refine atStore (ty := 34) ?_); refine wpList_store_tile rfl 34 _ _ rfl _ rfl (p) rfl 36 _ (t3) size34 ?_) | ((with_reducible refine atLoad (ty := 36) ?_); refine wpList_load_tile rfl 36 _ rfl _ rfl 36 _ (t3.row p) _ Try.underlying36 rfl size36 ?_) | ((with_reducible refine atStore (ty := 36) ?_); refine wpList_store_tile rfl 36 _ _ rfl _ rfl (p) rfl 36 _ (t2.farRow (by omega) _) size36 ?_))
  refine bodyPost_ret (v := .agg (tv (p))) (results_cell_row rfl _ _ _ _ _ _ _ rfl ((t2.farRow (by omega) _).row p) Try.underlying36 rfl (by rw [tv_size]; exact size36)) rfl ⟨rfl, ?_⟩
  refine below_setRow (below_setRow ?_ (by omega) _) (by omega) _
  (repeat (first | with_reducible exact Below.refl _ _ | ((with_reducible refine viaO (by assumption) ?_ ?_ ?_) <;> try ((try simp only [World.size_alloc, World.size_setCell, World.size_drew]) <;> omega)) | ((with_reducible refine Below.alloc ?_ ?_ _) <;> try ((try simp only [World.size_alloc, World.size_setCell, World.size_drew]) <;> omega)) | ((with_reducible refine Below.setCell ?_ ?_ _) <;> try ((try simp only [World.size_alloc, World.size_setCell, World.size_drew]) <;> omega)) | (with_reducible refine below_drewN ?_ _) | (with_reducible refine Below.drew ?_) | ((with_reducible refine via (by assumption) ?_ ?_) <;> try ((try simp only [World.size_alloc, World.size_setCell, World.size_drew]) <;> omega))))

theorem eqIntA64_c (p : Nat → Int) (w : World) : Calls Try.prog 76 #[.agg (tv p), .agg (tv p)] w fun e w' => e = .returned (.bool true) ∧ Below w.heap.size w w' := by
  go_enter Try.func76, Try.ntmps76
  go_wp2
  go_loopw [5] (fun i wr => ∃ k : Nat, k ≤ 64 ∧ i = .int .i64 k ∧ TB wr w.heap.size 34 p ∧ TB wr (w.heap.size + 1) 34 p ∧ Below w.heap.size w wr) (fun i _ => 64 - (intOf i).toNat)
  case atStart =>
    refine ⟨0, by omega, rfl, (TB.new _ _ _).alloc _, TB.new1 _ _ _ _, ?_⟩
    (repeat (first | with_reducible exact Below.refl _ _ | ((with_reducible refine viaO (by assumption) ?_ ?_ ?_) <;> try ((try simp only [World.size_alloc, World.size_setCell, World.size_drew]) <;> omega)) | ((with_reducible refine Below.alloc ?_ ?_ _) <;> try ((try simp only [World.size_alloc, World.size_setCell, World.size_drew]) <;> omega)) | ((with_reducible refine Below.setCell ?_ ?_ _) <;> try ((try simp only [World.size_alloc, World.size_setCell, World.size_drew]) <;> omega)) | (with_reducible refine below_drewN ?_ _) | (with_reducible refine Below.drew ?_) | ((with_reducible refine via (by assumption) ?_ ?_) <;> try ((try simp only [World.size_alloc, World.size_setCell, World.size_drew]) <;> omega))))
  case round =>
    obtain ⟨k, hk, rfl, h1, h2, hb⟩ := hrel
    have H1 := Lib.hid h1
    have H2 := Lib.hid h2
    have HB := Lib.hid hb
    by_cases hlt : k < 64
    · have c1 := h1.cell k hlt
      have c2 := h2.cell k hlt
      have hki : (k : Int) < 64 := by omega
      clear h1 h2 hb
      go_wp2
      go_quiet (fail)
      go_wp2
      go_roundw
      case rel => exact ⟨k + 1, by omega, by go_num, H1.out, H2.out, below_drewN HB.out _⟩
      case measure => simp [intOf]; omega
    · have hk64 : k = 64 := by omega
      subst hk64
      clear h1 h2 hb
      go_wp2
      go_ret
      exact ⟨rfl, HB.out⟩

theorem eqTile_c (p : Nat → Int) (w : World) : Calls Try.prog 74 #[.agg (tv p), .agg (tv p)] w fun e w' => e = .returned (.bool true) ∧ Below w.heap.size w w' := by
  go_enter Try.func74, Try.ntmps74
  go_wp2_with (first | ((with_reducible refine atLoad (ty := 34) ?_); refine wpList_load_tile rfl 34 _ rfl _ rfl 36 _ ((TB.new w _ _).alloc _) _ Try.underlying34 rfl size34 ?_) | ((with_reducible refine atLoad (ty := 34) ?_); refine wpList_load_tile rfl 34 _ rfl _ rfl 36 _ (TB.new1 w _ _ _) _ Try.underlying34 rfl size34 ?_))
  go_wp2_with fail
  refine (eqIntA64_c _ _).mono ?_
  rintro e w1 ⟨rfl, hO_w1⟩
  have hz_w1 := hO_w1.size
  (try simp only [World.size_alloc, World.size_setCell, World.size_drew] at hz_w1)
  go_wp2
  go_ret
  refine ⟨rfl, ?_⟩
  (repeat (first | with_reducible exact Below.refl _ _ | ((with_reducible refine viaO (by assumption) ?_ ?_ ?_) <;> try ((try simp only [World.size_alloc, World.size_setCell, World.size_drew]) <;> omega)) | ((with_reducible refine Below.alloc ?_ ?_ _) <;> try ((try simp only [World.size_alloc, World.size_setCell, World.size_drew]) <;> omega)) | ((with_reducible refine Below.setCell ?_ ?_ _) <;> try ((try simp only [World.size_alloc, World.size_setCell, World.size_drew]) <;> omega)) | (with_reducible refine below_drewN ?_ _) | (with_reducible refine Below.drew ?_) | ((with_reducible refine via (by assumption) ?_ ?_) <;> try ((try simp only [World.size_alloc, World.size_setCell, World.size_drew]) <;> omega))))

end Go.Proofs.Ytabioinmpjfflaa
