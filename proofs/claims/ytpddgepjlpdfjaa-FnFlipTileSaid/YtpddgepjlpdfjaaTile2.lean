/-
  The contracts of UsedValues, TurnTile and FlipTile, in the program and in the reference. No conditions.
-/
import Derived.Test.YtpddgepjlpdfjaaTile
import Derived.IntWalk
namespace Go.Proofs.Ytpddgepjlpdfjaa
set_option linter.all false
set_option linter.unusedSimpArgs false
set_option linter.unusedVariables false
open Go.ChangeShapes Go.WideShapes Go.ChangeAt Go.RowKit

/-- Which values the first k pixels use. -/
def usedK (p : Nat → Int) : Nat → Int
  | 0 => 0
  | k + 1 => bits .or .i64 (usedK p k) (wrap64 (2 ^ (p k).toNat))

theorem iuv_no (p : Nat → Int) (hv : tvd p = false) (w : World) : Calls Try.prog 21 #[.agg (tv p)] w fun e w' => e = .returned (.int .i64 0) ∧ Below w.heap.size w w' := by
  have HV := Lib.hid hv
  clear hv
  have hT := TB.new w 26 p
  go_enter Try.func21, Try.ntmps21
  go_wp2_with ((with_reducible refine atLoad (ty := 26) ?_); refine wpList_load_tile rfl 26 _ rfl _ rfl 26 _ (hT) _ Try.underlying26 rfl size26 ?_)
  go_wp2_with fail
  refine (itv_c _ _ HV.out _).mono ?_
  rintro e w1 ⟨rfl, hO_w1⟩
  have hz_w1 := hO_w1.size
  (try simp only [World.size_alloc, World.size_setCell, World.size_drew] at hz_w1)
  go_wp2
  go_ret
  refine ⟨rfl, ?_⟩
  (repeat (first | with_reducible exact Below.refl _ _ | ((with_reducible refine viaO (by assumption) ?_ ?_ ?_) <;> try ((try simp only [World.size_alloc, World.size_setCell, World.size_drew]) <;> omega)) | ((with_reducible refine Below.alloc ?_ ?_ _) <;> try ((try simp only [World.size_alloc, World.size_setCell, World.size_drew]) <;> omega)) | ((with_reducible refine Below.setCell ?_ ?_ _) <;> try ((try simp only [World.size_alloc, World.size_setCell, World.size_drew]) <;> omega)) | (with_reducible refine below_drewN ?_ _) | (with_reducible refine Below.drew ?_) | ((with_reducible refine via (by assumption) ?_ ?_) <;> try ((try simp only [World.size_alloc, World.size_setCell, World.size_drew]) <;> omega))))

theorem iuv_yes (p : Nat → Int) (hv : tvd p = true) (w : World) : Calls Try.prog 21 #[.agg (tv p)] w fun e w' => e = .returned (.int .i64 (usedK p 64)) ∧ Below w.heap.size w w' := by
  have hall := tvd_true.1 hv
  have HA := Lib.hid hall
  have HV := Lib.hid hv
  clear hv hall
  have hT := TB.new w 26 p
  go_enter Try.func21, Try.ntmps21
  go_wp2_with ((with_reducible refine atLoad (ty := 26) ?_); refine wpList_load_tile rfl 26 _ rfl _ rfl 26 _ (hT) _ Try.underlying26 rfl size26 ?_)
  go_wp2_with fail
  refine (itv_c _ _ HV.out _).mono ?_
  rintro e w1 ⟨rfl, hO_w1⟩
  have hz_w1 := hO_w1.size
  (try simp only [World.size_alloc, World.size_setCell, World.size_drew] at hz_w1)
  have hT1 := hT.below hO_w1 (by simp)
  clear hT
  go_wp2_with ((with_reducible refine atLoad (ty := 22) ?_); refine wpList_load_tile rfl 22 _ rfl _ rfl 26 _ (hT1) _ Try.underlying22 rfl size22 ?_)
  go_loop [3, 11] (fun u i => ∃ k : Nat, k ≤ 64 ∧ i = .int .i64 k ∧ u = .int .i64 (usedK p k)) (fun _ i => 64 - (intOf i).toNat)
  case atStart => exact ⟨0, by omega, rfl, rfl⟩
  case round =>
    obtain ⟨k, hk, rfl, rfl⟩ := hrel
    by_cases hlt : k < 64
    · have hix := index_tile p k
      obtain ⟨b0, b1⟩ := inB_true.1 (HA.out k hlt)
      go_wp2
      go_round
      case rel => exact ⟨k + 1, by omega, by go_num, rfl⟩
      case measure => simp [intOf]; omega
    · have hk64 : k = 64 := by omega
      subst hk64
      go_wp2
      go_ret
      refine ⟨rfl, ?_⟩
      (repeat (first | with_reducible exact Below.refl _ _ | ((with_reducible refine viaO (by assumption) ?_ ?_ ?_) <;> try ((try simp only [World.size_alloc, World.size_setCell, World.size_drew]) <;> omega)) | ((with_reducible refine Below.alloc ?_ ?_ _) <;> try ((try simp only [World.size_alloc, World.size_setCell, World.size_drew]) <;> omega)) | ((with_reducible refine Below.setCell ?_ ?_ _) <;> try ((try simp only [World.size_alloc, World.size_setCell, World.size_drew]) <;> omega)) | (with_reducible refine below_drewN ?_ _) | (with_reducible refine Below.drew ?_) | ((with_reducible refine via (by assumption) ?_ ?_) <;> try ((try simp only [World.size_alloc, World.size_setCell, World.size_drew]) <;> omega))))

theorem suv_no (p : Nat → Int) (hv : tvd p = false) (w : World) : Calls Try.prog 20 #[.agg (tv p)] w fun e w' => e = .returned (.int .i64 0) ∧ Below w.heap.size w w' := by
  have HV := Lib.hid hv
  clear hv
  have hT := TB.new w 26 p
  go_enter Try.func20, Try.ntmps20
  go_wp2
  refine wp_loop_once ?_
  go_wp2_with ((with_reducible refine atLoad (ty := 26) ?_); refine wpList_load_tile_g (by first | rfl | (go_simp; done) | (go_simp; omega) | (simp [Region.wanted, yielded]; omega)) 26 _ rfl _ rfl 26 _ (hT) _ Try.underlying26 rfl size26 ?_)
  go_wp2_with fail
  refine (stv_c _ _ HV.out _).mono ?_
  rintro e w1 ⟨rfl, hO_w1⟩
  have hz_w1 := hO_w1.size
  (try simp only [World.size_alloc, World.size_setCell, World.size_drew] at hz_w1)
  go_wp2
  go_ret
  refine ⟨rfl, ?_⟩
  (repeat (first | with_reducible exact Below.refl _ _ | ((with_reducible refine viaO (by assumption) ?_ ?_ ?_) <;> try ((try simp only [World.size_alloc, World.size_setCell, World.size_drew]) <;> omega)) | ((with_reducible refine Below.alloc ?_ ?_ _) <;> try ((try simp only [World.size_alloc, World.size_setCell, World.size_drew]) <;> omega)) | ((with_reducible refine Below.setCell ?_ ?_ _) <;> try ((try simp only [World.size_alloc, World.size_setCell, World.size_drew]) <;> omega)) | (with_reducible refine below_drewN ?_ _) | (with_reducible refine Below.drew ?_) | ((with_reducible refine via (by assumption) ?_ ?_) <;> try ((try simp only [World.size_alloc, World.size_setCell, World.size_drew]) <;> omega))))

theorem suv_yes (p : Nat → Int) (hv : tvd p = true) (w : World) : Calls Try.prog 20 #[.agg (tv p)] w fun e w' => e = .returned (.int .i64 (usedK p 64)) ∧ Below w.heap.size w w' := by
  have hall := tvd_true.1 hv
  have HA := Lib.hid hall
  have HV := Lib.hid hv
  clear hv hall
  go_enter Try.func20, Try.ntmps20
  go_wp2
  go_loopw [3, 4] (fun u i wr => ∃ k : Nat, k ≤ 64 ∧ i = .int .i64 k ∧ u = .int .i64 (usedK p k) ∧ TB wr w.heap.size 26 p ∧ Below w.heap.size w wr) (fun _ i _ => 64 - (intOf i).toNat)
  case atStart =>
    refine ⟨0, by omega, rfl, rfl, TB.new _ _ _, ?_⟩
    (repeat (first | with_reducible exact Below.refl _ _ | ((with_reducible refine viaO (by assumption) ?_ ?_ ?_) <;> try ((try simp only [World.size_alloc, World.size_setCell, World.size_drew]) <;> omega)) | ((with_reducible refine Below.alloc ?_ ?_ _) <;> try ((try simp only [World.size_alloc, World.size_setCell, World.size_drew]) <;> omega)) | ((with_reducible refine Below.setCell ?_ ?_ _) <;> try ((try simp only [World.size_alloc, World.size_setCell, World.size_drew]) <;> omega)) | (with_reducible refine below_drewN ?_ _) | (with_reducible refine Below.drew ?_) | ((with_reducible refine via (by assumption) ?_ ?_) <;> try ((try simp only [World.size_alloc, World.size_setCell, World.size_drew]) <;> omega))))
  case round =>
    obtain ⟨k, hk, rfl, rfl, hT, hb⟩ := hrel
    have HB := Lib.hid hb
    clear hb
    by_cases hlt : k < 64
    · obtain ⟨b0, b1⟩ := inB_true.1 (HA.out k hlt)
      go_wp2_with ((with_reducible refine atLoad (ty := 26) ?_); refine wpList_load_tile_g (by first | rfl | (go_simp; done) | (go_simp; omega) | (simp [Region.wanted, yielded]; omega)) 26 _ rfl _ rfl 26 _ (hT) _ Try.underlying26 rfl size26 ?_)
      go_wp2_with fail
      refine (stv_c _ _ HV.out _).mono ?_
      rintro e w1 ⟨rfl, hO_w1⟩
      have hz_w1 := hO_w1.size
      (try simp only [World.size_alloc, World.size_setCell, World.size_drew] at hz_w1)
      have hT1 := hT.below hO_w1 hT.lt
      have c1 := hT1.cell k hlt
      have HT := Lib.hid hT1
      clear hT hT1
      go_wp2
      go_roundw
      case rel => exact ⟨k + 1, by omega, by go_num, rfl, HT.out, via hO_w1 HB.out HB.out.size⟩
      case measure => simp [intOf]; omega
    · have hk64 : k = 64 := by omega
      subst hk64
      clear hT
      go_wp2
      go_ret
      exact ⟨rfl, HB.out⟩

def usedR (v : Bool) (p : Nat → Int) : Int := if v = true then usedK p 64 else 0
theorem usedR_false (p : Nat → Int) : usedR false p = 0 := by unfold usedR; rw [if_neg (by decide)]
theorem usedR_true (p : Nat → Int) : usedR true p = usedK p 64 := by unfold usedR; rw [if_pos rfl]

theorem iuv_c (p : Nat → Int) (v : Bool) (hv : tvd p = v) (w : World) : Calls Try.prog 21 #[.agg (tv p)] w fun e w' => e = .returned (.int .i64 (usedR v p)) ∧ Below w.heap.size w w' := by
  cases v
  · rw [usedR_false]; exact iuv_no p hv w
  · rw [usedR_true]; exact iuv_yes p hv w

theorem suv_c (p : Nat → Int) (v : Bool) (hv : tvd p = v) (w : World) : Calls Try.prog 20 #[.agg (tv p)] w fun e w' => e = .returned (.int .i64 (usedR v p)) ∧ Below w.heap.size w w' := by
  cases v
  · rw [usedR_false]; exact suv_no p hv w
  · rw [usedR_true]; exact suv_yes p hv w

/-! ### Turning -/
def turnP (p : Nat → Int) : Nat → Int := fun j => p (8 * (7 - j % 8) + j / 8)
def turnK (p : Nat → Int) (k : Nat) : Nat → Int := fun j => if 8 * (7 - j % 8) + j / 8 < k then turnP p j else 0
theorem turn_at : ∀ k : Fin 64, ∀ j : Fin 64, (j.val = 8 * (k.val % 8) + 7 - k.val / 8) ↔ (8 * (7 - j.val % 8) + j.val / 8 = k.val) := by decide +kernel
theorem turn_lt : ∀ j : Fin 64, 8 * (7 - j.val % 8) + j.val / 8 < 64 := by decide +kernel
theorem turn_to : ∀ k : Fin 64, 8 * (k.val % 8) + 7 - k.val / 8 < 64 := by decide +kernel
theorem step_plain (p : Nat → Int) (k m : Nat) (x : Prop) [Decidable x] (h : x ↔ m = k) : (if x then p k else if m < k then p m else 0) = if m < k + 1 then p m else 0 := by
  by_cases e : x
  · have e2 : m = k := h.1 e
    subst e2
    rw [if_pos e, if_pos (Nat.lt_succ_self _)]
  · rw [if_neg e]
    have e2 : m ≠ k := fun y => e (h.2 y)
    by_cases hm : m < k
    · rw [if_pos hm, if_pos (Nat.lt_succ_of_lt hm)]
    · rw [if_neg hm, if_neg (fun y => (Nat.lt_or_eq_of_le (Nat.le_of_lt_succ y)).elim hm e2)]
theorem turn_step (p : Nat → Int) (k : Nat) (hk : k < 64) : ∀ j, j < 64 → upd (turnK p k) (8 * (k % 8) + 7 - k / 8) (p k) j = turnK p (k + 1) j := fun j hj =>
  step_plain p k (8 * (7 - j % 8) + j / 8) (j = 8 * (k % 8) + 7 - k / 8) (turn_at ⟨k, hk⟩ ⟨j, hj⟩)
theorem turn_end (p : Nat → Int) : ∀ j, j < 64 → turnK p 64 j = turnP p j := fun j hj => if_pos (turn_lt ⟨j, hj⟩)

theorem itu_yes (p : Nat → Int) (hv : tvd p = true) (w : World) : Calls Try.prog 23 #[.agg (tv p)] w fun e w' => e = .returned (.agg (tv (turnP p))) ∧ Below w.heap.size w w' := by
  have HV := Lib.hid hv
  clear hv
  have hT : TB ((w.alloc (.cells (tv p) 26)).alloc (.cells (tv zeroT) 26)) w.heap.size 26 p := (TB.new w 26 p).alloc _
  have hZ := TB.new1 w (.cells (tv p) 26) 26 zeroT
  go_enter Try.func23, Try.ntmps23
  go_wp2_with (first | ((with_reducible refine atLoad (ty := 26) ?_); refine wpList_load_tile rfl 26 _ rfl _ rfl 26 _ (hT) _ Try.underlying26 rfl size26 ?_) | ((with_reducible refine atAlloc (ty := 26) ?_); refine wpList_alloc_tile rfl 26 rfl zero26 ?_; (try simp only [World.size_alloc, World.size_setCell, setRow_size])))
  go_wp2_with fail
  refine (itv_c _ _ HV.out _).mono ?_
  rintro e w1 ⟨rfl, hO_w1⟩
  have hz_w1 := hO_w1.size
  (try simp only [World.size_alloc, World.size_setCell, World.size_drew] at hz_w1)
  have hT1 := hT.below hO_w1 (by simp <;> omega)
  have hZ1 := hZ.below hO_w1 (by simp)
  clear hT hZ
  go_wp2_with (first | ((with_reducible refine atLoad (ty := 22) ?_); refine wpList_load_tile rfl 22 _ rfl _ rfl 26 _ (hT1.alloc _) _ Try.underlying22 rfl size22 ?_) | ((with_reducible refine atAlloc (ty := 26) ?_); refine wpList_alloc_tile rfl 26 rfl zero26 ?_; (try simp only [World.size_alloc, World.size_setCell, setRow_size])))
  have HT := Lib.hid (hT1.alloc (.cells (tv zeroT) 26))
  have HZ := Lib.hid (hZ1.alloc (.cells (tv zeroT) 26))
  have hlt : w.heap.size + 1 < w1.heap.size := by omega
  clear hT1 hZ1
  go_loopw [14] (fun i wr => ∃ k : Nat, k ≤ 64 ∧ i = .int .i64 k ∧ TB wr w1.heap.size 26 (turnK p k) ∧ TB wr (w.heap.size + 1) 26 zeroT ∧ Below w.heap.size w wr) (fun i _ => 64 - (intOf i).toNat)
  case atStart =>
    refine ⟨0, by omega, rfl, (TB.new _ _ _).congr (fun i _ => by simp [turnK, zeroT]), HZ.out, ?_⟩
    (repeat (first | with_reducible exact Below.refl _ _ | ((with_reducible refine viaO (by assumption) ?_ ?_ ?_) <;> try ((try simp only [World.size_alloc, World.size_setCell, World.size_drew]) <;> omega)) | ((with_reducible refine Below.alloc ?_ ?_ _) <;> try ((try simp only [World.size_alloc, World.size_setCell, World.size_drew]) <;> omega)) | ((with_reducible refine Below.setCell ?_ ?_ _) <;> try ((try simp only [World.size_alloc, World.size_setCell, World.size_drew]) <;> omega)) | (with_reducible refine below_drewN ?_ _) | (with_reducible refine Below.drew ?_) | ((with_reducible refine via (by assumption) ?_ ?_) <;> try ((try simp only [World.size_alloc, World.size_setCell, World.size_drew]) <;> omega))))
  case round =>
    obtain ⟨k, hk, rfl, h1, h2, hb⟩ := hrel
    have H1 := Lib.hid h1
    have H2 := Lib.hid h2
    have HB := Lib.hid hb
    by_cases hlk : k < 64
    · have hto : 8 * (k % 8) + 7 - k / 8 < 64 := turn_to ⟨k, hlk⟩
      have c1 := h1.cell (8 * (k % 8) + 7 - k / 8) hto
      have f1 := h1.frozen (8 * (k % 8) + 7 - k / 8)
      have hix := index_tile p k
      clear h1 h2 hb
      go_wp2
      go_roundw
      case rel => exact ⟨k + 1, by omega, by go_num, (H1.out.put _ _).congr (turn_step p k hlk), H2.out.far (by simp <;> omega) _, HB.out.setCell (by simp <;> omega) _⟩
      case measure => simp [intOf]; omega
    · have hk64 : k = 64 := by omega
      subst hk64
      have h3 := h1.congr (turn_end p)
      clear h1 hb
      go_wp2_with (first | ((with_reducible refine atLoad (ty := 26) ?_); refine wpList_load_tile rfl 26 _ rfl _ rfl 26 _ (h3) _ Try.underlying26 rfl size26 ?_) | ((with_reducible refine atStore (ty := 26) ?_); refine wpList_store_tile rfl 26 _ _ rfl _ rfl (turnP p) rfl 26 _ (h2) size26 ?_))
      refine bodyPost_ret (v := .agg (tv (turnP p))) (results_cell_row rfl _ _ _ _ _ _ _ rfl (h2.row _) Try.underlying26 rfl (by rw [tv_size]; exact size26)) rfl ⟨rfl, ?_⟩
      exact below_setRow HB.out (by omega) _

theorem itu_no (p : Nat → Int) (hv : tvd p = false) (w : World) : Calls Try.prog 23 #[.agg (tv p)] w fun e w' => e = .returned (.agg (tv zeroT)) ∧ Below w.heap.size w w' := by
  have HV := Lib.hid hv
  clear hv
  have hT : TB ((w.alloc (.cells (tv p) 26)).alloc (.cells (tv zeroT) 26)) w.heap.size 26 p := (TB.new w 26 p).alloc _
  have hZ := TB.new1 w (.cells (tv p) 26) 26 zeroT
  go_enter Try.func23, Try.ntmps23
  go_wp2_with (first | ((with_reducible refine atLoad (ty := 26) ?_); refine wpList_load_tile rfl 26 _ rfl _ rfl 26 _ (hT) _ Try.underlying26 rfl size26 ?_) | ((with_reducible refine atAlloc (ty := 26) ?_); refine wpList_alloc_tile rfl 26 rfl zero26 ?_; (try simp only [World.size_alloc, World.size_setCell, setRow_size])))
  go_wp2_with fail
  refine (itv_c _ _ HV.out _).mono ?_
  rintro e w1 ⟨rfl, hO_w1⟩
  have hz_w1 := hO_w1.size
  (try simp only [World.size_alloc, World.size_setCell, World.size_drew] at hz_w1)
  have hZ1 := hZ.below hO_w1 (by simp)
  clear hT hZ
  go_wp2_with (first | ((with_reducible refine atBuild (ty := 26) ?_); refine wpList_build_tile rfl 26 rfl build26 ?_) | ((with_reducible refine atStore (ty := 26) ?_); refine wpList_store_tile rfl 26 _ _ rfl _ rfl (zeroT) rfl 26 _ (hZ1) size26 ?_))
  refine bodyPost_ret (v := .agg (tv (zeroT))) (results_cell_row rfl _ _ _ _ _ _ _ rfl (hZ1.row _) Try.underlying26 rfl (by rw [tv_size]; exact size26)) rfl ⟨rfl, ?_⟩
  refine below_setRow ?_ (by omega) _
  (repeat (first | with_reducible exact Below.refl _ _ | ((with_reducible refine viaO (by assumption) ?_ ?_ ?_) <;> try ((try simp only [World.size_alloc, World.size_setCell, World.size_drew]) <;> omega)) | ((with_reducible refine Below.alloc ?_ ?_ _) <;> try ((try simp only [World.size_alloc, World.size_setCell, World.size_drew]) <;> omega)) | ((with_reducible refine Below.setCell ?_ ?_ _) <;> try ((try simp only [World.size_alloc, World.size_setCell, World.size_drew]) <;> omega)) | (with_reducible refine below_drewN ?_ _) | (with_reducible refine Below.drew ?_) | ((with_reducible refine via (by assumption) ?_ ?_) <;> try ((try simp only [World.size_alloc, World.size_setCell, World.size_drew]) <;> omega))))

theorem stu_no (p : Nat → Int) (hv : tvd p = false) (w : World) : Calls Try.prog 22 #[.agg (tv p)] w fun e w' => e = .returned (.agg (tv zeroT)) ∧ Below w.heap.size w w' := by
  have HV := Lib.hid hv
  clear hv
  have hZ := (TB.new1 w (.cells (tv p) 26) 26 zeroT).alloc (.cells (tv zeroT) 26)
  have hX := TB.new2 w (.cells (tv p) 26) (.cells (tv zeroT) 26) 26 zeroT
  have hT : TB (((w.alloc (.cells (tv p) 26)).alloc (.cells (tv zeroT) 26)).alloc (.cells (tv zeroT) 26)) w.heap.size 26 p := ((TB.new w 26 p).alloc _).alloc _
  go_enter Try.func22, Try.ntmps22
  go_wp2_with (first | ((with_reducible refine atAlloc (ty := 26) ?_); refine wpList_alloc_tile rfl 26 rfl zero26 ?_; (try simp only [World.size_alloc, World.size_setCell, setRow_size])) | ((with_reducible refine atBuild (ty := 26) ?_); refine wpList_build_tile rfl 26 rfl build26 ?_) | ((with_reducible refine atStore (ty := 26) ?_); refine wpList_store_tile rfl 26 _ _ rfl _ rfl (zeroT) rfl 26 _ (hX) size26 ?_))
  refine wp_loop_once ?_
  go_wp2_with ((with_reducible refine atLoad (ty := 26) ?_); refine wpList_load_tile_g (by first | rfl | (go_simp; done) | (go_simp; omega) | (simp [Region.wanted, yielded]; omega)) 26 _ rfl _ rfl 26 _ (hT.farRow (by omega) _) _ Try.underlying26 rfl size26 ?_)
  go_wp2_with fail
  refine (stv_c _ _ HV.out _).mono ?_
  rintro e w1 ⟨rfl, hO_w1⟩
  have hz_w1 := hO_w1.size
  (try simp only [World.size_alloc, World.size_setCell, World.size_drew] at hz_w1)
  have hX1 := (hX.row zeroT).below hO_w1 (by simp)
  have hZ1 := (hZ.farRow (by omega) _).below hO_w1 (by simp <;> omega)
  clear hT hZ hX
  go_wp2_with (first | ((with_reducible refine atLoad (ty := 26) ?_); refine wpList_load_tile rfl 26 _ rfl _ rfl 26 _ (hX1) _ Try.underlying26 rfl size26 ?_) | ((with_reducible refine atStore (ty := 26) ?_); refine wpList_store_tile rfl 26 _ _ rfl _ rfl (zeroT) rfl 26 _ (hZ1) size26 ?_))
  refine bodyPost_ret (v := .agg (tv (zeroT))) (results_cell_row rfl _ _ _ _ _ _ _ rfl (hZ1.row _) Try.underlying26 rfl (by rw [tv_size]; exact size26)) rfl ⟨rfl, ?_⟩
  refine below_setRow (via hO_w1 (below_setRow ?_ (by omega) _) (by simp <;> omega)) (by omega) _
  (repeat (first | with_reducible exact Below.refl _ _ | ((with_reducible refine viaO (by assumption) ?_ ?_ ?_) <;> try ((try simp only [World.size_alloc, World.size_setCell, World.size_drew]) <;> omega)) | ((with_reducible refine Below.alloc ?_ ?_ _) <;> try ((try simp only [World.size_alloc, World.size_setCell, World.size_drew]) <;> omega)) | ((with_reducible refine Below.setCell ?_ ?_ _) <;> try ((try simp only [World.size_alloc, World.size_setCell, World.size_drew]) <;> omega)) | (with_reducible refine below_drewN ?_ _) | (with_reducible refine Below.drew ?_) | ((with_reducible refine via (by assumption) ?_ ?_) <;> try ((try simp only [World.size_alloc, World.size_setCell, World.size_drew]) <;> omega))))

theorem stu_yes (p : Nat → Int) (hv : tvd p = true) (w : World) : Calls Try.prog 22 #[.agg (tv p)] w fun e w' => e = .returned (.agg (tv (turnP p))) ∧ Below w.heap.size w w' := by
  have HV := Lib.hid hv
  clear hv
  have hZ := (TB.new1 w (.cells (tv p) 26) 26 zeroT).alloc (.cells (tv zeroT) 26)
  have hX := TB.new2 w (.cells (tv p) 26) (.cells (tv zeroT) 26) 26 zeroT
  have hT : TB (((w.alloc (.cells (tv p) 26)).alloc (.cells (tv zeroT) 26)).alloc (.cells (tv zeroT) 26)) w.heap.size 26 p := ((TB.new w 26 p).alloc _).alloc _
  go_enter Try.func22, Try.ntmps22
  go_wp2_with (first | ((with_reducible refine atAlloc (ty := 26) ?_); refine wpList_alloc_tile rfl 26 rfl zero26 ?_; (try simp only [World.size_alloc, World.size_setCell, setRow_size])) | ((with_reducible refine atBuild (ty := 26) ?_); refine wpList_build_tile rfl 26 rfl build26 ?_) | ((with_reducible refine atStore (ty := 26) ?_); refine wpList_store_tile rfl 26 _ _ rfl _ rfl (zeroT) rfl 26 _ (hX) size26 ?_))
  have HT := Lib.hid (hT.farRow (g' := w.heap.size + 1 + 1) (by omega) (tv zeroT))
  have HZ := Lib.hid (hZ.farRow (g' := w.heap.size + 1 + 1) (by omega) (tv zeroT))
  have HX := Lib.hid (hX.row zeroT)
  clear hT hZ hX
  go_loopw [4] (fun i wr => ∃ k : Nat, k ≤ 64 ∧ i = .int .i64 k ∧ TB wr w.heap.size 26 p ∧ TB wr (w.heap.size + 1 + 1) 26 (turnK p k) ∧ TB wr (w.heap.size + 1) 26 zeroT ∧ Below w.heap.size w wr) (fun i _ => 64 - (intOf i).toNat)
  case atStart =>
    refine ⟨0, by omega, rfl, HT.out, HX.out.congr (fun i _ => by simp [turnK, zeroT]), HZ.out, ?_⟩
    refine below_setRow ?_ (by omega) _
    (repeat (first | with_reducible exact Below.refl _ _ | ((with_reducible refine viaO (by assumption) ?_ ?_ ?_) <;> try ((try simp only [World.size_alloc, World.size_setCell, World.size_drew]) <;> omega)) | ((with_reducible refine Below.alloc ?_ ?_ _) <;> try ((try simp only [World.size_alloc, World.size_setCell, World.size_drew]) <;> omega)) | ((with_reducible refine Below.setCell ?_ ?_ _) <;> try ((try simp only [World.size_alloc, World.size_setCell, World.size_drew]) <;> omega)) | (with_reducible refine below_drewN ?_ _) | (with_reducible refine Below.drew ?_) | ((with_reducible refine via (by assumption) ?_ ?_) <;> try ((try simp only [World.size_alloc, World.size_setCell, World.size_drew]) <;> omega))))
  case round =>
    obtain ⟨k, hk, rfl, h0, h1, h2, hb⟩ := hrel
    have H0 := Lib.hid h0
    have H1 := Lib.hid h1
    have H2 := Lib.hid h2
    have HB := Lib.hid hb
    by_cases hlk : k < 64
    · clear h1 h2 hb
      go_wp2_with ((with_reducible refine atLoad (ty := 26) ?_); refine wpList_load_tile_g (by first | rfl | (go_simp; done) | (go_simp; omega) | (simp [Region.wanted, yielded]; omega)) 26 _ rfl _ rfl 26 _ (h0) _ Try.underlying26 rfl size26 ?_)
      go_wp2_with fail
      refine (stv_c _ _ HV.out _).mono ?_
      rintro e w1 ⟨rfl, hO_w1⟩
      have hz_w1 := hO_w1.size
      (try simp only [World.size_alloc, World.size_setCell, World.size_drew] at hz_w1)
      have hto : k % 8 * 8 + 7 - k / 8 < 64 := by have := turn_to ⟨k, hlk⟩; simp only at this; omega
      have g0 := H0.out.below hO_w1 H0.out.lt
      have g1 := H1.out.below hO_w1 H1.out.lt
      have g2 := H2.out.below hO_w1 H2.out.lt
      have c0 := g0.cell k hlk
      have c1 := g1.cell (k % 8 * 8 + 7 - k / 8) hto
      have f1 := g1.frozen (k % 8 * 8 + 7 - k / 8)
      have G0 := Lib.hid g0
      have G1 := Lib.hid g1
      have G2 := Lib.hid g2
      have e8 : k % 8 * 8 + 7 - k / 8 = 8 * (k % 8) + 7 - k / 8 := by rw [Nat.mul_comm]
      have E8 := Lib.hid e8
      clear h0 g0 g1 g2 e8
      go_wp2
      go_roundw
      case rel =>
        refine ⟨k + 1, by omega, by go_num, G0.out.far (by simp <;> omega) _, ?_, G2.out.far (by simp) _, (via hO_w1 HB.out HB.out.size).setCell (by simp <;> omega) _⟩
        rw [E8.out]
        exact (G1.out.put _ _).congr (turn_step p k hlk)
      case measure => simp [intOf]; omega
    · have hk64 : k = 64 := by omega
      subst hk64
      have h3 := h1.congr (turn_end p)
      clear h0 h1 hb
      go_wp2_with (first | ((with_reducible refine atLoad (ty := 26) ?_); refine wpList_load_tile rfl 26 _ rfl _ rfl 26 _ (h3) _ Try.underlying26 rfl size26 ?_) | ((with_reducible refine atStore (ty := 26) ?_); refine wpList_store_tile rfl 26 _ _ rfl _ rfl (turnP p) rfl 26 _ (h2) size26 ?_))
      refine bodyPost_ret (v := .agg (tv (turnP p))) (results_cell_row rfl _ _ _ _ _ _ _ rfl (h2.row _) Try.underlying26 rfl (by rw [tv_size]; exact size26)) rfl ⟨rfl, ?_⟩
      exact below_setRow HB.out (by omega) _

def turnR (v : Bool) (p : Nat → Int) : Nat → Int := if v = true then turnP p else zeroT

theorem itu_c (p : Nat → Int) (v : Bool) (hv : tvd p = v) (w : World) : Calls Try.prog 23 #[.agg (tv p)] w fun e w' => e = .returned (.agg (tv (turnR v p))) ∧ Below w.heap.size w w' := by
  cases v
  · rw [show turnR false p = zeroT from rfl]; exact itu_no p hv w
  · rw [show turnR true p = turnP p from rfl]; exact itu_yes p hv w

theorem stu_c (p : Nat → Int) (v : Bool) (hv : tvd p = v) (w : World) : Calls Try.prog 22 #[.agg (tv p)] w fun e w' => e = .returned (.agg (tv (turnR v p))) ∧ Below w.heap.size w w' := by
  cases v
  · rw [show turnR false p = zeroT from rfl]; exact stu_no p hv w
  · rw [show turnR true p = turnP p from rfl]; exact stu_yes p hv w

end Go.Proofs.Ytpddgepjlpdfjaa
