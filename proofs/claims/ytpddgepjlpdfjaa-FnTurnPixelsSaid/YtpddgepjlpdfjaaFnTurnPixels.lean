/-
  The law FnTurnPixels holds: turning moves the first column to the first row; for every code. No conditions.
-/
import Derived.Test.YtpddgepjlpdfjaaOpen
import Derived.Test.YtpddgepjlpdfjaaTileOpen
import Derived.Test.YtpddgepjlpdfjaaTileDraw
import Derived.Test.YtpddgepjlpdfjaaTile2
import Derived.Test.YtpddgepjlpdfjaaTileEq
namespace Go.Proofs.Ytpddgepjlpdfjaa.lawFnTurnPixels
set_option linter.all false
set_option linter.unusedSimpArgs false
set_option linter.unusedVariables false
open Go.ChangeShapes Go.WideShapes Go.ChangeAt Go.RowKit

set_option maxRecDepth 100000 in
set_option maxHeartbeats 1000000 in
theorem walk (v0 : Value) (w : World) (h0 : CodeArg w v0) : Calls Try.prog 11 #[v0] w fun e w' => e = .returned (.bool true) ∧ Below w.heap.size w w' := by
  obtain ⟨a, len, cap, rfl, hcode, hl⟩ := h0
  have hm := hcode.1; unfold maxLen at hm
  by_cases hlen : 1048576 < len
  · go_enter Try.func11, Try.ntmps11
    go_wp2
    go_ret
    exact ⟨rfl, Below.refl _ _⟩
  · go_enter Try.func11, Try.ntmps11
    go_wp2_with fail
    refine (drawTurnTile_c _ _ _ _ hcode hl).mono ?_
    rintro e w1 ⟨p, rfl, hO_w1⟩
    have hz_w1 := hO_w1.size
    have hT := TB.new w1 26 p
    clear hm hcode
    cases hv : tvd p
    · skip
      have HV := Lib.hid hv
      clear hv
      go_wp2_with (first | ((with_reducible refine atAlloc (ty := 26) ?_); refine wpList_alloc_tile rfl 26 rfl zero26 ?_; (try simp only [World.size_alloc, World.size_setCell, setRow_size])) | ((with_reducible refine atStore (ty := 26) ?_); refine wpList_store_tile_new rfl 26 _ _ rfl rfl (p) rfl 26 _ size26 ?_) | ((with_reducible refine atLoad (ty := 26) ?_); refine wpList_load_tile rfl 26 _ rfl _ rfl 26 _ (hT) _ Try.underlying26 rfl size26 ?_))
      go_wp2_with fail
      refine (itu_c _ _ HV.out _).mono ?_
      rintro e w2 ⟨rfl, hO_w2⟩
      have hz_w2 := hO_w2.size
      (try simp only [World.size_alloc, World.size_setCell, World.size_drew] at hz_w2)
      have hU := (hT.below hO_w2 (by simp)).alloc (.cells (tv (turnR false p)) 26)
      have hX := TB.new w2 26 (turnR false p)
      clear hT
      go_wp2_with (first | ((with_reducible refine atAlloc (ty := 26) ?_); refine wpList_alloc_tile rfl 26 rfl zero26 ?_; (try simp only [World.size_alloc, World.size_setCell, setRow_size])) | ((with_reducible refine atStore (ty := 26) ?_); refine wpList_store_tile_new rfl 26 _ _ rfl rfl (turnR false p) rfl 26 _ size26 ?_))
      refine wp_region_over (by kernel_rfl) (by kernel_rfl) ?_
      intro W hO_W
      have hz_W := hO_W.size
      (try simp only [World.size_alloc, World.size_setCell, World.size_drew] at hz_W)
      have hU1 := hU.below hO_W hU.lt
      have hX1 := hX.below hO_W hX.lt
      (conv => arg 6; simp only [Act.put, List.setIfInBounds_toArray, List.set_cons_zero, List.set_cons_succ])
      repeat (first | ((with_reducible refine atQLoad (ty := 26) ?_); refine wpQuiet_load_tile (by first | rfl | (go_simp; done) | (simp [Region.wanted, yielded]; done)) _ rfl _ rfl 26 _ hU1 ?_; (conv => arg 6; simp only [Act.put, List.setIfInBounds_toArray, List.set_cons_zero, List.set_cons_succ])) | ((with_reducible refine atQLoad (ty := 26) ?_); refine wpQuiet_load_tile (by first | rfl | (go_simp; done) | (simp [Region.wanted, yielded]; done)) _ rfl _ rfl 26 _ hX1 ?_; (conv => arg 6; simp only [Act.put, List.setIfInBounds_toArray, List.set_cons_zero, List.set_cons_succ])) | ((with_reducible refine atQBinOp (b := .neq) (ty := 26) ?_); refine wpQuiet_neq_tile (by first | rfl | (go_simp; done) | (simp [Region.wanted, yielded]; done)) _ _ _ rfl (turnR false p) (turnR false p) rfl rfl (rfl) ?_; (conv => arg 6; simp only [Act.put, List.setIfInBounds_toArray, List.set_cons_zero, List.set_cons_succ])) | go_big_quiet_step ((go_at_call 22; refine Calls.over_of (stu_c _ _ HV.out _))))
      refine wpQuiet_nil ?_
      intro W2 hx_W2
      obtain ⟨x_W2, hx_W2⟩ := hx_W2
      have hO_W2 : Below W.heap.size W W2 := hx_W2 ▸ over_below W x_W2
      clear hx_W2
      have hz_W2 := hO_W2.size
      have hU2 := hU1.below hO_W2 hU1.lt
      go_wp2_with ((with_reducible refine atLoad (ty := 26) ?_); refine wpList_load_tile rfl 26 _ rfl _ rfl 26 _ (hU2) _ Try.underlying26 rfl size26 ?_)
      go_wp2_with fail
      refine (stv_c _ _ HV.out _).mono ?_
      rintro e w3 ⟨rfl, hO_w3⟩
      have hz_w3 := hO_w3.size
      (try simp only [World.size_alloc, World.size_setCell, World.size_drew] at hz_w3)
      go_wp2_with (go_at_call 26; refine (alive_c _).mono ?_; rintro e w' ⟨rfl, rfl⟩)
      go_ret
      refine ⟨rfl, ?_⟩
      (repeat (first | with_reducible exact Below.refl _ _ | ((with_reducible refine viaO (by assumption) ?_ ?_ ?_) <;> try ((try simp only [World.size_alloc, World.size_setCell, World.size_drew]) <;> omega)) | ((with_reducible refine Below.alloc ?_ ?_ _) <;> try ((try simp only [World.size_alloc, World.size_setCell, World.size_drew]) <;> omega)) | ((with_reducible refine Below.setCell ?_ ?_ _) <;> try ((try simp only [World.size_alloc, World.size_setCell, World.size_drew]) <;> omega)) | (with_reducible refine below_drewN ?_ _) | (with_reducible refine Below.drew ?_) | ((with_reducible refine via (by assumption) ?_ ?_) <;> try ((try simp only [World.size_alloc, World.size_setCell, World.size_drew]) <;> omega))))
    · skip
      have HV := Lib.hid hv
      clear hv
      go_wp2_with (first | ((with_reducible refine atAlloc (ty := 26) ?_); refine wpList_alloc_tile rfl 26 rfl zero26 ?_; (try simp only [World.size_alloc, World.size_setCell, setRow_size])) | ((with_reducible refine atStore (ty := 26) ?_); refine wpList_store_tile_new rfl 26 _ _ rfl rfl (p) rfl 26 _ size26 ?_) | ((with_reducible refine atLoad (ty := 26) ?_); refine wpList_load_tile rfl 26 _ rfl _ rfl 26 _ (hT) _ Try.underlying26 rfl size26 ?_))
      go_wp2_with fail
      refine (itu_c _ _ HV.out _).mono ?_
      rintro e w2 ⟨rfl, hO_w2⟩
      have hz_w2 := hO_w2.size
      (try simp only [World.size_alloc, World.size_setCell, World.size_drew] at hz_w2)
      have hU := (hT.below hO_w2 (by simp)).alloc (.cells (tv (turnR true p)) 26)
      have hX := TB.new w2 26 (turnR true p)
      clear hT
      go_wp2_with (first | ((with_reducible refine atAlloc (ty := 26) ?_); refine wpList_alloc_tile rfl 26 rfl zero26 ?_; (try simp only [World.size_alloc, World.size_setCell, setRow_size])) | ((with_reducible refine atStore (ty := 26) ?_); refine wpList_store_tile_new rfl 26 _ _ rfl rfl (turnR true p) rfl 26 _ size26 ?_))
      refine wp_region_over (by kernel_rfl) (by kernel_rfl) ?_
      intro W hO_W
      have hz_W := hO_W.size
      (try simp only [World.size_alloc, World.size_setCell, World.size_drew] at hz_W)
      have hU1 := hU.below hO_W hU.lt
      have hX1 := hX.below hO_W hX.lt
      (conv => arg 6; simp only [Act.put, List.setIfInBounds_toArray, List.set_cons_zero, List.set_cons_succ])
      repeat (first | ((with_reducible refine atQLoad (ty := 26) ?_); refine wpQuiet_load_tile (by first | rfl | (go_simp; done) | (simp [Region.wanted, yielded]; done)) _ rfl _ rfl 26 _ hU1 ?_; (conv => arg 6; simp only [Act.put, List.setIfInBounds_toArray, List.set_cons_zero, List.set_cons_succ])) | ((with_reducible refine atQLoad (ty := 26) ?_); refine wpQuiet_load_tile (by first | rfl | (go_simp; done) | (simp [Region.wanted, yielded]; done)) _ rfl _ rfl 26 _ hX1 ?_; (conv => arg 6; simp only [Act.put, List.setIfInBounds_toArray, List.set_cons_zero, List.set_cons_succ])) | ((with_reducible refine atQBinOp (b := .neq) (ty := 26) ?_); refine wpQuiet_neq_tile (by first | rfl | (go_simp; done) | (simp [Region.wanted, yielded]; done)) _ _ _ rfl (turnR true p) (turnR true p) rfl rfl (rfl) ?_; (conv => arg 6; simp only [Act.put, List.setIfInBounds_toArray, List.set_cons_zero, List.set_cons_succ])) | go_big_quiet_step ((go_at_call 22; refine Calls.over_of (stu_c _ _ HV.out _))))
      refine wpQuiet_nil ?_
      intro W2 hx_W2
      obtain ⟨x_W2, hx_W2⟩ := hx_W2
      have hO_W2 : Below W.heap.size W W2 := hx_W2 ▸ over_below W x_W2
      clear hx_W2
      have hz_W2 := hO_W2.size
      have hU2 := hU1.below hO_W2 hU1.lt
      have hX2 := hX1.below hO_W2 hX1.lt
      go_wp2_with ((with_reducible refine atLoad (ty := 26) ?_); refine wpList_load_tile rfl 26 _ rfl _ rfl 26 _ (hU2) _ Try.underlying26 rfl size26 ?_)
      go_wp2_with fail
      refine (stv_c _ _ HV.out _).mono ?_
      rintro e w3 ⟨rfl, hO_w3⟩
      have hz_w3 := hO_w3.size
      (try simp only [World.size_alloc, World.size_setCell, World.size_drew] at hz_w3)
      have hU3 := hU2.below hO_w3 hU2.lt
      have hX3 := hX2.below hO_w3 hX2.lt
      have cx0 : w3.cell? ⟨w2.heap.size, 0, none⟩ = some (.int .i64 (p 56)) := hX3.cell 0 (by decide)
      have cu0 := hU3.cell 0 (by decide)
      have cx1 : w3.cell? ⟨w2.heap.size, 1, none⟩ = some (.int .i64 (p 48)) := hX3.cell 1 (by decide)
      have cu1 := hU3.cell 8 (by decide)
      have cx2 : w3.cell? ⟨w2.heap.size, 2, none⟩ = some (.int .i64 (p 40)) := hX3.cell 2 (by decide)
      have cu2 := hU3.cell 16 (by decide)
      have cx3 : w3.cell? ⟨w2.heap.size, 3, none⟩ = some (.int .i64 (p 32)) := hX3.cell 3 (by decide)
      have cu3 := hU3.cell 24 (by decide)
      have cx4 : w3.cell? ⟨w2.heap.size, 4, none⟩ = some (.int .i64 (p 24)) := hX3.cell 4 (by decide)
      have cu4 := hU3.cell 32 (by decide)
      have cx5 : w3.cell? ⟨w2.heap.size, 5, none⟩ = some (.int .i64 (p 16)) := hX3.cell 5 (by decide)
      have cu5 := hU3.cell 40 (by decide)
      have cx6 : w3.cell? ⟨w2.heap.size, 6, none⟩ = some (.int .i64 (p 8)) := hX3.cell 6 (by decide)
      have cu6 := hU3.cell 48 (by decide)
      have cx7 : w3.cell? ⟨w2.heap.size, 7, none⟩ = some (.int .i64 (p 0)) := hX3.cell 7 (by decide)
      have cu7 := hU3.cell 56 (by decide)
      clear hU hX hU1 hX1 hU2 hX2 hU3 hX3
      go_wp2
      go_loopw [5] (fun i wr => ∃ k n : Nat, k ≤ 8 ∧ i = .int .i64 k ∧ wr = w3.drewN n) (fun i _ => 8 - (intOf i).toNat)
      case atStart => exact ⟨0, 0, by omega, rfl, rfl⟩
      case round =>
        obtain ⟨k, n, hk, rfl, rfl⟩ := hrel
        rcases (show k = 0 ∨ k = 1 ∨ k = 2 ∨ k = 3 ∨ k = 4 ∨ k = 5 ∨ k = 6 ∨ k = 7 ∨ k = 8 by omega) with rfl | rfl | rfl | rfl | rfl | rfl | rfl | rfl | rfl
        · go_wp2
          go_quiet (fail)
          go_wp2
          go_roundw
          case rel => exact ⟨1, n + nq, by decide, by go_num, rfl⟩
          case measure => simp [intOf]
        · go_wp2
          go_quiet (fail)
          go_wp2
          go_roundw
          case rel => exact ⟨2, n + nq, by decide, by go_num, rfl⟩
          case measure => simp [intOf]
        · go_wp2
          go_quiet (fail)
          go_wp2
          go_roundw
          case rel => exact ⟨3, n + nq, by decide, by go_num, rfl⟩
          case measure => simp [intOf]
        · go_wp2
          go_quiet (fail)
          go_wp2
          go_roundw
          case rel => exact ⟨4, n + nq, by decide, by go_num, rfl⟩
          case measure => simp [intOf]
        · go_wp2
          go_quiet (fail)
          go_wp2
          go_roundw
          case rel => exact ⟨5, n + nq, by decide, by go_num, rfl⟩
          case measure => simp [intOf]
        · go_wp2
          go_quiet (fail)
          go_wp2
          go_roundw
          case rel => exact ⟨6, n + nq, by decide, by go_num, rfl⟩
          case measure => simp [intOf]
        · go_wp2
          go_quiet (fail)
          go_wp2
          go_roundw
          case rel => exact ⟨7, n + nq, by decide, by go_num, rfl⟩
          case measure => simp [intOf]
        · go_wp2
          go_quiet (fail)
          go_wp2
          go_roundw
          case rel => exact ⟨8, n + nq, by decide, by go_num, rfl⟩
          case measure => simp [intOf]
        · go_wp2
          go_ret
          refine ⟨rfl, ?_⟩
          (repeat (first | with_reducible exact Below.refl _ _ | ((with_reducible refine viaO (by assumption) ?_ ?_ ?_) <;> try ((try simp only [World.size_alloc, World.size_setCell, World.size_drew]) <;> omega)) | ((with_reducible refine Below.alloc ?_ ?_ _) <;> try ((try simp only [World.size_alloc, World.size_setCell, World.size_drew]) <;> omega)) | ((with_reducible refine Below.setCell ?_ ?_ _) <;> try ((try simp only [World.size_alloc, World.size_setCell, World.size_drew]) <;> omega)) | (with_reducible refine below_drewN ?_ _) | (with_reducible refine Below.drew ?_) | ((with_reducible refine via (by assumption) ?_ ?_) <;> try ((try simp only [World.size_alloc, World.size_setCell, World.size_drew]) <;> omega))))

set_option maxRecDepth 100000 in
theorem lifted (os : Os) (started : os.Started) (H : Type) (enc : TypeId × Value → H) :
    ReturnsInHanded {} Try.checked os 11 .any (Rows.fnTurnPixelsSpec.pre6 enc Try.prog Try.f11 Rows.fnTurnPixelsRow.domain false) (Rows.fnTurnPixelsSpec.post enc Try.prog Try.f11 false true false false) := by
  refine returnsInHanded_of_change (C := Try.checked) own started (by kernel_rfl) Try.func11
    (ChangeSpec.witness6 (enc := enc) (C := Try.checked) false ⟨#[], #[.slice none 0 0], []⟩ 8 (by kernel_rfl) (by kernel_rfl) (by kernel_rfl) (by kernel_rfl)) ?_
  intro W base args ds gs before hval0 hW hcnd _
  have hval : ∀ (j : Nat) t v, Try.f11.params[j]? = some t → args[j]? = some v → Value.okWide Try.prog W .any base t v := hval0
  have hW' := hW
  obtain ⟨p, q, hA0, hV, rfl, hfz, hnd⟩ := hW
  have hA : DataW.TrodAll enc Try.prog W 0 (fun _ => true) true Try.f11.params.toList args.toList ds p := hA0
  rw [Try.params11] at hA hval
  obtain ⟨v0, vs0, d0, ds0, p0, q0, hargs, rfl, rfl, h0, r0⟩ := trodAll_cons hA
  obtain ⟨rfl, rfl, rfl⟩ := trodAll_nil r0
  obtain rfl : args = #[v0] := by cases args; simp_all
  obtain ⟨rfl, rfl⟩ := trodVars_none hV
  have lt0 : ∀ x ∈ p0, x.block < W.heap.size := by obtain ⟨m, hm⟩ := h0; exact DataW.trod_lt m _ _ _ hm
  have a0 := codeArg (hval 0 32 v0 rfl rfl) h0
  clear hA0 hval0
  refine (walk v0 W a0).mono fun e W' ⟨he, bel⟩ => ?_
  subst he
  exact ⟨_, rfl, _, _, _, [], _, [], hW', trodAll_mk1 (shut_bool Try.underlying4 _), (trodAll_cons_mk (Below.trod laidOut (by kernel_rfl) (of_decide_eq_true (by kernel_rfl)) h0 bel lt0) trodAll_mk0), rfl, bel.frame _, fun h => by cases h⟩

theorem proved : Rows.FnTurnPixelsSaid :=
  OpenClaim.holds_of_wide 11 Try.f11 rfl rfl rfl rfl rfl rfl rfl ⟨rfl, rfl, rfl, rfl, rfl⟩ rfl rfl rfl rfl rfl (by kernel_rfl) Try.func11 (by kernel_rfl)
    (of_decide_eq_true (by kernel_rfl)) (by unfold Func.isWrapper; first | (rw [if_pos (by decide +kernel)]; kernel_rfl) | (rw [if_neg (by decide +kernel)]; exact ⟨rfl, rfl⟩))
    (fun os started H enc _ => lifted os started H enc)
#print axioms proved

end Go.Proofs.Ytpddgepjlpdfjaa.lawFnTurnPixels
