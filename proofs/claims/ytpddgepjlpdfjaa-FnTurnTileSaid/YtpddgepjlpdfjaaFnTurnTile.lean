/-
  The law FnTurnTile holds: turning four times returns the tile; the used values do not change; flipping across and turning is its own opposite; for every code. No conditions.
-/
import Derived.Test.YtpddgepjlpdfjaaOpen
import Derived.Test.YtpddgepjlpdfjaaTileOpen
import Derived.Test.YtpddgepjlpdfjaaTileDraw
import Derived.Test.YtpddgepjlpdfjaaTile2
import Derived.Test.YtpddgepjlpdfjaaTileEq
import Derived.Test.YtpddgepjlpdfjaaTileLaw
namespace Go.Proofs.Ytpddgepjlpdfjaa.lawFnTurnTile
set_option linter.all false
set_option linter.unusedSimpArgs false
set_option linter.unusedVariables false
open Go.ChangeShapes Go.WideShapes Go.ChangeAt Go.RowKit

set_option maxRecDepth 100000 in
set_option maxHeartbeats 2000000 in
theorem walk (v0 : Value) (w : World) (h0 : CodeArg w v0) : Calls Try.prog 13 #[v0] w fun e w' => e = .returned (.bool true) ∧ Below w.heap.size w w' := by
  obtain ⟨a, len, cap, rfl, hcode, hl⟩ := h0
  have hm := hcode.1; unfold maxLen at hm
  by_cases hlen : 1048576 < len
  · go_enter Try.func13, Try.ntmps13
    go_wp2
    go_ret
    exact ⟨rfl, Below.refl _ _⟩
  · go_enter Try.func13, Try.ntmps13
    go_wp2_with fail
    refine (drawTurnTile_c _ _ _ _ hcode hl).mono ?_
    rintro e w1 ⟨p, rfl, hO_w1⟩
    have hz_w1 := hO_w1.size
    have hT := TB.new w1 26 p
    clear hm hcode
    cases hv : tvd p
    · skip
      have HV := Lib.hid hv
      clear hv
      go_wp2_with (first | ((with_reducible refine atAlloc (ty := 26) ?_); refine wpList_alloc_tile rfl 26 rfl zero26 ?_; (try simp only [World.size_alloc, World.size_setCell, setRow_size])) | ((with_reducible refine atStore (ty := 26) ?_); refine wpList_store_tile_new rfl 26 _ _ rfl rfl (p) rfl 26 _ size26 ?_) | ((with_reducible refine atLoad (ty := 26) ?_); refine wpList_load_tile rfl 26 _ rfl _ rfl 26 _ (hT) _ Try.underlying26 rfl size26 ?_))
      go_wp2_with fail
      refine (itu_c _ _ HV.out _).mono ?_
      rintro e w2 ⟨rfl, hO_w2⟩
      have hz_w2 := hO_w2.size
      (try simp only [World.size_alloc, World.size_setCell, World.size_drew] at hz_w2)
      have hU := (hT.below hO_w2 (by simp)).alloc (.cells (tv (turnR false p)) 26)
      have hX := TB.new w2 26 (turnR false p)
      clear hT
      go_wp2_with (first | ((with_reducible refine atAlloc (ty := 26) ?_); refine wpList_alloc_tile rfl 26 rfl zero26 ?_; (try simp only [World.size_alloc, World.size_setCell, setRow_size])) | ((with_reducible refine atStore (ty := 26) ?_); refine wpList_store_tile_new rfl 26 _ _ rfl rfl (turnR false p) rfl 26 _ size26 ?_))
      refine wp_region_over (by kernel_rfl) (by kernel_rfl) ?_
      intro W hO_W
      have hz_W := hO_W.size
      (try simp only [World.size_alloc, World.size_setCell, World.size_drew] at hz_W)
      have hU1 := hU.below hO_W hU.lt
      have hX1 := hX.below hO_W hX.lt
      (conv => arg 6; simp only [Act.put, List.setIfInBounds_toArray, List.set_cons_zero, List.set_cons_succ])
      repeat (first | ((with_reducible refine atQLoad (ty := 26) ?_); refine wpQuiet_load_tile (by first | rfl | (go_simp; done) | (simp [Region.wanted, yielded]; done)) _ rfl _ rfl 26 _ hU1 ?_; (conv => arg 6; simp only [Act.put, List.setIfInBounds_toArray, List.set_cons_zero, List.set_cons_succ])) | ((with_reducible refine atQLoad (ty := 26) ?_); refine wpQuiet_load_tile (by first | rfl | (go_simp; done) | (simp [Region.wanted, yielded]; done)) _ rfl _ rfl 26 _ hX1 ?_; (conv => arg 6; simp only [Act.put, List.setIfInBounds_toArray, List.set_cons_zero, List.set_cons_succ])) | ((with_reducible refine atQBinOp (b := .neq) (ty := 26) ?_); refine wpQuiet_neq_tile (by first | rfl | (go_simp; done) | (simp [Region.wanted, yielded]; done)) _ _ _ rfl (turnR false p) (turnR false p) rfl rfl (rfl) ?_; (conv => arg 6; simp only [Act.put, List.setIfInBounds_toArray, List.set_cons_zero, List.set_cons_succ])) | go_big_quiet_step ((go_at_call 22; refine Calls.over_of (stu_c _ _ HV.out _))))
      refine wpQuiet_nil ?_
      intro W2 hx_W2
      obtain ⟨x_W2, hx_W2⟩ := hx_W2
      have hO_W2 : Below W.heap.size W W2 := hx_W2 ▸ over_below W x_W2
      clear hx_W2
      have hz_W2 := hO_W2.size
      have hU2 := hU1.below hO_W2 hU1.lt
      have hX2 := hX1.below hO_W2 hX1.lt
      go_wp2_with ((with_reducible refine atLoad (ty := 26) ?_); refine wpList_load_tile rfl 26 _ rfl _ rfl 26 _ (hU2) _ Try.underlying26 rfl size26 ?_)
      go_wp2_with fail
      refine (stv_c _ _ HV.out _).mono ?_
      rintro e w3 ⟨rfl, hO_w3⟩
      have hz_w3 := hO_w3.size
      (try simp only [World.size_alloc, World.size_setCell, World.size_drew] at hz_w3)
      have hX3 := hX2.below hO_w3 hX2.lt
      go_wp2_with (first | ((with_reducible refine atLoad (ty := 26) ?_); refine wpList_load_tile rfl 26 _ rfl _ rfl 26 _ (hX3) _ Try.underlying26 rfl size26 ?_) | ((with_reducible refine atBuild (ty := 26) ?_); refine wpList_build_tile rfl 26 rfl build26 ?_) | ((with_reducible refine atBinOp (b := .eql) (ty := 26) ?_); refine wpList_eql_tile (by first | rfl | (go_simp; done) | (simp [Region.wanted, yielded]; done)) _ _ _ rfl (turnR false p) (zeroT) rfl rfl (rfl) ?_) | (go_at_call 26; refine (alive_c _).mono ?_; rintro e w' ⟨rfl, rfl⟩))
      go_ret
      refine ⟨rfl, ?_⟩
      (repeat (first | with_reducible exact Below.refl _ _ | ((with_reducible refine viaO (by assumption) ?_ ?_ ?_) <;> try ((try simp only [World.size_alloc, World.size_setCell, World.size_drew]) <;> omega)) | ((with_reducible refine Below.alloc ?_ ?_ _) <;> try ((try simp only [World.size_alloc, World.size_setCell, World.size_drew]) <;> omega)) | ((with_reducible refine Below.setCell ?_ ?_ _) <;> try ((try simp only [World.size_alloc, World.size_setCell, World.size_drew]) <;> omega)) | (with_reducible refine below_drewN ?_ _) | (with_reducible refine Below.drew ?_) | ((with_reducible refine via (by assumption) ?_ ?_) <;> try ((try simp only [World.size_alloc, World.size_setCell, World.size_drew]) <;> omega))))
    · have hv1 : tvd (turnR true p) = true := tvd_turn hv
      have H1 := Lib.hid (fun w => itu_yes (turnR true p) hv1 w)
      have H2 := Lib.hid (fun w => itu_yes (turnP (turnR true p)) (tvd_turn hv1) w)
      have H3 := Lib.hid (fun w => itu_yes (turnP (turnP (turnR true p))) (tvd_turn (tvd_turn hv1)) w)
      have hvf : tvd (flipP true false p) = true := tvd_flip true false hv
      have hvm : tvd (turnP (flipP true false p)) = true := tvd_turn hvf
      have H4 := Lib.hid (fun w => itu_yes (flipP true false (turnP (flipP true false p))) (tvd_flip true false hvm) w)
      have F1 := Lib.hid (fun w => ifl_yes (turnP (flipP true false p)) true false hvm w)
      have HF := Lib.hid hvf
      have U0 := Lib.hid (fun w => iuv_yes p hv w)
      have U1 : Hid (∀ w, Calls Try.prog 21 #[.agg (tv (turnR true p))] w fun e w' => e = .returned (.int .i64 (usedK p 64)) ∧ Below w.heap.size w w') := Lib.hid (fun w => by
        have := iuv_yes (turnR true p) hv1 w
        rwa [show usedK (turnR true p) 64 = usedK p 64 from used_turn hv] at this)
      clear hv1 hvf hvm
      have HV := Lib.hid hv
      clear hv
      go_wp2_with (first | ((with_reducible refine atAlloc (ty := 26) ?_); refine wpList_alloc_tile rfl 26 rfl zero26 ?_; (try simp only [World.size_alloc, World.size_setCell, setRow_size])) | ((with_reducible refine atStore (ty := 26) ?_); refine wpList_store_tile_new rfl 26 _ _ rfl rfl (p) rfl 26 _ size26 ?_) | ((with_reducible refine atLoad (ty := 26) ?_); refine wpList_load_tile rfl 26 _ rfl _ rfl 26 _ (hT) _ Try.underlying26 rfl size26 ?_))
      go_wp2_with fail
      refine (itu_c _ _ HV.out _).mono ?_
      rintro e w2 ⟨rfl, hO_w2⟩
      have hz_w2 := hO_w2.size
      (try simp only [World.size_alloc, World.size_setCell, World.size_drew] at hz_w2)
      have hU := (hT.below hO_w2 (by simp)).alloc (.cells (tv (turnR true p)) 26)
      have hX := TB.new w2 26 (turnR true p)
      clear hT
      go_wp2_with (first | ((with_reducible refine atAlloc (ty := 26) ?_); refine wpList_alloc_tile rfl 26 rfl zero26 ?_; (try simp only [World.size_alloc, World.size_setCell, setRow_size])) | ((with_reducible refine atStore (ty := 26) ?_); refine wpList_store_tile_new rfl 26 _ _ rfl rfl (turnR true p) rfl 26 _ size26 ?_))
      refine wp_region_over (by kernel_rfl) (by kernel_rfl) ?_
      intro W hO_W
      have hz_W := hO_W.size
      (try simp only [World.size_alloc, World.size_setCell, World.size_drew] at hz_W)
      have hU1 := hU.below hO_W hU.lt
      have hX1 := hX.below hO_W hX.lt
      (conv => arg 6; simp only [Act.put, List.setIfInBounds_toArray, List.set_cons_zero, List.set_cons_succ])
      repeat (first | ((with_reducible refine atQLoad (ty := 26) ?_); refine wpQuiet_load_tile (by first | rfl | (go_simp; done) | (simp [Region.wanted, yielded]; done)) _ rfl _ rfl 26 _ hU1 ?_; (conv => arg 6; simp only [Act.put, List.setIfInBounds_toArray, List.set_cons_zero, List.set_cons_succ])) | ((with_reducible refine atQLoad (ty := 26) ?_); refine wpQuiet_load_tile (by first | rfl | (go_simp; done) | (simp [Region.wanted, yielded]; done)) _ rfl _ rfl 26 _ hX1 ?_; (conv => arg 6; simp only [Act.put, List.setIfInBounds_toArray, List.set_cons_zero, List.set_cons_succ])) | ((with_reducible refine atQBinOp (b := .neq) (ty := 26) ?_); refine wpQuiet_neq_tile (by first | rfl | (go_simp; done) | (simp [Region.wanted, yielded]; done)) _ _ _ rfl (turnR true p) (turnR true p) rfl rfl (rfl) ?_; (conv => arg 6; simp only [Act.put, List.setIfInBounds_toArray, List.set_cons_zero, List.set_cons_succ])) | go_big_quiet_step ((go_at_call 22; refine Calls.over_of (stu_c _ _ HV.out _))))
      refine wpQuiet_nil ?_
      intro W2 hx_W2
      obtain ⟨x_W2, hx_W2⟩ := hx_W2
      have hO_W2 : Below W.heap.size W W2 := hx_W2 ▸ over_below W x_W2
      clear hx_W2
      have hz_W2 := hO_W2.size
      have hU2 := hU1.below hO_W2 hU1.lt
      have hX2 := hX1.below hO_W2 hX1.lt
      go_wp2_with ((with_reducible refine atLoad (ty := 26) ?_); refine wpList_load_tile rfl 26 _ rfl _ rfl 26 _ (hU2) _ Try.underlying26 rfl size26 ?_)
      go_wp2_with fail
      refine (stv_c _ _ HV.out _).mono ?_
      rintro e w3 ⟨rfl, hO_w3⟩
      have hz_w3 := hO_w3.size
      (try simp only [World.size_alloc, World.size_setCell, World.size_drew] at hz_w3)
      have hU3 := hU2.below hO_w3 hU2.lt
      have hX3 := hX2.below hO_w3 hX2.lt
      clear hU hX hU1 hX1 hU2 hX2
      go_wp2_with ((with_reducible refine atLoad (ty := 26) ?_); refine wpList_load_tile rfl 26 _ rfl _ rfl 26 _ (hU3) _ Try.underlying26 rfl size26 ?_)
      go_wp2_with fail
      refine (ifl_yes _ true false HV.out _).mono ?_
      rintro e w4 ⟨rfl, hO_w4⟩
      have hz_w4 := hO_w4.size
      (try simp only [World.size_alloc, World.size_setCell, World.size_drew] at hz_w4)
      go_wp2_with fail
      refine (itu_yes _ HF.out _).mono ?_
      rintro e w5 ⟨rfl, hO_w5⟩
      have hz_w5 := hO_w5.size
      (try simp only [World.size_alloc, World.size_setCell, World.size_drew] at hz_w5)
      have hU5 := ((hU3.below hO_w4 hU3.lt).below hO_w5 (by omega)).alloc (.cells (tv (turnP (flipP true false p))) 26)
      have hX5 := ((hX3.below hO_w4 hX3.lt).below hO_w5 (by omega)).alloc (.cells (tv (turnP (flipP true false p))) 26)
      have hM5 := TB.new w5 26 (turnP (flipP true false p))
      clear hU3 hX3
      go_wp2_with (first | ((with_reducible refine atAlloc (ty := 26) ?_); refine wpList_alloc_tile rfl 26 rfl zero26 ?_; (try simp only [World.size_alloc, World.size_setCell, setRow_size])) | ((with_reducible refine atStore (ty := 26) ?_); refine wpList_store_tile_new rfl 26 _ _ rfl rfl (turnP (flipP true false p)) rfl 26 _ size26 ?_))
      refine wp_region_over (by kernel_rfl) (by kernel_rfl) ?_
      intro V hO_V
      have hz_V := hO_V.size
      (try simp only [World.size_alloc, World.size_setCell, World.size_drew] at hz_V)
      have hU6 := hU5.below hO_V hU5.lt
      have hX6 := hX5.below hO_V hX5.lt
      have hM6 := hM5.below hO_V hM5.lt
      (conv => arg 6; simp only [Act.put, List.setIfInBounds_toArray, List.set_cons_zero, List.set_cons_succ])
      repeat (first | ((with_reducible refine atQLoad (ty := 26) ?_); refine wpQuiet_load_tile (by first | rfl | (go_simp; done) | (simp [Region.wanted, yielded]; done)) _ rfl _ rfl 26 _ hU6 ?_; (conv => arg 6; simp only [Act.put, List.setIfInBounds_toArray, List.set_cons_zero, List.set_cons_succ])) | ((with_reducible refine atQLoad (ty := 26) ?_); refine wpQuiet_load_tile (by first | rfl | (go_simp; done) | (simp [Region.wanted, yielded]; done)) _ rfl _ rfl 26 _ hX6 ?_; (conv => arg 6; simp only [Act.put, List.setIfInBounds_toArray, List.set_cons_zero, List.set_cons_succ])) | ((with_reducible refine atQLoad (ty := 26) ?_); refine wpQuiet_load_tile (by first | rfl | (go_simp; done) | (simp [Region.wanted, yielded]; done)) _ rfl _ rfl 26 _ hM6 ?_; (conv => arg 6; simp only [Act.put, List.setIfInBounds_toArray, List.set_cons_zero, List.set_cons_succ])) | ((with_reducible refine atQBinOp (b := .eql) (ty := 26) ?_); refine wpQuiet_eql_tile (by first | rfl | (go_simp; done) | (simp [Region.wanted, yielded]; done)) _ _ _ rfl (turnP (turnP (turnP (turnR true p)))) (p) rfl rfl ((turn_four p).symm) ?_; (conv => arg 6; simp only [Act.put, List.setIfInBounds_toArray, List.set_cons_zero, List.set_cons_succ])) | ((with_reducible refine atQBinOp (b := .eql) (ty := 26) ?_); refine wpQuiet_eql_tile (by first | rfl | (go_simp; done) | (simp [Region.wanted, yielded]; done)) _ _ _ rfl (turnP (flipP true false (turnP (flipP true false p)))) (p) rfl rfl ((turn_flip p).symm) ?_; (conv => arg 6; simp only [Act.put, List.setIfInBounds_toArray, List.set_cons_zero, List.set_cons_succ])) | go_big_quiet_step (first | (go_at_call 23; first | (with_reducible refine Calls.over_of (H1.out _)) | (with_reducible refine Calls.over_of (H2.out _)) | (with_reducible refine Calls.over_of (H3.out _)) | (with_reducible refine Calls.over_of (H4.out _))) | (go_at_call 28; (with_reducible refine Calls.over_of (F1.out _))) | (go_at_call 21; first | (with_reducible refine Calls.over_of (U0.out _)) | (with_reducible refine Calls.over_of (U1.out _)))))
      refine wpQuiet_nil ?_
      intro V2 hx_V2
      obtain ⟨x_V2, hx_V2⟩ := hx_V2
      have hO_V2 : Below V.heap.size V V2 := hx_V2 ▸ over_below V x_V2
      clear hx_V2
      have hz_V2 := hO_V2.size
      go_wp2
      go_ret
      refine ⟨rfl, ?_⟩
      (repeat (first | with_reducible exact Below.refl _ _ | ((with_reducible refine viaO (by assumption) ?_ ?_ ?_) <;> try ((try simp only [World.size_alloc, World.size_setCell, World.size_drew]) <;> omega)) | ((with_reducible refine Below.alloc ?_ ?_ _) <;> try ((try simp only [World.size_alloc, World.size_setCell, World.size_drew]) <;> omega)) | ((with_reducible refine Below.setCell ?_ ?_ _) <;> try ((try simp only [World.size_alloc, World.size_setCell, World.size_drew]) <;> omega)) | (with_reducible refine below_drewN ?_ _) | (with_reducible refine Below.drew ?_) | ((with_reducible refine via (by assumption) ?_ ?_) <;> try ((try simp only [World.size_alloc, World.size_setCell, World.size_drew]) <;> omega))))

set_option maxRecDepth 100000 in
theorem lifted (os : Os) (started : os.Started) (H : Type) (enc : TypeId × Value → H) :
    ReturnsInHanded {} Try.checked os 13 .any (Rows.fnTurnTileSpec.pre6 enc Try.prog Try.f13 Rows.fnTurnTileRow.domain false) (Rows.fnTurnTileSpec.post enc Try.prog Try.f13 false true false false) := by
  refine returnsInHanded_of_change (C := Try.checked) own started (by kernel_rfl) Try.func13
    (ChangeSpec.witness6 (enc := enc) (C := Try.checked) false ⟨#[], #[.slice none 0 0], []⟩ 8 (by kernel_rfl) (by kernel_rfl) (by kernel_rfl) (by kernel_rfl)) ?_
  intro W base args ds gs before hval0 hW hcnd _
  have hval : ∀ (j : Nat) t v, Try.f13.params[j]? = some t → args[j]? = some v → Value.okWide Try.prog W .any base t v := hval0
  have hW' := hW
  obtain ⟨p, q, hA0, hV, rfl, hfz, hnd⟩ := hW
  have hA : DataW.TrodAll enc Try.prog W 0 (fun _ => true) true Try.f13.params.toList args.toList ds p := hA0
  rw [Try.params13] at hA hval
  obtain ⟨v0, vs0, d0, ds0, p0, q0, hargs, rfl, rfl, h0, r0⟩ := trodAll_cons hA
  obtain ⟨rfl, rfl, rfl⟩ := trodAll_nil r0
  obtain rfl : args = #[v0] := by cases args; simp_all
  obtain ⟨rfl, rfl⟩ := trodVars_none hV
  have lt0 : ∀ x ∈ p0, x.block < W.heap.size := by obtain ⟨m, hm⟩ := h0; exact DataW.trod_lt m _ _ _ hm
  have a0 := codeArg (hval 0 32 v0 rfl rfl) h0
  clear hA0 hval0
  refine (walk v0 W a0).mono fun e W' ⟨he, bel⟩ => ?_
  subst he
  exact ⟨_, rfl, _, _, _, [], _, [], hW', trodAll_mk1 (shut_bool Try.underlying4 _), (trodAll_cons_mk (Below.trod laidOut (by kernel_rfl) (of_decide_eq_true (by kernel_rfl)) h0 bel lt0) trodAll_mk0), rfl, bel.frame _, fun h => by cases h⟩

theorem proved : Rows.FnTurnTileSaid :=
  OpenClaim.holds_of_wide 13 Try.f13 rfl rfl rfl rfl rfl rfl rfl ⟨rfl, rfl, rfl, rfl, rfl⟩ rfl rfl rfl rfl rfl (by kernel_rfl) Try.func13 (by kernel_rfl)
    (of_decide_eq_true (by kernel_rfl)) (by unfold Func.isWrapper; first | (rw [if_pos (by decide +kernel)]; kernel_rfl) | (rw [if_neg (by decide +kernel)]; exact ⟨rfl, rfl⟩))
    (fun os started H enc _ => lifted os started H enc)
#print axioms proved

end Go.Proofs.Ytpddgepjlpdfjaa.lawFnTurnTile
