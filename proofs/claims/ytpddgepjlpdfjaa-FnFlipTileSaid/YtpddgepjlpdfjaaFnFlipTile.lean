/-
  The law FnFlipTile holds: flipping twice returns the tile; flipping both ways is turning twice; flipping no way changes nothing; for every code. No conditions.
-/
import Derived.Test.YtpddgepjlpdfjaaOpen
import Derived.Test.YtpddgepjlpdfjaaTileOpen
import Derived.Test.YtpddgepjlpdfjaaTileDraw2
import Derived.Test.YtpddgepjlpdfjaaTileEq
import Derived.Test.YtpddgepjlpdfjaaTileLaw2
namespace Go.Proofs.Ytpddgepjlpdfjaa.lawFnFlipTile
set_option linter.all false
set_option linter.unusedSimpArgs false
set_option linter.unusedVariables false
open Go.ChangeShapes Go.WideShapes Go.ChangeAt Go.RowKit

set_option maxRecDepth 100000 in
set_option maxHeartbeats 2000000 in
theorem walk (v0 : Value) (w : World) (h0 : CodeArg w v0) : Calls Try.prog 14 #[v0] w fun e w' => e = .returned (.bool true) ∧ Below w.heap.size w w' := by
  obtain ⟨a, len, cap, rfl, hcode, hl⟩ := h0
  have hm := hcode.1; unfold maxLen at hm
  by_cases hlen : 1048576 < len
  · go_enter Try.func14, Try.ntmps14
    go_wp2
    go_ret
    exact ⟨rfl, Below.refl _ _⟩
  · go_enter Try.func14, Try.ntmps14
    go_wp2_with fail
    refine (drawFlipTile_c _ _ _ _ hcode hl).mono ?_
    rintro e w1 ⟨p, x, y, rfl, hO_w1⟩
    have hz_w1 := hO_w1.size
    have hT := TB.new w1 26 p
    clear hm hcode
    cases hv : tvd p
    · have HV := Lib.hid hv
      have S0 := Lib.hid (fun w => sfl_c p x y false hv w)
      clear hv
      go_wp2_with (first | ((with_reducible refine atAlloc (ty := 26) ?_); refine wpList_alloc_tile rfl 26 rfl zero26 ?_; (try simp only [World.size_alloc, World.size_setCell, setRow_size])) | ((with_reducible refine atStore (ty := 26) ?_); refine wpList_store_tile_new rfl 26 _ _ rfl rfl (p) rfl 26 _ size26 ?_) | ((with_reducible refine atLoad (ty := 26) ?_); refine wpList_load_tile rfl 26 _ rfl _ rfl 26 _ (hT) _ Try.underlying26 rfl size26 ?_))
      go_wp2_with fail
      refine (ifl_c p x y false HV.out _).mono ?_
      rintro e w2 ⟨rfl, hO_w2⟩
      have hz_w2 := hO_w2.size
      (try simp only [World.size_alloc, World.size_setCell, World.size_drew] at hz_w2)
      have hU := (hT.below hO_w2 (by simp)).alloc (.cells (tv (flipR false x y p)) 26)
      have hX := TB.new w2 26 (flipR false x y p)
      clear hT
      go_wp2_with (first | ((with_reducible refine atAlloc (ty := 26) ?_); refine wpList_alloc_tile rfl 26 rfl zero26 ?_; (try simp only [World.size_alloc, World.size_setCell, setRow_size])) | ((with_reducible refine atStore (ty := 26) ?_); refine wpList_store_tile_new rfl 26 _ _ rfl rfl (flipR false x y p) rfl 26 _ size26 ?_))
      refine wp_region_over (by kernel_rfl) (by kernel_rfl) ?_
      intro W hO_W
      have hz_W := hO_W.size
      (try simp only [World.size_alloc, World.size_setCell, World.size_drew] at hz_W)
      have hU1 := hU.below hO_W hU.lt
      have hX1 := hX.below hO_W hX.lt
      (conv => arg 6; simp only [Act.put, List.setIfInBounds_toArray, List.set_cons_zero, List.set_cons_succ])
      repeat (first | ((with_reducible refine atQLoad (ty := 26) ?_); refine wpQuiet_load_tile (by first | rfl | (go_simp; done) | (simp [Region.wanted, yielded]; done)) _ rfl _ rfl 26 _ hU1 ?_; (conv => arg 6; simp only [Act.put, List.setIfInBounds_toArray, List.set_cons_zero, List.set_cons_succ])) | ((with_reducible refine atQLoad (ty := 26) ?_); refine wpQuiet_load_tile (by first | rfl | (go_simp; done) | (simp [Region.wanted, yielded]; done)) _ rfl _ rfl 26 _ hX1 ?_; (conv => arg 6; simp only [Act.put, List.setIfInBounds_toArray, List.set_cons_zero, List.set_cons_succ])) | ((with_reducible refine atQBinOp (b := .neq) (ty := 26) ?_); refine wpQuiet_neq_tile (by first | rfl | (go_simp; done) | (simp [Region.wanted, yielded]; done)) _ _ _ rfl (flipR false x y p) (flipR false x y p) rfl rfl (rfl) ?_; (conv => arg 6; simp only [Act.put, List.setIfInBounds_toArray, List.set_cons_zero, List.set_cons_succ])) | go_big_quiet_step ((go_at_call 27; (with_reducible refine Calls.over_of (S0.out _)))))
      refine wpQuiet_nil ?_
      intro W2 hx_W2
      obtain ⟨x_W2, hx_W2⟩ := hx_W2
      have hO_W2 : Below W.heap.size W W2 := hx_W2 ▸ over_below W x_W2
      clear hx_W2
      have hz_W2 := hO_W2.size
      have hU2 := hU1.below hO_W2 hU1.lt
      have hX2 := hX1.below hO_W2 hX1.lt
      go_wp2_with ((with_reducible refine atLoad (ty := 26) ?_); refine wpList_load_tile rfl 26 _ rfl _ rfl 26 _ (hU2) _ Try.underlying26 rfl size26 ?_)
      go_wp2_with fail
      refine (stv_c _ _ HV.out _).mono ?_
      rintro e w3 ⟨rfl, hO_w3⟩
      have hz_w3 := hO_w3.size
      (try simp only [World.size_alloc, World.size_setCell, World.size_drew] at hz_w3)
      have hX3 := hX2.below hO_w3 hX2.lt
      go_wp2_with (first | ((with_reducible refine atLoad (ty := 26) ?_); refine wpList_load_tile rfl 26 _ rfl _ rfl 26 _ (hX3) _ Try.underlying26 rfl size26 ?_) | ((with_reducible refine atBuild (ty := 26) ?_); refine wpList_build_tile rfl 26 rfl build26 ?_) | ((with_reducible refine atBinOp (b := .eql) (ty := 26) ?_); refine wpList_eql_tile (by first | rfl | (go_simp; done) | (simp [Region.wanted, yielded]; done)) _ _ _ rfl (flipR false x y p) (zeroT) rfl rfl (rfl) ?_) | (go_at_call 26; refine (alive_c _).mono ?_; rintro e w' ⟨rfl, rfl⟩))
      go_ret
      refine ⟨rfl, ?_⟩
      (repeat (first | with_reducible exact Below.refl _ _ | ((with_reducible refine viaO (by assumption) ?_ ?_ ?_) <;> try ((try simp only [World.size_alloc, World.size_setCell, World.size_drew]) <;> omega)) | ((with_reducible refine Below.alloc ?_ ?_ _) <;> try ((try simp only [World.size_alloc, World.size_setCell, World.size_drew]) <;> omega)) | ((with_reducible refine Below.setCell ?_ ?_ _) <;> try ((try simp only [World.size_alloc, World.size_setCell, World.size_drew]) <;> omega)) | (with_reducible refine below_drewN ?_ _) | (with_reducible refine Below.drew ?_) | ((with_reducible refine via (by assumption) ?_ ?_) <;> try ((try simp only [World.size_alloc, World.size_setCell, World.size_drew]) <;> omega))))
    · have hvf : tvd (flipR true x y p) = true := tvd_flip x y hv
      have HV := Lib.hid hv
      have S0 := Lib.hid (fun w => sfl_c p x y true hv w)
      have F1 := Lib.hid (fun w => ifl_yes (flipR true x y p) x y hvf w)
      have F2 := Lib.hid (fun w => ifl_yes p true true hv w)
      have F3 := Lib.hid (fun w => ifl_yes p false false hv w)
      have T1 := Lib.hid (fun w => itu_yes p hv w)
      have T2 := Lib.hid (fun w => itu_yes (turnP p) (tvd_turn hv) w)
      clear hv hvf
      go_wp2_with (first | ((with_reducible refine atAlloc (ty := 26) ?_); refine wpList_alloc_tile rfl 26 rfl zero26 ?_; (try simp only [World.size_alloc, World.size_setCell, setRow_size])) | ((with_reducible refine atStore (ty := 26) ?_); refine wpList_store_tile_new rfl 26 _ _ rfl rfl (p) rfl 26 _ size26 ?_) | ((with_reducible refine atLoad (ty := 26) ?_); refine wpList_load_tile rfl 26 _ rfl _ rfl 26 _ (hT) _ Try.underlying26 rfl size26 ?_))
      go_wp2_with fail
      refine (ifl_c p x y true HV.out _).mono ?_
      rintro e w2 ⟨rfl, hO_w2⟩
      have hz_w2 := hO_w2.size
      (try simp only [World.size_alloc, World.size_setCell, World.size_drew] at hz_w2)
      have hU := (hT.below hO_w2 (by simp)).alloc (.cells (tv (flipR true x y p)) 26)
      have hX := TB.new w2 26 (flipR true x y p)
      clear hT
      go_wp2_with (first | ((with_reducible refine atAlloc (ty := 26) ?_); refine wpList_alloc_tile rfl 26 rfl zero26 ?_; (try simp only [World.size_alloc, World.size_setCell, setRow_size])) | ((with_reducible refine atStore (ty := 26) ?_); refine wpList_store_tile_new rfl 26 _ _ rfl rfl (flipR true x y p) rfl 26 _ size26 ?_))
      refine wp_region_over (by kernel_rfl) (by kernel_rfl) ?_
      intro W hO_W
      have hz_W := hO_W.size
      (try simp only [World.size_alloc, World.size_setCell, World.size_drew] at hz_W)
      have hU1 := hU.below hO_W hU.lt
      have hX1 := hX.below hO_W hX.lt
      (conv => arg 6; simp only [Act.put, List.setIfInBounds_toArray, List.set_cons_zero, List.set_cons_succ])
      repeat (first | ((with_reducible refine atQLoad (ty := 26) ?_); refine wpQuiet_load_tile (by first | rfl | (go_simp; done) | (simp [Region.wanted, yielded]; done)) _ rfl _ rfl 26 _ hU1 ?_; (conv => arg 6; simp only [Act.put, List.setIfInBounds_toArray, List.set_cons_zero, List.set_cons_succ])) | ((with_reducible refine atQLoad (ty := 26) ?_); refine wpQuiet_load_tile (by first | rfl | (go_simp; done) | (simp [Region.wanted, yielded]; done)) _ rfl _ rfl 26 _ hX1 ?_; (conv => arg 6; simp only [Act.put, List.setIfInBounds_toArray, List.set_cons_zero, List.set_cons_succ])) | ((with_reducible refine atQBinOp (b := .neq) (ty := 26) ?_); refine wpQuiet_neq_tile (by first | rfl | (go_simp; done) | (simp [Region.wanted, yielded]; done)) _ _ _ rfl (flipR true x y p) (flipR true x y p) rfl rfl (rfl) ?_; (conv => arg 6; simp only [Act.put, List.setIfInBounds_toArray, List.set_cons_zero, List.set_cons_succ])) | go_big_quiet_step ((go_at_call 27; (with_reducible refine Calls.over_of (S0.out _)))))
      refine wpQuiet_nil ?_
      intro W2 hx_W2
      obtain ⟨x_W2, hx_W2⟩ := hx_W2
      have hO_W2 : Below W.heap.size W W2 := hx_W2 ▸ over_below W x_W2
      clear hx_W2
      have hz_W2 := hO_W2.size
      have hU2 := hU1.below hO_W2 hU1.lt
      have hX2 := hX1.below hO_W2 hX1.lt
      go_wp2_with ((with_reducible refine atLoad (ty := 26) ?_); refine wpList_load_tile rfl 26 _ rfl _ rfl 26 _ (hU2) _ Try.underlying26 rfl size26 ?_)
      go_wp2_with fail
      refine (stv_c _ _ HV.out _).mono ?_
      rintro e w3 ⟨rfl, hO_w3⟩
      have hz_w3 := hO_w3.size
      (try simp only [World.size_alloc, World.size_setCell, World.size_drew] at hz_w3)
      have hU3 := hU2.below hO_w3 hU2.lt
      have hX3 := hX2.below hO_w3 hX2.lt
      clear hU hX hU1 hX1 hU2 hX2
      go_wp2
      refine wp_region_over (by kernel_rfl) (by kernel_rfl) ?_
      intro V hO_V
      have hz_V := hO_V.size
      (try simp only [World.size_alloc, World.size_setCell, World.size_drew] at hz_V)
      have hU6 := hU3.below hO_V hU3.lt
      have hX6 := hX3.below hO_V hX3.lt
      (conv => arg 6; simp only [Act.put, List.setIfInBounds_toArray, List.set_cons_zero, List.set_cons_succ])
      repeat (first | ((with_reducible refine atQLoad (ty := 26) ?_); refine wpQuiet_load_tile (by first | rfl | (go_simp; done) | (simp [Region.wanted, yielded]; done)) _ rfl _ rfl 26 _ hU6 ?_; (conv => arg 6; simp only [Act.put, List.setIfInBounds_toArray, List.set_cons_zero, List.set_cons_succ])) | ((with_reducible refine atQLoad (ty := 26) ?_); refine wpQuiet_load_tile (by first | rfl | (go_simp; done) | (simp [Region.wanted, yielded]; done)) _ rfl _ rfl 26 _ hX6 ?_; (conv => arg 6; simp only [Act.put, List.setIfInBounds_toArray, List.set_cons_zero, List.set_cons_succ])) | ((with_reducible refine atQBinOp (b := .eql) (ty := 26) ?_); refine wpQuiet_eql_tile (by first | rfl | (go_simp; done) | (simp [Region.wanted, yielded]; done)) _ _ _ rfl (flipP x y (flipR true x y p)) (p) rfl rfl ((flip_flip x y p).symm) ?_; (conv => arg 6; simp only [Act.put, List.setIfInBounds_toArray, List.set_cons_zero, List.set_cons_succ])) | ((with_reducible refine atQBinOp (b := .eql) (ty := 26) ?_); refine wpQuiet_eql_tile (by first | rfl | (go_simp; done) | (simp [Region.wanted, yielded]; done)) _ _ _ rfl (flipP true true p) (turnP (turnP p)) rfl rfl ((flip_both p).symm) ?_; (conv => arg 6; simp only [Act.put, List.setIfInBounds_toArray, List.set_cons_zero, List.set_cons_succ])) | ((with_reducible refine atQBinOp (b := .eql) (ty := 26) ?_); refine wpQuiet_eql_tile (by first | rfl | (go_simp; done) | (simp [Region.wanted, yielded]; done)) _ _ _ rfl (flipP false false p) (p) rfl rfl ((flip_none p).symm) ?_; (conv => arg 6; simp only [Act.put, List.setIfInBounds_toArray, List.set_cons_zero, List.set_cons_succ])) | go_big_quiet_step (first | (go_at_call 28; first | (with_reducible refine Calls.over_of (F1.out _)) | (with_reducible refine Calls.over_of (F2.out _)) | (with_reducible refine Calls.over_of (F3.out _))) | (go_at_call 23; first | (with_reducible refine Calls.over_of (T1.out _)) | (with_reducible refine Calls.over_of (T2.out _)))))
      refine wpQuiet_nil ?_
      intro V2 hx_V2
      obtain ⟨x_V2, hx_V2⟩ := hx_V2
      have hO_V2 : Below V.heap.size V V2 := hx_V2 ▸ over_below V x_V2
      clear hx_V2
      have hz_V2 := hO_V2.size
      go_wp2
      go_ret
      refine ⟨rfl, ?_⟩
      (repeat (first | with_reducible exact Below.refl _ _ | ((with_reducible refine viaO (by assumption) ?_ ?_ ?_) <;> try ((try simp only [World.size_alloc, World.size_setCell, World.size_drew]) <;> omega)) | ((with_reducible refine Below.alloc ?_ ?_ _) <;> try ((try simp only [World.size_alloc, World.size_setCell, World.size_drew]) <;> omega)) | ((with_reducible refine Below.setCell ?_ ?_ _) <;> try ((try simp only [World.size_alloc, World.size_setCell, World.size_drew]) <;> omega)) | (with_reducible refine below_drewN ?_ _) | (with_reducible refine Below.drew ?_) | ((with_reducible refine via (by assumption) ?_ ?_) <;> try ((try simp only [World.size_alloc, World.size_setCell, World.size_drew]) <;> omega))))

set_option maxRecDepth 100000 in
theorem lifted (os : Os) (started : os.Started) (H : Type) (enc : TypeId × Value → H) :
    ReturnsInHanded {} Try.checked os 14 .any (Rows.fnFlipTileSpec.pre6 enc Try.prog Try.f14 Rows.fnFlipTileRow.domain false) (Rows.fnFlipTileSpec.post enc Try.prog Try.f14 false true false false) := by
  refine returnsInHanded_of_change (C := Try.checked) own started (by kernel_rfl) Try.func14
    (ChangeSpec.witness6 (enc := enc) (C := Try.checked) false ⟨#[], #[.slice none 0 0], []⟩ 8 (by kernel_rfl) (by kernel_rfl) (by kernel_rfl) (by kernel_rfl)) ?_
  intro W base args ds gs before hval0 hW hcnd _
  have hval : ∀ (j : Nat) t v, Try.f14.params[j]? = some t → args[j]? = some v → Value.okWide Try.prog W .any base t v := hval0
  have hW' := hW
  obtain ⟨p, q, hA0, hV, rfl, hfz, hnd⟩ := hW
  have hA : DataW.TrodAll enc Try.prog W 0 (fun _ => true) true Try.f14.params.toList args.toList ds p := hA0
  rw [Try.params14] at hA hval
  obtain ⟨v0, vs0, d0, ds0, p0, q0, hargs, rfl, rfl, h0, r0⟩ := trodAll_cons hA
  obtain ⟨rfl, rfl, rfl⟩ := trodAll_nil r0
  obtain rfl : args = #[v0] := by cases args; simp_all
  obtain ⟨rfl, rfl⟩ := trodVars_none hV
  have lt0 : ∀ x ∈ p0, x.block < W.heap.size := by obtain ⟨m, hm⟩ := h0; exact DataW.trod_lt m _ _ _ hm
  have a0 := codeArg (hval 0 32 v0 rfl rfl) h0
  clear hA0 hval0
  refine (walk v0 W a0).mono fun e W' ⟨he, bel⟩ => ?_
  subst he
  exact ⟨_, rfl, _, _, _, [], _, [], hW', trodAll_mk1 (shut_bool Try.underlying4 _), (trodAll_cons_mk (Below.trod laidOut (by kernel_rfl) (of_decide_eq_true (by kernel_rfl)) h0 bel lt0) trodAll_mk0), rfl, bel.frame _, fun h => by cases h⟩

theorem proved : Rows.FnFlipTileSaid :=
  OpenClaim.holds_of_wide 14 Try.f14 rfl rfl rfl rfl rfl rfl rfl ⟨rfl, rfl, rfl, rfl, rfl⟩ rfl rfl rfl rfl rfl (by kernel_rfl) Try.func14 (by kernel_rfl)
    (of_decide_eq_true (by kernel_rfl)) (by unfold Func.isWrapper; first | (rw [if_pos (by decide +kernel)]; kernel_rfl) | (rw [if_neg (by decide +kernel)]; exact ⟨rfl, rfl⟩))
    (fun os started H enc _ => lifted os started H enc)
#print axioms proved

end Go.Proofs.Ytpddgepjlpdfjaa.lawFnFlipTile
