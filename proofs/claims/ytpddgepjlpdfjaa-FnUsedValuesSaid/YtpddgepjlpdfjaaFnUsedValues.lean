/-
  The law FnUsedValues holds: the number is in 1..15 for valid tiles, each value that occurs has its bit, a tile with only one value has a power of 2; for every code. No conditions.
-/
import Derived.Test.YtpddgepjlpdfjaaOpen
import Derived.Test.YtpddgepjlpdfjaaTileOpen
import Derived.Test.YtpddgepjlpdfjaaTileDraw
import Derived.Test.YtpddgepjlpdfjaaTile2
import Derived.Test.YtpddgepjlpdfjaaTileEq
import Derived.Test.YtpddgepjlpdfjaaTileLaw2
namespace Go.Proofs.Ytpddgepjlpdfjaa.lawFnUsedValues
set_option linter.all false
set_option linter.unusedSimpArgs false
set_option linter.unusedVariables false
open Go.ChangeShapes Go.WideShapes Go.ChangeAt Go.RowKit

theorem flat_c (x : Int) (h : inB x 0 3 = true) (m : Int) (hm : wrap64 (2 ^ x.toNat) = m) (w : World) : Calls Try.prog 21 #[.agg (tv fun _ => x)] w fun e w' => e = .returned (.int .i64 m) ∧ Below w.heap.size w w' := by
  have := iuv_yes (fun _ => x) (tvd_flat h) w
  rwa [used_flat h, hm] at this
theorem flat0 (w : World) : Calls Try.prog 21 #[.agg (tv fun _ => 0)] w fun e w' => e = .returned (.int .i64 1) ∧ Below w.heap.size w w' := flat_c 0 (by decide) 1 (by decide +kernel) w
theorem flat1 (w : World) : Calls Try.prog 21 #[.agg (tv fun _ => 1)] w fun e w' => e = .returned (.int .i64 2) ∧ Below w.heap.size w w' := flat_c 1 (by decide) 2 (by decide +kernel) w
theorem flat2 (w : World) : Calls Try.prog 21 #[.agg (tv fun _ => 2)] w fun e w' => e = .returned (.int .i64 4) ∧ Below w.heap.size w w' := flat_c 2 (by decide) 4 (by decide +kernel) w
theorem flat3 (w : World) : Calls Try.prog 21 #[.agg (tv fun _ => 3)] w fun e w' => e = .returned (.int .i64 8) ∧ Below w.heap.size w w' := flat_c 3 (by decide) 8 (by decide +kernel) w

set_option maxRecDepth 100000 in
set_option maxHeartbeats 2000000 in
theorem walk (v0 : Value) (w : World) (h0 : CodeArg w v0) : Calls Try.prog 10 #[v0] w fun e w' => e = .returned (.bool true) ∧ Below w.heap.size w w' := by
  obtain ⟨a, len, cap, rfl, hcode, hl⟩ := h0
  have hm := hcode.1; unfold maxLen at hm
  by_cases hlen : 1048576 < len
  · go_enter Try.func10, Try.ntmps10
    go_wp2
    go_ret
    exact ⟨rfl, Below.refl _ _⟩
  · go_enter Try.func10, Try.ntmps10
    go_wp2_with fail
    refine (drawUsedValues_c _ _ _ _ hcode hl).mono ?_
    rintro e w1 ⟨p, rfl, hO_w1⟩
    have hz_w1 := hO_w1.size
    have hT := TB.new w1 26 p
    clear hm hcode
    cases hv : tvd p
    · have HV := Lib.hid hv
      clear hv
      have e0 := usedR_false p
      go_wp2_with (first | ((with_reducible refine atAlloc (ty := 26) ?_); refine wpList_alloc_tile rfl 26 rfl zero26 ?_; (try simp only [World.size_alloc, World.size_setCell, setRow_size])) | ((with_reducible refine atStore (ty := 26) ?_); refine wpList_store_tile_new rfl 26 _ _ rfl rfl (p) rfl 26 _ size26 ?_) | ((with_reducible refine atLoad (ty := 26) ?_); refine wpList_load_tile rfl 26 _ rfl _ rfl 26 _ (hT) _ Try.underlying26 rfl size26 ?_))
      go_wp2_with fail
      refine (iuv_c _ _ HV.out _).mono ?_
      rintro e w2 ⟨rfl, hO_w2⟩
      have hz_w2 := hO_w2.size
      (try simp only [World.size_alloc, World.size_setCell, World.size_drew] at hz_w2)
      have hU2 := hT.below hO_w2 (by simp)
      go_wp2_with ((with_reducible refine atLoad (ty := 26) ?_); refine wpList_load_tile rfl 26 _ rfl _ rfl 26 _ (hU2) _ Try.underlying26 rfl size26 ?_)
      go_wp2_with fail
      refine (suv_c _ _ HV.out _).mono ?_
      rintro e w3 ⟨rfl, hO_w3⟩
      have hz_w3 := hO_w3.size
      (try simp only [World.size_alloc, World.size_setCell, World.size_drew] at hz_w3)
      have hU3 := hU2.below hO_w3 hU2.lt
      go_wp2_with ((with_reducible refine atLoad (ty := 26) ?_); refine wpList_load_tile rfl 26 _ rfl _ rfl 26 _ (hU3) _ Try.underlying26 rfl size26 ?_)
      go_wp2_with fail
      refine (stv_c _ _ HV.out _).mono ?_
      rintro e w4 ⟨rfl, hO_w4⟩
      have hz_w4 := hO_w4.size
      (try simp only [World.size_alloc, World.size_setCell, World.size_drew] at hz_w4)
      go_wp2_with (go_at_call 26; refine (alive_c _).mono ?_; rintro e w' ⟨rfl, rfl⟩)
      go_ret
      refine ⟨rfl, ?_⟩
      (repeat (first | with_reducible exact Below.refl _ _ | ((with_reducible refine viaO (by assumption) ?_ ?_ ?_) <;> try ((try simp only [World.size_alloc, World.size_setCell, World.size_drew]) <;> omega)) | ((with_reducible refine Below.alloc ?_ ?_ _) <;> try ((try simp only [World.size_alloc, World.size_setCell, World.size_drew]) <;> omega)) | ((with_reducible refine Below.setCell ?_ ?_ _) <;> try ((try simp only [World.size_alloc, World.size_setCell, World.size_drew]) <;> omega)) | (with_reducible refine below_drewN ?_ _) | (with_reducible refine Below.drew ?_) | ((with_reducible refine via (by assumption) ?_ ?_) <;> try ((try simp only [World.size_alloc, World.size_setCell, World.size_drew]) <;> omega))))
    · have HV := Lib.hid hv
      have HB := Lib.hid (used_bit hv)
      obtain ⟨n1, n15⟩ := used_bounds hv
      have hall := tvd_true.1 hv
      have HI := Lib.hid (fun w => iuv_yes p hv w)
      have HS := Lib.hid (fun w => suv_yes p hv w)
      have HA := Lib.hid hall
      clear hv hall
      generalize usedK p 64 = n at *
      go_wp2_with (first | ((with_reducible refine atAlloc (ty := 26) ?_); refine wpList_alloc_tile rfl 26 rfl zero26 ?_; (try simp only [World.size_alloc, World.size_setCell, setRow_size])) | ((with_reducible refine atStore (ty := 26) ?_); refine wpList_store_tile_new rfl 26 _ _ rfl rfl (p) rfl 26 _ size26 ?_) | ((with_reducible refine atLoad (ty := 26) ?_); refine wpList_load_tile rfl 26 _ rfl _ rfl 26 _ (hT) _ Try.underlying26 rfl size26 ?_))
      go_wp2_with fail
      refine (HI.out _).mono ?_
      rintro e w2 ⟨rfl, hO_w2⟩
      have hz_w2 := hO_w2.size
      (try simp only [World.size_alloc, World.size_setCell, World.size_drew] at hz_w2)
      have hU2 := hT.below hO_w2 (by simp)
      go_wp2_with ((with_reducible refine atLoad (ty := 26) ?_); refine wpList_load_tile rfl 26 _ rfl _ rfl 26 _ (hU2) _ Try.underlying26 rfl size26 ?_)
      go_wp2_with fail
      refine (HS.out _).mono ?_
      rintro e w3 ⟨rfl, hO_w3⟩
      have hz_w3 := hO_w3.size
      (try simp only [World.size_alloc, World.size_setCell, World.size_drew] at hz_w3)
      have hU3 := hU2.below hO_w3 hU2.lt
      go_wp2_with ((with_reducible refine atLoad (ty := 26) ?_); refine wpList_load_tile rfl 26 _ rfl _ rfl 26 _ (hU3) _ Try.underlying26 rfl size26 ?_)
      go_wp2_with fail
      refine (stv_c _ _ HV.out _).mono ?_
      rintro e w4 ⟨rfl, hO_w4⟩
      have hz_w4 := hO_w4.size
      (try simp only [World.size_alloc, World.size_setCell, World.size_drew] at hz_w4)
      have hU4 := (hU3.below hO_w4 hU3.lt).alloc (.cells (tv zeroT) 26)
      have hF4 := TB.new w4 26 zeroT
      clear hT hU2 hU3
      go_wp2_with (first | ((with_reducible refine atBuild (ty := 26) ?_); refine wpList_build_tile rfl 26 rfl build26 ?_) | ((with_reducible refine atAlloc (ty := 26) ?_); refine wpList_alloc_tile rfl 26 rfl zero26 ?_; (try simp only [World.size_alloc, World.size_setCell, setRow_size])) | ((with_reducible refine atStore (ty := 26) ?_); refine wpList_store_tile_new rfl 26 _ _ rfl rfl (zeroT) rfl 26 _ size26 ?_))
      go_loopw [6] (fun i wr => ∃ k : Nat, k ≤ 64 ∧ i = .int .i64 k ∧ TB wr w1.heap.size 26 p ∧ TB wr w4.heap.size 26 (fun j => if j < k then p 0 else 0) ∧ Below w.heap.size w wr) (fun i _ => 64 - (intOf i).toNat)
      case atStart =>
        refine ⟨0, by omega, rfl, hU4, hF4.congr (fun i _ => by simp [zeroT]), ?_⟩
        (repeat (first | with_reducible exact Below.refl _ _ | ((with_reducible refine viaO (by assumption) ?_ ?_ ?_) <;> try ((try simp only [World.size_alloc, World.size_setCell, World.size_drew]) <;> omega)) | ((with_reducible refine Below.alloc ?_ ?_ _) <;> try ((try simp only [World.size_alloc, World.size_setCell, World.size_drew]) <;> omega)) | ((with_reducible refine Below.setCell ?_ ?_ _) <;> try ((try simp only [World.size_alloc, World.size_setCell, World.size_drew]) <;> omega)) | (with_reducible refine below_drewN ?_ _) | (with_reducible refine Below.drew ?_) | ((with_reducible refine via (by assumption) ?_ ?_) <;> try ((try simp only [World.size_alloc, World.size_setCell, World.size_drew]) <;> omega))))
      case round =>
        obtain ⟨k, hk, rfl, h1, h2, hb⟩ := hrel
        have H1 := Lib.hid h1
        have H2 := Lib.hid h2
        have HO := Lib.hid hb
        by_cases hlk : k < 64
        · have c0 := h1.cell 0 (by decide)
          have ck := (h1.far (a := ⟨w4.heap.size, k, none⟩) (by simp <;> omega) (.int .i64 (p 0))).cell k hlk
          have fk := h2.frozen k
          have tk := h2.cell k hlk
          have hbit := HB.out k hlk
          have hpk := inB_true.1 (HA.out k hlk)
          clear h1 h2 hb
          have step : ∀ j, j < 64 → upd (fun j => if j < k then p 0 else 0) k (p 0) j = if j < k + 1 then p 0 else 0 := fun j _ => by
            show (if j = k then p 0 else if j < k then p 0 else 0) = _
            by_cases e : j = k
            · rw [if_pos e, if_pos (by omega)]
            · rw [if_neg e]
              by_cases e2 : j < k
              · rw [if_pos e2, if_pos (by omega)]
              · rw [if_neg e2, if_neg (by omega)]
          have ST := Lib.hid step
          clear step
          rcases (show p k = 0 ∨ p k = 1 ∨ p k = 2 ∨ p k = 3 by omega) with e | e | e | e
          all_goals
            rw [e] at ck hbit
            clear hpk
            have SE := Lib.hid e
            clear e
            simp at hbit
            go_wp2
            go_roundw
            case rel => exact ⟨k + 1, by omega, by go_num, H1.out.far (by simp <;> omega) _, (H2.out.put _ _).congr ST.out, HO.out.setCell (by simp <;> omega) _⟩
            case measure => simp [intOf]; omega
        · have hk64 : k = 64 := by omega
          subst hk64
          have hX := h2.congr (q := fun _ => p 0) (fun i hi => if_pos hi)
          have c0 := h1.cell 0 (by decide)
          have hp0 := inB_true.1 (HA.out 0 (by decide))
          have hs1 := h1.lt
          have hs4 := h2.lt
          clear h1 h2 hb H1 H2 hU4 hF4
          generalize p 0 = x at *
          rcases (show x = 0 ∨ x = 1 ∨ x = 2 ∨ x = 3 by omega) with rfl | rfl | rfl | rfl
          all_goals
            clear hp0
            have HXX := Lib.hid hX
            go_wp2
            refine wp_region_over (by kernel_rfl) (by kernel_rfl) ?_
            intro V hO_V
            have hz_V := hO_V.size
            have cV := fun x => over_cell V x w1.heap.size 0 (by omega)
            have cW := hO_V.cell (p := ⟨w1.heap.size, 0, none⟩) hs1
            have hX6 := hX.below hO_V hX.lt
            (conv => arg 6; simp only [Act.put, List.setIfInBounds_toArray, List.set_cons_zero, List.set_cons_succ])
            repeat (first | ((with_reducible refine atQLoad (ty := 26) ?_); refine wpQuiet_load_tile (by first | rfl | (go_simp; done) | (simp [Region.wanted, yielded]; done)) _ rfl _ rfl 26 _ hX6 ?_; (conv => arg 6; simp only [Act.put, List.setIfInBounds_toArray, List.set_cons_zero, List.set_cons_succ])) | go_big_quiet_step ((go_at_call 21; first | (with_reducible refine Calls.over_of (flat0 _)) | (with_reducible refine Calls.over_of (flat1 _)) | (with_reducible refine Calls.over_of (flat2 _)) | (with_reducible refine Calls.over_of (flat3 _)))))
            refine wpQuiet_nil ?_
            intro V2 hx_V2
            obtain ⟨x_V2, hx_V2⟩ := hx_V2
            have hO_V2 : Below V.heap.size V V2 := hx_V2 ▸ over_below V x_V2
            clear hx_V2
            have hz_V2 := hO_V2.size
            go_wp2
            go_ret
            refine ⟨rfl, via hO_V2 (via hO_V HO.out HO.out.size) (by have := HO.out.size; omega)⟩

set_option maxRecDepth 100000 in
theorem lifted (os : Os) (started : os.Started) (H : Type) (enc : TypeId × Value → H) :
    ReturnsInHanded {} Try.checked os 10 .any (Rows.fnUsedValuesSpec.pre6 enc Try.prog Try.f10 Rows.fnUsedValuesRow.domain false) (Rows.fnUsedValuesSpec.post enc Try.prog Try.f10 false true false false) := by
  refine returnsInHanded_of_change (C := Try.checked) own started (by kernel_rfl) Try.func10
    (ChangeSpec.witness6 (enc := enc) (C := Try.checked) false ⟨#[], #[.slice none 0 0], []⟩ 8 (by kernel_rfl) (by kernel_rfl) (by kernel_rfl) (by kernel_rfl)) ?_
  intro W base args ds gs before hval0 hW hcnd _
  have hval : ∀ (j : Nat) t v, Try.f10.params[j]? = some t → args[j]? = some v → Value.okWide Try.prog W .any base t v := hval0
  have hW' := hW
  obtain ⟨p, q, hA0, hV, rfl, hfz, hnd⟩ := hW
  have hA : DataW.TrodAll enc Try.prog W 0 (fun _ => true) true Try.f10.params.toList args.toList ds p := hA0
  rw [Try.params10] at hA hval
  obtain ⟨v0, vs0, d0, ds0, p0, q0, hargs, rfl, rfl, h0, r0⟩ := trodAll_cons hA
  obtain ⟨rfl, rfl, rfl⟩ := trodAll_nil r0
  obtain rfl : args = #[v0] := by cases args; simp_all
  obtain ⟨rfl, rfl⟩ := trodVars_none hV
  have lt0 : ∀ x ∈ p0, x.block < W.heap.size := by obtain ⟨m, hm⟩ := h0; exact DataW.trod_lt m _ _ _ hm
  have a0 := codeArg (hval 0 32 v0 rfl rfl) h0
  clear hA0 hval0
  refine (walk v0 W a0).mono fun e W' ⟨he, bel⟩ => ?_
  subst he
  exact ⟨_, rfl, _, _, _, [], _, [], hW', trodAll_mk1 (shut_bool Try.underlying4 _), (trodAll_cons_mk (Below.trod laidOut (by kernel_rfl) (of_decide_eq_true (by kernel_rfl)) h0 bel lt0) trodAll_mk0), rfl, bel.frame _, fun h => by cases h⟩

theorem proved : Rows.FnUsedValuesSaid :=
  OpenClaim.holds_of_wide 10 Try.f10 rfl rfl rfl rfl rfl rfl rfl ⟨rfl, rfl, rfl, rfl, rfl⟩ rfl rfl rfl rfl rfl (by kernel_rfl) Try.func10 (by kernel_rfl)
    (of_decide_eq_true (by kernel_rfl)) (by unfold Func.isWrapper; first | (rw [if_pos (by decide +kernel)]; kernel_rfl) | (rw [if_neg (by decide +kernel)]; exact ⟨rfl, rfl⟩))
    (fun os started H enc _ => lifted os started H enc)
#print axioms proved

end Go.Proofs.Ytpddgepjlpdfjaa.lawFnUsedValues
