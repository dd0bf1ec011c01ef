/-
  The law FnExactFlipTile holds: for every input the program's FlipTile returns what the reference's returns. No conditions.
-/
import Derived.Test.YtpddgepjlpdfjaaOpen
import Derived.Test.YtpddgepjlpdfjaaTileOpen
import Derived.Test.YtpddgepjlpdfjaaTile3
namespace Go.Proofs.Ytpddgepjlpdfjaa.lawFnExactFlipTile
set_option linter.all false
set_option linter.unusedSimpArgs false
set_option linter.unusedVariables false
open Go.ChangeShapes Go.WideShapes Go.ChangeAt Go.RowKit

theorem walk (v0 v1 v2 : Value) (w : World) (h0 : TileArg w v0) (h1 : BoolArg w v1) (h2 : BoolArg w v2) : Calls Try.prog 7 #[v0, v1, v2] w fun e w' => e = .returned (.bool true) ∧ Below w.heap.size w w' := by
  obtain ⟨p, rfl⟩ := h0
  obtain ⟨a, rfl⟩ := h1
  obtain ⟨d, rfl⟩ := h2
  have hT := TB.new w 24 p
  go_enter Try.func7, Try.ntmps7
  go_wp2_with ((with_reducible refine atLoad (ty := 24) ?_); refine wpList_load_tile rfl 24 _ rfl _ rfl 24 _ (hT) _ Try.underlying24 rfl size24 ?_)
  go_wp2_with fail
  refine (toTile_c _ _).mono ?_
  rintro e w1 ⟨rfl, hO_w1⟩
  have hz_w1 := hO_w1.size
  (try simp only [World.size_alloc, World.size_setCell, World.size_drew] at hz_w1)
  go_wp2_with fail
  refine (sfl_c _ _ _ _ rfl _).mono ?_
  rintro e w2 ⟨rfl, hO_w2⟩
  have hz_w2 := hO_w2.size
  (try simp only [World.size_alloc, World.size_setCell, World.size_drew] at hz_w2)
  have hT2 := (hT.below hO_w1 (by simp)).below hO_w2 (by omega)
  go_wp2_with (first | ((with_reducible refine atAlloc (ty := 26) ?_); refine wpList_alloc_tile rfl 26 rfl zero26 ?_; (try simp only [World.size_alloc, World.size_setCell, setRow_size])) | ((with_reducible refine atStore (ty := 26) ?_); refine wpList_store_tile_new rfl 26 _ _ rfl rfl ((flipR (tvd p) a d p)) rfl 26 _ size26 ?_) | ((with_reducible refine atLoad (ty := 24) ?_); refine wpList_load_tile rfl 24 _ rfl _ rfl 24 _ (hT2.alloc _) _ Try.underlying24 rfl size24 ?_))
  go_wp2_with fail
  refine (toTile_c _ _).mono ?_
  rintro e w3 ⟨rfl, hO_w3⟩
  have hz_w3 := hO_w3.size
  (try simp only [World.size_alloc, World.size_setCell, World.size_drew] at hz_w3)
  go_wp2_with fail
  refine (ifl_c _ _ _ _ rfl _).mono ?_
  rintro e w4 ⟨rfl, hO_w4⟩
  have hz_w4 := hO_w4.size
  (try simp only [World.size_alloc, World.size_setCell, World.size_drew] at hz_w4)
  have hA := (((TB.new w2 26 _).below hO_w3 (by simp)).below hO_w4 (by omega)).alloc (.cells (tv (flipR (tvd p) a d p)) 26)
  have hB := TB.new w4 26 (flipR (tvd p) a d p)
  go_wp2_with (first | ((with_reducible refine atAlloc (ty := 26) ?_); refine wpList_alloc_tile rfl 26 rfl zero26 ?_; (try simp only [World.size_alloc, World.size_setCell, setRow_size])) | ((with_reducible refine atStore (ty := 26) ?_); refine wpList_store_tile_new rfl 26 _ _ rfl rfl ((flipR (tvd p) a d p)) rfl 26 _ size26 ?_) | ((with_reducible refine atLoad (ty := 26) ?_); refine wpList_load_tile rfl 26 _ rfl _ rfl 26 _ (hB) _ Try.underlying26 rfl size26 ?_) | ((with_reducible refine atLoad (ty := 26) ?_); refine wpList_load_tile rfl 26 _ rfl _ rfl 26 _ (hA) _ Try.underlying26 rfl size26 ?_))
  go_wp2_with fail
  refine (eqTile_c _ _).mono ?_
  rintro e w5 ⟨rfl, hO_w5⟩
  have hz_w5 := hO_w5.size
  (try simp only [World.size_alloc, World.size_setCell, World.size_drew] at hz_w5)
  go_wp2
  go_ret
  refine ⟨rfl, ?_⟩
  (repeat (first | with_reducible exact Below.refl _ _ | ((with_reducible refine viaO (by assumption) ?_ ?_ ?_) <;> try ((try simp only [World.size_alloc, World.size_setCell, World.size_drew]) <;> omega)) | ((with_reducible refine Below.alloc ?_ ?_ _) <;> try ((try simp only [World.size_alloc, World.size_setCell, World.size_drew]) <;> omega)) | ((with_reducible refine Below.setCell ?_ ?_ _) <;> try ((try simp only [World.size_alloc, World.size_setCell, World.size_drew]) <;> omega)) | (with_reducible refine below_drewN ?_ _) | (with_reducible refine Below.drew ?_) | ((with_reducible refine via (by assumption) ?_ ?_) <;> try ((try simp only [World.size_alloc, World.size_setCell, World.size_drew]) <;> omega))))

set_option maxRecDepth 100000 in
theorem lifted (os : Os) (started : os.Started) (H : Type) (enc : TypeId × Value → H) :
    ReturnsInHanded {} Try.checked os 7 .any (Rows.fnExactFlipTileSpec.pre6 enc Try.prog Try.f7 Rows.fnExactFlipTileRow.domain false) (Rows.fnExactFlipTileSpec.post enc Try.prog Try.f7 false true false false) := by
  refine returnsInHanded_of_change (C := Try.checked) own started (by kernel_rfl) Try.func7
    (ChangeSpec.witness6 (enc := enc) (C := Try.checked) false ⟨#[], #[.agg (Array.replicate 64 (.int .i64 0)), .bool false, .bool false], []⟩ 8 (by kernel_rfl) (by kernel_rfl) (by kernel_rfl) (by kernel_rfl)) ?_
  intro W base args ds gs before hval0 hW hcnd _
  have hval : ∀ (j : Nat) t v, Try.f7.params[j]? = some t → args[j]? = some v → Value.okWide Try.prog W .any base t v := hval0
  have hW' := hW
  obtain ⟨p, q, hA0, hV, rfl, hfz, hnd⟩ := hW
  have hA : DataW.TrodAll enc Try.prog W 0 (fun _ => true) true Try.f7.params.toList args.toList ds p := hA0
  rw [Try.params7] at hA hval
  obtain ⟨v0, vs0, d0, ds0, p0, q0, hargs, rfl, rfl, h0, r0⟩ := trodAll_cons hA
  obtain ⟨v1, vs1, d1, ds1, p1, q1, rfl, rfl, rfl, h1, r1⟩ := trodAll_cons r0
  obtain ⟨v2, vs2, d2, ds2, p2, q2, rfl, rfl, rfl, h2, r2⟩ := trodAll_cons r1
  obtain ⟨rfl, rfl, rfl⟩ := trodAll_nil r2
  obtain rfl : args = #[v0, v1, v2] := by cases args; simp_all
  obtain ⟨rfl, rfl⟩ := trodVars_none hV
  have lt0 : ∀ x ∈ p0, x.block < W.heap.size := by obtain ⟨m, hm⟩ := h0; exact DataW.trod_lt m _ _ _ hm
  have a0 := tileArg (hval 0 24 v0 rfl rfl) h0
  have lt1 : ∀ x ∈ p1, x.block < W.heap.size := by obtain ⟨m, hm⟩ := h1; exact DataW.trod_lt m _ _ _ hm
  have a1 := boolArg (hval 1 4 v1 rfl rfl) h1
  have lt2 : ∀ x ∈ p2, x.block < W.heap.size := by obtain ⟨m, hm⟩ := h2; exact DataW.trod_lt m _ _ _ hm
  have a2 := boolArg (hval 2 4 v2 rfl rfl) h2
  clear hA0 hval0
  refine (walk v0 v1 v2 W a0 a1 a2).mono fun e W' ⟨he, bel⟩ => ?_
  subst he
  exact ⟨_, rfl, _, _, _, [], _, [], hW', trodAll_mk1 (shut_bool Try.underlying4 _), (trodAll_cons_mk (Below.trod laidOut (by kernel_rfl) (of_decide_eq_true (by kernel_rfl)) h0 bel lt0) (trodAll_cons_mk (Below.trod laidOut (by kernel_rfl) (of_decide_eq_true (by kernel_rfl)) h1 bel lt1) (trodAll_cons_mk (Below.trod laidOut (by kernel_rfl) (of_decide_eq_true (by kernel_rfl)) h2 bel lt2) trodAll_mk0))), rfl, bel.frame _, fun h => by cases h⟩

theorem proved : Rows.FnExactFlipTileSaid :=
  OpenClaim.holds_of_wide 7 Try.f7 rfl rfl rfl rfl rfl rfl rfl ⟨rfl, rfl, rfl, rfl, rfl⟩ rfl rfl rfl rfl rfl (by kernel_rfl) Try.func7 (by kernel_rfl)
    (of_decide_eq_true (by kernel_rfl)) (by unfold Func.isWrapper; first | (rw [if_pos (by decide +kernel)]; kernel_rfl) | (rw [if_neg (by decide +kernel)]; exact ⟨rfl, rfl⟩))
    (fun os started H enc _ => lifted os started H enc)
#print axioms proved

end Go.Proofs.Ytpddgepjlpdfjaa.lawFnExactFlipTile
