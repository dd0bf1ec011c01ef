/-
  The law FnExactTileBytes holds: for every input the program's TileBytes returns what the reference's returns, in memory of its own. No conditions.
-/
import Derived.Test.YtpddgepjlpdfjaaTileOpen
import Derived.Test.YtpddgepjlpdfjaaTileList
namespace Go.Proofs.Ytpddgepjlpdfjaa.lawFnExactTileBytes
set_option linter.all false
set_option linter.unusedSimpArgs false
set_option linter.unusedVariables false
open Go.ChangeShapes Go.WideShapes Go.ChangeAt Go.RowKit

theorem tbN_le (v : Bool) : tbN v ≤ 16 := by cases v <;> decide

theorem walk (v0 : Value) (w : World) (h0 : TileArg w v0) : Calls Try.prog 9 #[v0] w fun e w' => e = .returned (.bool true) ∧ Below w.heap.size w w' := by
  obtain ⟨p, rfl⟩ := h0
  obtain ⟨v, hv⟩ : ∃ v, tvd p = v := ⟨_, rfl⟩
  have HV := Lib.hid hv
  have hn := tbN_le v
  obtain ⟨n, hn'⟩ : ∃ n, tbN v = n := ⟨_, rfl⟩
  have H1 := Lib.hid (fun w => itb_c p v hv w)
  have H2 := Lib.hid (fun w => stb_c p v hv w)
  rw [hn'] at hn H1 H2
  clear hv hn'
  have t0 := TB.new w 24 p
  go_enter Try.func9, Try.ntmps9
  go_wp2_with ((with_reducible refine atLoad (ty := 24) ?_); refine wpList_load_tile rfl 24 _ rfl _ rfl 24 _ (t0) _ Try.underlying24 rfl size24 ?_)
  go_wp2_with fail
  refine (toTile_c _ _).mono ?_
  rintro e w1 ⟨rfl, hO_w1⟩
  have hz_w1 := hO_w1.size
  (try simp only [World.size_alloc, World.size_setCell, World.size_drew] at hz_w1)
  have t1 := t0.below hO_w1 t0.lt
  go_wp2_with fail
  refine (H2.out _).mono ?_
  rintro e w2 ⟨A2, cap2, rfl, h2, hO_w2⟩
  have hz_w2 := hO_w2.size
  (try simp only [World.size_alloc, World.size_setCell, World.size_drew] at hz_w2)
  have s2 := own_rs h2
  have l2 := own_cap h2
  have t2 := t1.below hO_w2 t1.lt
  clear t0 t1
  go_wp2_with ((with_reducible refine atLoad (ty := 24) ?_); refine wpList_load_tile rfl 24 _ rfl _ rfl 24 _ (t2) _ Try.underlying24 rfl size24 ?_)
  go_wp2_with fail
  refine (toTile_c _ _).mono ?_
  rintro e w3 ⟨rfl, hO_w3⟩
  have hz_w3 := hO_w3.size
  (try simp only [World.size_alloc, World.size_setCell, World.size_drew] at hz_w3)
  have t3 := t2.below hO_w3 t2.lt
  go_wp2_with fail
  refine (H1.out _).mono ?_
  rintro e w4 ⟨A4, cap4, rfl, h4, hO_w4⟩
  have hz_w4 := hO_w4.size
  (try simp only [World.size_alloc, World.size_setCell, World.size_drew] at hz_w4)
  have s4 := own_rs h4
  have l4 := own_cap h4
  have t4 := t3.below hO_w4 t3.lt
  clear t2 t3
  go_wp2_with fail
  refine (eqIntS_c _ _ _ _ _ _ _ _ (C := w4.heap.size) (C' := w2.heap.size) (by (repeat (first | with_reducible assumption | ((with_reducible refine RS.below (by assumption) ?_ ?_) <;> try ((try simp only [World.size_alloc, World.size_setCell, World.size_drew]) <;> omega)) | ((with_reducible refine RS.alloc ?_ ?_ _) <;> try ((try simp only [World.size_alloc, World.size_setCell, World.size_drew]) <;> omega)) | ((with_reducible refine RS.setRow ?_ ?_ _) <;> try ((try simp only [World.size_alloc, World.size_setCell, World.size_drew]) <;> omega)) | ((with_reducible refine RS.setCell ?_ ?_ _) <;> try ((try simp only [World.size_alloc, World.size_setCell, World.size_drew]) <;> omega)) | ((with_reducible refine RS.setCells ?_ ?_ _ _) <;> try ((try simp only [World.size_alloc, World.size_setCell, World.size_drew]) <;> omega)) | (with_reducible apply RS.drewN) | (with_reducible apply RS.drew)))) (by (repeat (first | with_reducible assumption | ((with_reducible refine RS.below (by assumption) ?_ ?_) <;> try ((try simp only [World.size_alloc, World.size_setCell, World.size_drew]) <;> omega)) | ((with_reducible refine RS.alloc ?_ ?_ _) <;> try ((try simp only [World.size_alloc, World.size_setCell, World.size_drew]) <;> omega)) | ((with_reducible refine RS.setRow ?_ ?_ _) <;> try ((try simp only [World.size_alloc, World.size_setCell, World.size_drew]) <;> omega)) | ((with_reducible refine RS.setCell ?_ ?_ _) <;> try ((try simp only [World.size_alloc, World.size_setCell, World.size_drew]) <;> omega)) | ((with_reducible refine RS.setCells ?_ ?_ _ _) <;> try ((try simp only [World.size_alloc, World.size_setCell, World.size_drew]) <;> omega)) | (with_reducible apply RS.drewN) | (with_reducible apply RS.drew)))) (by ((try simp only [World.size_alloc, World.size_setCell, World.size_drew]) <;> omega)) (by ((try simp only [World.size_alloc, World.size_setCell, World.size_drew]) <;> omega)) (by omega) (fun _ _ => rfl)).mono ?_
  rintro e w5 ⟨rfl, hO_w5⟩
  have hz_w5 := hO_w5.size
  (try simp only [World.size_alloc, World.size_setCell, World.size_drew] at hz_w5)
  have t5 := t4.below hO_w5 t4.lt
  have h5 := own_below h4 hO_w5 (Nat.le_refl _)
  clear t4 h4 s4
  rw [Nat.mul_one] at h5
  go_wp2_with fail
  refine (markIntS_c _ _ _ _ _ _ _ h5 (by omega) (by omega) (by omega) (fun j _ => ⟨_, rfl⟩)).mono ?_
  rintro e w6 ⟨rfl, h6, hG_w6⟩
  have hO_w6 : Below w3.heap.size w5 w6 := (Below.refl _ _).grown hG_w6 (by ((try simp only [World.size_alloc, World.size_setCell, World.size_drew]) <;> omega)) (fun g hg => (h5.lt g hg).1)
  have hz_w6 := hO_w6.size
  have t6 := t5.below hO_w6 (by ((try simp only [World.size_alloc, World.size_setCell, World.size_drew]) <;> omega))
  have s6 := own_rs (sz := 1) (by rw [Nat.mul_one]; exact h6)
  have m1 : 0 ≤ (1 : Int) + n := by omega
  clear t5 h5 hG_w6 h6
  go_wp2_with fail
  refine (heldIntS_c _ _ _ _ _ s6 (by omega) (by omega) (by omega)).mono ?_
  rintro e w' ⟨rfl, rfl⟩
  go_wp2_with ((with_reducible refine atLoad (ty := 24) ?_); refine wpList_load_tile rfl 24 _ rfl _ rfl 24 _ (t6) _ Try.underlying24 rfl size24 ?_)
  go_wp2_with fail
  refine (toTile_c _ _).mono ?_
  rintro e w7 ⟨rfl, hO_w7⟩
  have hz_w7 := hO_w7.size
  (try simp only [World.size_alloc, World.size_setCell, World.size_drew] at hz_w7)
  go_wp2_with fail
  refine (H1.out _).mono ?_
  rintro e w8 ⟨A8, cap8, rfl, h8, hO_w8⟩
  have hz_w8 := hO_w8.size
  (try simp only [World.size_alloc, World.size_setCell, World.size_drew] at hz_w8)
  have s8 := own_rs h8
  have l8 := own_cap h8
  go_wp2_with fail
  refine (eqIntS_c _ _ _ _ _ _ _ _ (C := w8.heap.size) (C' := w2.heap.size) (by (repeat (first | with_reducible assumption | ((with_reducible refine RS.below (by assumption) ?_ ?_) <;> try ((try simp only [World.size_alloc, World.size_setCell, World.size_drew]) <;> omega)) | ((with_reducible refine RS.alloc ?_ ?_ _) <;> try ((try simp only [World.size_alloc, World.size_setCell, World.size_drew]) <;> omega)) | ((with_reducible refine RS.setRow ?_ ?_ _) <;> try ((try simp only [World.size_alloc, World.size_setCell, World.size_drew]) <;> omega)) | ((with_reducible refine RS.setCell ?_ ?_ _) <;> try ((try simp only [World.size_alloc, World.size_setCell, World.size_drew]) <;> omega)) | ((with_reducible refine RS.setCells ?_ ?_ _ _) <;> try ((try simp only [World.size_alloc, World.size_setCell, World.size_drew]) <;> omega)) | (with_reducible apply RS.drewN) | (with_reducible apply RS.drew)))) (by (repeat (first | with_reducible assumption | ((with_reducible refine RS.below (by assumption) ?_ ?_) <;> try ((try simp only [World.size_alloc, World.size_setCell, World.size_drew]) <;> omega)) | ((with_reducible refine RS.alloc ?_ ?_ _) <;> try ((try simp only [World.size_alloc, World.size_setCell, World.size_drew]) <;> omega)) | ((with_reducible refine RS.setRow ?_ ?_ _) <;> try ((try simp only [World.size_alloc, World.size_setCell, World.size_drew]) <;> omega)) | ((with_reducible refine RS.setCell ?_ ?_ _) <;> try ((try simp only [World.size_alloc, World.size_setCell, World.size_drew]) <;> omega)) | ((with_reducible refine RS.setCells ?_ ?_ _ _) <;> try ((try simp only [World.size_alloc, World.size_setCell, World.size_drew]) <;> omega)) | (with_reducible apply RS.drewN) | (with_reducible apply RS.drew)))) (by ((try simp only [World.size_alloc, World.size_setCell, World.size_drew]) <;> omega)) (by ((try simp only [World.size_alloc, World.size_setCell, World.size_drew]) <;> omega)) (by omega) (fun _ _ => rfl)).mono ?_
  rintro e w9 ⟨rfl, hO_w9⟩
  have hz_w9 := hO_w9.size
  (try simp only [World.size_alloc, World.size_setCell, World.size_drew] at hz_w9)
  go_wp2_with fail
  refine (heldIntS_c _ _ _ _ _ (B := w6.heap.size) (by (repeat (first | with_reducible assumption | ((with_reducible refine RS.below (by assumption) ?_ ?_) <;> try ((try simp only [World.size_alloc, World.size_setCell, World.size_drew]) <;> omega)) | ((with_reducible refine RS.alloc ?_ ?_ _) <;> try ((try simp only [World.size_alloc, World.size_setCell, World.size_drew]) <;> omega)) | ((with_reducible refine RS.setRow ?_ ?_ _) <;> try ((try simp only [World.size_alloc, World.size_setCell, World.size_drew]) <;> omega)) | ((with_reducible refine RS.setCell ?_ ?_ _) <;> try ((try simp only [World.size_alloc, World.size_setCell, World.size_drew]) <;> omega)) | ((with_reducible refine RS.setCells ?_ ?_ _ _) <;> try ((try simp only [World.size_alloc, World.size_setCell, World.size_drew]) <;> omega)) | (with_reducible apply RS.drewN) | (with_reducible apply RS.drew)))) (by omega) (by omega) (by omega)).mono ?_
  rintro e w' ⟨rfl, rfl⟩
  go_wp2
  go_ret
  refine ⟨rfl, ?_⟩
  refine hO_w9.mono (by ((try simp only [World.size_alloc, World.size_setCell, World.size_drew]) <;> omega)) |> (Below.trans ?_)
  refine hO_w8.mono (by ((try simp only [World.size_alloc, World.size_setCell, World.size_drew]) <;> omega)) |> (Below.trans ?_)
  refine hO_w7.mono (by ((try simp only [World.size_alloc, World.size_setCell, World.size_drew]) <;> omega)) |> (Below.trans ?_)
  refine hO_w6.mono (by ((try simp only [World.size_alloc, World.size_setCell, World.size_drew]) <;> omega)) |> (Below.trans ?_)
  (repeat (first | with_reducible exact Below.refl _ _ | ((with_reducible refine viaO (by assumption) ?_ ?_ ?_) <;> try ((try simp only [World.size_alloc, World.size_setCell, World.size_drew]) <;> omega)) | ((with_reducible refine Below.alloc ?_ ?_ _) <;> try ((try simp only [World.size_alloc, World.size_setCell, World.size_drew]) <;> omega)) | ((with_reducible refine Below.setCell ?_ ?_ _) <;> try ((try simp only [World.size_alloc, World.size_setCell, World.size_drew]) <;> omega)) | (with_reducible refine below_drewN ?_ _) | (with_reducible refine Below.drew ?_) | ((with_reducible refine via (by assumption) ?_ ?_) <;> try ((try simp only [World.size_alloc, World.size_setCell, World.size_drew]) <;> omega))))

set_option maxRecDepth 100000 in
theorem lifted (os : Os) (started : os.Started) (H : Type) (enc : TypeId × Value → H) :
    ReturnsInHanded {} Try.checked os 9 .any (Rows.fnExactTileBytesSpec.pre6 enc Try.prog Try.f9 Rows.fnExactTileBytesRow.domain false) (Rows.fnExactTileBytesSpec.post enc Try.prog Try.f9 false true false false) := by
  refine returnsInHanded_of_change (C := Try.checked) own started (by kernel_rfl) Try.func9
    (ChangeSpec.witness6 (enc := enc) (C := Try.checked) false ⟨#[], #[.agg (Array.replicate 64 (.int .i64 0))], []⟩ 8 (by kernel_rfl) (by kernel_rfl) (by kernel_rfl) (by kernel_rfl)) ?_
  intro W base args ds gs before hval0 hW hcnd _
  have hval : ∀ (j : Nat) t v, Try.f9.params[j]? = some t → args[j]? = some v → Value.okWide Try.prog W .any base t v := hval0
  have hW' := hW
  obtain ⟨p, q, hA0, hV, rfl, hfz, hnd⟩ := hW
  have hA : DataW.TrodAll enc Try.prog W 0 (fun _ => true) true Try.f9.params.toList args.toList ds p := hA0
  rw [Try.params9] at hA hval
  obtain ⟨v0, vs0, d0, ds0, p0, q0, hargs, rfl, rfl, h0, r0⟩ := trodAll_cons hA
  obtain ⟨rfl, rfl, rfl⟩ := trodAll_nil r0
  obtain rfl : args = #[v0] := by cases args; simp_all
  obtain ⟨rfl, rfl⟩ := trodVars_none hV
  have lt0 : ∀ x ∈ p0, x.block < W.heap.size := by obtain ⟨m, hm⟩ := h0; exact DataW.trod_lt m _ _ _ hm
  have a0 := tileArg (hval 0 24 v0 rfl rfl) h0
  clear hA0 hval0
  refine (walk v0 W a0).mono fun e W' ⟨he, bel⟩ => ?_
  subst he
  exact ⟨_, rfl, _, _, _, [], _, [], hW', trodAll_mk1 (shut_bool Try.underlying4 _), (trodAll_cons_mk (Below.trod laidOut (by kernel_rfl) (of_decide_eq_true (by kernel_rfl)) h0 bel lt0) trodAll_mk0), rfl, bel.frame _, fun h => by cases h⟩

theorem proved : Rows.FnExactTileBytesSaid :=
  OpenClaim.holds_of_wide 9 Try.f9 rfl rfl rfl rfl rfl rfl rfl ⟨rfl, rfl, rfl, rfl, rfl⟩ rfl rfl rfl rfl rfl (by kernel_rfl) Try.func9 (by kernel_rfl)
    (of_decide_eq_true (by kernel_rfl)) (by unfold Func.isWrapper; first | (rw [if_pos (by decide +kernel)]; kernel_rfl) | (rw [if_neg (by decide +kernel)]; exact ⟨rfl, rfl⟩))
    (fun os started H enc _ => lifted os started H enc)
#print axioms proved

end Go.Proofs.Ytpddgepjlpdfjaa.lawFnExactTileBytes
