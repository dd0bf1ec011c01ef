/-
  The law FnTileValid holds: a valid tile with a pixel beyond 3 is invalid; for every code. No conditions.
-/
import Derived.Test.YtpddgepjlpdfjaaOpen
import Derived.Test.YtpddgepjlpdfjaaTileOpen
import Derived.Test.YtpddgepjlpdfjaaTileDraw
namespace Go.Proofs.Ytpddgepjlpdfjaa.lawFnTileValid
set_option linter.all false
set_option linter.unusedSimpArgs false
set_option linter.unusedVariables false
open Go.ChangeShapes Go.WideShapes Go.ChangeAt Go.RowKit

set_option maxHeartbeats 1000000 in
theorem walk (v0 : Value) (w : World) (h0 : CodeArg w v0) : Calls Try.prog 6 #[v0] w fun e w' => e = .returned (.bool true) ∧ Below w.heap.size w w' := by
  obtain ⟨a, len, cap, rfl, hcode, hl⟩ := h0
  have hm := hcode.1; unfold maxLen at hm
  by_cases hlen : 1048576 < len
  · go_enter Try.func6, Try.ntmps6
    go_wp2
    go_ret
    exact ⟨rfl, Below.refl _ _⟩
  · go_enter Try.func6, Try.ntmps6
    go_wp2_with fail
    refine (drawTileValid_c _ _ _ _ hcode hl).mono ?_
    rintro e w1 ⟨p, rfl, hO_w1⟩
    have hz_w1 := hO_w1.size
    have hT := TB.new w1 26 p
    clear hm hcode
    cases hv : tvd p
    · have HV := Lib.hid hv
      clear hv
      go_wp2_with (first | ((with_reducible refine atAlloc (ty := 26) ?_); refine wpList_alloc_tile rfl 26 rfl zero26 ?_; (try simp only [World.size_alloc, World.size_setCell, setRow_size])) | ((with_reducible refine atStore (ty := 26) ?_); refine wpList_store_tile_new rfl 26 _ _ rfl rfl (p) rfl 26 _ size26 ?_) | ((with_reducible refine atLoad (ty := 26) ?_); refine wpList_load_tile rfl 26 _ rfl _ rfl 26 _ (hT) _ Try.underlying26 rfl size26 ?_))
      go_wp2_with fail
      refine (itv_c _ _ HV.out _).mono ?_
      rintro e w2 ⟨rfl, hO_w2⟩
      have hz_w2 := hO_w2.size
      (try simp only [World.size_alloc, World.size_setCell, World.size_drew] at hz_w2)
      have hU := hT.below hO_w2 (by simp)
      go_wp2_with ((with_reducible refine atLoad (ty := 26) ?_); refine wpList_load_tile rfl 26 _ rfl _ rfl 26 _ (hU) _ Try.underlying26 rfl size26 ?_)
      go_wp2_with fail
      refine (stv_c _ _ HV.out _).mono ?_
      rintro e w3 ⟨rfl, hO_w3⟩
      have hz_w3 := hO_w3.size
      (try simp only [World.size_alloc, World.size_setCell, World.size_drew] at hz_w3)
      have hU3 := hU.below hO_w3 (by omega)
      have hkk : ∃ k : Nat, k < 64 ∧ (len : Int) % 64 = k := ⟨len % 64, by omega, by omega⟩
      obtain ⟨k, hk, hkk⟩ := hkk
      have c3 := hU3.cell k hk
      have f3 := hU3.frozen k
      have hU4 := hU3.put k 4
      have HB := Lib.hid (tvd_no (p := upd p k 4) hk (by simp [upd]; decide))
      go_wp2_with ((with_reducible refine atLoad (ty := 26) ?_); refine wpList_load_tile rfl 26 _ rfl _ rfl 26 _ (hU4) _ Try.underlying26 rfl size26 ?_)
      go_wp2_with fail
      refine (itv_c _ _ HB.out _).mono ?_
      rintro e w5 ⟨rfl, hO_w5⟩
      have hz_w5 := hO_w5.size
      (try simp only [World.size_alloc, World.size_setCell, World.size_drew] at hz_w5)
      go_wp2_with (go_at_call 26; refine (alive_c _).mono ?_; rintro e w' ⟨rfl, rfl⟩)
      go_ret
      refine ⟨rfl, ?_⟩
      (repeat (first | with_reducible exact Below.refl _ _ | ((with_reducible refine viaO (by assumption) ?_ ?_ ?_) <;> try ((try simp only [World.size_alloc, World.size_setCell, World.size_drew]) <;> omega)) | ((with_reducible refine Below.alloc ?_ ?_ _) <;> try ((try simp only [World.size_alloc, World.size_setCell, World.size_drew]) <;> omega)) | ((with_reducible refine Below.setCell ?_ ?_ _) <;> try ((try simp only [World.size_alloc, World.size_setCell, World.size_drew]) <;> omega)) | (with_reducible refine below_drewN ?_ _) | (with_reducible refine Below.drew ?_) | ((with_reducible refine via (by assumption) ?_ ?_) <;> try ((try simp only [World.size_alloc, World.size_setCell, World.size_drew]) <;> omega))))
    · have HV := Lib.hid hv
      clear hv
      go_wp2_with (first | ((with_reducible refine atAlloc (ty := 26) ?_); refine wpList_alloc_tile rfl 26 rfl zero26 ?_; (try simp only [World.size_alloc, World.size_setCell, setRow_size])) | ((with_reducible refine atStore (ty := 26) ?_); refine wpList_store_tile_new rfl 26 _ _ rfl rfl (p) rfl 26 _ size26 ?_) | ((with_reducible refine atLoad (ty := 26) ?_); refine wpList_load_tile rfl 26 _ rfl _ rfl 26 _ (hT) _ Try.underlying26 rfl size26 ?_))
      go_wp2_with fail
      refine (itv_c _ _ HV.out _).mono ?_
      rintro e w2 ⟨rfl, hO_w2⟩
      have hz_w2 := hO_w2.size
      (try simp only [World.size_alloc, World.size_setCell, World.size_drew] at hz_w2)
      have hU := hT.below hO_w2 (by simp)
      go_wp2_with ((with_reducible refine atLoad (ty := 26) ?_); refine wpList_load_tile rfl 26 _ rfl _ rfl 26 _ (hU) _ Try.underlying26 rfl size26 ?_)
      go_wp2_with fail
      refine (stv_c _ _ HV.out _).mono ?_
      rintro e w3 ⟨rfl, hO_w3⟩
      have hz_w3 := hO_w3.size
      (try simp only [World.size_alloc, World.size_setCell, World.size_drew] at hz_w3)
      have hU3 := hU.below hO_w3 (by omega)
      have hkk : ∃ k : Nat, k < 64 ∧ (len : Int) % 64 = k := ⟨len % 64, by omega, by omega⟩
      obtain ⟨k, hk, hkk⟩ := hkk
      have c3 := hU3.cell k hk
      have f3 := hU3.frozen k
      have hU4 := hU3.put k 4
      have HB := Lib.hid (tvd_no (p := upd p k 4) hk (by simp [upd]; decide))
      go_wp2_with ((with_reducible refine atLoad (ty := 26) ?_); refine wpList_load_tile rfl 26 _ rfl _ rfl 26 _ (hU4) _ Try.underlying26 rfl size26 ?_)
      go_wp2_with fail
      refine (itv_c _ _ HB.out _).mono ?_
      rintro e w5 ⟨rfl, hO_w5⟩
      have hz_w5 := hO_w5.size
      (try simp only [World.size_alloc, World.size_setCell, World.size_drew] at hz_w5)
      go_wp2_with (go_at_call 26; refine (alive_c _).mono ?_; rintro e w' ⟨rfl, rfl⟩)
      go_ret
      refine ⟨rfl, ?_⟩
      (repeat (first | with_reducible exact Below.refl _ _ | ((with_reducible refine viaO (by assumption) ?_ ?_ ?_) <;> try ((try simp only [World.size_alloc, World.size_setCell, World.size_drew]) <;> omega)) | ((with_reducible refine Below.alloc ?_ ?_ _) <;> try ((try simp only [World.size_alloc, World.size_setCell, World.size_drew]) <;> omega)) | ((with_reducible refine Below.setCell ?_ ?_ _) <;> try ((try simp only [World.size_alloc, World.size_setCell, World.size_drew]) <;> omega)) | (with_reducible refine below_drewN ?_ _) | (with_reducible refine Below.drew ?_) | ((with_reducible refine via (by assumption) ?_ ?_) <;> try ((try simp only [World.size_alloc, World.size_setCell, World.size_drew]) <;> omega))))

set_option maxRecDepth 100000 in
theorem lifted (os : Os) (started : os.Started) (H : Type) (enc : TypeId × Value → H) :
    ReturnsInHanded {} Try.checked os 6 .any (Rows.fnTileValidSpec.pre6 enc Try.prog Try.f6 Rows.fnTileValidRow.domain false) (Rows.fnTileValidSpec.post enc Try.prog Try.f6 false true false false) := by
  refine returnsInHanded_of_change (C := Try.checked) own started (by kernel_rfl) Try.func6
    (ChangeSpec.witness6 (enc := enc) (C := Try.checked) false ⟨#[], #[.slice none 0 0], []⟩ 8 (by kernel_rfl) (by kernel_rfl) (by kernel_rfl) (by kernel_rfl)) ?_
  intro W base args ds gs before hval0 hW hcnd _
  have hval : ∀ (j : Nat) t v, Try.f6.params[j]? = some t → args[j]? = some v → Value.okWide Try.prog W .any base t v := hval0
  have hW' := hW
  obtain ⟨p, q, hA0, hV, rfl, hfz, hnd⟩ := hW
  have hA : DataW.TrodAll enc Try.prog W 0 (fun _ => true) true Try.f6.params.toList args.toList ds p := hA0
  rw [Try.params6] at hA hval
  obtain ⟨v0, vs0, d0, ds0, p0, q0, hargs, rfl, rfl, h0, r0⟩ := trodAll_cons hA
  obtain ⟨rfl, rfl, rfl⟩ := trodAll_nil r0
  obtain rfl : args = #[v0] := by cases args; simp_all
  obtain ⟨rfl, rfl⟩ := trodVars_none hV
  have lt0 : ∀ x ∈ p0, x.block < W.heap.size := by obtain ⟨m, hm⟩ := h0; exact DataW.trod_lt m _ _ _ hm
  have a0 := codeArg (hval 0 32 v0 rfl rfl) h0
  clear hA0 hval0
  refine (walk v0 W a0).mono fun e W' ⟨he, bel⟩ => ?_
  subst he
  exact ⟨_, rfl, _, _, _, [], _, [], hW', trodAll_mk1 (shut_bool Try.underlying4 _), (trodAll_cons_mk (Below.trod laidOut (by kernel_rfl) (of_decide_eq_true (by kernel_rfl)) h0 bel lt0) trodAll_mk0), rfl, bel.frame _, fun h => by cases h⟩

theorem proved : Rows.FnTileValidSaid :=
  OpenClaim.holds_of_wide 6 Try.f6 rfl rfl rfl rfl rfl rfl rfl ⟨rfl, rfl, rfl, rfl, rfl⟩ rfl rfl rfl rfl rfl (by kernel_rfl) Try.func6 (by kernel_rfl)
    (of_decide_eq_true (by kernel_rfl)) (by unfold Func.isWrapper; first | (rw [if_pos (by decide +kernel)]; kernel_rfl) | (rw [if_neg (by decide +kernel)]; exact ⟨rfl, rfl⟩))
    (fun os started H enc _ => lifted os started H enc)
#print axioms proved

end Go.Proofs.Ytpddgepjlpdfjaa.lawFnTileValid
