/-
  The law FnReadTile holds: 16 bytes are read as a valid tile whose bytes they are; for every code. No conditions.
-/
import Derived.Test.YtpddgepjlpdfjaaOpen
import Derived.Test.YtpddgepjlpdfjaaReadDraw
import Derived.Test.YtpddgepjlpdfjaaTileEq
import Derived.Test.YtpddgepjlpdfjaaTileList
namespace Go.Proofs.Ytpddgepjlpdfjaa.lawFnReadTile
set_option linter.all false
set_option linter.unusedSimpArgs false
set_option linter.unusedVariables false
open Go.ChangeShapes Go.WideShapes Go.ChangeAt Go.RowKit

set_option maxHeartbeats 2000000 in
theorem walk (v0 : Value) (w : World) (h0 : CodeArg w v0) : Calls Try.prog 16 #[v0] w fun e w' => e = .returned (.bool true) ∧ Below w.heap.size w w' := by
  obtain ⟨a, len, cap, rfl, hcode, hl⟩ := h0
  have hm := hcode.1; unfold maxLen at hm
  by_cases hlen : 1048576 < len
  · go_enter Try.func16, Try.ntmps16
    go_wp2
    go_ret
    exact ⟨rfl, Below.refl _ _⟩
  · go_enter Try.func16, Try.ntmps16
    go_wp2_with fail
    refine (drawReadTile_c _ _ _ _ hcode hl).mono ?_
    rintro e w1 ⟨A, n, cap1, p, rfl, s1, hn, hO_w1⟩
    have hz_w1 := hO_w1.size
    clear hm hcode
    cases hv : rdV n p
    · have HV := Lib.hid hv
      clear hv
      go_wp2_with fail
      refine (irt_c _ _ _ _ _ HV.out _ s1 (by ((try simp only [World.size_alloc, World.size_setCell, World.size_drew]) <;> omega)) (by omega)).mono ?_
      rintro e w2 ⟨rfl, hO_w2⟩
      have hz_w2 := hO_w2.size
      (try simp only [World.size_alloc, World.size_setCell, World.size_drew] at hz_w2)
      rw [rdR_false]
      have t2 := TB.new w2 26 zeroT
      go_wp2_with (first | ((with_reducible refine atAlloc (ty := 26) ?_); refine wpList_alloc_tile rfl 26 rfl zero26 ?_; (try simp only [World.size_alloc, World.size_setCell, setRow_size])) | ((with_reducible refine atStore (ty := 26) ?_); refine wpList_store_tile_new rfl 26 _ _ rfl rfl (zeroT) rfl 26 _ size26 ?_))
      go_wp2_with fail
      refine (srt_c _ _ _ _ _ HV.out _ (B := w1.heap.size) (by (repeat (first | with_reducible assumption | ((with_reducible refine RS.below (by assumption) ?_ ?_) <;> try ((try simp only [World.size_alloc, World.size_setCell, World.size_drew]) <;> omega)) | ((with_reducible refine RS.alloc ?_ ?_ _) <;> try ((try simp only [World.size_alloc, World.size_setCell, World.size_drew]) <;> omega)) | ((with_reducible refine RS.setRow ?_ ?_ _) <;> try ((try simp only [World.size_alloc, World.size_setCell, World.size_drew]) <;> omega)) | ((with_reducible refine RS.setCell ?_ ?_ _) <;> try ((try simp only [World.size_alloc, World.size_setCell, World.size_drew]) <;> omega)) | ((with_reducible refine RS.setCells ?_ ?_ _ _) <;> try ((try simp only [World.size_alloc, World.size_setCell, World.size_drew]) <;> omega)) | (with_reducible apply RS.drewN) | (with_reducible apply RS.drew)))) (by ((try simp only [World.size_alloc, World.size_setCell, World.size_drew]) <;> omega)) (by omega)).mono ?_
      rintro e w3 ⟨rfl, hO_w3⟩
      have hz_w3 := hO_w3.size
      (try simp only [World.size_alloc, World.size_setCell, World.size_drew] at hz_w3)
      rw [rdR_false]
      have t3 := (t2.below hO_w3 t2.lt).alloc (.cells (tv zeroT) 26)
      have x3 := TB.new w3 26 zeroT
      clear t2
      go_wp2_with (first | ((with_reducible refine atAlloc (ty := 26) ?_); refine wpList_alloc_tile rfl 26 rfl zero26 ?_; (try simp only [World.size_alloc, World.size_setCell, setRow_size])) | ((with_reducible refine atStore (ty := 26) ?_); refine wpList_store_tile_new rfl 26 _ _ rfl rfl (zeroT) rfl 26 _ size26 ?_) | ((with_reducible refine atBuild (ty := 26) ?_); refine wpList_build_tile rfl 26 rfl build26 ?_) | ((with_reducible refine atLoad (ty := 26) ?_); refine wpList_load_tile rfl 26 _ rfl _ rfl 26 _ (x3) _ Try.underlying26 rfl size26 ?_) | ((with_reducible refine atLoad (ty := 26) ?_); refine wpList_load_tile rfl 26 _ rfl _ rfl 26 _ (t3) _ Try.underlying26 rfl size26 ?_) | ((with_reducible refine atBinOp (b := .neq) (ty := 26) ?_); refine wpList_neq_tile (by first | rfl | (go_simp; done) | (simp [Region.wanted, yielded]; done)) _ _ _ rfl zeroT zeroT rfl rfl rfl ?_) | ((with_reducible refine atBinOp (b := .eql) (ty := 26) ?_); refine wpList_eql_tile (by first | rfl | (go_simp; done) | (simp [Region.wanted, yielded]; done)) _ _ _ rfl zeroT zeroT rfl rfl rfl ?_) | (go_at_call 26; refine (alive_c _).mono ?_; rintro e w' ⟨rfl, rfl⟩))
      go_ret
      refine ⟨rfl, ?_⟩
      (repeat (first | with_reducible exact Below.refl _ _ | ((with_reducible refine viaO (by assumption) ?_ ?_ ?_) <;> try ((try simp only [World.size_alloc, World.size_setCell, World.size_drew]) <;> omega)) | ((with_reducible refine Below.alloc ?_ ?_ _) <;> try ((try simp only [World.size_alloc, World.size_setCell, World.size_drew]) <;> omega)) | ((with_reducible refine Below.setCell ?_ ?_ _) <;> try ((try simp only [World.size_alloc, World.size_setCell, World.size_drew]) <;> omega)) | (with_reducible refine below_drewN ?_ _) | (with_reducible refine Below.drew ?_) | ((with_reducible refine via (by assumption) ?_ ?_) <;> try ((try simp only [World.size_alloc, World.size_setCell, World.size_drew]) <;> omega))))
    · have hv' := hv
      simp only [rdV, Bool.and_eq_true, beq_iff_eq] at hv'
      obtain ⟨hb, rfl⟩ := hv'
      have HV := Lib.hid hv
      have HE := Lib.hid (tb_rt p (fun r hr => inB_true.1 (byt_true.1 hb r hr)))
      have HT := Lib.hid (rt_valid p)
      have H1 := Lib.hid (fun w => itb_c (rt p) true (rt_valid p) w)
      rw [show tbN true = 16 from rfl] at H1
      clear hv hb
      go_wp2_with fail
      refine (irt_c _ _ _ _ _ HV.out _ s1 (by ((try simp only [World.size_alloc, World.size_setCell, World.size_drew]) <;> omega)) (by omega)).mono ?_
      rintro e w2 ⟨rfl, hO_w2⟩
      have hz_w2 := hO_w2.size
      (try simp only [World.size_alloc, World.size_setCell, World.size_drew] at hz_w2)
      rw [rdR_true]
      have t2 := TB.new w2 26 (rt p)
      go_wp2_with (first | ((with_reducible refine atAlloc (ty := 26) ?_); refine wpList_alloc_tile rfl 26 rfl zero26 ?_; (try simp only [World.size_alloc, World.size_setCell, setRow_size])) | ((with_reducible refine atStore (ty := 26) ?_); refine wpList_store_tile_new rfl 26 _ _ rfl rfl (rt p) rfl 26 _ size26 ?_))
      go_wp2_with fail
      refine (srt_c _ _ _ _ _ HV.out _ (B := w1.heap.size) (by (repeat (first | with_reducible assumption | ((with_reducible refine RS.below (by assumption) ?_ ?_) <;> try ((try simp only [World.size_alloc, World.size_setCell, World.size_drew]) <;> omega)) | ((with_reducible refine RS.alloc ?_ ?_ _) <;> try ((try simp only [World.size_alloc, World.size_setCell, World.size_drew]) <;> omega)) | ((with_reducible refine RS.setRow ?_ ?_ _) <;> try ((try simp only [World.size_alloc, World.size_setCell, World.size_drew]) <;> omega)) | ((with_reducible refine RS.setCell ?_ ?_ _) <;> try ((try simp only [World.size_alloc, World.size_setCell, World.size_drew]) <;> omega)) | ((with_reducible refine RS.setCells ?_ ?_ _ _) <;> try ((try simp only [World.size_alloc, World.size_setCell, World.size_drew]) <;> omega)) | (with_reducible apply RS.drewN) | (with_reducible apply RS.drew)))) (by ((try simp only [World.size_alloc, World.size_setCell, World.size_drew]) <;> omega)) (by omega)).mono ?_
      rintro e w3 ⟨rfl, hO_w3⟩
      have hz_w3 := hO_w3.size
      (try simp only [World.size_alloc, World.size_setCell, World.size_drew] at hz_w3)
      rw [rdR_true]
      have t3 := (t2.below hO_w3 t2.lt).alloc (.cells (tv (rt p)) 26)
      have x3 := TB.new w3 26 (rt p)
      clear t2
      go_wp2_with (first | ((with_reducible refine atAlloc (ty := 26) ?_); refine wpList_alloc_tile rfl 26 rfl zero26 ?_; (try simp only [World.size_alloc, World.size_setCell, setRow_size])) | ((with_reducible refine atStore (ty := 26) ?_); refine wpList_store_tile_new rfl 26 _ _ rfl rfl (rt p) rfl 26 _ size26 ?_) | ((with_reducible refine atLoad (ty := 26) ?_); refine wpList_load_tile rfl 26 _ rfl _ rfl 26 _ (x3) _ Try.underlying26 rfl size26 ?_) | ((with_reducible refine atLoad (ty := 26) ?_); refine wpList_load_tile rfl 26 _ rfl _ rfl 26 _ (t3) _ Try.underlying26 rfl size26 ?_) | ((with_reducible refine atBinOp (b := .neq) (ty := 26) ?_); refine wpList_neq_tile (by first | rfl | (go_simp; done) | (simp [Region.wanted, yielded]; done)) _ _ _ rfl (rt p) (rt p) rfl rfl rfl ?_))
      go_wp2_with fail
      refine (itv_c _ _ HT.out _).mono ?_
      rintro e w4 ⟨rfl, hO_w4⟩
      have hz_w4 := hO_w4.size
      (try simp only [World.size_alloc, World.size_setCell, World.size_drew] at hz_w4)
      have t4 := t3.below hO_w4 t3.lt
      clear t3 x3
      go_wp2_with ((with_reducible refine atLoad (ty := 26) ?_); refine wpList_load_tile_g (by first | rfl | (go_simp; done) | (go_simp; omega) | (simp [Region.wanted, yielded]; omega)) 26 _ rfl _ rfl 26 _ (t4) _ Try.underlying26 rfl size26 ?_)
      refine (H1.out _).mono ?_
      rintro e w5 ⟨A5, cap5, rfl, h5, hO_w5⟩
      have hz_w5 := hO_w5.size
      have s5 := own_rs h5
      go_wp2_with fail
      refine (sameInts_c _ _ _ _ _ _ _ _ (C := w5.heap.size) (C' := w1.heap.size) (by (repeat (first | with_reducible assumption | ((with_reducible refine RS.below (by assumption) ?_ ?_) <;> try ((try simp only [World.size_alloc, World.size_setCell, World.size_drew]) <;> omega)) | ((with_reducible refine RS.alloc ?_ ?_ _) <;> try ((try simp only [World.size_alloc, World.size_setCell, World.size_drew]) <;> omega)) | ((with_reducible refine RS.setRow ?_ ?_ _) <;> try ((try simp only [World.size_alloc, World.size_setCell, World.size_drew]) <;> omega)) | ((with_reducible refine RS.setCell ?_ ?_ _) <;> try ((try simp only [World.size_alloc, World.size_setCell, World.size_drew]) <;> omega)) | ((with_reducible refine RS.setCells ?_ ?_ _ _) <;> try ((try simp only [World.size_alloc, World.size_setCell, World.size_drew]) <;> omega)) | (with_reducible apply RS.drewN) | (with_reducible apply RS.drew)))) (by (repeat (first | with_reducible assumption | ((with_reducible refine RS.below (by assumption) ?_ ?_) <;> try ((try simp only [World.size_alloc, World.size_setCell, World.size_drew]) <;> omega)) | ((with_reducible refine RS.alloc ?_ ?_ _) <;> try ((try simp only [World.size_alloc, World.size_setCell, World.size_drew]) <;> omega)) | ((with_reducible refine RS.setRow ?_ ?_ _) <;> try ((try simp only [World.size_alloc, World.size_setCell, World.size_drew]) <;> omega)) | ((with_reducible refine RS.setCell ?_ ?_ _) <;> try ((try simp only [World.size_alloc, World.size_setCell, World.size_drew]) <;> omega)) | ((with_reducible refine RS.setCells ?_ ?_ _ _) <;> try ((try simp only [World.size_alloc, World.size_setCell, World.size_drew]) <;> omega)) | (with_reducible apply RS.drewN) | (with_reducible apply RS.drew)))) (by ((try simp only [World.size_alloc, World.size_setCell, World.size_drew]) <;> omega)) (by ((try simp only [World.size_alloc, World.size_setCell, World.size_drew]) <;> omega)) (by omega) HE.out).mono ?_
      rintro e w6 ⟨rfl, hO_w6⟩
      have hz_w6 := hO_w6.size
      (try simp only [World.size_alloc, World.size_setCell, World.size_drew] at hz_w6)
      go_wp2
      go_ret
      refine ⟨rfl, ?_⟩
      (repeat (first | with_reducible exact Below.refl _ _ | ((with_reducible refine viaO (by assumption) ?_ ?_ ?_) <;> try ((try simp only [World.size_alloc, World.size_setCell, World.size_drew]) <;> omega)) | ((with_reducible refine Below.alloc ?_ ?_ _) <;> try ((try simp only [World.size_alloc, World.size_setCell, World.size_drew]) <;> omega)) | ((with_reducible refine Below.setCell ?_ ?_ _) <;> try ((try simp only [World.size_alloc, World.size_setCell, World.size_drew]) <;> omega)) | (with_reducible refine below_drewN ?_ _) | (with_reducible refine Below.drew ?_) | ((with_reducible refine via (by assumption) ?_ ?_) <;> try ((try simp only [World.size_alloc, World.size_setCell, World.size_drew]) <;> omega))))

set_option maxRecDepth 100000 in
theorem lifted (os : Os) (started : os.Started) (H : Type) (enc : TypeId × Value → H) :
    ReturnsInHanded {} Try.checked os 16 .any (Rows.fnReadTileSpec.pre6 enc Try.prog Try.f16 Rows.fnReadTileRow.domain false) (Rows.fnReadTileSpec.post enc Try.prog Try.f16 false true false false) := by
  refine returnsInHanded_of_change (C := Try.checked) own started (by kernel_rfl) Try.func16
    (ChangeSpec.witness6 (enc := enc) (C := Try.checked) false ⟨#[], #[.slice none 0 0], []⟩ 8 (by kernel_rfl) (by kernel_rfl) (by kernel_rfl) (by kernel_rfl)) ?_
  intro W base args ds gs before hval0 hW hcnd _
  have hval : ∀ (j : Nat) t v, Try.f16.params[j]? = some t → args[j]? = some v → Value.okWide Try.prog W .any base t v := hval0
  have hW' := hW
  obtain ⟨p, q, hA0, hV, rfl, hfz, hnd⟩ := hW
  have hA : DataW.TrodAll enc Try.prog W 0 (fun _ => true) true Try.f16.params.toList args.toList ds p := hA0
  rw [Try.params16] at hA hval
  obtain ⟨v0, vs0, d0, ds0, p0, q0, hargs, rfl, rfl, h0, r0⟩ := trodAll_cons hA
  obtain ⟨rfl, rfl, rfl⟩ := trodAll_nil r0
  obtain rfl : args = #[v0] := by cases args; simp_all
  obtain ⟨rfl, rfl⟩ := trodVars_none hV
  have lt0 : ∀ x ∈ p0, x.block < W.heap.size := by obtain ⟨m, hm⟩ := h0; exact DataW.trod_lt m _ _ _ hm
  have a0 := codeArg (hval 0 32 v0 rfl rfl) h0
  clear hA0 hval0
  refine (walk v0 W a0).mono fun e W' ⟨he, bel⟩ => ?_
  subst he
  exact ⟨_, rfl, _, _, _, [], _, [], hW', trodAll_mk1 (shut_bool Try.underlying4 _), (trodAll_cons_mk (Below.trod laidOut (by kernel_rfl) (of_decide_eq_true (by kernel_rfl)) h0 bel lt0) trodAll_mk0), rfl, bel.frame _, fun h => by cases h⟩

theorem proved : Rows.FnReadTileSaid :=
  OpenClaim.holds_of_wide 16 Try.f16 rfl rfl rfl rfl rfl rfl rfl ⟨rfl, rfl, rfl, rfl, rfl⟩ rfl rfl rfl rfl rfl (by kernel_rfl) Try.func16 (by kernel_rfl)
    (of_decide_eq_true (by kernel_rfl)) (by unfold Func.isWrapper; first | (rw [if_pos (by decide +kernel)]; kernel_rfl) | (rw [if_neg (by decide +kernel)]; exact ⟨rfl, rfl⟩))
    (fun os started H enc _ => lifted os started H enc)
#print axioms proved

end Go.Proofs.Ytpddgepjlpdfjaa.lawFnReadTile
