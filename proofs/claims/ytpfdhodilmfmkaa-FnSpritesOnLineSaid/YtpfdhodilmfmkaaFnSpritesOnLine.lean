/-
  The law FnSpritesOnLine holds: lines show few sprites, in ascending order, that cover the line; for every code. No conditions.
-/
import Derived.Test.YtpfdhodilmfmkaaOpen
import Derived.Test.YtpfdhodilmfmkaaSprLaw
namespace Go.Proofs.Ytpfdhodilmfmkaa.lawFnSpritesOnLine
set_option linter.all false
set_option linter.unusedSimpArgs false
set_option linter.unusedVariables false
open Go.ChangeShapes Go.WideShapes Go.ChangeAt Go.RowKit

theorem shown_asc (n : Nat) (s : Nat → Spr) (y : Int) : (shown n s y).Pairwise (· < ·) := by
  unfold shown cvl
  exact (List.pairwise_lt_range.sublist List.filter_sublist).sublist (List.take_sublist _ _)
theorem asc_at {L : List Nat} (h : L.Pairwise (· < ·)) {k : Nat} (h1 : k + 1 < L.length) : L.getD k 0 < L.getD (k + 1) 0 := by
  have := List.pairwise_iff_getElem.1 h k (k + 1) (by omega) h1 (by omega)
  simpa [List.getD, h1, show k < L.length by omega] using this

set_option maxRecDepth 100000 in
set_option maxHeartbeats 1000000 in
theorem walk (v0 : Value) (w : World) (h0 : CodeArg w v0) : Calls Try.prog 7 #[v0] w fun e w' => e = .returned (.bool true) ∧ Below w.heap.size w w' := by
  obtain ⟨a, len, cap, rfl, hcode, hl⟩ := h0
  have hm := hcode.1; unfold maxLen at hm
  by_cases hlen : 1048576 < len
  · go_enter Try.func7, Try.ntmps7
    go_wp2
    go_ret
    exact ⟨rfl, Below.refl _ _⟩
  · go_enter Try.func7, Try.ntmps7
    go_wp2_with fail
    refine (drawSpritesOnLine_c _ _ _ _ hcode hl).mono ?_
    rintro e w1 ⟨A, n, c, s, B, m, d, q, y, rfl, ⟨hy0, hy1⟩, ⟨hA, hB, hn, hm', hn24, hm1, hm4, -⟩, hO_w1⟩
    have hz_w1 := hO_w1.size
    clear hm hcode
    obtain ⟨L, hL⟩ : ∃ L, solL n m s q y = L := ⟨_, rfl⟩
    have H1 := Lib.hid (fun w h1 h2 h3 h4 => isol_c A n c B m d s q y w (C := w1.heap.size) (C' := w1.heap.size) h1 h2 h3 h4 (by omega) (by omega))
    have H2 := Lib.hid (fun w h1 h2 h3 h4 => ssol_c A n c B m d s q y w (C := w1.heap.size) (C' := w1.heap.size) h1 h2 h3 h4 (by omega) (by omega))
    rw [hL] at H1 H2
    have hle : L.length ≤ 4 := by rw [← hL]; exact solL_le n m s q y
    have HLL := Lib.hid hL
    clear hL
    go_wp2_with fail
    refine (H1.out _ (by (repeat (first | with_reducible assumption | ((with_reducible refine RS.below (by assumption) ?_ ?_) <;> try ((try simp only [World.size_alloc, World.size_setCell, World.size_drew]) <;> omega)) | ((with_reducible refine RS.alloc ?_ ?_ _) <;> try ((try simp only [World.size_alloc, World.size_setCell, World.size_drew]) <;> omega)) | ((with_reducible refine RS.setRow ?_ ?_ _) <;> try ((try simp only [World.size_alloc, World.size_setCell, World.size_drew]) <;> omega)) | ((with_reducible refine RS.setCell ?_ ?_ _) <;> try ((try simp only [World.size_alloc, World.size_setCell, World.size_drew]) <;> omega)) | ((with_reducible refine RS.setCells ?_ ?_ _ _) <;> try ((try simp only [World.size_alloc, World.size_setCell, World.size_drew]) <;> omega)) | (with_reducible apply RS.drewN) | (with_reducible apply RS.drew)))) (by (repeat (first | with_reducible assumption | ((with_reducible refine RS.below (by assumption) ?_ ?_) <;> try ((try simp only [World.size_alloc, World.size_setCell, World.size_drew]) <;> omega)) | ((with_reducible refine RS.alloc ?_ ?_ _) <;> try ((try simp only [World.size_alloc, World.size_setCell, World.size_drew]) <;> omega)) | ((with_reducible refine RS.setRow ?_ ?_ _) <;> try ((try simp only [World.size_alloc, World.size_setCell, World.size_drew]) <;> omega)) | ((with_reducible refine RS.setCell ?_ ?_ _) <;> try ((try simp only [World.size_alloc, World.size_setCell, World.size_drew]) <;> omega)) | ((with_reducible refine RS.setCells ?_ ?_ _ _) <;> try ((try simp only [World.size_alloc, World.size_setCell, World.size_drew]) <;> omega)) | (with_reducible apply RS.drewN) | (with_reducible apply RS.drew)))) (by ((try simp only [World.size_alloc, World.size_setCell, World.size_drew]) <;> omega)) (by ((try simp only [World.size_alloc, World.size_setCell, World.size_drew]) <;> omega))).mono ?_
    rintro e w2 ⟨A2, cap2, rfl, h2, hO_w2⟩
    have hz_w2 := hO_w2.size
    (try simp only [World.size_alloc, World.size_setCell, World.size_drew] at hz_w2)
    have s2 := own_rs h2
    have l2 := own_cap h2
    go_wp2_with fail
    refine (H2.out _ (by (repeat (first | with_reducible assumption | ((with_reducible refine RS.below (by assumption) ?_ ?_) <;> try ((try simp only [World.size_alloc, World.size_setCell, World.size_drew]) <;> omega)) | ((with_reducible refine RS.alloc ?_ ?_ _) <;> try ((try simp only [World.size_alloc, World.size_setCell, World.size_drew]) <;> omega)) | ((with_reducible refine RS.setRow ?_ ?_ _) <;> try ((try simp only [World.size_alloc, World.size_setCell, World.size_drew]) <;> omega)) | ((with_reducible refine RS.setCell ?_ ?_ _) <;> try ((try simp only [World.size_alloc, World.size_setCell, World.size_drew]) <;> omega)) | ((with_reducible refine RS.setCells ?_ ?_ _ _) <;> try ((try simp only [World.size_alloc, World.size_setCell, World.size_drew]) <;> omega)) | (with_reducible apply RS.drewN) | (with_reducible apply RS.drew)))) (by (repeat (first | with_reducible assumption | ((with_reducible refine RS.below (by assumption) ?_ ?_) <;> try ((try simp only [World.size_alloc, World.size_setCell, World.size_drew]) <;> omega)) | ((with_reducible refine RS.alloc ?_ ?_ _) <;> try ((try simp only [World.size_alloc, World.size_setCell, World.size_drew]) <;> omega)) | ((with_reducible refine RS.setRow ?_ ?_ _) <;> try ((try simp only [World.size_alloc, World.size_setCell, World.size_drew]) <;> omega)) | ((with_reducible refine RS.setCell ?_ ?_ _) <;> try ((try simp only [World.size_alloc, World.size_setCell, World.size_drew]) <;> omega)) | ((with_reducible refine RS.setCells ?_ ?_ _ _) <;> try ((try simp only [World.size_alloc, World.size_setCell, World.size_drew]) <;> omega)) | (with_reducible apply RS.drewN) | (with_reducible apply RS.drew)))) (by ((try simp only [World.size_alloc, World.size_setCell, World.size_drew]) <;> omega)) (by ((try simp only [World.size_alloc, World.size_setCell, World.size_drew]) <;> omega))).mono ?_
    rintro e w3 ⟨A3, cap3, rfl, h3, hO_w3⟩
    have hz_w3 := hO_w3.size
    (try simp only [World.size_alloc, World.size_setCell, World.size_drew] at hz_w3)
    have s3 := own_rs h3
    have l3 := own_cap h3
    go_wp2_with fail
    refine (sameInts_c _ _ _ _ _ _ _ _ (C := w2.heap.size) (C' := w3.heap.size) (RS.below hO_w3 s2 (Nat.le_refl _)) s3 (by ((try simp only [World.size_alloc, World.size_setCell, World.size_drew]) <;> omega)) (by ((try simp only [World.size_alloc, World.size_setCell, World.size_drew]) <;> omega)) (by omega) (fun _ _ => rfl)).mono ?_
    rintro e w4 ⟨rfl, hO_w4⟩
    have hz_w4 := hO_w4.size
    (try simp only [World.size_alloc, World.size_setCell, World.size_drew] at hz_w4)
    have hb4 : Hid (Below w.heap.size w w4) := by
      refine Lib.hid ?_
      (repeat (first | with_reducible exact Below.refl _ _ | ((with_reducible refine viaO (by assumption) ?_ ?_ ?_) <;> try ((try simp only [World.size_alloc, World.size_setCell, World.size_drew]) <;> omega)) | ((with_reducible refine Below.alloc ?_ ?_ _) <;> try ((try simp only [World.size_alloc, World.size_setCell, World.size_drew]) <;> omega)) | ((with_reducible refine Below.setCell ?_ ?_ _) <;> try ((try simp only [World.size_alloc, World.size_setCell, World.size_drew]) <;> omega)) | (with_reducible refine below_drewN ?_ _) | (with_reducible refine Below.drew ?_) | ((with_reducible refine via (by assumption) ?_ ?_) <;> try ((try simp only [World.size_alloc, World.size_setCell, World.size_drew]) <;> omega))))
    have HA := Lib.hid (RS.below hO_w4 (RS.below hO_w3 (RS.below hO_w2 hA (Nat.le_refl _)) hz_w2) (by omega))
    have HB := Lib.hid (RS.below hO_w4 (RS.below hO_w3 (RS.below hO_w2 hB (Nat.le_refl _)) hz_w2) (by omega))
    have HS := Lib.hid (RS.below hO_w4 (RS.below hO_w3 s2 (Nat.le_refl _)) (by omega))
    have h14 : w1.heap.size ≤ w4.heap.size := by omega
    clear h2 h3 s2 s3 H1 H2 hA hB hO_w2 hO_w3 hO_w4
    by_cases hz : L.length = 0
    · have hsh : shd n m s q y ≤ 0 := by
        cases hv : (svd n m s q && inB y 0 15)
        · rw [shd_no hv]; omega
        · have hs := solL_yes hv
          rw [HLL.out] at hs
          have hlen : (shown n s y).length = min 4 (cvl n s y).length := List.length_take
          rw [← hs, hz] at hlen
          rw [shd_yes hv]; omega
      obtain ⟨v, hvv⟩ : ∃ v, shd n m s q y = v := ⟨_, rfl⟩
      rw [hvv] at hsh
      have HVV := Lib.hid hvv
      clear hvv
      rw [hz]
      go_wp2_with (first | (go_at_call 24; refine (ishd_c A n c B m d s q y w4 (C := w1.heap.size) (C' := w1.heap.size) HA.out HB.out h14 h14 (by omega) (by omega)).mono ?_; rintro e w5 ⟨rfl, hO_w5⟩; rw [HVV.out]) | (go_at_call 16; refine (alive_c _).mono ?_; rintro e w' ⟨rfl, rfl⟩))
      go_ret
      exact ⟨rfl, hb4.out.trans (hO_w5.mono (by omega))⟩
    · have hv : (svd n m s q && inB y 0 15) = true := by
        cases hv : (svd n m s q && inB y 0 15)
        · have := solL_no hv
          rw [HLL.out] at this
          exact absurd (by rw [this]; rfl) hz
        · rfl
      have hs := solL_yes hv
      rw [HLL.out] at hs
      have hlen : L.length = min 4 (cvl n s y).length := by rw [hs]; exact List.length_take
      have hasc : L.Pairwise (· < ·) := by rw [hs]; exact shown_asc n s y
      have hmem : ∀ i, i ∈ L → i < n ∧ cov (s i) y = true := fun i hi => shown_lt (by rw [← hs]; exact hi)
      have hsh : L.length < 4 → shd n m s q y = 0 := fun h => by rw [shd_yes hv]; omega
      have HSH := Lib.hid hsh
      have HM := Lib.hid hmem
      have HASC := Lib.hid hasc
      simp only [Bool.and_eq_true] at hv
      obtain ⟨p1, p2, p3, p4⟩ := svd_parts hv.1
      obtain ⟨y0, y15⟩ := inB_true.1 hv.2
      have HP := Lib.hid (fun i (hi : i < n) => (sok_parts (p4 i hi)).2.1)
      have hzb : ((L.length : Int) == 0) = false := beq_eq_false_iff_ne.2 (by omega)
      clear hv hs hlen hasc hmem hsh p3 p4
      go_wp2
      go_loopw [7] (fun i wr => ∃ k : Nat, k ≤ L.length ∧ i = .int .i64 k ∧ Below w4.heap.size w4 wr) (fun i _ => L.length - (intOf i).toNat)
      case atStart => exact ⟨0, by omega, rfl, Below.refl _ _⟩
      case round =>
        obtain ⟨k, hk, rfl, hb⟩ := hrel
        have HBR := Lib.hid hb
        have hbs := hb.size
        by_cases hlt : k < L.length
        · obtain ⟨i, hi, hd, him⟩ := drop_cons hlt
          obtain ⟨hin, hcov⟩ := HM.out i him
          obtain ⟨b2, off2, rfl, hbl2, hc2⟩ := (RS.below hb HS.out (by omega)).at_ (by omega)
          have ck := hc2 k (by omega)
          simp only [lc, iv] at ck
          rw [hi] at ck
          obtain ⟨b, off, rfl, hbl, s0, s1, s2, s3, s4, s5⟩ := (RS.below hb HA.out (by omega)).spr hin
          obtain ⟨g0, g1⟩ := HP.out i hin
          obtain ⟨d0, d7⟩ := inB_true.1 (show inB (y - (s i).y) 0 7 = true from hcov)
          have i1 : (k : Int) < (L.length : Int) := by omega
          have i2 : (i : Int) < (n : Int) := by omega
          obtain ⟨dd, hdd⟩ : ∃ dd, y - (s i).y = dd := ⟨_, rfl⟩
          have e1 : IntKind.i64.wrap (y - (s i).y) = dd := by rw [IntWalk.i64_in _ (by omega)]; exact hdd
          have x0 : ¬ dd < 0 := by omega
          have x1 : ¬ 7 < dd := by omega
          have y0 : decide (dd < 0) = false := decide_eq_false x0
          have y1 : decide (7 < dd) = false := decide_eq_false x1
          clear x0 x1
          have hbw : b2 < wr.heap.size := by omega
          clear hd him hcov d0 d7 hb
          by_cases hk0 : k = 0
          · subst hk0
            (try simp only [Nat.add_zero] at ck)
            clear hc2
            go_wp2
            refine wp_region_over (by kernel_rfl) (by kernel_rfl) ?_
            intro W3 hO_W3
            have hz_W3 := hO_W3.size
            (try simp only [World.size_alloc, World.size_setCell, World.size_drew] at hz_W3)
            have hs_W3_0 : b2 < W3.heap.size := (by omega)
            have c_W3_0 := fun o => (bcell hO_W3).1 (b2) o (by (try simp only [World.size_alloc, World.size_setCell, World.size_drew]) <;> omega)
            have f_W3_0 := fun o => (bcell hO_W3).2 (b2) o (by (try simp only [World.size_alloc, World.size_setCell, World.size_drew]) <;> omega)
            have v_W3_0 := fun x o => over_cell W3 x (b2) o hs_W3_0
            repeat (go_big_quiet_step ((fail)))
            refine wpQuiet_nil ?_
            intro W4 hx_W4
            obtain ⟨x_W4, hx_W4⟩ := hx_W4
            have hO_W4 : Below W3.heap.size W3 W4 := hx_W4 ▸ over_below W3 x_W4
            clear hx_W4
            have hz_W4 := hO_W4.size
            have hs_W4_0 : b2 < W4.heap.size := (by omega)
            have c_W4_0 := fun o => (bcell hO_W4).1 (b2) o (by (try simp only [World.size_alloc, World.size_setCell, World.size_drew]) <;> omega)
            have f_W4_0 := fun o => (bcell hO_W4).2 (b2) o (by (try simp only [World.size_alloc, World.size_setCell, World.size_drew]) <;> omega)
            go_wp2
            go_roundw
            case rel => exact ⟨1, by omega, by go_num, (HBR.out.trans (hO_W3.mono (by omega))).trans (hO_W4.mono (by omega))⟩
            case measure => simp [intOf]; omega
          · obtain ⟨k', rfl⟩ : ∃ k', k = k' + 1 := ⟨k - 1, by omega⟩
            have cp := hc2 k' (by omega)
            simp only [lc, iv] at cp
            have hasc := asc_at HASC.out hlt
            rw [hi] at hasc
            obtain ⟨j, hj⟩ : ∃ j, L.getD k' 0 = j := ⟨_, rfl⟩
            rw [hj] at hasc cp
            have ej : ¬ (i : Int) ≤ (j : Int) := by omega
            have ek : ((k' + 1 : Nat) : Int) - 1 = (k' : Int) := by omega
            have ek0 : decide (0 < (k' : Int) + 1) = true := decide_eq_true (by omega)
            have i3 : (k' : Int) < (L.length : Int) := by omega
            clear hc2 hi hj
            go_wp2
            refine wp_region_over (by kernel_rfl) (by kernel_rfl) ?_
            intro W3 hO_W3
            have hz_W3 := hO_W3.size
            (try simp only [World.size_alloc, World.size_setCell, World.size_drew] at hz_W3)
            have hs_W3_0 : b2 < W3.heap.size := (by omega)
            have c_W3_0 := fun o => (bcell hO_W3).1 (b2) o (by (try simp only [World.size_alloc, World.size_setCell, World.size_drew]) <;> omega)
            have f_W3_0 := fun o => (bcell hO_W3).2 (b2) o (by (try simp only [World.size_alloc, World.size_setCell, World.size_drew]) <;> omega)
            have v_W3_0 := fun x o => over_cell W3 x (b2) o hs_W3_0
            repeat (go_big_quiet_step ((fail)))
            refine wpQuiet_nil ?_
            intro W4 hx_W4
            obtain ⟨x_W4, hx_W4⟩ := hx_W4
            have hO_W4 : Below W3.heap.size W3 W4 := hx_W4 ▸ over_below W3 x_W4
            clear hx_W4
            have hz_W4 := hO_W4.size
            have hs_W4_0 : b2 < W4.heap.size := (by omega)
            have c_W4_0 := fun o => (bcell hO_W4).1 (b2) o (by (try simp only [World.size_alloc, World.size_setCell, World.size_drew]) <;> omega)
            have f_W4_0 := fun o => (bcell hO_W4).2 (b2) o (by (try simp only [World.size_alloc, World.size_setCell, World.size_drew]) <;> omega)
            go_wp2
            go_roundw
            case rel => exact ⟨k' + 1 + 1, by omega, by go_num, (HBR.out.trans (hO_W3.mono (by omega))).trans (hO_W4.mono (by omega))⟩
            case measure => simp [intOf]; omega
        · have hkn : k = L.length := by omega
          subst hkn
          by_cases h4 : L.length = 4
          · have h4i : (L.length : Int) = 4 := by omega
            rw [h4]
            go_wp2
            go_ret
            exact ⟨rfl, hb4.out.trans (HBR.out.mono (by omega))⟩
          · have h4b : ((L.length : Int) == 4) = false := beq_eq_false_iff_ne.2 (by omega)
            have h4l : (L.length : Int) ≤ 4 := by omega
            go_wp2_with (first | (go_at_call 24; refine (ishd_c A n c B m d s q y wr (C := w1.heap.size) (C' := w1.heap.size) (RS.below HBR.out HA.out (by omega)) (RS.below HBR.out HB.out (by omega)) (by omega) (by omega) (by omega) (by omega)).mono ?_; rintro e w5 ⟨rfl, hO_w5⟩; rw [HSH.out (by omega)]))
            go_ret
            exact ⟨rfl, hb4.out.trans ((HBR.out.mono (by omega)).trans (hO_w5.mono (by omega)))⟩

set_option maxRecDepth 100000 in
theorem lifted (os : Os) (started : os.Started) (H : Type) (enc : TypeId × Value → H) :
    ReturnsInHanded {} Try.checked os 7 .any (Rows.fnSpritesOnLineSpec.pre6 enc Try.prog Try.f7 Rows.fnSpritesOnLineRow.domain false) (Rows.fnSpritesOnLineSpec.post enc Try.prog Try.f7 false true false false) := by
  refine returnsInHanded_of_change (C := Try.checked) own started (by kernel_rfl) Try.func7
    (ChangeSpec.witness6 (enc := enc) (C := Try.checked) false ⟨#[], #[.slice none 0 0], []⟩ 8 (by kernel_rfl) (by kernel_rfl) (by kernel_rfl) (by kernel_rfl)) ?_
  intro W base args ds gs before hval0 hW hcnd _
  have hval : ∀ (j : Nat) t v, Try.f7.params[j]? = some t → args[j]? = some v → Value.okWide Try.prog W .any base t v := hval0
  have hW' := hW
  obtain ⟨p, q, hA0, hV, rfl, hfz, hnd⟩ := hW
  have hA : DataW.TrodAll enc Try.prog W 0 (fun _ => true) true Try.f7.params.toList args.toList ds p := hA0
  rw [Try.params7] at hA hval
  obtain ⟨v0, vs0, d0, ds0, p0, q0, hargs, rfl, rfl, h0, r0⟩ := trodAll_cons hA
  obtain ⟨rfl, rfl, rfl⟩ := trodAll_nil r0
  obtain rfl : args = #[v0] := by cases args; simp_all
  obtain ⟨rfl, rfl⟩ := trodVars_none hV
  have lt0 : ∀ x ∈ p0, x.block < W.heap.size := by obtain ⟨m, hm⟩ := h0; exact DataW.trod_lt m _ _ _ hm
  have a0 := codeArg (hval 0 22 v0 rfl rfl) h0
  clear hA0 hval0
  refine (walk v0 W a0).mono fun e W' ⟨he, bel⟩ => ?_
  subst he
  exact ⟨_, rfl, _, _, _, [], _, [], hW', trodAll_mk1 (shut_bool Try.underlying4 _), (trodAll_cons_mk (Below.trod laidOut (by kernel_rfl) (of_decide_eq_true (by kernel_rfl)) h0 bel lt0) trodAll_mk0), rfl, bel.frame _, fun h => by cases h⟩

theorem proved : Rows.FnSpritesOnLineSaid :=
  OpenClaim.holds_of_wide 7 Try.f7 rfl rfl rfl rfl rfl rfl rfl ⟨rfl, rfl, rfl, rfl, rfl⟩ rfl rfl rfl rfl rfl (by kernel_rfl) Try.func7 (by kernel_rfl)
    (of_decide_eq_true (by kernel_rfl)) (by unfold Func.isWrapper; first | (rw [if_pos (by decide +kernel)]; kernel_rfl) | (rw [if_neg (by decide +kernel)]; exact ⟨rfl, rfl⟩))
    (fun os started H enc _ => lifted os started H enc)
#print axioms proved

end Go.Proofs.Ytpfdhodilmfmkaa.lawFnSpritesOnLine
