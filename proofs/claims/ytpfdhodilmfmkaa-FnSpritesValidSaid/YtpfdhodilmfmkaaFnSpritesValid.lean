/-
  The law FnSpritesValid holds: a part of valid sprites is valid, with a sprite of an unknown tile they are not; for every code. No conditions.
-/
import Derived.Test.YtpfdhodilmfmkaaOpen
import Derived.Test.YtpfdhodilmfmkaaSprLaw
namespace Go.Proofs.Ytpfdhodilmfmkaa.lawFnSpritesValid
set_option linter.all false
set_option linter.unusedSimpArgs false
set_option linter.unusedVariables false
open Go.ChangeShapes Go.WideShapes Go.ChangeAt Go.RowKit

set_option maxRecDepth 100000 in
set_option maxHeartbeats 4000000 in
theorem walk (v0 : Value) (w : World) (h0 : CodeArg w v0) : Calls Try.prog 3 #[v0] w fun e w' => e = .returned (.bool true) ∧ Below w.heap.size w w' := by
  obtain ⟨a, len, cap, rfl, hcode, hl⟩ := h0
  have hm := hcode.1; unfold maxLen at hm
  by_cases hlen : 1048576 < len
  · go_enter Try.func3, Try.ntmps3
    go_wp2
    go_ret
    exact ⟨rfl, Below.refl _ _⟩
  · go_enter Try.func3, Try.ntmps3
    go_wp2_with fail
    refine (drawSpritesValid_c _ _ _ _ hcode hl).mono ?_
    rintro e w1 ⟨A, n, c, s, B, m, d, q, rfl, ⟨hA, hB, hn, hm', hn24, hm1, hm4, g, rfl⟩, hO_w1⟩
    have hz_w1 := hO_w1.size
    clear hm hcode
    obtain ⟨v, hv⟩ : ∃ v, svd n m s q = v := ⟨_, rfl⟩
    have HV := Lib.hid hv
    go_wp2_with fail
    refine (isv_c _ _ _ _ _ _ s q v HV.out _ (C := w1.heap.size) (C' := w1.heap.size) (by (repeat (first | with_reducible assumption | ((with_reducible refine RS.below (by assumption) ?_ ?_) <;> try ((try simp only [World.size_alloc, World.size_setCell, World.size_drew]) <;> omega)) | ((with_reducible refine RS.alloc ?_ ?_ _) <;> try ((try simp only [World.size_alloc, World.size_setCell, World.size_drew]) <;> omega)) | ((with_reducible refine RS.setRow ?_ ?_ _) <;> try ((try simp only [World.size_alloc, World.size_setCell, World.size_drew]) <;> omega)) | ((with_reducible refine RS.setCell ?_ ?_ _) <;> try ((try simp only [World.size_alloc, World.size_setCell, World.size_drew]) <;> omega)) | ((with_reducible refine RS.setCells ?_ ?_ _ _) <;> try ((try simp only [World.size_alloc, World.size_setCell, World.size_drew]) <;> omega)) | (with_reducible apply RS.drewN) | (with_reducible apply RS.drew)))) (by (repeat (first | with_reducible assumption | ((with_reducible refine RS.below (by assumption) ?_ ?_) <;> try ((try simp only [World.size_alloc, World.size_setCell, World.size_drew]) <;> omega)) | ((with_reducible refine RS.alloc ?_ ?_ _) <;> try ((try simp only [World.size_alloc, World.size_setCell, World.size_drew]) <;> omega)) | ((with_reducible refine RS.setRow ?_ ?_ _) <;> try ((try simp only [World.size_alloc, World.size_setCell, World.size_drew]) <;> omega)) | ((with_reducible refine RS.setCell ?_ ?_ _) <;> try ((try simp only [World.size_alloc, World.size_setCell, World.size_drew]) <;> omega)) | ((with_reducible refine RS.setCells ?_ ?_ _ _) <;> try ((try simp only [World.size_alloc, World.size_setCell, World.size_drew]) <;> omega)) | (with_reducible apply RS.drewN) | (with_reducible apply RS.drew)))) (by ((try simp only [World.size_alloc, World.size_setCell, World.size_drew]) <;> omega)) (by ((try simp only [World.size_alloc, World.size_setCell, World.size_drew]) <;> omega)) (by omega) (by omega)).mono ?_
    rintro e w2 ⟨rfl, hO_w2⟩
    have hz_w2 := hO_w2.size
    (try simp only [World.size_alloc, World.size_setCell, World.size_drew] at hz_w2)
    go_wp2_with fail
    refine (ssv_c _ _ _ _ _ _ s q v HV.out _ (C := w1.heap.size) (C' := w1.heap.size) (by (repeat (first | with_reducible assumption | ((with_reducible refine RS.below (by assumption) ?_ ?_) <;> try ((try simp only [World.size_alloc, World.size_setCell, World.size_drew]) <;> omega)) | ((with_reducible refine RS.alloc ?_ ?_ _) <;> try ((try simp only [World.size_alloc, World.size_setCell, World.size_drew]) <;> omega)) | ((with_reducible refine RS.setRow ?_ ?_ _) <;> try ((try simp only [World.size_alloc, World.size_setCell, World.size_drew]) <;> omega)) | ((with_reducible refine RS.setCell ?_ ?_ _) <;> try ((try simp only [World.size_alloc, World.size_setCell, World.size_drew]) <;> omega)) | ((with_reducible refine RS.setCells ?_ ?_ _ _) <;> try ((try simp only [World.size_alloc, World.size_setCell, World.size_drew]) <;> omega)) | (with_reducible apply RS.drewN) | (with_reducible apply RS.drew)))) (by (repeat (first | with_reducible assumption | ((with_reducible refine RS.below (by assumption) ?_ ?_) <;> try ((try simp only [World.size_alloc, World.size_setCell, World.size_drew]) <;> omega)) | ((with_reducible refine RS.alloc ?_ ?_ _) <;> try ((try simp only [World.size_alloc, World.size_setCell, World.size_drew]) <;> omega)) | ((with_reducible refine RS.setRow ?_ ?_ _) <;> try ((try simp only [World.size_alloc, World.size_setCell, World.size_drew]) <;> omega)) | ((with_reducible refine RS.setCell ?_ ?_ _) <;> try ((try simp only [World.size_alloc, World.size_setCell, World.size_drew]) <;> omega)) | ((with_reducible refine RS.setCells ?_ ?_ _ _) <;> try ((try simp only [World.size_alloc, World.size_setCell, World.size_drew]) <;> omega)) | (with_reducible apply RS.drewN) | (with_reducible apply RS.drew)))) (by ((try simp only [World.size_alloc, World.size_setCell, World.size_drew]) <;> omega)) (by ((try simp only [World.size_alloc, World.size_setCell, World.size_drew]) <;> omega)) (by omega) (by omega)).mono ?_
    rintro e w3 ⟨rfl, hO_w3⟩
    have hz_w3 := hO_w3.size
    (try simp only [World.size_alloc, World.size_setCell, World.size_drew] at hz_w3)
    have hb3 : Hid (Below w.heap.size w w3) := by
      refine Lib.hid ?_
      (repeat (first | with_reducible exact Below.refl _ _ | ((with_reducible refine viaO (by assumption) ?_ ?_ ?_) <;> try ((try simp only [World.size_alloc, World.size_setCell, World.size_drew]) <;> omega)) | ((with_reducible refine Below.alloc ?_ ?_ _) <;> try ((try simp only [World.size_alloc, World.size_setCell, World.size_drew]) <;> omega)) | ((with_reducible refine Below.setCell ?_ ?_ _) <;> try ((try simp only [World.size_alloc, World.size_setCell, World.size_drew]) <;> omega)) | (with_reducible refine below_drewN ?_ _) | (with_reducible refine Below.drew ?_) | ((with_reducible refine via (by assumption) ?_ ?_) <;> try ((try simp only [World.size_alloc, World.size_setCell, World.size_drew]) <;> omega))))
    have HA := Lib.hid (RS.below hO_w3 (RS.below hO_w2 hA (Nat.le_refl _)) hz_w2)
    have HB := Lib.hid (RS.below hO_w3 (RS.below hO_w2 hB (Nat.le_refl _)) hz_w2)
    have h13 : w1.heap.size ≤ w3.heap.size := by omega
    -- the longer list
    have hbad : svd (n + 1) m (fun i => if i = n then ⟨0, 0, m, false, false, false⟩ else s i) q = false := svd_more (s := s) (by
      show sok m (if n = n then _ else _) = false
      rw [if_pos rfl]
      unfold sok
      rw [inB_false.2 (show (m : Int) < 0 ∨ (m : Int) - 1 < (m : Int) from .inr (by omega))]
      simp)
    have HBAD := Lib.hid hbad
    clear hbad hv hA hB hO_w2 hO_w3
    obtain ⟨S, hS⟩ : ∃ S : Nat → Spr, (fun i => if i = n then ⟨0, 0, m, false, false, false⟩ else s i) = S := ⟨_, rfl⟩
    have hSn : Hid (S n = ⟨0, 0, m, false, false, false⟩) := Lib.hid (by rw [← hS]; exact if_pos rfl)
    have hSl : ∀ j, j < n * 6 → sc S j = sc s j := fun j hj => by
      unfold sc
      rw [← hS]
      show scl (if j / 6 = n then _ else s (j / 6)) _ = _
      rw [if_neg (by omega)]
    rw [hS] at HBAD
    have HSL := Lib.hid hSl
    clear hSl hS
    cases v
    · have HE : Hid ((w3.alloc (.cells #[] 29)).ownsRow w3.heap.size 29 6 (.slice (some ⟨w3.heap.size, 0, none⟩) 0 0) 0 ((List.range (0 * 6)).map (sc S))) := Lib.hid (own_empty w3 _ _ _ (Nat.le_refl _))
      have HC0 : Hid (∀ j, j < n * 6 → (w3.alloc (.cells #[] 29)).cell? ⟨g, 0 + j, none⟩ = some (sc S (0 * 6 + j))) := Lib.hid (fun j hj => by
        simp only [Nat.zero_mul, Nat.zero_add]
        rw [HSL.out j hj]
        have := (RS.alloc HA.out h13 (.cells #[] 29)).cells j hj
        rwa [Nat.zero_add] at this)
      go_wp2_with (first | ((with_reducible refine atApp ?_); refine wpList_unguard (by go_simp) ?_; refine wpList_append_all Try.underlying23 info29 rfl (by omega) (by omega) rfl _ _ rfl w3.heap.size 0 n 0 c g 0 (some ⟨w3.heap.size, 0, none⟩) (sc S) rfl rfl HE.out HC0.out (fun j hj => by unfold sc; exact scl_one _ _) (by omega) (by simp) ?_; intro A4 cap4 w4 h4 hO_w4; have hz_w4 := hO_w4.size; simp only [World.size_alloc] at hz_w4; rw [Nat.zero_add] at h4; simp only [Nat.zero_add]; have H4 := Lib.hid h4; clear h4) | ((with_reducible refine atApp ?_); refine wpList_unguard (by go_simp) ?_; refine wpList_append_el (w0 := w4) (cs := #[.int .i64 0, .int .i64 0, .int .i64 m, .bool false, .bool false, .bool false]) Try.underlying23 info29 rfl (by omega) (by omega) rfl _ _ rfl w3.heap.size n cap4 A4 (sc S) rfl rfl H4.out rfl (fun j hj => by rw [sc_at _ n j hj, hSn.out]; exact cells6 ⟨0, 0, m, false, false, false⟩ j hj) (fun j hj => scl_one' _ n j hj) (by omega) (by omega) ?_; intro A5 cap5 w5 h5 hO_w5; have hz_w5 := hO_w5.size; have s5 := own_rs h5; have hB5 := RS.below hO_w5 (RS.below hO_w4 (RS.alloc HB.out h13 _) h13) h13) | (go_at_call 14; refine (isv_c A5 (n + 1) cap5 B m d S q false HBAD.out w5 (C := w5.heap.size) (C' := w1.heap.size) s5 hB5 (Nat.le_refl _) (by omega) (by omega) (by omega)).mono ?_; rintro e w6 ⟨rfl, hO_w6⟩) | (go_at_call 16; refine (alive_c _).mono ?_; rintro e w' ⟨rfl, rfl⟩))
      go_ret
      refine ⟨rfl, hb3.out.trans ?_⟩
      refine ((Below.refl w.heap.size w3).alloc (by omega) _).trans ((hO_w4.mono (by omega)).trans ?_)
      exact (hO_w5.mono (by omega)).trans (hO_w6.mono (by omega))
    · have HHALF := Lib.hid (svd_part (k := n / 2) HV.out (by omega))
      go_wp2_with fail
      refine (isv_c _ (n / 2) _ B m d s q true HHALF.out w3 (C := w1.heap.size) (C' := w1.heap.size) (HA.out.take (by omega)) HB.out h13 h13 (by omega) (by omega)).mono ?_
      rintro e w7 ⟨rfl, hO_w7⟩
      have hz_w7 := hO_w7.size
      have HA7 := Lib.hid (RS.below hO_w7 HA.out h13)
      have HB7 := Lib.hid (RS.below hO_w7 HB.out h13)
      have h17 : w1.heap.size ≤ w7.heap.size := by omega
      have HE : Hid ((w7.alloc (.cells #[] 29)).ownsRow w7.heap.size 29 6 (.slice (some ⟨w7.heap.size, 0, none⟩) 0 0) 0 ((List.range (0 * 6)).map (sc S))) := Lib.hid (own_empty w7 _ _ _ (Nat.le_refl _))
      have HC0 : Hid (∀ j, j < n * 6 → (w7.alloc (.cells #[] 29)).cell? ⟨g, 0 + j, none⟩ = some (sc S (0 * 6 + j))) := Lib.hid (fun j hj => by
        simp only [Nat.zero_mul, Nat.zero_add]
        rw [HSL.out j hj]
        have := (RS.alloc HA7.out h17 (.cells #[] 29)).cells j hj
        rwa [Nat.zero_add] at this)
      go_wp2_with (first | ((with_reducible refine atApp ?_); refine wpList_unguard (by go_simp) ?_; refine wpList_append_all Try.underlying23 info29 rfl (by omega) (by omega) rfl _ _ rfl w7.heap.size 0 n 0 c g 0 (some ⟨w7.heap.size, 0, none⟩) (sc S) rfl rfl HE.out HC0.out (fun j hj => by unfold sc; exact scl_one _ _) (by omega) (by simp) ?_; intro A4 cap4 w4 h4 hO_w4; have hz_w4 := hO_w4.size; simp only [World.size_alloc] at hz_w4; rw [Nat.zero_add] at h4; simp only [Nat.zero_add]; have H4 := Lib.hid h4; clear h4) | ((with_reducible refine atApp ?_); refine wpList_unguard (by go_simp) ?_; refine wpList_append_el (w0 := w4) (cs := #[.int .i64 0, .int .i64 0, .int .i64 m, .bool false, .bool false, .bool false]) Try.underlying23 info29 rfl (by omega) (by omega) rfl _ _ rfl w7.heap.size n cap4 A4 (sc S) rfl rfl H4.out rfl (fun j hj => by rw [sc_at _ n j hj, hSn.out]; exact cells6 ⟨0, 0, m, false, false, false⟩ j hj) (fun j hj => scl_one' _ n j hj) (by omega) (by omega) ?_; intro A5 cap5 w5 h5 hO_w5; have hz_w5 := hO_w5.size; have s5 := own_rs h5; have hB5 := RS.below hO_w5 (RS.below hO_w4 (RS.alloc HB7.out h17 _) h17) h17) | (go_at_call 14; refine (isv_c A5 (n + 1) cap5 B m d S q false HBAD.out w5 (C := w5.heap.size) (C' := w1.heap.size) s5 hB5 (Nat.le_refl _) (by omega) (by omega) (by omega)).mono ?_; rintro e w6 ⟨rfl, hO_w6⟩) | (go_at_call 16; refine (alive_c _).mono ?_; rintro e w' ⟨rfl, rfl⟩))
      go_ret
      refine ⟨rfl, (hb3.out.trans (hO_w7.mono (by omega))).trans ?_⟩
      refine ((Below.refl w.heap.size w7).alloc (by omega) _).trans ((hO_w4.mono (by omega)).trans ?_)
      exact (hO_w5.mono (by omega)).trans (hO_w6.mono (by omega))

set_option maxRecDepth 100000 in
theorem lifted (os : Os) (started : os.Started) (H : Type) (enc : TypeId × Value → H) :
    ReturnsInHanded {} Try.checked os 3 .any (Rows.fnSpritesValidSpec.pre6 enc Try.prog Try.f3 Rows.fnSpritesValidRow.domain false) (Rows.fnSpritesValidSpec.post enc Try.prog Try.f3 false true false false) := by
  refine returnsInHanded_of_change (C := Try.checked) own started (by kernel_rfl) Try.func3
    (ChangeSpec.witness6 (enc := enc) (C := Try.checked) false ⟨#[], #[.slice none 0 0], []⟩ 8 (by kernel_rfl) (by kernel_rfl) (by kernel_rfl) (by kernel_rfl)) ?_
  intro W base args ds gs before hval0 hW hcnd _
  have hval : ∀ (j : Nat) t v, Try.f3.params[j]? = some t → args[j]? = some v → Value.okWide Try.prog W .any base t v := hval0
  have hW' := hW
  obtain ⟨p, q, hA0, hV, rfl, hfz, hnd⟩ := hW
  have hA : DataW.TrodAll enc Try.prog W 0 (fun _ => true) true Try.f3.params.toList args.toList ds p := hA0
  rw [Try.params3] at hA hval
  obtain ⟨v0, vs0, d0, ds0, p0, q0, hargs, rfl, rfl, h0, r0⟩ := trodAll_cons hA
  obtain ⟨rfl, rfl, rfl⟩ := trodAll_nil r0
  obtain rfl : args = #[v0] := by cases args; simp_all
  obtain ⟨rfl, rfl⟩ := trodVars_none hV
  have lt0 : ∀ x ∈ p0, x.block < W.heap.size := by obtain ⟨m, hm⟩ := h0; exact DataW.trod_lt m _ _ _ hm
  have a0 := codeArg (hval 0 22 v0 rfl rfl) h0
  clear hA0 hval0
  refine (walk v0 W a0).mono fun e W' ⟨he, bel⟩ => ?_
  subst he
  exact ⟨_, rfl, _, _, _, [], _, [], hW', trodAll_mk1 (shut_bool Try.underlying4 _), (trodAll_cons_mk (Below.trod laidOut (by kernel_rfl) (of_decide_eq_true (by kernel_rfl)) h0 bel lt0) trodAll_mk0), rfl, bel.frame _, fun h => by cases h⟩

theorem proved : Rows.FnSpritesValidSaid :=
  OpenClaim.holds_of_wide 3 Try.f3 rfl rfl rfl rfl rfl rfl rfl ⟨rfl, rfl, rfl, rfl, rfl⟩ rfl rfl rfl rfl rfl (by kernel_rfl) Try.func3 (by kernel_rfl)
    (of_decide_eq_true (by kernel_rfl)) (by unfold Func.isWrapper; first | (rw [if_pos (by decide +kernel)]; kernel_rfl) | (rw [if_neg (by decide +kernel)]; exact ⟨rfl, rfl⟩))
    (fun os started H enc _ => lifted os started H enc)
#print axioms proved

end Go.Proofs.Ytpfdhodilmfmkaa.lawFnSpritesValid
