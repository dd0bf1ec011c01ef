/-
  The law FnSpriteLast holds: a further sprite at the end of the list does not change the pixels of the sprites before it; for every code. No conditions.
-/
import Derived.Test.YtpfdhodilmfmkaaOpen
import Derived.Test.YtpfdhodilmfmkaaSprLaw
import Derived.Test.YtpfdhodilmfmkaaSprDraw3
namespace Go.Proofs.Ytpfdhodilmfmkaa.lawFnSpriteLast
set_option linter.all false
set_option linter.unusedSimpArgs false
set_option linter.unusedVariables false
open Go.ChangeShapes Go.WideShapes Go.ChangeAt Go.RowKit

theorem fat_agree {s s' : Nat → Spr} (q : Nat → Nat → Int) (x y : Int) : ∀ L : List Nat, (∀ i, i ∈ L → s' i = s i) → fat s' q x y L = fat s q x y L
  | [], _ => rfl
  | i :: L, h => by
    unfold fat
    rw [h i (.head _), fat_agree q x y L (fun j hj => h j (.tail _ hj))]
theorem fat_more (s : Nat → Spr) (q : Nat → Nat → Int) (x y : Int) (k : Nat) : ∀ L : List Nat, fat s q x y L ≠ (-1, 0) → fat s q x y (L ++ [k]) = fat s q x y L
  | [], h => absurd rfl h
  | i :: L, h => by
    show (if _ then fat s q x y (L ++ [k]) else _) = (if _ then fat s q x y L else _)
    by_cases hz : spx (s i) q x y = 0
    · have e : fat s q x y (i :: L) = fat s q x y L := if_pos hz
      rw [if_pos hz, if_pos hz, fat_more s q x y k L (by rwa [e] at h)]
    · rw [if_neg hz, if_neg hz]
theorem shown_agree {n : Nat} {s s' : Nat → Spr} {y : Int} (h : ∀ i, i < n → s' i = s i) : shown n s' y = shown n s y := by
  unfold shown cvl
  congr 1
  exact List.filter_congr fun i hi => by rw [h i (List.mem_range.1 hi)]
/-- The further sprite changes nothing. -/
theorem sat_last {n m : Nat} {s s' : Nat → Spr} {q : Nat → Nat → Int} {x y : Int} (hv : (svd n m s q && inB x 0 31 && inB y 0 15) = true) (hn : n < 12) (hm : 1 ≤ m) (hs : ∀ i, i < n → s' i = s i) (hl : s' n = ⟨x, y, 0, false, false, false⟩) (hf : fat s q x y (shown n s y) ≠ (-1, 0)) :
    satV (n + 1) m s' q x y = satV n m s q x y := by
  have hv' := hv
  simp only [Bool.and_eq_true] at hv'
  obtain ⟨⟨h1, h2⟩, h3⟩ := hv'
  obtain ⟨p1, p2, p3, p4⟩ := svd_parts h1
  obtain ⟨x0, x1⟩ := inB_true.1 h2
  obtain ⟨y0, y1⟩ := inB_true.1 h3
  have hlast : sok m (s' n) = true := by
    rw [hl]
    unfold sok
    rw [inB_true.2 (show (-16 : Int) ≤ x ∧ x ≤ 64 by omega), inB_true.2 (show (-16 : Int) ≤ y ∧ y ≤ 64 by omega), inB_true.2 (show (0 : Int) ≤ 0 ∧ (0 : Int) ≤ (m : Int) - 1 by omega)]
    rfl
  have hsv : svd (n + 1) m s' q = true := by
    unfold svd
    rw [decide_eq_true (show n + 1 ≤ 12 by omega), decide_eq_true p2, p3, sov_true.2 (fun i hi => ?_)]
    · rfl
    · by_cases e : i = n
      · subst e; exact hlast
      · rw [hs i (by omega)]; exact p4 i (by omega)
  rw [satV_yes hv, satV_yes (by rw [hsv, h2, h3]; rfl), shown_succ, shown_agree hs]
  have hag : fat s' q x y (shown n s y) = fat s q x y (shown n s y) := fat_agree q x y _ fun i hi => hs i (shown_lt hi).1
  split
  · rw [fat_more s' q x y n _ (by rw [hag]; exact hf), hag]
  · exact hag

set_option maxRecDepth 100000 in
set_option maxHeartbeats 2000000 in
theorem walk (v0 : Value) (w : World) (h0 : CodeArg w v0) : Calls Try.prog 8 #[v0] w fun e w' => e = .returned (.bool true) ∧ Below w.heap.size w w' := by
  obtain ⟨a, len, cap, rfl, hcode, hl⟩ := h0
  have hm := hcode.1; unfold maxLen at hm
  by_cases hlen : 1048576 < len
  · go_enter Try.func8, Try.ntmps8
    go_wp2
    go_ret
    exact ⟨rfl, Below.refl _ _⟩
  · go_enter Try.func8, Try.ntmps8
    go_wp2_with fail
    refine (drawSpriteAt_c _ _ _ _ hcode hl).mono ?_
    rintro e w1 ⟨A, n, c, s, B, m, d, q, x, y, rfl, ⟨hA, hB, hn, hm', hn24, hm1, hm4, g, rfl⟩, hO_w1⟩
    have hz_w1 := hO_w1.size
    clear hm hcode
    obtain ⟨k, v, hkv⟩ : ∃ k v, satV n m s q x y = (k, v) := ⟨_, _, rfl⟩
    have H1 := Lib.hid (fun w h1 h2 h3 h4 => by have := isat_c (some ⟨g, 0, none⟩) n c B m d s q x y w (C := w1.heap.size) (C' := w1.heap.size) h1 h2 h3 h4 (by omega) (by omega); rw [hkv] at this; exact this)
    have H2 := Lib.hid (fun w h1 h2 h3 h4 => by have := ssat_c (some ⟨g, 0, none⟩) n c B m d s q x y w (C := w1.heap.size) (C' := w1.heap.size) h1 h2 h3 h4 (by omega) (by omega); rw [hkv] at this; exact this)
    have HKV := Lib.hid hkv
    clear hkv
    go_wp2_with fail
    refine (H1.out _ (by (repeat (first | with_reducible assumption | ((with_reducible refine RS.below (by assumption) ?_ ?_) <;> try ((try simp only [World.size_alloc, World.size_setCell, World.size_drew]) <;> omega)) | ((with_reducible refine RS.alloc ?_ ?_ _) <;> try ((try simp only [World.size_alloc, World.size_setCell, World.size_drew]) <;> omega)) | ((with_reducible refine RS.setRow ?_ ?_ _) <;> try ((try simp only [World.size_alloc, World.size_setCell, World.size_drew]) <;> omega)) | ((with_reducible refine RS.setCell ?_ ?_ _) <;> try ((try simp only [World.size_alloc, World.size_setCell, World.size_drew]) <;> omega)) | ((with_reducible refine RS.setCells ?_ ?_ _ _) <;> try ((try simp only [World.size_alloc, World.size_setCell, World.size_drew]) <;> omega)) | (with_reducible apply RS.drewN) | (with_reducible apply RS.drew)))) (by (repeat (first | with_reducible assumption | ((with_reducible refine RS.below (by assumption) ?_ ?_) <;> try ((try simp only [World.size_alloc, World.size_setCell, World.size_drew]) <;> omega)) | ((with_reducible refine RS.alloc ?_ ?_ _) <;> try ((try simp only [World.size_alloc, World.size_setCell, World.size_drew]) <;> omega)) | ((with_reducible refine RS.setRow ?_ ?_ _) <;> try ((try simp only [World.size_alloc, World.size_setCell, World.size_drew]) <;> omega)) | ((with_reducible refine RS.setCell ?_ ?_ _) <;> try ((try simp only [World.size_alloc, World.size_setCell, World.size_drew]) <;> omega)) | ((with_reducible refine RS.setCells ?_ ?_ _ _) <;> try ((try simp only [World.size_alloc, World.size_setCell, World.size_drew]) <;> omega)) | (with_reducible apply RS.drewN) | (with_reducible apply RS.drew)))) (by ((try simp only [World.size_alloc, World.size_setCell, World.size_drew]) <;> omega)) (by ((try simp only [World.size_alloc, World.size_setCell, World.size_drew]) <;> omega))).mono ?_
    rintro e w2 ⟨rfl, hO_w2⟩
    have hz_w2 := hO_w2.size
    (try simp only [World.size_alloc, World.size_setCell, World.size_drew] at hz_w2)
    go_wp2_with fail
    refine (H2.out _ (by (repeat (first | with_reducible assumption | ((with_reducible refine RS.below (by assumption) ?_ ?_) <;> try ((try simp only [World.size_alloc, World.size_setCell, World.size_drew]) <;> omega)) | ((with_reducible refine RS.alloc ?_ ?_ _) <;> try ((try simp only [World.size_alloc, World.size_setCell, World.size_drew]) <;> omega)) | ((with_reducible refine RS.setRow ?_ ?_ _) <;> try ((try simp only [World.size_alloc, World.size_setCell, World.size_drew]) <;> omega)) | ((with_reducible refine RS.setCell ?_ ?_ _) <;> try ((try simp only [World.size_alloc, World.size_setCell, World.size_drew]) <;> omega)) | ((with_reducible refine RS.setCells ?_ ?_ _ _) <;> try ((try simp only [World.size_alloc, World.size_setCell, World.size_drew]) <;> omega)) | (with_reducible apply RS.drewN) | (with_reducible apply RS.drew)))) (by (repeat (first | with_reducible assumption | ((with_reducible refine RS.below (by assumption) ?_ ?_) <;> try ((try simp only [World.size_alloc, World.size_setCell, World.size_drew]) <;> omega)) | ((with_reducible refine RS.alloc ?_ ?_ _) <;> try ((try simp only [World.size_alloc, World.size_setCell, World.size_drew]) <;> omega)) | ((with_reducible refine RS.setRow ?_ ?_ _) <;> try ((try simp only [World.size_alloc, World.size_setCell, World.size_drew]) <;> omega)) | ((with_reducible refine RS.setCell ?_ ?_ _) <;> try ((try simp only [World.size_alloc, World.size_setCell, World.size_drew]) <;> omega)) | ((with_reducible refine RS.setCells ?_ ?_ _ _) <;> try ((try simp only [World.size_alloc, World.size_setCell, World.size_drew]) <;> omega)) | (with_reducible apply RS.drewN) | (with_reducible apply RS.drew)))) (by ((try simp only [World.size_alloc, World.size_setCell, World.size_drew]) <;> omega)) (by ((try simp only [World.size_alloc, World.size_setCell, World.size_drew]) <;> omega))).mono ?_
    rintro e w3 ⟨rfl, hO_w3⟩
    have hz_w3 := hO_w3.size
    (try simp only [World.size_alloc, World.size_setCell, World.size_drew] at hz_w3)
    have hb3 : Hid (Below w.heap.size w w3) := by
      refine Lib.hid ?_
      (repeat (first | with_reducible exact Below.refl _ _ | ((with_reducible refine viaO (by assumption) ?_ ?_ ?_) <;> try ((try simp only [World.size_alloc, World.size_setCell, World.size_drew]) <;> omega)) | ((with_reducible refine Below.alloc ?_ ?_ _) <;> try ((try simp only [World.size_alloc, World.size_setCell, World.size_drew]) <;> omega)) | ((with_reducible refine Below.setCell ?_ ?_ _) <;> try ((try simp only [World.size_alloc, World.size_setCell, World.size_drew]) <;> omega)) | (with_reducible refine below_drewN ?_ _) | (with_reducible refine Below.drew ?_) | ((with_reducible refine via (by assumption) ?_ ?_) <;> try ((try simp only [World.size_alloc, World.size_setCell, World.size_drew]) <;> omega))))
    have HA := Lib.hid (RS.below hO_w3 (RS.below hO_w2 hA (Nat.le_refl _)) hz_w2)
    have HB := Lib.hid (RS.below hO_w3 (RS.below hO_w2 hB (Nat.le_refl _)) hz_w2)
    have h13 : w1.heap.size ≤ w3.heap.size := by omega
    clear H1 H2 hA hB hO_w2 hO_w3
    by_cases hk0 : k < 0
    · have hk0b : decide (k < 0) = true := decide_eq_true hk0
      go_wp2_with (go_at_call 16; refine (alive_c _).mono ?_; rintro e w' ⟨rfl, rfl⟩)
      go_ret
      exact ⟨rfl, hb3.out⟩
    · have hv : (svd n m s q && inB x 0 31 && inB y 0 15) = true := by
        cases hv : (svd n m s q && inB x 0 31 && inB y 0 15)
        · have := satV_no hv
          rw [HKV.out] at this
          injection this with h1 h2
          omega
        · rfl
      have hf : fat s q x y (shown n s y) ≠ (-1, 0) := fun e => by
        have := satV_yes hv
        rw [HKV.out, e] at this
        injection this with h1 h2
        omega
      by_cases hn12 : n = 12
      · have hn12i : (n : Int) = 12 := by omega
        subst hn12
        clear hn12i
        go_wp2_with (go_at_call 16; refine (alive_c _).mono ?_; rintro e w' ⟨rfl, rfl⟩)
        go_ret
        exact ⟨rfl, hb3.out⟩
      · have hnle : n ≤ 12 := by
          simp only [Bool.and_eq_true] at hv
          exact (svd_parts hv.1.1).1
        have hnb : ((n : Int) == 12) = false := beq_eq_false_iff_ne.2 (by omega)
        obtain ⟨S, hS⟩ : ∃ S : Nat → Spr, (fun i => if i = n then ⟨x, y, 0, false, false, false⟩ else s i) = S := ⟨_, rfl⟩
        have hSn : Hid (S n = ⟨x, y, 0, false, false, false⟩) := Lib.hid (by rw [← hS]; exact if_pos rfl)
        have hSi : ∀ i, i < n → S i = s i := fun i hi => by rw [← hS]; exact if_neg (by omega)
        have hSl : ∀ j, j < n * 6 → sc S j = sc s j := fun j hj => by
          unfold sc
          rw [hSi (j / 6) (by omega)]
        have hlast := sat_last hv (by omega) hm1 hSi hSn.out hf
        rw [HKV.out] at hlast
        have HNEW := Lib.hid (fun A5 cap5 w5 h1 h2 h3 h4 => by have := isat_c A5 (n + 1) cap5 B m d S q x y w5 (C := w5.heap.size) (C' := w1.heap.size) h1 h2 h3 h4 (by omega) (by omega); rw [hlast] at this; exact this)
        have HSL := Lib.hid hSl
        clear hSl hSi hS hlast hf hv hn12
        have HE : Hid ((w3.alloc (.cells #[] 29)).ownsRow w3.heap.size 29 6 (.slice (some ⟨w3.heap.size, 0, none⟩) 0 0) 0 ((List.range (0 * 6)).map (sc S))) := Lib.hid (own_empty w3 _ _ _ (Nat.le_refl _))
        have HC0 : Hid (∀ j, j < n * 6 → (w3.alloc (.cells #[] 29)).cell? ⟨g, 0 + j, none⟩ = some (sc S (0 * 6 + j))) := Lib.hid (fun j hj => by
          simp only [Nat.zero_mul, Nat.zero_add]
          rw [HSL.out j hj]
          have := (RS.alloc HA.out h13 (.cells #[] 29)).cells j hj
          rwa [Nat.zero_add] at this)
        go_wp2_with (first | (at_builtin; refine wpList_append_all Try.underlying23 info29 rfl (by omega) (by omega) rfl _ _ rfl w3.heap.size 0 n 0 c g 0 (some ⟨w3.heap.size, 0, none⟩) (sc S) rfl rfl HE.out HC0.out (fun j hj => by unfold sc; exact scl_one _ _) (by omega) (by simp) ?_; intro A4 cap4 w4 h4 hO_w4; have hz_w4 := hO_w4.size; simp only [World.size_alloc] at hz_w4; rw [Nat.zero_add] at h4; simp only [Nat.zero_add]; have H4 := Lib.hid h4; clear h4) | (at_builtin; refine wpList_append_el (w0 := w4) (cs := #[.int .i64 x, .int .i64 y, .int .i64 0, .bool false, .bool false, .bool false]) Try.underlying23 info29 rfl (by omega) (by omega) rfl _ _ rfl w3.heap.size n cap4 A4 (sc S) rfl rfl H4.out rfl (fun j hj => by rw [sc_at _ n j hj, hSn.out]; exact cells6 ⟨x, y, 0, false, false, false⟩ j hj) (fun j hj => scl_one' _ n j hj) (by omega) (by omega) ?_; intro A5 cap5 w5 h5 hO_w5; have hz_w5 := hO_w5.size; have s5 := own_rs h5; have hB5 := RS.below hO_w5 (RS.below hO_w4 (RS.alloc HB.out h13 _) h13) h13) | (go_at_call 31; refine (HNEW.out A5 cap5 w5 s5 hB5 (Nat.le_refl _) (by omega)).mono ?_; rintro e w6 ⟨rfl, hO_w6⟩))
        go_ret
        refine ⟨rfl, hb3.out.trans ?_⟩
        refine ((Below.refl w.heap.size w3).alloc (by omega) _).trans ((hO_w4.mono (by omega)).trans ?_)
        exact (hO_w5.mono (by omega)).trans (hO_w6.mono (by omega))

set_option maxRecDepth 100000 in
theorem lifted (os : Os) (started : os.Started) (H : Type) (enc : TypeId × Value → H) :
    ReturnsInHanded {} Try.checked os 8 .any (Rows.fnSpriteLastSpec.pre6 enc Try.prog Try.f8 Rows.fnSpriteLastRow.domain false) (Rows.fnSpriteLastSpec.post enc Try.prog Try.f8 false true false false) := by
  refine returnsInHanded_of_change (C := Try.checked) own started (by kernel_rfl) Try.func8
    (ChangeSpec.witness6 (enc := enc) (C := Try.checked) false ⟨#[], #[.slice none 0 0], []⟩ 8 (by kernel_rfl) (by kernel_rfl) (by kernel_rfl) (by kernel_rfl)) ?_
  intro W base args ds gs before hval0 hW hcnd _
  have hval : ∀ (j : Nat) t v, Try.f8.params[j]? = some t → args[j]? = some v → Value.okWide Try.prog W .any base t v := hval0
  have hW' := hW
  obtain ⟨p, q, hA0, hV, rfl, hfz, hnd⟩ := hW
  have hA : DataW.TrodAll enc Try.prog W 0 (fun _ => true) true Try.f8.params.toList args.toList ds p := hA0
  rw [Try.params8] at hA hval
  obtain ⟨v0, vs0, d0, ds0, p0, q0, hargs, rfl, rfl, h0, r0⟩ := trodAll_cons hA
  obtain ⟨rfl, rfl, rfl⟩ := trodAll_nil r0
  obtain rfl : args = #[v0] := by cases args; simp_all
  obtain ⟨rfl, rfl⟩ := trodVars_none hV
  have lt0 : ∀ x ∈ p0, x.block < W.heap.size := by obtain ⟨m, hm⟩ := h0; exact DataW.trod_lt m _ _ _ hm
  have a0 := codeArg (hval 0 22 v0 rfl rfl) h0
  clear hA0 hval0
  refine (walk v0 W a0).mono fun e W' ⟨he, bel⟩ => ?_
  subst he
  exact ⟨_, rfl, _, _, _, [], _, [], hW', trodAll_mk1 (shut_bool Try.underlying4 _), (trodAll_cons_mk (Below.trod laidOut (by kernel_rfl) (of_decide_eq_true (by kernel_rfl)) h0 bel lt0) trodAll_mk0), rfl, bel.frame _, fun h => by cases h⟩

theorem proved : Rows.FnSpriteLastSaid :=
  OpenClaim.holds_of_wide 8 Try.f8 rfl rfl rfl rfl rfl rfl rfl ⟨rfl, rfl, rfl, rfl, rfl⟩ rfl rfl rfl rfl rfl (by kernel_rfl) Try.func8 (by kernel_rfl)
    (of_decide_eq_true (by kernel_rfl)) (by unfold Func.isWrapper; first | (rw [if_pos (by decide +kernel)]; kernel_rfl) | (rw [if_neg (by decide +kernel)]; exact ⟨rfl, rfl⟩))
    (fun os started H enc _ => lifted os started H enc)
#print axioms proved

end Go.Proofs.Ytpfdhodilmfmkaa.lawFnSpriteLast
