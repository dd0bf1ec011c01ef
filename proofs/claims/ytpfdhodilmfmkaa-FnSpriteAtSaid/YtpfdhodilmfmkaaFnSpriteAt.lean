/-
  The law FnSpriteAt holds: the first sprite is in front; for every code. No conditions.
-/
import Derived.Test.YtpfdhodilmfmkaaOpen
import Derived.Test.YtpfdhodilmfmkaaSprLaw
import Derived.Test.YtpfdhodilmfmkaaSprDraw3
import Derived.Test.YtpfdhodilmfmkaaOver
namespace Go.Proofs.Ytpfdhodilmfmkaa.lawFnSpriteAt
set_option linter.all false
set_option linter.unusedSimpArgs false
set_option linter.unusedVariables false
open Go.ChangeShapes Go.WideShapes Go.ChangeAt Go.RowKit

/-- A sprite alone. -/
theorem sat_one {n m : Nat} {s : Nat → Spr} {q : Nat → Nat → Int} {x y : Int} (hv : (svd n m s q && inB x 0 31 && inB y 0 15) = true) {i : Nat} (hi : i < n) (hc : cov (s i) y = true) :
    satV 1 m (fun _ => s i) q x y = if spx (s i) q x y = 0 then (-1, 0) else (0, spx (s i) q x y) := by
  have hv' := hv
  simp only [Bool.and_eq_true] at hv'
  obtain ⟨⟨h1, h2⟩, h3⟩ := hv'
  obtain ⟨p1, p2, p3, p4⟩ := svd_parts h1
  have hsv : svd 1 m (fun _ => s i) q = true := by
    unfold svd
    rw [decide_eq_true (show 1 ≤ 12 by omega), decide_eq_true p2, p3, sov_true.2 (fun j hj => p4 i hi)]
    rfl
  rw [satV_yes (by rw [hsv, h2, h3]; rfl)]
  have hsh : shown 1 (fun _ => s i) y = [0] := by
    unfold shown cvl
    simp [hc]
  rw [hsh]
  rfl
theorem spx_bounds {n m : Nat} {s : Nat → Spr} {q : Nat → Nat → Int} {x y : Int} (h : svd n m s q = true) {i : Nat} (hi : i < n) : 0 ≤ spx (s i) q x y ∧ spx (s i) q x y ≤ 3 := by
  obtain ⟨p1, p2, p3, p4⟩ := svd_parts h
  obtain ⟨_, _, c0, c1⟩ := sok_parts (p4 i hi)
  cases hb : (inB (x - (s i).x) 0 7 && inB (y - (s i).y) 0 7)
  · rw [spx_no hb]; omega
  · unfold spx
    rw [hb, if_pos rfl]
    simp only [Bool.and_eq_true] at hb
    have h1 := inB_true.1 hb.1
    have h2 := inB_true.1 hb.2
    have h7 : ∀ (b : Bool) (c : Nat), c ≤ 7 → turn7 b c ≤ 7 := fun b c h => by unfold turn7; split <;> omega
    have g1 := h7 (s i).ac (x - (s i).x).toNat (by omega)
    have g2 := h7 (s i).dn (y - (s i).y).toNat (by omega)
    exact inB_true.1 (tvd_true.1 (tsv_true.1 p3 _ (by omega)) _ (by omega))

set_option maxRecDepth 100000 in
set_option maxHeartbeats 2000000 in
theorem walk (v0 : Value) (w : World) (h0 : CodeArg w v0) : Calls Try.prog 9 #[v0] w fun e w' => e = .returned (.bool true) ∧ Below w.heap.size w w' := by
  obtain ⟨a, len, cap, rfl, hcode, hl⟩ := h0
  have hm := hcode.1; unfold maxLen at hm
  by_cases hlen : 1048576 < len
  · go_enter Try.func9, Try.ntmps9
    go_wp2
    go_ret
    exact ⟨rfl, Below.refl _ _⟩
  · go_enter Try.func9, Try.ntmps9
    go_wp2_with fail
    refine (drawSpriteAt_c _ _ _ _ hcode hl).mono ?_
    rintro e w1 ⟨A, n, c, s, B, m, d, q, x, y, rfl, ⟨hA, hB, hn, hm', hn24, hm1, hm4, g, rfl⟩, hO_w1⟩
    have hz_w1 := hO_w1.size
    clear hm hcode
    obtain ⟨k, v, hkv⟩ : ∃ k v, satV n m s q x y = (k, v) := ⟨_, _, rfl⟩
    have H1 := Lib.hid (fun w h1 h2 h3 h4 => by have := isat_c (some ⟨g, 0, none⟩) n c B m d s q x y w (C := w1.heap.size) (C' := w1.heap.size) h1 h2 h3 h4 (by omega) (by omega); rw [hkv] at this; exact this)
    have H2 := Lib.hid (fun w h1 h2 h3 h4 => by have := ssat_c (some ⟨g, 0, none⟩) n c B m d s q x y w (C := w1.heap.size) (C' := w1.heap.size) h1 h2 h3 h4 (by omega) (by omega); rw [hkv] at this; exact this)
    have HKV := Lib.hid hkv
    clear hkv
    go_wp2_with fail
    refine (H1.out _ (by (repeat (first | with_reducible assumption | ((with_reducible refine RS.below (by assumption) ?_ ?_) <;> try ((try simp only [World.size_alloc, World.size_setCell, World.size_drew]) <;> omega)) | ((with_reducible refine RS.alloc ?_ ?_ _) <;> try ((try simp only [World.size_alloc, World.size_setCell, World.size_drew]) <;> omega)) | ((with_reducible refine RS.setRow ?_ ?_ _) <;> try ((try simp only [World.size_alloc, World.size_setCell, World.size_drew]) <;> omega)) | ((with_reducible refine RS.setCell ?_ ?_ _) <;> try ((try simp only [World.size_alloc, World.size_setCell, World.size_drew]) <;> omega)) | ((with_reducible refine RS.setCells ?_ ?_ _ _) <;> try ((try simp only [World.size_alloc, World.size_setCell, World.size_drew]) <;> omega)) | (with_reducible apply RS.drewN) | (with_reducible apply RS.drew)))) (by (repeat (first | with_reducible assumption | ((with_reducible refine RS.below (by assumption) ?_ ?_) <;> try ((try simp only [World.size_alloc, World.size_setCell, World.size_drew]) <;> omega)) | ((with_reducible refine RS.alloc ?_ ?_ _) <;> try ((try simp only [World.size_alloc, World.size_setCell, World.size_drew]) <;> omega)) | ((with_reducible refine RS.setRow ?_ ?_ _) <;> try ((try simp only [World.size_alloc, World.size_setCell, World.size_drew]) <;> omega)) | ((with_reducible refine RS.setCell ?_ ?_ _) <;> try ((try simp only [World.size_alloc, World.size_setCell, World.size_drew]) <;> omega)) | ((with_reducible refine RS.setCells ?_ ?_ _ _) <;> try ((try simp only [World.size_alloc, World.size_setCell, World.size_drew]) <;> omega)) | (with_reducible apply RS.drewN) | (with_reducible apply RS.drew)))) (by ((try simp only [World.size_alloc, World.size_setCell, World.size_drew]) <;> omega)) (by ((try simp only [World.size_alloc, World.size_setCell, World.size_drew]) <;> omega))).mono ?_
    rintro e w2 ⟨rfl, hO_w2⟩
    have hz_w2 := hO_w2.size
    (try simp only [World.size_alloc, World.size_setCell, World.size_drew] at hz_w2)
    go_wp2_with fail
    refine (H2.out _ (by (repeat (first | with_reducible assumption | ((with_reducible refine RS.below (by assumption) ?_ ?_) <;> try ((try simp only [World.size_alloc, World.size_setCell, World.size_drew]) <;> omega)) | ((with_reducible refine RS.alloc ?_ ?_ _) <;> try ((try simp only [World.size_alloc, World.size_setCell, World.size_drew]) <;> omega)) | ((with_reducible refine RS.setRow ?_ ?_ _) <;> try ((try simp only [World.size_alloc, World.size_setCell, World.size_drew]) <;> omega)) | ((with_reducible refine RS.setCell ?_ ?_ _) <;> try ((try simp only [World.size_alloc, World.size_setCell, World.size_drew]) <;> omega)) | ((with_reducible refine RS.setCells ?_ ?_ _ _) <;> try ((try simp only [World.size_alloc, World.size_setCell, World.size_drew]) <;> omega)) | (with_reducible apply RS.drewN) | (with_reducible apply RS.drew)))) (by (repeat (first | with_reducible assumption | ((with_reducible refine RS.below (by assumption) ?_ ?_) <;> try ((try simp only [World.size_alloc, World.size_setCell, World.size_drew]) <;> omega)) | ((with_reducible refine RS.alloc ?_ ?_ _) <;> try ((try simp only [World.size_alloc, World.size_setCell, World.size_drew]) <;> omega)) | ((with_reducible refine RS.setRow ?_ ?_ _) <;> try ((try simp only [World.size_alloc, World.size_setCell, World.size_drew]) <;> omega)) | ((with_reducible refine RS.setCell ?_ ?_ _) <;> try ((try simp only [World.size_alloc, World.size_setCell, World.size_drew]) <;> omega)) | ((with_reducible refine RS.setCells ?_ ?_ _ _) <;> try ((try simp only [World.size_alloc, World.size_setCell, World.size_drew]) <;> omega)) | (with_reducible apply RS.drewN) | (with_reducible apply RS.drew)))) (by ((try simp only [World.size_alloc, World.size_setCell, World.size_drew]) <;> omega)) (by ((try simp only [World.size_alloc, World.size_setCell, World.size_drew]) <;> omega))).mono ?_
    rintro e w3 ⟨rfl, hO_w3⟩
    have hz_w3 := hO_w3.size
    (try simp only [World.size_alloc, World.size_setCell, World.size_drew] at hz_w3)
    have hb3 : Hid (Below w.heap.size w w3) := by
      refine Lib.hid ?_
      (repeat (first | with_reducible exact Below.refl _ _ | ((with_reducible refine viaO (by assumption) ?_ ?_ ?_) <;> try ((try simp only [World.size_alloc, World.size_setCell, World.size_drew]) <;> omega)) | ((with_reducible refine Below.alloc ?_ ?_ _) <;> try ((try simp only [World.size_alloc, World.size_setCell, World.size_drew]) <;> omega)) | ((with_reducible refine Below.setCell ?_ ?_ _) <;> try ((try simp only [World.size_alloc, World.size_setCell, World.size_drew]) <;> omega)) | (with_reducible refine below_drewN ?_ _) | (with_reducible refine Below.drew ?_) | ((with_reducible refine via (by assumption) ?_ ?_) <;> try ((try simp only [World.size_alloc, World.size_setCell, World.size_drew]) <;> omega))))
    have HA := Lib.hid (RS.below hO_w3 (RS.below hO_w2 hA (Nat.le_refl _)) hz_w2)
    have HB := Lib.hid (RS.below hO_w3 (RS.below hO_w2 hB (Nat.le_refl _)) hz_w2)
    have h13 : w1.heap.size ≤ w3.heap.size := by omega
    clear H1 H2 hA hB hO_w2 hO_w3
    cases hv : (svd n m s q && inB x 0 31 && inB y 0 15)
    · have hno := satV_no hv
      rw [HKV.out] at hno
      injection hno with hk hv0
      subst hk hv0
      clear hv
      go_wp2_with (go_at_call 16; refine (alive_c _).mono ?_; rintro e w' ⟨rfl, rfl⟩)
      go_ret
      exact ⟨rfl, hb3.out⟩
    · have hyes := satV_yes hv
      rw [HKV.out] at hyes
      rcases fat_cases s q x y (shown n s y) with hf | ⟨i0, hi0, hf, hz0⟩
      · rw [hf] at hyes
        injection hyes with hk hv0
        subst hk hv0
        clear hv hf
        go_wp2_with (go_at_call 16; refine (alive_c _).mono ?_; rintro e w' ⟨rfl, rfl⟩)
        go_ret
        exact ⟨rfl, hb3.out⟩
      · have hkv2 : (k, v) = ((i0 : Int), spx (s i0) q x y) := hyes.trans hf
        injection hkv2 with hk hv0
        have HV := Lib.hid hv
        simp only [Bool.and_eq_true] at hv
        have hsol : solL n m s q y = shown n s y := solL_yes (by rw [hv.1.1, hv.2]; rfl)
        have hb := spx_bounds (x := x) (y := y) hv.1.1 (shown_lt hi0).1
        have HZ0 := Lib.hid hz0
        rw [← hv0] at hb hz0
        have hnle : n ≤ 12 := (svd_parts hv.1.1).1
        have b1 : (1 : Int) ≤ v := by omega
        have b3 : v ≤ 3 := hb.2
        have HV0 := Lib.hid hv0
        have HF := Lib.hid hf
        obtain ⟨L, hL⟩ : ∃ L, shown n s y = L := ⟨_, rfl⟩
        have hmem : ∀ i, i ∈ L → i < n ∧ cov (s i) y = true := fun i hi => shown_lt (by rw [hL]; exact hi)
        have HM := Lib.hid hmem
        have hle : L.length ≤ 4 := by rw [← hL]; exact shown_le n s y
        have HON := Lib.hid (fun w h1 h2 h3 h4 => by have := isol_c (some ⟨g, 0, none⟩) n c B m d s q y w (C := w1.heap.size) (C' := w1.heap.size) h1 h2 h3 h4 (by omega) (by omega); rw [hsol, hL] at this; exact this)
        rw [hL] at HF
        subst hk
        have k0 : ¬ (i0 : Int) < 0 := by omega
        clear hv hyes hf hz0 hb hsol hL hmem hi0 hv0
        go_wp2_with fail
        refine (HON.out w3 HA.out HB.out h13 h13).mono ?_
        rintro e w4 ⟨A4, cap4, rfl, h4, hO_w4⟩
        have s4 := Lib.hid (own_rs h4)
        have hz_w4 := hO_w4.size
        have HA4 := Lib.hid (RS.below hO_w4 HA.out h13)
        have HB4 := Lib.hid (RS.below hO_w4 HB.out h13)
        have hb4 := Lib.hid (hb3.out.trans (hO_w4.mono (by omega)))
        clear h4 hO_w4
        go_wp2
        go_loopw [12, 13] (fun u i wr => ∃ j : Nat, j ≤ L.length ∧ i = .int .i64 j ∧ ((u = .bool false ∧ Hid (fat s q x y (L.drop j) = ((i0 : Int), v))) ∨ u = .bool true) ∧ Below w4.heap.size w4 wr) (fun _ i _ => L.length - (intOf i).toNat)
        case atStart => exact ⟨0, by omega, rfl, .inl ⟨rfl, Lib.hid (by rw [List.drop_zero, HF.out, HV0.out])⟩, Below.refl _ _⟩
        case round =>
          obtain ⟨j, hj, rfl, hu, hb⟩ := hrel
          have HBR := Lib.hid hb
          have hbs := hb.size
          rcases hu with ⟨rfl, hfd⟩ | rfl
          · have hlt : j < L.length := by
              rcases Nat.lt_or_ge j L.length with h | h
              · exact h
              · have := hfd.out
                rw [List.drop_of_length_le h] at this
                injection this with h1 h2
                omega
            obtain ⟨i, hi, hd, him⟩ := drop_cons hlt
            obtain ⟨hin, hcov⟩ := HM.out i him
            obtain ⟨b2, off2, rfl, hbl2, hc2⟩ := (RS.below hb s4.out (Nat.le_refl _)).at_ (by omega)
            have ck := hc2 j (by omega)
            simp only [lc, iv] at ck
            rw [hi] at ck
            have hone := sat_one HV.out hin hcov
            have hcells := (RS.below hb HA4.out (by omega)).cells
            have hgl : g < w1.heap.size := by
              rcases (RS.below hb HA4.out (by omega)) with h | ⟨b, off, e, hbb, _⟩
              · omega
              · injection e with e; injection e with e1 e2; subst e1; exact hbb
            have HSUB : Hid (RS wr w1.heap.size 6 (some ⟨g, i * 6, none⟩) 1 (sc fun _ => s i)) := Lib.hid (.inr ⟨g, i * 6, rfl, hgl, fun t ht => by
              have := hcells (i * 6 + t) (by omega)
              rw [Nat.zero_add, sc_at s i t (by omega)] at this
              rw [this]
              unfold sc
              rw [show t % 6 = t by omega]⟩)
            have hTB := Lib.hid (RS.below hb HB4.out (by omega))
            have HFD := Lib.hid (show (if spx (s i) q x y = 0 then fat s q x y (L.drop (j + 1)) else ((i : Int), spx (s i) q x y)) = ((i0 : Int), v) by rw [← hfd.out, hd]; rfl)
            have i1 : (j : Int) < (L.length : Int) := by omega
            have i2 : (i : Int) + 1 ≤ (c : Int) := by omega
            have i3 : (i : Int) ≤ (i : Int) + 1 := by omega
            have i4 : ¬ c = i := by omega
            have e1 : IntKind.i64.wrap ((i : Int) + 1) = (i : Int) + 1 := IntWalk.i64_in _ (by omega)
            have hbw : b2 < wr.heap.size := by omega
            have h1r : w1.heap.size ≤ wr.heap.size := by omega
            clear hc2 hd him hcov hcells hb hfd hi
            by_cases hz : spx (s i) q x y = 0
            · rw [if_pos hz] at hone
              have hrest := HFD.out
              rw [if_pos hz] at hrest
              have hne : i ≠ i0 := by
                rintro rfl
                exact HZ0.out hz
              have hneb : ((i : Int) == (i0 : Int)) = false := beq_eq_false_iff_ne.2 (by omega)
              have HCALL := Lib.hid (fun u (hu : Below wr.heap.size wr u) => by have := isat_c (some ⟨g, i * 6, none⟩) 1 (c - i) B m d (fun _ => s i) q x y u (C := w1.heap.size) (C' := w1.heap.size) (RS.below hu HSUB.out h1r) (RS.below hu hTB.out h1r) (by have := hu.size; omega) (by have := hu.size; omega) (by omega) (by omega); rw [hone] at this; exact this)
              have HR := Lib.hid hrest
              clear hz hrest hone hne
              go_wp2
              refine wp_region_over (by kernel_rfl) (by kernel_rfl) ?_
              intro W3 hO_W3
              have hz_W3 := hO_W3.size
              (try simp only [World.size_alloc, World.size_setCell, World.size_drew] at hz_W3)
              have hs_W3_0 : b2 < W3.heap.size := (by omega)
              have c_W3_0 := fun o => (bcell hO_W3).1 (b2) o (by (try simp only [World.size_alloc, World.size_setCell, World.size_drew]) <;> omega)
              have f_W3_0 := fun o => (bcell hO_W3).2 (b2) o (by (try simp only [World.size_alloc, World.size_setCell, World.size_drew]) <;> omega)
              have v_W3_0 := fun x o => over_cell W3 x (b2) o hs_W3_0
              repeat (go_big_quiet_step ((go_at_call 31; refine Calls.over_of (HCALL.out _ (hO_W3.trans ((over_below W3 _).mono (by omega)))))))
              refine wpQuiet_nil ?_
              intro W4 hx_W4
              obtain ⟨x_W4, hx_W4⟩ := hx_W4
              have hO_W4 : Below W3.heap.size W3 W4 := hx_W4 ▸ over_below W3 x_W4
              clear hx_W4
              have hz_W4 := hO_W4.size
              have hs_W4_0 : b2 < W4.heap.size := (by omega)
              have c_W4_0 := fun o => (bcell hO_W4).1 (b2) o (by (try simp only [World.size_alloc, World.size_setCell, World.size_drew]) <;> omega)
              have f_W4_0 := fun o => (bcell hO_W4).2 (b2) o (by (try simp only [World.size_alloc, World.size_setCell, World.size_drew]) <;> omega)
              go_wp2
              go_roundw
              case rel => exact ⟨j + 1, by omega, by go_num, .inl ⟨rfl, HR⟩, (HBR.out.trans (hO_W3.mono (by omega))).trans (hO_W4.mono (by omega))⟩
              case measure => simp [intOf]; omega
            · rw [if_neg hz] at hone
              have hrest := HFD.out
              rw [if_neg hz] at hrest
              injection hrest with r1 r2
              obtain rfl : i = i0 := by omega
              have HCALL := Lib.hid (fun u (hu : Below wr.heap.size wr u) => by have := isat_c (some ⟨g, i * 6, none⟩) 1 (c - i) B m d (fun _ => s i) q x y u (C := w1.heap.size) (C' := w1.heap.size) (RS.below hu HSUB.out h1r) (RS.below hu hTB.out h1r) (by have := hu.size; omega) (by have := hu.size; omega) (by omega) (by omega); rw [hone] at this; exact this)
              clear hz hone r1 r2
              go_wp2
              refine wp_region_over (by kernel_rfl) (by kernel_rfl) ?_
              intro W3 hO_W3
              have hz_W3 := hO_W3.size
              (try simp only [World.size_alloc, World.size_setCell, World.size_drew] at hz_W3)
              have hs_W3_0 : b2 < W3.heap.size := (by omega)
              have c_W3_0 := fun o => (bcell hO_W3).1 (b2) o (by (try simp only [World.size_alloc, World.size_setCell, World.size_drew]) <;> omega)
              have f_W3_0 := fun o => (bcell hO_W3).2 (b2) o (by (try simp only [World.size_alloc, World.size_setCell, World.size_drew]) <;> omega)
              have v_W3_0 := fun x o => over_cell W3 x (b2) o hs_W3_0
              repeat (go_big_quiet_step ((go_at_call 31; refine Calls.over_of (HCALL.out _ (hO_W3.trans ((over_below W3 _).mono (by omega)))))))
              refine wpQuiet_nil ?_
              intro W4 hx_W4
              obtain ⟨x_W4, hx_W4⟩ := hx_W4
              have hO_W4 : Below W3.heap.size W3 W4 := hx_W4 ▸ over_below W3 x_W4
              clear hx_W4
              have hz_W4 := hO_W4.size
              have hs_W4_0 : b2 < W4.heap.size := (by omega)
              have c_W4_0 := fun o => (bcell hO_W4).1 (b2) o (by (try simp only [World.size_alloc, World.size_setCell, World.size_drew]) <;> omega)
              have f_W4_0 := fun o => (bcell hO_W4).2 (b2) o (by (try simp only [World.size_alloc, World.size_setCell, World.size_drew]) <;> omega)
              go_wp2
              go_roundw
              case rel => exact ⟨j + 1, by omega, by go_num, .inr rfl, (HBR.out.trans (hO_W3.mono (by omega))).trans (hO_W4.mono (by omega))⟩
              case measure => simp [intOf]; omega
          · clear hb
            by_cases hjl : (j : Int) < (L.length : Int)
            · go_wp2
              go_ret
              exact ⟨rfl, hb4.out.trans (HBR.out.mono (by omega))⟩
            · go_wp2
              go_ret
              exact ⟨rfl, hb4.out.trans (HBR.out.mono (by omega))⟩

set_option maxRecDepth 100000 in
theorem lifted (os : Os) (started : os.Started) (H : Type) (enc : TypeId × Value → H) :
    ReturnsInHanded {} Try.checked os 9 .any (Rows.fnSpriteAtSpec.pre6 enc Try.prog Try.f9 Rows.fnSpriteAtRow.domain false) (Rows.fnSpriteAtSpec.post enc Try.prog Try.f9 false true false false) := by
  refine returnsInHanded_of_change (C := Try.checked) own started (by kernel_rfl) Try.func9
    (ChangeSpec.witness6 (enc := enc) (C := Try.checked) false ⟨#[], #[.slice none 0 0], []⟩ 8 (by kernel_rfl) (by kernel_rfl) (by kernel_rfl) (by kernel_rfl)) ?_
  intro W base args ds gs before hval0 hW hcnd _
  have hval : ∀ (j : Nat) t v, Try.f9.params[j]? = some t → args[j]? = some v → Value.okWide Try.prog W .any base t v := hval0
  have hW' := hW
  obtain ⟨p, q, hA0, hV, rfl, hfz, hnd⟩ := hW
  have hA : DataW.TrodAll enc Try.prog W 0 (fun _ => true) true Try.f9.params.toList args.toList ds p := hA0
  rw [Try.params9] at hA hval
  obtain ⟨v0, vs0, d0, ds0, p0, q0, hargs, rfl, rfl, h0, r0⟩ := trodAll_cons hA
  obtain ⟨rfl, rfl, rfl⟩ := trodAll_nil r0
  obtain rfl : args = #[v0] := by cases args; simp_all
  obtain ⟨rfl, rfl⟩ := trodVars_none hV
  have lt0 : ∀ x ∈ p0, x.block < W.heap.size := by obtain ⟨m, hm⟩ := h0; exact DataW.trod_lt m _ _ _ hm
  have a0 := codeArg (hval 0 22 v0 rfl rfl) h0
  clear hA0 hval0
  refine (walk v0 W a0).mono fun e W' ⟨he, bel⟩ => ?_
  subst he
  exact ⟨_, rfl, _, _, _, [], _, [], hW', trodAll_mk1 (shut_bool Try.underlying4 _), (trodAll_cons_mk (Below.trod laidOut (by kernel_rfl) (of_decide_eq_true (by kernel_rfl)) h0 bel lt0) trodAll_mk0), rfl, bel.frame _, fun h => by cases h⟩

theorem proved : Rows.FnSpriteAtSaid :=
  OpenClaim.holds_of_wide 9 Try.f9 rfl rfl rfl rfl rfl rfl rfl ⟨rfl, rfl, rfl, rfl, rfl⟩ rfl rfl rfl rfl rfl (by kernel_rfl) Try.func9 (by kernel_rfl)
    (of_decide_eq_true (by kernel_rfl)) (by unfold Func.isWrapper; first | (rw [if_pos (by decide +kernel)]; kernel_rfl) | (rw [if_neg (by decide +kernel)]; exact ⟨rfl, rfl⟩))
    (fun os started H enc _ => lifted os started H enc)
#print axioms proved

end Go.Proofs.Ytpfdhodilmfmkaa.lawFnSpriteAt
