/-
  The law FnFirstTouch holds: touches are seen; for every code. No conditions.
-/
import Derived.Test.YtabioinmpjfflaaOpen
import Derived.Test.YtabioinmpjfflaaSceneDraw2
import Derived.Test.YtabioinmpjfflaaSceneTouch2
namespace Go.Proofs.Ytabioinmpjfflaa.lawFnFirstTouch
set_option linter.all false
set_option linter.unusedSimpArgs false
set_option linter.unusedVariables false
set_option maxRecDepth 20000
open Go.ChangeShapes Go.WideShapes Go.ChangeAt Go.RowKit

theorem rs_less {w : World} {B sz n n' : Nat} {A : Option Addr} {c : Nat → Value} (h : RS w B sz A n c) (hn : n' ≤ n) : RS w B sz A n' c := by
  rcases h with h | ⟨b, off, e, hb, hc⟩
  · exact .inl (by omega)
  · exact .inr ⟨b, off, e, hb, fun j hj => hc j (Nat.lt_of_lt_of_le hj (Nat.mul_le_mul_right sz hn))⟩
/-- The first sprite alone. -/
theorem sat_first {n m : Nat} {s : Nat → Spr} {q : Nat → Nat → Int} {x y : Nat} (hsv : svd n m s q = true) (hn : 0 < n) (hx : x ≤ 31) (hy : y ≤ 15) :
    satV 1 m s q x y = if spx (s 0) q x y = 0 then (-1, 0) else (0, spx (s 0) q x y) := by
  rw [satV_yes (by rw [svd_part hsv hn, inB_true.2 (show (0 : Int) ≤ x ∧ (x : Int) ≤ 31 by omega), inB_true.2 (show (0 : Int) ≤ y ∧ (y : Int) ≤ 15 by omega)]; rfl)]
  cases hc : cov (s 0) y
  · have hsh : shown 1 s y = [] := by
      unfold shown cvl
      simp [hc]
    rw [hsh, if_pos (spx_no (by unfold cov at hc; rw [hc]; simp))]
    rfl
  · have hsh : shown 1 s y = [0] := by
      unfold shown cvl
      simp [hc]
    rw [hsh]
    rfl

set_option maxRecDepth 100000 in
set_option maxHeartbeats 4000000 in
theorem walk (v0 : Value) (w : World) (h0 : CodeArg w v0) : Calls Try.prog 8 #[v0] w fun e w' => e = .returned (.bool true) ∧ Below w.heap.size w w' := by
  obtain ⟨a, len, cap, rfl, hcode, hl⟩ := h0
  have hm := hcode.1; unfold maxLen at hm
  by_cases hlen : 1048576 < len
  · go_enter Try.func8, Try.ntmps8
    go_wp2
    go_ret
    exact ⟨rfl, Below.refl _ _⟩
  · go_enter Try.func8, Try.ntmps8
    go_wp2_with fail
    refine (drawFirstTouch_c _ _ _ _ hcode hl).mono ?_
    rintro e w1 ⟨W, A, n, c, B, m, d, X, Y, S, k, f, rfl, ⟨p, q, s, hA, hB, hS, hn, hm', hk, hn1, hm1, hk1⟩, hO_w1⟩
    have hz_w1 := hO_w1.size
    clear hm hcode
    obtain ⟨r, hr⟩ : ∃ r, ftr W n m X Y p q k s = r := ⟨_, rfl⟩
    have H1 := Lib.hid (fun w h1 h2 h3 h4 h5 h6 => by have := iftc_c W A n c B m d X Y S k f p q s w (C := w1.heap.size) (C' := w1.heap.size) (C2 := w1.heap.size) h1 h2 h3 h4 h5 h6 (by omega) (by omega) (by omega); rw [hr] at this; exact this)
    have H2 := Lib.hid (fun w h1 h2 h3 h4 h5 h6 => by have := sftc_c W A n c B m d X Y S k f p q s w (C := w1.heap.size) (C' := w1.heap.size) (C2 := w1.heap.size) h1 h2 h3 h4 h5 h6 (by omega) (by omega) (by omega); rw [hr] at this; exact this)
    obtain ⟨v, hv⟩ : ∃ v, scd W n m X Y p q k s = v := ⟨_, rfl⟩
    have HR := Lib.hid hr
    have HV := Lib.hid hv
    clear hr hv
    go_wp2_with fail
    refine (H1.out _ (by (repeat (first | with_reducible assumption | ((with_reducible refine RS.below (by assumption) ?_ ?_) <;> try ((try simp only [World.size_alloc, World.size_setCell, World.size_drew]) <;> omega)) | ((with_reducible refine RS.alloc ?_ ?_ _) <;> try ((try simp only [World.size_alloc, World.size_setCell, World.size_drew]) <;> omega)) | ((with_reducible refine RS.setRow ?_ ?_ _) <;> try ((try simp only [World.size_alloc, World.size_setCell, World.size_drew]) <;> omega)) | ((with_reducible refine RS.setCell ?_ ?_ _) <;> try ((try simp only [World.size_alloc, World.size_setCell, World.size_drew]) <;> omega)) | ((with_reducible refine RS.setCells ?_ ?_ _ _) <;> try ((try simp only [World.size_alloc, World.size_setCell, World.size_drew]) <;> omega)) | (with_reducible apply RS.drewN) | (with_reducible apply RS.drew)))) (by (repeat (first | with_reducible assumption | ((with_reducible refine RS.below (by assumption) ?_ ?_) <;> try ((try simp only [World.size_alloc, World.size_setCell, World.size_drew]) <;> omega)) | ((with_reducible refine RS.alloc ?_ ?_ _) <;> try ((try simp only [World.size_alloc, World.size_setCell, World.size_drew]) <;> omega)) | ((with_reducible refine RS.setRow ?_ ?_ _) <;> try ((try simp only [World.size_alloc, World.size_setCell, World.size_drew]) <;> omega)) | ((with_reducible refine RS.setCell ?_ ?_ _) <;> try ((try simp only [World.size_alloc, World.size_setCell, World.size_drew]) <;> omega)) | ((with_reducible refine RS.setCells ?_ ?_ _ _) <;> try ((try simp only [World.size_alloc, World.size_setCell, World.size_drew]) <;> omega)) | (with_reducible apply RS.drewN) | (with_reducible apply RS.drew)))) (by (repeat (first | with_reducible assumption | ((with_reducible refine RS.below (by assumption) ?_ ?_) <;> try ((try simp only [World.size_alloc, World.size_setCell, World.size_drew]) <;> omega)) | ((with_reducible refine RS.alloc ?_ ?_ _) <;> try ((try simp only [World.size_alloc, World.size_setCell, World.size_drew]) <;> omega)) | ((with_reducible refine RS.setRow ?_ ?_ _) <;> try ((try simp only [World.size_alloc, World.size_setCell, World.size_drew]) <;> omega)) | ((with_reducible refine RS.setCell ?_ ?_ _) <;> try ((try simp only [World.size_alloc, World.size_setCell, World.size_drew]) <;> omega)) | ((with_reducible refine RS.setCells ?_ ?_ _ _) <;> try ((try simp only [World.size_alloc, World.size_setCell, World.size_drew]) <;> omega)) | (with_reducible apply RS.drewN) | (with_reducible apply RS.drew)))) (by ((try simp only [World.size_alloc, World.size_setCell, World.size_drew]) <;> omega)) (by ((try simp only [World.size_alloc, World.size_setCell, World.size_drew]) <;> omega)) (by ((try simp only [World.size_alloc, World.size_setCell, World.size_drew]) <;> omega))).mono ?_
    rintro e w2 ⟨rfl, hO_w2⟩
    have hz_w2 := hO_w2.size
    (try simp only [World.size_alloc, World.size_setCell, World.size_drew] at hz_w2)
    have hs_w2_0 : w1.heap.size < w2.heap.size := (by omega)
    have c_w2_0 := fun o => (bcell hO_w2).1 (w1.heap.size) o (by (try simp only [World.size_alloc, World.size_setCell, World.size_drew]) <;> omega)
    have f_w2_0 := fun o => (bcell hO_w2).2 (w1.heap.size) o (by (try simp only [World.size_alloc, World.size_setCell, World.size_drew]) <;> omega)
    go_wp2_with fail
    refine (H2.out _ (by (repeat (first | with_reducible assumption | ((with_reducible refine RS.below (by assumption) ?_ ?_) <;> try ((try simp only [World.size_alloc, World.size_setCell, World.size_drew]) <;> omega)) | ((with_reducible refine RS.alloc ?_ ?_ _) <;> try ((try simp only [World.size_alloc, World.size_setCell, World.size_drew]) <;> omega)) | ((with_reducible refine RS.setRow ?_ ?_ _) <;> try ((try simp only [World.size_alloc, World.size_setCell, World.size_drew]) <;> omega)) | ((with_reducible refine RS.setCell ?_ ?_ _) <;> try ((try simp only [World.size_alloc, World.size_setCell, World.size_drew]) <;> omega)) | ((with_reducible refine RS.setCells ?_ ?_ _ _) <;> try ((try simp only [World.size_alloc, World.size_setCell, World.size_drew]) <;> omega)) | (with_reducible apply RS.drewN) | (with_reducible apply RS.drew)))) (by (repeat (first | with_reducible assumption | ((with_reducible refine RS.below (by assumption) ?_ ?_) <;> try ((try simp only [World.size_alloc, World.size_setCell, World.size_drew]) <;> omega)) | ((with_reducible refine RS.alloc ?_ ?_ _) <;> try ((try simp only [World.size_alloc, World.size_setCell, World.size_drew]) <;> omega)) | ((with_reducible refine RS.setRow ?_ ?_ _) <;> try ((try simp only [World.size_alloc, World.size_setCell, World.size_drew]) <;> omega)) | ((with_reducible refine RS.setCell ?_ ?_ _) <;> try ((try simp only [World.size_alloc, World.size_setCell, World.size_drew]) <;> omega)) | ((with_reducible refine RS.setCells ?_ ?_ _ _) <;> try ((try simp only [World.size_alloc, World.size_setCell, World.size_drew]) <;> omega)) | (with_reducible apply RS.drewN) | (with_reducible apply RS.drew)))) (by (repeat (first | with_reducible assumption | ((with_reducible refine RS.below (by assumption) ?_ ?_) <;> try ((try simp only [World.size_alloc, World.size_setCell, World.size_drew]) <;> omega)) | ((with_reducible refine RS.alloc ?_ ?_ _) <;> try ((try simp only [World.size_alloc, World.size_setCell, World.size_drew]) <;> omega)) | ((with_reducible refine RS.setRow ?_ ?_ _) <;> try ((try simp only [World.size_alloc, World.size_setCell, World.size_drew]) <;> omega)) | ((with_reducible refine RS.setCell ?_ ?_ _) <;> try ((try simp only [World.size_alloc, World.size_setCell, World.size_drew]) <;> omega)) | ((with_reducible refine RS.setCells ?_ ?_ _ _) <;> try ((try simp only [World.size_alloc, World.size_setCell, World.size_drew]) <;> omega)) | (with_reducible apply RS.drewN) | (with_reducible apply RS.drew)))) (by ((try simp only [World.size_alloc, World.size_setCell, World.size_drew]) <;> omega)) (by ((try simp only [World.size_alloc, World.size_setCell, World.size_drew]) <;> omega)) (by ((try simp only [World.size_alloc, World.size_setCell, World.size_drew]) <;> omega))).mono ?_
    rintro e w3 ⟨rfl, hO_w3⟩
    have hz_w3 := hO_w3.size
    (try simp only [World.size_alloc, World.size_setCell, World.size_drew] at hz_w3)
    have hs_w3_0 : w1.heap.size < w3.heap.size := (by omega)
    have c_w3_0 := fun o => (bcell hO_w3).1 (w1.heap.size) o (by (try simp only [World.size_alloc, World.size_setCell, World.size_drew]) <;> omega)
    have f_w3_0 := fun o => (bcell hO_w3).2 (w1.heap.size) o (by (try simp only [World.size_alloc, World.size_setCell, World.size_drew]) <;> omega)
    go_wp2_with fail
    refine (ssc_c _ _ _ _ _ _ _ _ _ _ _ _ p q s v HV.out _ (C := w1.heap.size) (C' := w1.heap.size) (C2 := w1.heap.size) (by (repeat (first | with_reducible assumption | ((with_reducible refine RS.below (by assumption) ?_ ?_) <;> try ((try simp only [World.size_alloc, World.size_setCell, World.size_drew]) <;> omega)) | ((with_reducible refine RS.alloc ?_ ?_ _) <;> try ((try simp only [World.size_alloc, World.size_setCell, World.size_drew]) <;> omega)) | ((with_reducible refine RS.setRow ?_ ?_ _) <;> try ((try simp only [World.size_alloc, World.size_setCell, World.size_drew]) <;> omega)) | ((with_reducible refine RS.setCell ?_ ?_ _) <;> try ((try simp only [World.size_alloc, World.size_setCell, World.size_drew]) <;> omega)) | ((with_reducible refine RS.setCells ?_ ?_ _ _) <;> try ((try simp only [World.size_alloc, World.size_setCell, World.size_drew]) <;> omega)) | (with_reducible apply RS.drewN) | (with_reducible apply RS.drew)))) (by (repeat (first | with_reducible assumption | ((with_reducible refine RS.below (by assumption) ?_ ?_) <;> try ((try simp only [World.size_alloc, World.size_setCell, World.size_drew]) <;> omega)) | ((with_reducible refine RS.alloc ?_ ?_ _) <;> try ((try simp only [World.size_alloc, World.size_setCell, World.size_drew]) <;> omega)) | ((with_reducible refine RS.setRow ?_ ?_ _) <;> try ((try simp only [World.size_alloc, World.size_setCell, World.size_drew]) <;> omega)) | ((with_reducible refine RS.setCell ?_ ?_ _) <;> try ((try simp only [World.size_alloc, World.size_setCell, World.size_drew]) <;> omega)) | ((with_reducible refine RS.setCells ?_ ?_ _ _) <;> try ((try simp only [World.size_alloc, World.size_setCell, World.size_drew]) <;> omega)) | (with_reducible apply RS.drewN) | (with_reducible apply RS.drew)))) (by (repeat (first | with_reducible assumption | ((with_reducible refine RS.below (by assumption) ?_ ?_) <;> try ((try simp only [World.size_alloc, World.size_setCell, World.size_drew]) <;> omega)) | ((with_reducible refine RS.alloc ?_ ?_ _) <;> try ((try simp only [World.size_alloc, World.size_setCell, World.size_drew]) <;> omega)) | ((with_reducible refine RS.setRow ?_ ?_ _) <;> try ((try simp only [World.size_alloc, World.size_setCell, World.size_drew]) <;> omega)) | ((with_reducible refine RS.setCell ?_ ?_ _) <;> try ((try simp only [World.size_alloc, World.size_setCell, World.size_drew]) <;> omega)) | ((with_reducible refine RS.setCells ?_ ?_ _ _) <;> try ((try simp only [World.size_alloc, World.size_setCell, World.size_drew]) <;> omega)) | (with_reducible apply RS.drewN) | (with_reducible apply RS.drew)))) (by ((try simp only [World.size_alloc, World.size_setCell, World.size_drew]) <;> omega)) (by ((try simp only [World.size_alloc, World.size_setCell, World.size_drew]) <;> omega)) (by ((try simp only [World.size_alloc, World.size_setCell, World.size_drew]) <;> omega)) (by omega) (by omega) (by omega)).mono ?_
    rintro e w4 ⟨rfl, hO_w4⟩
    have hz_w4 := hO_w4.size
    (try simp only [World.size_alloc, World.size_setCell, World.size_drew] at hz_w4)
    have hs_w4_0 : w1.heap.size < w4.heap.size := (by omega)
    have c_w4_0 := fun o => (bcell hO_w4).1 (w1.heap.size) o (by (try simp only [World.size_alloc, World.size_setCell, World.size_drew]) <;> omega)
    have f_w4_0 := fun o => (bcell hO_w4).2 (w1.heap.size) o (by (try simp only [World.size_alloc, World.size_setCell, World.size_drew]) <;> omega)
    have hb04 : Hid (Below w.heap.size w w4) := by
      refine Lib.hid ?_
      (repeat (first | with_reducible exact Below.refl _ _ | ((with_reducible refine viaO (by assumption) ?_ ?_ ?_) <;> try ((try simp only [World.size_alloc, World.size_setCell, World.size_drew]) <;> omega)) | ((with_reducible refine Below.alloc ?_ ?_ _) <;> try ((try simp only [World.size_alloc, World.size_setCell, World.size_drew]) <;> omega)) | ((with_reducible refine Below.setCell ?_ ?_ _) <;> try ((try simp only [World.size_alloc, World.size_setCell, World.size_drew]) <;> omega)) | (with_reducible refine below_drewN ?_ _) | (with_reducible refine Below.drew ?_) | ((with_reducible refine via (by assumption) ?_ ?_) <;> try ((try simp only [World.size_alloc, World.size_setCell, World.size_drew]) <;> omega))))
    have h14 : w1.heap.size < w4.heap.size := by omega
    have HA := Lib.hid (show RS w4 w1.heap.size 1 A n (iv p) by (repeat (first | with_reducible assumption | ((with_reducible refine RS.below (by assumption) ?_ ?_) <;> try ((try simp only [World.size_alloc, World.size_setCell, World.size_drew]) <;> omega)) | ((with_reducible refine RS.alloc ?_ ?_ _) <;> try ((try simp only [World.size_alloc, World.size_setCell, World.size_drew]) <;> omega)) | ((with_reducible refine RS.setRow ?_ ?_ _) <;> try ((try simp only [World.size_alloc, World.size_setCell, World.size_drew]) <;> omega)) | ((with_reducible refine RS.setCell ?_ ?_ _) <;> try ((try simp only [World.size_alloc, World.size_setCell, World.size_drew]) <;> omega)) | ((with_reducible refine RS.setCells ?_ ?_ _ _) <;> try ((try simp only [World.size_alloc, World.size_setCell, World.size_drew]) <;> omega)) | (with_reducible apply RS.drewN) | (with_reducible apply RS.drew))))
    have HB := Lib.hid (show RS w4 w1.heap.size 64 B m (tc q) by (repeat (first | with_reducible assumption | ((with_reducible refine RS.below (by assumption) ?_ ?_) <;> try ((try simp only [World.size_alloc, World.size_setCell, World.size_drew]) <;> omega)) | ((with_reducible refine RS.alloc ?_ ?_ _) <;> try ((try simp only [World.size_alloc, World.size_setCell, World.size_drew]) <;> omega)) | ((with_reducible refine RS.setRow ?_ ?_ _) <;> try ((try simp only [World.size_alloc, World.size_setCell, World.size_drew]) <;> omega)) | ((with_reducible refine RS.setCell ?_ ?_ _) <;> try ((try simp only [World.size_alloc, World.size_setCell, World.size_drew]) <;> omega)) | ((with_reducible refine RS.setCells ?_ ?_ _ _) <;> try ((try simp only [World.size_alloc, World.size_setCell, World.size_drew]) <;> omega)) | (with_reducible apply RS.drewN) | (with_reducible apply RS.drew))))
    have HS := Lib.hid (show RS w4 w1.heap.size 6 S k (sc s) by (repeat (first | with_reducible assumption | ((with_reducible refine RS.below (by assumption) ?_ ?_) <;> try ((try simp only [World.size_alloc, World.size_setCell, World.size_drew]) <;> omega)) | ((with_reducible refine RS.alloc ?_ ?_ _) <;> try ((try simp only [World.size_alloc, World.size_setCell, World.size_drew]) <;> omega)) | ((with_reducible refine RS.setRow ?_ ?_ _) <;> try ((try simp only [World.size_alloc, World.size_setCell, World.size_drew]) <;> omega)) | ((with_reducible refine RS.setCell ?_ ?_ _) <;> try ((try simp only [World.size_alloc, World.size_setCell, World.size_drew]) <;> omega)) | ((with_reducible refine RS.setCells ?_ ?_ _ _) <;> try ((try simp only [World.size_alloc, World.size_setCell, World.size_drew]) <;> omega)) | (with_reducible apply RS.drewN) | (with_reducible apply RS.drew))))
    have HSB := Lib.hid (SB.below hO_w4 (SB.below hO_w3 (SB.below hO_w2 (SB.new w1 29 W A n c B m d X Y S k f) (by simp)) (by omega)) (by omega))
    clear H1 H2 hA hB hS hO_w2 hO_w3 hO_w4
    cases v
    · have hr := HR.out
      rw [ftr_no (by rw [HV.out]; rfl)] at hr
      subst hr
      go_wp2_with (go_at_call 11; refine (alive_c _).mono ?_; rintro e w' ⟨rfl, rfl⟩)
      go_ret
      exact ⟨rfl, hb04.out⟩
    · by_cases hk0 : k = 0
      · subst hk0
        have hr := HR.out
        rw [ftr_no (by rw [HV.out]; rfl)] at hr
        subst hr
        go_wp2_with (go_at_call 11; refine (alive_c _).mono ?_; rintro e w' ⟨rfl, rfl⟩)
        go_ret
        exact ⟨rfl, hb04.out⟩
      · have hkp : 0 < k := by omega
        have hr := HR.out
        have hrr : ftr W n m X Y p q k s = ftv (tch (s 0) W.toNat n X.toNat Y.toNat p q) := by unfold ftr; rw [HV.out, decide_eq_true hkp]; rfl
        rw [hrr] at hr
        obtain ⟨hf, hsv⟩ := scd_parts HV.out
        have hf' := hf
        obtain ⟨W', X', Y', rfl, rfl, rfl, hX, hY, hok⟩ := fok_of hf
        simp only [Int.toNat_natCast] at hr
        obtain ⟨-, htv, -, -⟩ := fvd_parts hf'
        obtain ⟨t, ht⟩ : ∃ t, tch (s 0) W' n X' Y' p q = t := ⟨_, rfl⟩
        have HT := Lib.hid (fun (x y : Nat) (hx : x < 32) => by have := tch_at (s 0) W' n X' Y' p q (x := x) (y := y) hx; rw [ht] at this; exact this)
        have HBD := Lib.hid (fun x y => fpx_bounds hok htv x y (X := X') (Y := Y'))
        have HSAT := Lib.hid (fun (x y : Nat) (hx : x ≤ 31) (hy : y ≤ 15) u h1 h2 h3 h4 => by have := isat_c S 1 f B m d s q x y u (C := w1.heap.size) (C' := w1.heap.size) h1 h2 h3 h4 (by omega) (by omega); rw [sat_first hsv hkp hx hy] at this; exact this)
        have HFP := Lib.hid (fun (x y : Nat) (hx : x ≤ 31) (hy : y ≤ 15) u h1 h2 h3 h4 => by have := ifp_c W' A n c B m d X' Y' x y p q u (C := w1.heap.size) (C' := w1.heap.size) h1 h2 h3 h4 (by omega) (by omega); rw [fpr_yes hf' hx hy] at this; exact this)
        rw [ht] at hr
        have HRT := Lib.hid hr
        have HS1 := Lib.hid (rs_less HS.out hkp)
        have hkk : ((k : Int) == 0) = false := by simpa using hk0
        have l1 : (1 : Int) ≤ (f : Int) := by omega
        have l2 : (1 : Int) ≤ (k : Int) := by omega
        clear hr hrr hf hf' hsv hok htv ht HR
        go_wp2
        go_loopw [6] (fun i wr => ∃ j : Nat, j ≤ 512 ∧ i = .int .i64 j ∧ Hid (∀ i, i < j → t i = false) ∧ Below w4.heap.size w4 wr) (fun i _ => 512 - (intOf i).toNat)
        case atStart => exact ⟨0, by omega, rfl, Lib.hid fun j hj => by omega, Below.refl _ _⟩
        case round =>
          obtain ⟨j, hj, rfl, hno, hb⟩ := hrel
          have HBR := Lib.hid hb
          have hbs := hb.size
          by_cases hlt : j < 512
          · obtain ⟨c0, c1, c2, c3, c4, c5⟩ := (SB.below hb HSB.out HSB.out.lt).cells
            obtain ⟨x, hx⟩ : ∃ x, j % 32 = x := ⟨_, rfl⟩
            obtain ⟨y, hy⟩ : ∃ y, j / 32 = y := ⟨_, rfl⟩
            have hx31 : x ≤ 31 := by omega
            have hy15 : y ≤ 15 := by omega
            have e1 : (j : Int) % 32 = (x : Int) := by omega
            have e2 : (j : Int) / 32 = (y : Int) := by omega
            have hj2 : j = 32 * y + x := by omega
            have i1 : (j : Int) < 512 := by omega
            have e3 : IntKind.i64.wrap ((j : Int) + 1) = (j : Int) + 1 := IntWalk.i64_in _ (by omega)
            obtain ⟨b0, b3⟩ := HBD.out x y
            obtain ⟨va, hva⟩ : ∃ va, spx (s 0) q (x : Int) (y : Int) = va := ⟨_, rfl⟩
            obtain ⟨vb, hvb⟩ : ∃ vb, fpx W' n X' Y' p q x y = vb := ⟨_, rfl⟩
            rw [hvb] at b0 b3
            have hT := HT.out x y (by omega)
            rw [hva, hvb, ← hj2] at hT
            have HF := Lib.hid (fun u h1 h2 h3 h4 => by have := HFP.out x y hx31 hy15 u h1 h2 h3 h4; rw [hvb] at this; exact this)
            by_cases hz : va = 0
            · have HP := Lib.hid (fun u h1 h2 h3 h4 => by have := HSAT.out x y hx31 hy15 u h1 h2 h3 h4; rw [hva, if_pos hz] at this; exact this)
              rw [hz] at hT
              have HTT : Hid (t j = false) := Lib.hid hT
              clear hT hva hvb hb hx hy hj hj2 hz
              go_wp2_with ((go_at_call 20; (refine (HP.out _ (RS.below HBR.out HS1.out (by omega)) (RS.below HBR.out HB.out (by omega)) (by omega) (by omega)).mono ?_; rintro e w5 ⟨rfl, hO_w5⟩; have hz_w5 := hO_w5.size; (try simp only [World.size_alloc, World.size_setCell, World.size_drew] at hz_w5); have hs_w5_0 : w1.heap.size < w5.heap.size := (by omega); have c_w5_0 := fun o => (bcell hO_w5).1 (w1.heap.size) o (by (try simp only [World.size_alloc, World.size_setCell, World.size_drew]) <;> omega); have f_w5_0 := fun o => (bcell hO_w5).2 (w1.heap.size) o (by (try simp only [World.size_alloc, World.size_setCell, World.size_drew]) <;> omega))))
              go_roundw
              case rel =>
                refine ⟨j + 1, by omega, by go_num, Lib.hid fun i hi => ?_, HBR.out.trans (hO_w5.mono (by omega))⟩
                by_cases hi2 : i = j
                · rw [hi2]; exact HTT.out
                · exact hno.out i (by omega)
              case measure => simp [intOf]; omega
            · have HP := Lib.hid (fun u h1 h2 h3 h4 => by have := HSAT.out x y hx31 hy15 u h1 h2 h3 h4; rw [hva, if_neg hz] at this; exact this)
              have hz1 : (va != 0) = true := by simpa using hz
              rw [hz1] at hT
              by_cases hz2 : vb = 0
              · rw [hz2] at hT
                have HTT : Hid (t j = false) := Lib.hid hT
                subst hz2
                clear hT hva hvb hb hx hy hj hj2 hz hz1
                go_wp2_with (first | (go_at_call 20; (refine (HP.out _ (RS.below HBR.out HS1.out (by omega)) (RS.below HBR.out HB.out (by omega)) (by omega) (by omega)).mono ?_; rintro e w5 ⟨rfl, hO_w5⟩; have hz_w5 := hO_w5.size; (try simp only [World.size_alloc, World.size_setCell, World.size_drew] at hz_w5); have hs_w5_0 : w1.heap.size < w5.heap.size := (by omega); have c_w5_0 := fun o => (bcell hO_w5).1 (w1.heap.size) o (by (try simp only [World.size_alloc, World.size_setCell, World.size_drew]) <;> omega); have f_w5_0 := fun o => (bcell hO_w5).2 (w1.heap.size) o (by (try simp only [World.size_alloc, World.size_setCell, World.size_drew]) <;> omega))) | (go_at_call 19; (refine (HF.out _ (RS.below hO_w5 (RS.below HBR.out HA.out (by omega)) (by omega)) (RS.below hO_w5 (RS.below HBR.out HB.out (by omega)) (by omega)) (by omega) (by omega)).mono ?_; rintro e w6 ⟨rfl, hO_w6⟩; have hz_w6 := hO_w6.size; (try simp only [World.size_alloc, World.size_setCell, World.size_drew] at hz_w6))))
                go_roundw
                case rel =>
                  refine ⟨j + 1, by omega, by go_num, Lib.hid fun i hi => ?_, (HBR.out.trans (hO_w5.mono (by omega))).trans (hO_w6.mono (by omega))⟩
                  by_cases hi2 : i = j
                  · rw [hi2]; exact HTT.out
                  · exact hno.out i (by omega)
                case measure => simp [intOf]; omega
              · have hz3 : (vb != 0) = true := by simpa using hz2
                rw [hz3] at hT
                have hres : r = (j : Int) := by rw [← HRT.out]; exact ftv_at hlt hT hno.out
                have hp : 0 < vb := by omega
                subst hres
                clear hT hva hvb hb hx hy hj hj2 hz hz1 hz2 hz3 HRT
                go_wp2_with (first | (go_at_call 20; (refine (HP.out _ (RS.below HBR.out HS1.out (by omega)) (RS.below HBR.out HB.out (by omega)) (by omega) (by omega)).mono ?_; rintro e w5 ⟨rfl, hO_w5⟩; have hz_w5 := hO_w5.size; (try simp only [World.size_alloc, World.size_setCell, World.size_drew] at hz_w5); have hs_w5_0 : w1.heap.size < w5.heap.size := (by omega); have c_w5_0 := fun o => (bcell hO_w5).1 (w1.heap.size) o (by (try simp only [World.size_alloc, World.size_setCell, World.size_drew]) <;> omega); have f_w5_0 := fun o => (bcell hO_w5).2 (w1.heap.size) o (by (try simp only [World.size_alloc, World.size_setCell, World.size_drew]) <;> omega))) | (go_at_call 19; (refine (HF.out _ (RS.below hO_w5 (RS.below HBR.out HA.out (by omega)) (by omega)) (RS.below hO_w5 (RS.below HBR.out HB.out (by omega)) (by omega)) (by omega) (by omega)).mono ?_; rintro e w6 ⟨rfl, hO_w6⟩; have hz_w6 := hO_w6.size; (try simp only [World.size_alloc, World.size_setCell, World.size_drew] at hz_w6))))
                go_ret
                refine ⟨rfl, hb04.out.trans ?_⟩
                exact ((HBR.out.trans (hO_w5.mono (by omega))).trans (hO_w6.mono (by omega))).mono (by have := hb04.out.size; omega)
          · have hj512 : j = 512 := by omega
            subst hj512
            have hres : r = -1 := by rw [← HRT.out]; exact ftv_none hno.out
            subst hres
            clear hb HRT
            go_wp2
            go_ret
            refine ⟨rfl, hb04.out.trans ?_⟩
            exact HBR.out.mono (by have := hb04.out.size; omega)

set_option maxRecDepth 100000 in
theorem lifted (os : Os) (started : os.Started) (H : Type) (enc : TypeId × Value → H) :
    ReturnsInHanded {} Try.checked os 8 .any (Rows.fnFirstTouchSpec.pre6 enc Try.prog Try.f8 Rows.fnFirstTouchRow.domain false) (Rows.fnFirstTouchSpec.post enc Try.prog Try.f8 false true false false) := by
  refine returnsInHanded_of_change (C := Try.checked) own started (by kernel_rfl) Try.func8
    (ChangeSpec.witness6 (enc := enc) (C := Try.checked) false ⟨#[], #[.slice none 0 0], []⟩ 8 (by kernel_rfl) (by kernel_rfl) (by kernel_rfl) (by kernel_rfl)) ?_
  intro W base args ds gs before hval0 hW hcnd _
  have hval : ∀ (j : Nat) t v, Try.f8.params[j]? = some t → args[j]? = some v → Value.okWide Try.prog W .any base t v := hval0
  have hW' := hW
  obtain ⟨p, q, hA0, hV, rfl, hfz, hnd⟩ := hW
  have hA : DataW.TrodAll enc Try.prog W 0 (fun _ => true) true Try.f8.params.toList args.toList ds p := hA0
  rw [Try.params8] at hA hval
  obtain ⟨v0, vs0, d0, ds0, p0, q0, hargs, rfl, rfl, h0, r0⟩ := trodAll_cons hA
  obtain ⟨rfl, rfl, rfl⟩ := trodAll_nil r0
  obtain rfl : args = #[v0] := by cases args; simp_all
  obtain ⟨rfl, rfl⟩ := trodVars_none hV
  have lt0 : ∀ x ∈ p0, x.block < W.heap.size := by obtain ⟨m, hm⟩ := h0; exact DataW.trod_lt m _ _ _ hm
  have a0 := codeArg (hval 0 22 v0 rfl rfl) h0
  clear hA0 hval0
  refine (walk v0 W a0).mono fun e W' ⟨he, bel⟩ => ?_
  subst he
  exact ⟨_, rfl, _, _, _, [], _, [], hW', trodAll_mk1 (shut_bool Try.underlying4 _), (trodAll_cons_mk (Below.trod laidOut (by kernel_rfl) (of_decide_eq_true (by kernel_rfl)) h0 bel lt0) trodAll_mk0), rfl, bel.frame _, fun h => by cases h⟩

theorem proved : Rows.FnFirstTouchSaid :=
  OpenClaim.holds_of_wide 8 Try.f8 rfl rfl rfl rfl rfl rfl rfl ⟨rfl, rfl, rfl, rfl, rfl⟩ rfl rfl rfl rfl rfl (by kernel_rfl) Try.func8 (by kernel_rfl)
    (of_decide_eq_true (by kernel_rfl)) (by unfold Func.isWrapper; first | (rw [if_pos (by decide +kernel)]; kernel_rfl) | (rw [if_neg (by decide +kernel)]; exact ⟨rfl, rfl⟩))
    (fun os started H enc _ => lifted os started H enc)
#print axioms proved

end Go.Proofs.Ytabioinmpjfflaa.lawFnFirstTouch
