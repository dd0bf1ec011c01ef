/-
  The law FnFieldTile holds: a background with one tile repeats it; for every code. No conditions.
-/
import Derived.Test.YtojnfojecpdolaaOpen
import Derived.Test.YtojnfojecpdolaaFieldDraw3
import Derived.Test.YtojnfojecpdolaaFieldLaw
import Derived.Test.YtojnfojecpdolaaOver
import Derived.Deep.RegionHeld3
namespace Go.Proofs.Ytojnfojecpdolaa.lawFnFieldTile
set_option linter.all false
set_option linter.unusedSimpArgs false
set_option linter.unusedVariables false
open Go.ChangeShapes Go.WideShapes Go.ChangeAt Go.RowKit

theorem one_fpr {m X Y x y : Nat} {q : Nat → Nat → Int} (hm : 1 ≤ m) (ht : tsv m q = true) (hX : X ≤ 255) (hY : Y ≤ 255) (hx : x ≤ 31) (hy : y ≤ 15) : fpr 1 1 1 X Y (fun _ => 0) q x y = q 0 ((y + Y) % 8 * 8 + (x + X) % 8) := by
  have hv : fvd ((1 : Nat) : Int) 1 1 X Y (fun _ => 0) q = true := by
    unfold fvd
    have h5 : tsv 1 q = true := tsv_true.2 fun i hi => tsv_true.1 ht i (by omega)
    rw [h5, inB_true.2 (show (0 : Int) ≤ X ∧ (X : Int) ≤ 255 by omega), inB_true.2 (show (0 : Int) ≤ Y ∧ (Y : Int) ≤ 255 by omega)]
    decide
  have := fpr_yes (p := fun _ => 0) hv hx hy
  refine this.trans ?_
  simp [fpx, fidx, fcol, frow, Nat.mod_mod]

theorem fb_new1 (w : World) (o : Obj) (t : TypeId) (W : Int) (A : Option Addr) (n c : Nat) (B : Option Addr) (m d : Nat) (X Y : Int) : FB ((w.alloc o).alloc (.cells #[.int .i64 W, .slice A n c, .slice B m d, .int .i64 X, .int .i64 Y] t)) (w.heap.size + 1) t W A n c B m d X Y := by
  have := FB.new (w.alloc o) t W A n c B m d X Y
  rwa [World.size_alloc] at this

set_option maxRecDepth 100000 in
set_option maxHeartbeats 4000000 in
theorem walk (v0 : Value) (w : World) (h0 : CodeArg w v0) : Calls Try.prog 5 #[v0] w fun e w' => e = .returned (.bool true) ∧ Below w.heap.size w w' := by
  obtain ⟨a, len, cap, rfl, hcode, hl⟩ := h0
  have hm := hcode.1; unfold maxLen at hm
  by_cases hlen : 1048576 < len
  · go_enter Try.func5, Try.ntmps5
    go_wp2
    go_ret
    exact ⟨rfl, Below.refl _ _⟩
  · go_enter Try.func5, Try.ntmps5
    go_wp2_with fail
    refine (drawFieldPixel_c _ _ _ _ hcode hl).mono ?_
    rintro e w1 ⟨W, A, n, c, B, m, d, X, Y, x, y, rfl, ⟨p, q, hA, hB, hn, hm', hn1, hm1⟩, hO_w1⟩
    have hz_w1 := hO_w1.size
    clear hm hcode
    cases hv : fvd W n m X Y p q
    · have HV := Lib.hid hv
      clear hv
      go_wp2_with (first | (go_at_call 14; (refine (sfv_c _ _ _ _ _ _ _ _ _ p q false HV.out _ (C := w1.heap.size) (C' := w1.heap.size) (by (repeat (first | with_reducible assumption | ((with_reducible refine RS.below (by assumption) ?_ ?_) <;> try ((try simp only [World.size_alloc, World.size_setCell, World.size_drew]) <;> omega)) | ((with_reducible refine RS.alloc ?_ ?_ _) <;> try ((try simp only [World.size_alloc, World.size_setCell, World.size_drew]) <;> omega)) | ((with_reducible refine RS.setRow ?_ ?_ _) <;> try ((try simp only [World.size_alloc, World.size_setCell, World.size_drew]) <;> omega)) | ((with_reducible refine RS.setCell ?_ ?_ _) <;> try ((try simp only [World.size_alloc, World.size_setCell, World.size_drew]) <;> omega)) | ((with_reducible refine RS.setCells ?_ ?_ _ _) <;> try ((try simp only [World.size_alloc, World.size_setCell, World.size_drew]) <;> omega)) | (with_reducible apply RS.drewN) | (with_reducible apply RS.drew)))) (by (repeat (first | with_reducible assumption | ((with_reducible refine RS.below (by assumption) ?_ ?_) <;> try ((try simp only [World.size_alloc, World.size_setCell, World.size_drew]) <;> omega)) | ((with_reducible refine RS.alloc ?_ ?_ _) <;> try ((try simp only [World.size_alloc, World.size_setCell, World.size_drew]) <;> omega)) | ((with_reducible refine RS.setRow ?_ ?_ _) <;> try ((try simp only [World.size_alloc, World.size_setCell, World.size_drew]) <;> omega)) | ((with_reducible refine RS.setCell ?_ ?_ _) <;> try ((try simp only [World.size_alloc, World.size_setCell, World.size_drew]) <;> omega)) | ((with_reducible refine RS.setCells ?_ ?_ _ _) <;> try ((try simp only [World.size_alloc, World.size_setCell, World.size_drew]) <;> omega)) | (with_reducible apply RS.drewN) | (with_reducible apply RS.drew)))) (by ((try simp only [World.size_alloc, World.size_setCell, World.size_drew]) <;> omega)) (by ((try simp only [World.size_alloc, World.size_setCell, World.size_drew]) <;> omega)) (by omega) (by omega)).mono ?_; rintro e w2 ⟨rfl, hO_w2⟩; have hz_w2 := hO_w2.size; (try simp only [World.size_alloc, World.size_setCell, World.size_drew] at hz_w2); have hs_w2_0 : w1.heap.size < w2.heap.size := (by omega); have c_w2_0 := fun o => (bcell hO_w2).1 (w1.heap.size) o (by (try simp only [World.size_alloc, World.size_setCell, World.size_drew]) <;> omega); have f_w2_0 := fun o => (bcell hO_w2).2 (w1.heap.size) o (by (try simp only [World.size_alloc, World.size_setCell, World.size_drew]) <;> omega))) | (go_at_call 15; refine (alive_c _).mono ?_; rintro e w' ⟨rfl, rfl⟩))
      go_ret
      refine ⟨rfl, ?_⟩
      (repeat (first | with_reducible exact Below.refl _ _ | ((with_reducible refine viaO (by assumption) ?_ ?_ ?_) <;> try ((try simp only [World.size_alloc, World.size_setCell, World.size_drew]) <;> omega)) | ((with_reducible refine Below.alloc ?_ ?_ _) <;> try ((try simp only [World.size_alloc, World.size_setCell, World.size_drew]) <;> omega)) | ((with_reducible refine Below.setCell ?_ ?_ _) <;> try ((try simp only [World.size_alloc, World.size_setCell, World.size_drew]) <;> omega)) | (with_reducible refine below_drewN ?_ _) | (with_reducible refine Below.drew ?_) | ((with_reducible refine via (by assumption) ?_ ?_) <;> try ((try simp only [World.size_alloc, World.size_setCell, World.size_drew]) <;> omega))))
    · have HV := Lib.hid hv
      by_cases hin : 0 ≤ x ∧ 0 ≤ y ∧ x < 32 ∧ y < 16
      · obtain ⟨W', X', Y', rfl, rfl, rfl, hX, hY, hok⟩ := fok_of hv
        obtain ⟨hsh, htv, hXb, hYb⟩ := fvd_parts hv
        obtain ⟨x0, y0, x1, y1⟩ := hin
        obtain ⟨x', rfl⟩ := Int.eq_ofNat_of_zero_le x0
        obtain ⟨y', rfl⟩ := Int.eq_ofNat_of_zero_le y0
        have hm0 := hok.m1
        have H1 := Lib.hid (one_fpr hm0 htv hX hY (show x' ≤ 31 by omega) (show y' ≤ 15 by omega))
        have HA := Lib.hid hA
        have HBm := Lib.hid hB
        obtain ⟨b', off', rfl, hbl', hc'⟩ := hB.at_ (by omega)
        have HB := Lib.hid (hB.take (k := 1) hm0)
        obtain ⟨kk, hkk⟩ : ∃ kk : Nat, (y' + Y') % 8 * 8 + (x' + X') % 8 = kk := ⟨_, rfl⟩
        have hk64 : kk < 64 := by omega
        have hck := hc' (0 * 64 + kk) (by omega)
        rw [tc_at q 0 kk hk64, Nat.zero_mul, Nat.zero_add] at hck
        have H1' := H1.out
        rw [hkk] at H1'
        obtain ⟨v, hvv⟩ : ∃ v, q 0 kk = v := ⟨_, rfl⟩
        rw [hvv] at hck H1'
        have HE := Lib.hid H1'
        have n1 : ¬ (x' : Int) < 0 := by omega
        have n2 : ¬ (y' : Int) < 0 := by omega
        have n3 : ¬ (32 : Int) ≤ (x' : Int) := by omega
        have n4 : ¬ (16 : Int) ≤ (y' : Int) := by omega
        have k1 : 1 ≤ d := by omega
        have k1i : (1 : Int) ≤ (d : Int) := by omega
        have hmp : 0 < m := by omega
        have epx : ((y' : Int) + (Y' : Int)) % 8 * 8 + ((x' : Int) + (X' : Int)) % 8 = (kk : Int) := by omega
        clear hv hok hsh htv hXb hYb x0 y0 hA hB hc' H1 H1' hvv
        go_wp2_with (first | (go_at_call 14; (refine (sfv_c _ _ _ _ _ _ _ _ _ p q true HV.out _ (C := w1.heap.size) (C' := w1.heap.size) (by have h1 := HA.out; (repeat (first | with_reducible assumption | ((with_reducible refine RS.below (by assumption) ?_ ?_) <;> try ((try simp only [World.size_alloc, World.size_setCell, World.size_drew]) <;> omega)) | ((with_reducible refine RS.alloc ?_ ?_ _) <;> try ((try simp only [World.size_alloc, World.size_setCell, World.size_drew]) <;> omega)) | ((with_reducible refine RS.setRow ?_ ?_ _) <;> try ((try simp only [World.size_alloc, World.size_setCell, World.size_drew]) <;> omega)) | ((with_reducible refine RS.setCell ?_ ?_ _) <;> try ((try simp only [World.size_alloc, World.size_setCell, World.size_drew]) <;> omega)) | ((with_reducible refine RS.setCells ?_ ?_ _ _) <;> try ((try simp only [World.size_alloc, World.size_setCell, World.size_drew]) <;> omega)) | (with_reducible apply RS.drewN) | (with_reducible apply RS.drew)))) (by have h1 := HBm.out; (repeat (first | with_reducible assumption | ((with_reducible refine RS.below (by assumption) ?_ ?_) <;> try ((try simp only [World.size_alloc, World.size_setCell, World.size_drew]) <;> omega)) | ((with_reducible refine RS.alloc ?_ ?_ _) <;> try ((try simp only [World.size_alloc, World.size_setCell, World.size_drew]) <;> omega)) | ((with_reducible refine RS.setRow ?_ ?_ _) <;> try ((try simp only [World.size_alloc, World.size_setCell, World.size_drew]) <;> omega)) | ((with_reducible refine RS.setCell ?_ ?_ _) <;> try ((try simp only [World.size_alloc, World.size_setCell, World.size_drew]) <;> omega)) | ((with_reducible refine RS.setCells ?_ ?_ _ _) <;> try ((try simp only [World.size_alloc, World.size_setCell, World.size_drew]) <;> omega)) | (with_reducible apply RS.drewN) | (with_reducible apply RS.drew)))) (by ((try simp only [World.size_alloc, World.size_setCell, World.size_drew]) <;> omega)) (by ((try simp only [World.size_alloc, World.size_setCell, World.size_drew]) <;> omega)) (by omega) (by omega)).mono ?_; rintro e w2 ⟨rfl, hO_w2⟩; have hz_w2 := hO_w2.size; (try simp only [World.size_alloc, World.size_setCell, World.size_drew] at hz_w2); have hs_w2_0 : w1.heap.size < w2.heap.size := (by omega); have c_w2_0 := fun o => (bcell hO_w2).1 (w1.heap.size) o (by (try simp only [World.size_alloc, World.size_setCell, World.size_drew]) <;> omega); have f_w2_0 := fun o => (bcell hO_w2).2 (w1.heap.size) o (by (try simp only [World.size_alloc, World.size_setCell, World.size_drew]) <;> omega))))
        have hF2 := FB.below hO_w2 (FB.new w1 26 W' A n c (some ⟨b', off', none⟩) m d X' Y') (by simp)
        have hck1 := (World.cell?_alloc_lt w1 (.cells #[.int .i64 W', .slice A n c, .slice (some ⟨b', off', none⟩) m d, .int .i64 X', .int .i64 Y'] 26) ⟨b', off' + kk, none⟩ hbl').trans hck
        have hck2 := (hO_w2.cell (p := ⟨b', off' + kk, none⟩) (by simp; omega)).trans hck1
        have hT2 := RS.below hO_w2 (RS.alloc HB.out (Nat.le_refl _) (.cells #[.int .i64 W', .slice A n c, .slice (some ⟨b', off', none⟩) m d, .int .i64 X', .int .i64 Y'] 26)) (by simp)
        have HF2 := Lib.hid hF2
        have HT2 := Lib.hid hT2
        have HCK := Lib.hid hck2
        have hb2 : Below w.heap.size w w2 := by
          (repeat (first | with_reducible exact Below.refl _ _ | ((with_reducible refine viaO (by assumption) ?_ ?_ ?_) <;> try ((try simp only [World.size_alloc, World.size_setCell, World.size_drew]) <;> omega)) | ((with_reducible refine Below.alloc ?_ ?_ _) <;> try ((try simp only [World.size_alloc, World.size_setCell, World.size_drew]) <;> omega)) | ((with_reducible refine Below.setCell ?_ ?_ _) <;> try ((try simp only [World.size_alloc, World.size_setCell, World.size_drew]) <;> omega)) | (with_reducible refine below_drewN ?_ _) | (with_reducible refine Below.drew ?_) | ((with_reducible refine via (by assumption) ?_ ?_) <;> try ((try simp only [World.size_alloc, World.size_setCell, World.size_drew]) <;> omega))))
        have HB2 := Lib.hid hb2
        obtain ⟨c0, c1, c2, c3, c4⟩ := hF2.cells
        clear hck hck1 hck2 hT2 hF2 hb2 c_w2_0 f_w2_0 hO_w2
        go_upto_region 6 with fail
        go_cut [6] (fun s wx => ∃ g b0 : Nat, s = .pointer (some ⟨g, 0, none⟩) ∧ w2.heap.size ≤ g ∧ FB wx g 26 1 (some ⟨b0, 0, none⟩) 1 1 (some ⟨b', off', none⟩) 1 d X' Y' ∧ b0 < wx.heap.size ∧ wx.cell? ⟨b0, 0, none⟩ = some (.int .i64 0) ∧ Below w2.heap.size w2 wx)
        case first =>
          have hn1 := World.new_ne w2 ⟨w1.heap.size, 0, none⟩ c0
          go_region_held3 (fun w' => w'.cell? ⟨w1.heap.size, 2, none⟩ = some (.slice (some ⟨b', off', none⟩) m d) ∧ w'.cell? ⟨w1.heap.size, 3, none⟩ = some (.int .i64 X') ∧ w'.cell? ⟨w1.heap.size, 4, none⟩ = some (.int .i64 Y')) (go_keep) (fail)
          all_goals
            go_wp2_with fail
            go_meet
            first
              | refine ⟨w2.heap.size + 1, w2.heap.size, rfl, by omega, (fb_new1 _ _ _ _ _ _ _ _ _ _ _ _).drew, by simp <;> omega, by simp, ?_⟩
              | refine ⟨w2.heap.size, w2.heap.size + 1, rfl, Nat.le_refl _, ((FB.new _ _ _ _ _ _ _ _ _ _ _).alloc _).drew, by simp <;> omega, by simp, ?_⟩
            (repeat (first | with_reducible exact Below.refl _ _ | ((with_reducible refine viaO (by assumption) ?_ ?_ ?_) <;> try ((try simp only [World.size_alloc, World.size_setCell, World.size_drew]) <;> omega)) | ((with_reducible refine Below.alloc ?_ ?_ _) <;> try ((try simp only [World.size_alloc, World.size_setCell, World.size_drew]) <;> omega)) | ((with_reducible refine Below.setCell ?_ ?_ _) <;> try ((try simp only [World.size_alloc, World.size_setCell, World.size_drew]) <;> omega)) | (with_reducible refine below_drewN ?_ _) | (with_reducible refine Below.drew ?_) | ((with_reducible refine via (by assumption) ?_ ?_) <;> try ((try simp only [World.size_alloc, World.size_setCell, World.size_drew]) <;> omega))))
        case rest =>
          obtain ⟨g, b0, rfl, hg0, hF, hb0, hz0, hbc⟩ := hcut
          have hzc := hbc.size
          have hF0 := FB.below hbc HF2.out (HF2.out.lt)
          have hRA : RS wc wc.heap.size 1 (some ⟨b0, 0, none⟩) 1 (iv fun _ => 0) := .inr ⟨b0, 0, rfl, hb0, fun j hj => by
            obtain rfl : j = 0 := by omega
            exact hz0⟩
          have hRB := RS.below hbc HT2.out (by have := HF2.out.lt; omega)
          have hckc := (hbc.cell (p := ⟨b', off' + kk, none⟩) (by have := HF2.out.lt; show b' < _; omega)).trans HCK.out
          have hbb : b' < wc.heap.size := by have := HF2.out.lt; omega
          have hgl := hF.lt
          have hfl := hF0.lt
          obtain ⟨c0, c1, c2, c3, c4⟩ := hF0.cells
          obtain ⟨d0, d1, d2, d3, d4⟩ := hF.cells
          have HE2 := Lib.hid HE.out
          have hcall : Calls Try.prog 17 #[fdV 1 (some ⟨b0, 0, none⟩) 1 1 (some ⟨b', off', none⟩) 1 d X' Y', .int .i64 x', .int .i64 y'] wc fun e w' => e = .returned (.int .i64 v) ∧ Below wc.heap.size wc w' := by
            have := ifp_c 1 (some ⟨b0, 0, none⟩) 1 1 (some ⟨b', off', none⟩) 1 d X' Y' x' y' (fun _ => 0) q wc hRA hRB (Nat.le_refl _) (by omega) (by omega) (by omega)
            rw [HE2.out] at this
            exact this
          have HCALL := Lib.hid hcall
          have hspec : ∀ u, Below wc.heap.size wc u → Calls Try.prog 18 #[fdV 1 (some ⟨b0, 0, none⟩) 1 1 (some ⟨b', off', none⟩) 1 d X' Y', .int .i64 x', .int .i64 y'] u fun e w' => e = .returned (.int .i64 v) ∧ Below u.heap.size u w' := fun u hu => by
            have := sfp_c 1 (some ⟨b0, 0, none⟩) 1 1 (some ⟨b', off', none⟩) 1 d X' Y' x' y' (fun _ => 0) q u (RS.below hu hRA (Nat.le_refl _)) (RS.below hu hRB (by omega)) hu.size (by have := hu.size; omega) (by omega) (by omega)
            rw [HE2.out] at this
            exact this
          have HSPEC := Lib.hid hspec
          clear hF hF0 hRA hRB hz0 hcall hspec
          go_wp2_with fail
          refine HCALL.out.mono ?_
          rintro e w3 ⟨rfl, hO_w3⟩
          have hz_w3 := hO_w3.size
          have c3_ := fun o => (bcell hO_w3).1 w1.heap.size o (by omega)
          have g3_ := fun o => (bcell hO_w3).1 g o (by omega)
          have b3_ := (hO_w3.cell (p := ⟨b', off' + kk, none⟩) hbb).trans hckc
          go_upto_region 8 with fail
          have hfl3 : w1.heap.size < w3.heap.size := by omega
          have hgl3 : g < w3.heap.size := by omega
          have hbb3 : b' < w3.heap.size := by omega
          refine wp_region_over (by kernel_rfl) (by kernel_rfl) ?_
          intro W3 hO_W3
          have hz_W3 := hO_W3.size
          (try simp only [World.size_alloc, World.size_setCell, World.size_drew] at hz_W3)
          have hs_W3_0 : w1.heap.size < W3.heap.size := (by omega)
          have c_W3_0 := fun o => (bcell hO_W3).1 (w1.heap.size) o (by (try simp only [World.size_alloc, World.size_setCell, World.size_drew]) <;> omega)
          have f_W3_0 := fun o => (bcell hO_W3).2 (w1.heap.size) o (by (try simp only [World.size_alloc, World.size_setCell, World.size_drew]) <;> omega)
          have hs_W3_1 : g < W3.heap.size := (by omega)
          have c_W3_1 := fun o => (bcell hO_W3).1 (g) o (by (try simp only [World.size_alloc, World.size_setCell, World.size_drew]) <;> omega)
          have f_W3_1 := fun o => (bcell hO_W3).2 (g) o (by (try simp only [World.size_alloc, World.size_setCell, World.size_drew]) <;> omega)
          have hs_W3_2 : b' < W3.heap.size := (by omega)
          have c_W3_2 := fun o => (bcell hO_W3).1 (b') o (by (try simp only [World.size_alloc, World.size_setCell, World.size_drew]) <;> omega)
          have f_W3_2 := fun o => (bcell hO_W3).2 (b') o (by (try simp only [World.size_alloc, World.size_setCell, World.size_drew]) <;> omega)
          have v_W3_0 := fun x o => over_cell W3 x (w1.heap.size) o hs_W3_0
          have v_W3_1 := fun x o => over_cell W3 x (g) o hs_W3_1
          have v_W3_2 := fun x o => over_cell W3 x (b') o hs_W3_2
          repeat (go_big_quiet_step ((go_at_call 18; refine Calls.over_of (HSPEC.out _ (hO_w3.trans ((hO_W3.trans (over_below W3 _ |>.mono (by omega))).mono (by omega)))))))
          refine wpQuiet_nil ?_
          intro W4 hx_W4
          obtain ⟨x_W4, hx_W4⟩ := hx_W4
          have hO_W4 : Below W3.heap.size W3 W4 := hx_W4 ▸ over_below W3 x_W4
          clear hx_W4
          have hz_W4 := hO_W4.size
          have hs_W4_0 : w1.heap.size < W4.heap.size := (by omega)
          have c_W4_0 := fun o => (bcell hO_W4).1 (w1.heap.size) o (by (try simp only [World.size_alloc, World.size_setCell, World.size_drew]) <;> omega)
          have f_W4_0 := fun o => (bcell hO_W4).2 (w1.heap.size) o (by (try simp only [World.size_alloc, World.size_setCell, World.size_drew]) <;> omega)
          have hs_W4_1 : g < W4.heap.size := (by omega)
          have c_W4_1 := fun o => (bcell hO_W4).1 (g) o (by (try simp only [World.size_alloc, World.size_setCell, World.size_drew]) <;> omega)
          have f_W4_1 := fun o => (bcell hO_W4).2 (g) o (by (try simp only [World.size_alloc, World.size_setCell, World.size_drew]) <;> omega)
          have hs_W4_2 : b' < W4.heap.size := (by omega)
          have c_W4_2 := fun o => (bcell hO_W4).1 (b') o (by (try simp only [World.size_alloc, World.size_setCell, World.size_drew]) <;> omega)
          have f_W4_2 := fun o => (bcell hO_W4).2 (b') o (by (try simp only [World.size_alloc, World.size_setCell, World.size_drew]) <;> omega)
          go_wp2
          go_ret
          refine ⟨rfl, ?_⟩
          refine HB2.out.trans ((hbc.mono (by omega)).trans ((hO_w3.mono (by omega)).trans ?_))
          exact (hO_W3.mono (by omega)).trans (hO_W4.mono (by omega))
      · clear hv
        have hc : x < 0 ∨ (¬ x < 0 ∧ y < 0) ∨ (¬ x < 0 ∧ ¬ y < 0 ∧ 32 ≤ x) ∨ (¬ x < 0 ∧ ¬ y < 0 ∧ ¬ 32 ≤ x ∧ 16 ≤ y) := by omega
        clear hin
        rcases hc with h1 | ⟨h1, h2⟩ | ⟨h1, h2, h3⟩ | ⟨h1, h2, h3, h4⟩
        all_goals
          go_wp2_with (first | (go_at_call 14; (refine (sfv_c _ _ _ _ _ _ _ _ _ p q true HV.out _ (C := w1.heap.size) (C' := w1.heap.size) (by (repeat (first | with_reducible assumption | ((with_reducible refine RS.below (by assumption) ?_ ?_) <;> try ((try simp only [World.size_alloc, World.size_setCell, World.size_drew]) <;> omega)) | ((with_reducible refine RS.alloc ?_ ?_ _) <;> try ((try simp only [World.size_alloc, World.size_setCell, World.size_drew]) <;> omega)) | ((with_reducible refine RS.setRow ?_ ?_ _) <;> try ((try simp only [World.size_alloc, World.size_setCell, World.size_drew]) <;> omega)) | ((with_reducible refine RS.setCell ?_ ?_ _) <;> try ((try simp only [World.size_alloc, World.size_setCell, World.size_drew]) <;> omega)) | ((with_reducible refine RS.setCells ?_ ?_ _ _) <;> try ((try simp only [World.size_alloc, World.size_setCell, World.size_drew]) <;> omega)) | (with_reducible apply RS.drewN) | (with_reducible apply RS.drew)))) (by (repeat (first | with_reducible assumption | ((with_reducible refine RS.below (by assumption) ?_ ?_) <;> try ((try simp only [World.size_alloc, World.size_setCell, World.size_drew]) <;> omega)) | ((with_reducible refine RS.alloc ?_ ?_ _) <;> try ((try simp only [World.size_alloc, World.size_setCell, World.size_drew]) <;> omega)) | ((with_reducible refine RS.setRow ?_ ?_ _) <;> try ((try simp only [World.size_alloc, World.size_setCell, World.size_drew]) <;> omega)) | ((with_reducible refine RS.setCell ?_ ?_ _) <;> try ((try simp only [World.size_alloc, World.size_setCell, World.size_drew]) <;> omega)) | ((with_reducible refine RS.setCells ?_ ?_ _ _) <;> try ((try simp only [World.size_alloc, World.size_setCell, World.size_drew]) <;> omega)) | (with_reducible apply RS.drewN) | (with_reducible apply RS.drew)))) (by ((try simp only [World.size_alloc, World.size_setCell, World.size_drew]) <;> omega)) (by ((try simp only [World.size_alloc, World.size_setCell, World.size_drew]) <;> omega)) (by omega) (by omega)).mono ?_; rintro e w2 ⟨rfl, hO_w2⟩; have hz_w2 := hO_w2.size; (try simp only [World.size_alloc, World.size_setCell, World.size_drew] at hz_w2); have hs_w2_0 : w1.heap.size < w2.heap.size := (by omega); have c_w2_0 := fun o => (bcell hO_w2).1 (w1.heap.size) o (by (try simp only [World.size_alloc, World.size_setCell, World.size_drew]) <;> omega); have f_w2_0 := fun o => (bcell hO_w2).2 (w1.heap.size) o (by (try simp only [World.size_alloc, World.size_setCell, World.size_drew]) <;> omega))) | (go_at_call 15; refine (alive_c _).mono ?_; rintro e w' ⟨rfl, rfl⟩))
          go_ret
          refine ⟨rfl, ?_⟩
          (repeat (first | with_reducible exact Below.refl _ _ | ((with_reducible refine viaO (by assumption) ?_ ?_ ?_) <;> try ((try simp only [World.size_alloc, World.size_setCell, World.size_drew]) <;> omega)) | ((with_reducible refine Below.alloc ?_ ?_ _) <;> try ((try simp only [World.size_alloc, World.size_setCell, World.size_drew]) <;> omega)) | ((with_reducible refine Below.setCell ?_ ?_ _) <;> try ((try simp only [World.size_alloc, World.size_setCell, World.size_drew]) <;> omega)) | (with_reducible refine below_drewN ?_ _) | (with_reducible refine Below.drew ?_) | ((with_reducible refine via (by assumption) ?_ ?_) <;> try ((try simp only [World.size_alloc, World.size_setCell, World.size_drew]) <;> omega))))

set_option maxRecDepth 100000 in
theorem lifted (os : Os) (started : os.Started) (H : Type) (enc : TypeId × Value → H) :
    ReturnsInHanded {} Try.checked os 5 .any (Rows.fnFieldTileSpec.pre6 enc Try.prog Try.f5 Rows.fnFieldTileRow.domain false) (Rows.fnFieldTileSpec.post enc Try.prog Try.f5 false true false false) := by
  refine returnsInHanded_of_change (C := Try.checked) own started (by kernel_rfl) Try.func5
    (ChangeSpec.witness6 (enc := enc) (C := Try.checked) false ⟨#[], #[.slice none 0 0], []⟩ 8 (by kernel_rfl) (by kernel_rfl) (by kernel_rfl) (by kernel_rfl)) ?_
  intro W base args ds gs before hval0 hW hcnd _
  have hval : ∀ (j : Nat) t v, Try.f5.params[j]? = some t → args[j]? = some v → Value.okWide Try.prog W .any base t v := hval0
  have hW' := hW
  obtain ⟨p, q, hA0, hV, rfl, hfz, hnd⟩ := hW
  have hA : DataW.TrodAll enc Try.prog W 0 (fun _ => true) true Try.f5.params.toList args.toList ds p := hA0
  rw [Try.params5] at hA hval
  obtain ⟨v0, vs0, d0, ds0, p0, q0, hargs, rfl, rfl, h0, r0⟩ := trodAll_cons hA
  obtain ⟨rfl, rfl, rfl⟩ := trodAll_nil r0
  obtain rfl : args = #[v0] := by cases args; simp_all
  obtain ⟨rfl, rfl⟩ := trodVars_none hV
  have lt0 : ∀ x ∈ p0, x.block < W.heap.size := by obtain ⟨m, hm⟩ := h0; exact DataW.trod_lt m _ _ _ hm
  have a0 := codeArg (hval 0 22 v0 rfl rfl) h0
  clear hA0 hval0
  refine (walk v0 W a0).mono fun e W' ⟨he, bel⟩ => ?_
  subst he
  exact ⟨_, rfl, _, _, _, [], _, [], hW', trodAll_mk1 (shut_bool Try.underlying4 _), (trodAll_cons_mk (Below.trod laidOut (by kernel_rfl) (of_decide_eq_true (by kernel_rfl)) h0 bel lt0) trodAll_mk0), rfl, bel.frame _, fun h => by cases h⟩

theorem proved : Rows.FnFieldTileSaid :=
  OpenClaim.holds_of_wide 5 Try.f5 rfl rfl rfl rfl rfl rfl rfl ⟨rfl, rfl, rfl, rfl, rfl⟩ rfl rfl rfl rfl rfl (by kernel_rfl) Try.func5 (by kernel_rfl)
    (of_decide_eq_true (by kernel_rfl)) (by unfold Func.isWrapper; first | (rw [if_pos (by decide +kernel)]; kernel_rfl) | (rw [if_neg (by decide +kernel)]; exact ⟨rfl, rfl⟩))
    (fun os started H enc _ => lifted os started H enc)
#print axioms proved

end Go.Proofs.Ytojnfojecpdolaa.lawFnFieldTile
