/-
  sameField: equal fields are the same. Conditions: at most 1048576 tiles and numbers.
-/
import Derived.Test.YthopeedonikdhaaTileNe
import Derived.Test.YthopeedonikdhaaField2
namespace Go.Proofs.Ythopeedonikdhaa
set_option linter.all false
set_option linter.unusedSimpArgs false
set_option linter.unusedVariables false
open Go.ChangeShapes Go.WideShapes Go.ChangeAt Go.RowKit

set_option maxRecDepth 100000 in
theorem sameField_c (W : Int) (A : Option Addr) (n c : Nat) (B : Option Addr) (m d : Nat) (X Y : Int) (A' : Option Addr) (c' : Nat) (B' : Option Addr) (d' : Nat) (p : Nat → Int) (q : Nat → Nat → Int) (w : World) {C1 C2 C3 C4 : Nat}
    (h1 : RS w C1 1 A n (iv p)) (h2 : RS w C2 64 B m (tc q)) (h3 : RS w C3 1 A' n (iv p)) (h4 : RS w C4 64 B' m (tc q)) (g1 : C1 ≤ w.heap.size) (g2 : C2 ≤ w.heap.size) (g3 : C3 ≤ w.heap.size) (g4 : C4 ≤ w.heap.size) (hn : n ≤ 1048576) (hm : m ≤ 1048576) :
    Calls Try.prog 11 #[fdV W A n c B m d X Y, fdV W A' n c' B' m d' X Y] w fun e w' => e = .returned (.bool true) ∧ Below w.heap.size w w' := by
  have H1 := Lib.hid h1
  have H2 := Lib.hid h2
  have H3 := Lib.hid h3
  have H4 := Lib.hid h4
  clear h1 h2 h3 h4
  go_enter Try.func11, Try.ntmps11
  go_wp2
  have hF0 := Lib.hid (FB.alloc (FB.new w 26 W A n c B m d X Y) (.cells #[.int .i64 W, .slice A' n c', .slice B' m d', .int .i64 X, .int .i64 Y] 26))
  have hF1 := FB.new (w.alloc (.cells #[.int .i64 W, .slice A n c, .slice B m d, .int .i64 X, .int .i64 Y] 26)) 26 W A' n c' B' m d' X Y
  rw [World.size_alloc] at hF1
  have HF1 := Lib.hid hF1
  clear hF1
  obtain ⟨w0, hw0⟩ : ∃ w0, (w.alloc (.cells #[.int .i64 W, .slice A n c, .slice B m d, .int .i64 X, .int .i64 Y] 26)).alloc (.cells #[.int .i64 W, .slice A' n c', .slice B' m d', .int .i64 X, .int .i64 Y] 26) = w0 := ⟨_, rfl⟩
  have hb0 : Hid (Below w.heap.size w w0) := Lib.hid (by rw [← hw0]; exact ((Below.refl _ _).alloc (Nat.le_refl _) _).alloc (by simp) _)
  have hs0 : w0.heap.size = w.heap.size + 1 + 1 := by rw [← hw0]; simp
  rw [hw0] at hF0 HF1
  have K2 := Lib.hid (RS.below hb0.out H2.out g2)
  have K4 := Lib.hid (RS.below hb0.out H4.out g4)
  have K1 := Lib.hid (RS.below hb0.out H1.out g1)
  have K3 := Lib.hid (RS.below hb0.out H3.out g3)
  (try rw [hw0])
  clear hw0 H1 H2 H3 H4
  go_loopw [5] (fun i wr => ∃ k : Nat, k ≤ m ∧ i = .int .i64 k ∧ Below w0.heap.size w0 wr) (fun i _ => m - (intOf i).toNat)
  case atStart => exact ⟨0, by omega, rfl, Below.refl _ _⟩
  case round =>
    obtain ⟨k, hk, rfl, hb⟩ := hrel
    have HB := Lib.hid hb
    have hbs := hb.size
    obtain ⟨c0, c1, c2, c3, c4⟩ := (FB.below hb hF0.out (by omega)).cells
    obtain ⟨d0, d1, d2, d3, d4⟩ := (FB.below hb HF1.out (by omega)).cells
    by_cases hlt : k < m
    · obtain ⟨b, off, rfl, hbl, hc⟩ := (RS.below hb K2.out (by omega)).at_ (by omega)
      obtain ⟨b', off', rfl, hbl', hc'⟩ := (RS.below hb K4.out (by omega)).at_ (by omega)
      have hr := ts_range hc hlt
      have hr' := ts_range hc' hlt
      have HR := Lib.hid hr
      have HR' := Lib.hid hr'
      have hi1 : (k : Int) < (m : Int) := by omega
      clear hb hc hc' hr hr'
      go_wp2
      refine wp_region_over (by kernel_rfl) (by kernel_rfl) ?_
      intro W1 hO_W
      have hsW := hO_W.size
      have hb1 : b < W1.heap.size := by omega
      have hb2 : b' < W1.heap.size := by omega
      have hr1 := rangeAt_below HR.out hO_W (by omega)
      have hr2 := rangeAt_below HR'.out hO_W (by omega)
      have f2 := ((bcell hO_W).1 w.heap.size 2 (by omega)).trans c2
      have f3 := ((bcell hO_W).1 (w.heap.size + 1) 2 (by omega)).trans d2
      have hz1 : w.heap.size < W1.heap.size := by omega
      have hz2 : w.heap.size + 1 < W1.heap.size := by omega
      have v0 := fun x o => over_cell W1 x w.heap.size o hz1
      have v1 := fun x o => over_cell W1 x (w.heap.size + 1) o hz2
      (conv => arg 6; simp only [Act.put, List.setIfInBounds_toArray, List.set_cons_zero, List.set_cons_succ])
      repeat (first | ((with_reducible refine atQLoad (ty := 45) ?_); first | (refine wpQuiet_load_tile_mid (by first | rfl | (go_simp; done) | (simp [Region.wanted, yielded]; done)) _ rfl b (off + k * 64) rfl (q k) hr1 hb1 ?_; (conv => arg 6; simp only [Act.put, List.setIfInBounds_toArray, List.set_cons_zero, List.set_cons_succ])) | (refine wpQuiet_load_tile_mid (by first | rfl | (go_simp; done) | (simp [Region.wanted, yielded]; done)) _ rfl b' (off' + k * 64) rfl (q k) hr2 hb2 ?_; (conv => arg 6; simp only [Act.put, List.setIfInBounds_toArray, List.set_cons_zero, List.set_cons_succ]))) | ((with_reducible refine atQBinOp (ty := 45) ?_); refine wpQuiet_neq_tile (by first | rfl | (go_simp; done) | (simp [Region.wanted, yielded]; done)) _ _ _ rfl (q k) (q k) rfl rfl rfl ?_; (conv => arg 6; simp only [Act.put, List.setIfInBounds_toArray, List.set_cons_zero, List.set_cons_succ])) | go_big_quiet_step (fail))
      refine wpQuiet_nil ?_
      intro W2 hx_W2
      obtain ⟨x_W2, hx_W2⟩ := hx_W2
      have hO_W2 : Below W1.heap.size W1 W2 := hx_W2 ▸ over_below W1 x_W2
      clear hx_W2
      go_wp2
      go_roundw
      case rel => exact ⟨k + 1, by omega, by go_num, via hO_W2 (via hO_W HB.out (by omega)) (by have := hO_W.size; omega)⟩
      case measure => simp [intOf]; omega
    · have hkn : k = m := by omega
      subst hkn
      clear hb
      go_wp2_with (first | (go_at_call 13; (refine (sameInts_c _ _ _ _ _ _ _ _ (C := C1) (C' := C3) (RS.below HB.out K1.out (by omega)) (RS.below HB.out K3.out (by omega)) (by ((try simp only [World.size_alloc, World.size_setCell, World.size_drew]) <;> omega)) (by ((try simp only [World.size_alloc, World.size_setCell, World.size_drew]) <;> omega)) hn (fun _ _ => rfl)).mono ?_; rintro e w2 ⟨rfl, hO_w2⟩; have hz_w2 := hO_w2.size; (try simp only [World.size_alloc, World.size_setCell, World.size_drew] at hz_w2); have hs_w2_0 : w.heap.size < w2.heap.size := (by omega); have c_w2_0 := fun o => (bcell hO_w2).1 (w.heap.size) o (by (try simp only [World.size_alloc, World.size_setCell, World.size_drew]) <;> omega); have f_w2_0 := fun o => (bcell hO_w2).2 (w.heap.size) o (by (try simp only [World.size_alloc, World.size_setCell, World.size_drew]) <;> omega); have hs_w2_1 : w.heap.size + 1 < w2.heap.size := (by omega); have c_w2_1 := fun o => (bcell hO_w2).1 (w.heap.size + 1) o (by (try simp only [World.size_alloc, World.size_setCell, World.size_drew]) <;> omega); have f_w2_1 := fun o => (bcell hO_w2).2 (w.heap.size + 1) o (by (try simp only [World.size_alloc, World.size_setCell, World.size_drew]) <;> omega))))
      go_ret
      exact ⟨rfl, hb0.out.trans ((HB.out.mono (by omega)).trans (hO_w2.mono (by omega)))⟩
end Go.Proofs.Ythopeedonikdhaa
