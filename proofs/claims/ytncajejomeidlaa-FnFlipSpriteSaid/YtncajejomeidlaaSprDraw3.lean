/-
  What DrawSpriteAt draws. No conditions.
-/
import Derived.Test.YtncajejomeidlaaSprDraw2
import Derived.Deep.RegionHeld3
namespace Go.Proofs.Ytncajejomeidlaa
set_option linter.all false
set_option linter.unusedSimpArgs false
set_option linter.unusedVariables false
open Go.ChangeShapes Go.WideShapes Go.ChangeAt Go.RowKit

set_option maxHeartbeats 2000000 in
theorem drawSpriteAt_c (a : Option Addr) (len cap : Nat) (w : World) (hcode : Code w a len) (hl : len ≤ cap) : Calls Try.prog 4 #[.slice a len cap] w (DS2 w) := by
  go_enter Try.func4, Try.ntmps4
  go_wp2_with fail
  refine (open_c _ _ _ _ (hcode.keep (by (repeat (first | with_reducible exact Below.refl _ _ | ((with_reducible refine viaO (by assumption) ?_ ?_ ?_) <;> try ((try simp only [World.size_alloc, World.size_setCell, World.size_drew]) <;> omega)) | ((with_reducible refine Below.alloc ?_ ?_ _) <;> try ((try simp only [World.size_alloc, World.size_setCell, World.size_drew]) <;> omega)) | ((with_reducible refine Below.setCell ?_ ?_ _) <;> try ((try simp only [World.size_alloc, World.size_setCell, World.size_drew]) <;> omega)) | (with_reducible refine below_drewN ?_ _) | (with_reducible refine Below.drew ?_) | ((with_reducible refine via (by assumption) ?_ ?_) <;> try ((try simp only [World.size_alloc, World.size_setCell, World.size_drew]) <;> omega)))))) (by assumption)).mono ?_
  rintro e w1 ⟨R, rfl, hR0, hO_w1, hR_w1⟩
  have hz_w1 := hO_w1.size
  (try simp only [World.size_alloc, World.size_setCell, World.size_drew] at hz_w1)
  (try simp only [World.size_alloc, World.size_setCell, World.size_drew] at hR0)
  have hlt_w1 := hR_w1.lt
  go_wp2_with fail
  refine (l20Tiles_c _ _ _ _ hR_w1 (by omega) (by omega) (by omega)).mono ?_
  rintro e w2 ⟨B, m, d, q, rfl, hm1, hm4, hB, hO2, hR2⟩
  have hz2 := hO2.size
  have hb2 : Below w.heap.size w w2 := viaO hO2 hO_w1 (by omega) (by omega)
  go_wp2_with fail
  refine (l20Sprites_c _ _ _ _ _ hR2 (by omega) (by omega) (by omega) (by omega)).mono ?_
  rintro e w3 ⟨A, n, c, s, rfl, hn, ⟨g, rfl⟩, hA, hO3, hR3⟩
  have hz3 := hO3.size
  have hB3 := own_onlyR hB hO3 (by omega)
  have hb3 : Below w.heap.size w w3 := viaO hO3 hb2 (by omega) (by omega)
  go_wp2_with fail
  refine (l20XY_c _ _ _ _ hR3 (by omega) (by omega) (by omega)).mono ?_
  rintro e w4 ⟨x, y, rfl, hO4, hR4⟩
  have hz4 := hO4.size
  have hB4 := own_onlyR hB3 hO4 (by omega)
  have hA4 := own_onlyR hA hO4 (by omega)
  have hb4 : Below w.heap.size w w4 := viaO hO4 hb3 (by omega) (by omega)
  have HB4 := Lib.hid hB4
  have HA4 := Lib.hid hA4
  have hc1 := own_cap hA4
  have hc2 := own_cap hB4
  clear hB hB3 hA hB4 hA4 hO2 hO3 hO4 hb2 hb3 hR2 hR3 hcode
  by_cases hn0 : n = 0
  · subst hn0
    go_wp2
    refine bodyPost_ret (v := .tuple #[.slice (some ⟨g, 0, none⟩) 0 c, .slice B m d, .int .i64 x, .int .i64 y]) (by simp [results, Try.results4, go_sem]) rfl ⟨_, 0, c, s, B, m, d, q, x, y, rfl, ⟨own_rs HA4.out, own_rs HB4.out, hc1, hc2, hn, hm1, hm4, g, rfl⟩, hb4⟩
  · have hnp : 0 < n := by omega
    have hni : 0 < (n : Int) := by omega
    go_wp2_with fail
    refine (pick_c _ _ _ _ hR4 (by omega) (by omega) (by omega)).mono ?_
    rintro e w5 ⟨t, ht, rfl, hO5, hR5⟩
    have hz5 := hO5.size
    have HB5 := Lib.hid (own_onlyR HB4.out hO5 (by omega))
    have HA5 := Lib.hid (own_onlyR HA4.out hO5 (by omega))
    have hb5 : Below w.heap.size w w5 := viaO hO5 hb4 (by omega) (by omega)
    clear hO5 hb4 hR4
    by_cases ht0 : t = 0
    · have ht1 : ((t : Int) == 0) = true := by simp [ht0]
      obtain ⟨g', hgg, hg0, hg1⟩ := own_head HA5.out hnp
      obtain rfl : g = g' := by injection hgg with e1; injection e1
      have c0 := (HA5.out.cellAt 0 (by omega)).trans (map_get (show 0 < n * 6 by omega))
      have c1 := (HA5.out.cellAt 1 (by omega)).trans (map_get (show 1 < n * 6 by omega))
      simp only [sc, Nat.zero_div, Nat.zero_mod, scl] at c0
      simp only [sc, show 1 / 6 = 0 from rfl, show 1 % 6 = 1 from rfl, scl] at c1
      have hRg : g ≠ R := by omega
      clear ht0 hgg
      go_upto_region 6 with fail
      go_region_held3 (fun w' => w'.cell? ⟨g, 0, none⟩ = some (.int .i64 (s 0).x)) (first | assumption | exact c0) (first | (go_at_call 14; refine (pick_c R 8 _ _ (show Rd w5.drew R _ from hR5) (by omega) (by omega) (by omega)).mono ?_; rintro e w6 ⟨v6, hv6, rfl, hO6, hR6⟩; have c0' : w6.cell? ⟨g, 0, none⟩ = some (.int .i64 (s 0).x) := (hO6.cells.1 g 0 (by simp; omega) hRg).trans c0; have c1' : w6.cell? ⟨g, 1, none⟩ = some (.int .i64 (s 0).y) := (hO6.cells.1 g 1 (by simp; omega) hRg).trans c1))
      have hz6 := hO6.size
      simp only [World.size_drew] at hz6
      have HB6 := Lib.hid (own_onlyR (show w5.drew.ownsRow _ _ _ _ _ _ from HB5.out) hO6 (by omega))
      have HA6 := Lib.hid (own_onlyR (show w5.drew.ownsRow _ _ _ _ _ _ from HA5.out) hO6 (by omega))
      have hb6 : Below w.heap.size w w6 := viaO hO6 hb5.drew (by omega) (by simp; omega)
      clear c0 c1
      go_upto_region 7 with fail
      go_region_held3 (fun w' => w'.cell? ⟨g, 1, none⟩ = some (.int .i64 (s 0).y)) (first | assumption | exact c1') (first | (go_at_call 14; refine (pick_c R 8 _ _ (show Rd w6.drew R _ from hR6) (by omega) (by omega) (by omega)).mono ?_; rintro e w7 ⟨v7, hv7, rfl, hO7, hR7⟩; have c1'' : w7.cell? ⟨g, 1, none⟩ = some (.int .i64 (s 0).y) := (hO7.cells.1 g 1 (by simp; omega) hRg).trans c1'))
      have HB7 := Lib.hid (own_onlyR (show w6.drew.ownsRow _ _ _ _ _ _ from HB6.out) hO7 (by omega))
      have HA7 := Lib.hid (own_onlyR (show w6.drew.ownsRow _ _ _ _ _ _ from HA6.out) hO7 (by omega))
      have hb7 : Below w.heap.size w w7 := viaO hO7 hb6.drew (by omega) (by simp; omega)
      go_wp2
      exact bodyPost_ret (v := .tuple #[.slice (some ⟨g, 0, none⟩) n c, .slice B m d, .int .i64 (IntKind.i64.wrap ((s 0).x + (v6 : Int))), .int .i64 (IntKind.i64.wrap ((s 0).y + (v7 : Int)))]) (by simp [results, Try.results4, go_sem]) rfl ⟨_, n, c, s, B, m, d, q, _, _, rfl, ⟨own_rs HA7.out, own_rs HB7.out, hc1, hc2, hn, hm1, hm4, g, rfl⟩, hb7⟩
    · have ht1 : ((t : Int) == 0) = false := by simpa using ht0
      clear ht0
      go_wp2
      exact bodyPost_ret (v := .tuple #[.slice (some ⟨g, 0, none⟩) n c, .slice B m d, .int .i64 x, .int .i64 y]) (by simp [results, Try.results4, go_sem]) rfl ⟨_, n, c, s, B, m, d, q, x, y, rfl, ⟨own_rs HA5.out, own_rs HB5.out, hc1, hc2, hn, hm1, hm4, g, rfl⟩, hb5⟩
end Go.Proofs.Ytncajejomeidlaa
