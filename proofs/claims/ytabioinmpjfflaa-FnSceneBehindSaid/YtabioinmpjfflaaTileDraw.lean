/-
  What the drawn tiles are: some tile (its pixels whole numbers). No conditions.
-/
import Derived.Test.YtabioinmpjfflaaTile
import Derived.Deep.RegionWith
import Derived.IntWalk
namespace Go.Proofs.Ytabioinmpjfflaa
set_option linter.all false
set_option linter.unusedSimpArgs false
set_option linter.unusedVariables false
set_option maxRecDepth 20000
open Go.ChangeShapes Go.WideShapes Go.ChangeAt Go.RowKit

def DTile (R : Nat) (k : Int) (w : World) (e : Ending) (w' : World) : Prop := ∃ p : Nat → Int, e = .returned (.agg (tv p)) ∧ Only R w w' ∧ Rd w' R (k + 200)
theorem only_setRow {R : Nat} {a w : World} (h : Only R a w) {g : Nat} (hg : g = R ∨ a.heap.size ≤ g) (cs : Array Value) : Only R a (w.setRow g cs) :=
  ⟨h.os, h.tape, h.output, by simpa using h.size, fun i hi hn => (setRow_other w g i cs (by
    rintro rfl
    rcases hg with hg | hg
    · exact hn (by rw [hg])
    · omega)).trans (h.block i hi hn)⟩
theorem rd_setRow {w : World} {R : Nat} {k : Int} (h : Rd w R k) {g : Nat} (hg : R < g) (cs : Array Value) : Rd (w.setRow g cs) R k := h.keep fun i hi => setRow_other w g i cs (by omega)

set_option maxHeartbeats 1000000 in
theorem l20Tile_c (R : Nat) (n k0 : Int) (w : World) (hR : Rd w R k0) (hk0 : k0 ≤ 1000000) (hn : n ≤ 1000000) (hn0 : -1000000 ≤ n) :
    Calls Try.prog 72 #[.pointer (some ⟨R, 0, none⟩), .int .i64 n] w (DTile R k0 w) := by
  have hlt := hR.lt
  go_enter Try.func72, Try.ntmps72
  go_wp2_with (first | ((with_reducible refine atAlloc (ty := 36) ?_); refine wpList_alloc_tile rfl 36 rfl zero36 ?_; (try simp only [World.size_alloc, World.size_setCell, setRow_size])) | ((with_reducible refine atBuild (ty := 36) ?_); refine wpList_build_tile rfl 36 rfl build36 ?_) | ((with_reducible refine atStore (ty := 36) ?_); refine wpList_store_tile rfl 36 _ _ rfl _ rfl (zeroT) rfl 36 _ (TB.new1 w _ _ _) size36 ?_))
  have hZ0 : TB (((w.alloc (.cells (tv zeroT) 36)).alloc (.cells (tv zeroT) 36)).setRow (w.heap.size + 1) (tv zeroT)) w.heap.size 36 zeroT := ((TB.new w _ _).alloc _).farRow (by omega) _
  have hX0 : TB (((w.alloc (.cells (tv zeroT) 36)).alloc (.cells (tv zeroT) 36)).setRow (w.heap.size + 1) (tv zeroT)) (w.heap.size + 1) 36 zeroT := (TB.new1 w _ _ _).row _
  have hR0 : Rd (((w.alloc (.cells (tv zeroT) 36)).alloc (.cells (tv zeroT) 36)).setRow (w.heap.size + 1) (tv zeroT)) R k0 := rd_setRow ((hR.alloc _).alloc _) (by omega) _
  have hO0 : Only R w (((w.alloc (.cells (tv zeroT) 36)).alloc (.cells (tv zeroT) 36)).setRow (w.heap.size + 1) (tv zeroT)) := only_setRow (((Only.refl _ _).alloc _).alloc _) (.inr (by omega)) _
  refine (pick_c _ _ _ _ hR0 (by omega) (by omega) (by omega)).mono ?_
  rintro e w1 ⟨v0, hv0, rfl, hO1, hR1⟩
  have hZ1 := hZ0.only hO1 (by omega)
  have hX1 := hX0.only hO1 (by omega)
  have hP1 := hO0.trans hO1
  clear hZ0 hX0 hR0 hO0 hO1
  go_wp2_with fail
  refine (pick_c _ _ _ _ hR1 (by omega) (by omega) (by omega)).mono ?_
  rintro e w2 ⟨s0, hs0, rfl, hO2, hR2⟩
  have hZ2 := hZ1.only hO2 (by omega)
  have hX2 := hX1.only hO2 (by omega)
  have HP2 := Lib.hid (hP1.trans hO2)
  have HZ2 := Lib.hid hZ2
  have HX2 := Lib.hid hX2
  have HR2 := Lib.hid hR2
  clear hZ1 hX1 hR1 hP1 hO2 hZ2 hX2 hR2
  go_wp2_with fail
  go_loopw [6, 8] (fun u i wr => ∃ (k : Nat) (v : Int) (p : Nat → Int), k ≤ 64 ∧ i = .int .i64 k ∧ u = .int .i64 v ∧ TB wr (w.heap.size + 1) 36 p ∧ TB wr w.heap.size 36 zeroT ∧ Rd wr R (k0 + 2 + 2 * k) ∧ Only R w wr) (fun _ i _ => 64 - (intOf i).toNat)
  case atStart => exact ⟨0, v0, zeroT, by omega, rfl, rfl, HX2.out, HZ2.out, HR2.out.more (by omega), HP2.out⟩
  case round =>
    obtain ⟨k, v, p, hk, rfl, rfl, hX, hZ, hRr, hP⟩ := hrel
    have HX := Lib.hid hX
    have HZ := Lib.hid hZ
    have HP := Lib.hid hP
    have HR := Lib.hid hRr
    clear hX hZ hP hRr
    by_cases hlk : k < 64
    · go_wp2_with fail
      refine (pick_c _ _ _ _ HR.out (by omega) (by omega) (by omega)).mono ?_
      rintro e w3 ⟨a, ha, rfl, hO3, hR3⟩
      have HX3 := Lib.hid (HX.out.only hO3 (by omega))
      have HZ3 := Lib.hid (HZ.out.only hO3 (by omega))
      have HP3 := Lib.hid (HP.out.trans hO3)
      have HR3 := Lib.hid hR3
      clear hO3 hR3
      by_cases h0 : a = 0
      · subst h0
        go_wp2_with fail
        refine (pick_c _ _ _ _ HR3.out (by omega) (by omega) (by omega)).mono ?_
        rintro e w4 ⟨b, hb, rfl, hO4, hR4⟩
        have hX4 := HX3.out.only hO4 (by omega)
        have HX4 := Lib.hid hX4
        have HZ4 := Lib.hid (HZ3.out.only hO4 (by omega))
        have HP4 := Lib.hid (HP3.out.trans hO4)
        have HR4 := Lib.hid hR4
        have c4 := hX4.cell k hlk
        have f4 := hX4.frozen k
        clear hO4 hR4 hX4
        go_wp2
        go_roundw
        case rel => exact ⟨k + 1, _, _, by omega, by go_num, rfl, HX4.out.put _ _, HZ4.out.far (by simp) _, (HR4.out.more (by omega)).setCell (by simp; omega) _, HP4.out.setCell (.inr (by simp)) _⟩
        case measure => simp [intOf]; omega
      · have h0' : ((a : Int) == 0) = false := by simp; omega
        have hX3 := HX3.out
        have c4 := hX3.cell k hlk
        have f4 := hX3.frozen k
        clear hX3
        go_wp2
        go_roundw
        case rel => exact ⟨k + 1, _, _, by omega, by go_num, rfl, HX3.out.put _ _, HZ3.out.far (by simp) _, (HR3.out.more (by omega)).setCell (by simp; omega) _, HP3.out.setCell (.inr (by simp)) _⟩
        case measure => simp [intOf]; omega
    · have hk64 : k = 64 := by omega
      subst hk64
      go_wp2_with fail
      refine (odd_c _ _ _ _ HR.out (by omega) (by omega) (by omega)).mono ?_
      rintro e w3 ⟨b, rfl, hO3, hR3⟩
      have hX3 := HX.out.only hO3 (by omega)
      have hZ3 := HZ.out.only hO3 (by omega)
      have HP3 := Lib.hid (HP.out.trans hO3)
      have HR3 := Lib.hid hR3
      clear hO3 hR3
      cases b
      · go_wp2_with (first | ((with_reducible refine atLoad (ty := 36) ?_); refine wpList_load_tile rfl 36 _ rfl _ rfl 36 _ (hX3) _ Try.underlying36 rfl size36 ?_) | ((with_reducible refine atStore (ty := 36) ?_); refine wpList_store_tile rfl 36 _ _ rfl _ rfl (p) rfl 36 _ (hZ3) size36 ?_))
        refine bodyPost_ret (v := .agg (tv p)) (results_cell_row rfl _ _ _ _ _ _ _ rfl (hZ3.row p) Try.underlying36 rfl (by rw [tv_size]; exact size36)) rfl ⟨_, rfl, ?_, ?_⟩
        · exact only_setRow HP3.out (.inr (Nat.le_refl _)) _
        · exact rd_setRow (HR3.out.more (by omega)) (by omega) _
      · have HX3 := Lib.hid hX3
        have HZ3 := Lib.hid hZ3
        clear hX3 hZ3
        go_wp2_with fail
        refine (pick_c _ _ _ _ HR3.out (by omega) (by omega) (by omega)).mono ?_
        rintro e w4 ⟨at4, ha4, rfl, hO4, hR4⟩
        have HX4 := Lib.hid (HX3.out.only hO4 (by omega))
        have HZ4 := Lib.hid (HZ3.out.only hO4 (by omega))
        have HP4 := Lib.hid (HP3.out.trans hO4)
        have HR4 := Lib.hid hR4
        have hs4 : w.heap.size + 1 < w4.heap.size := HX4.out.lt
        clear hO4 hR4
        go_wp2_with fail
        refine (pick_c _ _ _ _ (HR4.out.alloc _) (by omega) (by omega) (by omega)).mono ?_
        rintro e w5 ⟨d, hd, rfl, hO5, hR5⟩
        obtain ⟨x, hx, hx0, hx1⟩ := hO5.int_new (m := d) (lo := -1) (hi := 4) (by omega) (by simp <;> omega) (by simp <;> omega)
        have hX5 := (HX4.out.alloc (.cells #[.int .i64 (-1), .int .i64 4] 3)).only hO5 (by omega)
        have hZ5 := (HZ4.out.alloc (.cells #[.int .i64 (-1), .int .i64 4] 3)).only hO5 (by omega)
        have HP5 := Lib.hid ((HP4.out.alloc _).trans hO5)
        have HR5 := Lib.hid hR5
        have h64 : at4 < 64 := by omega
        have c5 := hX5.cell at4 h64
        have f5 := hX5.frozen at4
        have hX6 := hX5.put at4 x
        have hZ6 := hZ5.far (a := ⟨w.heap.size + 1, at4, none⟩) (by simp) (.int .i64 x)
        clear hO5 hR5 hX5 hZ5
        go_wp2_with (first | ((with_reducible refine atLoad (ty := 36) ?_); refine wpList_load_tile rfl 36 _ rfl _ rfl 36 _ (hX6) _ Try.underlying36 rfl size36 ?_) | ((with_reducible refine atStore (ty := 36) ?_); refine wpList_store_tile rfl 36 _ _ rfl _ rfl (upd p at4 x) rfl 36 _ (hZ6) size36 ?_))
        refine bodyPost_ret (v := .agg (tv (upd p at4 x))) (results_cell_row rfl _ _ _ _ _ _ _ rfl (hZ6.row _) Try.underlying36 rfl (by rw [tv_size]; exact size36)) rfl ⟨_, rfl, ?_, ?_⟩
        · exact only_setRow (HP5.out.setCell (.inr (by simp)) _) (.inr (Nat.le_refl _)) _
        · exact rd_setRow ((HR5.out.more (by omega)).setCell (by simp; omega) _) (by omega) _

end Go.Proofs.Ytabioinmpjfflaa
