/-
  The law FnTilePlanes holds: the planes of a tile are independent; for every code. No conditions.
-/
import Derived.Test.YtpddgepjlpdfjaaOpen
import Derived.Test.YtpddgepjlpdfjaaTileDraw
import Derived.Test.YtpddgepjlpdfjaaTileList
import Derived.Deep.RegionHeld3
namespace Go.Proofs.Ytpddgepjlpdfjaa.lawFnTilePlanes
set_option linter.all false
set_option linter.unusedSimpArgs false
set_option linter.unusedVariables false
open Go.ChangeShapes Go.WideShapes Go.ChangeAt Go.RowKit

def lowP (p : Nat → Int) : Nat → Int := fun j => p j % 2
def highP (p : Nat → Int) : Nat → Int := fun j => p j / 2 * 2
theorem low_valid (p : Nat → Int) : tvd (lowP p) = true := tvd_true.2 fun i _ => inB_true.2 (by unfold lowP; omega)
theorem high_valid (p : Nat → Int) (h : tvd p = true) : tvd (highP p) = true := tvd_true.2 fun i hi => by
  have := inB_true.1 (tvd_true.1 h i hi)
  exact inB_true.2 (by unfold highP; omega)
theorem rf_zero : ∀ m, rf (fun _ => 0) m = 0
  | 0 => rfl
  | m + 1 => by show 2 * rf _ m + 0 = 0; rw [rf_zero m]; rfl
theorem low_low (p : Nat → Int) : ∀ r, r < 8 → tb (lowP p) r = tb p r := fun r hr => by
  unfold tb
  rw [show r / 8 = 0 by omega]
  congr 1
  funext x
  show lowP p _ % 2 = p _ % 2
  unfold lowP
  omega
theorem low_high (p : Nat → Int) : ∀ r, r < 8 → tb (lowP p) (8 + r) = 0 := fun r hr => by
  unfold tb
  rw [show (8 + r) / 8 = 1 by omega]
  have : (fun x => dg (lowP p) ((8 + r) % 8 * 8 + x) 1) = fun _ => 0 := by
    funext x
    show lowP p _ / 2 % 2 = 0
    unfold lowP
    omega
  rw [this, rf_zero]
theorem high_low (p : Nat → Int) : ∀ r, r < 8 → tb (highP p) r = 0 := fun r hr => by
  unfold tb
  rw [show r / 8 = 0 by omega]
  have : (fun x => dg (highP p) (r % 8 * 8 + x) 0) = fun _ => 0 := by
    funext x
    show highP p _ % 2 = 0
    unfold highP
    omega
  rw [this, rf_zero]
theorem high_high (p : Nat → Int) : ∀ r, r < 8 → tb (highP p) (8 + r) = tb p (8 + r) := fun r hr => by
  unfold tb
  rw [show (8 + r) / 8 = 1 by omega]
  congr 1
  funext x
  show highP p _ / 2 % 2 = p _ / 2 % 2
  unfold highP
  omega
theorem new8 (W : World) : RS (W.alloc (.cells (ca 8 fun _ => .int .i64 0) 3)) (W.heap.size + 1) 1 (some ⟨W.heap.size, 0, none⟩) 8 (iv fun _ => 0) :=
  (CB.new W 3 8 (iv fun _ => 0)).rs.more (by simp)
theorem upd_step2 (q : Nat → Int) (k i : Nat) : upd (fun j => if j < k then q j else 0) k (q k) i = if i < k + 1 then q i else 0 := upd_step q k i

set_option maxHeartbeats 2000000 in
theorem walk (v0 : Value) (w : World) (h0 : CodeArg w v0) : Calls Try.prog 12 #[v0] w fun e w' => e = .returned (.bool true) ∧ Below w.heap.size w w' := by
  obtain ⟨a, len, cap, rfl, hcode, hl⟩ := h0
  have hm := hcode.1; unfold maxLen at hm
  by_cases hlen : 1048576 < len
  · go_enter Try.func12, Try.ntmps12
    go_wp2
    go_ret
    exact ⟨rfl, Below.refl _ _⟩
  · have hmk : ∀ W : World, (Instr.makeSlice 38 (.int .i64 8) (.int .i64 8)).run Try.prog W = .ok (.slice (some ⟨W.heap.size, 0, none⟩) 8 8) (W.alloc (.cells (ca 8 fun _ => .int .i64 0) 3)) := makeInts 8 (by omega)
    have HMK := Lib.hid hmk
    clear hmk
    go_enter Try.func12, Try.ntmps12
    go_wp2_with fail
    refine (drawTileBytes_c _ _ _ _ hcode hl).mono ?_
    rintro e w1 ⟨p, rfl, hO_w1⟩
    have hz_w1 := hO_w1.size
    have t1 := TB.new w1 26 p
    clear hm hcode
    cases hv : tvd p
    · have HV := Lib.hid hv
      have H1 := Lib.hid (fun w => itb_c p false hv w)
      have H2 := Lib.hid (fun w => stb_c p false hv w)
      clear hv
      rw [show tbN false = 0 from rfl] at H1 H2
      go_wp2_with (first | ((with_reducible refine atAlloc (ty := 26) ?_); refine wpList_alloc_tile rfl 26 rfl zero26 ?_; (try simp only [World.size_alloc, World.size_setCell, setRow_size])) | ((with_reducible refine atStore (ty := 26) ?_); refine wpList_store_tile_new rfl 26 _ _ rfl rfl (p) rfl 26 _ size26 ?_) | ((with_reducible refine atLoad (ty := 26) ?_); refine wpList_load_tile rfl 26 _ rfl _ rfl 26 _ (t1) _ Try.underlying26 rfl size26 ?_))
      go_wp2_with fail
      refine (H1.out _).mono ?_
      rintro e w2 ⟨A2, cap2, rfl, h2, hO_w2⟩
      have hz_w2 := hO_w2.size
      (try simp only [World.size_alloc, World.size_setCell, World.size_drew] at hz_w2)
      have s2 := own_rs h2
      have l2 := own_cap h2
      have t2 := t1.below hO_w2 t1.lt
      clear t1
      go_wp2_with ((with_reducible refine atLoad (ty := 26) ?_); refine wpList_load_tile rfl 26 _ rfl _ rfl 26 _ (t2) _ Try.underlying26 rfl size26 ?_)
      go_wp2_with fail
      refine (H2.out _).mono ?_
      rintro e w3 ⟨A3, cap3, rfl, h3, hO_w3⟩
      have hz_w3 := hO_w3.size
      (try simp only [World.size_alloc, World.size_setCell, World.size_drew] at hz_w3)
      have s3 := own_rs h3
      have l3 := own_cap h3
      go_wp2_with fail
      refine (sameInts_c _ _ _ _ _ _ _ _ (C := w2.heap.size) (C' := w3.heap.size) (by (repeat (first | with_reducible assumption | ((with_reducible refine RS.below (by assumption) ?_ ?_) <;> try ((try simp only [World.size_alloc, World.size_setCell, World.size_drew]) <;> omega)) | ((with_reducible refine RS.alloc ?_ ?_ _) <;> try ((try simp only [World.size_alloc, World.size_setCell, World.size_drew]) <;> omega)) | ((with_reducible refine RS.setRow ?_ ?_ _) <;> try ((try simp only [World.size_alloc, World.size_setCell, World.size_drew]) <;> omega)) | ((with_reducible refine RS.setCell ?_ ?_ _) <;> try ((try simp only [World.size_alloc, World.size_setCell, World.size_drew]) <;> omega)) | ((with_reducible refine RS.setCells ?_ ?_ _ _) <;> try ((try simp only [World.size_alloc, World.size_setCell, World.size_drew]) <;> omega)) | (with_reducible apply RS.drewN) | (with_reducible apply RS.drew)))) (by (repeat (first | with_reducible assumption | ((with_reducible refine RS.below (by assumption) ?_ ?_) <;> try ((try simp only [World.size_alloc, World.size_setCell, World.size_drew]) <;> omega)) | ((with_reducible refine RS.alloc ?_ ?_ _) <;> try ((try simp only [World.size_alloc, World.size_setCell, World.size_drew]) <;> omega)) | ((with_reducible refine RS.setRow ?_ ?_ _) <;> try ((try simp only [World.size_alloc, World.size_setCell, World.size_drew]) <;> omega)) | ((with_reducible refine RS.setCell ?_ ?_ _) <;> try ((try simp only [World.size_alloc, World.size_setCell, World.size_drew]) <;> omega)) | ((with_reducible refine RS.setCells ?_ ?_ _ _) <;> try ((try simp only [World.size_alloc, World.size_setCell, World.size_drew]) <;> omega)) | (with_reducible apply RS.drewN) | (with_reducible apply RS.drew)))) (by ((try simp only [World.size_alloc, World.size_setCell, World.size_drew]) <;> omega)) (by ((try simp only [World.size_alloc, World.size_setCell, World.size_drew]) <;> omega)) (by omega) (fun _ _ => rfl)).mono ?_
      rintro e w4 ⟨rfl, hO_w4⟩
      have hz_w4 := hO_w4.size
      (try simp only [World.size_alloc, World.size_setCell, World.size_drew] at hz_w4)
      go_wp2_with (go_at_call 26; refine (alive_c _).mono ?_; rintro e w' ⟨rfl, rfl⟩)
      go_ret
      refine ⟨rfl, ?_⟩
      (repeat (first | with_reducible exact Below.refl _ _ | ((with_reducible refine viaO (by assumption) ?_ ?_ ?_) <;> try ((try simp only [World.size_alloc, World.size_setCell, World.size_drew]) <;> omega)) | ((with_reducible refine Below.alloc ?_ ?_ _) <;> try ((try simp only [World.size_alloc, World.size_setCell, World.size_drew]) <;> omega)) | ((with_reducible refine Below.setCell ?_ ?_ _) <;> try ((try simp only [World.size_alloc, World.size_setCell, World.size_drew]) <;> omega)) | (with_reducible refine below_drewN ?_ _) | (with_reducible refine Below.drew ?_) | ((with_reducible refine via (by assumption) ?_ ?_) <;> try ((try simp only [World.size_alloc, World.size_setCell, World.size_drew]) <;> omega))))
    · have hall := tvd_true.1 hv
      have HA := Lib.hid hall
      have H1 := Lib.hid (fun w => itb_c p true hv w)
      have H2 := Lib.hid (fun w => stb_c p true hv w)
      have HL := Lib.hid (fun w => itb_c (lowP p) true (low_valid p) w)
      have HH := Lib.hid (fun w => itb_c (highP p) true (high_valid p hv) w)
      clear hv hall
      rw [show tbN true = 16 from rfl] at H1 H2 HL HH
      go_wp2_with (first | ((with_reducible refine atAlloc (ty := 26) ?_); refine wpList_alloc_tile rfl 26 rfl zero26 ?_; (try simp only [World.size_alloc, World.size_setCell, setRow_size])) | ((with_reducible refine atStore (ty := 26) ?_); refine wpList_store_tile_new rfl 26 _ _ rfl rfl (p) rfl 26 _ size26 ?_) | ((with_reducible refine atLoad (ty := 26) ?_); refine wpList_load_tile rfl 26 _ rfl _ rfl 26 _ (t1) _ Try.underlying26 rfl size26 ?_))
      go_wp2_with fail
      refine (H1.out _).mono ?_
      rintro e w2 ⟨A2, cap2, rfl, h2, hO_w2⟩
      have hz_w2 := hO_w2.size
      (try simp only [World.size_alloc, World.size_setCell, World.size_drew] at hz_w2)
      have s2 := own_rs h2
      have l2 := own_cap h2
      have t2 := t1.below hO_w2 t1.lt
      clear t1
      go_wp2_with ((with_reducible refine atLoad (ty := 26) ?_); refine wpList_load_tile rfl 26 _ rfl _ rfl 26 _ (t2) _ Try.underlying26 rfl size26 ?_)
      go_wp2_with fail
      refine (H2.out _).mono ?_
      rintro e w3 ⟨A3, cap3, rfl, h3, hO_w3⟩
      have hz_w3 := hO_w3.size
      (try simp only [World.size_alloc, World.size_setCell, World.size_drew] at hz_w3)
      have s3 := own_rs h3
      have l3 := own_cap h3
      have t3 := t2.below hO_w3 t2.lt
      go_wp2_with fail
      refine (sameInts_c _ _ _ _ _ _ _ _ (C := w2.heap.size) (C' := w3.heap.size) (by (repeat (first | with_reducible assumption | ((with_reducible refine RS.below (by assumption) ?_ ?_) <;> try ((try simp only [World.size_alloc, World.size_setCell, World.size_drew]) <;> omega)) | ((with_reducible refine RS.alloc ?_ ?_ _) <;> try ((try simp only [World.size_alloc, World.size_setCell, World.size_drew]) <;> omega)) | ((with_reducible refine RS.setRow ?_ ?_ _) <;> try ((try simp only [World.size_alloc, World.size_setCell, World.size_drew]) <;> omega)) | ((with_reducible refine RS.setCell ?_ ?_ _) <;> try ((try simp only [World.size_alloc, World.size_setCell, World.size_drew]) <;> omega)) | ((with_reducible refine RS.setCells ?_ ?_ _ _) <;> try ((try simp only [World.size_alloc, World.size_setCell, World.size_drew]) <;> omega)) | (with_reducible apply RS.drewN) | (with_reducible apply RS.drew)))) (by (repeat (first | with_reducible assumption | ((with_reducible refine RS.below (by assumption) ?_ ?_) <;> try ((try simp only [World.size_alloc, World.size_setCell, World.size_drew]) <;> omega)) | ((with_reducible refine RS.alloc ?_ ?_ _) <;> try ((try simp only [World.size_alloc, World.size_setCell, World.size_drew]) <;> omega)) | ((with_reducible refine RS.setRow ?_ ?_ _) <;> try ((try simp only [World.size_alloc, World.size_setCell, World.size_drew]) <;> omega)) | ((with_reducible refine RS.setCell ?_ ?_ _) <;> try ((try simp only [World.size_alloc, World.size_setCell, World.size_drew]) <;> omega)) | ((with_reducible refine RS.setCells ?_ ?_ _ _) <;> try ((try simp only [World.size_alloc, World.size_setCell, World.size_drew]) <;> omega)) | (with_reducible apply RS.drewN) | (with_reducible apply RS.drew)))) (by ((try simp only [World.size_alloc, World.size_setCell, World.size_drew]) <;> omega)) (by ((try simp only [World.size_alloc, World.size_setCell, World.size_drew]) <;> omega)) (by omega) (fun _ _ => rfl)).mono ?_
      rintro e w4 ⟨rfl, hO_w4⟩
      have hz_w4 := hO_w4.size
      (try simp only [World.size_alloc, World.size_setCell, World.size_drew] at hz_w4)
      have t4 := t3.below hO_w4 t3.lt
      have S2 : RS w4 w2.heap.size 1 A2 16 (iv (tb p)) := by (repeat (first | with_reducible assumption | ((with_reducible refine RS.below (by assumption) ?_ ?_) <;> try ((try simp only [World.size_alloc, World.size_setCell, World.size_drew]) <;> omega)) | ((with_reducible refine RS.alloc ?_ ?_ _) <;> try ((try simp only [World.size_alloc, World.size_setCell, World.size_drew]) <;> omega)) | ((with_reducible refine RS.setRow ?_ ?_ _) <;> try ((try simp only [World.size_alloc, World.size_setCell, World.size_drew]) <;> omega)) | ((with_reducible refine RS.setCell ?_ ?_ _) <;> try ((try simp only [World.size_alloc, World.size_setCell, World.size_drew]) <;> omega)) | ((with_reducible refine RS.setCells ?_ ?_ _ _) <;> try ((try simp only [World.size_alloc, World.size_setCell, World.size_drew]) <;> omega)) | (with_reducible apply RS.drewN) | (with_reducible apply RS.drew)))
      clear t2 t3 s3 h3
      go_wp2_with (first | ((with_reducible refine atAlloc (ty := 26) ?_); refine wpList_alloc_tile rfl 26 rfl zero26 ?_; (try simp only [World.size_alloc, World.size_setCell, setRow_size])) | ((with_reducible refine atBuild (ty := 26) ?_); refine wpList_build_tile rfl 26 rfl build26 ?_) | ((with_reducible refine atStore (ty := 26) ?_); refine wpList_store_tile_new rfl 26 _ _ rfl rfl (zeroT) rfl 26 _ size26 ?_) | ((with_reducible refine atStore (ty := 26) ?_); refine wpList_store_tile rfl 26 _ _ rfl _ rfl (zeroT) rfl 26 _ (TB.new1 w4 _ _ zeroT) size26 ?_))
      have hlt4 : w1.heap.size < w4.heap.size := t4.lt
      go_loopw [7] (fun i wr => ∃ k : Nat, k ≤ 64 ∧ i = .int .i64 k ∧ TB wr w4.heap.size 26 (fun j => if j < k then lowP p j else 0) ∧ TB wr (w4.heap.size + 1) 26 (fun j => if j < k then highP p j else 0) ∧ TB wr w1.heap.size 26 p ∧ Below w4.heap.size w4 wr) (fun i _ => 64 - (intOf i).toNat)
      case atStart =>
        refine ⟨0, by omega, rfl, (((TB.new w4 _ zeroT).alloc _).farRow (by omega) _).congr (fun i _ => by simp [zeroT]), ((TB.new1 w4 _ _ zeroT).row zeroT).congr (fun i _ => by simp [zeroT]), ((t4.alloc _).alloc _).farRow (by omega) _, ?_⟩
        refine below_setRow ?_ (by omega) _
        (repeat (first | with_reducible exact Below.refl _ _ | ((with_reducible refine viaO (by assumption) ?_ ?_ ?_) <;> try ((try simp only [World.size_alloc, World.size_setCell, World.size_drew]) <;> omega)) | ((with_reducible refine Below.alloc ?_ ?_ _) <;> try ((try simp only [World.size_alloc, World.size_setCell, World.size_drew]) <;> omega)) | ((with_reducible refine Below.setCell ?_ ?_ _) <;> try ((try simp only [World.size_alloc, World.size_setCell, World.size_drew]) <;> omega)) | (with_reducible refine below_drewN ?_ _) | (with_reducible refine Below.drew ?_) | ((with_reducible refine via (by assumption) ?_ ?_) <;> try ((try simp only [World.size_alloc, World.size_setCell, World.size_drew]) <;> omega))))
      case round =>
        obtain ⟨k, hk, rfl, h1, h2, h3, hb⟩ := hrel
        have G1 := Lib.hid h1
        have G2 := Lib.hid h2
        have G3 := Lib.hid h3
        have HB := Lib.hid hb
        clear t4
        by_cases hlk : k < 64
        · have c1 := h1.cell k hlk
          have f1 := h1.frozen k
          have c2 := h2.cell k hlk
          have f2 := h2.frozen k
          have c3 := h3.cell k hlk
          obtain ⟨b0, b1⟩ := inB_true.1 (HA.out k hlk)
          clear h1 h2 h3 hb
          go_wp2
          go_roundw
          case rel =>
            refine ⟨k + 1, by omega, by go_num, ?_, ?_, ?_, ?_⟩
            · exact ((G1.out.put k (lowP p k)).congr (fun i hi => upd_step (lowP p) k i)).far (by simp) _
            · exact ((G2.out.far (by simp) _).put k (highP p k)).congr (fun i hi => upd_step (highP p) k i)
            · exact (G3.out.far (by simp <;> omega) _).far (by simp <;> omega) _
            · exact (HB.out.setCell (by simp) _).setCell (by simp) _
          case measure => simp [intOf]; omega
        · have hk64 : k = 64 := by omega
          subst hk64
          have L := h1.congr (q := lowP p) fun i hi => by simp [hi]
          have U := h2.congr (q := highP p) fun i hi => by simp [hi]
          clear h1 h2 h3
          go_wp2_with ((with_reducible refine atLoad (ty := 26) ?_); refine wpList_load_tile rfl 26 _ rfl _ rfl 26 _ (L) _ Try.underlying26 rfl size26 ?_)
          go_wp2_with fail
          refine (HL.out _).mono ?_
          rintro e w5 ⟨A5, cap5, rfl, h5, hO_w5⟩
          have hz_w5 := hO_w5.size
          (try simp only [World.size_alloc, World.size_setCell, World.size_drew] at hz_w5)
          have s5 := own_rs h5
          have l5 := own_cap h5
          have U5 := U.below hO_w5 U.lt
          go_wp2_with ((with_reducible refine atLoad (ty := 26) ?_); refine wpList_load_tile rfl 26 _ rfl _ rfl 26 _ (U5) _ Try.underlying26 rfl size26 ?_)
          go_wp2_with fail
          refine (HH.out _).mono ?_
          rintro e w6 ⟨A6, cap6, rfl, h6, hO_w6⟩
          have hz_w6 := hO_w6.size
          (try simp only [World.size_alloc, World.size_setCell, World.size_drew] at hz_w6)
          have s6 := own_rs h6
          have l6 := own_cap h6
          have hzr := hb.size
          (try simp only [World.size_alloc, World.size_setCell, World.size_drew] at hz_w5)
          have T2 : RS w6 w2.heap.size 1 A2 16 (iv (tb p)) := by (repeat (first | with_reducible assumption | ((with_reducible refine RS.below (by assumption) ?_ ?_) <;> try ((try simp only [World.size_alloc, World.size_setCell, World.size_drew]) <;> omega)) | ((with_reducible refine RS.alloc ?_ ?_ _) <;> try ((try simp only [World.size_alloc, World.size_setCell, World.size_drew]) <;> omega)) | ((with_reducible refine RS.setRow ?_ ?_ _) <;> try ((try simp only [World.size_alloc, World.size_setCell, World.size_drew]) <;> omega)) | ((with_reducible refine RS.setCell ?_ ?_ _) <;> try ((try simp only [World.size_alloc, World.size_setCell, World.size_drew]) <;> omega)) | ((with_reducible refine RS.setCells ?_ ?_ _ _) <;> try ((try simp only [World.size_alloc, World.size_setCell, World.size_drew]) <;> omega)) | (with_reducible apply RS.drewN) | (with_reducible apply RS.drew)))
          have T5 : RS w6 w5.heap.size 1 A5 16 (iv (tb (lowP p))) := by (repeat (first | with_reducible assumption | ((with_reducible refine RS.below (by assumption) ?_ ?_) <;> try ((try simp only [World.size_alloc, World.size_setCell, World.size_drew]) <;> omega)) | ((with_reducible refine RS.alloc ?_ ?_ _) <;> try ((try simp only [World.size_alloc, World.size_setCell, World.size_drew]) <;> omega)) | ((with_reducible refine RS.setRow ?_ ?_ _) <;> try ((try simp only [World.size_alloc, World.size_setCell, World.size_drew]) <;> omega)) | ((with_reducible refine RS.setCell ?_ ?_ _) <;> try ((try simp only [World.size_alloc, World.size_setCell, World.size_drew]) <;> omega)) | ((with_reducible refine RS.setCells ?_ ?_ _ _) <;> try ((try simp only [World.size_alloc, World.size_setCell, World.size_drew]) <;> omega)) | (with_reducible apply RS.drewN) | (with_reducible apply RS.drew)))
          have T6 : RS w6 w6.heap.size 1 A6 16 (iv (tb (highP p))) := s6
          obtain ⟨g2, rfl, _, _⟩ := own_head h2 (by omega)
          obtain ⟨g5, rfl, _, _⟩ := own_head h5 (by omega)
          obtain ⟨g6, rfl, _, _⟩ := own_head h6 (by omega)
          have a1 := T5.from_ 8 (by omega)
          have a2 := T6.take (k := 8) (by omega)
          have a3 := T5.take (k := 8) (by omega)
          have a4 := T2.take (k := 8) (by omega)
          have a5 := T6.from_ 8 (by omega)
          have a6 := T2.from_ 8 (by omega)
          simp only [Nat.zero_add, show 16 - 8 = 8 from rfl] at a1 a2 a3 a4 a5 a6
          have hhmk := HMK.out
          have k2 : ¬ cap2 = 8 := by omega
          have k5 : ¬ cap5 = 8 := by omega
          have k6 : ¬ cap6 = 8 := by omega
          have j2 : (8 : Int) ≤ (cap2 : Int) := by omega
          have j5 : (8 : Int) ≤ (cap5 : Int) := by omega
          have j6 : (8 : Int) ≤ (cap6 : Int) := by omega
          clear T2 T5 T6 h2 h5 h6 s2 s5 s6 S2 L U U5
          go_wp2
          go_region_held3 (fun _ => True) (trivial) ((go_at_call 40; first | ((with_reducible refine (sameInts_c (some ⟨g5, 8, none⟩) (some ⟨w6.heap.size, 0, none⟩) 8 _ _ (fun j => tb (lowP p) (8 + j)) (fun _ => 0) _ (C := w5.heap.size) (C' := w6.heap.size + 1) (by (repeat (first | with_reducible assumption | ((with_reducible refine RS.below (by assumption) ?_ ?_) <;> try ((try simp only [World.size_alloc, World.size_setCell, World.size_drew]) <;> omega)) | ((with_reducible refine RS.alloc ?_ ?_ _) <;> try ((try simp only [World.size_alloc, World.size_setCell, World.size_drew]) <;> omega)) | ((with_reducible refine RS.setRow ?_ ?_ _) <;> try ((try simp only [World.size_alloc, World.size_setCell, World.size_drew]) <;> omega)) | ((with_reducible refine RS.setCell ?_ ?_ _) <;> try ((try simp only [World.size_alloc, World.size_setCell, World.size_drew]) <;> omega)) | ((with_reducible refine RS.setCells ?_ ?_ _ _) <;> try ((try simp only [World.size_alloc, World.size_setCell, World.size_drew]) <;> omega)) | (with_reducible apply RS.drewN) | (with_reducible apply RS.drew)))) (by refine RS.drew (new8 _)) (by ((try simp only [World.size_alloc, World.size_setCell, World.size_drew]) <;> omega)) (by ((try simp only [World.size_alloc, World.size_setCell, World.size_drew]) <;> omega)) (by omega) (low_high p)).mono ?_); rintro e w7 ⟨rfl, hO_w7⟩; have hz_w7 := hO_w7.size; (try simp only [World.size_alloc, World.size_setCell, World.size_drew] at hz_w7)) | ((with_reducible refine (sameInts_c (some ⟨g6, 0, none⟩) (some ⟨w7.heap.size, 0, none⟩) 8 _ _ (tb (highP p)) (fun _ => 0) _ (C := w6.heap.size) (C' := w7.heap.size + 1) (by (repeat (first | with_reducible assumption | ((with_reducible refine RS.below (by assumption) ?_ ?_) <;> try ((try simp only [World.size_alloc, World.size_setCell, World.size_drew]) <;> omega)) | ((with_reducible refine RS.alloc ?_ ?_ _) <;> try ((try simp only [World.size_alloc, World.size_setCell, World.size_drew]) <;> omega)) | ((with_reducible refine RS.setRow ?_ ?_ _) <;> try ((try simp only [World.size_alloc, World.size_setCell, World.size_drew]) <;> omega)) | ((with_reducible refine RS.setCell ?_ ?_ _) <;> try ((try simp only [World.size_alloc, World.size_setCell, World.size_drew]) <;> omega)) | ((with_reducible refine RS.setCells ?_ ?_ _ _) <;> try ((try simp only [World.size_alloc, World.size_setCell, World.size_drew]) <;> omega)) | (with_reducible apply RS.drewN) | (with_reducible apply RS.drew)))) (by exact new8 _) (by ((try simp only [World.size_alloc, World.size_setCell, World.size_drew]) <;> omega)) (by ((try simp only [World.size_alloc, World.size_setCell, World.size_drew]) <;> omega)) (by omega) (high_low p)).mono ?_); rintro e w8 ⟨rfl, hO_w8⟩; have hz_w8 := hO_w8.size; (try simp only [World.size_alloc, World.size_setCell, World.size_drew] at hz_w8)) | ((with_reducible refine (sameInts_c (some ⟨g5, 0, none⟩) (some ⟨g2, 0, none⟩) 8 _ _ (tb (lowP p)) (tb p) _ (C := w5.heap.size) (C' := w2.heap.size) (by (repeat (first | with_reducible assumption | ((with_reducible refine RS.below (by assumption) ?_ ?_) <;> try ((try simp only [World.size_alloc, World.size_setCell, World.size_drew]) <;> omega)) | ((with_reducible refine RS.alloc ?_ ?_ _) <;> try ((try simp only [World.size_alloc, World.size_setCell, World.size_drew]) <;> omega)) | ((with_reducible refine RS.setRow ?_ ?_ _) <;> try ((try simp only [World.size_alloc, World.size_setCell, World.size_drew]) <;> omega)) | ((with_reducible refine RS.setCell ?_ ?_ _) <;> try ((try simp only [World.size_alloc, World.size_setCell, World.size_drew]) <;> omega)) | ((with_reducible refine RS.setCells ?_ ?_ _ _) <;> try ((try simp only [World.size_alloc, World.size_setCell, World.size_drew]) <;> omega)) | (with_reducible apply RS.drewN) | (with_reducible apply RS.drew)))) (by (repeat (first | with_reducible assumption | ((with_reducible refine RS.below (by assumption) ?_ ?_) <;> try ((try simp only [World.size_alloc, World.size_setCell, World.size_drew]) <;> omega)) | ((with_reducible refine RS.alloc ?_ ?_ _) <;> try ((try simp only [World.size_alloc, World.size_setCell, World.size_drew]) <;> omega)) | ((with_reducible refine RS.setRow ?_ ?_ _) <;> try ((try simp only [World.size_alloc, World.size_setCell, World.size_drew]) <;> omega)) | ((with_reducible refine RS.setCell ?_ ?_ _) <;> try ((try simp only [World.size_alloc, World.size_setCell, World.size_drew]) <;> omega)) | ((with_reducible refine RS.setCells ?_ ?_ _ _) <;> try ((try simp only [World.size_alloc, World.size_setCell, World.size_drew]) <;> omega)) | (with_reducible apply RS.drewN) | (with_reducible apply RS.drew)))) (by ((try simp only [World.size_alloc, World.size_setCell, World.size_drew]) <;> omega)) (by ((try simp only [World.size_alloc, World.size_setCell, World.size_drew]) <;> omega)) (by omega) (low_low p)).mono ?_); rintro e w9 ⟨rfl, hO_w9⟩; have hz_w9 := hO_w9.size; (try simp only [World.size_alloc, World.size_setCell, World.size_drew] at hz_w9)) | ((with_reducible refine (sameInts_c (some ⟨g6, 8, none⟩) (some ⟨g2, 8, none⟩) 8 _ _ (fun j => tb (highP p) (8 + j)) (fun j => tb p (8 + j)) _ (C := w6.heap.size) (C' := w2.heap.size) (by (repeat (first | with_reducible assumption | ((with_reducible refine RS.below (by assumption) ?_ ?_) <;> try ((try simp only [World.size_alloc, World.size_setCell, World.size_drew]) <;> omega)) | ((with_reducible refine RS.alloc ?_ ?_ _) <;> try ((try simp only [World.size_alloc, World.size_setCell, World.size_drew]) <;> omega)) | ((with_reducible refine RS.setRow ?_ ?_ _) <;> try ((try simp only [World.size_alloc, World.size_setCell, World.size_drew]) <;> omega)) | ((with_reducible refine RS.setCell ?_ ?_ _) <;> try ((try simp only [World.size_alloc, World.size_setCell, World.size_drew]) <;> omega)) | ((with_reducible refine RS.setCells ?_ ?_ _ _) <;> try ((try simp only [World.size_alloc, World.size_setCell, World.size_drew]) <;> omega)) | (with_reducible apply RS.drewN) | (with_reducible apply RS.drew)))) (by (repeat (first | with_reducible assumption | ((with_reducible refine RS.below (by assumption) ?_ ?_) <;> try ((try simp only [World.size_alloc, World.size_setCell, World.size_drew]) <;> omega)) | ((with_reducible refine RS.alloc ?_ ?_ _) <;> try ((try simp only [World.size_alloc, World.size_setCell, World.size_drew]) <;> omega)) | ((with_reducible refine RS.setRow ?_ ?_ _) <;> try ((try simp only [World.size_alloc, World.size_setCell, World.size_drew]) <;> omega)) | ((with_reducible refine RS.setCell ?_ ?_ _) <;> try ((try simp only [World.size_alloc, World.size_setCell, World.size_drew]) <;> omega)) | ((with_reducible refine RS.setCells ?_ ?_ _ _) <;> try ((try simp only [World.size_alloc, World.size_setCell, World.size_drew]) <;> omega)) | (with_reducible apply RS.drewN) | (with_reducible apply RS.drew)))) (by ((try simp only [World.size_alloc, World.size_setCell, World.size_drew]) <;> omega)) (by ((try simp only [World.size_alloc, World.size_setCell, World.size_drew]) <;> omega)) (by omega) (high_high p)).mono ?_); rintro e w10 ⟨rfl, hO_w10⟩; have hz_w10 := hO_w10.size; (try simp only [World.size_alloc, World.size_setCell, World.size_drew] at hz_w10))))
          all_goals
            go_wp2
            go_ret
            refine ⟨rfl, ?_⟩
            (repeat (first | with_reducible exact Below.refl _ _ | ((with_reducible refine viaO (by assumption) ?_ ?_ ?_) <;> try ((try simp only [World.size_alloc, World.size_setCell, World.size_drew]) <;> omega)) | ((with_reducible refine Below.alloc ?_ ?_ _) <;> try ((try simp only [World.size_alloc, World.size_setCell, World.size_drew]) <;> omega)) | ((with_reducible refine Below.setCell ?_ ?_ _) <;> try ((try simp only [World.size_alloc, World.size_setCell, World.size_drew]) <;> omega)) | (with_reducible refine below_drewN ?_ _) | (with_reducible refine Below.drew ?_) | ((with_reducible refine via (by assumption) ?_ ?_) <;> try ((try simp only [World.size_alloc, World.size_setCell, World.size_drew]) <;> omega))))

set_option maxRecDepth 100000 in
theorem lifted (os : Os) (started : os.Started) (H : Type) (enc : TypeId × Value → H) :
    ReturnsInHanded {} Try.checked os 12 .any (Rows.fnTilePlanesSpec.pre6 enc Try.prog Try.f12 Rows.fnTilePlanesRow.domain false) (Rows.fnTilePlanesSpec.post enc Try.prog Try.f12 false true false false) := by
  refine returnsInHanded_of_change (C := Try.checked) own started (by kernel_rfl) Try.func12
    (ChangeSpec.witness6 (enc := enc) (C := Try.checked) false ⟨#[], #[.slice none 0 0], []⟩ 8 (by kernel_rfl) (by kernel_rfl) (by kernel_rfl) (by kernel_rfl)) ?_
  intro W base args ds gs before hval0 hW hcnd _
  have hval : ∀ (j : Nat) t v, Try.f12.params[j]? = some t → args[j]? = some v → Value.okWide Try.prog W .any base t v := hval0
  have hW' := hW
  obtain ⟨p, q, hA0, hV, rfl, hfz, hnd⟩ := hW
  have hA : DataW.TrodAll enc Try.prog W 0 (fun _ => true) true Try.f12.params.toList args.toList ds p := hA0
  rw [Try.params12] at hA hval
  obtain ⟨v0, vs0, d0, ds0, p0, q0, hargs, rfl, rfl, h0, r0⟩ := trodAll_cons hA
  obtain ⟨rfl, rfl, rfl⟩ := trodAll_nil r0
  obtain rfl : args = #[v0] := by cases args; simp_all
  obtain ⟨rfl, rfl⟩ := trodVars_none hV
  have lt0 : ∀ x ∈ p0, x.block < W.heap.size := by obtain ⟨m, hm⟩ := h0; exact DataW.trod_lt m _ _ _ hm
  have a0 := codeArg (hval 0 32 v0 rfl rfl) h0
  clear hA0 hval0
  refine (walk v0 W a0).mono fun e W' ⟨he, bel⟩ => ?_
  subst he
  exact ⟨_, rfl, _, _, _, [], _, [], hW', trodAll_mk1 (shut_bool Try.underlying4 _), (trodAll_cons_mk (Below.trod laidOut (by kernel_rfl) (of_decide_eq_true (by kernel_rfl)) h0 bel lt0) trodAll_mk0), rfl, bel.frame _, fun h => by cases h⟩

theorem proved : Rows.FnTilePlanesSaid :=
  OpenClaim.holds_of_wide 12 Try.f12 rfl rfl rfl rfl rfl rfl rfl ⟨rfl, rfl, rfl, rfl, rfl⟩ rfl rfl rfl rfl rfl (by kernel_rfl) Try.func12 (by kernel_rfl)
    (of_decide_eq_true (by kernel_rfl)) (by unfold Func.isWrapper; first | (rw [if_pos (by decide +kernel)]; kernel_rfl) | (rw [if_neg (by decide +kernel)]; exact ⟨rfl, rfl⟩))
    (fun os started H enc _ => lifted os started H enc)
#print axioms proved

end Go.Proofs.Ytpddgepjlpdfjaa.lawFnTilePlanes
