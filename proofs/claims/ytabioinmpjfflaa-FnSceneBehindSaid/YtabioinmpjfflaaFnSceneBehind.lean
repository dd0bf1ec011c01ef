/-
  The law FnSceneBehind holds: sprites behind a full background are not seen; for every code. No conditions.
-/
import Derived.Test.YtabioinmpjfflaaOpen
import Derived.Test.YtabioinmpjfflaaSceneDraw3
import Derived.Test.YtabioinmpjfflaaSceneLaw
import Derived.Test.YtabioinmpjfflaaSprOne
namespace Go.Proofs.Ytabioinmpjfflaa.lawFnSceneBehind
set_option linter.all false
set_option linter.unusedSimpArgs false
set_option linter.unusedVariables false
set_option maxRecDepth 20000
open Go.ChangeShapes Go.WideShapes Go.ChangeAt Go.RowKit

theorem upd_step (q : Nat → Int) (k i : Nat) : upd (fun j => if j < k then q j else 0) k (q k) i = if i < k + 1 then q i else 0 := by
  unfold upd
  by_cases e : i = k
  · subst e; simp
  · rw [if_neg e]
    show (if i < k then q i else 0) = _
    by_cases h : i < k
    · rw [if_pos h, if_pos (by omega)]
    · rw [if_neg h, if_neg (by omega)]
/-- The full tile. -/
def fullP (i : Nat) : Int := 1 + ((i % 3 : Nat) : Int)
/-- The sprites behind. -/
def behS (s : Nat → Spr) (i : Nat) : Spr := ⟨(s i).x, (s i).y, 0, (s i).ac, (s i).dn, true⟩
theorem full_valid : fvd 1 1 1 0 0 (fun _ => 0) (fun _ => fullP) = true := by decide +kernel
theorem full_tsv : tsv 1 (fun _ => fullP) = true := by decide +kernel
theorem beh_svd {k m : Nat} {s : Nat → Spr} {q : Nat → Nat → Int} (h : svd k m s q = true) : svd k 1 (behS s) (fun _ => fullP) = true := by
  obtain ⟨p1, p2, p3, p4⟩ := svd_parts h
  unfold svd
  rw [decide_eq_true p1, decide_eq_true (show 1 ≤ 16 by omega), full_tsv, sov_true.2 (fun i hi => ?_)]
  · rfl
  · have h4 := p4 i hi
    obtain ⟨h1, h2, h3, h4⟩ := sok_parts h4
    unfold sok behS
    simp only [inB_true.2 h1, inB_true.2 h2]
    rfl
theorem beh_scd {k m : Nat} {s : Nat → Spr} {q : Nat → Nat → Int} (h : svd k m s q = true) : scd 1 1 1 0 0 (fun _ => 0) (fun _ => fullP) k (behS s) = true := by
  unfold scd
  rw [full_valid, beh_svd h]
  rfl
theorem full_px (x y : Nat) : fpx 1 1 0 0 (fun _ => 0) (fun _ => fullP) x y ≠ 0 := by
  show 1 + ((_ : Nat) : Int) ≠ 0
  omega
theorem beh_line (k : Nat) (s : Nat → Spr) (y : Int) : scnL 1 1 0 0 (fun _ => 0) (fun _ => fullP) k (behS s) y = lnV 1 1 0 0 (fun _ => 0) (fun _ => fullP) y := by
  funext x
  show scq (fpx 1 1 0 0 (fun _ => 0) (fun _ => fullP) x y.toNat) (behS s) (fat (behS s) (fun _ => fullP) x y.toNat (shown k (behS s) y.toNat)) = fpx 1 1 0 0 (fun _ => 0) (fun _ => fullP) x y.toNat
  rcases fat_cases (behS s) (fun _ => fullP) x y.toNat (shown k (behS s) y.toNat) with h | ⟨i, hi, h, hz⟩
  · rw [h, scq_no]
  · rw [h, scq_back]
    have := full_px x y.toNat
    show (true && fpx 1 1 0 0 (fun _ => 0) (fun _ => fullP) x y.toNat != 0) = true
    simpa using this

theorem one_rs (w : World) (t : TypeId) (x : Int) : RS (w.alloc (.cells #[.int .i64 x] t)) (w.heap.size + 1) 1 (some ⟨w.heap.size, 0, none⟩) 1 (iv fun _ => x) :=
  .inr ⟨w.heap.size, 0, rfl, by omega, fun j hj => by
    obtain rfl : j = 0 := by omega
    rw [cell_of_row _ _ _ #[.int .i64 x] t (0, 0) (heap_alloc_new w _)]
    rfl⟩

theorem sh_put5 {w : World} {g : Nat} {t : TypeId} {W : Int} {A : Option Addr} {n c : Nat} {B : Option Addr} {m d : Nat} {X Y : Int} {S : Option Addr} {k e : Nat} (h : SH w g t W A n c B m d X Y S k e) (S' : Option Addr) (k' e' : Nat) : SH (w.setCell ⟨g, 5, none⟩ (.slice S' k' e')) g t W A n c B m d X Y S' k' e' := by
  unfold SH at h ⊢
  simp [World.setCell, Array.getElem?_modify, h]

set_option maxRecDepth 100000 in
set_option maxHeartbeats 4000000 in
theorem walk (v0 : Value) (w : World) (h0 : CodeArg w v0) : Calls Try.prog 3 #[v0] w fun e w' => e = .returned (.bool true) ∧ Below w.heap.size w w' := by
  obtain ⟨a, len, cap, rfl, hcode, hl⟩ := h0
  have hm := hcode.1; unfold maxLen at hm
  by_cases hlen : 1048576 < len
  · go_enter Try.func3, Try.ntmps3
    go_wp2
    go_ret
    exact ⟨rfl, Below.refl _ _⟩
  · go_enter Try.func3, Try.ntmps3
    go_wp2_with fail
    refine (drawSceneLine_c _ _ _ _ hcode hl).mono ?_
    rintro e w1 ⟨W, A, n, c, B, m, d, X, Y, S, k, f, y, rfl, ⟨hy1, hy2⟩, ⟨p, q, s, hA, hB, hS, hn, hm', hk, hn1, hm1, hk1⟩, hO_w1⟩
    have hz_w1 := hO_w1.size
    clear hm hcode
    obtain ⟨v, hv⟩ : ∃ v, scd W n m X Y p q k s = v := ⟨_, rfl⟩
    have HV := Lib.hid hv
    clear hv
    go_wp2_with fail
    refine (ssc_c _ _ _ _ _ _ _ _ _ _ _ _ p q s v HV.out _ (C := w1.heap.size) (C' := w1.heap.size) (C2 := w1.heap.size) (by (repeat (first | with_reducible assumption | ((with_reducible refine RS.below (by assumption) ?_ ?_) <;> try ((try simp only [World.size_alloc, World.size_setCell, World.size_drew]) <;> omega)) | ((with_reducible refine RS.alloc ?_ ?_ _) <;> try ((try simp only [World.size_alloc, World.size_setCell, World.size_drew]) <;> omega)) | ((with_reducible refine RS.setRow ?_ ?_ _) <;> try ((try simp only [World.size_alloc, World.size_setCell, World.size_drew]) <;> omega)) | ((with_reducible refine RS.setCell ?_ ?_ _) <;> try ((try simp only [World.size_alloc, World.size_setCell, World.size_drew]) <;> omega)) | ((with_reducible refine RS.setCells ?_ ?_ _ _) <;> try ((try simp only [World.size_alloc, World.size_setCell, World.size_drew]) <;> omega)) | (with_reducible apply RS.drewN) | (with_reducible apply RS.drew)))) (by (repeat (first | with_reducible assumption | ((with_reducible refine RS.below (by assumption) ?_ ?_) <;> try ((try simp only [World.size_alloc, World.size_setCell, World.size_drew]) <;> omega)) | ((with_reducible refine RS.alloc ?_ ?_ _) <;> try ((try simp only [World.size_alloc, World.size_setCell, World.size_drew]) <;> omega)) | ((with_reducible refine RS.setRow ?_ ?_ _) <;> try ((try simp only [World.size_alloc, World.size_setCell, World.size_drew]) <;> omega)) | ((with_reducible refine RS.setCell ?_ ?_ _) <;> try ((try simp only [World.size_alloc, World.size_setCell, World.size_drew]) <;> omega)) | ((with_reducible refine RS.setCells ?_ ?_ _ _) <;> try ((try simp only [World.size_alloc, World.size_setCell, World.size_drew]) <;> omega)) | (with_reducible apply RS.drewN) | (with_reducible apply RS.drew)))) (by (repeat (first | with_reducible assumption | ((with_reducible refine RS.below (by assumption) ?_ ?_) <;> try ((try simp only [World.size_alloc, World.size_setCell, World.size_drew]) <;> omega)) | ((with_reducible refine RS.alloc ?_ ?_ _) <;> try ((try simp only [World.size_alloc, World.size_setCell, World.size_drew]) <;> omega)) | ((with_reducible refine RS.setRow ?_ ?_ _) <;> try ((try simp only [World.size_alloc, World.size_setCell, World.size_drew]) <;> omega)) | ((with_reducible refine RS.setCell ?_ ?_ _) <;> try ((try simp only [World.size_alloc, World.size_setCell, World.size_drew]) <;> omega)) | ((with_reducible refine RS.setCells ?_ ?_ _ _) <;> try ((try simp only [World.size_alloc, World.size_setCell, World.size_drew]) <;> omega)) | (with_reducible apply RS.drewN) | (with_reducible apply RS.drew)))) (by ((try simp only [World.size_alloc, World.size_setCell, World.size_drew]) <;> omega)) (by ((try simp only [World.size_alloc, World.size_setCell, World.size_drew]) <;> omega)) (by ((try simp only [World.size_alloc, World.size_setCell, World.size_drew]) <;> omega)) (by omega) (by omega) (by omega)).mono ?_
    rintro e w2 ⟨rfl, hO_w2⟩
    have hz_w2 := hO_w2.size
    (try simp only [World.size_alloc, World.size_setCell, World.size_drew] at hz_w2)
    have hs_w2_0 : w1.heap.size < w2.heap.size := (by omega)
    have c_w2_0 := fun o => (bcell hO_w2).1 (w1.heap.size) o (by (try simp only [World.size_alloc, World.size_setCell, World.size_drew]) <;> omega)
    have f_w2_0 := fun o => (bcell hO_w2).2 (w1.heap.size) o (by (try simp only [World.size_alloc, World.size_setCell, World.size_drew]) <;> omega)
    have hb02 : Hid (Below w.heap.size w w2) := by
      refine Lib.hid ?_
      (repeat (first | with_reducible exact Below.refl _ _ | ((with_reducible refine viaO (by assumption) ?_ ?_ ?_) <;> try ((try simp only [World.size_alloc, World.size_setCell, World.size_drew]) <;> omega)) | ((with_reducible refine Below.alloc ?_ ?_ _) <;> try ((try simp only [World.size_alloc, World.size_setCell, World.size_drew]) <;> omega)) | ((with_reducible refine Below.setCell ?_ ?_ _) <;> try ((try simp only [World.size_alloc, World.size_setCell, World.size_drew]) <;> omega)) | (with_reducible refine below_drewN ?_ _) | (with_reducible refine Below.drew ?_) | ((with_reducible refine via (by assumption) ?_ ?_) <;> try ((try simp only [World.size_alloc, World.size_setCell, World.size_drew]) <;> omega))))
    have h12 : w1.heap.size < w2.heap.size := by omega
    have HS := Lib.hid (show RS w2 w1.heap.size 6 S k (sc s) by (repeat (first | with_reducible assumption | ((with_reducible refine RS.below (by assumption) ?_ ?_) <;> try ((try simp only [World.size_alloc, World.size_setCell, World.size_drew]) <;> omega)) | ((with_reducible refine RS.alloc ?_ ?_ _) <;> try ((try simp only [World.size_alloc, World.size_setCell, World.size_drew]) <;> omega)) | ((with_reducible refine RS.setRow ?_ ?_ _) <;> try ((try simp only [World.size_alloc, World.size_setCell, World.size_drew]) <;> omega)) | ((with_reducible refine RS.setCell ?_ ?_ _) <;> try ((try simp only [World.size_alloc, World.size_setCell, World.size_drew]) <;> omega)) | ((with_reducible refine RS.setCells ?_ ?_ _ _) <;> try ((try simp only [World.size_alloc, World.size_setCell, World.size_drew]) <;> omega)) | (with_reducible apply RS.drewN) | (with_reducible apply RS.drew))))
    have HSB := Lib.hid (SB.below hO_w2 (SB.new w1 29 W A n c B m d X Y S k f) (by simp))
    clear hA hB hS hO_w2
    by_cases hgo : v = true ∧ 0 ≤ y ∧ y < 16
    · obtain ⟨rfl, hy0, hy15⟩ := hgo
      obtain ⟨-, hsv⟩ := scd_parts HV.out
      have k1 : ¬ y < 0 := by omega
      have k2 : ¬ 16 ≤ y := by omega
      go_wp2_with (first | ((with_reducible refine atBuild (ty := 36) ?_); refine wpList_build_tile rfl 36 rfl build36 ?_) | ((with_reducible refine atAlloc (ty := 36) ?_); refine wpList_alloc_tile rfl 36 rfl zero36 ?_; (try simp only [World.size_alloc, World.size_setCell, setRow_size])) | ((with_reducible refine atStore (ty := 36) ?_); refine wpList_store_tile_new rfl 36 _ _ rfl rfl (zeroT) rfl 36 _ size36 ?_))
      go_loopw [6] (fun i wr => ∃ j : Nat, j ≤ 64 ∧ i = .int .i64 j ∧ TB wr w2.heap.size 36 (fun i => if i < j then fullP i else 0) ∧ Below w2.heap.size w2 wr ∧ w2.heap.size < wr.heap.size) (fun i _ => 64 - (intOf i).toNat)
      case atStart =>
        refine ⟨0, by omega, rfl, (TB.new _ _ _).congr (fun i _ => by simp [zeroT]), ?_, by simp⟩
        (repeat (first | with_reducible exact Below.refl _ _ | ((with_reducible refine viaO (by assumption) ?_ ?_ ?_) <;> try ((try simp only [World.size_alloc, World.size_setCell, World.size_drew]) <;> omega)) | ((with_reducible refine Below.alloc ?_ ?_ _) <;> try ((try simp only [World.size_alloc, World.size_setCell, World.size_drew]) <;> omega)) | ((with_reducible refine Below.setCell ?_ ?_ _) <;> try ((try simp only [World.size_alloc, World.size_setCell, World.size_drew]) <;> omega)) | (with_reducible refine below_drewN ?_ _) | (with_reducible refine Below.drew ?_) | ((with_reducible refine via (by assumption) ?_ ?_) <;> try ((try simp only [World.size_alloc, World.size_setCell, World.size_drew]) <;> omega))))
      case round =>
        obtain ⟨j, hj, rfl, h1, hb, hsz⟩ := hrel
        have H1 := Lib.hid h1
        have HBR := Lib.hid hb
        by_cases hlj : j < 64
        · have c1 := h1.cell j hlj
          have f1 := h1.frozen j
          obtain ⟨r3, hr3⟩ : ∃ r3, j % 3 = r3 := ⟨_, rfl⟩
          have e1 : (j : Int) % 3 = (r3 : Int) := by omega
          have e2 : IntKind.i64.wrap (1 + (r3 : Int)) = 1 + (r3 : Int) := IntWalk.i64_in _ (by omega)
          have e3 : IntKind.i64.wrap ((j : Int) + 1) = (j : Int) + 1 := IntWalk.i64_in _ (by omega)
          have HR3 := Lib.hid (show fullP j = 1 + (r3 : Int) by unfold fullP; rw [hr3])
          have i1 : (j : Int) < 64 := by omega
          clear h1 hb hr3
          go_wp2
          go_roundw
          case rel =>
            refine ⟨j + 1, by omega, by go_num, (H1.out.put _ _).congr (fun i _ => by rw [← HR3.out]; exact upd_step fullP j i), HBR.out.setCell (by simp) _, by simp; omega⟩
          case measure => simp [intOf]; omega
        · have hj64 : j = 64 := by omega
          subst hj64
          have HF := Lib.hid (h1.congr (q := fullP) (fun i hi => by rw [if_pos hi]))
          clear h1 hb H1
          obtain ⟨wL, hwL⟩ : ∃ u : World, u = wr := ⟨_, rfl⟩
          subst hwL
          go_wp2_with (first | ((with_reducible refine atLoad (ty := 36) ?_); refine wpList_load_tile rfl 36 _ rfl _ rfl 36 _ (HF.out.alloc _) _ Try.underlying36 rfl size36 ?_) | ((with_reducible refine atLit ?_); refine wpList_lit1 rfl 24 _ rfl (.agg (tv fullP)) rfl _ _ (lit1_tile fullP _) ?_))
          have h1L : w1.heap.size < wL.heap.size := by omega
          have hwL : w.heap.size ≤ wL.heap.size := by have := hb02.out.size; omega
          have hw2 := hb02.out.size
          have hX : SH (((wL.alloc (.cells #[.int .i64 0] 3)).alloc (.cells (tv fullP) 36)).alloc (.cells #[.int .i64 1, .slice (some ⟨wL.heap.size, 0, none⟩) 1 1, .slice (some ⟨wL.heap.size + 1, 0, none⟩) 1 1, .int .i64 0, .int .i64 0, .slice none 0 0] 29)) (wL.heap.size + 1 + 1) 29 1 (some ⟨wL.heap.size, 0, none⟩) 1 1 (some ⟨wL.heap.size + 1, 0, none⟩) 1 1 0 0 none 0 0 := by
            have := SH.new ((wL.alloc (.cells #[.int .i64 0] 3)).alloc (.cells (tv fullP) 36)) 29 1 (some ⟨wL.heap.size, 0, none⟩) 1 1 (some ⟨wL.heap.size + 1, 0, none⟩) 1 1 0 0 none 0 0
            rw [World.size_alloc, World.size_alloc] at this
            exact this
          have hXA : RS (((wL.alloc (.cells #[.int .i64 0] 3)).alloc (.cells (tv fullP) 36)).alloc (.cells #[.int .i64 1, .slice (some ⟨wL.heap.size, 0, none⟩) 1 1, .slice (some ⟨wL.heap.size + 1, 0, none⟩) 1 1, .int .i64 0, .int .i64 0, .slice none 0 0] 29)) (wL.heap.size + 1 + 1) 1 (some ⟨wL.heap.size, 0, none⟩) 1 (iv fun _ => 0) := (((one_rs wL 3 0).alloc (by simp only [World.size_alloc]; omega) _).alloc (by simp only [World.size_alloc]; omega) _).more (by omega)
          have hXB : RS (((wL.alloc (.cells #[.int .i64 0] 3)).alloc (.cells (tv fullP) 36)).alloc (.cells #[.int .i64 1, .slice (some ⟨wL.heap.size, 0, none⟩) 1 1, .slice (some ⟨wL.heap.size + 1, 0, none⟩) 1 1, .int .i64 0, .int .i64 0, .slice none 0 0] 29)) (wL.heap.size + 1 + 1) 64 (some ⟨wL.heap.size + 1, 0, none⟩) 1 (tc fun _ => fullP) := by
            have := (tile_rs (wL.alloc (.cells #[.int .i64 0] 3)) fullP (t := 36))
            rw [World.size_alloc, World.size_alloc] at this
            exact this.alloc (by simp only [World.size_alloc]; omega) _
          have hXS : RS (((wL.alloc (.cells #[.int .i64 0] 3)).alloc (.cells (tv fullP) 36)).alloc (.cells #[.int .i64 1, .slice (some ⟨wL.heap.size, 0, none⟩) 1 1, .slice (some ⟨wL.heap.size + 1, 0, none⟩) 1 1, .int .i64 0, .int .i64 0, .slice none 0 0] 29)) w1.heap.size 6 S k (sc s) := (((RS.below HBR.out HS.out (by omega)).alloc (by omega) _).alloc (by simp only [World.size_alloc]; omega) _).alloc (by simp only [World.size_alloc]; omega) _
          have hXO : SB (((wL.alloc (.cells #[.int .i64 0] 3)).alloc (.cells (tv fullP) 36)).alloc (.cells #[.int .i64 1, .slice (some ⟨wL.heap.size, 0, none⟩) 1 1, .slice (some ⟨wL.heap.size + 1, 0, none⟩) 1 1, .int .i64 0, .int .i64 0, .slice none 0 0] 29)) w1.heap.size W A n c B m d X Y S k f := (((SB.below HBR.out HSB.out h12).alloc _).alloc _).alloc _
          have hXb : Below w.heap.size w (((wL.alloc (.cells #[.int .i64 0] 3)).alloc (.cells (tv fullP) 36)).alloc (.cells #[.int .i64 1, .slice (some ⟨wL.heap.size, 0, none⟩) 1 1, .slice (some ⟨wL.heap.size + 1, 0, none⟩) 1 1, .int .i64 0, .int .i64 0, .slice none 0 0] 29)) := (((hb02.out.trans (HBR.out.mono (by omega))).alloc (by omega) _).alloc (by simp only [World.size_alloc]; omega) _).alloc (by simp only [World.size_alloc]; omega) _
          have hXs : (((wL.alloc (.cells #[.int .i64 0] 3)).alloc (.cells (tv fullP) 36)).alloc (.cells #[.int .i64 1, .slice (some ⟨wL.heap.size, 0, none⟩) 1 1, .slice (some ⟨wL.heap.size + 1, 0, none⟩) 1 1, .int .i64 0, .int .i64 0, .slice none 0 0] 29)).heap.size = wL.heap.size + 3 := by simp only [World.size_alloc]
          have HXA := Lib.hid hXA
          have HXB := Lib.hid hXB
          have HXS := Lib.hid hXS
          have HXO := Lib.hid hXO
          have HXb := Lib.hid hXb
          have HX := Lib.hid hX
          clear hXA hXB hXS hXO hXb hX
          generalize (((wL.alloc (.cells #[.int .i64 0] 3)).alloc (.cells (tv fullP) 36)).alloc (.cells #[.int .i64 1, .slice (some ⟨wL.heap.size, 0, none⟩) 1 1, .slice (some ⟨wL.heap.size + 1, 0, none⟩) 1 1, .int .i64 0, .int .i64 0, .slice none 0 0] 29)) = wX at *
          generalize hgX : wL.heap.size + 1 + 1 = gX at *
          have hXg : gX < wX.heap.size := by omega
          have hw1g : w1.heap.size < gX := by omega
          go_loopw [8] (fun i wr => ∃ j : Nat, j ≤ k ∧ i = .int .i64 j ∧ (∃ S' cap', SH wr gX 29 1 (some ⟨wL.heap.size, 0, none⟩) 1 1 (some ⟨wL.heap.size + 1, 0, none⟩) 1 1 0 0 S' j cap' ∧ wr.ownsRow wX.heap.size 38 6 (.slice S' j cap') j ((List.range (j * 6)).map (sc (behS s)))) ∧ Only gX wX wr) (fun i _ => k - (intOf i).toNat)
          case atStart => exact ⟨0, by omega, rfl, ⟨none, 0, HX.out, own_nil _ _ _ _ _⟩, Only.refl _ _⟩
          case round =>
            obtain ⟨j, hj, rfl, ⟨S', cap', hsh, hown⟩, hO⟩ := hrel
            have HSH := Lib.hid hsh
            have HOWN := Lib.hid hown
            have HO := Lib.hid hO
            have hOs := hO.size
            obtain ⟨x0, x1, x2, x3, x4, x5⟩ := hsh.sb.cells
            have hso : SB wr w1.heap.size W A n c B m d X Y S k f := SB.keep (fun o => (hO.cells).1 w1.heap.size o (by omega) (by omega)) HXO.out
            obtain ⟨d0, d1, d2, d3, d4, d5⟩ := hso.cells
            have hg1 : gX < wr.heap.size := by omega
            have hg2 : w1.heap.size < wr.heap.size := by omega
            by_cases hlj : j < k
            · obtain ⟨bS, oS, rfl, hbS, s0, s1, s2, s3, s4, s5⟩ := (RS.only hO HXS.out (by omega) (by omega)).spr hlj
              have i0 : ¬ (j : Int) < 0 := by omega
              have i1 : (j : Int) < (k : Int) := by omega
              have e3 : IntKind.i64.wrap ((j : Int) + 1) = (j : Int) + 1 := IntWalk.i64_in _ (by omega)
              have hg3 : bS < wr.heap.size := by omega
              obtain ⟨si, hsi⟩ : ∃ si, s j = si := ⟨_, rfl⟩
              rw [hsi] at s0 s1 s2 s3 s4 s5
              obtain ⟨sx, sy, nm, ac, dn, bh⟩ := si
              have HBS := Lib.hid (show behS s j = ⟨sx, sy, 0, ac, dn, true⟩ by unfold behS; rw [hsi])
              dsimp only at s0 s1 s2 s3 s4 s5
              have hbw : wX.heap.size ≤ (wr.alloc (.cells #[.int .i64 sx, .int .i64 sy, .int .i64 0, .bool ac, .bool dn, .bool true] 38)).heap.size := by simp only [World.size_alloc]; omega
              have HOW2 := Lib.hid (HOWN.out.alloc (.cells #[.int .i64 sx, .int .i64 sy, .int .i64 0, .bool ac, .bool dn, .bool true] 38))
              clear hsi hsh hown hO hso d0 d1 d2 d3 d4
              go_wp2_with (at_builtin; refine wpList_append_el (w0 := (wr.alloc (.cells #[.int .i64 sx, .int .i64 sy, .int .i64 0, .bool ac, .bool dn, .bool true] 38))) (cs := #[.int .i64 sx, .int .i64 sy, .int .i64 0, .bool ac, .bool dn, .bool true]) Try.underlying27 info38 rfl (by omega) (by omega) rfl _ _ rfl wX.heap.size j cap' S' (sc (behS s)) rfl (by (try rw [World.size_alloc]); rfl) HOW2.out rfl (fun i hi => by rw [sc_at _ j i hi, HBS.out]; exact cells6 ⟨sx, sy, 0, ac, dn, true⟩ i hi) (fun i hi => scl_one' _ j i hi) (by omega) hbw ?_; intro A9 cap9 w9 hown9 hO_w9; have HS9 := Lib.hid (SH.below hO_w9 (HSH.out.alloc _) hXg); obtain ⟨y0, y1, y2, y3, y4, y5⟩ := HS9.out.free; obtain ⟨z0, z1, z2, z3, z4, z5⟩ := HS9.out.sb.cells)
              go_roundw
              case rel => exact ⟨j + 1, by omega, by go_num, ⟨A9, cap9, sh_put5 HS9.out _ _ _, ownsRow_setCell_below hown9 hXg _⟩, ((HO.out.alloc _).then_below hO_w9).setCell (.inl rfl) _⟩
              case measure => simp [intOf]; omega
            · have hjk : j = k := by omega
              subst hjk
              have HSY := Lib.hid (show inB y 0 15 = true from inB_true.2 ⟨hy0, by omega⟩)
              have HV1 : Hid ((fvd 1 1 1 0 0 (fun _ => 0) (fun _ => fullP) && inB y 0 15) = true) := Lib.hid (by rw [full_valid, HSY.out]; rfl)
              have HV2 : Hid ((scd 1 1 1 0 0 (fun _ => 0) (fun _ => fullP) j (behS s) && inB y 0 15) = true) := Lib.hid (by rw [beh_scd hsv, HSY.out]; rfl)
              have HA := Lib.hid (RS.only hO HXA.out (Nat.le_refl _) (by omega))
              have HB := Lib.hid (RS.only hO HXB.out (Nat.le_refl _) (by omega))
              have HS2 := Lib.hid (own_rs HOWN.out)
              have hle := lnN_le true
              have hbe : Hid (Below w.heap.size w wr) := Lib.hid (HXb.out.trans (HO.out.below (by omega) (by omega)))
              clear hsh hown hO hso d0 d1 d2 d3 d4
              go_wp2_with fail
              refine (iscn_c 1 _ 1 _ _ 1 _ 0 0 _ j _ y (fun _ => 0) (fun _ => fullP) (behS s) true HV2.out _ (C := gX) (C' := gX) (C2 := wr.heap.size) HA.out HB.out HS2.out (by omega) (by omega) (by omega) (by omega) (by omega) (by omega)).mono ?_
              rintro e w5 ⟨A5, cap5, rfl, h5, hO_w5⟩
              have hz_w5 := hO_w5.size
              (try simp only [World.size_alloc, World.size_setCell, World.size_drew] at hz_w5)
              have hs_w5_0 : gX < w5.heap.size := (by omega)
              have c_w5_0 := fun o => (bcell hO_w5).1 (gX) o (by (try simp only [World.size_alloc, World.size_setCell, World.size_drew]) <;> omega)
              have f_w5_0 := fun o => (bcell hO_w5).2 (gX) o (by (try simp only [World.size_alloc, World.size_setCell, World.size_drew]) <;> omega)
              have s5 := own_rs h5
              have l5 := own_cap h5
              rw [beh_line] at s5
              have HA5 := Lib.hid (RS.below hO_w5 HA.out (by omega))
              have HB5 := Lib.hid (RS.below hO_w5 HB.out (by omega))
              have HS5 := Lib.hid (RS.below hO_w5 HS2.out (Nat.le_refl _))
              clear h5 HA HB HS2 HOWN HSH HO HXA HXB HXS HXO HXb HX
              go_wp2_with (first | (go_at_call 14; (with_reducible refine Go.Calls.mono (iln_c 1 (some ⟨wL.heap.size, 0, none⟩) 1 1 (some ⟨wL.heap.size + 1, 0, none⟩) 1 1 0 0 y (fun _ => 0) (fun _ => fullP) true HV1.out _ (C := gX) (C' := gX) (by have r1 := HA5.out; (repeat (first | with_reducible assumption | ((with_reducible refine RS.below (by assumption) ?_ ?_) <;> try ((try simp only [World.size_alloc, World.size_setCell, World.size_drew]) <;> omega)) | ((with_reducible refine RS.alloc ?_ ?_ _) <;> try ((try simp only [World.size_alloc, World.size_setCell, World.size_drew]) <;> omega)) | ((with_reducible refine RS.setRow ?_ ?_ _) <;> try ((try simp only [World.size_alloc, World.size_setCell, World.size_drew]) <;> omega)) | ((with_reducible refine RS.setCell ?_ ?_ _) <;> try ((try simp only [World.size_alloc, World.size_setCell, World.size_drew]) <;> omega)) | ((with_reducible refine RS.setCells ?_ ?_ _ _) <;> try ((try simp only [World.size_alloc, World.size_setCell, World.size_drew]) <;> omega)) | (with_reducible apply RS.drewN) | (with_reducible apply RS.drew)))) (by have r1 := HB5.out; (repeat (first | with_reducible assumption | ((with_reducible refine RS.below (by assumption) ?_ ?_) <;> try ((try simp only [World.size_alloc, World.size_setCell, World.size_drew]) <;> omega)) | ((with_reducible refine RS.alloc ?_ ?_ _) <;> try ((try simp only [World.size_alloc, World.size_setCell, World.size_drew]) <;> omega)) | ((with_reducible refine RS.setRow ?_ ?_ _) <;> try ((try simp only [World.size_alloc, World.size_setCell, World.size_drew]) <;> omega)) | ((with_reducible refine RS.setCell ?_ ?_ _) <;> try ((try simp only [World.size_alloc, World.size_setCell, World.size_drew]) <;> omega)) | ((with_reducible refine RS.setCells ?_ ?_ _ _) <;> try ((try simp only [World.size_alloc, World.size_setCell, World.size_drew]) <;> omega)) | (with_reducible apply RS.drewN) | (with_reducible apply RS.drew)))) (by ((try simp only [World.size_alloc, World.size_setCell, World.size_drew]) <;> omega)) (by ((try simp only [World.size_alloc, World.size_setCell, World.size_drew]) <;> omega)) (by omega) (by omega)) ?_); rintro e w6 ⟨A6, cap6, rfl, h6, hO_w6⟩; have hz_w6 := hO_w6.size; (try simp only [World.size_alloc, World.size_setCell, World.size_drew] at hz_w6); have hs_w6_0 : gX < w6.heap.size := (by omega); have c_w6_0 := fun o => (bcell hO_w6).1 (gX) o (by (try simp only [World.size_alloc, World.size_setCell, World.size_drew]) <;> omega); have f_w6_0 := fun o => (bcell hO_w6).2 (gX) o (by (try simp only [World.size_alloc, World.size_setCell, World.size_drew]) <;> omega); have s6 := own_rs h6; clear h6) | (go_at_call 15; (with_reducible refine Go.Calls.mono (sscn_c 1 (some ⟨wL.heap.size, 0, none⟩) 1 1 (some ⟨wL.heap.size + 1, 0, none⟩) 1 1 0 0 S' j cap' y (fun _ => 0) (fun _ => fullP) (behS s) true HV2.out _ (C := gX) (C' := gX) (C2 := wr.heap.size) (by have r1 := HA5.out; (repeat (first | with_reducible assumption | ((with_reducible refine RS.below (by assumption) ?_ ?_) <;> try ((try simp only [World.size_alloc, World.size_setCell, World.size_drew]) <;> omega)) | ((with_reducible refine RS.alloc ?_ ?_ _) <;> try ((try simp only [World.size_alloc, World.size_setCell, World.size_drew]) <;> omega)) | ((with_reducible refine RS.setRow ?_ ?_ _) <;> try ((try simp only [World.size_alloc, World.size_setCell, World.size_drew]) <;> omega)) | ((with_reducible refine RS.setCell ?_ ?_ _) <;> try ((try simp only [World.size_alloc, World.size_setCell, World.size_drew]) <;> omega)) | ((with_reducible refine RS.setCells ?_ ?_ _ _) <;> try ((try simp only [World.size_alloc, World.size_setCell, World.size_drew]) <;> omega)) | (with_reducible apply RS.drewN) | (with_reducible apply RS.drew)))) (by have r1 := HB5.out; (repeat (first | with_reducible assumption | ((with_reducible refine RS.below (by assumption) ?_ ?_) <;> try ((try simp only [World.size_alloc, World.size_setCell, World.size_drew]) <;> omega)) | ((with_reducible refine RS.alloc ?_ ?_ _) <;> try ((try simp only [World.size_alloc, World.size_setCell, World.size_drew]) <;> omega)) | ((with_reducible refine RS.setRow ?_ ?_ _) <;> try ((try simp only [World.size_alloc, World.size_setCell, World.size_drew]) <;> omega)) | ((with_reducible refine RS.setCell ?_ ?_ _) <;> try ((try simp only [World.size_alloc, World.size_setCell, World.size_drew]) <;> omega)) | ((with_reducible refine RS.setCells ?_ ?_ _ _) <;> try ((try simp only [World.size_alloc, World.size_setCell, World.size_drew]) <;> omega)) | (with_reducible apply RS.drewN) | (with_reducible apply RS.drew)))) (by have r1 := HS5.out; (repeat (first | with_reducible assumption | ((with_reducible refine RS.below (by assumption) ?_ ?_) <;> try ((try simp only [World.size_alloc, World.size_setCell, World.size_drew]) <;> omega)) | ((with_reducible refine RS.alloc ?_ ?_ _) <;> try ((try simp only [World.size_alloc, World.size_setCell, World.size_drew]) <;> omega)) | ((with_reducible refine RS.setRow ?_ ?_ _) <;> try ((try simp only [World.size_alloc, World.size_setCell, World.size_drew]) <;> omega)) | ((with_reducible refine RS.setCell ?_ ?_ _) <;> try ((try simp only [World.size_alloc, World.size_setCell, World.size_drew]) <;> omega)) | ((with_reducible refine RS.setCells ?_ ?_ _ _) <;> try ((try simp only [World.size_alloc, World.size_setCell, World.size_drew]) <;> omega)) | (with_reducible apply RS.drewN) | (with_reducible apply RS.drew)))) (by ((try simp only [World.size_alloc, World.size_setCell, World.size_drew]) <;> omega)) (by ((try simp only [World.size_alloc, World.size_setCell, World.size_drew]) <;> omega)) (by ((try simp only [World.size_alloc, World.size_setCell, World.size_drew]) <;> omega)) (by omega) (by omega) (by omega)) ?_); rintro e w8 ⟨A8, cap8, rfl, h8, hO_w8⟩; have hz_w8 := hO_w8.size; (try simp only [World.size_alloc, World.size_setCell, World.size_drew] at hz_w8); have hs_w8_0 : gX < w8.heap.size := (by omega); have c_w8_0 := fun o => (bcell hO_w8).1 (gX) o (by (try simp only [World.size_alloc, World.size_setCell, World.size_drew]) <;> omega); have f_w8_0 := fun o => (bcell hO_w8).2 (gX) o (by (try simp only [World.size_alloc, World.size_setCell, World.size_drew]) <;> omega); have s8 := own_rs h8; rw [beh_line] at s8; clear h8) | (go_at_call 13; (refine (sameInts_c _ _ _ _ _ _ _ _ (C := w5.heap.size) (C' := w8.heap.size) (RS.below hO_w8 (RS.below hO_w7 (RS.below hO_w6 s5 (Nat.le_refl _)) (by omega)) (by omega)) s8 (by ((try simp only [World.size_alloc, World.size_setCell, World.size_drew]) <;> omega)) (by ((try simp only [World.size_alloc, World.size_setCell, World.size_drew]) <;> omega)) (Nat.le_trans (lnN_le true) (by decide)) (fun _ _ => rfl)).mono ?_; rintro e w9 ⟨rfl, hO_w9⟩; have hz_w9 := hO_w9.size; (try simp only [World.size_alloc, World.size_setCell, World.size_drew] at hz_w9); have hs_w9_0 : gX < w9.heap.size := (by omega); have c_w9_0 := fun o => (bcell hO_w9).1 (gX) o (by (try simp only [World.size_alloc, World.size_setCell, World.size_drew]) <;> omega); have f_w9_0 := fun o => (bcell hO_w9).2 (gX) o (by (try simp only [World.size_alloc, World.size_setCell, World.size_drew]) <;> omega))) | (go_at_call 13; (refine (sameInts_c _ _ _ _ _ _ _ _ (C := w5.heap.size) (C' := w6.heap.size) (RS.below hO_w6 s5 (Nat.le_refl _)) s6 (by ((try simp only [World.size_alloc, World.size_setCell, World.size_drew]) <;> omega)) (by ((try simp only [World.size_alloc, World.size_setCell, World.size_drew]) <;> omega)) (Nat.le_trans (lnN_le true) (by decide)) (fun _ _ => rfl)).mono ?_; rintro e w7 ⟨rfl, hO_w7⟩; have hz_w7 := hO_w7.size; (try simp only [World.size_alloc, World.size_setCell, World.size_drew] at hz_w7); have hs_w7_0 : gX < w7.heap.size := (by omega); have c_w7_0 := fun o => (bcell hO_w7).1 (gX) o (by (try simp only [World.size_alloc, World.size_setCell, World.size_drew]) <;> omega); have f_w7_0 := fun o => (bcell hO_w7).2 (gX) o (by (try simp only [World.size_alloc, World.size_setCell, World.size_drew]) <;> omega))))
              go_ret
              refine ⟨rfl, hbe.out.trans ?_⟩
              refine Below.mono (B := wr.heap.size) ?_ (by have := hbe.out.size; omega)
              (repeat (first | with_reducible exact Below.refl _ _ | ((with_reducible refine viaO (by assumption) ?_ ?_ ?_) <;> try ((try simp only [World.size_alloc, World.size_setCell, World.size_drew]) <;> omega)) | ((with_reducible refine Below.alloc ?_ ?_ _) <;> try ((try simp only [World.size_alloc, World.size_setCell, World.size_drew]) <;> omega)) | ((with_reducible refine Below.setCell ?_ ?_ _) <;> try ((try simp only [World.size_alloc, World.size_setCell, World.size_drew]) <;> omega)) | (with_reducible refine below_drewN ?_ _) | (with_reducible refine Below.drew ?_) | ((with_reducible refine via (by assumption) ?_ ?_) <;> try ((try simp only [World.size_alloc, World.size_setCell, World.size_drew]) <;> omega))))
    · clear HS
      cases v
      · go_wp2_with (go_at_call 11; refine (alive_c _).mono ?_; rintro e w' ⟨rfl, rfl⟩)
        go_ret
        exact ⟨rfl, hb02.out⟩
      · by_cases hy0 : y < 0
        · go_wp2_with (go_at_call 11; refine (alive_c _).mono ?_; rintro e w' ⟨rfl, rfl⟩)
          go_ret
          exact ⟨rfl, hb02.out⟩
        · have hy15 : 16 ≤ y := by
            rcases Int.lt_or_le y 16 with h | h
            · exact absurd ⟨rfl, by omega, h⟩ hgo
            · exact h
          go_wp2_with (go_at_call 11; refine (alive_c _).mono ?_; rintro e w' ⟨rfl, rfl⟩)
          go_ret
          exact ⟨rfl, hb02.out⟩

set_option maxRecDepth 100000 in
theorem lifted (os : Os) (started : os.Started) (H : Type) (enc : TypeId × Value → H) :
    ReturnsInHanded {} Try.checked os 3 .any (Rows.fnSceneBehindSpec.pre6 enc Try.prog Try.f3 Rows.fnSceneBehindRow.domain false) (Rows.fnSceneBehindSpec.post enc Try.prog Try.f3 false true false false) := by
  refine returnsInHanded_of_change (C := Try.checked) own started (by kernel_rfl) Try.func3
    (ChangeSpec.witness6 (enc := enc) (C := Try.checked) false ⟨#[], #[.slice none 0 0], []⟩ 8 (by kernel_rfl) (by kernel_rfl) (by kernel_rfl) (by kernel_rfl)) ?_
  intro W base args ds gs before hval0 hW hcnd _
  have hval : ∀ (j : Nat) t v, Try.f3.params[j]? = some t → args[j]? = some v → Value.okWide Try.prog W .any base t v := hval0
  have hW' := hW
  obtain ⟨p, q, hA0, hV, rfl, hfz, hnd⟩ := hW
  have hA : DataW.TrodAll enc Try.prog W 0 (fun _ => true) true Try.f3.params.toList args.toList ds p := hA0
  rw [Try.params3] at hA hval
  obtain ⟨v0, vs0, d0, ds0, p0, q0, hargs, rfl, rfl, h0, r0⟩ := trodAll_cons hA
  obtain ⟨rfl, rfl, rfl⟩ := trodAll_nil r0
  obtain rfl : args = #[v0] := by cases args; simp_all
  obtain ⟨rfl, rfl⟩ := trodVars_none hV
  have lt0 : ∀ x ∈ p0, x.block < W.heap.size := by obtain ⟨m, hm⟩ := h0; exact DataW.trod_lt m _ _ _ hm
  have a0 := codeArg (hval 0 22 v0 rfl rfl) h0
  clear hA0 hval0
  refine (walk v0 W a0).mono fun e W' ⟨he, bel⟩ => ?_
  subst he
  exact ⟨_, rfl, _, _, _, [], _, [], hW', trodAll_mk1 (shut_bool Try.underlying4 _), (trodAll_cons_mk (Below.trod laidOut (by kernel_rfl) (of_decide_eq_true (by kernel_rfl)) h0 bel lt0) trodAll_mk0), rfl, bel.frame _, fun h => by cases h⟩

theorem proved : Rows.FnSceneBehindSaid :=
  OpenClaim.holds_of_wide 3 Try.f3 rfl rfl rfl rfl rfl rfl rfl ⟨rfl, rfl, rfl, rfl, rfl⟩ rfl rfl rfl rfl rfl (by kernel_rfl) Try.func3 (by kernel_rfl)
    (of_decide_eq_true (by kernel_rfl)) (by unfold Func.isWrapper; first | (rw [if_pos (by decide +kernel)]; kernel_rfl) | (rw [if_neg (by decide +kernel)]; exact ⟨rfl, rfl⟩))
    (fun os started H enc _ => lifted os started H enc)
#print axioms proved

end Go.Proofs.Ytabioinmpjfflaa.lawFnSceneBehind
