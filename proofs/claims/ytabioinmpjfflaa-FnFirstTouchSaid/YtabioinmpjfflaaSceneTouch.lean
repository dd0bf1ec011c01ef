/-
  The contract of FirstTouch in the program. Conditions: at most 1048576 numbers, tiles and sprites.
-/
import Derived.Test.YtabioinmpjfflaaSceneLaw
import Derived.Test.YtabioinmpjfflaaSprOne
namespace Go.Proofs.Ytabioinmpjfflaa
set_option linter.all false
set_option linter.unusedSimpArgs false
set_option linter.unusedVariables false
set_option maxRecDepth 20000
open Go.ChangeShapes Go.WideShapes Go.ChangeAt Go.RowKit

/-- Do the sprite and the background touch there? -/
def tch (s : Spr) (W n X Y : Nat) (p : Nat → Int) (q : Nat → Nat → Int) (j : Nat) : Bool := spx s q ((j % 32 : Nat) : Int) ((j / 32 : Nat) : Int) != 0 && fpx W n X Y p q (j % 32) (j / 32) != 0
/-- The first of 512. -/
def ftv (t : Nat → Bool) : Int := match (List.range 512).find? t with
  | some j => (j : Int)
  | none => -1
theorem ftv_at {t : Nat → Bool} {j : Nat} (hj : j < 512) (h : t j = true) (h0 : ∀ i, i < j → t i = false) : ftv t = j := by
  unfold ftv
  rw [List.find?_range_eq_some.2 ⟨h, List.mem_range.2 hj, fun i hi => by rw [h0 i hi]; rfl⟩]
theorem ftv_none {t : Nat → Bool} (h0 : ∀ i, i < 512 → t i = false) : ftv t = -1 := by
  unfold ftv
  rw [List.find?_range_eq_none.2 fun i hi => by rw [h0 i hi]; rfl]
/-- The value of FirstTouch. -/
def ftr (W : Int) (n m : Nat) (X Y : Int) (p : Nat → Int) (q : Nat → Nat → Int) (k : Nat) (s : Nat → Spr) : Int := if (scd W n m X Y p q k s && decide (0 < k)) = true then ftv (tch (s 0) W.toNat n X.toNat Y.toNat p q) else -1
theorem ftr_no {W : Int} {n m : Nat} {X Y : Int} {p : Nat → Int} {q : Nat → Nat → Int} {k : Nat} {s : Nat → Spr} (h : (scd W n m X Y p q k s && decide (0 < k)) = false) : ftr W n m X Y p q k s = -1 := by
  unfold ftr; rw [h]; rfl
theorem tch_at (s : Spr) (W n X Y : Nat) (p : Nat → Int) (q : Nat → Nat → Int) {x y : Nat} (hx : x < 32) : tch s W n X Y p q (32 * y + x) = (spx s q (x : Int) (y : Int) != 0 && fpx W n X Y p q x y != 0) := by
  unfold tch
  rw [show (32 * y + x) % 32 = x by omega, show (32 * y + x) / 32 = y by omega]

set_option maxRecDepth 100000 in
set_option maxHeartbeats 4000000 in
theorem iftc_c (W : Int) (A : Option Addr) (n c : Nat) (B : Option Addr) (m d : Nat) (X Y : Int) (S : Option Addr) (k e : Nat) (p : Nat → Int) (q : Nat → Nat → Int) (s : Nat → Spr) (w : World) {C C' C2 : Nat} (h : RS w C 1 A n (iv p)) (h' : RS w C' 64 B m (tc q)) (h2 : RS w C2 6 S k (sc s)) (hC : C ≤ w.heap.size) (hC' : C' ≤ w.heap.size) (hC2 : C2 ≤ w.heap.size) (hn : n ≤ 1048576) (hm : m ≤ 1048576) (hk : k ≤ 1048576) :
    Calls Try.prog 28 #[scV W A n c B m d X Y S k e] w fun e w' => e = .returned (.int .i64 (ftr W n m X Y p q k s)) ∧ Below w.heap.size w w' := by
  have H := Lib.hid h
  have H' := Lib.hid h'
  have H2 := Lib.hid h2
  clear h h' h2
  cases hv : scd W n m X Y p q k s
  · rw [ftr_no (by rw [hv]; rfl)]
    have HV := Lib.hid hv
    clear hv
    go_enter Try.func28, Try.ntmps28
    go_wp2_with fail
    refine (isc_c _ _ _ _ _ _ _ _ _ _ _ _ p q s _ HV.out _ (C := C) (C' := C') (C2 := C2) (H.out.alloc hC _) (H'.out.alloc hC' _) (H2.out.alloc hC2 _) (by ((try simp only [World.size_alloc, World.size_setCell, World.size_drew]) <;> omega)) (by ((try simp only [World.size_alloc, World.size_setCell, World.size_drew]) <;> omega)) (by ((try simp only [World.size_alloc, World.size_setCell, World.size_drew]) <;> omega)) hn hm hk).mono ?_
    rintro e w1 ⟨rfl, hO_w1⟩
    have hz_w1 := hO_w1.size
    (try simp only [World.size_alloc, World.size_setCell, World.size_drew] at hz_w1)
    have hs_w1_0 : w.heap.size < w1.heap.size := (by omega)
    have c_w1_0 := fun o => (bcell hO_w1).1 (w.heap.size) o (by (try simp only [World.size_alloc, World.size_setCell, World.size_drew]) <;> omega)
    have f_w1_0 := fun o => (bcell hO_w1).2 (w.heap.size) o (by (try simp only [World.size_alloc, World.size_setCell, World.size_drew]) <;> omega)
    go_wp2
    go_ret
    refine ⟨rfl, ?_⟩
    (repeat (first | with_reducible exact Below.refl _ _ | ((with_reducible refine viaO (by assumption) ?_ ?_ ?_) <;> try ((try simp only [World.size_alloc, World.size_setCell, World.size_drew]) <;> omega)) | ((with_reducible refine Below.alloc ?_ ?_ _) <;> try ((try simp only [World.size_alloc, World.size_setCell, World.size_drew]) <;> omega)) | ((with_reducible refine Below.setCell ?_ ?_ _) <;> try ((try simp only [World.size_alloc, World.size_setCell, World.size_drew]) <;> omega)) | (with_reducible refine below_drewN ?_ _) | (with_reducible refine Below.drew ?_) | ((with_reducible refine via (by assumption) ?_ ?_) <;> try ((try simp only [World.size_alloc, World.size_setCell, World.size_drew]) <;> omega))))
  · have HV := Lib.hid hv
    by_cases hk0 : k = 0
    · subst hk0
      rw [ftr_no (by rw [hv]; rfl)]
      clear hv
      go_enter Try.func28, Try.ntmps28
      go_wp2_with fail
      refine (isc_c _ _ _ _ _ _ _ _ _ _ _ _ p q s _ HV.out _ (C := C) (C' := C') (C2 := C2) (H.out.alloc hC _) (H'.out.alloc hC' _) (H2.out.alloc hC2 _) (by ((try simp only [World.size_alloc, World.size_setCell, World.size_drew]) <;> omega)) (by ((try simp only [World.size_alloc, World.size_setCell, World.size_drew]) <;> omega)) (by ((try simp only [World.size_alloc, World.size_setCell, World.size_drew]) <;> omega)) hn hm hk).mono ?_
      rintro e w1 ⟨rfl, hO_w1⟩
      have hz_w1 := hO_w1.size
      (try simp only [World.size_alloc, World.size_setCell, World.size_drew] at hz_w1)
      have hs_w1_0 : w.heap.size < w1.heap.size := (by omega)
      have c_w1_0 := fun o => (bcell hO_w1).1 (w.heap.size) o (by (try simp only [World.size_alloc, World.size_setCell, World.size_drew]) <;> omega)
      have f_w1_0 := fun o => (bcell hO_w1).2 (w.heap.size) o (by (try simp only [World.size_alloc, World.size_setCell, World.size_drew]) <;> omega)
      go_wp2
      go_ret
      refine ⟨rfl, ?_⟩
      (repeat (first | with_reducible exact Below.refl _ _ | ((with_reducible refine viaO (by assumption) ?_ ?_ ?_) <;> try ((try simp only [World.size_alloc, World.size_setCell, World.size_drew]) <;> omega)) | ((with_reducible refine Below.alloc ?_ ?_ _) <;> try ((try simp only [World.size_alloc, World.size_setCell, World.size_drew]) <;> omega)) | ((with_reducible refine Below.setCell ?_ ?_ _) <;> try ((try simp only [World.size_alloc, World.size_setCell, World.size_drew]) <;> omega)) | (with_reducible refine below_drewN ?_ _) | (with_reducible refine Below.drew ?_) | ((with_reducible refine via (by assumption) ?_ ?_) <;> try ((try simp only [World.size_alloc, World.size_setCell, World.size_drew]) <;> omega))))
    · have hk1 : 0 < k := by omega
      have hr : ftr W n m X Y p q k s = ftv (tch (s 0) W.toNat n X.toNat Y.toNat p q) := by unfold ftr; rw [hv, decide_eq_true hk1]; rfl
      obtain ⟨hf, hs⟩ := scd_parts hv
      obtain ⟨W', X', Y', rfl, rfl, rfl, hX, hY, hok⟩ := fok_of hf
      obtain ⟨p1, p2, p3, p4⟩ := svd_parts hs
      have hok0 := p4 0 hk1
      have hspb := fun x y => spxB (x := x) (y := y) hs hk1
      obtain ⟨si, hsi⟩ : ∃ si, s 0 = si := ⟨_, rfl⟩
      rw [hr]
      rw [hsi] at hok0 hspb ⊢
      simp only [Int.toNat_natCast]
      have hkk : ((k : Int) == 0) = false := by simpa using hk0
      have hki : (0 : Int) < (k : Int) := by omega
      go_enter Try.func28, Try.ntmps28
      have HSI := Lib.hid hsi
      have HPX := Lib.hid (fun (x y : Nat) (hx : x ≤ 31) (hy : y ≤ 15) u h1 h2 => isp_c si B m d q x y u (C := C') hok0 h1 h2 (by omega) (by omega) (by omega) (by omega))
      have HFX := Lib.hid (fun (x y : Nat) (hx : x ≤ 31) (hy : y ≤ 15) u hF h1 h2 => ipxC_c w.heap.size W' n m A c B d X' Y' X' Y' x y p q u (C := C) (C' := C') hok hF h1 h2 hX hY hx hy)
      obtain ⟨t, ht⟩ : ∃ t, tch si W' n X' Y' p q = t := ⟨_, rfl⟩
      have HT := Lib.hid (fun (x y : Nat) (hx : x < 32) => by have := tch_at si W' n X' Y' p q (x := x) (y := y) hx; rw [ht] at this; exact this)
      rw [ht]
      clear hv hr hf hs p3 p4 hsi hok0 hok hspb ht
      go_wp2_with fail
      refine (isc_c _ _ _ _ _ _ _ _ _ _ _ _ p q s _ HV.out _ (C := C) (C' := C') (C2 := C2) (H.out.alloc hC _) (H'.out.alloc hC' _) (H2.out.alloc hC2 _) (by ((try simp only [World.size_alloc, World.size_setCell, World.size_drew]) <;> omega)) (by ((try simp only [World.size_alloc, World.size_setCell, World.size_drew]) <;> omega)) (by ((try simp only [World.size_alloc, World.size_setCell, World.size_drew]) <;> omega)) hn hm hk).mono ?_
      rintro e w1 ⟨rfl, hO_w1⟩
      have hz_w1 := hO_w1.size
      (try simp only [World.size_alloc, World.size_setCell, World.size_drew] at hz_w1)
      have hs_w1_0 : w.heap.size < w1.heap.size := (by omega)
      have c_w1_0 := fun o => (bcell hO_w1).1 (w.heap.size) o (by (try simp only [World.size_alloc, World.size_setCell, World.size_drew]) <;> omega)
      have f_w1_0 := fun o => (bcell hO_w1).2 (w.heap.size) o (by (try simp only [World.size_alloc, World.size_setCell, World.size_drew]) <;> omega)
      have HA := Lib.hid (RS.below hO_w1 (H.out.alloc hC (.cells #[.int .i64 W', .slice A n c, .slice B m d, .int .i64 X', .int .i64 Y', .slice S k e] 29)) (by ((try simp only [World.size_alloc, World.size_setCell, World.size_drew]) <;> omega)))
      have HB := Lib.hid (RS.below hO_w1 (H'.out.alloc hC' (.cells #[.int .i64 W', .slice A n c, .slice B m d, .int .i64 X', .int .i64 Y', .slice S k e] 29)) (by ((try simp only [World.size_alloc, World.size_setCell, World.size_drew]) <;> omega)))
      have HSB := Lib.hid (SB.below hO_w1 (SB.new w 29 W' A n c B m d X' Y' S k e) (by simp))
      obtain ⟨bS, oS, rfl, hbS, s0, s1, s2, s3, s4, s5⟩ := (RS.below hO_w1 (H2.out.alloc hC2 (.cells #[.int .i64 W', .slice A n c, .slice B m d, .int .i64 X', .int .i64 Y', .slice S k e] 29)) (by ((try simp only [World.size_alloc, World.size_setCell, World.size_drew]) <;> omega))).spr hk1
      rw [HSI.out] at s0 s1 s2 s3 s4 s5
      obtain ⟨sx, sy, nm, ac, dn, bh⟩ := si
      simp only [Nat.zero_mul, Nat.add_zero] at s0 s1 s2 s3 s4 s5
      have hb1 : Hid (Below w.heap.size w w1) := by
        refine Lib.hid ?_
        (repeat (first | with_reducible exact Below.refl _ _ | ((with_reducible refine viaO (by assumption) ?_ ?_ ?_) <;> try ((try simp only [World.size_alloc, World.size_setCell, World.size_drew]) <;> omega)) | ((with_reducible refine Below.alloc ?_ ?_ _) <;> try ((try simp only [World.size_alloc, World.size_setCell, World.size_drew]) <;> omega)) | ((with_reducible refine Below.setCell ?_ ?_ _) <;> try ((try simp only [World.size_alloc, World.size_setCell, World.size_drew]) <;> omega)) | (with_reducible refine below_drewN ?_ _) | (with_reducible refine Below.drew ?_) | ((with_reducible refine via (by assumption) ?_ ?_) <;> try ((try simp only [World.size_alloc, World.size_setCell, World.size_drew]) <;> omega))))
      clear HSI hO_w1
      go_wp2
      go_loopw [19] (fun i wr => ∃ y : Nat, y ≤ 16 ∧ i = .int .i64 y ∧ Hid (∀ j, j < 32 * y → t j = false) ∧ Below (w1.heap.size + 1) (w1.alloc (.cells #[.int .i64 sx, .int .i64 sy, .int .i64 nm, .bool ac, .bool dn, .bool bh] 38)) wr) (fun i _ => 16 - (intOf i).toNat)
      case atStart => exact ⟨0, by omega, rfl, Lib.hid fun j hj => by omega, Below.refl _ _⟩
      case round =>
        obtain ⟨y, hy, rfl, hno, hb⟩ := hrel
        by_cases hlt : y < 16
        · have i1 : (y : Int) < 16 := by omega
          have hy15 : y ≤ 15 := by omega
          have HBO := Lib.hid hb
          obtain ⟨wo, hwo⟩ : ∃ wo : World, wo = wr := ⟨_, rfl⟩
          subst hwo
          clear hb
          go_wp2
          go_loopw [22] (fun i wr => ∃ x : Nat, x ≤ 32 ∧ i = .int .i64 x ∧ Hid (∀ j, j < 32 * y + x → t j = false) ∧ Below (w1.heap.size + 1) (w1.alloc (.cells #[.int .i64 sx, .int .i64 sy, .int .i64 nm, .bool ac, .bool dn, .bool bh] 38)) wr) (fun i _ => 32 - (intOf i).toNat)
          case atStart => exact ⟨0, by omega, rfl, Lib.hid fun j hj => hno.out j (by omega), HBO.out⟩
          case round =>
            obtain ⟨x, hx, rfl, hno2, hb⟩ := hrel
            have HBR := Lib.hid hb
            have hbs := hb.size
            simp only [World.size_alloc] at hbs
            by_cases hlx : x < 32
            · have i2 : (x : Int) < 32 := by omega
              have hx31 : x ≤ 31 := by omega
              obtain ⟨k0, k1, k2, k3, k4, k5⟩ := spr_cells ((hb.block w1.heap.size (by omega)).trans (heap_alloc_new w1 (.cells #[.int .i64 sx, .int .i64 sy, .int .i64 nm, .bool ac, .bool dn, .bool bh] 38)))
              have hsb := SB.below hb (HSB.out.alloc (.cells #[.int .i64 sx, .int .i64 sy, .int .i64 nm, .bool ac, .bool dn, .bool bh] 38)) (by have := HSB.out.lt; omega)
              obtain ⟨c0, c1, c2, c3, c4, c5⟩ := hsb.cells
              have HSR := Lib.hid hsb
              have HAR := Lib.hid (RS.below hb (HA.out.alloc (by have := hb1.out.size; omega) (.cells #[.int .i64 sx, .int .i64 sy, .int .i64 nm, .bool ac, .bool dn, .bool bh] 38)) (by have := hb1.out.size; omega))
              have HBR2 := Lib.hid (RS.below hb (HB.out.alloc (by have := hb1.out.size; omega) (.cells #[.int .i64 sx, .int .i64 sy, .int .i64 nm, .bool ac, .bool dn, .bool bh] 38)) (by have := hb1.out.size; omega))
              have hwl : w.heap.size < wr.heap.size := hsb.lt
              have hwl1 : w1.heap.size < wr.heap.size := by omega
              obtain ⟨va, hva⟩ : ∃ va, spx ⟨sx, sy, nm, ac, dn, bh⟩ q (x : Int) (y : Int) = va := ⟨_, rfl⟩
              obtain ⟨vb, hvb⟩ : ∃ vb, fpx W' n X' Y' p q x y = vb := ⟨_, rfl⟩
              have HP := Lib.hid (fun u h1 h2 => by have := HPX.out x y hx31 hy15 u h1 h2; rw [hva] at this; exact this)
              have HF := Lib.hid (fun u hF h1 h2 => by have := HFX.out x y hx31 hy15 u hF h1 h2; rw [hvb] at this; exact this)
              have hT := HT.out x y hlx
              rw [hva, hvb] at hT
              have e1 : IntKind.i64.wrap (32 * (y : Int)) = 32 * (y : Int) := IntWalk.i64_in _ (by omega)
              have e2 : IntKind.i64.wrap ((x : Int) + 32 * (y : Int)) = (x : Int) + 32 * (y : Int) := IntWalk.i64_in _ (by omega)
              have e3 : IntKind.i64.wrap ((x : Int) + 1) = (x : Int) + 1 := IntWalk.i64_in _ (by omega)
              clear hva hvb hb hsb hy
              cases h1 : (va != 0)
              · rw [h1] at hT
                have HTT := Lib.hid hT
                clear hT
                go_wp2_with ((go_at_call 54; (refine (HP.out _ (by have r1 := HBR2.out; (repeat (first | with_reducible assumption | ((with_reducible refine RS.below (by assumption) ?_ ?_) <;> try ((try simp only [World.size_alloc, World.size_setCell, World.size_drew]) <;> omega)) | ((with_reducible refine RS.alloc ?_ ?_ _) <;> try ((try simp only [World.size_alloc, World.size_setCell, World.size_drew]) <;> omega)) | ((with_reducible refine RS.setRow ?_ ?_ _) <;> try ((try simp only [World.size_alloc, World.size_setCell, World.size_drew]) <;> omega)) | ((with_reducible refine RS.setCell ?_ ?_ _) <;> try ((try simp only [World.size_alloc, World.size_setCell, World.size_drew]) <;> omega)) | ((with_reducible refine RS.setCells ?_ ?_ _ _) <;> try ((try simp only [World.size_alloc, World.size_setCell, World.size_drew]) <;> omega)) | (with_reducible apply RS.drewN) | (with_reducible apply RS.drew)))) (by ((try simp only [World.size_alloc, World.size_setCell, World.size_drew]) <;> omega))).mono ?_; rintro e w5 ⟨rfl, hO_w5⟩; have hz_w5 := hO_w5.size; (try simp only [World.size_alloc, World.size_setCell, World.size_drew] at hz_w5))))
                go_roundw
                case rel =>
                  refine ⟨x + 1, by omega, by go_num, Lib.hid fun j hj => ?_, ?_⟩
                  · by_cases hj2 : j = 32 * y + x
                    · rw [hj2]; exact HTT.out
                    · exact hno2.out j (by omega)
                  · exact HBR.out.trans (hO_w5.mono (by omega))
                case measure => simp [intOf]; omega
              · cases h2 : (vb != 0)
                · rw [h1, h2] at hT
                  have HTT := Lib.hid hT
                  clear hT
                  go_wp2_with (first | (go_at_call 54; (refine (HP.out _ (by have r1 := HBR2.out; (repeat (first | with_reducible assumption | ((with_reducible refine RS.below (by assumption) ?_ ?_) <;> try ((try simp only [World.size_alloc, World.size_setCell, World.size_drew]) <;> omega)) | ((with_reducible refine RS.alloc ?_ ?_ _) <;> try ((try simp only [World.size_alloc, World.size_setCell, World.size_drew]) <;> omega)) | ((with_reducible refine RS.setRow ?_ ?_ _) <;> try ((try simp only [World.size_alloc, World.size_setCell, World.size_drew]) <;> omega)) | ((with_reducible refine RS.setCell ?_ ?_ _) <;> try ((try simp only [World.size_alloc, World.size_setCell, World.size_drew]) <;> omega)) | ((with_reducible refine RS.setCells ?_ ?_ _ _) <;> try ((try simp only [World.size_alloc, World.size_setCell, World.size_drew]) <;> omega)) | (with_reducible apply RS.drewN) | (with_reducible apply RS.drew)))) (by ((try simp only [World.size_alloc, World.size_setCell, World.size_drew]) <;> omega))).mono ?_; rintro e w5 ⟨rfl, hO_w5⟩; have hz_w5 := hO_w5.size; (try simp only [World.size_alloc, World.size_setCell, World.size_drew] at hz_w5); have hs_w5_0 : w.heap.size < w5.heap.size := (by omega); have c_w5_0 := fun o => (bcell hO_w5).1 (w.heap.size) o (by (try simp only [World.size_alloc, World.size_setCell, World.size_drew]) <;> omega); have f_w5_0 := fun o => (bcell hO_w5).2 (w.heap.size) o (by (try simp only [World.size_alloc, World.size_setCell, World.size_drew]) <;> omega); have hs_w5_1 : w1.heap.size < w5.heap.size := (by omega); have c_w5_1 := fun o => (bcell hO_w5).1 (w1.heap.size) o (by (try simp only [World.size_alloc, World.size_setCell, World.size_drew]) <;> omega); have f_w5_1 := fun o => (bcell hO_w5).2 (w1.heap.size) o (by (try simp only [World.size_alloc, World.size_setCell, World.size_drew]) <;> omega))) | (go_at_call 43; (refine (HF.out _ (SB.below hO_w5 HSR.out hwl).1 (by have r1 := HAR.out; (repeat (first | with_reducible assumption | ((with_reducible refine RS.below (by assumption) ?_ ?_) <;> try ((try simp only [World.size_alloc, World.size_setCell, World.size_drew]) <;> omega)) | ((with_reducible refine RS.alloc ?_ ?_ _) <;> try ((try simp only [World.size_alloc, World.size_setCell, World.size_drew]) <;> omega)) | ((with_reducible refine RS.setRow ?_ ?_ _) <;> try ((try simp only [World.size_alloc, World.size_setCell, World.size_drew]) <;> omega)) | ((with_reducible refine RS.setCell ?_ ?_ _) <;> try ((try simp only [World.size_alloc, World.size_setCell, World.size_drew]) <;> omega)) | ((with_reducible refine RS.setCells ?_ ?_ _ _) <;> try ((try simp only [World.size_alloc, World.size_setCell, World.size_drew]) <;> omega)) | (with_reducible apply RS.drewN) | (with_reducible apply RS.drew)))) (by have r1 := HBR2.out; (repeat (first | with_reducible assumption | ((with_reducible refine RS.below (by assumption) ?_ ?_) <;> try ((try simp only [World.size_alloc, World.size_setCell, World.size_drew]) <;> omega)) | ((with_reducible refine RS.alloc ?_ ?_ _) <;> try ((try simp only [World.size_alloc, World.size_setCell, World.size_drew]) <;> omega)) | ((with_reducible refine RS.setRow ?_ ?_ _) <;> try ((try simp only [World.size_alloc, World.size_setCell, World.size_drew]) <;> omega)) | ((with_reducible refine RS.setCell ?_ ?_ _) <;> try ((try simp only [World.size_alloc, World.size_setCell, World.size_drew]) <;> omega)) | ((with_reducible refine RS.setCells ?_ ?_ _ _) <;> try ((try simp only [World.size_alloc, World.size_setCell, World.size_drew]) <;> omega)) | (with_reducible apply RS.drewN) | (with_reducible apply RS.drew))))).mono ?_; rintro e w6 ⟨rfl, hO_w6⟩; have hz_w6 := hO_w6.size; (try simp only [World.size_alloc, World.size_setCell, World.size_drew] at hz_w6))))
                  go_roundw
                  case rel =>
                    refine ⟨x + 1, by omega, by go_num, Lib.hid fun j hj => ?_, ?_⟩
                    · by_cases hj2 : j = 32 * y + x
                      · rw [hj2]; exact HTT.out
                      · exact hno2.out j (by omega)
                    · exact (HBR.out.trans (hO_w5.mono (by omega))).trans (hO_w6.mono (by omega))
                  case measure => simp [intOf]; omega
                · rw [h1, h2] at hT
                  have HRES : Hid (ftv t = (x : Int) + 32 * (y : Int)) := Lib.hid (by
                    rw [ftv_at (j := 32 * y + x) (by omega) hT hno2.out]
                    omega)
                  clear hT
                  go_wp2_with (first | (go_at_call 54; (refine (HP.out _ (by have r1 := HBR2.out; (repeat (first | with_reducible assumption | ((with_reducible refine RS.below (by assumption) ?_ ?_) <;> try ((try simp only [World.size_alloc, World.size_setCell, World.size_drew]) <;> omega)) | ((with_reducible refine RS.alloc ?_ ?_ _) <;> try ((try simp only [World.size_alloc, World.size_setCell, World.size_drew]) <;> omega)) | ((with_reducible refine RS.setRow ?_ ?_ _) <;> try ((try simp only [World.size_alloc, World.size_setCell, World.size_drew]) <;> omega)) | ((with_reducible refine RS.setCell ?_ ?_ _) <;> try ((try simp only [World.size_alloc, World.size_setCell, World.size_drew]) <;> omega)) | ((with_reducible refine RS.setCells ?_ ?_ _ _) <;> try ((try simp only [World.size_alloc, World.size_setCell, World.size_drew]) <;> omega)) | (with_reducible apply RS.drewN) | (with_reducible apply RS.drew)))) (by ((try simp only [World.size_alloc, World.size_setCell, World.size_drew]) <;> omega))).mono ?_; rintro e w5 ⟨rfl, hO_w5⟩; have hz_w5 := hO_w5.size; (try simp only [World.size_alloc, World.size_setCell, World.size_drew] at hz_w5); have hs_w5_0 : w.heap.size < w5.heap.size := (by omega); have c_w5_0 := fun o => (bcell hO_w5).1 (w.heap.size) o (by (try simp only [World.size_alloc, World.size_setCell, World.size_drew]) <;> omega); have f_w5_0 := fun o => (bcell hO_w5).2 (w.heap.size) o (by (try simp only [World.size_alloc, World.size_setCell, World.size_drew]) <;> omega); have hs_w5_1 : w1.heap.size < w5.heap.size := (by omega); have c_w5_1 := fun o => (bcell hO_w5).1 (w1.heap.size) o (by (try simp only [World.size_alloc, World.size_setCell, World.size_drew]) <;> omega); have f_w5_1 := fun o => (bcell hO_w5).2 (w1.heap.size) o (by (try simp only [World.size_alloc, World.size_setCell, World.size_drew]) <;> omega))) | (go_at_call 43; (refine (HF.out _ (SB.below hO_w5 HSR.out hwl).1 (by have r1 := HAR.out; (repeat (first | with_reducible assumption | ((with_reducible refine RS.below (by assumption) ?_ ?_) <;> try ((try simp only [World.size_alloc, World.size_setCell, World.size_drew]) <;> omega)) | ((with_reducible refine RS.alloc ?_ ?_ _) <;> try ((try simp only [World.size_alloc, World.size_setCell, World.size_drew]) <;> omega)) | ((with_reducible refine RS.setRow ?_ ?_ _) <;> try ((try simp only [World.size_alloc, World.size_setCell, World.size_drew]) <;> omega)) | ((with_reducible refine RS.setCell ?_ ?_ _) <;> try ((try simp only [World.size_alloc, World.size_setCell, World.size_drew]) <;> omega)) | ((with_reducible refine RS.setCells ?_ ?_ _ _) <;> try ((try simp only [World.size_alloc, World.size_setCell, World.size_drew]) <;> omega)) | (with_reducible apply RS.drewN) | (with_reducible apply RS.drew)))) (by have r1 := HBR2.out; (repeat (first | with_reducible assumption | ((with_reducible refine RS.below (by assumption) ?_ ?_) <;> try ((try simp only [World.size_alloc, World.size_setCell, World.size_drew]) <;> omega)) | ((with_reducible refine RS.alloc ?_ ?_ _) <;> try ((try simp only [World.size_alloc, World.size_setCell, World.size_drew]) <;> omega)) | ((with_reducible refine RS.setRow ?_ ?_ _) <;> try ((try simp only [World.size_alloc, World.size_setCell, World.size_drew]) <;> omega)) | ((with_reducible refine RS.setCell ?_ ?_ _) <;> try ((try simp only [World.size_alloc, World.size_setCell, World.size_drew]) <;> omega)) | ((with_reducible refine RS.setCells ?_ ?_ _ _) <;> try ((try simp only [World.size_alloc, World.size_setCell, World.size_drew]) <;> omega)) | (with_reducible apply RS.drewN) | (with_reducible apply RS.drew))))).mono ?_; rintro e w6 ⟨rfl, hO_w6⟩; have hz_w6 := hO_w6.size; (try simp only [World.size_alloc, World.size_setCell, World.size_drew] at hz_w6))))
                  go_ret
                  refine ⟨by rw [HRES.out]; rfl, ?_⟩
                  refine hb1.out.trans (Below.trans ?_ ((hO_w5.mono (by omega)).trans (hO_w6.mono (by omega))))
                  exact (((Below.refl w1.heap.size w1).alloc (Nat.le_refl _) _).trans (HBR.out.mono (by omega))).mono (by have := hb1.out.size; omega)
            · have hx32 : x = 32 := by omega
              subst hx32
              clear hb
              go_wp2
              go_roundw
              case rel => exact ⟨y + 1, by omega, by go_num, Lib.hid fun j hj => hno2.out j (by omega), HBR.out⟩
              case measure => simp [intOf]; omega
        · have hy16 : y = 16 := by omega
          subst hy16
          have HBR := Lib.hid hb
          have HRES : Hid (ftv t = -1) := Lib.hid (ftv_none hno.out)
          clear hb
          go_wp2
          go_ret
          refine ⟨by rw [HRES.out]; rfl, ?_⟩
          refine hb1.out.trans ?_
          exact (((Below.refl w1.heap.size w1).alloc (Nat.le_refl _) _).trans (HBR.out.mono (by omega))).mono (by have := hb1.out.size; omega)

end Go.Proofs.Ytabioinmpjfflaa
