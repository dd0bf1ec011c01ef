/-
  The contract of FirstTouch in the reference. Conditions: at most 1048576 numbers, tiles and sprites.
-/
import Derived.Test.YtabioinmpjfflaaSceneTouch
namespace Go.Proofs.Ytabioinmpjfflaa
set_option linter.all false
set_option linter.unusedSimpArgs false
set_option linter.unusedVariables false
set_option maxRecDepth 20000
open Go.ChangeShapes Go.WideShapes Go.ChangeAt Go.RowKit

set_option maxRecDepth 100000 in
set_option maxHeartbeats 4000000 in
theorem sftc_c (W : Int) (A : Option Addr) (n c : Nat) (B : Option Addr) (m d : Nat) (X Y : Int) (S : Option Addr) (k e : Nat) (p : Nat → Int) (q : Nat → Nat → Int) (s : Nat → Spr) (w : World) {C C' C2 : Nat} (h : RS w C 1 A n (iv p)) (h' : RS w C' 64 B m (tc q)) (h2 : RS w C2 6 S k (sc s)) (hC : C ≤ w.heap.size) (hC' : C' ≤ w.heap.size) (hC2 : C2 ≤ w.heap.size) (hn : n ≤ 1048576) (hm : m ≤ 1048576) (hk : k ≤ 1048576) :
    Calls Try.prog 29 #[scV W A n c B m d X Y S k e] w fun e w' => e = .returned (.int .i64 (ftr W n m X Y p q k s)) ∧ Below w.heap.size w w' := by
  have H := Lib.hid h
  have H' := Lib.hid h'
  have H2 := Lib.hid h2
  clear h h' h2
  cases hv : scd W n m X Y p q k s
  · rw [ftr_no (by rw [hv]; rfl)]
    have HV := Lib.hid hv
    clear hv
    go_enter Try.func29, Try.ntmps29
    go_wp2_with fail
    refine (ssc_c _ _ _ _ _ _ _ _ _ _ _ _ p q s _ HV.out _ (C := C) (C' := C') (C2 := C2) (H.out.alloc hC _) (H'.out.alloc hC' _) (H2.out.alloc hC2 _) (by ((try simp only [World.size_alloc, World.size_setCell, World.size_drew]) <;> omega)) (by ((try simp only [World.size_alloc, World.size_setCell, World.size_drew]) <;> omega)) (by ((try simp only [World.size_alloc, World.size_setCell, World.size_drew]) <;> omega)) hn hm hk).mono ?_
    rintro e w1 ⟨rfl, hO_w1⟩
    have hz_w1 := hO_w1.size
    (try simp only [World.size_alloc, World.size_setCell, World.size_drew] at hz_w1)
    have hs_w1_0 : w.heap.size < w1.heap.size := (by omega)
    have c_w1_0 := fun o => (bcell hO_w1).1 (w.heap.size) o (by (try simp only [World.size_alloc, World.size_setCell, World.size_drew]) <;> omega)
    have f_w1_0 := fun o => (bcell hO_w1).2 (w.heap.size) o (by (try simp only [World.size_alloc, World.size_setCell, World.size_drew]) <;> omega)
    go_wp2
    go_ret
    refine ⟨rfl, ?_⟩
    (repeat (first | with_reducible exact Below.refl _ _ | ((with_reducible refine viaO (by assumption) ?_ ?_ ?_) <;> try ((try simp only [World.size_alloc, World.size_setCell, World.size_drew]) <;> omega)) | ((with_reducible refine Below.alloc ?_ ?_ _) <;> try ((try simp only [World.size_alloc, World.size_setCell, World.size_drew]) <;> omega)) | ((with_reducible refine Below.setCell ?_ ?_ _) <;> try ((try simp only [World.size_alloc, World.size_setCell, World.size_drew]) <;> omega)) | (with_reducible refine below_drewN ?_ _) | (with_reducible refine Below.drew ?_) | ((with_reducible refine via (by assumption) ?_ ?_) <;> try ((try simp only [World.size_alloc, World.size_setCell, World.size_drew]) <;> omega))))
  · have HV := Lib.hid hv
    by_cases hk0 : k = 0
    · subst hk0
      rw [ftr_no (by rw [hv]; rfl)]
      clear hv
      go_enter Try.func29, Try.ntmps29
      go_wp2_with fail
      refine (ssc_c _ _ _ _ _ _ _ _ _ _ _ _ p q s _ HV.out _ (C := C) (C' := C') (C2 := C2) (H.out.alloc hC _) (H'.out.alloc hC' _) (H2.out.alloc hC2 _) (by ((try simp only [World.size_alloc, World.size_setCell, World.size_drew]) <;> omega)) (by ((try simp only [World.size_alloc, World.size_setCell, World.size_drew]) <;> omega)) (by ((try simp only [World.size_alloc, World.size_setCell, World.size_drew]) <;> omega)) hn hm hk).mono ?_
      rintro e w1 ⟨rfl, hO_w1⟩
      have hz_w1 := hO_w1.size
      (try simp only [World.size_alloc, World.size_setCell, World.size_drew] at hz_w1)
      have hs_w1_0 : w.heap.size < w1.heap.size := (by omega)
      have c_w1_0 := fun o => (bcell hO_w1).1 (w.heap.size) o (by (try simp only [World.size_alloc, World.size_setCell, World.size_drew]) <;> omega)
      have f_w1_0 := fun o => (bcell hO_w1).2 (w.heap.size) o (by (try simp only [World.size_alloc, World.size_setCell, World.size_drew]) <;> omega)
      go_wp2
      go_ret
      refine ⟨rfl, ?_⟩
      (repeat (first | with_reducible exact Below.refl _ _ | ((with_reducible refine viaO (by assumption) ?_ ?_ ?_) <;> try ((try simp only [World.size_alloc, World.size_setCell, World.size_drew]) <;> omega)) | ((with_reducible refine Below.alloc ?_ ?_ _) <;> try ((try simp only [World.size_alloc, World.size_setCell, World.size_drew]) <;> omega)) | ((with_reducible refine Below.setCell ?_ ?_ _) <;> try ((try simp only [World.size_alloc, World.size_setCell, World.size_drew]) <;> omega)) | (with_reducible refine below_drewN ?_ _) | (with_reducible refine Below.drew ?_) | ((with_reducible refine via (by assumption) ?_ ?_) <;> try ((try simp only [World.size_alloc, World.size_setCell, World.size_drew]) <;> omega))))
    · have hk1 : 0 < k := by omega
      have hr : ftr W n m X Y p q k s = ftv (tch (s 0) W.toNat n X.toNat Y.toNat p q) := by unfold ftr; rw [hv, decide_eq_true hk1]; rfl
      obtain ⟨hf, hs⟩ := scd_parts hv
      obtain ⟨W', X', Y', rfl, rfl, rfl, hX, hY, hok⟩ := fok_of hf
      obtain ⟨p1, p2, p3, p4⟩ := svd_parts hs
      have hok0 := p4 0 hk1
      have hspb := fun x y => spxB (x := x) (y := y) hs hk1
      obtain ⟨si, hsi⟩ : ∃ si, s 0 = si := ⟨_, rfl⟩
      rw [hr]
      rw [hsi] at hok0 hspb ⊢
      simp only [Int.toNat_natCast]
      have hkk : ((k : Int) == 0) = false := by simpa using hk0
      have hki : (0 : Int) < (k : Int) := by omega
      go_enter Try.func29, Try.ntmps29
      have HSI := Lib.hid hsi
      have HPX := Lib.hid (fun (x y : Nat) (hx : x ≤ 31) (hy : y ≤ 15) u h1 h2 => ssp_c si B m d q x y u (C := C') hok0 h1 h2 (by omega) (by omega) (by omega) (by omega))
      have HFX := Lib.hid (fun (x y : Nat) (hx : x ≤ 31) (hy : y ≤ 15) u h1 h2 h3 h4 => spx_c W' n m A c B d X' Y' x y p q u (C := C) (C' := C') hok h1 h2 h3 h4 hX hY hx hy)
      obtain ⟨t, ht⟩ : ∃ t, tch si W' n X' Y' p q = t := ⟨_, rfl⟩
      have HT := Lib.hid (fun (x y : Nat) (hx : x < 32) => by have := tch_at si W' n X' Y' p q (x := x) (y := y) hx; rw [ht] at this; exact this)
      rw [ht]
      clear hv hr hf hs p3 p4 hsi hok0 hok hspb ht
      go_wp2_with fail
      refine (ssc_c _ _ _ _ _ _ _ _ _ _ _ _ p q s _ HV.out _ (C := C) (C' := C') (C2 := C2) (H.out.alloc hC _) (H'.out.alloc hC' _) (H2.out.alloc hC2 _) (by ((try simp only [World.size_alloc, World.size_setCell, World.size_drew]) <;> omega)) (by ((try simp only [World.size_alloc, World.size_setCell, World.size_drew]) <;> omega)) (by ((try simp only [World.size_alloc, World.size_setCell, World.size_drew]) <;> omega)) hn hm hk).mono ?_
      rintro e w1 ⟨rfl, hO_w1⟩
      have hz_w1 := hO_w1.size
      (try simp only [World.size_alloc, World.size_setCell, World.size_drew] at hz_w1)
      have hs_w1_0 : w.heap.size < w1.heap.size := (by omega)
      have c_w1_0 := fun o => (bcell hO_w1).1 (w.heap.size) o (by (try simp only [World.size_alloc, World.size_setCell, World.size_drew]) <;> omega)
      have f_w1_0 := fun o => (bcell hO_w1).2 (w.heap.size) o (by (try simp only [World.size_alloc, World.size_setCell, World.size_drew]) <;> omega)
      have HA := Lib.hid (RS.below hO_w1 (H.out.alloc hC (.cells #[.int .i64 W', .slice A n c, .slice B m d, .int .i64 X', .int .i64 Y', .slice S k e] 29)) (by ((try simp only [World.size_alloc, World.size_setCell, World.size_drew]) <;> omega)))
      have HB := Lib.hid (RS.below hO_w1 (H'.out.alloc hC' (.cells #[.int .i64 W', .slice A n c, .slice B m d, .int .i64 X', .int .i64 Y', .slice S k e] 29)) (by ((try simp only [World.size_alloc, World.size_setCell, World.size_drew]) <;> omega)))
      have HSB := Lib.hid (SB.below hO_w1 (SB.new w 29 W' A n c B m d X' Y' S k e) (by simp))
      have HS := Lib.hid (RS.below hO_w1 (H2.out.alloc hC2 (.cells #[.int .i64 W', .slice A n c, .slice B m d, .int .i64 X', .int .i64 Y', .slice S k e] 29)) (by ((try simp only [World.size_alloc, World.size_setCell, World.size_drew]) <;> omega)))
      have hb1 : Hid (Below w.heap.size w w1) := by
        refine Lib.hid ?_
        (repeat (first | with_reducible exact Below.refl _ _ | ((with_reducible refine viaO (by assumption) ?_ ?_ ?_) <;> try ((try simp only [World.size_alloc, World.size_setCell, World.size_drew]) <;> omega)) | ((with_reducible refine Below.alloc ?_ ?_ _) <;> try ((try simp only [World.size_alloc, World.size_setCell, World.size_drew]) <;> omega)) | ((with_reducible refine Below.setCell ?_ ?_ _) <;> try ((try simp only [World.size_alloc, World.size_setCell, World.size_drew]) <;> omega)) | (with_reducible refine below_drewN ?_ _) | (with_reducible refine Below.drew ?_) | ((with_reducible refine via (by assumption) ?_ ?_) <;> try ((try simp only [World.size_alloc, World.size_setCell, World.size_drew]) <;> omega))))
      obtain ⟨sx, sy, nm, ac, dn, bh⟩ := si
      clear hO_w1
      go_wp2
      go_loopw [3] (fun i wr => ∃ j : Nat, j ≤ 512 ∧ i = .int .i64 j ∧ Hid (∀ i, i < j → t i = false) ∧ Below w1.heap.size w1 wr) (fun i _ => 512 - (intOf i).toNat)
      case atStart => exact ⟨0, by omega, rfl, Lib.hid fun j hj => by omega, Below.refl _ _⟩
      case round =>
        obtain ⟨j, hj, rfl, hno, hb⟩ := hrel
        have HBR := Lib.hid hb
        have hbs := hb.size
        have hbw := hb1.out.size
        by_cases hlt : j < 512
        · obtain ⟨bS, oS, rfl, hbS, s0, s1, s2, s3, s4, s5⟩ := (RS.below hb HS.out (by omega)).spr hk1
          rw [HSI.out] at s0 s1 s2 s3 s4 s5
          simp only [Nat.zero_mul, Nat.add_zero] at s0 s1 s2 s3 s4 s5
          obtain ⟨c0, c1, c2, c3, c4, c5⟩ := (SB.below hb HSB.out HSB.out.lt).cells
          have hwl : w.heap.size < wr.heap.size := by have := HSB.out.lt; omega
          have hbl : bS < wr.heap.size := by omega
          obtain ⟨x, hx⟩ : ∃ x, j % 32 = x := ⟨_, rfl⟩
          obtain ⟨y, hy⟩ : ∃ y, j / 32 = y := ⟨_, rfl⟩
          have hx31 : x ≤ 31 := by omega
          have hy15 : y ≤ 15 := by omega
          have e1 : (j : Int) % 32 = (x : Int) := by omega
          have e2 : (j : Int) / 32 = (y : Int) := by omega
          have hj2 : j = 32 * y + x := by omega
          have i1 : (j : Int) < 512 := by omega
          have e3 : IntKind.i64.wrap ((j : Int) + 1) = (j : Int) + 1 := IntWalk.i64_in _ (by omega)
          obtain ⟨va, hva⟩ : ∃ va, spx ⟨sx, sy, nm, ac, dn, bh⟩ q (x : Int) (y : Int) = va := ⟨_, rfl⟩
          obtain ⟨vb, hvb⟩ : ∃ vb, fpx W' n X' Y' p q x y = vb := ⟨_, rfl⟩
          have hT := HT.out x y (by omega)
          rw [hva, hvb, ← hj2] at hT
          have HP := Lib.hid (fun u (hu : Below wr.heap.size wr u) => by have := HPX.out x y hx31 hy15 u (RS.below hu (RS.below HBR.out HB.out (by omega)) (by omega)) (by have := hu.size; omega); rw [hva] at this; exact this)
          have HF := Lib.hid (fun u (hu : Below wr.heap.size wr u) => by have := HFX.out x y hx31 hy15 u (RS.below hu (RS.below HBR.out HA.out (by omega)) (by omega)) (RS.below hu (RS.below HBR.out HB.out (by omega)) (by omega)) (by have := hu.size; omega) (by have := hu.size; omega); rw [hvb] at this; exact this)
          clear hva hvb hb hx hy hj hj2
          cases h1 : (va != 0)
          · rw [h1] at hT
            have HTT := Lib.hid hT
            clear hT
            go_wp2
            refine wp_region_over (by kernel_rfl) (by kernel_rfl) ?_
            intro W5 hO_W5
            have hz_W5 := hO_W5.size
            (try simp only [World.size_alloc, World.size_setCell, World.size_drew] at hz_W5)
            have hs_W5_0 : w.heap.size < W5.heap.size := (by omega)
            have c_W5_0 := fun o => (bcell hO_W5).1 (w.heap.size) o (by (try simp only [World.size_alloc, World.size_setCell, World.size_drew]) <;> omega)
            have f_W5_0 := fun o => (bcell hO_W5).2 (w.heap.size) o (by (try simp only [World.size_alloc, World.size_setCell, World.size_drew]) <;> omega)
            have hs_W5_1 : bS < W5.heap.size := (by omega)
            have c_W5_1 := fun o => (bcell hO_W5).1 (bS) o (by (try simp only [World.size_alloc, World.size_setCell, World.size_drew]) <;> omega)
            have f_W5_1 := fun o => (bcell hO_W5).2 (bS) o (by (try simp only [World.size_alloc, World.size_setCell, World.size_drew]) <;> omega)
            have v_W5_0 := fun x o => over_cell W5 x (w.heap.size) o hs_W5_0
            have v_W5_1 := fun x o => over_cell W5 x (bS) o hs_W5_1
            repeat (go_big_quiet_step ((first | (go_at_call 55; refine Calls.over_of (HP.out _ (hO_W5.trans ((over_below W5 _).mono (by omega))))) | (go_at_call 56; refine Calls.over_of (HF.out _ (hO_W5.trans ((over_below W5 _).mono (by omega))))))))
            refine wpQuiet_nil ?_
            intro W6 hx_W6
            obtain ⟨x_W6, hx_W6⟩ := hx_W6
            have hO_W6 : Below W5.heap.size W5 W6 := hx_W6 ▸ over_below W5 x_W6
            clear hx_W6
            have hz_W6 := hO_W6.size
            have hs_W6_0 : w.heap.size < W6.heap.size := (by omega)
            have c_W6_0 := fun o => (bcell hO_W6).1 (w.heap.size) o (by (try simp only [World.size_alloc, World.size_setCell, World.size_drew]) <;> omega)
            have f_W6_0 := fun o => (bcell hO_W6).2 (w.heap.size) o (by (try simp only [World.size_alloc, World.size_setCell, World.size_drew]) <;> omega)
            have hs_W6_1 : bS < W6.heap.size := (by omega)
            have c_W6_1 := fun o => (bcell hO_W6).1 (bS) o (by (try simp only [World.size_alloc, World.size_setCell, World.size_drew]) <;> omega)
            have f_W6_1 := fun o => (bcell hO_W6).2 (bS) o (by (try simp only [World.size_alloc, World.size_setCell, World.size_drew]) <;> omega)
            go_wp2
            go_roundw
            case rel =>
              refine ⟨j + 1, by omega, by go_num, Lib.hid fun i hi => ?_, ?_⟩
              · by_cases hi2 : i = j
                · rw [hi2]; exact HTT.out
                · exact hno.out i (by omega)
              · exact HBR.out.trans ((hO_W5.mono (by omega)).trans (hO_W6.mono (by omega)))
            case measure => simp [intOf]; omega
          · cases h2 : (vb != 0)
            · rw [h1, h2] at hT
              have HTT := Lib.hid hT
              clear hT
              go_wp2
              refine wp_region_over (by kernel_rfl) (by kernel_rfl) ?_
              intro W5 hO_W5
              have hz_W5 := hO_W5.size
              (try simp only [World.size_alloc, World.size_setCell, World.size_drew] at hz_W5)
              have hs_W5_0 : w.heap.size < W5.heap.size := (by omega)
              have c_W5_0 := fun o => (bcell hO_W5).1 (w.heap.size) o (by (try simp only [World.size_alloc, World.size_setCell, World.size_drew]) <;> omega)
              have f_W5_0 := fun o => (bcell hO_W5).2 (w.heap.size) o (by (try simp only [World.size_alloc, World.size_setCell, World.size_drew]) <;> omega)
              have hs_W5_1 : bS < W5.heap.size := (by omega)
              have c_W5_1 := fun o => (bcell hO_W5).1 (bS) o (by (try simp only [World.size_alloc, World.size_setCell, World.size_drew]) <;> omega)
              have f_W5_1 := fun o => (bcell hO_W5).2 (bS) o (by (try simp only [World.size_alloc, World.size_setCell, World.size_drew]) <;> omega)
              have v_W5_0 := fun x o => over_cell W5 x (w.heap.size) o hs_W5_0
              have v_W5_1 := fun x o => over_cell W5 x (bS) o hs_W5_1
              repeat (go_big_quiet_step ((first | (go_at_call 55; refine Calls.over_of (HP.out _ (hO_W5.trans ((over_below W5 _).mono (by omega))))) | (go_at_call 56; refine Calls.over_of (HF.out _ (hO_W5.trans ((over_below W5 _).mono (by omega))))))))
              refine wpQuiet_nil ?_
              intro W6 hx_W6
              obtain ⟨x_W6, hx_W6⟩ := hx_W6
              have hO_W6 : Below W5.heap.size W5 W6 := hx_W6 ▸ over_below W5 x_W6
              clear hx_W6
              have hz_W6 := hO_W6.size
              have hs_W6_0 : w.heap.size < W6.heap.size := (by omega)
              have c_W6_0 := fun o => (bcell hO_W6).1 (w.heap.size) o (by (try simp only [World.size_alloc, World.size_setCell, World.size_drew]) <;> omega)
              have f_W6_0 := fun o => (bcell hO_W6).2 (w.heap.size) o (by (try simp only [World.size_alloc, World.size_setCell, World.size_drew]) <;> omega)
              have hs_W6_1 : bS < W6.heap.size := (by omega)
              have c_W6_1 := fun o => (bcell hO_W6).1 (bS) o (by (try simp only [World.size_alloc, World.size_setCell, World.size_drew]) <;> omega)
              have f_W6_1 := fun o => (bcell hO_W6).2 (bS) o (by (try simp only [World.size_alloc, World.size_setCell, World.size_drew]) <;> omega)
              go_wp2
              go_roundw
              case rel =>
                refine ⟨j + 1, by omega, by go_num, Lib.hid fun i hi => ?_, ?_⟩
                · by_cases hi2 : i = j
                  · rw [hi2]; exact HTT.out
                  · exact hno.out i (by omega)
                · exact HBR.out.trans ((hO_W5.mono (by omega)).trans (hO_W6.mono (by omega)))
              case measure => simp [intOf]; omega
            · rw [h1, h2] at hT
              have HRES : Hid (ftv t = (j : Int)) := Lib.hid (ftv_at hlt hT hno.out)
              clear hT
              go_wp2
              refine wp_region_over (by kernel_rfl) (by kernel_rfl) ?_
              intro W5 hO_W5
              have hz_W5 := hO_W5.size
              (try simp only [World.size_alloc, World.size_setCell, World.size_drew] at hz_W5)
              have hs_W5_0 : w.heap.size < W5.heap.size := (by omega)
              have c_W5_0 := fun o => (bcell hO_W5).1 (w.heap.size) o (by (try simp only [World.size_alloc, World.size_setCell, World.size_drew]) <;> omega)
              have f_W5_0 := fun o => (bcell hO_W5).2 (w.heap.size) o (by (try simp only [World.size_alloc, World.size_setCell, World.size_drew]) <;> omega)
              have hs_W5_1 : bS < W5.heap.size := (by omega)
              have c_W5_1 := fun o => (bcell hO_W5).1 (bS) o (by (try simp only [World.size_alloc, World.size_setCell, World.size_drew]) <;> omega)
              have f_W5_1 := fun o => (bcell hO_W5).2 (bS) o (by (try simp only [World.size_alloc, World.size_setCell, World.size_drew]) <;> omega)
              have v_W5_0 := fun x o => over_cell W5 x (w.heap.size) o hs_W5_0
              have v_W5_1 := fun x o => over_cell W5 x (bS) o hs_W5_1
              repeat (go_big_quiet_step ((first | (go_at_call 55; refine Calls.over_of (HP.out _ (hO_W5.trans ((over_below W5 _).mono (by omega))))) | (go_at_call 56; refine Calls.over_of (HF.out _ (hO_W5.trans ((over_below W5 _).mono (by omega))))))))
              refine wpQuiet_nil ?_
              intro W6 hx_W6
              obtain ⟨x_W6, hx_W6⟩ := hx_W6
              have hO_W6 : Below W5.heap.size W5 W6 := hx_W6 ▸ over_below W5 x_W6
              clear hx_W6
              have hz_W6 := hO_W6.size
              have hs_W6_0 : w.heap.size < W6.heap.size := (by omega)
              have c_W6_0 := fun o => (bcell hO_W6).1 (w.heap.size) o (by (try simp only [World.size_alloc, World.size_setCell, World.size_drew]) <;> omega)
              have f_W6_0 := fun o => (bcell hO_W6).2 (w.heap.size) o (by (try simp only [World.size_alloc, World.size_setCell, World.size_drew]) <;> omega)
              have hs_W6_1 : bS < W6.heap.size := (by omega)
              have c_W6_1 := fun o => (bcell hO_W6).1 (bS) o (by (try simp only [World.size_alloc, World.size_setCell, World.size_drew]) <;> omega)
              have f_W6_1 := fun o => (bcell hO_W6).2 (bS) o (by (try simp only [World.size_alloc, World.size_setCell, World.size_drew]) <;> omega)
              go_wp2
              go_ret
              refine ⟨by rw [HRES.out]; rfl, ?_⟩
              exact hb1.out.trans ((HBR.out.trans ((hO_W5.mono (by omega)).trans (hO_W6.mono (by omega)))).mono (by omega))
        · have hj512 : j = 512 := by omega
          subst hj512
          have HRES : Hid (ftv t = -1) := Lib.hid (ftv_none hno.out)
          clear hb
          go_wp2
          go_ret
          refine ⟨by rw [HRES.out]; rfl, ?_⟩
          exact hb1.out.trans (HBR.out.mono (by omega))

end Go.Proofs.Ytabioinmpjfflaa
