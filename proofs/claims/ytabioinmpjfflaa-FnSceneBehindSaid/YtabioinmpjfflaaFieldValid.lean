/-
  The contracts of FieldValid in the program and in the reference. Conditions: at most 1048576 tiles and numbers.
-/
import Derived.Test.YtabioinmpjfflaaField
namespace Go.Proofs.Ytabioinmpjfflaa
set_option linter.all false
set_option linter.unusedSimpArgs false
set_option linter.unusedVariables false
set_option maxRecDepth 20000
open Go.ChangeShapes Go.WideShapes Go.ChangeAt Go.RowKit

set_option maxHeartbeats 1000000 in
theorem ifv_c (W : Int) (A : Option Addr) (n c : Nat) (B : Option Addr) (m d : Nat) (X Y : Int) (p : Nat → Int) (q : Nat → Nat → Int) (v : Bool) (hv : fvd W n m X Y p q = v) (w : World) {C C' : Nat} (h : RS w C 1 A n (iv p)) (h' : RS w C' 64 B m (tc q)) (hC : C ≤ w.heap.size) (hC' : C' ≤ w.heap.size) (hn : n ≤ 1048576) (hm : m ≤ 1048576) :
    Calls Try.prog 23 #[fdV W A n c B m d X Y] w fun e w' => e = .returned (.bool v) ∧ Below w.heap.size w w' := by
  have H := Lib.hid h
  have H' := Lib.hid h'
  have HV := Lib.hid hv
  clear h h' hv
  have hn0 : (0 : Int) ≤ (n : Int) := by omega
  cases hW : inB W 1 8
  · have HW := Lib.hid hW
    have hF : false = v := by rw [← HV.out]; unfold fvd; rw [hW]; simp
    subst hF; clear hW
    go_enter Try.func23, Try.ntmps23
    go_wp2_with (go_at_call 36; (first | (with_reducible refine (within_c W 1 8 _ HW.out _).mono ?_)); rintro e w' ⟨rfl, rfl⟩)
    go_ret
    refine ⟨rfl, ?_⟩
    (repeat (first | with_reducible exact Below.refl _ _ | ((with_reducible refine viaO (by assumption) ?_ ?_ ?_) <;> try ((try simp only [World.size_alloc, World.size_setCell, World.size_drew]) <;> omega)) | ((with_reducible refine Below.alloc ?_ ?_ _) <;> try ((try simp only [World.size_alloc, World.size_setCell, World.size_drew]) <;> omega)) | ((with_reducible refine Below.setCell ?_ ?_ _) <;> try ((try simp only [World.size_alloc, World.size_setCell, World.size_drew]) <;> omega)) | (with_reducible refine below_drewN ?_ _) | (with_reducible refine Below.drew ?_) | ((with_reducible refine via (by assumption) ?_ ?_) <;> try ((try simp only [World.size_alloc, World.size_setCell, World.size_drew]) <;> omega))))
  · have HW := Lib.hid hW
    obtain ⟨w0, w8⟩ := inB_true.1 hW
    have hw0 : ¬ W = 0 := by omega
    by_cases hr : (n : Int) % W = 0
    · have hr1 : ((n : Int) % W != 0) = false := by simpa using hr
      have hr2 : ((n : Int) % W == 0) = true := by simpa using hr
      have HR := Lib.hid hr2
      clear hr hr2
      have hq0 : 0 ≤ (n : Int) / W := Int.ediv_nonneg hn0 (by omega)
      have hq1 : (n : Int) / W ≤ n := Int.ediv_le_self _ hn0
      cases hQ : inB ((n : Int) / W) 1 8
      · have HQ := Lib.hid hQ
        have hF : false = v := by rw [← HV.out]; unfold fvd; rw [hW, HR.out, hQ]; simp
        subst hF; clear hW hQ
        go_enter Try.func23, Try.ntmps23
        go_wp2_with (go_at_call 36; (first | (with_reducible refine (within_c W 1 8 _ HW.out _).mono ?_) | (with_reducible refine (within_c ((n : Int) / W) 1 8 _ HQ.out _).mono ?_)); rintro e w' ⟨rfl, rfl⟩)
        go_ret
        refine ⟨rfl, ?_⟩
        (repeat (first | with_reducible exact Below.refl _ _ | ((with_reducible refine viaO (by assumption) ?_ ?_ ?_) <;> try ((try simp only [World.size_alloc, World.size_setCell, World.size_drew]) <;> omega)) | ((with_reducible refine Below.alloc ?_ ?_ _) <;> try ((try simp only [World.size_alloc, World.size_setCell, World.size_drew]) <;> omega)) | ((with_reducible refine Below.setCell ?_ ?_ _) <;> try ((try simp only [World.size_alloc, World.size_setCell, World.size_drew]) <;> omega)) | (with_reducible refine below_drewN ?_ _) | (with_reducible refine Below.drew ?_) | ((with_reducible refine via (by assumption) ?_ ?_) <;> try ((try simp only [World.size_alloc, World.size_setCell, World.size_drew]) <;> omega))))
      · have HQ := Lib.hid hQ
        by_cases hm0 : m = 0
        · subst hm0
          have hM : inB ((0 : Nat) : Int) 1 16 = false := by decide
          have hF : false = v := by rw [← HV.out]; unfold fvd; rw [hW, HR.out, hQ, hM]; simp
          subst hF; clear hW hQ hM
          go_enter Try.func23, Try.ntmps23
          go_wp2_with (go_at_call 36; (first | (with_reducible refine (within_c W 1 8 _ HW.out _).mono ?_) | (with_reducible refine (within_c ((n : Int) / W) 1 8 _ HQ.out _).mono ?_)); rintro e w' ⟨rfl, rfl⟩)
          go_ret
          refine ⟨rfl, ?_⟩
          (repeat (first | with_reducible exact Below.refl _ _ | ((with_reducible refine viaO (by assumption) ?_ ?_ ?_) <;> try ((try simp only [World.size_alloc, World.size_setCell, World.size_drew]) <;> omega)) | ((with_reducible refine Below.alloc ?_ ?_ _) <;> try ((try simp only [World.size_alloc, World.size_setCell, World.size_drew]) <;> omega)) | ((with_reducible refine Below.setCell ?_ ?_ _) <;> try ((try simp only [World.size_alloc, World.size_setCell, World.size_drew]) <;> omega)) | (with_reducible refine below_drewN ?_ _) | (with_reducible refine Below.drew ?_) | ((with_reducible refine via (by assumption) ?_ ?_) <;> try ((try simp only [World.size_alloc, World.size_setCell, World.size_drew]) <;> omega))))
        · have hM0 : ((m : Int) == 0) = false := by simpa using hm0
          cases hT : (decide (m ≤ 16) && tsv m q)
          · have HT := Lib.hid hT
            have hM : (inB (m : Int) 1 16 && tsv m q) = false := by
              rw [Bool.and_eq_false_iff] at hT ⊢
              rcases hT with hT | hT
              · exact .inl (inB_false.2 (.inr (by simp at hT; omega)))
              · exact .inr hT
            have HM := Lib.hid hM
            clear hT hM
            have hF : false = v := by rw [← HV.out]; have hM := HM.out; unfold fvd; rw [hW, HR.out, hQ]; simp only [Bool.true_and, hM, Bool.false_and]
            subst hF; clear hW hQ
            go_enter Try.func23, Try.ntmps23
            go_wp2_with (first | (go_at_call 36; (first | (with_reducible refine (within_c W 1 8 _ HW.out _).mono ?_) | (with_reducible refine (within_c ((n : Int) / W) 1 8 _ HQ.out _).mono ?_)); rintro e w' ⟨rfl, rfl⟩) | (go_at_call 47; refine (itsv_c _ _ _ _ _ HT.out _ (H'.out.alloc hC' _) (by simp; omega)).mono ?_; rintro e w1 ⟨rfl, hO_w1⟩; have hz_w1 := hO_w1.size; (try simp only [World.size_alloc] at hz_w1); have hs_w1_0 : w.heap.size < w1.heap.size := (by omega); have c_w1_0 := fun o => (bcell hO_w1).1 w.heap.size o (by simp); have f_w1_0 := fun o => (bcell hO_w1).2 w.heap.size o (by simp)))
            go_ret
            refine ⟨rfl, ?_⟩
            (repeat (first | with_reducible exact Below.refl _ _ | ((with_reducible refine viaO (by assumption) ?_ ?_ ?_) <;> try ((try simp only [World.size_alloc, World.size_setCell, World.size_drew]) <;> omega)) | ((with_reducible refine Below.alloc ?_ ?_ _) <;> try ((try simp only [World.size_alloc, World.size_setCell, World.size_drew]) <;> omega)) | ((with_reducible refine Below.setCell ?_ ?_ _) <;> try ((try simp only [World.size_alloc, World.size_setCell, World.size_drew]) <;> omega)) | (with_reducible refine below_drewN ?_ _) | (with_reducible refine Below.drew ?_) | ((with_reducible refine via (by assumption) ?_ ?_) <;> try ((try simp only [World.size_alloc, World.size_setCell, World.size_drew]) <;> omega))))
          · have HT := Lib.hid hT
            rw [Bool.and_eq_true, decide_eq_true_eq] at hT
            obtain ⟨hm16, hts⟩ := hT
            have hM : inB (m : Int) 1 16 = true := inB_true.2 (by omega)
            have HM := Lib.hid hM
            have HTS := Lib.hid hts
            clear hM hts
            cases hX : inB X 0 255
            · have HX := Lib.hid hX
              have hF : false = v := by rw [← HV.out]; unfold fvd; rw [hW, HR.out, hQ, HM.out, HTS.out, hX]; simp
              subst hF; clear hW hQ hX
              go_enter Try.func23, Try.ntmps23
              go_wp2_with (first | (go_at_call 36; (first | (with_reducible refine (within_c W 1 8 _ HW.out _).mono ?_) | (with_reducible refine (within_c ((n : Int) / W) 1 8 _ HQ.out _).mono ?_) | (with_reducible refine (within_c X 0 255 _ HX.out _).mono ?_)); rintro e w' ⟨rfl, rfl⟩) | (go_at_call 47; refine (itsv_c _ _ _ _ _ HT.out _ (H'.out.alloc hC' _) (by simp; omega)).mono ?_; rintro e w1 ⟨rfl, hO_w1⟩; have hz_w1 := hO_w1.size; (try simp only [World.size_alloc] at hz_w1); have hs_w1_0 : w.heap.size < w1.heap.size := (by omega); have c_w1_0 := fun o => (bcell hO_w1).1 w.heap.size o (by simp); have f_w1_0 := fun o => (bcell hO_w1).2 w.heap.size o (by simp)))
              go_ret
              refine ⟨rfl, ?_⟩
              (repeat (first | with_reducible exact Below.refl _ _ | ((with_reducible refine viaO (by assumption) ?_ ?_ ?_) <;> try ((try simp only [World.size_alloc, World.size_setCell, World.size_drew]) <;> omega)) | ((with_reducible refine Below.alloc ?_ ?_ _) <;> try ((try simp only [World.size_alloc, World.size_setCell, World.size_drew]) <;> omega)) | ((with_reducible refine Below.setCell ?_ ?_ _) <;> try ((try simp only [World.size_alloc, World.size_setCell, World.size_drew]) <;> omega)) | (with_reducible refine below_drewN ?_ _) | (with_reducible refine Below.drew ?_) | ((with_reducible refine via (by assumption) ?_ ?_) <;> try ((try simp only [World.size_alloc, World.size_setCell, World.size_drew]) <;> omega))))
            · have HX := Lib.hid hX
              cases hY : inB Y 0 255
              · have HY := Lib.hid hY
                have hF : false = v := by rw [← HV.out]; unfold fvd; rw [hW, HR.out, hQ, HM.out, HTS.out, hX, hY]; simp
                subst hF; clear hW hQ hX hY
                go_enter Try.func23, Try.ntmps23
                go_wp2_with (first | (go_at_call 36; (first | (with_reducible refine (within_c W 1 8 _ HW.out _).mono ?_) | (with_reducible refine (within_c ((n : Int) / W) 1 8 _ HQ.out _).mono ?_) | (with_reducible refine (within_c X 0 255 _ HX.out _).mono ?_) | (with_reducible refine (within_c Y 0 255 _ HY.out _).mono ?_)); rintro e w' ⟨rfl, rfl⟩) | (go_at_call 47; refine (itsv_c _ _ _ _ _ HT.out _ (H'.out.alloc hC' _) (by simp; omega)).mono ?_; rintro e w1 ⟨rfl, hO_w1⟩; have hz_w1 := hO_w1.size; (try simp only [World.size_alloc] at hz_w1); have hs_w1_0 : w.heap.size < w1.heap.size := (by omega); have c_w1_0 := fun o => (bcell hO_w1).1 w.heap.size o (by simp); have f_w1_0 := fun o => (bcell hO_w1).2 w.heap.size o (by simp)))
                go_ret
                refine ⟨rfl, ?_⟩
                (repeat (first | with_reducible exact Below.refl _ _ | ((with_reducible refine viaO (by assumption) ?_ ?_ ?_) <;> try ((try simp only [World.size_alloc, World.size_setCell, World.size_drew]) <;> omega)) | ((with_reducible refine Below.alloc ?_ ?_ _) <;> try ((try simp only [World.size_alloc, World.size_setCell, World.size_drew]) <;> omega)) | ((with_reducible refine Below.setCell ?_ ?_ _) <;> try ((try simp only [World.size_alloc, World.size_setCell, World.size_drew]) <;> omega)) | (with_reducible refine below_drewN ?_ _) | (with_reducible refine Below.drew ?_) | ((with_reducible refine via (by assumption) ?_ ?_) <;> try ((try simp only [World.size_alloc, World.size_setCell, World.size_drew]) <;> omega))))
              · have HY := Lib.hid hY
                have hF : msv n m p = v := by rw [← HV.out]; unfold fvd; rw [hW, HR.out, hQ, HM.out, HTS.out, hX, hY]; rfl
                have HF := Lib.hid hF
                clear hW hQ hX hY hF
                go_enter Try.func23, Try.ntmps23
                go_wp2_with (first | (go_at_call 36; (first | (with_reducible refine (within_c W 1 8 _ HW.out _).mono ?_) | (with_reducible refine (within_c ((n : Int) / W) 1 8 _ HQ.out _).mono ?_) | (with_reducible refine (within_c X 0 255 _ HX.out _).mono ?_) | (with_reducible refine (within_c Y 0 255 _ HY.out _).mono ?_)); rintro e w' ⟨rfl, rfl⟩) | (go_at_call 47; refine (itsv_c _ _ _ _ _ HT.out _ (H'.out.alloc hC' _) (by simp; omega)).mono ?_; rintro e w1 ⟨rfl, hO_w1⟩; have hz_w1 := hO_w1.size; (try simp only [World.size_alloc] at hz_w1); have hs_w1_0 : w.heap.size < w1.heap.size := (by omega); have c_w1_0 := fun o => (bcell hO_w1).1 w.heap.size o (by simp); have f_w1_0 := fun o => (bcell hO_w1).2 w.heap.size o (by simp)))
                go_loop [53] (fun i => ∃ k : Nat, k ≤ n ∧ i = .int .i64 k ∧ Hid (∀ j, j < k → inB (p j) 0 ((m : Int) - 1) = true)) (fun i => n - (intOf i).toNat)
                case atStart => exact ⟨0, by omega, rfl, fun j hj => by omega⟩
                case round =>
                  obtain ⟨k, hk, rfl, hall⟩ := hrel
                  by_cases hlt : k < n
                  · obtain ⟨b, off, rfl, hbl, hc⟩ := H.out.at_ (by omega)
                    have ck := (hO_w1.cell (p := ⟨b, off + k, none⟩) (by simp; omega)).trans ((World.cell?_alloc_lt w _ ⟨b, off + k, none⟩ (by show b < _; omega)).trans (hc k (by omega)))
                    clear hc
                    cases hb : inB (p k) 0 ((m : Int) - 1)
                    · have HB := Lib.hid hb
                      clear hb
                      go_wp2_with (go_at_call 36; refine (within_c (p k) 0 ((m : Int) - 1) _ HB.out _).mono ?_; rintro e w' ⟨rfl, rfl⟩)
                      go_ret
                      refine ⟨ret_bool ((msv_no hlt HB.out).symm.trans HF.out), ?_⟩
                      (repeat (first | with_reducible exact Below.refl _ _ | ((with_reducible refine viaO (by assumption) ?_ ?_ ?_) <;> try ((try simp only [World.size_alloc, World.size_setCell, World.size_drew]) <;> omega)) | ((with_reducible refine Below.alloc ?_ ?_ _) <;> try ((try simp only [World.size_alloc, World.size_setCell, World.size_drew]) <;> omega)) | ((with_reducible refine Below.setCell ?_ ?_ _) <;> try ((try simp only [World.size_alloc, World.size_setCell, World.size_drew]) <;> omega)) | (with_reducible refine below_drewN ?_ _) | (with_reducible refine Below.drew ?_) | ((with_reducible refine via (by assumption) ?_ ?_) <;> try ((try simp only [World.size_alloc, World.size_setCell, World.size_drew]) <;> omega))))
                    · have HB := Lib.hid hb
                      clear hb
                      go_wp2_with (go_at_call 36; refine (within_c (p k) 0 ((m : Int) - 1) _ HB.out _).mono ?_; rintro e w' ⟨rfl, rfl⟩)
                      go_round
                      case rel => exact ⟨k + 1, by omega, by go_num, fun j hj => by
                        by_cases e : j = k
                        · subst e; exact HB.out
                        · exact hall.out j (by omega)⟩
                      case measure => simp [intOf]; omega
                  · have hkn : k = n := by omega
                    subst hkn
                    go_wp2
                    go_ret
                    refine ⟨ret_bool ((msv_true.2 hall.out).symm.trans HF.out), ?_⟩
                    (repeat (first | with_reducible exact Below.refl _ _ | ((with_reducible refine viaO (by assumption) ?_ ?_ ?_) <;> try ((try simp only [World.size_alloc, World.size_setCell, World.size_drew]) <;> omega)) | ((with_reducible refine Below.alloc ?_ ?_ _) <;> try ((try simp only [World.size_alloc, World.size_setCell, World.size_drew]) <;> omega)) | ((with_reducible refine Below.setCell ?_ ?_ _) <;> try ((try simp only [World.size_alloc, World.size_setCell, World.size_drew]) <;> omega)) | (with_reducible refine below_drewN ?_ _) | (with_reducible refine Below.drew ?_) | ((with_reducible refine via (by assumption) ?_ ?_) <;> try ((try simp only [World.size_alloc, World.size_setCell, World.size_drew]) <;> omega))))

    · have hr1 : ((n : Int) % W != 0) = true := by simpa using hr
      have hr2 : ((n : Int) % W == 0) = false := by simpa using hr
      have HR := Lib.hid hr2
      clear hr hr2
      have hF : false = v := by rw [← HV.out]; unfold fvd; rw [hW, HR.out]; simp
      subst hF; clear hW
      go_enter Try.func23, Try.ntmps23
      go_wp2_with (go_at_call 36; (first | (with_reducible refine (within_c W 1 8 _ HW.out _).mono ?_)); rintro e w' ⟨rfl, rfl⟩)
      go_ret
      refine ⟨rfl, ?_⟩
      (repeat (first | with_reducible exact Below.refl _ _ | ((with_reducible refine viaO (by assumption) ?_ ?_ ?_) <;> try ((try simp only [World.size_alloc, World.size_setCell, World.size_drew]) <;> omega)) | ((with_reducible refine Below.alloc ?_ ?_ _) <;> try ((try simp only [World.size_alloc, World.size_setCell, World.size_drew]) <;> omega)) | ((with_reducible refine Below.setCell ?_ ?_ _) <;> try ((try simp only [World.size_alloc, World.size_setCell, World.size_drew]) <;> omega)) | (with_reducible refine below_drewN ?_ _) | (with_reducible refine Below.drew ?_) | ((with_reducible refine via (by assumption) ?_ ?_) <;> try ((try simp only [World.size_alloc, World.size_setCell, World.size_drew]) <;> omega))))

set_option maxHeartbeats 1000000 in
theorem sfv_c (W : Int) (A : Option Addr) (n c : Nat) (B : Option Addr) (m d : Nat) (X Y : Int) (p : Nat → Int) (q : Nat → Nat → Int) (v : Bool) (hv : fvd W n m X Y p q = v) (w : World) {C C' : Nat} (h : RS w C 1 A n (iv p)) (h' : RS w C' 64 B m (tc q)) (hC : C ≤ w.heap.size) (hC' : C' ≤ w.heap.size) (hn : n ≤ 1048576) (hm : m ≤ 1048576) :
    Calls Try.prog 33 #[fdV W A n c B m d X Y] w fun e w' => e = .returned (.bool v) ∧ Below w.heap.size w w' := by
  have H := Lib.hid h
  have H' := Lib.hid h'
  have HV := Lib.hid hv
  clear h h' hv
  have hn0 : (0 : Int) ≤ (n : Int) := by omega
  cases hW : inB W 1 8
  · have HW := Lib.hid hW
    have hF : false = v := by rw [← HV.out]; unfold fvd; rw [hW]; simp
    subst hF; clear hW
    go_enter Try.func33, Try.ntmps33
    go_wp2_with (go_at_call 39; (first | (with_reducible refine (l1In_c W 1 8 _ HW.out _).mono ?_)); rintro e w' ⟨rfl, rfl⟩)
    go_ret
    refine ⟨rfl, ?_⟩
    (repeat (first | with_reducible exact Below.refl _ _ | ((with_reducible refine viaO (by assumption) ?_ ?_ ?_) <;> try ((try simp only [World.size_alloc, World.size_setCell, World.size_drew]) <;> omega)) | ((with_reducible refine Below.alloc ?_ ?_ _) <;> try ((try simp only [World.size_alloc, World.size_setCell, World.size_drew]) <;> omega)) | ((with_reducible refine Below.setCell ?_ ?_ _) <;> try ((try simp only [World.size_alloc, World.size_setCell, World.size_drew]) <;> omega)) | (with_reducible refine below_drewN ?_ _) | (with_reducible refine Below.drew ?_) | ((with_reducible refine via (by assumption) ?_ ?_) <;> try ((try simp only [World.size_alloc, World.size_setCell, World.size_drew]) <;> omega))))
  · have HW := Lib.hid hW
    obtain ⟨w0, w8⟩ := inB_true.1 hW
    have hw0 : ¬ W = 0 := by omega
    by_cases hr : (n : Int) % W = 0
    · have hr1 : ((n : Int) % W != 0) = false := by simpa using hr
      have hr2 : ((n : Int) % W == 0) = true := by simpa using hr
      have HR := Lib.hid hr2
      clear hr hr2
      have hq0 : 0 ≤ (n : Int) / W := Int.ediv_nonneg hn0 (by omega)
      have hq1 : (n : Int) / W ≤ n := Int.ediv_le_self _ hn0
      cases hQ : inB ((n : Int) / W) 1 8
      · have HQ := Lib.hid hQ
        have hF : false = v := by rw [← HV.out]; unfold fvd; rw [hW, HR.out, hQ]; simp
        subst hF; clear hW hQ
        go_enter Try.func33, Try.ntmps33
        go_wp2_with (go_at_call 39; (first | (with_reducible refine (l1In_c W 1 8 _ HW.out _).mono ?_) | (with_reducible refine (l1In_c ((n : Int) / W) 1 8 _ HQ.out _).mono ?_)); rintro e w' ⟨rfl, rfl⟩)
        go_ret
        refine ⟨rfl, ?_⟩
        (repeat (first | with_reducible exact Below.refl _ _ | ((with_reducible refine viaO (by assumption) ?_ ?_ ?_) <;> try ((try simp only [World.size_alloc, World.size_setCell, World.size_drew]) <;> omega)) | ((with_reducible refine Below.alloc ?_ ?_ _) <;> try ((try simp only [World.size_alloc, World.size_setCell, World.size_drew]) <;> omega)) | ((with_reducible refine Below.setCell ?_ ?_ _) <;> try ((try simp only [World.size_alloc, World.size_setCell, World.size_drew]) <;> omega)) | (with_reducible refine below_drewN ?_ _) | (with_reducible refine Below.drew ?_) | ((with_reducible refine via (by assumption) ?_ ?_) <;> try ((try simp only [World.size_alloc, World.size_setCell, World.size_drew]) <;> omega))))
      · have HQ := Lib.hid hQ
        cases hM : inB (m : Int) 1 16
        · have HM := Lib.hid hM
          have hF : false = v := by rw [← HV.out]; unfold fvd; rw [hW, HR.out, hQ, hM]; simp
          subst hF; clear hW hQ hM
          go_enter Try.func33, Try.ntmps33
          go_wp2_with (go_at_call 39; (first | (with_reducible refine (l1In_c W 1 8 _ HW.out _).mono ?_) | (with_reducible refine (l1In_c ((n : Int) / W) 1 8 _ HQ.out _).mono ?_) | (with_reducible refine (l1In_c (m : Int) 1 16 _ HM.out _).mono ?_)); rintro e w' ⟨rfl, rfl⟩)
          go_ret
          refine ⟨rfl, ?_⟩
          (repeat (first | with_reducible exact Below.refl _ _ | ((with_reducible refine viaO (by assumption) ?_ ?_ ?_) <;> try ((try simp only [World.size_alloc, World.size_setCell, World.size_drew]) <;> omega)) | ((with_reducible refine Below.alloc ?_ ?_ _) <;> try ((try simp only [World.size_alloc, World.size_setCell, World.size_drew]) <;> omega)) | ((with_reducible refine Below.setCell ?_ ?_ _) <;> try ((try simp only [World.size_alloc, World.size_setCell, World.size_drew]) <;> omega)) | (with_reducible refine below_drewN ?_ _) | (with_reducible refine Below.drew ?_) | ((with_reducible refine via (by assumption) ?_ ?_) <;> try ((try simp only [World.size_alloc, World.size_setCell, World.size_drew]) <;> omega))))
        · have HM := Lib.hid hM
          obtain ⟨hm1, hm16⟩ := inB_true.1 hM
          cases hX : inB X 0 255
          · have HX := Lib.hid hX
            have hF : false = v := by
              rw [← HV.out]; unfold fvd; rw [hW, HR.out, hQ, hM, hX]; cases tsv m q <;> rfl
            subst hF; clear hW hQ hM hX
            go_enter Try.func33, Try.ntmps33
            go_wp2_with (go_at_call 39; (first | (with_reducible refine (l1In_c W 1 8 _ HW.out _).mono ?_) | (with_reducible refine (l1In_c ((n : Int) / W) 1 8 _ HQ.out _).mono ?_) | (with_reducible refine (l1In_c (m : Int) 1 16 _ HM.out _).mono ?_) | (with_reducible refine (l1In_c X 0 255 _ HX.out _).mono ?_)); rintro e w' ⟨rfl, rfl⟩)
            go_ret
            refine ⟨rfl, ?_⟩
            (repeat (first | with_reducible exact Below.refl _ _ | ((with_reducible refine viaO (by assumption) ?_ ?_ ?_) <;> try ((try simp only [World.size_alloc, World.size_setCell, World.size_drew]) <;> omega)) | ((with_reducible refine Below.alloc ?_ ?_ _) <;> try ((try simp only [World.size_alloc, World.size_setCell, World.size_drew]) <;> omega)) | ((with_reducible refine Below.setCell ?_ ?_ _) <;> try ((try simp only [World.size_alloc, World.size_setCell, World.size_drew]) <;> omega)) | (with_reducible refine below_drewN ?_ _) | (with_reducible refine Below.drew ?_) | ((with_reducible refine via (by assumption) ?_ ?_) <;> try ((try simp only [World.size_alloc, World.size_setCell, World.size_drew]) <;> omega))))
          · have HX := Lib.hid hX
            cases hY : inB Y 0 255
            · have HY := Lib.hid hY
              have hF : false = v := by
                rw [← HV.out]; unfold fvd; rw [hW, HR.out, hQ, hM, hX, hY]; cases tsv m q <;> rfl
              subst hF; clear hW hQ hM hX hY
              go_enter Try.func33, Try.ntmps33
              go_wp2_with (go_at_call 39; (first | (with_reducible refine (l1In_c W 1 8 _ HW.out _).mono ?_) | (with_reducible refine (l1In_c ((n : Int) / W) 1 8 _ HQ.out _).mono ?_) | (with_reducible refine (l1In_c (m : Int) 1 16 _ HM.out _).mono ?_) | (with_reducible refine (l1In_c X 0 255 _ HX.out _).mono ?_) | (with_reducible refine (l1In_c Y 0 255 _ HY.out _).mono ?_)); rintro e w' ⟨rfl, rfl⟩)
              go_ret
              refine ⟨rfl, ?_⟩
              (repeat (first | with_reducible exact Below.refl _ _ | ((with_reducible refine viaO (by assumption) ?_ ?_ ?_) <;> try ((try simp only [World.size_alloc, World.size_setCell, World.size_drew]) <;> omega)) | ((with_reducible refine Below.alloc ?_ ?_ _) <;> try ((try simp only [World.size_alloc, World.size_setCell, World.size_drew]) <;> omega)) | ((with_reducible refine Below.setCell ?_ ?_ _) <;> try ((try simp only [World.size_alloc, World.size_setCell, World.size_drew]) <;> omega)) | (with_reducible refine below_drewN ?_ _) | (with_reducible refine Below.drew ?_) | ((with_reducible refine via (by assumption) ?_ ?_) <;> try ((try simp only [World.size_alloc, World.size_setCell, World.size_drew]) <;> omega))))
            · have HY := Lib.hid hY
              have hF : (tsv m q && msv n m p) = v := by rw [← HV.out]; unfold fvd; rw [hW, HR.out, hQ, hM, hX, hY]; cases tsv m q <;> rfl
              have HF := Lib.hid hF
              clear hW hQ hM hX hY hF
              go_enter Try.func33, Try.ntmps33
              go_wp2_with (go_at_call 39; (first | (with_reducible refine (l1In_c W 1 8 _ HW.out _).mono ?_) | (with_reducible refine (l1In_c ((n : Int) / W) 1 8 _ HQ.out _).mono ?_) | (with_reducible refine (l1In_c (m : Int) 1 16 _ HM.out _).mono ?_) | (with_reducible refine (l1In_c X 0 255 _ HX.out _).mono ?_) | (with_reducible refine (l1In_c Y 0 255 _ HY.out _).mono ?_)); rintro e w' ⟨rfl, rfl⟩)
              go_loopw [3] (fun i wr => ∃ k : Nat, k ≤ m ∧ i = .int .i64 k ∧ Hid (∀ j, j < k → tvd (q j) = true) ∧ FB wr w.heap.size 26 W A n c B m d X Y ∧ Below w.heap.size w wr) (fun i _ => m - (intOf i).toNat)
              case atStart =>
                refine ⟨0, by omega, rfl, fun j hj => by omega, FB.new _ _ _ _ _ _ _ _ _ _ _, ?_⟩
                (repeat (first | with_reducible exact Below.refl _ _ | ((with_reducible refine viaO (by assumption) ?_ ?_ ?_) <;> try ((try simp only [World.size_alloc, World.size_setCell, World.size_drew]) <;> omega)) | ((with_reducible refine Below.alloc ?_ ?_ _) <;> try ((try simp only [World.size_alloc, World.size_setCell, World.size_drew]) <;> omega)) | ((with_reducible refine Below.setCell ?_ ?_ _) <;> try ((try simp only [World.size_alloc, World.size_setCell, World.size_drew]) <;> omega)) | (with_reducible refine below_drewN ?_ _) | (with_reducible refine Below.drew ?_) | ((with_reducible refine via (by assumption) ?_ ?_) <;> try ((try simp only [World.size_alloc, World.size_setCell, World.size_drew]) <;> omega))))
              case round =>
                obtain ⟨k, hk, rfl, hall, hBx, hb⟩ := hrel
                have HBx := Lib.hid hBx
                have HB := Lib.hid hb
                have hlb := hBx.lt
                obtain ⟨x0, x1, x2, x3, x4⟩ := hBx.cells
                by_cases hlt : k < m
                · obtain ⟨b, off, rfl, hbl, hc⟩ := (RS.below hb H'.out hC').at_ (by omega)
                  have hr := ts_range hc hlt
                  clear hb hc hBx
                  cases ht : tvd (q k)
                  · have HT := Lib.hid ht
                    clear ht
                    go_wp2_with ((with_reducible refine atLoad (ty := 36) ?_); refine wpList_load_tile_mid rfl 36 _ rfl b (off + k * 64) rfl (q k) hr _ Try.underlying36 rfl size36 ?_)
                    go_wp2_with fail
                    refine (stv_c _ _ HT.out _).mono ?_
                    rintro e w1 ⟨rfl, hO_w1⟩
                    have hz_w1 := hO_w1.size
                    (try simp only [World.size_alloc, World.size_setCell, World.size_drew] at hz_w1)
                    go_wp2
                    go_ret
                    refine ⟨ret_bool (by rw [← HF.out, tsv_no hlt HT.out]; rfl), ?_⟩
                    exact via hO_w1 HB.out HB.out.size
                  · have HT := Lib.hid ht
                    clear ht
                    go_wp2_with ((with_reducible refine atLoad (ty := 36) ?_); refine wpList_load_tile_mid rfl 36 _ rfl b (off + k * 64) rfl (q k) hr _ Try.underlying36 rfl size36 ?_)
                    go_wp2_with fail
                    refine (stv_c _ _ HT.out _).mono ?_
                    rintro e w1 ⟨rfl, hO_w1⟩
                    have hz_w1 := hO_w1.size
                    (try simp only [World.size_alloc, World.size_setCell, World.size_drew] at hz_w1)
                    go_wp2
                    go_roundw
                    case rel =>
                      refine ⟨k + 1, by omega, by go_num, fun j hj => ?_, FB.below hO_w1 HBx.out hlb, via hO_w1 HB.out HB.out.size⟩
                      by_cases e : j = k
                      · subst e; exact HT.out
                      · exact hall.out j (by omega)
                    case measure => simp [intOf]; omega
                · have hkm : k = m := by omega
                  subst hkm
                  have hF2 : msv n k p = v := by rw [← HF.out, tsv_true.2 hall.out]; rfl
                  have HF2 := Lib.hid hF2
                  clear hF2 hb hBx
                  go_wp2
                  clear x0 x1 x2 x3 x4
                  obtain ⟨wo, rfl⟩ : ∃ wo : World, wo = wr := ⟨_, rfl⟩
                  go_loopw [4] (fun i wr => ∃ k' : Nat, k' ≤ n ∧ i = .int .i64 k' ∧ Hid (∀ j, j < k' → inB (p j) 0 ((k : Int) - 1) = true) ∧ FB wr w.heap.size 26 W A n c B k d X Y ∧ Below w.heap.size w wr) (fun i _ => n - (intOf i).toNat)
                  case atStart => exact ⟨0, by omega, rfl, fun j hj => by omega, HBx.out, HB.out⟩
                  case round =>
                    obtain ⟨k', hk', rfl, hall', hBx', hb'⟩ := hrel
                    have HBx' := Lib.hid hBx'
                    have HB' := Lib.hid hb'
                    have hlb' := hBx'.lt
                    obtain ⟨x0, x1, x2, x3, x4⟩ := hBx'.cells
                    by_cases hlt' : k' < n
                    · obtain ⟨b, off, rfl, hbl, hc⟩ := (RS.below hb' H.out hC).at_ (by omega)
                      have ck := hc k' (by omega)
                      have hbw : b < wr.heap.size := by have := hb'.size; omega
                      have i1 : (k' : Int) < (n : Int) := by omega
                      have e1 : IntKind.i64.wrap ((k : Int) - 1) = (k : Int) - 1 := IntWalk.i64_in _ (by omega)
                      clear hb' hc hBx'
                      cases hb : inB (p k') 0 ((k : Int) - 1)
                      · have HBB := Lib.hid hb
                        clear hb
                        go_wp2
                        refine wp_region_over (by kernel_rfl) (by kernel_rfl) ?_
                        intro W3 hO_W3
                        have hz_W3 := hO_W3.size
                        (try simp only [World.size_alloc, World.size_setCell, World.size_drew] at hz_W3)
                        have hs_W3_0 : w.heap.size < W3.heap.size := (by omega)
                        have c_W3_0 := fun o => (bcell hO_W3).1 (w.heap.size) o (by (try simp only [World.size_alloc, World.size_setCell, World.size_drew]) <;> omega)
                        have f_W3_0 := fun o => (bcell hO_W3).2 (w.heap.size) o (by (try simp only [World.size_alloc, World.size_setCell, World.size_drew]) <;> omega)
                        have hs_W3_1 : b < W3.heap.size := (by omega)
                        have c_W3_1 := fun o => (bcell hO_W3).1 (b) o (by (try simp only [World.size_alloc, World.size_setCell, World.size_drew]) <;> omega)
                        have f_W3_1 := fun o => (bcell hO_W3).2 (b) o (by (try simp only [World.size_alloc, World.size_setCell, World.size_drew]) <;> omega)
                        have v_W3_0 := fun x o => over_cell W3 x (w.heap.size) o hs_W3_0
                        have v_W3_1 := fun x o => over_cell W3 x (b) o hs_W3_1
                        repeat (go_big_quiet_step ((go_at_call 39; (with_reducible refine Calls.over_same (l1In_c (p k') 0 ((k : Int) - 1) _ HBB.out _)))))
                        refine wpQuiet_nil ?_
                        intro W4 hx_W4
                        obtain ⟨x_W4, hx_W4⟩ := hx_W4
                        have hO_W4 : Below W3.heap.size W3 W4 := hx_W4 ▸ over_below W3 x_W4
                        clear hx_W4
                        have hz_W4 := hO_W4.size
                        have hs_W4_0 : w.heap.size < W4.heap.size := (by omega)
                        have c_W4_0 := fun o => (bcell hO_W4).1 (w.heap.size) o (by (try simp only [World.size_alloc, World.size_setCell, World.size_drew]) <;> omega)
                        have f_W4_0 := fun o => (bcell hO_W4).2 (w.heap.size) o (by (try simp only [World.size_alloc, World.size_setCell, World.size_drew]) <;> omega)
                        have hs_W4_1 : b < W4.heap.size := (by omega)
                        have c_W4_1 := fun o => (bcell hO_W4).1 (b) o (by (try simp only [World.size_alloc, World.size_setCell, World.size_drew]) <;> omega)
                        have f_W4_1 := fun o => (bcell hO_W4).2 (b) o (by (try simp only [World.size_alloc, World.size_setCell, World.size_drew]) <;> omega)
                        go_wp2
                        go_ret
                        refine ⟨ret_bool ((msv_no hlt' HBB.out).symm.trans HF2.out), ?_⟩
                        refine Below.trans HB'.out ?_
                        exact (hO_W3.mono (by have := HB'.out.size; omega)).trans (hO_W4.mono (by omega))
                      · have HBB := Lib.hid hb
                        clear hb
                        go_wp2
                        refine wp_region_over (by kernel_rfl) (by kernel_rfl) ?_
                        intro W3 hO_W3
                        have hz_W3 := hO_W3.size
                        (try simp only [World.size_alloc, World.size_setCell, World.size_drew] at hz_W3)
                        have hs_W3_0 : w.heap.size < W3.heap.size := (by omega)
                        have c_W3_0 := fun o => (bcell hO_W3).1 (w.heap.size) o (by (try simp only [World.size_alloc, World.size_setCell, World.size_drew]) <;> omega)
                        have f_W3_0 := fun o => (bcell hO_W3).2 (w.heap.size) o (by (try simp only [World.size_alloc, World.size_setCell, World.size_drew]) <;> omega)
                        have hs_W3_1 : b < W3.heap.size := (by omega)
                        have c_W3_1 := fun o => (bcell hO_W3).1 (b) o (by (try simp only [World.size_alloc, World.size_setCell, World.size_drew]) <;> omega)
                        have f_W3_1 := fun o => (bcell hO_W3).2 (b) o (by (try simp only [World.size_alloc, World.size_setCell, World.size_drew]) <;> omega)
                        have v_W3_0 := fun x o => over_cell W3 x (w.heap.size) o hs_W3_0
                        have v_W3_1 := fun x o => over_cell W3 x (b) o hs_W3_1
                        repeat (go_big_quiet_step ((go_at_call 39; (with_reducible refine Calls.over_same (l1In_c (p k') 0 ((k : Int) - 1) _ HBB.out _)))))
                        refine wpQuiet_nil ?_
                        intro W4 hx_W4
                        obtain ⟨x_W4, hx_W4⟩ := hx_W4
                        have hO_W4 : Below W3.heap.size W3 W4 := hx_W4 ▸ over_below W3 x_W4
                        clear hx_W4
                        have hz_W4 := hO_W4.size
                        have hs_W4_0 : w.heap.size < W4.heap.size := (by omega)
                        have c_W4_0 := fun o => (bcell hO_W4).1 (w.heap.size) o (by (try simp only [World.size_alloc, World.size_setCell, World.size_drew]) <;> omega)
                        have f_W4_0 := fun o => (bcell hO_W4).2 (w.heap.size) o (by (try simp only [World.size_alloc, World.size_setCell, World.size_drew]) <;> omega)
                        have hs_W4_1 : b < W4.heap.size := (by omega)
                        have c_W4_1 := fun o => (bcell hO_W4).1 (b) o (by (try simp only [World.size_alloc, World.size_setCell, World.size_drew]) <;> omega)
                        have f_W4_1 := fun o => (bcell hO_W4).2 (b) o (by (try simp only [World.size_alloc, World.size_setCell, World.size_drew]) <;> omega)
                        go_wp2
                        go_roundw
                        case rel =>
                          refine ⟨k' + 1, by omega, by go_num, fun j hj => ?_, FB.below hO_W4 (FB.below hO_W3 HBx'.out (by omega)) (by omega), ?_⟩
                          · by_cases e : j = k'
                            · subst e; exact HBB.out
                            · exact hall'.out j (by omega)
                          · refine Below.trans HB'.out ?_
                            exact (hO_W3.mono (by have := HB'.out.size; omega)).trans (hO_W4.mono (by omega))
                        case measure => simp [intOf]; omega
                    · have hkn : k' = n := by omega
                      subst hkn
                      clear hb' hBx'
                      go_wp2
                      go_ret
                      exact ⟨ret_bool ((msv_true.2 hall'.out).symm.trans HF2.out), HB'.out⟩

    · have hr1 : ((n : Int) % W != 0) = true := by simpa using hr
      have hr2 : ((n : Int) % W == 0) = false := by simpa using hr
      have HR := Lib.hid hr2
      clear hr hr2
      have hF : false = v := by rw [← HV.out]; unfold fvd; rw [hW, HR.out]; simp
      subst hF; clear hW
      go_enter Try.func33, Try.ntmps33
      go_wp2_with (go_at_call 39; (first | (with_reducible refine (l1In_c W 1 8 _ HW.out _).mono ?_)); rintro e w' ⟨rfl, rfl⟩)
      go_ret
      refine ⟨rfl, ?_⟩
      (repeat (first | with_reducible exact Below.refl _ _ | ((with_reducible refine viaO (by assumption) ?_ ?_ ?_) <;> try ((try simp only [World.size_alloc, World.size_setCell, World.size_drew]) <;> omega)) | ((with_reducible refine Below.alloc ?_ ?_ _) <;> try ((try simp only [World.size_alloc, World.size_setCell, World.size_drew]) <;> omega)) | ((with_reducible refine Below.setCell ?_ ?_ _) <;> try ((try simp only [World.size_alloc, World.size_setCell, World.size_drew]) <;> omega)) | (with_reducible refine below_drewN ?_ _) | (with_reducible refine Below.drew ?_) | ((with_reducible refine via (by assumption) ?_ ?_) <;> try ((try simp only [World.size_alloc, World.size_setCell, World.size_drew]) <;> omega))))

end Go.Proofs.Ytabioinmpjfflaa
