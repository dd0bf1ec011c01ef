/-
  The contracts of SpritesOnLine, SpriteAt and SpritesHidden in the program and in the reference. Conditions: at most 1048576 sprites and tiles.
-/
import Derived.Test.YtabioinmpjfflaaSprOn
namespace Go.Proofs.Ytabioinmpjfflaa
set_option linter.all false
set_option linter.unusedSimpArgs false
set_option linter.unusedVariables false
set_option maxRecDepth 20000
open Go.ChangeShapes Go.WideShapes Go.ChangeAt Go.RowKit

/-- The first sprite of a list that has a pixel at a place, and the pixel. -/
def fat (s : Nat → Spr) (q : Nat → Nat → Int) (x y : Int) : List Nat → Int × Int
  | [] => (-1, 0)
  | i :: L => if spx (s i) q x y = 0 then fat s q x y L else (i, spx (s i) q x y)
theorem drop_cons {L : List Nat} {k : Nat} (h : k < L.length) : ∃ i, L.getD k 0 = i ∧ L.drop k = i :: L.drop (k + 1) ∧ i ∈ L :=
  ⟨L[k], by simp [List.getD, h], List.drop_eq_getElem_cons h, List.getElem_mem h⟩

set_option maxHeartbeats 1000000 in
theorem isa_c (A : Option Addr) (n c : Nat) (B : Option Addr) (m d : Nat) (s : Nat → Spr) (q : Nat → Nat → Int) (x y : Int) (L : List Nat) (D : Option Addr) (e : Nat) (w : World) {C C' C2 : Nat} (h : RS w C 6 A n (sc s)) (h' : RS w C' 64 B m (tc q)) (h2 : RS w C2 1 D L.length (lc L)) (hC : C ≤ w.heap.size) (hC' : C' ≤ w.heap.size) (hC2 : C2 ≤ w.heap.size)
    (hL : ∀ i, i ∈ L → i < n ∧ sok m (s i) = true) (hl : L.length ≤ 4) (hn : n ≤ 12) (hx0 : 0 ≤ x) (hx1 : x ≤ 31) (hy0 : 0 ≤ y) (hy1 : y ≤ 15) :
    Calls Try.prog 45 #[.slice A n c, .slice B m d, .slice D L.length e, .int .i64 x, .int .i64 y] w fun e w' => e = .returned (.tuple #[.int .i64 (fat s q x y L).1, .int .i64 (fat s q x y L).2]) ∧ Below w.heap.size w w' := by
  have H := Lib.hid h
  have H' := Lib.hid h'
  have H2 := Lib.hid h2
  have HL := Lib.hid hL
  clear h h' h2 hL
  go_enter Try.func45, Try.ntmps45
  go_wp2
  go_loopw [17] (fun i wr => ∃ k : Nat, k ≤ L.length ∧ i = .int .i64 k ∧ Hid (fat s q x y (L.drop k) = fat s q x y L) ∧ Below w.heap.size w wr) (fun i _ => L.length - (intOf i).toNat)
  case atStart => exact ⟨0, by omega, rfl, Lib.hid (by rw [List.drop_zero]), Below.refl _ _⟩
  case round =>
    obtain ⟨k, hk, rfl, hF, hb⟩ := hrel
    have HB := Lib.hid hb
    have hbs := hb.size
    by_cases hlt : k < L.length
    · obtain ⟨i, hi, hd, hm⟩ := drop_cons hlt
      obtain ⟨hin, hok⟩ := HL.out i hm
      obtain ⟨b2, off2, rfl, hbl2, hc2⟩ := (RS.below hb H2.out hC2).at_ (by omega)
      have ck := hc2 k (by omega)
      simp only [lc, iv] at ck
      rw [hi] at ck
      obtain ⟨b, off, rfl, hbl, s0, s1, s2, s3, s4, s5⟩ := (RS.below hb H.out hC).spr hin
      have hT := RS.below hb H'.out hC'
      have i1 : (k : Int) < (L.length : Int) := by omega
      have i2 : (i : Int) < (n : Int) := by omega
      have hFE : fat s q x y L = if spx (s i) q x y = 0 then fat s q x y (L.drop (k + 1)) else (i, spx (s i) q x y) := by
        rw [← hF.out, hd]; rfl
      have HFE := Lib.hid hFE
      clear hb hc2 hFE hd hi hm
      by_cases hz : spx (s i) q x y = 0
      · have hzc : ((spx (s i) q x y) == 0) = true := by simpa using hz
        have HZ := Lib.hid hz
        go_wp2_with (go_at_call 54; (refine (isp_c (s i) B m d q x y wr (C := C') hok hT (by omega) hx0 hx1 hy0 hy1).mono ?_; rintro e w1 ⟨rfl, hO_w1⟩; rw [HZ.out]))
        go_roundw
        case rel =>
          refine ⟨k + 1, by omega, by go_num, Lib.hid ?_, via hO_w1 HB.out HB.out.size⟩
          rw [HFE.out, if_pos HZ.out]
        case measure => simp [intOf]; omega
      · have hzc : ((spx (s i) q x y) == 0) = false := by simpa using hz
        have HZ := Lib.hid hz
        obtain ⟨v, hv⟩ : ∃ v, spx (s i) q x y = v := ⟨_, rfl⟩
        rw [hv] at hzc hz
        have HV := Lib.hid hv
        clear hv
        go_wp2_with (go_at_call 54; (refine (isp_c (s i) B m d q x y wr (C := C') hok hT (by omega) hx0 hx1 hy0 hy1).mono ?_; rintro e w1 ⟨rfl, hO_w1⟩; rw [HV.out]))
        refine bodyPost_ret (v := .tuple #[.int .i64 i, .int .i64 v]) (by simp [results, Try.results45, go_sem, *]) rfl ⟨?_, via hO_w1 HB.out HB.out.size⟩
        rw [HFE.out, if_neg HZ.out, HV.out]
    · have hkn : k = L.length := by omega
      subst hkn
      have hFE : fat s q x y L = (-1, 0) := by rw [← hF.out, List.drop_length]; rfl
      have HFE := Lib.hid hFE
      clear hb hFE
      go_wp2
      refine bodyPost_ret (v := .tuple #[.int .i64 (-1), .int .i64 0]) (by simp [results, Try.results45, go_sem, *]) rfl ⟨?_, HB.out⟩
      rw [HFE.out]

set_option maxHeartbeats 1000000 in
theorem ssa_c (A : Option Addr) (n c : Nat) (B : Option Addr) (m d : Nat) (s : Nat → Spr) (q : Nat → Nat → Int) (x y : Int) (L : List Nat) (D : Option Addr) (e : Nat) (w : World) {C C' C2 : Nat} (h : RS w C 6 A n (sc s)) (h' : RS w C' 64 B m (tc q)) (h2 : RS w C2 1 D L.length (lc L)) (hC : C ≤ w.heap.size) (hC' : C' ≤ w.heap.size) (hC2 : C2 ≤ w.heap.size)
    (hL : ∀ i, i ∈ L → i < n ∧ sok m (s i) = true) (hl : L.length ≤ 4) (hn : n ≤ 12) (hx0 : 0 ≤ x) (hx1 : x ≤ 31) (hy0 : 0 ≤ y) (hy1 : y ≤ 15) :
    Calls Try.prog 61 #[.slice A n c, .slice B m d, .slice D L.length e, .int .i64 x, .int .i64 y] w fun e w' => e = .returned (.int .i64 (fat s q x y L).1) ∧ Below w.heap.size w w' := by
  have H := Lib.hid h
  have H' := Lib.hid h'
  have H2 := Lib.hid h2
  have HL := Lib.hid hL
  clear h h' h2 hL
  go_enter Try.func61, Try.ntmps61
  go_wp2
  go_loopw [11] (fun i wr => ∃ k : Nat, k ≤ L.length ∧ i = .int .i64 k ∧ Hid (fat s q x y (L.drop k) = fat s q x y L) ∧ Below w.heap.size w wr) (fun i _ => L.length - (intOf i).toNat)
  case atStart => exact ⟨0, by omega, rfl, Lib.hid (by rw [List.drop_zero]), Below.refl _ _⟩
  case round =>
    obtain ⟨k, hk, rfl, hF, hb⟩ := hrel
    have HB := Lib.hid hb
    have hbs := hb.size
    by_cases hlt : k < L.length
    · obtain ⟨i, hi, hd, hm⟩ := drop_cons hlt
      obtain ⟨hin, hok⟩ := HL.out i hm
      obtain ⟨b2, off2, rfl, hbl2, hc2⟩ := (RS.below hb H2.out hC2).at_ (by omega)
      have ck := hc2 k (by omega)
      simp only [lc, iv] at ck
      rw [hi] at ck
      obtain ⟨b, off, rfl, hbl, s0, s1, s2, s3, s4, s5⟩ := (RS.below hb H.out hC).spr hin
      have hT := RS.below hb H'.out hC'
      have i1 : (k : Int) < (L.length : Int) := by omega
      have i2 : (i : Int) < (n : Int) := by omega
      have hFE : fat s q x y L = if spx (s i) q x y = 0 then fat s q x y (L.drop (k + 1)) else (i, spx (s i) q x y) := by
        rw [← hF.out, hd]; rfl
      have HFE := Lib.hid hFE
      clear hb hc2 hFE hd hi hm
      by_cases hz : spx (s i) q x y = 0
      · have HZ := Lib.hid hz
        clear hz
        go_wp2_with (go_at_call 55; (refine (ssp_c (s i) B m d q x y wr (C := C') hok hT (by omega) hx0 hx1 hy0 hy1).mono ?_; rintro e w1 ⟨rfl, hO_w1⟩; rw [HZ.out]))
        go_roundw
        case rel =>
          refine ⟨k + 1, by omega, by go_num, Lib.hid ?_, via hO_w1 HB.out HB.out.size⟩
          rw [HFE.out, if_pos HZ.out]
        case measure => simp [intOf]; omega
      · have HZ := Lib.hid hz
        obtain ⟨v, hv⟩ : ∃ v, spx (s i) q x y = v := ⟨_, rfl⟩
        rw [hv] at hz
        have hzc : (v == 0) = false := by simpa using hz
        have HV := Lib.hid hv
        clear hv
        go_wp2_with (go_at_call 55; (refine (ssp_c (s i) B m d q x y wr (C := C') hok hT (by omega) hx0 hx1 hy0 hy1).mono ?_; rintro e w1 ⟨rfl, hO_w1⟩; rw [HV.out]; have ck1 := (hO_w1.cell (p := ⟨b2, off2 + k, none⟩) (show b2 < _ by omega)).trans ck))
        go_ret
        refine ⟨ret_int ?_, via hO_w1 HB.out HB.out.size⟩
        rw [HFE.out, if_neg HZ.out]
    · have hkn : k = L.length := by omega
      subst hkn
      have hFE : fat s q x y L = (-1, 0) := by rw [← hF.out, List.drop_length]; rfl
      have HFE := Lib.hid hFE
      clear hb hFE
      go_wp2
      go_ret
      refine ⟨ret_int ?_, HB.out⟩
      rw [HFE.out]
end Go.Proofs.Ytabioinmpjfflaa
