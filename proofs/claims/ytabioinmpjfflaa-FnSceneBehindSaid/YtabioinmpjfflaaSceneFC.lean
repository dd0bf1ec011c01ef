/-
  The contracts of fieldPixel and drawLine where the field lies at the head of a longer block. Conditions: a valid field.
-/
import Derived.Test.YtabioinmpjfflaaSceneMem
namespace Go.Proofs.Ytabioinmpjfflaa
set_option linter.all false
set_option linter.unusedSimpArgs false
set_option linter.unusedVariables false
set_option maxRecDepth 20000
open Go.ChangeShapes Go.WideShapes Go.ChangeAt Go.RowKit

set_option maxHeartbeats 1000000 in
theorem ipxC_c (g : Nat) (W n m : Nat) (A : Option Addr) (c : Nat) (B : Option Addr) (d : Nat) (X0 Y0 : Int) (X Y x y : Nat) (p : Nat → Int) (q : Nat → Nat → Int) (w : World) {C C' : Nat} (hok : FOK W n m p) (hF : FC w g W A n c B m d X0 Y0)
    (h : RS w C 1 A n (iv p)) (h' : RS w C' 64 B m (tc q)) (hX : X ≤ 255) (hY : Y ≤ 255) (hx : x ≤ 31) (hy : y ≤ 15) :
    Calls Try.prog 43 #[.pointer (some ⟨g, 0, none⟩), .int .i64 X, .int .i64 Y, .int .i64 x, .int .i64 y] w fun e w' => e = .returned (.int .i64 (fpx W n X Y p q x y)) ∧ Below w.heap.size w w' := by
  obtain ⟨w1, w8, hmul, h1, h8, m1, m16, num⟩ := id hok
  obtain ⟨c0, c1, c2, c3, c4⟩ := hF.cells
  have hi := fidx_lt hok X Y x y
  obtain ⟨b, off, rfl, hb, hc⟩ := h.at_ (by omega)
  obtain ⟨b', off', rfl, hb', hc'⟩ := h'.at_ (by omega)
  obtain ⟨hp0, hp1⟩ := num _ hi
  obtain ⟨pi, hpi⟩ := Int.eq_ofNat_of_zero_le hp0
  have hck := hc (fidx W n X Y x y) (by omega)
  have hck' := hc' (pi * 64 + (frow W n Y y % 8 * 8 + fcol W X x % 8)) (by omega)
  have k1 : ¬ W = 0 := by omega
  have hgc : fcol W X x < 8 * W := Nat.mod_lt _ (by omega)
  have hgr : frow W n Y y < 8 * (n / W) := Nat.mod_lt _ (by omega)
  have ecol : ((x : Int) + (X : Int)) % (8 * (W : Int)) = (fcol W X x : Int) := by unfold fcol; simp
  have erow : ((y : Int) + (Y : Int)) % (8 * ((n : Int) / (W : Int))) = (frow W n Y y : Int) := by
    unfold frow; simp
  have eidx : (frow W n Y y : Int) / 8 * (W : Int) + (fcol W X x : Int) / 8 = (fidx W n X Y x y : Int) := by
    unfold fidx
    simp
  have q0 : 0 ≤ (n : Int) / (W : Int) ∧ (n : Int) / (W : Int) ≤ 8 := by
    rw [← Int.natCast_ediv]; omega
  obtain ⟨q1, q2⟩ := q0
  have hn64 : n ≤ 64 := by
    have : W * (n / W) ≤ 8 * 8 := Nat.mul_le_mul w8 h8
    omega
  unfold fpx
  rw [hpi]
  have q5 : pi < m := by omega
  generalize fcol W X x = cl at *
  generalize frow W n Y y = rw' at *
  generalize fidx W n X Y x y = ix at *
  have q3 : 0 ≤ (rw' : Int) / 8 * (W : Int) ∧ (rw' : Int) / 8 * (W : Int) ≤ 64 := ⟨Int.mul_nonneg (by omega) (by omega), by omega⟩
  obtain ⟨q3, q4⟩ := q3
  have hck2 : w.cell? ⟨b, off + ix, none⟩ = some (.int .i64 pi) := hck.trans (by simp only [iv]; rw [hpi])
  have hck3 : w.cell? ⟨b', off' + (pi * 64 + (rw' % 8 * 8 + cl % 8)), none⟩ = some (.int .i64 (q pi (rw' % 8 * 8 + cl % 8))) := by rw [hck', tc_at q pi _ (by omega)]
  obtain ⟨kk, hkk⟩ : ∃ kk : Nat, rw' % 8 * 8 + cl % 8 = kk := ⟨_, rfl⟩
  have hk64 : kk < 64 := by omega
  have epx : (rw' : Int) % 8 * 8 + (cl : Int) % 8 = (kk : Int) := by omega
  rw [hkk, ← Nat.add_assoc] at hck3
  rw [hkk]
  clear hc hc' h h' hF num hok hck hck' hmul hpi hp0 hp1 hkk
  go_enter Try.func43, Try.ntmps43
  go_wp2
  rw [ecol]
  go_quiet (fail)
  go_wp2
  rw [erow]
  go_quiet (fail)
  go_wp2
  go_ret
  exact ⟨rfl, below_drewN (Below.refl _ _) _⟩

set_option maxHeartbeats 1000000 in
theorem idlC_c (g : Nat) (W n m : Nat) (A : Option Addr) (c : Nat) (B : Option Addr) (d : Nat) (X0 Y0 : Int) (X Y y : Nat) (p : Nat → Int) (q : Nat → Nat → Int) (w : World) {C C' base co : Nat} {Ao : Option Addr} (hok : FOK W n m p) (hF : FC w g W A n c B m d X0 Y0)
    (h : RS w C 1 A n (iv p)) (h' : RS w C' 64 B m (tc q)) (hX : X ≤ 255) (hY : Y ≤ 255) (hy : y ≤ 15) (hg : g < base) (hC : C ≤ base) (hC' : C' ≤ base) (hbase : base ≤ w.heap.size) (ho : w.ownsRow base 3 1 (.slice Ao 0 co) 0 []) :
    Calls Try.prog 38 #[.pointer (some ⟨g, 0, none⟩), .int .i64 X, .int .i64 Y, .int .i64 y, .int .i64 0, .int .i64 32, .slice Ao 0 co] w fun e w' => ∃ A' cap', e = .returned (.slice A' 32 cap') ∧
      w'.ownsRow base 3 1 (.slice A' 32 cap') 32 ((List.range 32).map (iv fun j => fpx W n X Y p q j y)) ∧ Below base w w' := by
  obtain ⟨w1, w8, hmul, h1, h8, m1, m16, num⟩ := id hok
  obtain ⟨c0, c1, c2, c3, c4⟩ := hF.cells
  have k1 : ¬ W = 0 := by omega
  have hgr : frow W n Y y < 8 * (n / W) := Nat.mod_lt _ (by omega)
  have erow : ((y : Int) + (Y : Int)) % (8 * ((n : Int) / (W : Int))) = (frow W n Y y : Int) := by
    unfold frow; simp
  have q0 : 0 ≤ (n : Int) / (W : Int) ∧ (n : Int) / (W : Int) ≤ 8 := by
    rw [← Int.natCast_ediv]; omega
  obtain ⟨q1, q2⟩ := q0
  have HOK := Lib.hid hok
  have HF := Lib.hid hF
  have H := Lib.hid h
  have H' := Lib.hid h'
  have HO := Lib.hid ho
  have NUM := Lib.hid num
  have hn64 : n ≤ 64 := by
    have : W * (n / W) ≤ 8 * 8 := Nat.mul_le_mul w8 h8
    omega
  clear hok hF h h' ho num hmul
  go_enter Try.func38, Try.ntmps38
  go_wp2
  go_quiet (fail)
  go_wp2
  rw [erow]
  clear c0 c1 c2 c3 c4
  go_loopw [6, 16] (fun v i wr => ∃ k : Nat, k ≤ 32 ∧ i = .int .i64 k ∧ (∃ A cap, v = .slice A k cap ∧ wr.ownsRow base 3 1 (.slice A k cap) k ((List.range k).map (iv fun j => fpx W n X Y p q j y))) ∧ Below base w wr) (fun _ i _ => 32 - (intOf i).toNat)
  case atStart => exact ⟨0, by omega, rfl, ⟨_, _, rfl, HO.out⟩, below_drewN (Below.refl _ _) _⟩
  case round =>
    obtain ⟨k, hk, rfl, ⟨A1, cap1, rfl, hO⟩, hb⟩ := hrel
    have HB := Lib.hid hb
    have HO1 := Lib.hid hO
    have hbs := hb.size
    by_cases hlk : k < 32
    · obtain ⟨c0, c1, c2, c3, c4⟩ := (FC.below hb HF.out hg).cells
      have hi := fidx_lt HOK.out X Y k y
      obtain ⟨b, off, rfl, hbl, hc⟩ := (RS.below hb H.out hC).at_ (by omega)
      obtain ⟨b', off', rfl, hbl', hc'⟩ := (RS.below hb H'.out hC').at_ (by omega)
      obtain ⟨hp0, hp1⟩ := NUM.out _ hi
      obtain ⟨pi, hpi⟩ := Int.eq_ofNat_of_zero_le hp0
      have hck := hc (fidx W n X Y k y) (by omega)
      simp only [iv] at hck
      rw [hpi] at hck hp1
      have hgc : fcol W X k < 8 * W := Nat.mod_lt _ (by omega)
      have ecol : ((k : Int) + (X : Int)) % (8 * (W : Int)) = (fcol W X k : Int) := by unfold fcol; simp
      have eidx : (frow W n Y y : Int) / 8 * (W : Int) + (fcol W X k : Int) / 8 = (fidx W n X Y k y : Int) := by
        unfold fidx
        simp
      have q3 : 0 ≤ (frow W n Y y : Int) / 8 * (W : Int) ∧ (frow W n Y y : Int) / 8 * (W : Int) ≤ 64 := ⟨Int.mul_nonneg (by omega) (by omega), by omega⟩
      obtain ⟨q3, q4⟩ := q3
      have q5 : pi < m := by omega
      have hmin : ∃ nn : Nat, 1 ≤ nn ∧ nn + fcol W X k % 8 ≤ 8 ∧ k + nn ≤ 32 ∧ ((8 - (fcol W X k : Int) % 8 = (nn : Int) ∧ (nn : Int) ≤ 32 - (k : Int)) ∨ (32 - (k : Int) = (nn : Int) ∧ ¬ (8 - (fcol W X k : Int) % 8 ≤ (nn : Int)))) := by
        by_cases h : 8 - fcol W X k % 8 ≤ 32 - k
        · exact ⟨8 - fcol W X k % 8, by omega, by omega, by omega, .inl ⟨by omega, by omega⟩⟩
        · exact ⟨32 - k, by omega, by omega, by omega, .inr ⟨by omega, by omega⟩⟩
      obtain ⟨nn, hnn1, hnn2, hnn3, emin⟩ := hmin
      obtain ⟨kk, hkk⟩ : ∃ kk : Nat, frow W n Y y % 8 * 8 + fcol W X k % 8 = kk := ⟨_, rfl⟩
      have hk64 : kk + nn ≤ 64 := by omega
      have epx : (frow W n Y y : Int) % 8 * 8 + (fcol W X k : Int) % 8 = (kk : Int) := by omega
      have HC := Lib.hid hc'
      have hrun : ∀ j, j < nn → fpx W n X Y p q (k + j) y = q pi (kk + j) := fun j hj => by
        rw [fpx_run HOK.out X Y q k j y (by omega), hpi, hkk]
        rfl
      have HRUN := Lib.hid hrun
      clear hc hc' hb hO hpi hp0 hkk hrun
      generalize fcol W X k = cl at *
      generalize frow W n Y y = rw' at *
      generalize fidx W n X Y k y = ix at *
      have hsl := slice64 b' (off' + pi * 64) kk nn hnn1 hk64
      go_wp2
      (try rw [ecol])
      go_quiet (fail)
      have hcell : ∀ j, j < nn * 1 → wr.cell? ⟨b', off' + pi * 64 + kk + j, none⟩ = some (iv (fun j => fpx W n X Y p q j y) (k * 1 + j)) := fun j hj => by
        have := HC.out (pi * 64 + (kk + j)) (by omega)
        rw [tc_at q pi _ (by omega)] at this
        rw [show off' + pi * 64 + kk + j = off' + (pi * 64 + (kk + j)) by omega, this]
        simp only [iv, Nat.mul_one]
        rw [HRUN.out j (by omega)]
      have HCELL := Lib.hid hcell
      have HO2 : Hid (wr.ownsRow base 3 1 (.slice A1 k cap1) k ((List.range (k * 1)).map (iv fun j => fpx W n X Y p q j y))) := Lib.hid (by rw [Nat.mul_one]; exact HO1.out)
      have hbw : base ≤ wr.heap.size := by omega
      clear hcell
      rcases emin with ⟨em1, em2⟩ | ⟨em1, em2⟩
      all_goals
        go_wp2_with (at_builtin; refine wpList_append_all Try.underlying23 info3 rfl (by omega) (by decide) rfl _ _ rfl base k nn cap1 (64 - kk) b' (off' + pi * 64 + kk) A1 (iv fun j => fpx W n X Y p q j y) rfl rfl HO2.out HCELL.out (fun _ _ => rfl) (by omega) hbw ?_; intro A' cap' w3 hown3 hO_w3)
        go_roundw
        case rel => exact ⟨k + nn, by omega, by go_num, ⟨A', cap', rfl, by rw [Nat.mul_one] at hown3; exact hown3⟩, (below_drewN HB.out _).trans hO_w3⟩
        case measure => simp [intOf]; omega
    · have hk32 : k = 32 := by omega
      subst hk32
      clear hb hO
      go_wp2
      go_ret
      exact ⟨_, _, rfl, HO1.out, HB.out⟩

end Go.Proofs.Ytabioinmpjfflaa
