/-
  The contracts of a sprite's pixel in the program and in the reference. Conditions: the sprite is valid, the place is in the picture.
-/
import Derived.Test.YtabioinmpjfflaaSprValid
import Derived.IntWalk
namespace Go.Proofs.Ytabioinmpjfflaa
set_option linter.all false
set_option linter.unusedSimpArgs false
set_option linter.unusedVariables false
set_option maxRecDepth 20000
open Go.ChangeShapes Go.WideShapes Go.ChangeAt Go.RowKit

def turn7 (b : Bool) (c : Nat) : Nat := if b then 7 - c else c
/-- The pixel of a sprite at a place. -/
def spx (s : Spr) (q : Nat → Nat → Int) (x y : Int) : Int :=
  if (inB (x - s.x) 0 7 && inB (y - s.y) 0 7) = true then q s.num.toNat (8 * turn7 s.dn (y - s.y).toNat + turn7 s.ac (x - s.x).toNat) else 0
theorem spx_no {s : Spr} {q : Nat → Nat → Int} {x y : Int} (h : (inB (x - s.x) 0 7 && inB (y - s.y) 0 7) = false) : spx s q x y = 0 := by
  unfold spx; rw [h]; rfl
theorem sok_parts {m : Nat} {s : Spr} (h : sok m s = true) : (-16 ≤ s.x ∧ s.x ≤ 64) ∧ (-16 ≤ s.y ∧ s.y ≤ 64) ∧ 0 ≤ s.num ∧ s.num < m := by
  unfold sok at h
  simp only [Bool.and_eq_true] at h
  have h1 := inB_true.1 h.1.1
  have h2 := inB_true.1 h.1.2
  have h3 := inB_true.1 h.2
  omega

set_option maxHeartbeats 1000000 in
theorem isp_c (s : Spr) (B : Option Addr) (m d : Nat) (q : Nat → Nat → Int) (x y : Int) (w : World) {C : Nat} (hok : sok m s = true) (h : RS w C 64 B m (tc q)) (hC : C ≤ w.heap.size) (hx0 : 0 ≤ x) (hx1 : x ≤ 31) (hy0 : 0 ≤ y) (hy1 : y ≤ 15) :
    Calls Try.prog 54 #[spV s, .slice B m d, .int .i64 x, .int .i64 y] w fun e w' => e = .returned (.int .i64 (spx s q x y)) ∧ Below w.heap.size w w' := by
  obtain ⟨⟨a0, a1⟩, ⟨b0, b1⟩, c0, c1⟩ := sok_parts hok
  have H := Lib.hid h
  clear h hok
  obtain ⟨sx, sy, num, ac, dn, bh⟩ := s
  simp only at a0 a1 b0 b1 c0 c1
  cases hc : inB (x - sx) 0 7
  · rw [spx_no (by simp only [hc]; rfl)]
    have HX := Lib.hid hc
    clear hc
    go_enter Try.func54, Try.ntmps54
    (go_wp2; go_quiet (fail))
    go_wp2_with (first | (go_at_call 36; (with_reducible refine (within_c (x - sx) 0 7 _ HX.out _).mono ?_); rintro e w' ⟨rfl, rfl⟩))
    go_ret
    refine ⟨rfl, ?_⟩
    (repeat (first | with_reducible exact Below.refl _ _ | ((with_reducible refine viaO (by assumption) ?_ ?_ ?_) <;> try ((try simp only [World.size_alloc, World.size_setCell, World.size_drew]) <;> omega)) | ((with_reducible refine Below.alloc ?_ ?_ _) <;> try ((try simp only [World.size_alloc, World.size_setCell, World.size_drew]) <;> omega)) | ((with_reducible refine Below.setCell ?_ ?_ _) <;> try ((try simp only [World.size_alloc, World.size_setCell, World.size_drew]) <;> omega)) | (with_reducible refine below_drewN ?_ _) | (with_reducible refine Below.drew ?_) | ((with_reducible refine via (by assumption) ?_ ?_) <;> try ((try simp only [World.size_alloc, World.size_setCell, World.size_drew]) <;> omega))))
  · have HX := Lib.hid hc
    cases hr : inB (y - sy) 0 7
    · rw [spx_no (by simp only [hc, hr]; rfl)]
      have HY := Lib.hid hr
      clear hc hr
      go_enter Try.func54, Try.ntmps54
      (go_wp2; go_quiet (fail))
      go_wp2_with (first | (go_at_call 36; (first | (with_reducible refine (within_c (x - sx) 0 7 _ HX.out _).mono ?_) | (with_reducible refine (within_c (y - sy) 0 7 _ HY.out _).mono ?_)); rintro e w' ⟨rfl, rfl⟩))
      go_ret
      refine ⟨rfl, ?_⟩
      (repeat (first | with_reducible exact Below.refl _ _ | ((with_reducible refine viaO (by assumption) ?_ ?_ ?_) <;> try ((try simp only [World.size_alloc, World.size_setCell, World.size_drew]) <;> omega)) | ((with_reducible refine Below.alloc ?_ ?_ _) <;> try ((try simp only [World.size_alloc, World.size_setCell, World.size_drew]) <;> omega)) | ((with_reducible refine Below.setCell ?_ ?_ _) <;> try ((try simp only [World.size_alloc, World.size_setCell, World.size_drew]) <;> omega)) | (with_reducible refine below_drewN ?_ _) | (with_reducible refine Below.drew ?_) | ((with_reducible refine via (by assumption) ?_ ?_) <;> try ((try simp only [World.size_alloc, World.size_setCell, World.size_drew]) <;> omega))))
    · have HY := Lib.hid hr
      obtain ⟨d0, d1⟩ := inB_true.1 hc
      obtain ⟨e0, e1⟩ := inB_true.1 hr
      have hsp : spx ⟨sx, sy, num, ac, dn, bh⟩ q x y = q num.toNat (8 * turn7 dn (y - sy).toNat + turn7 ac (x - sx).toNat) := by unfold spx; simp only [hc, hr]; rfl
      rw [hsp]
      clear hsp hc hr
      obtain ⟨cn, hcn⟩ := Int.eq_ofNat_of_zero_le d0
      obtain ⟨rn, hrn⟩ := Int.eq_ofNat_of_zero_le e0
      obtain ⟨k, rfl⟩ := Int.eq_ofNat_of_zero_le c0
      have hkm : k < m := by omega
      obtain ⟨b, off, rfl, hbl, hcell⟩ := H.out.at_ (by omega)
      have h7 : ∀ (b : Bool) (c : Nat), c ≤ 7 → turn7 b c ≤ 7 := fun b c h => by unfold turn7; split <;> omega
      have g1 := h7 ac cn (by omega)
      have g2 := h7 dn rn (by omega)
      have hck := hcell (k * 64 + (8 * turn7 dn rn + turn7 ac cn)) (by omega)
      rw [tc_at q k _ (by omega), ← Nat.add_assoc] at hck
      have hck2 := (World.cell?_alloc_lt w (.cells #[.int .i64 sx, .int .i64 sy, .int .i64 (k : Int), .bool ac, .bool dn, .bool bh] 38) ⟨b, off + k * 64 + (8 * turn7 dn rn + turn7 ac cn), none⟩ (by show b < _; omega)).trans hck
      rw [hcn] at d0 d1 HX
      rw [hrn] at e0 e1 HY
      rw [hcn, hrn]
      simp only [Int.toNat_natCast]
      have f1 : cn ≤ 7 := by omega
      have f2 : rn ≤ 7 := by omega
      clear hcell hck h7 d0 d1 e0 e1
      have HCK := Lib.hid hck2
      clear hck2
      obtain ⟨cc, hcc⟩ : ∃ cc : Nat, turn7 ac cn = cc := ⟨_, rfl⟩
      obtain ⟨rr, hrr⟩ : ∃ rr : Nat, turn7 dn rn = rr := ⟨_, rfl⟩
      obtain ⟨kk, hkk⟩ : ∃ kk : Nat, 8 * rr + cc = kk := ⟨_, rfl⟩
      have hck := HCK.out
      rw [hcc, hrr, hkk] at hck
      rw [hcc, hrr, hkk]
      clear HCK
      cases ac <;> cases dn
      all_goals
        unfold turn7 at hcc hrr
        simp at hcc hrr
        have u1 : kk < 64 := by omega
        have hE : (8 : Int) * (rr : Int) + (cc : Int) = (kk : Int) := by omega
        (try (have hE1 : (7 : Int) - (cn : Int) = (cc : Int) := by omega))
        (try (have hE2 : (7 : Int) - (rn : Int) = (rr : Int) := by omega))
        (try (have hE3 : cn = cc := by omega))
        (try (have hE4 : rn = rr := by omega))
        (try subst hE3)
        (try subst hE4)
        (try clear hcc)
        (try clear hrr)
        clear hkk
        go_enter Try.func54, Try.ntmps54
        (go_wp2; go_quiet (fail))
        go_wp2_with (first | (go_at_call 36; (first | (with_reducible refine (within_c _ 0 7 _ HX.out _).mono ?_) | (with_reducible refine (within_c _ 0 7 _ HY.out _).mono ?_)); rintro e w' ⟨rfl, rfl⟩))
        go_ret
        refine ⟨rfl, ?_⟩
        (repeat (first | with_reducible exact Below.refl _ _ | ((with_reducible refine viaO (by assumption) ?_ ?_ ?_) <;> try ((try simp only [World.size_alloc, World.size_setCell, World.size_drew]) <;> omega)) | ((with_reducible refine Below.alloc ?_ ?_ _) <;> try ((try simp only [World.size_alloc, World.size_setCell, World.size_drew]) <;> omega)) | ((with_reducible refine Below.setCell ?_ ?_ _) <;> try ((try simp only [World.size_alloc, World.size_setCell, World.size_drew]) <;> omega)) | (with_reducible refine below_drewN ?_ _) | (with_reducible refine Below.drew ?_) | ((with_reducible refine via (by assumption) ?_ ?_) <;> try ((try simp only [World.size_alloc, World.size_setCell, World.size_drew]) <;> omega))))

set_option maxHeartbeats 1000000 in
theorem ssp_c (s : Spr) (B : Option Addr) (m d : Nat) (q : Nat → Nat → Int) (x y : Int) (w : World) {C : Nat} (hok : sok m s = true) (h : RS w C 64 B m (tc q)) (hC : C ≤ w.heap.size) (hx0 : 0 ≤ x) (hx1 : x ≤ 31) (hy0 : 0 ≤ y) (hy1 : y ≤ 15) :
    Calls Try.prog 55 #[spV s, .slice B m d, .int .i64 x, .int .i64 y] w fun e w' => e = .returned (.int .i64 (spx s q x y)) ∧ Below w.heap.size w w' := by
  obtain ⟨⟨a0, a1⟩, ⟨b0, b1⟩, c0, c1⟩ := sok_parts hok
  have H := Lib.hid h
  clear h hok
  obtain ⟨sx, sy, num, ac, dn, bh⟩ := s
  simp only at a0 a1 b0 b1 c0 c1
  cases hc : inB (x - sx) 0 7
  · rw [spx_no (by simp only [hc]; rfl)]
    have HX := Lib.hid hc
    clear hc
    go_enter Try.func55, Try.ntmps55
    skip
    go_wp2_with (first | (go_at_call 39; (with_reducible refine (l1In_c (x - sx) 0 7 _ HX.out _).mono ?_); rintro e w' ⟨rfl, rfl⟩))
    go_ret
    refine ⟨rfl, ?_⟩
    (repeat (first | with_reducible exact Below.refl _ _ | ((with_reducible refine viaO (by assumption) ?_ ?_ ?_) <;> try ((try simp only [World.size_alloc, World.size_setCell, World.size_drew]) <;> omega)) | ((with_reducible refine Below.alloc ?_ ?_ _) <;> try ((try simp only [World.size_alloc, World.size_setCell, World.size_drew]) <;> omega)) | ((with_reducible refine Below.setCell ?_ ?_ _) <;> try ((try simp only [World.size_alloc, World.size_setCell, World.size_drew]) <;> omega)) | (with_reducible refine below_drewN ?_ _) | (with_reducible refine Below.drew ?_) | ((with_reducible refine via (by assumption) ?_ ?_) <;> try ((try simp only [World.size_alloc, World.size_setCell, World.size_drew]) <;> omega))))
  · have HX := Lib.hid hc
    cases hr : inB (y - sy) 0 7
    · rw [spx_no (by simp only [hc, hr]; rfl)]
      have HY := Lib.hid hr
      clear hc hr
      go_enter Try.func55, Try.ntmps55
      skip
      go_wp2_with (first | (go_at_call 39; (first | (with_reducible refine (l1In_c (x - sx) 0 7 _ HX.out _).mono ?_) | (with_reducible refine (l1In_c (y - sy) 0 7 _ HY.out _).mono ?_)); rintro e w' ⟨rfl, rfl⟩))
      go_ret
      refine ⟨rfl, ?_⟩
      (repeat (first | with_reducible exact Below.refl _ _ | ((with_reducible refine viaO (by assumption) ?_ ?_ ?_) <;> try ((try simp only [World.size_alloc, World.size_setCell, World.size_drew]) <;> omega)) | ((with_reducible refine Below.alloc ?_ ?_ _) <;> try ((try simp only [World.size_alloc, World.size_setCell, World.size_drew]) <;> omega)) | ((with_reducible refine Below.setCell ?_ ?_ _) <;> try ((try simp only [World.size_alloc, World.size_setCell, World.size_drew]) <;> omega)) | (with_reducible refine below_drewN ?_ _) | (with_reducible refine Below.drew ?_) | ((with_reducible refine via (by assumption) ?_ ?_) <;> try ((try simp only [World.size_alloc, World.size_setCell, World.size_drew]) <;> omega))))
    · have HY := Lib.hid hr
      obtain ⟨d0, d1⟩ := inB_true.1 hc
      obtain ⟨e0, e1⟩ := inB_true.1 hr
      have hsp : spx ⟨sx, sy, num, ac, dn, bh⟩ q x y = q num.toNat (8 * turn7 dn (y - sy).toNat + turn7 ac (x - sx).toNat) := by unfold spx; simp only [hc, hr]; rfl
      rw [hsp]
      clear hsp hc hr
      obtain ⟨cn, hcn⟩ := Int.eq_ofNat_of_zero_le d0
      obtain ⟨rn, hrn⟩ := Int.eq_ofNat_of_zero_le e0
      obtain ⟨k, rfl⟩ := Int.eq_ofNat_of_zero_le c0
      have hkm : k < m := by omega
      obtain ⟨b, off, rfl, hbl, hcell⟩ := H.out.at_ (by omega)
      have h7 : ∀ (b : Bool) (c : Nat), c ≤ 7 → turn7 b c ≤ 7 := fun b c h => by unfold turn7; split <;> omega
      have g1 := h7 ac cn (by omega)
      have g2 := h7 dn rn (by omega)
      have hck := hcell (k * 64 + (8 * turn7 dn rn + turn7 ac cn)) (by omega)
      rw [tc_at q k _ (by omega), ← Nat.add_assoc] at hck
      have hck2 := (World.cell?_alloc_lt w (.cells #[.int .i64 sx, .int .i64 sy, .int .i64 (k : Int), .bool ac, .bool dn, .bool bh] 38) ⟨b, off + k * 64 + (8 * turn7 dn rn + turn7 ac cn), none⟩ (by show b < _; omega)).trans hck
      rw [hcn] at d0 d1 HX
      rw [hrn] at e0 e1 HY
      rw [hcn, hrn]
      simp only [Int.toNat_natCast]
      have f1 : cn ≤ 7 := by omega
      have f2 : rn ≤ 7 := by omega
      clear hcell hck h7 d0 d1 e0 e1
      have HCK := Lib.hid hck2
      clear hck2
      obtain ⟨cc, hcc⟩ : ∃ cc : Nat, turn7 ac cn = cc := ⟨_, rfl⟩
      obtain ⟨rr, hrr⟩ : ∃ rr : Nat, turn7 dn rn = rr := ⟨_, rfl⟩
      obtain ⟨kk, hkk⟩ : ∃ kk : Nat, 8 * rr + cc = kk := ⟨_, rfl⟩
      have hck := HCK.out
      rw [hcc, hrr, hkk] at hck
      rw [hcc, hrr, hkk]
      clear HCK
      cases ac <;> cases dn
      all_goals
        unfold turn7 at hcc hrr
        simp at hcc hrr
        have u1 : kk < 64 := by omega
        have hE : (8 : Int) * (rr : Int) + (cc : Int) = (kk : Int) := by omega
        (try (have hE1 : (7 : Int) - (cn : Int) = (cc : Int) := by omega))
        (try (have hE2 : (7 : Int) - (rn : Int) = (rr : Int) := by omega))
        (try (have hE3 : cn = cc := by omega))
        (try (have hE4 : rn = rr := by omega))
        (try subst hE3)
        (try subst hE4)
        (try clear hcc)
        (try clear hrr)
        clear hkk
        go_enter Try.func55, Try.ntmps55
        skip
        go_wp2_with (first | (go_at_call 39; (first | (with_reducible refine (l1In_c _ 0 7 _ HX.out _).mono ?_) | (with_reducible refine (l1In_c _ 0 7 _ HY.out _).mono ?_)); rintro e w' ⟨rfl, rfl⟩))
        go_ret
        refine ⟨rfl, ?_⟩
        (repeat (first | with_reducible exact Below.refl _ _ | ((with_reducible refine viaO (by assumption) ?_ ?_ ?_) <;> try ((try simp only [World.size_alloc, World.size_setCell, World.size_drew]) <;> omega)) | ((with_reducible refine Below.alloc ?_ ?_ _) <;> try ((try simp only [World.size_alloc, World.size_setCell, World.size_drew]) <;> omega)) | ((with_reducible refine Below.setCell ?_ ?_ _) <;> try ((try simp only [World.size_alloc, World.size_setCell, World.size_drew]) <;> omega)) | (with_reducible refine below_drewN ?_ _) | (with_reducible refine Below.drew ?_) | ((with_reducible refine via (by assumption) ?_ ?_) <;> try ((try simp only [World.size_alloc, World.size_setCell, World.size_drew]) <;> omega))))

end Go.Proofs.Ytabioinmpjfflaa
