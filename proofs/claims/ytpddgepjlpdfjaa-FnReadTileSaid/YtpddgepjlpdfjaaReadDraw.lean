/-
  What DrawReadTile draws: at most 16 numbers. No conditions.
-/
import Derived.Test.YtpddgepjlpdfjaaByteDraw
import Derived.Test.YtpddgepjlpdfjaaInts
namespace Go.Proofs.Ytpddgepjlpdfjaa
set_option linter.all false
set_option linter.unusedSimpArgs false
set_option linter.unusedVariables false
open Go.ChangeShapes Go.WideShapes Go.ChangeAt Go.RowKit

theorem own_only {w w' : World} {R base : Nat} {t : TypeId} {sz n : Nat} {v : Value} {xs : List Value} (h : w.ownsRow base t sz v n xs) (hO : Only R w w') (hR : R < base) : w'.ownsRow base t sz v n xs :=
  h.kept hO (by
    cases e : v.ownBlock
    · exact .inl rfl
    · refine .inr fun e' => ?_
      injection e' with e'
      have := (h.lt _ e).1
      omega)
theorem map_iv_congr {n : Nat} {p q : Nat → Int} (h : ∀ i, i < n → p i = q i) : (List.range n).map (iv p) = (List.range n).map (iv q) :=
  List.map_congr_left fun i hi => by simp only [iv]; rw [h i (by simpa using hi)]

def DInts (w : World) (e : Ending) (w' : World) : Prop := ∃ A n cap p, e = .returned (.slice A n cap) ∧ RS w' w'.heap.size 1 A n (iv p) ∧ n ≤ 16 ∧ Below w.heap.size w w'
set_option maxHeartbeats 1000000 in
theorem drawReadTile_c (a : Option Addr) (len cap : Nat) (w : World) (hcode : Code w a len) (hl : len ≤ cap) : Calls Try.prog 42 #[.slice a len cap] w (DInts w) := by
  go_enter Try.func42, Try.ntmps42
  go_wp2_with fail
  refine (open_c _ _ _ _ (hcode.keep (by (repeat (first | with_reducible exact Below.refl _ _ | ((with_reducible refine viaO (by assumption) ?_ ?_ ?_) <;> try ((try simp only [World.size_alloc, World.size_setCell, World.size_drew]) <;> omega)) | ((with_reducible refine Below.alloc ?_ ?_ _) <;> try ((try simp only [World.size_alloc, World.size_setCell, World.size_drew]) <;> omega)) | ((with_reducible refine Below.setCell ?_ ?_ _) <;> try ((try simp only [World.size_alloc, World.size_setCell, World.size_drew]) <;> omega)) | (with_reducible refine below_drewN ?_ _) | (with_reducible refine Below.drew ?_) | ((with_reducible refine via (by assumption) ?_ ?_) <;> try ((try simp only [World.size_alloc, World.size_setCell, World.size_drew]) <;> omega)))))) (by assumption)).mono ?_
  rintro e w1 ⟨R, rfl, hR0, hO_w1, hR_w1⟩
  have hz_w1 := hO_w1.size
  (try simp only [World.size_alloc, World.size_setCell, World.size_drew] at hz_w1)
  (try simp only [World.size_alloc, World.size_setCell, World.size_drew] at hR0)
  have hlt_w1 := hR_w1.lt
  have HR1 := Lib.hid hR_w1
  clear hR_w1 hcode hl
  go_wp2
  go_loopw [4, 5] (fun v i wr => ∃ k : Nat, k ≤ 16 ∧ i = .int .i64 k ∧ (∃ A cap p, v = .slice A k cap ∧ wr.ownsRow w1.heap.size 3 1 (.slice A k cap) k ((List.range k).map (iv p))) ∧ Rd wr R (6 * k) ∧ Below w.heap.size w wr ∧ w1.heap.size ≤ wr.heap.size) (fun _ i _ => 16 - (intOf i).toNat)
  case atStart =>
    refine ⟨0, by omega, rfl, ⟨_, 0, fun _ => 0, rfl, own_empty w1 _ _ _ (Nat.le_refl _)⟩, (HR1.out.alloc _).more (by omega), ?_, by simp⟩
    (repeat (first | with_reducible exact Below.refl _ _ | ((with_reducible refine viaO (by assumption) ?_ ?_ ?_) <;> try ((try simp only [World.size_alloc, World.size_setCell, World.size_drew]) <;> omega)) | ((with_reducible refine Below.alloc ?_ ?_ _) <;> try ((try simp only [World.size_alloc, World.size_setCell, World.size_drew]) <;> omega)) | ((with_reducible refine Below.setCell ?_ ?_ _) <;> try ((try simp only [World.size_alloc, World.size_setCell, World.size_drew]) <;> omega)) | (with_reducible refine below_drewN ?_ _) | (with_reducible refine Below.drew ?_) | ((with_reducible refine via (by assumption) ?_ ?_) <;> try ((try simp only [World.size_alloc, World.size_setCell, World.size_drew]) <;> omega))))
  case round =>
    obtain ⟨k, hk, rfl, ⟨A, cap1, p, rfl, h1⟩, hR, hb, hs⟩ := hrel
    have H1 := Lib.hid h1
    have HR := Lib.hid hR
    have HB := Lib.hid hb
    by_cases hlk : k < 16
    · clear h1 hR hb
      go_wp2_with fail
      refine (l20Byte_c _ _ _ _ HR.out (by omega) (by omega) (by omega)).mono ?_
      rintro e w2 ⟨x, ⟨hx0, hx1, rfl⟩, hO, hR2⟩
      have H2 := Lib.hid (own_only H1.out hO (by omega))
      have HR2 := Lib.hid hR2
      have HB2 := Lib.hid (viaO hO HB.out (by omega) (by omega))
      have hs2 := hO.size
      have hs3 : w1.heap.size ≤ w2.heap.size := by omega
      clear hO hR2
      go_wp2_with (at_builtin; refine wpList_append_one Try.underlying38 info3 rfl (by decide) rfl _ _ rfl w1.heap.size k cap1 A (iv (fun j => if j = k then x else p j)) rfl rfl (by rw [map_iv_congr (q := p) (fun i hi => if_neg (by omega))]; exact H2.out) (by simp) rfl (by omega) hs3 ?_; intro A' cap' w3 hown3 hO_w3)
      go_roundw
      case rel => exact ⟨k + 1, by omega, by go_num, ⟨A', cap', _, rfl, hown3⟩, (HR2.out.below hO_w3 (by omega)).more (by omega), HB2.out.trans (hO_w3.mono (by omega)), by have := hO_w3.size; omega⟩
      case measure => simp [intOf]; omega
    · have hk16 : k = 16 := by omega
      subst hk16
      obtain ⟨g, rfl, hg0, hg1⟩ := own_head h1 (by omega)
      clear h1 hR hb
      go_wp2_with fail
      refine (odd_c _ _ _ _ HR.out (by omega) (by omega) (by omega)).mono ?_
      rintro e w2 ⟨b, rfl, hO2, hR2⟩
      have H2 := Lib.hid (own_only H1.out hO2 (by omega))
      have HR2 := Lib.hid hR2
      have HB2 := Lib.hid (viaO hO2 HB.out (by omega) (by omega))
      have hs2 := hO2.size
      clear hO2 hR2
      cases b
      · go_wp2
        go_ret
        exact ⟨_, 16, cap1, p, rfl, own_rs H2.out, by omega, HB2.out⟩
      · go_wp2_with fail
        refine (pick_c _ _ _ _ HR2.out (by omega) (by omega) (by omega)).mono ?_
        rintro e w3 ⟨u, hu, rfl, hO3, hR3⟩
        have H3 := Lib.hid (own_only H2.out hO3 (by omega))
        have HR3 := Lib.hid hR3
        have HB3 := Lib.hid (viaO hO3 HB2.out (by omega) (by omega))
        have hs3 := hO3.size
        clear hO3 hR3
        by_cases h0 : u = 0
        · subst h0
          go_wp2_with fail
          refine (pick_c _ _ _ _ HR3.out (by omega) (by omega) (by omega)).mono ?_
          rintro e w4 ⟨m, hm, rfl, hO4, hR4⟩
          have H4 := Lib.hid (own_only H3.out hO4 (by omega))
          have HR4 := Lib.hid hR4
          have HB4 := Lib.hid (viaO hO4 HB3.out (by omega) (by omega))
          have hs4 := hO4.size
          clear hO4 hR4
          go_wp2_with fail
          refine (l20Byte_c _ _ _ _ HR4.out (by omega) (by omega) (by omega)).mono ?_
          rintro e w5 ⟨x, ⟨hx0, hx1, rfl⟩, hO5, hR5⟩
          have h5 := own_only H4.out hO5 (by omega)
          have HB5 := Lib.hid (viaO hO5 HB4.out (by omega) (by omega))
          have hs5 := hO5.size
          have hm16 : m < 16 := by omega
          have c5 := (h5.cellAt m (by omega)).trans (map_get hm16)
          have f5 := h5.frozenAt m
          have H5 := Lib.hid (own_put h5 m (.int .i64 x))
          clear hO5 hR5 h5
          go_wp2
          go_ret
          refine ⟨_, 16, cap1, fun j => if j = m then x else p j, rfl, ?_, by omega, HB5.out.setCell (by show _ ≤ g; omega) _⟩
          refine RS.own (xs := (List.range (16 * 1)).map _) H5.out fun j hj => ?_
          rw [map_get hj]
          simp only [updV, iv]
          split <;> rfl
        · have h0' : ((u : Int) == 0) = false := by simp; omega
          have hc := own_cap H3.out
          have s3 := (own_rs (sz := 1) H3.out).drop (k := 1) (by omega) hc
          have hc1 : ¬ cap1 = 1 := by omega
          rw [if_neg hc1] at s3
          go_wp2
          go_ret
          exact ⟨_, 15, cap1 - 1, _, rfl, s3, by omega, HB3.out⟩

end Go.Proofs.Ytpddgepjlpdfjaa
