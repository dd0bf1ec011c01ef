/-
  Lists of tiles and fields: marked and looked at again. Conditions: at most 1048576 tiles and numbers.
-/
import Derived.Test.YtojnfojecpdolaaField2
namespace Go.Proofs.Ytojnfojecpdolaa
set_option linter.all false
set_option linter.unusedSimpArgs false
set_option linter.unusedVariables false
open Go.ChangeShapes Go.WideShapes Go.ChangeAt Go.RowKit

theorem markTileS_c (B : Option Addr) (m d : Nat) (k0 : Int) (base : Nat) (c : Nat → Value) (w : World) (h : w.ownsRow base 36 64 (.slice B m d) m ((List.range (m * 64)).map c)) (hm : m ≤ 1048576) (h0 : 0 ≤ k0) (h1 : k0 ≤ 1000000000)
    (hc : ∀ j, j < m * 64 → ∃ x : Int, c j = .int .i64 x) :
    Calls Try.prog 54 #[.slice B m d, .int .i64 k0] w fun e w' => e = .returned (.int .i64 (k0 + 64 * m)) ∧ w'.ownsRow base 36 64 (.slice B m d) m ((List.range (m * 64)).map (iv fun j => k0 + j)) ∧ w.grownBy w' (Value.slice B m d).ownBlock := by
  have H := Lib.hid h
  have HC := Lib.hid hc
  clear h hc
  go_enter Try.func54, Try.ntmps54
  go_wp2
  go_loopw [1, 5] (fun u i wr => ∃ k : Nat, k ≤ m ∧ i = .int .i64 k ∧ u = .int .i64 (k0 + 64 * k) ∧ wr.ownsRow base 36 64 (.slice B m d) m ((List.range (m * 64)).map fun j => if j < k * 64 then .int .i64 (k0 + j) else c j) ∧ w.grownBy wr (Value.slice B m d).ownBlock) (fun _ i _ => m - (intOf i).toNat)
  case atStart =>
    refine ⟨0, by omega, rfl, by simp, ?_, World.grownBy.refl _ _⟩
    simpa using H.out
  case round =>
    obtain ⟨k, hk, rfl, rfl, h1', hb⟩ := hrel
    have HB := Lib.hid hb
    have HO := Lib.hid h1'
    clear h1' hb
    by_cases hlt : k < m
    · go_wp2
      obtain ⟨wo, rfl⟩ : ∃ wo : World, wo = wr := ⟨_, rfl⟩
      go_loopw [1, 6] (fun u i wr => ∃ j : Nat, j ≤ 64 ∧ i = .int .i64 j ∧ u = .int .i64 (k0 + (k * 64 + j : Nat)) ∧ wr.ownsRow base 36 64 (.slice B m d) m ((List.range (m * 64)).map fun i => if i < k * 64 + j then .int .i64 (k0 + i) else c i) ∧ w.grownBy wr (Value.slice B m d).ownBlock) (fun _ i _ => 64 - (intOf i).toNat)
      case atStart => exact ⟨0, by omega, rfl, by congr 1; omega, HO.out, HB.out⟩
      case round =>
        obtain ⟨j, hj, rfl, rfl, h2, hb2⟩ := hrel
        have HB2 := Lib.hid hb2
        by_cases hjl : j < 64
        · obtain ⟨g, rfl, hg, hgl⟩ := own_head h2 (by omega)
          have hlt2 : k * 64 + j < m * 64 := by omega
          obtain ⟨x, hx⟩ := HC.out (k * 64 + j) hlt2
          have ck := (h2.cellAt (k * 64 + j) (by omega)).trans (map_get hlt2)
          simp only [Nat.lt_irrefl, if_false, hx] at ck
          have fk := h2.frozenAt (k * 64 + j)
          have HO2 := Lib.hid h2
          have i1 : (k : Int) < (m : Int) := by omega
          clear h2 hb2 hx
          go_wp2
          go_roundw
          case rel =>
            refine ⟨j + 1, by omega, by go_num, ?_, ?_, HB2.out.trans (grown_put _ _ _ _)⟩
            · congr 1; omega
            · have := own_put HO2.out (k * 64 + j) (.int .i64 (k0 + (k * 64 + j : Nat)))
              refine cast (congrArg (fun l => World.ownsRow _ _ _ _ _ _ l) (List.map_congr_left fun i hi => ?_)) this
              simp only [updV]
              by_cases e : i = k * 64 + j
              · subst e; simp
              · rw [if_neg e]; split <;> split <;> first | rfl | omega
          case measure => simp [intOf]; omega
        · have hj64 : j = 64 := by omega
          subst hj64
          have HO2 := Lib.hid h2
          clear h2 hb2
          go_wp2
          go_roundw
          case rel =>
            refine ⟨k + 1, by omega, by go_num, ?_, ?_, HB2.out⟩
            · congr 1; omega
            · have := HO2.out
              rwa [show k * 64 + 64 = (k + 1) * 64 by omega] at this
          case measure => simp [intOf]; omega
    · have hkm : k = m := by omega
      subst hkm
      go_wp2
      go_ret
      refine ⟨rfl, ?_, HB.out⟩
      refine cast (congrArg (fun l => World.ownsRow _ _ _ _ _ _ l) (List.map_congr_left fun i hi => ?_)) HO.out
      simp only [List.mem_range] at hi
      rw [if_pos hi]

theorem heldTileS_c (B : Option Addr) (m d : Nat) (k0 : Int) (w : World) {C : Nat} (h : RS w C 64 B m (iv fun j => k0 + j)) (hm : m ≤ 1048576) (h0 : 0 ≤ k0) (h1 : k0 ≤ 1000000000) :
    Calls Try.prog 55 #[.slice B m d, .int .i64 k0] w fun e w' => e = .returned (.int .i64 (k0 + 64 * m)) ∧ w = w' := by
  have H := Lib.hid h
  clear h
  go_enter Try.func55, Try.ntmps55
  go_wp2
  go_loop [1, 5] (fun u i => ∃ k : Nat, k ≤ m ∧ i = .int .i64 k ∧ u = .int .i64 (k0 + 64 * k)) (fun _ i => m - (intOf i).toNat)
  case atStart => exact ⟨0, by omega, rfl, by simp⟩
  case round =>
    obtain ⟨k, hk, rfl, rfl⟩ := hrel
    by_cases hlt : k < m
    · go_wp2
      go_loop [1, 6] (fun u i => ∃ j : Nat, j ≤ 64 ∧ i = .int .i64 j ∧ u = .int .i64 (k0 + (k * 64 + j : Nat))) (fun _ i => 64 - (intOf i).toNat)
      case atStart => exact ⟨0, by omega, rfl, by congr 1; omega⟩
      case round =>
        obtain ⟨j, hj, rfl, rfl⟩ := hrel
        by_cases hjl : j < 64
        · obtain ⟨b, off, rfl, hbl, hcell⟩ := H.out.at_ (by omega)
          have ck := hcell (k * 64 + j) (by omega)
          simp only [iv] at ck
          rw [← Nat.add_assoc] at ck
          have i1 : (k : Int) < (m : Int) := by omega
          clear hcell
          go_wp2
          go_round
          case rel =>
            refine ⟨j + 1, by omega, by go_num, ?_⟩
            congr 1; omega
          case measure => simp [intOf]; omega
        · have hj64 : j = 64 := by omega
          subst hj64
          go_wp2
          go_round
          case rel =>
            refine ⟨k + 1, by omega, by go_num, ?_⟩
            congr 1; omega
          case measure => simp [intOf]; omega
    · have hkm : k = m := by omega
      subst hkm
      go_wp2
      go_ret
      exact ⟨rfl, rfl⟩

/-- A row that was made later is another one. -/
theorem own_ne {w w' : World} {base base' : Nat} {e e' : TypeId} {sz sz' n n' : Nat} {v v' : Value} {xs xs' : List Value} (h : w.ownsRow base e sz v n xs) (h' : w'.ownsRow base' e' sz' v' n' xs') (hb : w'.heap.size ≤ base) : v.ownBlock = none ∨ v.ownBlock ≠ v'.ownBlock := by
  cases hx : v.ownBlock with
  | none => exact .inl rfl
  | some x =>
    refine .inr fun hy => ?_
    have e1 := (h.lt _ hx).1
    have e2 := (h'.lt _ hy.symm).2
    omega
/-- A field's two rows are marked: only they turn. -/
theorem markField_c (W : Int) (A : Option Addr) (n c : Nat) (B : Option Addr) (m d : Nat) (X Y k0 : Int) (base base' : Nat) (p : Nat → Int) (q : Nat → Nat → Int) (w : World) (hA : w.ownsRow base 3 1 (.slice A n c) n ((List.range (n * 1)).map (iv p)))
    (hB : w.ownsRow base' 36 64 (.slice B m d) m ((List.range (m * 64)).map (tc q))) (hne : (Value.slice B m d).ownBlock = none ∨ (Value.slice B m d).ownBlock ≠ (Value.slice A n c).ownBlock) (hn : n ≤ 1048576) (hm : m ≤ 1048576) (h0 : 0 ≤ k0) (h1 : k0 ≤ 1000000) :
    Calls Try.prog 31 #[fdV W A n c B m d X Y, .int .i64 k0] w fun e w' => e = .returned (.int .i64 (k0 + n + 64 * m)) ∧ w'.ownsRow base 3 1 (.slice A n c) n ((List.range (n * 1)).map (iv fun j => k0 + j)) ∧
      w'.ownsRow base' 36 64 (.slice B m d) m ((List.range (m * 64)).map (iv fun j => k0 + n + j)) ∧ ∃ w1, w.grownBy w1 (Value.slice A n c).ownBlock ∧ w1.grownBy w' (Value.slice B m d).ownBlock := by
  have HA := Lib.hid hA
  have HB := Lib.hid hB
  clear hA hB
  go_enter Try.func31, Try.ntmps31
  go_wp2_with fail
  have hA1 := World.ownsRow.alloc HA.out (.cells #[.int .i64 W, .slice A n c, .slice B m d, .int .i64 X, .int .i64 Y] 26)
  rw [Nat.mul_one] at hA1
  refine (markIntS_c A n c k0 base (iv p) _ hA1 hn h0 (by omega) (fun j _ => ⟨p j, rfl⟩)).mono ?_
  rintro e w1 ⟨rfl, hA2, hG1⟩
  have hnew : ∀ (A' : Option Addr) (n' c' : Nat) {e : TypeId} {sz b : Nat} {xs : List Value}, w.ownsRow b e sz (.slice A' n' c') n' xs → some w.heap.size ≠ (Value.slice A' n' c').ownBlock := fun A' n' c' e sz b xs h he => by
    have := (h.lt _ he.symm).2
    omega
  have hF1 : FB w1 w.heap.size 26 W A n c B m d X Y := (hG1.block w.heap.size (by simp) (hnew _ _ _ HA.out)).trans (FB.new w _ _ _ _ _ _ _ _ _ _)
  have hB1 := (World.ownsRow.alloc HB.out (.cells #[.int .i64 W, .slice A n c, .slice B m d, .int .i64 X, .int .i64 Y] 26)).kept hG1 hne
  obtain ⟨c0, c1, c2, c3, c4⟩ := hF1.cells
  have k1 : 0 ≤ k0 + (n : Int) := by omega
  have k2 : k0 + (n : Int) ≤ 1000000000 := by omega
  have hG0 : w.grownBy w1 (Value.slice A n c).ownBlock := (World.grownBy_alloc w _ _).trans hG1
  clear hA1 hG1 hF1
  go_wp2_with fail
  refine (markTileS_c B m d (k0 + n) base' (tc q) _ hB1 hm k1 k2 (fun j _ => ⟨_, rfl⟩)).mono ?_
  rintro e w2 ⟨rfl, hB2, hG2⟩
  go_wp2
  go_ret
  refine ⟨rfl, ?_, hB2, w1, hG0, hG2⟩
  rw [Nat.mul_one]
  refine hA2.kept hG2 ?_
  rcases hne with h | h
  · cases hx : (Value.slice A n c).ownBlock
    · exact .inl rfl
    · rw [h]; exact .inr (by simp)
  · exact .inr (Ne.symm h)

theorem heldField_c (W : Int) (A : Option Addr) (n c : Nat) (B : Option Addr) (m d : Nat) (X Y k0 : Int) (w : World) {C C' : Nat} (hA : RS w C 1 A n (iv fun j => k0 + j)) (hB : RS w C' 64 B m (iv fun j => k0 + n + j)) (hC : C ≤ w.heap.size) (hC' : C' ≤ w.heap.size) (hn : n ≤ 1048576) (hm : m ≤ 1048576) (h0 : 0 ≤ k0) (h1 : k0 ≤ 1000000) :
    Calls Try.prog 34 #[fdV W A n c B m d X Y, .int .i64 k0] w fun e w' => e = .returned (.int .i64 (k0 + n + 64 * m)) ∧ Below w.heap.size w w' := by
  have H1 := Lib.hid (heldIntS_c A n c k0 _ (hA.alloc hC (.cells #[.int .i64 W, .slice A n c, .slice B m d, .int .i64 X, .int .i64 Y] 26)) hn h0 (by omega))
  have H2 := Lib.hid (heldTileS_c B m d (k0 + n) _ (hB.alloc hC' (.cells #[.int .i64 W, .slice A n c, .slice B m d, .int .i64 X, .int .i64 Y] 26)) hm (by omega) (by omega))
  have k1 : ¬ k0 + (n : Int) < 0 := by omega
  have k2 : ¬ k0 + (n : Int) + 64 * (m : Int) < 0 := by omega
  clear hA hB
  go_enter Try.func34, Try.ntmps34
  go_wp2_with (first | (go_at_call 33; refine H1.out.mono ?_; rintro e w' ⟨rfl, rfl⟩) | (go_at_call 55; refine H2.out.mono ?_; rintro e w' ⟨rfl, rfl⟩))
  go_ret
  refine ⟨rfl, ?_⟩
  (repeat (first | with_reducible exact Below.refl _ _ | ((with_reducible refine viaO (by assumption) ?_ ?_ ?_) <;> try ((try simp only [World.size_alloc, World.size_setCell, World.size_drew]) <;> omega)) | ((with_reducible refine Below.alloc ?_ ?_ _) <;> try ((try simp only [World.size_alloc, World.size_setCell, World.size_drew]) <;> omega)) | ((with_reducible refine Below.setCell ?_ ?_ _) <;> try ((try simp only [World.size_alloc, World.size_setCell, World.size_drew]) <;> omega)) | (with_reducible refine below_drewN ?_ _) | (with_reducible refine Below.drew ?_) | ((with_reducible refine via (by assumption) ?_ ?_) <;> try ((try simp only [World.size_alloc, World.size_setCell, World.size_drew]) <;> omega))))
end Go.Proofs.Ytojnfojecpdolaa
