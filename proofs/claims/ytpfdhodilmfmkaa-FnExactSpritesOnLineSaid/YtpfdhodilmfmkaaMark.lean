/-
  Lists of tiles and fields: marked and looked at again. Conditions: at most 1048576 tiles and numbers.
-/
import Derived.Test.YtpfdhodilmfmkaaField2
namespace Go.Proofs.Ytpfdhodilmfmkaa
set_option linter.all false
set_option linter.unusedSimpArgs false
set_option linter.unusedVariables false
open Go.ChangeShapes Go.WideShapes Go.ChangeAt Go.RowKit

theorem markTileS_c (B : Option Addr) (m d : Nat) (k0 : Int) (base : Nat) (c : Nat → Value) (w : World) (h : w.ownsRow base 55 64 (.slice B m d) m ((List.range (m * 64)).map c)) (hm : m ≤ 1048576) (h0 : 0 ≤ k0) (h1 : k0 ≤ 1000000000)
    (hc : ∀ j, j < m * 64 → ∃ x : Int, c j = .int .i64 x) :
    Calls Try.prog 36 #[.slice B m d, .int .i64 k0] w fun e w' => e = .returned (.int .i64 (k0 + 64 * m)) ∧ w'.ownsRow base 55 64 (.slice B m d) m ((List.range (m * 64)).map (iv fun j => k0 + j)) ∧ w.grownBy w' (Value.slice B m d).ownBlock := by
  have H := Lib.hid h
  have HC := Lib.hid hc
  clear h hc
  go_enter Try.func36, Try.ntmps36
  go_wp2
  go_loopw [1, 5] (fun u i wr => ∃ k : Nat, k ≤ m ∧ i = .int .i64 k ∧ u = .int .i64 (k0 + 64 * k) ∧ wr.ownsRow base 55 64 (.slice B m d) m ((List.range (m * 64)).map fun j => if j < k * 64 then .int .i64 (k0 + j) else c j) ∧ w.grownBy wr (Value.slice B m d).ownBlock) (fun _ i _ => m - (intOf i).toNat)
  case atStart =>
    refine ⟨0, by omega, rfl, by simp, ?_, World.grownBy.refl _ _⟩
    simpa using H.out
  case round =>
    obtain ⟨k, hk, rfl, rfl, h1', hb⟩ := hrel
    have HB := Lib.hid hb
    have HO := Lib.hid h1'
    clear h1' hb
    by_cases hlt : k < m
    · go_wp2
      obtain ⟨wo, rfl⟩ : ∃ wo : World, wo = wr := ⟨_, rfl⟩
      go_loopw [1, 6] (fun u i wr => ∃ j : Nat, j ≤ 64 ∧ i = .int .i64 j ∧ u = .int .i64 (k0 + (k * 64 + j : Nat)) ∧ wr.ownsRow base 55 64 (.slice B m d) m ((List.range (m * 64)).map fun i => if i < k * 64 + j then .int .i64 (k0 + i) else c i) ∧ w.grownBy wr (Value.slice B m d).ownBlock) (fun _ i _ => 64 - (intOf i).toNat)
      case atStart => exact ⟨0, by omega, rfl, by congr 1; omega, HO.out, HB.out⟩
      case round =>
        obtain ⟨j, hj, rfl, rfl, h2, hb2⟩ := hrel
        have HB2 := Lib.hid hb2
        by_cases hjl : j < 64
        · obtain ⟨g, rfl, hg, hgl⟩ := own_head h2 (by omega)
          have hlt2 : k * 64 + j < m * 64 := by omega
          obtain ⟨x, hx⟩ := HC.out (k * 64 + j) hlt2
          have ck := (h2.cellAt (k * 64 + j) (by omega)).trans (map_get hlt2)
          simp only [Nat.lt_irrefl, if_false, hx] at ck
          have fk := h2.frozenAt (k * 64 + j)
          have HO2 := Lib.hid h2
          have i1 : (k : Int) < (m : Int) := by omega
          clear h2 hb2 hx
          go_wp2
          go_roundw
          case rel =>
            refine ⟨j + 1, by omega, by go_num, ?_, ?_, HB2.out.trans (grown_put _ _ _ _)⟩
            · congr 1; omega
            · have := own_put HO2.out (k * 64 + j) (.int .i64 (k0 + (k * 64 + j : Nat)))
              refine cast (congrArg (fun l => World.ownsRow _ _ _ _ _ _ l) (List.map_congr_left fun i hi => ?_)) this
              simp only [updV]
              by_cases e : i = k * 64 + j
              · subst e; simp
              · rw [if_neg e]; split <;> split <;> first | rfl | omega
          case measure => simp [intOf]; omega
        · have hj64 : j = 64 := by omega
          subst hj64
          have HO2 := Lib.hid h2
          clear h2 hb2
          go_wp2
          go_roundw
          case rel =>
            refine ⟨k + 1, by omega, by go_num, ?_, ?_, HB2.out⟩
            · congr 1; omega
            · have := HO2.out
              rwa [show k * 64 + 64 = (k + 1) * 64 by omega] at this
          case measure => simp [intOf]; omega
    · have hkm : k = m := by omega
      subst hkm
      go_wp2
      go_ret
      refine ⟨rfl, ?_, HB.out⟩
      refine cast (congrArg (fun l => World.ownsRow _ _ _ _ _ _ l) (List.map_congr_left fun i hi => ?_)) HO.out
      simp only [List.mem_range] at hi
      rw [if_pos hi]

/-- A row that was made later is another one. -/
theorem own_ne {w w' : World} {base base' : Nat} {e e' : TypeId} {sz sz' n n' : Nat} {v v' : Value} {xs xs' : List Value} (h : w.ownsRow base e sz v n xs) (h' : w'.ownsRow base' e' sz' v' n' xs') (hb : w'.heap.size ≤ base) : v.ownBlock = none ∨ v.ownBlock ≠ v'.ownBlock := by
  cases hx : v.ownBlock with
  | none => exact .inl rfl
  | some x =>
    refine .inr fun hy => ?_
    have e1 := (h.lt _ hx).1
    have e2 := (h'.lt _ hy.symm).2
    omega
