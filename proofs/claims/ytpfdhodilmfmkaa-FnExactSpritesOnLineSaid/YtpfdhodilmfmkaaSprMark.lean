/-
  Lists of sprites are marked. Conditions: at most 1048576 sprites.
-/
import Derived.Test.YtpfdhodilmfmkaaSpr
import Derived.Test.YtpfdhodilmfmkaaMark
namespace Go.Proofs.Ytpfdhodilmfmkaa
set_option linter.all false
set_option linter.unusedSimpArgs false
set_option linter.unusedVariables false
open Go.ChangeShapes Go.WideShapes Go.ChangeAt Go.RowKit

theorem grown_six {w w' : World} {g : Nat} (h : w.grownBy w' (some g)) (o0 o1 o2 o3 o4 o5 : Nat) (v0 v1 v2 v3 v4 v5 : Value) : w.grownBy ((((((w'.setCell ⟨g, o0, none⟩ v0).setCell ⟨g, o1, none⟩ v1).setCell ⟨g, o2, none⟩ v2).setCell ⟨g, o3, none⟩ v3).setCell ⟨g, o4, none⟩ v4).setCell ⟨g, o5, none⟩ v5) (some g) :=
  (((((h.trans (grown_put _ _ _ _)).trans (grown_put _ _ _ _)).trans (grown_put _ _ _ _)).trans (grown_put _ _ _ _)).trans (grown_put _ _ _ _)).trans (grown_put _ _ _ _)
theorem markSpriteS_c (A : Option Addr) (n cp : Nat) (k0 : Int) (base : Nat) (c : Nat → Value) (w : World) (h : w.ownsRow base 29 6 (.slice A n cp) n ((List.range (n * 6)).map c)) (hn : n ≤ 1048576) (h0 : 0 ≤ k0) (h1 : k0 ≤ 1000000000) :
    Calls Try.prog 35 #[.slice A n cp, .int .i64 k0] w fun e w' => e = .returned (.int .i64 (k0 + 6 * n)) ∧ w.grownBy w' (Value.slice A n cp).ownBlock := by
  have H := Lib.hid h
  clear h
  go_enter Try.func35, Try.ntmps35
  go_wp2
  go_loopw [1, 5] (fun u i wr => ∃ k : Nat, k ≤ n ∧ i = .int .i64 k ∧ u = .int .i64 (k0 + 6 * k) ∧ (∃ c, wr.ownsRow base 29 6 (.slice A n cp) n ((List.range (n * 6)).map c)) ∧ w.grownBy wr (Value.slice A n cp).ownBlock) (fun _ i _ => n - (intOf i).toNat)
  case atStart => exact ⟨0, by omega, rfl, by simp, ⟨c, H.out⟩, World.grownBy.refl _ _⟩
  case round =>
    obtain ⟨k, hk, rfl, rfl, ⟨c, h1'⟩, hb⟩ := hrel
    have HB := Lib.hid hb
    by_cases hlt : k < n
    · obtain ⟨g, rfl, hg, hgl⟩ := own_head h1' (by omega)
      have c0 := (h1'.cellAt (k * 6 + 0) (by omega)).trans (map_get (show k * 6 + 0 < n * 6 by omega))
      have f0 := h1'.frozenAt (k * 6 + 0)
      have c1 := (h1'.cellAt (k * 6 + 1) (by omega)).trans (map_get (show k * 6 + 1 < n * 6 by omega))
      have f1 := h1'.frozenAt (k * 6 + 1)
      have c2 := (h1'.cellAt (k * 6 + 2) (by omega)).trans (map_get (show k * 6 + 2 < n * 6 by omega))
      have f2 := h1'.frozenAt (k * 6 + 2)
      have c3 := (h1'.cellAt (k * 6 + 3) (by omega)).trans (map_get (show k * 6 + 3 < n * 6 by omega))
      have f3 := h1'.frozenAt (k * 6 + 3)
      have c4 := (h1'.cellAt (k * 6 + 4) (by omega)).trans (map_get (show k * 6 + 4 < n * 6 by omega))
      have f4 := h1'.frozenAt (k * 6 + 4)
      have c5 := (h1'.cellAt (k * 6 + 5) (by omega)).trans (map_get (show k * 6 + 5 < n * 6 by omega))
      have f5 := h1'.frozenAt (k * 6 + 5)
      rw [Nat.add_zero] at c0 f0
      have HO := Lib.hid h1'
      have i1 : (k : Int) < (n : Int) := by omega
      clear h1' hb
      go_wp2
      go_roundw
      case rel =>
        refine ⟨k + 1, by omega, by go_num, ?_, ?_, grown_six HB.out _ _ _ _ _ _ _ _ _ _ _ _⟩
        · congr 1; omega
        · exact ⟨_, own_put (own_put (own_put (own_put (own_put (own_put HO.out _ _) _ _) _ _) _ _) _ _) _ _⟩
      case measure => simp [intOf]; omega
    · have hkn : k = n := by omega
      subst hkn
      clear h1' hb
      go_wp2
      go_ret
      exact ⟨rfl, HB.out⟩
end Go.Proofs.Ytpfdhodilmfmkaa
