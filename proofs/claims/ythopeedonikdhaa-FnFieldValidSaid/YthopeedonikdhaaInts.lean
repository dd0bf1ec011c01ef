/-
  Lists of numbers: copied, compared, marked and looked at again. Conditions: at most 1048576 numbers.
-/
import Derived.Test.YthopeedonikdhaaSlice
import Derived.OwnWalk
import Derived.IntWalk
namespace Go.Proofs.Ythopeedonikdhaa
set_option linter.all false
set_option linter.unusedSimpArgs false
set_option linter.unusedVariables false
open Go.ChangeShapes Go.WideShapes Go.ChangeAt Go.RowKit

theorem info3 : (Try.prog.info? 3).map (fun i => (i.zero, i.size, i.bytes)) = some (some (.int .i64 0), 1, 8) := by kernel_rfl
theorem makeInts (n : Nat) (hn : n ≤ 1048576) (W : World) : (Instr.makeSlice 23 (.int .i64 (n : Int)) (.int .i64 (n : Int))).run Try.prog W = .ok (.slice (some ⟨W.heap.size, 0, none⟩) n n) (W.alloc (.cells (ca n fun _ => .int .i64 0) 3)) := by
  obtain ⟨i, hi, hz, hs, hb⟩ := info_parts info3
  have hr := run_make (P := Try.prog) W 23 3 i _ Try.underlying23 hi hz .i64 .i64 n n (by omega) (by omega) (by rw [hb]; omega) (by omega)
  rw [hr, hs]
  simp only [Int.toNat_natCast, Nat.mul_one, Value.cells]
  rw [made_ca]

theorem sameInts_c (A B : Option Addr) (n cap cap' : Nat) (p q : Nat → Int) (w : World) {C C' : Nat} (h : RS w C 1 A n (iv p)) (h' : RS w C' 1 B n (iv q)) (hC : C ≤ w.heap.size) (hC' : C' ≤ w.heap.size) (hn : n ≤ 1048576) (hpq : ∀ i, i < n → p i = q i) :
    Calls Try.prog 13 #[.slice A n cap, .slice B n cap'] w fun e w' => e = .returned (.bool true) ∧ Below w.heap.size w w' := by
  have H := Lib.hid h
  have H' := Lib.hid h'
  have HP := Lib.hid hpq
  clear h h' hpq
  go_enter Try.func13, Try.ntmps13
  go_wp2
  go_loopw [5] (fun i wr => ∃ k : Nat, k ≤ n ∧ i = .int .i64 k ∧ Below w.heap.size w wr) (fun i _ => n - (intOf i).toNat)
  case atStart => exact ⟨0, by omega, rfl, Below.refl _ _⟩
  case round =>
    obtain ⟨k, hk, rfl, hb⟩ := hrel
    have HB := Lib.hid hb
    by_cases hlt : k < n
    · obtain ⟨b, off, rfl, hbl, hc⟩ := (RS.below hb H.out hC).at_ (by omega)
      obtain ⟨b', off', rfl, hbl', hc'⟩ := (RS.below hb H'.out hC').at_ (by omega)
      have ck : wr.cell? ⟨b, off + k, none⟩ = some (.int .i64 (q k)) := (hc k (by omega)).trans (by rw [← HP.out k hlt])
      have ck' := hc' k (by omega)
      have hi1 : (k : Int) < (n : Int) := by omega
      clear hb hc hc'
      go_wp2
      go_quiet (fail)
      go_wp2
      go_roundw
      case rel => exact ⟨k + 1, by omega, by go_num, below_drewN HB.out _⟩
      case measure => simp [intOf]; omega
    · have hkn : k = n := by omega
      subst hkn
      clear hb
      go_wp2
      go_ret
      exact ⟨rfl, HB.out⟩

end Go.Proofs.Ythopeedonikdhaa
