/-
  Lists of numbers: copied, compared, marked and looked at again. Conditions: at most 1048576 numbers.
-/
import Derived.Test.YtabioinmpjfflaaSlice
import Derived.OwnWalk
import Derived.IntWalk
namespace Go.Proofs.Ytabioinmpjfflaa
set_option linter.all false
set_option linter.unusedSimpArgs false
set_option linter.unusedVariables false
set_option maxRecDepth 20000
open Go.ChangeShapes Go.WideShapes Go.ChangeAt Go.RowKit

theorem info3 : (Try.prog.info? 3).map (fun i => (i.zero, i.size, i.bytes)) = some (some (.int .i64 0), 1, 8) := by kernel_rfl
theorem makeInts (n : Nat) (hn : n ≤ 1048576) (W : World) : (Instr.makeSlice 23 (.int .i64 (n : Int)) (.int .i64 (n : Int))).run Try.prog W = .ok (.slice (some ⟨W.heap.size, 0, none⟩) n n) (W.alloc (.cells (ca n fun _ => .int .i64 0) 3)) := by
  obtain ⟨i, hi, hz, hs, hb⟩ := info_parts info3
  have hr := run_make (P := Try.prog) W 23 3 i _ Try.underlying23 hi hz .i64 .i64 n n (by omega) (by omega) (by rw [hb]; omega) (by omega)
  rw [hr, hs]
  simp only [Int.toNat_natCast, Nat.mul_one, Value.cells]
  rw [made_ca]

theorem toIntS_c (A : Option Addr) (n cap : Nat) (p : Nat → Int) (w : World) {B : Nat} (h : RS w B 1 A n (iv p)) (hB : B ≤ w.heap.size) (hn : n ≤ 1048576) : Calls Try.prog 66 #[.slice A n cap] w (Gives 3 1 n (iv p) w) := by
  have H := Lib.hid h
  clear h
  have hmk := makeInts n hn
  go_enter Try.func66, Try.ntmps66
  go_wp2
  clear hmk
  go_loopw [4] (fun i wr => ∃ k : Nat, k ≤ n ∧ i = .int .i64 k ∧ CB wr w.heap.size 3 n (fun j => .int .i64 (if j < k then p j else 0)) ∧ Below w.heap.size w wr) (fun i _ => n - (intOf i).toNat)
  case atStart =>
    refine ⟨0, by omega, rfl, (CB.new _ _ _ _).congr (fun i _ => by simp), ?_⟩
    (repeat (first | with_reducible exact Below.refl _ _ | ((with_reducible refine viaO (by assumption) ?_ ?_ ?_) <;> try ((try simp only [World.size_alloc, World.size_setCell, World.size_drew]) <;> omega)) | ((with_reducible refine Below.alloc ?_ ?_ _) <;> try ((try simp only [World.size_alloc, World.size_setCell, World.size_drew]) <;> omega)) | ((with_reducible refine Below.setCell ?_ ?_ _) <;> try ((try simp only [World.size_alloc, World.size_setCell, World.size_drew]) <;> omega)) | (with_reducible refine below_drewN ?_ _) | (with_reducible refine Below.drew ?_) | ((with_reducible refine via (by assumption) ?_ ?_) <;> try ((try simp only [World.size_alloc, World.size_setCell, World.size_drew]) <;> omega))))
  case round =>
    obtain ⟨k, hk, rfl, h1, hb⟩ := hrel
    have H1 := Lib.hid h1
    have HB := Lib.hid hb
    by_cases hlt : k < n
    · obtain ⟨b, off, rfl, hbl, hc⟩ := (RS.below hb H.out hB).at_ (by omega)
      have ck := hc k (by omega)
      have c1 := h1.cell k hlt
      have f1 := h1.frozen k
      clear h1 hb hc
      go_wp2
      go_roundw
      case rel =>
        refine ⟨k + 1, by omega, by go_num, (H1.out.put k _).congr fun i hi => ?_, HB.out.setCell (Nat.le_refl _) _⟩
        simp only [updV]
        by_cases e : i = k
        · subst e; simp
        · rw [if_neg e]; congr 1; split <;> split <;> first | rfl | omega
      case measure => simp [intOf]; omega
    · have hkn : k = n := by omega
      subst hkn
      clear h1 hb
      go_wp2
      go_ret
      refine ⟨_, _, rfl, ?_, HB.out⟩
      rw [Nat.mul_one]
      exact (H1.out.congr (d := iv p) fun i hi => by simp [hi]).own (Nat.le_refl _) (by unfold maxLen; omega)

theorem eqIntS_c (A B : Option Addr) (n cap cap' : Nat) (p q : Nat → Int) (w : World) {C C' : Nat} (h : RS w C 1 A n (iv p)) (h' : RS w C' 1 B n (iv q)) (hC : C ≤ w.heap.size) (hC' : C' ≤ w.heap.size) (hn : n ≤ 1048576) (hpq : ∀ i, i < n → p i = q i) :
    Calls Try.prog 69 #[.slice A n cap, .slice B n cap'] w fun e w' => e = .returned (.bool true) ∧ Below w.heap.size w w' := by
  have H := Lib.hid h
  have H' := Lib.hid h'
  have HP := Lib.hid hpq
  clear h h' hpq
  go_enter Try.func69, Try.ntmps69
  go_wp2
  go_loopw [5] (fun i wr => ∃ k : Nat, k ≤ n ∧ i = .int .i64 k ∧ Below w.heap.size w wr) (fun i _ => n - (intOf i).toNat)
  case atStart => exact ⟨0, by omega, rfl, Below.refl _ _⟩
  case round =>
    obtain ⟨k, hk, rfl, hb⟩ := hrel
    have HB := Lib.hid hb
    by_cases hlt : k < n
    · obtain ⟨b, off, rfl, hbl, hc⟩ := (RS.below hb H.out hC).at_ (by omega)
      obtain ⟨b', off', rfl, hbl', hc'⟩ := (RS.below hb H'.out hC').at_ (by omega)
      have ck : wr.cell? ⟨b, off + k, none⟩ = some (.int .i64 (q k)) := (hc k (by omega)).trans (by rw [← HP.out k hlt])
      have ck' := hc' k (by omega)
      have hi1 : (k : Int) < (n : Int) := by omega
      clear hb hc hc'
      go_wp2
      go_quiet (fail)
      go_wp2
      go_roundw
      case rel => exact ⟨k + 1, by omega, by go_num, below_drewN HB.out _⟩
      case measure => simp [intOf]; omega
    · have hkn : k = n := by omega
      subst hkn
      clear hb
      go_wp2
      go_ret
      exact ⟨rfl, HB.out⟩

theorem sameInts_c (A B : Option Addr) (n cap cap' : Nat) (p q : Nat → Int) (w : World) {C C' : Nat} (h : RS w C 1 A n (iv p)) (h' : RS w C' 1 B n (iv q)) (hC : C ≤ w.heap.size) (hC' : C' ≤ w.heap.size) (hn : n ≤ 1048576) (hpq : ∀ i, i < n → p i = q i) :
    Calls Try.prog 13 #[.slice A n cap, .slice B n cap'] w fun e w' => e = .returned (.bool true) ∧ Below w.heap.size w w' := by
  have H := Lib.hid h
  have H' := Lib.hid h'
  have HP := Lib.hid hpq
  clear h h' hpq
  go_enter Try.func13, Try.ntmps13
  go_wp2
  go_loopw [5] (fun i wr => ∃ k : Nat, k ≤ n ∧ i = .int .i64 k ∧ Below w.heap.size w wr) (fun i _ => n - (intOf i).toNat)
  case atStart => exact ⟨0, by omega, rfl, Below.refl _ _⟩
  case round =>
    obtain ⟨k, hk, rfl, hb⟩ := hrel
    have HB := Lib.hid hb
    by_cases hlt : k < n
    · obtain ⟨b, off, rfl, hbl, hc⟩ := (RS.below hb H.out hC).at_ (by omega)
      obtain ⟨b', off', rfl, hbl', hc'⟩ := (RS.below hb H'.out hC').at_ (by omega)
      have ck : wr.cell? ⟨b, off + k, none⟩ = some (.int .i64 (q k)) := (hc k (by omega)).trans (by rw [← HP.out k hlt])
      have ck' := hc' k (by omega)
      have hi1 : (k : Int) < (n : Int) := by omega
      clear hb hc hc'
      go_wp2
      go_quiet (fail)
      go_wp2
      go_roundw
      case rel => exact ⟨k + 1, by omega, by go_num, below_drewN HB.out _⟩
      case measure => simp [intOf]; omega
    · have hkn : k = n := by omega
      subst hkn
      clear hb
      go_wp2
      go_ret
      exact ⟨rfl, HB.out⟩

end Go.Proofs.Ytabioinmpjfflaa
