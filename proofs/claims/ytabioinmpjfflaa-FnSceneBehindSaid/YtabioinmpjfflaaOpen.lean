/-
  What the arguments of a law may be: each opened once. No conditions.
-/
import Derived.Test.YtabioinmpjfflaaRd
namespace Go.Proofs.Ytabioinmpjfflaa
set_option linter.all false
set_option linter.unusedSimpArgs false
set_option linter.unusedVariables false
set_option maxRecDepth 20000
open Go.ChangeShapes Go.WideShapes Go.ChangeAt Go.RowKit Go.Joins

theorem own : ownKnob Try.prog.godebug = none := by kernel_rfl
theorem laidOut : laidOutB Try.prog = true := by kernel_rfl

def IntArg (_ : World) (v : Value) : Prop := ∃ n : Int, v = .int .i64 n ∧ -9223372036854775808 ≤ n ∧ n ≤ 9223372036854775807
def BoolArg (_ : World) (v : Value) : Prop := ∃ b : Bool, v = .bool b
def CodeArg (w : World) (v : Value) : Prop := ∃ a len cap, v = .slice a len cap ∧ Code w a len ∧ len ≤ cap
def ThreeArg (_ : World) (v : Value) : Prop := ∃ x y z : Int, v = .agg #[.int .i64 x, .int .i64 y, .int .i64 z]

section
variable {H : Type} {enc : TypeId × Value → H} {W : World} {base : Nat} {v : Value} {d : DataW H} {p : List MemPlace}

theorem intArg (hv : Value.okWide Try.prog W .any base 3 v) (h : DataW.Trod enc Try.prog W 0 (fun _ => true) true 3 v d p) : IntArg W v := by
  obtain ⟨x, rfl, rfl, rfl, wx⟩ := open_int Try.underlying3 hv h
  have := bounds_i64 wx
  exact ⟨x, rfl, by omega, by omega⟩

theorem boolArg (hv : Value.okWide Try.prog W .any base 4 v) (h : DataW.Trod enc Try.prog W 0 (fun _ => true) true 4 v d p) : BoolArg W v := by
  obtain ⟨x, rfl, rfl, rfl⟩ := open_bool Try.underlying4 hv h
  exact ⟨x, rfl⟩

theorem codeArg (hv : Value.okWide Try.prog W .any base 22 v) (h : DataW.Trod enc Try.prog W 0 (fun _ => true) true 22 v d p) : CodeArg W v := by
  obtain ⟨a, len, cap, rfl⟩ := okWide_slice Try.underlying22 hv
  have k0 := h
  have lt0 : ∀ x ∈ p, x.block < W.heap.size := by obtain ⟨m, hm⟩ := k0; exact DataW.trod_lt m _ _ _ hm
  obtain ⟨fuel, hf⟩ := h
  rcases open_ints Try.underlying22 Try.underlying5 (by kernel_rfl) hf with ⟨hcs, _⟩ | ⟨x, l, c, zs, hcs, _, hl, hm, hz, _, hcell, hwz⟩
  · simp [Value.cells] at hcs
    obtain ⟨rfl, rfl, rfl⟩ := hcs
    exact ⟨none, 0, 0, rfl, ⟨Nat.zero_le _, .inl rfl⟩, Nat.le_refl _⟩
  · simp [Value.cells] at hcs
    obtain ⟨rfl, rfl, rfl⟩ := hcs
    refine ⟨some x, len, cap, rfl, ⟨by omega, ?_⟩, hl⟩
    by_cases h0 : len = 0
    · exact .inl h0
    · have hzl : zs.length = cap := by simpa using hz
      have hc0 := hcell 0 (by omega)
      obtain ⟨b, off, spot⟩ := x
      have hspot : spot = none := by simpa [Addr.add] using World.cell?_spot hc0
      subst hspot
      refine .inr ⟨b, off, rfl, ?_, fun i hi => ?_⟩
      · exact block_lt_of_cell (a := (⟨b, off, none⟩ : Addr)) (by simpa [Addr.add] using hc0)
      · have hci := hcell i (by omega)
        have hw := hwz (zs.getD i 0) (by
          have e : zs.getD i 0 = zs[i]'(by omega) := by rw [List.getD_eq_getElem?_getD, List.getElem?_eq_getElem (by omega)]; rfl
          rw [e]; exact List.getElem_mem _)
        have hb := bounds_u8 hw
        obtain ⟨u, hu⟩ := Int.eq_ofNat_of_zero_le (show 0 ≤ zs.getD i 0 by omega)
        refine ⟨u, by omega, ?_⟩
        rw [hu] at hci
        have ha : (⟨b, off, none⟩ : Addr).add i = ⟨b, off + i, none⟩ := by unfold Addr.add; split <;> simp_all
        rw [← ha]
        exact hci

end

end Go.Proofs.Ytabioinmpjfflaa
