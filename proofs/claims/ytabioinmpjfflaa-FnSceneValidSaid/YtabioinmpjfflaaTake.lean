/-
  A region that draws its order, step by step, where some operations are passed over by their guard. No conditions.
-/
import Derived.Deep.RegionHeld3
import Derived.Test.YtabioinmpjfflaaBase
namespace Go.Proofs.Ytabioinmpjfflaa
set_option linter.all false
set_option linter.unusedSimpArgs false
set_option linter.unusedVariables false
set_option maxRecDepth 20000
open Go.ChangeShapes Go.WideShapes Go.ChangeAt Go.RowKit

section
variable {P : Program} {ops : Array Oper} {Q : Exit → Act → World → Prop} {md : Region.Mode} {S : World → Prop}
theorem ready_some {i : Nat} {listed : Array Bool} (hr : (Region.ready md ops listed).contains i = true) : ∃ oi, ops[i]? = some oi := by
  obtain ⟨_, o, ho, _⟩ := mem_ready.1 (show i ∈ Region.ready md ops listed by simpa using hr)
  exact ⟨o, ho⟩
/-- It is taken first: it only reads, and its guard wants it. -/
theorem take_yes {i d : Nat} {v : Value} {fuel : Nat} {listed : Array Bool} {a : Act} {w : World}
    (hs : Region.noSelect ops = true) (hf : Region.free md ops listed i = true) (hr : (Region.ready md ops listed).contains i = true)
    (hQ : ∀ c a w, Q (.panic c) (a.put (some d) v) w → Q (.panic c) a w)
    (hy : ∀ oi, ops[i]? = some oi → oi.dst = some d ∧ Region.wanted oi (yielded ops a.tmps) = true ∧ ∀ w, S w → (execOp a.eval oi).run P w = .ok (.value v) w) (hS : S w)
    (h : wpAnyH P md ops Q S fuel (listed.setIfInBounds i true) (a.put (some d) v) w) : wpAnyH P md ops Q S (fuel + 1) listed a w := by
  obtain ⟨oi, hi⟩ := ready_some hr
  obtain ⟨hd, hw, hv⟩ := hy oi hi
  exact wpAnyH_take hi hs hf hr (by rw [hd]; exact hQ) (Or.inl ⟨hw, hv⟩) hS (by rw [hd]; exact h)
/-- It is taken first: its guard passes it over. -/
theorem take_no {i d : Nat} {fuel : Nat} {listed : Array Bool} {a : Act} {w : World}
    (hs : Region.noSelect ops = true) (hf : Region.free md ops listed i = true) (hr : (Region.ready md ops listed).contains i = true)
    (hQ : ∀ c a w, Q (.panic c) (a.put (some d) undef) w → Q (.panic c) a w)
    (hy : ∀ oi, ops[i]? = some oi → oi.dst = some d ∧ Region.wanted oi (yielded ops a.tmps) = false) (hS : S w)
    (h : wpAnyH P md ops Q S fuel (listed.setIfInBounds i true) (a.put (some d) undef) w) : wpAnyH P md ops Q S (fuel + 1) listed a w := by
  obtain ⟨oi, hi⟩ := ready_some hr
  obtain ⟨hd, hw⟩ := hy oi hi
  exact wpAnyH_take hi hs hf hr (by rw [hd]; exact hQ) (Or.inr ⟨hw, rfl⟩) hS (by rw [hd]; exact h)
/-- It alone may come up, and its guard wants it. -/
theorem take_run {i : Nat} {fuel : Nat} {listed : Array Bool} {a : Act} {w : World} (hr : Region.ready md ops listed = [i])
    (h : ∀ oi, ops[i]? = some oi → Region.wanted oi (yielded ops a.tmps) = true ∧ ∀ K : Act → World → Prop, Hid (∀ a' w', S w' → (S w' → wpAnyH P md ops Q S fuel (listed.setIfInBounds i true) a' w') → K a' w') → Oper.wp P oi a w K Q) : wpAnyH P md ops Q S (fuel + 1) listed a w := by
  refine wpAnyH_all hr (by simp) fun j hj => ?_
  obtain rfl : j = i := by simpa using hj
  obtain ⟨oi, hi⟩ := ready_some (md := md) (ops := ops) (listed := listed) (i := j) (by rw [hr]; simp)
  obtain ⟨hw, hk⟩ := h oi hi
  unfold wpOp
  simp only [hi]
  rw [if_pos hw]
  exact .inl (hk _ (Lib.hid fun a' w' h1 h2 => ⟨h1, h2 h1⟩))
end
end Go.Proofs.Ytabioinmpjfflaa
