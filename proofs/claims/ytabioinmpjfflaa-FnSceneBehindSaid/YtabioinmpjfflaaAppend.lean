/-
  append of a whole slice of numbers. No conditions.
-/
import Derived.Test.YtabioinmpjfflaaInts
namespace Go.Proofs.Ytabioinmpjfflaa
set_option linter.all false
set_option linter.unusedSimpArgs false
set_option linter.unusedVariables false
set_option maxRecDepth 20000
open Go.ChangeShapes Go.WideShapes Go.ChangeAt Go.RowKit

theorem own_slice {w : World} {base : Nat} {e : TypeId} {sz n : Nat} {v : Value} {xs : List Value} (h : w.ownsRow base e sz v n xs) : ∃ A cap, v = .slice A n cap := by
  rcases h.2 with ⟨rfl, rfl⟩ | ⟨g, cap, cur, rfl, _⟩
  · exact ⟨_, _, rfl⟩
  · exact ⟨_, _, rfl⟩
theorem map_append {α : Type} (c : Nat → α) (k m : Nat) : (List.range k).map c ++ (List.range m).map (fun j => c (k + j)) = (List.range (k + m)).map c := by
  induction m with
  | zero => simp
  | succ m ih => rw [List.range_succ, List.map_append, ← List.append_assoc, ih, show k + (m + 1) = (k + m) + 1 by omega, List.range_succ, List.map_append]; rfl
/-- The slice that is appended lies where it is read; elements of sz cells. -/
theorem wpList_append_all {P : Program} {ops : Array Oper} {rest : List Oper} {o : Oper} {a : Act} {Q : Exit → Act → World → Prop} {w : World} {t e : TypeId} {z : Value} {sz bytes : Nat}
    (ht : P.underlying t = some (.slice e)) (hinfo : (P.info? e).map (fun i => (i.zero, i.size, i.bytes)) = some (some z, sz, bytes)) (hzs : z.cells.size = sz) (hsz : 0 < sz) (hby : bytes ≤ 1024)
    (hgd : o.guard = none) (s x : Operand) (ho : o.op = .call { callee := .builtin .append, args := #[s, x], argTypes := #[t, t] })
    (base k m cap cx b off : Nat) (A : Option Addr) (c : Nat → Value) (hs : a.eval s = .slice A k cap) (hx : a.eval x = .slice (some ⟨b, off, none⟩) m cx)
    (hown : w.ownsRow base e sz (.slice A k cap) k ((List.range (k * sz)).map c)) (hc : ∀ j, j < m * sz → w.cell? ⟨b, off + j, none⟩ = some (c (k * sz + j))) (h1 : ∀ j, j < m * sz → (c (k * sz + j)).oneCell' = true)
    (hk : k + m ≤ 1048576) (hbase : base ≤ w.heap.size)
    (h : ∀ A' cap' w', w'.ownsRow base e sz (.slice A' (k + m) cap') (k + m) ((List.range ((k + m) * sz)).map c) → Below base w w' → wpList P ops Q rest (a.put o.dst (.slice A' (k + m) cap')) w') :
    wpList P ops Q (o :: rest) a w := by
  obtain ⟨i, hi, hz, hsi, hbi⟩ := info_parts hinfo
  refine wpList_append_own w hgd s x t ho base e i z sz bytes ht hi hz hsi hbi hzs hsz _ k _ hs hown ⟨b, off, none⟩ m cx ((List.range (m * sz)).map fun j => c (k * sz + j)) hx (by simp) ?_ ?_ ?_ ?_ hbase ?_
  · intro j u hj
    rw [Addr.add_mid]
    have hl : j < m * sz := by
      have := (List.getElem?_eq_some_iff.1 hj).1
      simpa using this
    rw [map_get (c := fun j => c (k * sz + j)) hl] at hj
    injection hj with hj
    rw [hc j hl, hj]
  · intro u hu
    simp only [List.mem_map, List.mem_range] at hu
    obtain ⟨j, hj, rfl⟩ := hu
    exact h1 j hj
  · unfold maxLen; omega
  · have : (k + m) * bytes ≤ 1048576 * 1024 := Nat.mul_le_mul hk hby
    omega
  · intro v' w' hown' hg _
    rw [map_append c (k * sz) (m * sz), ← Nat.add_mul] at hown'
    obtain ⟨A', cap', rfl⟩ := own_slice hown'
    exact h A' cap' w' hown' ((Below.refl base w).grown hg hbase fun g' hg' => (hown.lt g' hg').1)
/-- The same where nothing was there before: a nil slice. -/
theorem own_nil (w : World) (base : Nat) (e : TypeId) (sz : Nat) (c : Nat → Value) : w.ownsRow base e sz (.slice none 0 0) 0 ((List.range (0 * sz)).map c) := by
  rw [Nat.zero_mul]
  exact World.ownsRow_nil w base e sz
end Go.Proofs.Ytabioinmpjfflaa
