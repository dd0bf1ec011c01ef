/-
  A longer table is laid out: appends inside a region that draws its order. No conditions.
-/
import Derived.Test.YthopeedonikdhaaTyped3
import Derived.Test.YthopeedonikdhaaFieldShift3
import Derived.Test.YthopeedonikdhaaFieldLaw
import Derived.Test.YthopeedonikdhaaAppend
import Derived.Maps.AppendAt
namespace Go.Proofs.Ythopeedonikdhaa
set_option linter.all false
set_option linter.unusedSimpArgs false
set_option linter.unusedVariables false
open Go.ChangeShapes Go.WideShapes Go.ChangeAt Go.RowKit

/-- append to a row of the call's own, at the operation. -/
theorem oper_append_own {P : Program} {u : World} {t e : TypeId} {z : Value} {sz bytes : Nat} {o : Oper} {a : Act} {s x : Operand} {K : Act → World → Prop} {Q : Exit → Act → World → Prop}
    (ho : o.op = .call { callee := .builtin .append, args := #[s, x], argTypes := #[t, t] }) (ht : P.underlying t = some (.slice e))
    (hinfo : (P.info? e).map (fun i => (i.zero, i.size, i.bytes)) = some (some z, sz, bytes)) (hzs : z.cells.size = sz) (hsz : 0 < sz) (hby : bytes ≤ 1024)
    (base k m cap cx b off : Nat) (A : Option Addr) (c : Nat → Value) (hs : a.eval s = .slice A k cap) (hx : a.eval x = .slice (some ⟨b, off, none⟩) m cx)
    (hown : u.ownsRow base e sz (.slice A k cap) k ((List.range (k * sz)).map c)) (hc : ∀ j, j < m * sz → u.cell? ⟨b, off + j, none⟩ = some (c (k * sz + j))) (h1 : ∀ j, j < m * sz → (c (k * sz + j)).oneCell' = true)
    (hk : k + m ≤ 1048576) (hbase : base ≤ u.heap.size)
    (h : ∀ A' cap' u', u'.ownsRow base e sz (.slice A' (k + m) cap') (k + m) ((List.range ((k + m) * sz)).map c) → Below base u u' → K (a.put o.dst (.slice A' (k + m) cap')) u') : o.wp P a u K Q := by
  obtain ⟨i, hi, hz, hsi, hbi⟩ := info_parts hinfo
  have hnews : ∀ j v, ((List.range (m * sz)).map fun j => c (k * sz + j))[j]? = some v → u.cell? ((⟨b, off, none⟩ : Addr).add j) = some v := by
    intro j v hj
    rw [Addr.add_mid]
    have hl : j < m * sz := by
      have := (List.getElem?_eq_some_iff.1 hj).1
      simpa using this
    rw [map_get (c := fun j => c (k * sz + j)) hl] at hj
    injection hj with hj
    rw [hc j hl, hj]
  have hone : ∀ v ∈ (List.range (m * sz)).map (fun j => c (k * sz + j)), v.oneCell' = true := by
    intro v hv
    simp only [List.mem_map, List.mem_range] at hv
    obtain ⟨j, hj, rfl⟩ := hv
    exact h1 j hj
  have hbytes : (k + m) * bytes ≤ 1048576 * 1024 := Nat.mul_le_mul hk hby
  obtain ⟨v', w', hr, h2, h3, _, _⟩ := run_append_own_at (P := P) u base t o.type e i z sz bytes ht hi hz hsi hbi hzs hsz _ k _ hown ⟨b, off, none⟩ m cx _ (by simp) hnews hone (by unfold maxLen; omega) (by omega) hbase
  rw [map_append c (k * sz) (m * sz), ← Nat.add_mul] at h2
  obtain ⟨A', cap', rfl⟩ := own_slice h2
  unfold Oper.wp execOp
  simp only [ho, resolve, invoke, builtin, Sem.run_bind, Sem.run_pure, Result.andThen_ok, List.map_toArray, List.map_cons, List.map_nil, hs, hx, hr]
  exact h A' cap' w' h2 ((Below.refl base u).grown h3 hbase fun g' hg' => (hown.lt g' hg').1)

/-- append of nothing. -/
theorem oper_append_none {P : Program} {u : World} {t e : TypeId} {z : Value} {sz bytes : Nat} {o : Oper} {a : Act} {s x : Operand} {K : Act → World → Prop} {Q : Exit → Act → World → Prop}
    (ho : o.op = .call { callee := .builtin .append, args := #[s, x], argTypes := #[t, t] }) (ht : P.underlying t = some (.slice e))
    (hinfo : (P.info? e).map (fun i => (i.zero, i.size, i.bytes)) = some (some z, sz, bytes))
    (b cap cx : Nat) (X : Addr) (hs : a.eval s = .slice (some ⟨b, 0, none⟩) 0 cap) (hx : a.eval x = .slice (some X) 0 cx)
    (h : K (a.put o.dst (.slice (some ⟨b, 0, none⟩) 0 cap)) u) : o.wp P a u K Q := by
  obtain ⟨i, hi, hz, hsi, hbi⟩ := info_parts hinfo
  have hr : (Builtin.append_ #[t, t] o.type #[.slice (some ⟨b, 0, none⟩) 0 cap, .slice (some X) 0 cx]).run P u = .ok (.slice (some ⟨b, 0, none⟩) 0 cap) u := by
    simp [Builtin.append_, run_underlying ht, sizeOf, typeInfo, hi, Builtin.lenOf, Builtin.firstCells, loadCells, loadCellsFrom, storeCells]
  unfold Oper.wp execOp
  simp only [ho, resolve, invoke, builtin, Sem.run_bind, Sem.run_pure, Result.andThen_ok, List.map_toArray, List.map_cons, List.map_nil, hs, hx, hr]
  exact h

theorem RS.cellsAt {w : World} {B sz b off n : Nat} {c : Nat → Value} (h : RS w B sz (some ⟨b, off, none⟩) n c) : ∀ j, j < n * sz → w.cell? ⟨b, off + j, none⟩ = some (c j) := fun j hj => by
  rcases h with h | ⟨b', off', e, _, hc⟩
  · subst h; omega
  · injection e with e
    injection e with e1 e2
    subst e1 e2
    exact hc j hj
/-- What holds while the longer table is laid out: the empty literal in slot 27, the first part in 31, the last number in 35, the whole in 36; at last it is stored. -/
structure C12 (W0 : World) (base z n : Nat) (m : Int) (c : Nat → Value) (L : Nat → Bool) (_ : Nat) (a : Act) (u : World) : Prop where
  below : L 11 = false → Below base W0 u
  r27 : L 0 = true → L 4 = false → ∃ b, a.tmps.getD 27 undef = .slice (some ⟨b, 0, none⟩) 0 0 ∧ u.ownsRow base 3 1 (.slice (some ⟨b, 0, none⟩) 0 0) 0 []
  r31 : L 4 = true → L 9 = false → ∃ A' c', a.tmps.getD 31 undef = .slice A' (n - 1) c' ∧ u.ownsRow base 3 1 (.slice A' (n - 1) c') (n - 1) ((List.range ((n - 1) * 1)).map c)
  r35 : L 8 = true → L 9 = false → ∃ b, a.tmps.getD 35 undef = .slice (some ⟨b, 0, none⟩) 1 1 ∧ u.cell? ⟨b, 0, none⟩ = some (.int .i64 m)
  r36 : L 9 = true → L 11 = false → ∃ A' c', a.tmps.getD 36 undef = .slice A' n c' ∧ u.ownsRow base 3 1 (.slice A' n c') n ((List.range (n * 1)).map c)
  fin : L 11 = true → ∃ A' c' u1, u = u1.setCell ⟨z, 1, none⟩ (.slice A' n c') ∧ Below base W0 u1 ∧ u1.ownsRow base 3 1 (.slice A' n c') n ((List.range (n * 1)).map c)
section
variable {W0 u : World} {base z n k : Nat} {m : Int} {c : Nat → Value} {L : Nat → Bool} {a : Act}
theorem C12.keep (h : C12 W0 base z n m c L k a u) {i : Nat} (hi : i ≠ 0 ∧ i ≠ 4 ∧ i ≠ 8 ∧ i ≠ 9 ∧ i ≠ 11) {dst : Option Nat} (hd : dst ≠ some 27 ∧ dst ≠ some 31 ∧ dst ≠ some 35 ∧ dst ≠ some 36) (v : Value) (k' : Nat) : C12 W0 base z n m c (updL L i) k' (a.put dst v) u := by
  obtain ⟨h1, h2, h3, h4, h5, h6⟩ := h
  obtain ⟨i0, i4, i8, i9, i11⟩ := hi
  obtain ⟨d1, d2, d3, d4⟩ := hd
  refine ⟨?_, ?_, ?_, ?_, ?_, ?_⟩
  · rw [updL_ne (Ne.symm i11)]; exact h1
  · rw [updL_ne (Ne.symm i0), updL_ne (Ne.symm i4), put_other d1]; exact h2
  · rw [updL_ne (Ne.symm i4), updL_ne (Ne.symm i9), put_other d2]; exact h3
  · rw [updL_ne (Ne.symm i8), updL_ne (Ne.symm i9), put_other d3]; exact h4
  · rw [updL_ne (Ne.symm i9), updL_ne (Ne.symm i11), put_other d4]; exact h5
  · rw [updL_ne (Ne.symm i11)]; exact h6
/-- The empty literal is made. -/
theorem C12.lit0 (h : C12 W0 base z n m c L k a u) (hz : base ≤ W0.heap.size) (hl : L 11 = false) (hs : a.tmps.size = 51) (k' : Nat) : C12 W0 base z n m c (updL L 0) k' (a.put (some 27) (.slice (some ⟨u.heap.size, 0, none⟩) 0 0)) (u.alloc (.cells #[] 3)) := by
  obtain ⟨h1, h2, h3, h4, h5, h6⟩ := h
  have hb := h1 hl
  refine ⟨fun _ => hb.alloc (Nat.le_trans hz hb.size) _, ?_, ?_, ?_, ?_, ?_⟩
  · intro _ _
    exact ⟨_, put_get (by omega), own_empty u _ _ _ (Nat.le_trans hz hb.size)⟩
  · rw [updL_ne (by decide), updL_ne (by decide), put_other (by decide)]
    intro e1 e2
    obtain ⟨A', c', e, o⟩ := h3 e1 e2
    exact ⟨A', c', e, o.alloc _⟩
  · rw [updL_ne (by decide), updL_ne (by decide), put_other (by decide)]
    intro e1 e2
    obtain ⟨b, e, o⟩ := h4 e1 e2
    exact ⟨b, e, (World.cell?_alloc_lt u _ ⟨b, 0, none⟩ (block_lt_of_cell o)).trans o⟩
  · rw [updL_ne (by decide), updL_ne (by decide), put_other (by decide)]
    intro e1 e2
    obtain ⟨A', c', e, o⟩ := h5 e1 e2
    exact ⟨A', c', e, o.alloc _⟩
  · rw [updL_ne (by decide), hl]
    intro e; cases e
/-- The last number is laid out. -/
theorem C12.lit8 (h : C12 W0 base z n m c L k a u) (hz : base ≤ W0.heap.size) (hl : L 11 = false) (hs : a.tmps.size = 51) (k' : Nat) : C12 W0 base z n m c (updL L 8) k' (a.put (some 35) (.slice (some ⟨u.heap.size, 0, none⟩) 1 1)) (u.alloc (.cells #[.int .i64 m] 3)) := by
  obtain ⟨h1, h2, h3, h4, h5, h6⟩ := h
  have hb := h1 hl
  refine ⟨fun _ => hb.alloc (Nat.le_trans hz hb.size) _, ?_, ?_, ?_, ?_, ?_⟩
  · rw [updL_ne (by decide), updL_ne (by decide), put_other (by decide)]
    intro e1 e2
    obtain ⟨b, e, o⟩ := h2 e1 e2
    exact ⟨b, e, o.alloc _⟩
  · rw [updL_ne (by decide), updL_ne (by decide), put_other (by decide)]
    intro e1 e2
    obtain ⟨A', c', e, o⟩ := h3 e1 e2
    exact ⟨A', c', e, o.alloc _⟩
  · intro _ _
    exact ⟨_, put_get (by omega), by simpa using cell_one_new u (.int .i64 m) 3 0 _ rfl⟩
  · rw [updL_ne (by decide), updL_ne (by decide), put_other (by decide)]
    intro e1 e2
    obtain ⟨A', c', e, o⟩ := h5 e1 e2
    exact ⟨A', c', e, o.alloc _⟩
  · rw [updL_ne (by decide), hl]
    intro e; cases e
/-- The first part is there: in this world, or in one with another block. -/
theorem C12.app4 (h : C12 W0 base z n m c L k a u) (hz : base ≤ W0.heap.size) (hl : L 11 = false) (h9 : L 9 = false) (hs : a.tmps.size = 51) (A' : Option Addr) (c' : Nat) (u' : World) (hu : u' = u ∨ ∃ ob, u' = u.drew.alloc ob)
    (hown : u'.ownsRow base 3 1 (.slice A' (n - 1) c') (n - 1) ((List.range ((n - 1) * 1)).map c)) (k' : Nat) : C12 W0 base z n m c (updL L 4) k' (a.put (some 31) (.slice A' (n - 1) c')) u' := by
  obtain ⟨h1, h2, h3, h4, h5, h6⟩ := h
  have hb := h1 hl
  refine ⟨fun _ => ?_, ?_, ?_, ?_, ?_, ?_⟩
  · rcases hu with rfl | ⟨ob, rfl⟩
    · exact hb
    · exact hb.drew.alloc (Nat.le_trans hz hb.size) _
  · rw [updL_eq]
    intro _ e; cases e
  · intro _ _
    exact ⟨_, _, put_get (by omega), hown⟩
  · rw [updL_ne (by decide), updL_ne (by decide), put_other (by decide)]
    intro e1 e2
    obtain ⟨b, e, o⟩ := h4 e1 e2
    refine ⟨b, e, ?_⟩
    rcases hu with rfl | ⟨ob, rfl⟩
    · exact o
    · exact (World.cell?_alloc_lt u.drew _ ⟨b, 0, none⟩ (block_lt_of_cell o)).trans o
  · rw [updL_ne (by decide), h9]
    intro e; cases e
  · rw [updL_ne (by decide), hl]
    intro e; cases e
/-- The whole is there. -/
theorem C12.app9 (h : C12 W0 base z n m c L k a u) (hz : base ≤ W0.heap.size) (hl : L 11 = false) (h4 : L 4 = true) (hs : a.tmps.size = 51) (A' : Option Addr) (c' : Nat) (u' : World) (hu : Below base u u')
    (hown : u'.ownsRow base 3 1 (.slice A' n c') n ((List.range (n * 1)).map c)) (k' : Nat) : C12 W0 base z n m c (updL L 9) k' (a.put (some 36) (.slice A' n c')) u' := by
  have hb := h.below hl
  clear hz
  refine ⟨fun _ => hb.trans hu, ?_, ?_, ?_, ?_, ?_⟩
  · rw [updL_ne (i := 9) (j := 4) (by decide), h4]
    intro _ e; cases e
  · rw [updL_eq]
    intro _ e; cases e
  · rw [updL_eq]
    intro _ e; cases e
  · intro _ _
    exact ⟨_, _, put_get (by omega), hown⟩
  · rw [updL_ne (by decide), hl]
    intro e; cases e
/-- It is stored. -/
theorem C12.last (h : C12 W0 base z n m c L k a u) (hz : base ≤ W0.heap.size) (hl : L 11 = false) (h4 : L 4 = true) (h9 : L 9 = true) (A' : Option Addr) (c' : Nat) (he : a.tmps.getD 36 undef = .slice A' n c') (k' : Nat) : C12 W0 base z n m c (updL L 11) k' a (u.setCell ⟨z, 1, none⟩ (.slice A' n c')) := by
  have hb := h.below hl
  clear hz
  obtain ⟨A2, c2, e2, o2⟩ := h.r36 h9 hl
  rw [e2] at he
  injection he with e3 e4 e5
  subst e3 e5
  refine ⟨?_, ?_, ?_, ?_, ?_, ?_⟩
  · rw [updL_eq]
    intro e; cases e
  · rw [updL_ne (i := 11) (j := 4) (by decide), h4]
    intro _ e; cases e
  · rw [updL_ne (i := 11) (j := 9) (by decide), h9]
    intro _ e; cases e
  · rw [updL_ne (i := 11) (j := 9) (by decide), h9]
    intro _ e; cases e
  · rw [updL_eq]
    intro _ e; cases e
  · intro _
    exact ⟨_, _, _, rfl, hb, o2⟩
end
end Go.Proofs.Ythopeedonikdhaa
