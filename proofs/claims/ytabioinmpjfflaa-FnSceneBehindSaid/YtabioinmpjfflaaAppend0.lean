/-
  append of one number to a row of the call's own, or to an empty list that was written out. No conditions.
-/
import Derived.Test.YtabioinmpjfflaaAppend
namespace Go.Proofs.Ytabioinmpjfflaa
set_option linter.all false
set_option linter.unusedSimpArgs false
set_option linter.unusedVariables false
set_option maxRecDepth 20000
open Go.ChangeShapes Go.WideShapes Go.ChangeAt Go.RowKit

/-- A row of the call's own, or an empty list. -/
def Own0 (w : World) (base : Nat) (e : TypeId) (A : Option Addr) (n cap : Nat) (c : Nat → Value) : Prop :=
  w.ownsRow base e 1 (.slice A n cap) n ((List.range n).map c) ∨ (n = 0 ∧ cap = 0 ∧ ∃ g, A = some ⟨g, 0, none⟩)
theorem Own0.below {w w' : World} {base B : Nat} {e : TypeId} {A : Option Addr} {n cap : Nat} {c : Nat → Value} (h : Own0 w base e A n cap c) (hb : Below B w w') (hB : w.heap.size ≤ B) : Own0 w' base e A n cap c := by
  rcases h with h | h
  · exact .inl (own_below h hb hB)
  · exact .inr h
theorem wpList_append_one0 {P : Program} {ops : Array Oper} {rest : List Oper} {o : Oper} {a : Act} {Q : Exit → Act → World → Prop} {w0 : World} {u : Value} {t e : TypeId} {z : Value} {bytes : Nat}
    (ht : P.underlying t = some (.slice e)) (hinfo : (P.info? e).map (fun i => (i.zero, i.size, i.bytes)) = some (some z, 1, bytes)) (hzs : z.cells.size = 1) (hby : bytes ≤ 1024)
    (hgd : o.guard = none) (s x : Operand) (ho : o.op = .call { callee := .builtin .append, args := #[s, x], argTypes := #[t, t] })
    (base k cap : Nat) (A : Option Addr) (c : Nat → Value) (hs : a.eval s = .slice A k cap) (hx : a.eval x = .slice (some ⟨w0.heap.size, 0, none⟩) 1 1)
    (hown : Own0 w0 base e A k cap c) (hu : u = c k) (h1 : u.oneCell' = true)
    (hk : k ≤ 1048576) (hbase : base ≤ w0.heap.size)
    (h : ∀ A' cap' w', w'.ownsRow base e 1 (.slice A' (k + 1) cap') (k + 1) ((List.range (k + 1)).map c) → Below base w0 w' → wpList P ops Q rest (a.put o.dst (.slice A' (k + 1) cap')) w') :
    wpList P ops Q (o :: rest) a (w0.alloc (.cells #[u] e)) := by
  rcases hown with hown | ⟨rfl, rfl, g, rfl⟩
  · exact wpList_append_one ht hinfo hzs hby hgd s x ho base k cap A c hs hx hown hu h1 hk hbase h
  · obtain ⟨i, hi, hz, hsi, hbi⟩ := info_parts hinfo
    have hr := run_append_grow (P := P) (w0.alloc (.cells #[u] e)) t o.type e i z ht hi hz ⟨g, 0, none⟩ 0 0 [] (by simp) (by simp) ⟨w0.heap.size, 0, none⟩ 1 1 [u] (by simp [hsi])
      (fun j v hj => by
        have hj0 : j = 0 := by
          have := (List.getElem?_eq_some_iff.1 hj).1
          simpa using this
        subst hj0
        rw [Addr.add_mid, Nat.zero_add, cell_of_row _ _ _ #[u] e (0, 0) (heap_alloc_new w0 _)]
        simpa using hj) (by omega) (by omega) (growslice_fits (by omega) (by rw [hbi]; omega))
    refine wpList_plain hgd fun _ hK => ?_
    unfold Oper.wp execOp
    simp only [ho, resolve, invoke, builtin, Sem.run_bind, Sem.run_pure, Result.andThen_ok, List.map_toArray, List.map_cons, List.map_nil, hs, hx, hr]
    refine hK _ _ (h _ _ _ ?_ ?_)
    · have hge := grownCap_ge (w0.alloc (.cells #[u] e)) (0 + 1) 0 e
      have hcm : grownCap (w0.alloc (.cells #[u] e)) (0 + 1) 0 e ≤ maxLen := grownCap_le_maxLen _ _ _ _ (by unfold maxLen; omega)
      refine ⟨by simp, .inr ⟨_, _, _, rfl, ?_, heap_alloc_new (w0.alloc (.cells #[u] e)).drew _, hge, hcm, ?_, ?_⟩⟩
      · simp; omega
      · simp only [Array.size_append, List.size_toArray, size_zeroCells, hzs, List.length_nil, List.length_cons, Nat.mul_one]
        omega
      · simp [hu, List.range_succ]
    · exact (((Below.refl base w0).alloc hbase _).drew).alloc (by simp; omega) _
end Go.Proofs.Ytabioinmpjfflaa
