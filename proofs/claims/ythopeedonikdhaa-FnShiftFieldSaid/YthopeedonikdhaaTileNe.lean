/-
  '==' and '!=' of a tile with itself, beside Tiles2 (the same as TileEq but for the names that Tiles2 has). No conditions.
-/
import Derived.Test.YthopeedonikdhaaTiles2
import Derived.ChangeKeysEq
import Derived.Laws.StructEq
namespace Go.Proofs.Ythopeedonikdhaa
set_option linter.all false
set_option linter.unusedSimpArgs false
set_option linter.unusedVariables false
open Go.ChangeShapes Go.WideShapes Go.ChangeAt Go.RowKit

theorem run_items_same {P : Program} (w : World) {e : TypeId} (hu : P.underlying e = some (.int .i64)) (hp : P.plainKey e = true) (d : Nat) (p : Nat → Int) : ∀ is : List Nat, (∀ i ∈ is, i < 64) → (Op.eqItems (d + 1) e 1 (tv p) (tv p) is).run P w = .ok true w
  | [], _ => by simp [Op.eqItems]
  | i :: is, h => by
    have hi : i < 64 := h i (List.mem_cons_self ..)
    have e1 := run_part_plain (P := P) w hp (tv_get p (i * 1) (by omega))
    simp [Op.eqItems, Sem.run_bind] at e1 ⊢
    simp [e1, Op.equalIn, run_underlying hu, run_items_same w hu hp d p is (fun j hj => h j (List.mem_cons_of_mem _ hj))]
theorem run_part_tile (w : World) (p : Nat → Int) : (part 43 (tv p) 0).run Try.prog w = .ok (.agg (tv p)) w := by
  obtain ⟨i, hi⟩ := info_of_underlying Try.underlying43
  have hc : Try.prog.cellsOf 43 = 64 := by kernel_rfl
  have hx : (tv p).extract 0 64 = tv p := by
    have := tv_size p
    rw [← this]; exact Array.extract_size
  simp [part, isAgg, run_underlying Try.underlying43, Sem.run_bind, run_sizeOf w hi, hc, hx]
theorem run_tileEq (w : World) (p : Nat → Int) : (Op.equal 45 (.agg (tv p)) (.agg (tv p))).run Try.prog w = .ok true w := by
  have hf : (Try.prog.fieldsOf 45).toList = [(Try.prog.fieldsOf 45)[0]!] := by kernel_rfl
  have hn : (Try.prog.fieldsOf 45)[0]!.name ≠ "_" := of_decide_eq_true (by kernel_rfl)
  have ht : (Try.prog.fieldsOf 45)[0]!.type = 43 := by kernel_rfl
  have ho : (Try.prog.fieldsOf 45)[0]!.offset = 0 := by kernel_rfl
  obtain ⟨i, hi⟩ := info_of_underlying Try.underlying3
  have hc : Try.prog.cellsOf 3 = 1 := by kernel_rfl
  have h2 : (Op.equalIn 9999 43 (.agg (tv p)) (.agg (tv p))).run Try.prog w = .ok true w := by
    rw [show (9999 : Nat) = 9998 + 1 from rfl, run_equalIn_array w 9998 (tv p) (tv p) Try.underlying43 hi, hc]
    exact run_items_same w Try.underlying3 (by kernel_rfl) 9997 p _ (fun i hi => List.mem_range.1 hi)
  show (Op.equalIn (9999 + 1) _ _ _).run Try.prog w = _
  rw [run_equalIn_struct w 9999 _ _ _ (by kernel_rfl) (by kernel_rfl), hf]
  simp only [Op.eqFields, ne_eq, hn, not_false_eq_true, if_true, ht, ho, Sem.run_bind, run_part_tile, Result.andThen_ok, h2, Bool.not_true, Bool.false_eq_true, if_false, Sem.run_pure]

section
variable {ops : Array Oper} {rest : List Oper} {o : Oper} {a : Act} {w : World} {Q : Exit → Act → World → Prop}

theorem wpList_eql_tile (hw : Region.wanted o (yielded ops a.tmps) = true) (x y : Operand) (ty' : TypeId) (ho : o.op = .binOp .eql 45 x y ty') (p q : Nat → Int) (hx : a.eval x = .agg (tv p)) (hy : a.eval y = .agg (tv q)) (hpq : tv q = tv p)
    (h : wpList Try.prog ops Q rest (a.put o.dst (.bool true)) w) : wpList Try.prog ops Q (o :: rest) a w := by
  have hr : (execOp a.eval o).run Try.prog w = .ok (.value (.bool true)) w := by
    unfold execOp
    rw [ho]
    simp [Sem.run_bind, hx, hy, hpq, run_eqGuard_agg (P := Try.prog) w .eql 45 x y (tv p) (tv p) (by kernel_rfl), binOp, run_tileEq]
  unfold wpList
  rw [if_pos hw]
  refine .inl ?_
  unfold Oper.wp
  rw [hr]
  exact h

theorem wpList_neq_tile (hw : Region.wanted o (yielded ops a.tmps) = true) (x y : Operand) (ty' : TypeId) (ho : o.op = .binOp .neq 45 x y ty') (p q : Nat → Int) (hx : a.eval x = .agg (tv p)) (hy : a.eval y = .agg (tv q)) (hpq : tv q = tv p)
    (h : wpList Try.prog ops Q rest (a.put o.dst (.bool false)) w) : wpList Try.prog ops Q (o :: rest) a w := by
  have hr : (execOp a.eval o).run Try.prog w = .ok (.value (.bool false)) w := by
    unfold execOp
    rw [ho]
    simp [Sem.run_bind, hx, hy, hpq, run_eqGuard_agg (P := Try.prog) w .neq 45 x y (tv p) (tv p) (by kernel_rfl), binOp, run_tileEq]
  unfold wpList
  rw [if_pos hw]
  refine .inl ?_
  unfold Oper.wp
  rw [hr]
  exact h

end

/-! ### In a region that draws its order -/
section
variable {ops : Array Oper} {rest : List Oper} {o : Oper} {a : Act} {W : World} {Q : Act → Prop}
theorem atQBinOp {C : World → Prop} {dst : Option Tmp} {b : BinOp} {ty ty' ot : TypeId} {x y : Operand} {pos : String} {after : Array Edge} {gd : Option (Nat × Bool)} (h : wpQuiet Try.prog ops C Q (⟨dst, .binOp b ty x y ty', ot, pos, after, gd⟩ :: rest) a) : wpQuiet Try.prog ops C Q (⟨dst, .binOp b ty x y ty', ot, pos, after, gd⟩ :: rest) a := h

theorem wpQuiet_eql_tile {C : World → Prop} (hw : Region.wanted o (yielded ops a.tmps) = true) (x y : Operand) (ty' : TypeId) (ho : o.op = .binOp .eql 45 x y ty') (p q : Nat → Int) (hx : a.eval x = .agg (tv p)) (hy : a.eval y = .agg (tv q)) (hpq : tv q = tv p)
    (h : wpQuiet Try.prog ops C Q rest (a.put o.dst (.bool true))) : wpQuiet Try.prog ops C Q (o :: rest) a :=
  BigFrame.wpQuiet_want hw fun K hK => ⟨.bool true, fun w _ => by
    unfold Oper.quietAt execOp
    rw [ho]
    simp [Sem.run_bind, hx, hy, hpq, run_eqGuard_agg (P := Try.prog) w .eql 45 x y (tv p) (tv p) (by kernel_rfl), binOp, run_tileEq, Oper.quietUpon], hK _ h⟩

theorem wpQuiet_neq_tile {C : World → Prop} (hw : Region.wanted o (yielded ops a.tmps) = true) (x y : Operand) (ty' : TypeId) (ho : o.op = .binOp .neq 45 x y ty') (p q : Nat → Int) (hx : a.eval x = .agg (tv p)) (hy : a.eval y = .agg (tv q)) (hpq : tv q = tv p)
    (h : wpQuiet Try.prog ops C Q rest (a.put o.dst (.bool false))) : wpQuiet Try.prog ops C Q (o :: rest) a :=
  BigFrame.wpQuiet_want hw fun K hK => ⟨.bool false, fun w _ => by
    unfold Oper.quietAt execOp
    rw [ho]
    simp [Sem.run_bind, hx, hy, hpq, run_eqGuard_agg (P := Try.prog) w .neq 45 x y (tv p) (tv p) (by kernel_rfl), binOp, run_tileEq, Oper.quietUpon], hK _ h⟩

end

end Go.Proofs.Ythopeedonikdhaa
