/-
  A tile's 64 cells, told by a function: loads, stores, boxes and comparisons of a whole tile. No conditions.
-/
import Derived.Test.YtabioinmpjfflaaRd
import Derived.Deep.MidRow
namespace Go.Proofs.Ytabioinmpjfflaa
set_option linter.all false
set_option linter.unusedSimpArgs false
set_option linter.unusedVariables false
set_option maxRecDepth 20000
open Go.ChangeShapes Go.WideShapes Go.ChangeAt Go.RowKit

/-- The 64 cells of a tile whose pixels are p. -/
def tv (p : Nat → Int) : Array Value := ((List.range 64).map fun i => Value.int .i64 (p i)).toArray
theorem tv_size (p : Nat → Int) : (tv p).size = 64 := by simp [tv]
theorem tv_get (p : Nat → Int) (i : Nat) (h : i < 64) : (tv p)[i]? = some (.int .i64 (p i)) := by simp [tv, h]
theorem tv_congr {p q : Nat → Int} (h : ∀ i, i < 64 → p i = q i) : tv p = tv q := by
  unfold tv; congr 1; exact List.map_congr_left fun i hi => by rw [h i (by simpa using hi)]
def upd (p : Nat → Int) (k : Nat) (v : Int) : Nat → Int := fun i => if i = k then v else p i
theorem tv_set (p : Nat → Int) (k : Nat) (v : Int) : (tv p).setIfInBounds k (.int .i64 v) = tv (upd p k v) := by
  apply Array.ext_getElem?
  intro i
  rw [Array.getElem?_setIfInBounds]
  by_cases hi : i < 64
  · rw [tv_get _ _ hi, tv_size]
    by_cases e : k = i
    · subst e; rw [tv_get _ _ hi]; simp [hi, upd]
    · rw [if_neg e, tv_get _ _ hi]; simp [upd, Ne.symm e]
  · have h1 : (tv p)[i]? = none := Array.getElem?_eq_none (by rw [tv_size]; omega)
    have h2 : (tv (upd p k v))[i]? = none := Array.getElem?_eq_none (by rw [tv_size]; omega)
    rw [h1, h2, tv_size]
    split
    · split
      · omega
      · rfl
    · rfl
theorem tv_one (p : Nat → Int) : (tv p).all (·.oneCell') = true := by
  rw [Array.all_eq_true_iff_forall_mem]
  intro v hv
  simp only [tv, List.mem_toArray, List.mem_map] at hv
  obtain ⟨i, _, rfl⟩ := hv
  rfl
def zeroT : Nat → Int := fun _ => 0

/-- Block g is a tile of pixels p (t: the type that its block bears). -/
def TB (w : World) (g : Nat) (t : TypeId) (p : Nat → Int) : Prop := w.heap[g]? = some (.cells (tv p) t (0, 0))
section
variable {w w' : World} {g B : Nat} {t : TypeId} {p : Nat → Int}
theorem TB.lt (h : TB w g t p) : g < w.heap.size := by
  rcases Nat.lt_or_ge g w.heap.size with hlt | hge
  · exact hlt
  · unfold TB at h; rw [Array.getElem?_eq_none hge] at h; cases h
theorem TB.new (w : World) (t : TypeId) (p : Nat → Int) : TB (w.alloc (.cells (tv p) t)) w.heap.size t p := heap_alloc_new w _
theorem TB.new1 (w : World) (o : Obj) (t : TypeId) (p : Nat → Int) : TB ((w.alloc o).alloc (.cells (tv p) t)) (w.heap.size + 1) t p := by
  have := TB.new (w.alloc o) t p
  rwa [World.size_alloc] at this
theorem TB.new2 (w : World) (o o' : Obj) (t : TypeId) (p : Nat → Int) : TB (((w.alloc o).alloc o').alloc (.cells (tv p) t)) (w.heap.size + 1 + 1) t p := by
  have := TB.new1 (w.alloc o) o' t p
  rwa [World.size_alloc] at this
theorem TB.alloc (h : TB w g t p) (o : Obj) : TB (w.alloc o) g t p := (Below.heap_alloc w o g h.lt).trans h
theorem TB.drew (h : TB w g t p) : TB w.drew g t p := h
theorem TB.drewN (h : TB w g t p) (n : Nat) : TB (w.drewN n) g t p := h
theorem TB.far (h : TB w g t p) {a : Addr} (ha : g ≠ a.block) (v : Value) : TB (w.setCell a v) g t p := (Below.heap_setCell w a v g ha).trans h
theorem TB.farRow (h : TB w g t p) {g' : Nat} (hg : g ≠ g') (cs : Array Value) : TB (w.setRow g' cs) g t p := (setRow_other w g' g cs hg).trans h
theorem TB.put (h : TB w g t p) (k : Nat) (v : Int) : TB (w.setCell ⟨g, k, none⟩ (.int .i64 v)) g t (upd p k v) := by
  unfold TB at h ⊢
  simp [World.setCell, Array.getElem?_modify, h, tv_set]
theorem TB.row (h : TB w g t p) (q : Nat → Int) : TB (w.setRow g (tv q)) g t q := setRow_heap w g _ _ _ _ h
theorem TB.below (h : TB w g t p) (hb : Below B w w') (hg : g < B) : TB w' g t p := (hb.block g hg).trans h
theorem TB.only (h : TB w g t p) {R : Nat} (hb : Only R w w') (hg : g ≠ R) : TB w' g t p := (hb.block g h.lt (by intro e; injection e; omega)).trans h
theorem TB.cell (h : TB w g t p) (k : Nat) (hk : k < 64) : w.cell? ⟨g, k, none⟩ = some (.int .i64 (p k)) := by
  rw [cell_of_row w g k _ _ _ h, tv_get p k hk]
theorem TB.frozen (h : TB w g t p) (k : Nat) : w.frozen? ⟨g, k, none⟩ = false := frozen_of_row w g k _ _ h
theorem TB.congr (h : TB w g t p) {q : Nat → Int} (e : ∀ i, i < 64 → p i = q i) : TB w g t q := by
  unfold TB at h ⊢; rw [h, tv_congr e]
end
theorem setRow_new (w : World) (t : TypeId) (cs cs' : Array Value) : (w.alloc (.cells cs t)).setRow w.heap.size cs' = w.alloc (.cells cs' t) := by
  unfold World.setRow World.alloc
  congr 1
  apply Array.ext_getElem?
  intro i
  rw [Array.getElem?_modify, Array.getElem?_push, Array.getElem?_push]
  by_cases e : i = w.heap.size
  · subst e; simp
  · have e' : ¬ w.heap.size = i := fun x => e x.symm
    simp [e, e']
theorem below_setRow {B : Nat} {a w : World} (h : Below B a w) {g : Nat} (hg : B ≤ g) (cs : Array Value) : Below B a (w.setRow g cs) :=
  h.trans ⟨rfl, rfl, rfl, by simp, fun k hk => setRow_other w g k cs (by omega)⟩

section
variable {P : Program} {ops : Array Oper} {rest : List Oper} {o : Oper} {a : Act} {w : World} {Q : Exit → Act → World → Prop}
/-- A whole tile is loaded: as a rule for the walk's own steps. -/
theorem run_loadAt_tile {g : Nat} {t ty : TypeId} {p : Nat → Int} (hg : TB w g t p) {d : TypeDesc} (hu : P.underlying ty = some d) (hd : (match d with | .struct _ | .array _ _ => true | _ => false) = true) (hi : (P.info? ty).map (·.size) = some 64) :
    (Instr.loadAt ty (.pointer (some ⟨g, 0, none⟩))).run P w = .ok (.agg (tv p)) w := by
  simp only [Instr.loadAt, Instr.sureAddr, Sem.run_bind, Sem.run_pure, Result.andThen_ok, run_loadVar_row (P := P) w g t ty (tv p) (0, 0) d hg hu hd (by rw [tv_size]; exact hi)]
/-! Guards: each goes through only where the next operation is of its kind. -/
theorem atLoad {dst : Option Tmp} {ty ot : TypeId} {x : Operand} {pos : String} {after : Array Edge} {gd : Option (Nat × Bool)} (h : wpList P ops Q (⟨dst, .load ty x, ot, pos, after, gd⟩ :: rest) a w) : wpList P ops Q (⟨dst, .load ty x, ot, pos, after, gd⟩ :: rest) a w := h
theorem atStore {dst : Option Tmp} {ty ot : TypeId} {x y : Operand} {pos : String} {after : Array Edge} {gd : Option (Nat × Bool)} (h : wpList P ops Q (⟨dst, .store ty x y, ot, pos, after, gd⟩ :: rest) a w) : wpList P ops Q (⟨dst, .store ty x y, ot, pos, after, gd⟩ :: rest) a w := h
theorem atAlloc {dst : Option Tmp} {ty ot : TypeId} {pos : String} {after : Array Edge} {gd : Option (Nat × Bool)} (h : wpList P ops Q (⟨dst, .alloc ty, ot, pos, after, gd⟩ :: rest) a w) : wpList P ops Q (⟨dst, .alloc ty, ot, pos, after, gd⟩ :: rest) a w := h
theorem atBuild {dst : Option Tmp} {ty ot : TypeId} {ps : Array (Nat × Operand)} {pos : String} {after : Array Edge} {gd : Option (Nat × Bool)} (h : wpList P ops Q (⟨dst, .build ty ps, ot, pos, after, gd⟩ :: rest) a w) : wpList P ops Q (⟨dst, .build ty ps, ot, pos, after, gd⟩ :: rest) a w := h
theorem atBinOp {dst : Option Tmp} {b : BinOp} {ty ty' ot : TypeId} {x y : Operand} {pos : String} {after : Array Edge} {gd : Option (Nat × Bool)} (h : wpList P ops Q (⟨dst, .binOp b ty x y ty', ot, pos, after, gd⟩ :: rest) a w) : wpList P ops Q (⟨dst, .binOp b ty x y ty', ot, pos, after, gd⟩ :: rest) a w := h
/-- A whole tile is loaded out of its block. -/
theorem wpList_load_tile (hgd : o.guard = none) (ty : TypeId) (x : Operand) (ho : o.op = .load ty x) (g : Nat) (hx : a.eval x = .pointer (some ⟨g, 0, none⟩)) (t : TypeId) (p : Nat → Int) (hg : TB w g t p) (d : TypeDesc)
    (hu : P.underlying ty = some d) (hd : (match d with | .struct _ | .array _ _ => true | _ => false) = true) (hi : (P.info? ty).map (·.size) = some 64)
    (h : wpList P ops Q rest (a.put o.dst (.agg (tv p))) w) : wpList P ops Q (o :: rest) a w :=
  wpList_load_row hgd ty x ho g hx t (tv p) (0, 0) d hg hu hd (by rw [tv_size]; exact hi) h
/-- The same of a guarded load whose guard holds. -/
theorem wpList_load_tile_g (hw : Region.wanted o (yielded ops a.tmps) = true) (ty : TypeId) (x : Operand) (ho : o.op = .load ty x) (g : Nat) (hx : a.eval x = .pointer (some ⟨g, 0, none⟩)) (t : TypeId) (p : Nat → Int) (hg : TB w g t p) (d : TypeDesc)
    (hu : P.underlying ty = some d) (hd : (match d with | .struct _ | .array _ _ => true | _ => false) = true) (hi : (P.info? ty).map (·.size) = some 64)
    (h : wpList P ops Q rest (a.put o.dst (.agg (tv p))) w) : wpList P ops Q (o :: rest) a w := by
  unfold wpList
  rw [if_pos hw]
  exact .inl (wp_load_row ty x ho g hx t (tv p) (0, 0) d hg hu hd (by rw [tv_size]; exact hi) h)
/-- A whole tile is stored into its block. -/
theorem wpList_store_tile (hgd : o.guard = none) (ty : TypeId) (x y : Operand) (ho : o.op = .store ty x y) (g : Nat) (hx : a.eval x = .pointer (some ⟨g, 0, none⟩)) (q : Nat → Int) (hy : a.eval y = .agg (tv q)) (t : TypeId) (p : Nat → Int) (hg : TB w g t p)
    (hi : (P.info? ty).map (·.size) = some 64)
    (h : wpList P ops Q rest (a.put o.dst undef) (w.setRow g (tv q))) : wpList P ops Q (o :: rest) a w :=
  wpList_store_row hgd ty x y ho g (tv q) hx hy t (tv p) hg (by rw [tv_size]; exact hi) (by rw [tv_size, tv_size]) (tv_one q) h
/-- A whole tile is stored into the newest block. -/
theorem wpList_store_tile_new {w0 : World} (hgd : o.guard = none) (ty : TypeId) (x y : Operand) (ho : o.op = .store ty x y) (hx : a.eval x = .pointer (some ⟨w0.heap.size, 0, none⟩)) (q : Nat → Int) (hy : a.eval y = .agg (tv q)) (t : TypeId) (p : Nat → Int)
    (hi : (P.info? ty).map (·.size) = some 64)
    (h : wpList P ops Q rest (a.put o.dst undef) (w0.alloc (.cells (tv q) t))) : wpList P ops Q (o :: rest) a (w0.alloc (.cells (tv p) t)) :=
  wpList_store_tile hgd ty x y ho w0.heap.size hx q hy t p (TB.new w0 t p) hi (by rw [setRow_new]; exact h)
/-- The zero value of a tile. -/
theorem wpList_build_tile (hgd : o.guard = none) (ty : TypeId) (ho : o.op = .build ty #[]) (hr : ∀ W, (Instr.build ty #[]).run P W = .ok (.agg (tv zeroT)) W)
    (h : wpList P ops Q rest (a.put o.dst (.agg (tv zeroT))) w) : wpList P ops Q (o :: rest) a w :=
  wpList_plain hgd fun K hK => by
    have hr : (execOp a.eval o).run P w = .ok (.value (.agg (tv zeroT))) w := by
      unfold execOp
      rw [ho]
      simp [Sem.run_bind, hr w]
    unfold Oper.wp
    rw [hr]
    exact hK _ _ h
/-- A new tile of zeros. -/
theorem wpList_alloc_tile (hgd : o.guard = none) (ty : TypeId) (ho : o.op = .alloc ty) (hz : (P.info? ty).map (·.zero) = some (some (.agg (tv zeroT))))
    (h : wpList P ops Q rest (a.put o.dst (.pointer (some ⟨w.heap.size, 0, none⟩))) (w.alloc (.cells (tv zeroT) ty))) : wpList P ops Q (o :: rest) a w :=
  wpList_plain hgd fun K hK => by
    have hr : (execOp a.eval o).run P w = .ok (.value (.pointer (some ⟨w.heap.size, 0, none⟩))) (w.alloc (.cells (tv zeroT) ty)) := by
      cases hq : P.info? ty with
      | none => simp [hq] at hz
      | some i =>
        have hzi : i.zero = some (.agg (tv zeroT)) := by simpa [hq] using hz
        unfold execOp
        rw [ho]
        simp [Instr.alloc, zeroValue, typeInfo, hq, hzi, newVar, newRow, Value.cells]
    unfold Oper.wp
    rw [hr]
    exact hK _ _ h
end
end Go.Proofs.Ytabioinmpjfflaa
