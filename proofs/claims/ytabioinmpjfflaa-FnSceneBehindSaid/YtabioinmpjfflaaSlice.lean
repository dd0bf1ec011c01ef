/-
  Slices whose cells are told by a function: they can be read, and stay while only new memory is made; rows of the call's own. No conditions.
-/
import Derived.Test.YtabioinmpjfflaaRd
import Derived.Deep.MidRow
import Derived.Maps.AppendAt
import Derived.Deep.AppendLies
import Derived.Laws.MakeOwn
import Derived.OwnWalk
namespace Go.Proofs.Ytabioinmpjfflaa
set_option linter.all false
set_option linter.unusedSimpArgs false
set_option linter.unusedVariables false
set_option maxRecDepth 20000
open Go.ChangeShapes Go.WideShapes Go.ChangeAt Go.RowKit

/-- A slice of n elements of sz cells each, told by c, in a block below B. -/
def RS (w : World) (B sz : Nat) (A : Option Addr) (n : Nat) (c : Nat → Value) : Prop :=
  n = 0 ∨ ∃ b off, A = some ⟨b, off, none⟩ ∧ b < B ∧ ∀ j, j < n * sz → w.cell? ⟨b, off + j, none⟩ = some (c j)
/-- Numbers, as cells. -/
abbrev iv (p : Nat → Int) : Nat → Value := fun j => .int .i64 (p j)
/-- The first n cells. -/
def ca (n : Nat) (c : Nat → Value) : Array Value := ((List.range n).map c).toArray
theorem ca_size (n : Nat) (c : Nat → Value) : (ca n c).size = n := by simp [ca]
theorem ca_get (n : Nat) (c : Nat → Value) (i : Nat) (h : i < n) : (ca n c)[i]? = some (c i) := by simp [ca, h]
theorem ca_list (n : Nat) (c : Nat → Value) : (ca n c).toList = (List.range n).map c := by simp [ca]
theorem ca_congr {n : Nat} {c d : Nat → Value} (h : ∀ i, i < n → c i = d i) : ca n c = ca n d := by
  unfold ca; congr 1; exact List.map_congr_left fun i hi => h i (by simpa using hi)
def updV (c : Nat → Value) (k : Nat) (v : Value) : Nat → Value := fun i => if i = k then v else c i
theorem ca_set (n : Nat) (c : Nat → Value) (k : Nat) (v : Value) : (ca n c).setIfInBounds k v = ca n (updV c k v) := by
  apply Array.ext_getElem?
  intro i
  rw [Array.getElem?_setIfInBounds]
  by_cases hi : i < n
  · rw [ca_get _ _ _ hi, ca_size]
    by_cases e : k = i
    · subst e; rw [ca_get _ _ _ hi]; simp [hi, updV]
    · rw [if_neg e, ca_get _ _ _ hi]; simp [updV, Ne.symm e]
  · have h1 : (ca n c)[i]? = none := Array.getElem?_eq_none (by rw [ca_size]; omega)
    have h2 : (ca n (updV c k v))[i]? = none := Array.getElem?_eq_none (by rw [ca_size]; omega)
    rw [h1, h2, ca_size]
    split
    · split
      · omega
      · rfl
    · rfl
theorem map_get {n : Nat} {c : Nat → Value} {j : Nat} (h : j < n) : ((List.range n).map c)[j]? = some (c j) := by simp [h]
theorem map_snoc (n : Nat) (c : Nat → Value) : (List.range n).map c ++ [c n] = (List.range (n + 1)).map c := by rw [List.range_succ]; simp

section
variable {w w' : World} {B B' sz n : Nat} {A : Option Addr} {c : Nat → Value}
theorem RS.zero (w : World) (B sz : Nat) (A : Option Addr) (c : Nat → Value) : RS w B sz A 0 c := .inl rfl
theorem RS.at_ (h : RS w B sz A n c) (hn : 0 < n) : ∃ b off, A = some ⟨b, off, none⟩ ∧ b < B ∧ ∀ j, j < n * sz → w.cell? ⟨b, off + j, none⟩ = some (c j) := h.resolve_left (by omega)
theorem RS.keep (h : RS w B sz A n c) (hk : ∀ b o, b < B → w'.cell? ⟨b, o, none⟩ = w.cell? ⟨b, o, none⟩) : RS w' B sz A n c := by
  rcases h with h | ⟨b, off, rfl, hb, hc⟩
  · exact .inl h
  · exact .inr ⟨b, off, rfl, hb, fun j hj => (hk b _ hb).trans (hc j hj)⟩
theorem RS.more (h : RS w B sz A n c) (hB : B ≤ B') : RS w B' sz A n c := by
  rcases h with h | ⟨b, off, rfl, hb, hc⟩
  · exact .inl h
  · exact .inr ⟨b, off, rfl, by omega, hc⟩
theorem RS.below {K : Nat} (hb : Below K w w') (h : RS w B sz A n c) (hB : B ≤ K) : RS w' B sz A n c := h.keep fun b o hl => hb.cell (p := ⟨b, o, none⟩) (by show b < K; omega)
theorem RS.drew (h : RS w B sz A n c) : RS w.drew B sz A n c := h
theorem RS.drewN (h : RS w B sz A n c) (k : Nat) : RS (w.drewN k) B sz A n c := h
theorem RS.alloc (h : RS w B sz A n c) (hB : B ≤ w.heap.size) (o : Obj) : RS (w.alloc o) B sz A n c := h.keep fun b q hl => World.cell?_alloc_lt w o ⟨b, q, none⟩ (by show b < _; omega)
theorem RS.setCell (h : RS w B sz A n c) {p : Addr} (hp : B ≤ p.block) (v : Value) : RS (w.setCell p v) B sz A n c :=
  h.keep fun b q hl => World.cell?_setCell_other w p ⟨b, q, none⟩ v (fun e => by subst e; simp at hp; omega)
theorem RS.setRow (h : RS w B sz A n c) {g : Nat} (hg : B ≤ g) (cs : Array Value) : RS (w.setRow g cs) B sz A n c :=
  h.keep fun b q hl => by unfold World.cell?; simp only [setRow_other w g b cs (by omega)]
theorem RS.setCells (h : RS w B sz A n c) {g : Nat} (hg : B ≤ g) (o : Nat) (cs : List Value) : RS (w.setCells g o cs) B sz A n c :=
  h.keep fun b q hl => World.cell?_setCells_out g cs o w ⟨b, q, none⟩ (fun e => absurd e (by show b ≠ g; omega))
theorem RS.only {R : Nat} (hO : Only R w w') (h : RS w B sz A n c) (hR : B ≤ R) (hs : B ≤ w.heap.size) : RS w' B sz A n c := h.keep fun b o hl => hO.cells.1 b o (by omega) (by omega)
theorem RS.grown {row : Option Nat} (hg : w.grownBy w' row) (h : RS w B sz A n c) (hB : B ≤ w.heap.size) (hr : ∀ g, row = some g → B ≤ g) : RS w' B sz A n c :=
  h.keep fun b o hl => World.cell?_of_block (w := w) (a := ⟨b, o, none⟩) (hg.block b (by omega) (fun e => by have := hr _ e.symm; omega))
theorem RS.congr (h : RS w B sz A n c) {d : Nat → Value} (e : ∀ j, j < n * sz → c j = d j) : RS w B sz A n d := by
  rcases h with h | ⟨b, off, rfl, hb, hc⟩
  · exact .inl h
  · exact .inr ⟨b, off, rfl, hb, fun j hj => by rw [hc j hj, e j hj]⟩
theorem RS.take {k : Nat} (h : RS w B sz A n c) (hk : k ≤ n) : RS w B sz A k c := by
  rcases h with h | ⟨b, off, rfl, hb, hc⟩
  · exact .inl (by omega)
  · exact .inr ⟨b, off, rfl, hb, fun j hj => hc j (Nat.lt_of_lt_of_le hj (Nat.mul_le_mul_right _ hk))⟩
theorem RS.drop {k cap : Nat} (h : RS w B sz A n c) (hk : k ≤ n) (hc : n ≤ cap) : RS w B sz (if cap = k then A else A.map (·.add (k * sz))) (n - k) (fun j => c (k * sz + j)) := by
  by_cases e : n = k
  · exact .inl (by omega)
  · rcases h with h | ⟨b, off, rfl, hb, hcell⟩
    · exact .inl (by omega)
    · rw [if_neg (by omega)]
      refine .inr ⟨b, off + k * sz, by simp [Addr.add_mid], hb, fun j hj => ?_⟩
      rw [Nat.add_assoc]
      refine hcell (k * sz + j) ?_
      rw [Nat.sub_mul] at hj
      omega
theorem RS.own {base cap : Nat} {e : TypeId} {xs : List Value} (h : w.ownsRow base e sz (.slice A n cap) n xs) (hx : ∀ j, j < n * sz → xs[j]? = some (c j)) : RS w w.heap.size sz A n c := by
  by_cases hn : n = 0
  · exact .inl hn
  · obtain ⟨g, cap', hv, _, hlt⟩ := h.form (by omega)
    have hA : A = some ⟨g, 0, none⟩ := by injection hv
    subst hA
    refine .inr ⟨g, 0, rfl, hlt, fun j hj => ?_⟩
    have := h.cells (g := g) rfl j _ (hx j hj)
    rwa [Addr.add_mid] at this
theorem RS.from_ {g o : Nat} (h : RS w B 1 (some ⟨g, o, none⟩) n c) (k : Nat) (hk : k ≤ n) : RS w B 1 (some ⟨g, o + k, none⟩) (n - k) (fun j => c (k + j)) := by
  rcases h with h | ⟨b, off, e, hb, hcell⟩
  · exact .inl (by omega)
  · injection e with e
    injection e with e1 e2
    subst e1 e2
    refine .inr ⟨g, o + k, rfl, hb, fun j hj => ?_⟩
    rw [Nat.add_assoc]
    exact hcell (k + j) (by omega)
/-- An element of several cells, for a load of the whole. -/
theorem RS.range {b off : Nat} (hc : ∀ j, j < n * sz → w.cell? ⟨b, off + j, none⟩ = some (c j)) {i : Nat} (hi : i < n) {vs : List Value} (hl : vs.length = sz) (hv : ∀ j, j < sz → vs[j]? = some (c (i * sz + j))) : w.rangeAt b (off + i * sz) vs := by
  intro j v hj
  have hjl : j < sz := by
    have := (List.getElem?_eq_some_iff.1 hj).1
    omega
  rw [Nat.add_assoc, hc (i * sz + j) (by
    have : (i + 1) * sz ≤ n * sz := Nat.mul_le_mul_right _ hi
    rw [Nat.add_mul] at this
    omega)]
  rw [← hv j hjl, hj]
end

/-- Block g is just the n cells c (t: the type that its block bears). -/
def CB (w : World) (g : Nat) (t : TypeId) (n : Nat) (c : Nat → Value) : Prop := w.heap[g]? = some (.cells (ca n c) t (0, 0))
section
variable {w w' : World} {g B n : Nat} {t : TypeId} {c : Nat → Value}
theorem CB.lt (h : CB w g t n c) : g < w.heap.size := by
  rcases Nat.lt_or_ge g w.heap.size with hlt | hge
  · exact hlt
  · unfold CB at h; rw [Array.getElem?_eq_none hge] at h; cases h
theorem CB.new (w : World) (t : TypeId) (n : Nat) (c : Nat → Value) : CB (w.alloc (.cells (ca n c) t)) w.heap.size t n c := heap_alloc_new w _
theorem CB.alloc (h : CB w g t n c) (o : Obj) : CB (w.alloc o) g t n c := (Below.heap_alloc w o g h.lt).trans h
theorem CB.drew (h : CB w g t n c) : CB w.drew g t n c := h
theorem CB.drewN (h : CB w g t n c) (k : Nat) : CB (w.drewN k) g t n c := h
theorem CB.far (h : CB w g t n c) {a : Addr} (ha : g ≠ a.block) (v : Value) : CB (w.setCell a v) g t n c := (Below.heap_setCell w a v g ha).trans h
theorem CB.farRow (h : CB w g t n c) {g' : Nat} (hg : g ≠ g') (cs : Array Value) : CB (w.setRow g' cs) g t n c := (setRow_other w g' g cs hg).trans h
theorem CB.put (h : CB w g t n c) (k : Nat) (v : Value) : CB (w.setCell ⟨g, k, none⟩ v) g t n (updV c k v) := by
  unfold CB at h ⊢
  simp [World.setCell, Array.getElem?_modify, h, ca_set]
theorem CB.below (h : CB w g t n c) (hb : Below B w w') (hg : g < B) : CB w' g t n c := (hb.block g hg).trans h
theorem CB.only (h : CB w g t n c) {R : Nat} (hb : Only R w w') (hg : g ≠ R) : CB w' g t n c := (hb.block g h.lt (by intro e; injection e; omega)).trans h
theorem CB.cell (h : CB w g t n c) (k : Nat) (hk : k < n) : w.cell? ⟨g, k, none⟩ = some (c k) := by
  rw [cell_of_row w g k _ _ _ h, ca_get n c k hk]
theorem CB.frozen (h : CB w g t n c) (k : Nat) : w.frozen? ⟨g, k, none⟩ = false := frozen_of_row w g k _ _ h
theorem CB.congr (h : CB w g t n c) {d : Nat → Value} (e : ∀ i, i < n → c i = d i) : CB w g t n d := by
  unfold CB at h ⊢; rw [h, ca_congr e]
theorem CB.rs (h : CB w g t n c) : RS w w.heap.size 1 (some ⟨g, 0, none⟩) n c :=
  .inr ⟨g, 0, rfl, h.lt, fun j hj => by rw [Nat.zero_add]; exact h.cell j (by omega)⟩
theorem CB.own (h : CB w g t n c) {base : Nat} (hb : base ≤ g) (hn : n ≤ maxLen) : w.ownsRow base t 1 (.slice (some ⟨g, 0, none⟩) n n) n ((List.range n).map c) :=
  ⟨by simp, .inr ⟨g, n, _, rfl, hb, h, Nat.le_refl _, hn, by rw [ca_size]; omega, by rw [ca_list, Nat.mul_one]; exact List.take_of_length_le (by simp)⟩⟩
end
theorem made_ca (z : Value) (n : Nat) : madeCells #[z] n = ca n (fun _ => z) := by
  apply Array.ext_getElem?
  intro i
  by_cases hi : i < n
  · rw [ca_get _ _ _ hi]; simp [madeCells, hi, Nat.mod_one]
  · rw [Array.getElem?_eq_none (show (madeCells #[z] n).size ≤ i by rw [size_madeCells]; omega), Array.getElem?_eq_none (show (ca n fun _ => z).size ≤ i by rw [ca_size]; omega)]

/-- The post of a function that returns a new slice. -/
def Gives (t : TypeId) (sz n : Nat) (c : Nat → Value) (w : World) (e : Ending) (w' : World) : Prop :=
  ∃ (A : Option Addr) (cap : Nat), e = .returned (.slice A n cap) ∧ w'.ownsRow w.heap.size t sz (.slice A n cap) n ((List.range (n * sz)).map c) ∧ Below w.heap.size w w'
theorem own_cap {w : World} {base : Nat} {t : TypeId} {sz n cap : Nat} {A : Option Addr} {xs : List Value} (h : w.ownsRow base t sz (.slice A n cap) n xs) : n ≤ cap := by
  rcases h.2 with ⟨e, h0⟩ | ⟨g, cap', cur, e, _, _, hc, _⟩
  · omega
  · injection e with _ _ e; omega
theorem own_rs {w : World} {base : Nat} {t : TypeId} {sz n cap : Nat} {A : Option Addr} {c : Nat → Value} (h : w.ownsRow base t sz (.slice A n cap) n ((List.range (n * sz)).map c)) : RS w w.heap.size sz A n c :=
  RS.own h fun j hj => map_get hj
/-- What the call owns stays while nothing from its first block on turns. -/
theorem own_below {w w' : World} {base B : Nat} {t : TypeId} {sz n : Nat} {v : Value} {xs : List Value} (h : w.ownsRow base t sz v n xs) (hb : Below B w w') (hB : w.heap.size ≤ B) : w'.ownsRow base t sz v n xs := by
  obtain ⟨h1, h2⟩ := h
  refine ⟨h1, ?_⟩
  rcases h2 with h2 | ⟨g, cap, cur, hv, hg, hh, r⟩
  · exact .inl h2
  · refine .inr ⟨g, cap, cur, hv, hg, ?_, r⟩
    rw [hb.block g ?_]
    · exact hh
    · rcases Nat.lt_or_ge g w.heap.size with hlt | hge
      · omega
      · rw [Array.getElem?_eq_none hge] at hh; cases hh
theorem own_base {w : World} {base base' : Nat} {t : TypeId} {sz n : Nat} {v : Value} {xs : List Value} (h : w.ownsRow base t sz v n xs) (hb : base' ≤ base) : w.ownsRow base' t sz v n xs := by
  obtain ⟨h1, h2⟩ := h
  refine ⟨h1, ?_⟩
  rcases h2 with h2 | ⟨g, cap, cur, hv, hg, r⟩
  · exact .inl h2
  · exact .inr ⟨g, cap, cur, hv, by omega, r⟩
theorem map_set (N : Nat) (c : Nat → Value) (j : Nat) (u : Value) : ((List.range N).map c).set j u = (List.range N).map (updV c j u) := by
  apply List.ext_getElem?
  intro i
  rw [List.getElem?_set]
  by_cases hi : i < N
  · rw [map_get hi]
    by_cases e : j = i
    · subst e; simp [hi, updV]
    · rw [if_neg e, map_get hi]; simp [updV, Ne.symm e]
  · have h1 : ((List.range N).map c)[i]? = none := List.getElem?_eq_none (by simp; omega)
    have h2 : ((List.range N).map (updV c j u))[i]? = none := List.getElem?_eq_none (by simp; omega)
    rw [h1, h2]
    split
    · split
      · rename_i e h; simp at h; omega
      · rfl
    · rfl
theorem own_put {w : World} {base : Nat} {t : TypeId} {sz n cap g N : Nat} {c : Nat → Value} (h : w.ownsRow base t sz (.slice (some ⟨g, 0, none⟩) n cap) n ((List.range N).map c)) (j : Nat) (u : Value) :
    (w.setCell ⟨g, j, none⟩ u).ownsRow base t sz (.slice (some ⟨g, 0, none⟩) n cap) n ((List.range N).map (updV c j u)) := by
  have := (h.stored j u).1
  rwa [map_set] at this
theorem own_head {w : World} {base : Nat} {t : TypeId} {sz n cap : Nat} {A : Option Addr} {xs : List Value} (h : w.ownsRow base t sz (.slice A n cap) n xs) (hn : 0 < n) : ∃ g, A = some ⟨g, 0, none⟩ ∧ base ≤ g ∧ g < w.heap.size := by
  obtain ⟨g, cap', hv, h1, h2⟩ := h.form hn
  exact ⟨g, by injection hv, h1, h2⟩
theorem grown_put (w : World) (g j : Nat) (u : Value) : w.grownBy (w.setCell ⟨g, j, none⟩ u) (some g) :=
  ⟨rfl, rfl, rfl, by simp, fun k _ hk => heap_setCell_other w ⟨g, j, none⟩ k u (fun e => hk (by simp [e]))⟩
theorem own_drewN {w : World} {base : Nat} {t : TypeId} {sz n : Nat} {v : Value} {xs : List Value} (h : w.ownsRow base t sz v n xs) (k : Nat) : (w.drewN k).ownsRow base t sz v n xs := h

/-- Nothing: an empty list that was just written out. -/
theorem own_empty (w : World) (t : TypeId) (sz base : Nat) (hb : base ≤ w.heap.size) : (w.alloc (.cells #[] t)).ownsRow base t sz (.slice (some ⟨w.heap.size, 0, none⟩) 0 0) 0 [] :=
  World.ownsRow_made w #[] 0 hb (Nat.zero_le _) (by simp)

/-- One more element, at the end of a row of the call's own. -/
theorem wpList_append_el {P : Program} {ops : Array Oper} {rest : List Oper} {o : Oper} {a : Act} {Q : Exit → Act → World → Prop} {w0 : World} {cs : Array Value} {t e : TypeId} {z : Value} {sz bytes : Nat}
    (ht : P.underlying t = some (.slice e)) (hinfo : (P.info? e).map (fun i => (i.zero, i.size, i.bytes)) = some (some z, sz, bytes)) (hzs : z.cells.size = sz) (hsz : 0 < sz) (hby : bytes ≤ 1024)
    (hgd : o.guard = none) (s x : Operand) (ho : o.op = .call { callee := .builtin .append, args := #[s, x], argTypes := #[t, t] })
    (base k cap : Nat) (A : Option Addr) (c : Nat → Value) (hs : a.eval s = .slice A k cap) (hx : a.eval x = .slice (some ⟨w0.heap.size, 0, none⟩) 1 1)
    (hown : w0.ownsRow base e sz (.slice A k cap) k ((List.range (k * sz)).map c)) (hl : cs.size = sz) (hcs : ∀ j, j < sz → cs[j]? = some (c (k * sz + j))) (h1 : ∀ j, j < sz → (c (k * sz + j)).oneCell' = true)
    (hk : k ≤ 1048576) (hbase : base ≤ w0.heap.size)
    (h : ∀ A' cap' w', w'.ownsRow base e sz (.slice A' (k + 1) cap') (k + 1) ((List.range ((k + 1) * sz)).map c) → Below base w0 w' → wpList P ops Q rest (a.put o.dst (.slice A' (k + 1) cap')) w') :
    wpList P ops Q (o :: rest) a (w0.alloc (.cells cs e)) := by
  obtain ⟨i, hi, hz, hsi, hbi⟩ := info_parts hinfo
  have hown1 := hown.alloc (.cells cs e)
  have hget : ∀ j, j < sz → cs.toList[j]? = some (c (k * sz + j)) := fun j hj => by rw [Array.getElem?_toList]; exact hcs j hj
  refine wpList_append_own (w0.alloc (.cells cs e)) hgd s x t ho base e i z sz bytes ht hi hz hsi hbi hzs hsz _ k _ hs hown1 ⟨w0.heap.size, 0, none⟩ 1 1 cs.toList hx (by simp [hl]) ?_ ?_ ?_ ?_ ?_ ?_
  · intro j u hj
    rw [Addr.add_mid, Nat.zero_add, cell_of_row _ _ _ cs e (0, 0) (heap_alloc_new w0 _)]
    rwa [Array.getElem?_toList] at hj
  · intro u hu
    obtain ⟨j, hj⟩ := List.getElem?_of_mem hu
    have hjl : j < sz := by
      have := (List.getElem?_eq_some_iff.1 hj).1
      simp [hl] at this; omega
    rw [hget j hjl] at hj
    injection hj with hj
    rw [← hj]; exact h1 j hjl
  · unfold maxLen; omega
  · have : (k + 1) * bytes ≤ 1048577 * 1024 := Nat.mul_le_mul (by omega) hby
    omega
  · simp; omega
  · intro v' w' hown' hg _
    have hlist : (List.range (k * sz)).map c ++ cs.toList = (List.range ((k + 1) * sz)).map c := by
      apply List.ext_getElem?
      intro j
      by_cases hj : j < k * sz
      · rw [List.getElem?_append_left (by simpa using hj), map_get hj, map_get (by rw [Nat.add_mul]; omega)]
      · rw [List.getElem?_append_right (by simpa using Nat.le_of_not_lt hj)]
        simp only [List.length_map, List.length_range]
        by_cases hj2 : j < (k + 1) * sz
        · rw [map_get hj2, hget (j - k * sz) (by rw [Nat.add_mul] at hj2; omega), show k * sz + (j - k * sz) = j by omega]
        · rw [List.getElem?_eq_none (by rw [Nat.add_mul] at hj2; simp [hl]; omega), List.getElem?_eq_none (by simp; omega)]
    rw [hlist] at hown'
    obtain ⟨g, cap', hv, _, _⟩ := hown'.form (by omega)
    subst hv
    refine h _ _ _ hown' (((Below.refl base w0).alloc hbase _).grown hg (by simp; omega) fun g' hg' => ?_)
    exact (hown1.lt g' hg').1
/-- The same of elements of one cell. -/
theorem wpList_append_one {P : Program} {ops : Array Oper} {rest : List Oper} {o : Oper} {a : Act} {Q : Exit → Act → World → Prop} {w0 : World} {u : Value} {t e : TypeId} {z : Value} {bytes : Nat}
    (ht : P.underlying t = some (.slice e)) (hinfo : (P.info? e).map (fun i => (i.zero, i.size, i.bytes)) = some (some z, 1, bytes)) (hzs : z.cells.size = 1) (hby : bytes ≤ 1024)
    (hgd : o.guard = none) (s x : Operand) (ho : o.op = .call { callee := .builtin .append, args := #[s, x], argTypes := #[t, t] })
    (base k cap : Nat) (A : Option Addr) (c : Nat → Value) (hs : a.eval s = .slice A k cap) (hx : a.eval x = .slice (some ⟨w0.heap.size, 0, none⟩) 1 1)
    (hown : w0.ownsRow base e 1 (.slice A k cap) k ((List.range k).map c)) (hu : u = c k) (h1 : u.oneCell' = true)
    (hk : k ≤ 1048576) (hbase : base ≤ w0.heap.size)
    (h : ∀ A' cap' w', w'.ownsRow base e 1 (.slice A' (k + 1) cap') (k + 1) ((List.range (k + 1)).map c) → Below base w0 w' → wpList P ops Q rest (a.put o.dst (.slice A' (k + 1) cap')) w') :
    wpList P ops Q (o :: rest) a (w0.alloc (.cells #[u] e)) := by
  refine wpList_append_el ht hinfo hzs (by omega) hby hgd s x ho base k cap A c hs hx (by rw [Nat.mul_one]; exact hown) rfl (fun j hj => ?_) (fun j hj => ?_) hk hbase (fun A' cap' w' h2 h3 => h A' cap' w' (by rw [Nat.mul_one] at h2; exact h2) h3)
  · obtain rfl : j = 0 := by omega
    rw [Nat.mul_one, Nat.add_zero, ← hu]; rfl
  · obtain rfl : j = 0 := by omega
    rw [Nat.mul_one, Nat.add_zero, ← hu]; exact h1
end Go.Proofs.Ytabioinmpjfflaa
