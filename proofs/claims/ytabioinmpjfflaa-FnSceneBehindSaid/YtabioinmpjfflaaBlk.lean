/-
  Blocks of numbers of the call's own, and slices on them: what a drawing region keeps of them, whatever order it takes. No conditions.
-/
import Derived.Test.YtabioinmpjfflaaSlice
import Derived.Test.YtabioinmpjfflaaTyped
import Derived.Laws.Tables
namespace Go.Proofs.Ytabioinmpjfflaa
set_option linter.all false
set_option linter.unusedSimpArgs false
set_option linter.unusedVariables false
set_option maxRecDepth 20000
open Go.ChangeShapes Go.WideShapes Go.ChangeAt Go.RowKit

def IsI (v : Value) : Prop := ∃ x : Int, v = .int .i64 x
/-- Block g is N numbers. -/
def IB (u : World) (g : Nat) (e : TypeId) (N : Nat) : Prop := ∃ cur, u.heap[g]? = some (.cells cur e (0, 0)) ∧ cur.size = N ∧ ∀ v ∈ cur.toList, IsI v
section
variable {u u' : World} {g : Nat} {e : TypeId} {N : Nat}
theorem heap_lt {u : World} {b : Nat} {o : Obj} (h : u.heap[b]? = some o) : b < u.heap.size := by
  rcases Nat.lt_or_ge b u.heap.size with hlt | hge
  · exact hlt
  · rw [Array.getElem?_eq_none hge] at h; cases h
theorem IB.lt (h : IB u g e N) : g < u.heap.size := by
  obtain ⟨cur, h1, _⟩ := h
  exact heap_lt h1
theorem IB.at_ (h : IB u g e N) {j : Nat} (hj : j < N) : ∃ x : Int, u.cell? ⟨g, j, none⟩ = some (.int .i64 x) := by
  obtain ⟨cur, h1, h2, h3⟩ := h
  obtain ⟨x, hx⟩ := h3 cur[j] (by simp)
  exact ⟨x, by rw [cell_of_row u g j cur _ _ h1, Array.getElem?_eq_getElem (by omega), hx]⟩
theorem IB.free (h : IB u g e N) (j : Nat) : u.frozen? ⟨g, j, none⟩ = false := by
  obtain ⟨cur, h1, h2, h3⟩ := h
  exact frozen_of_row u g j _ _ h1
theorem IB.of_eq (h : IB u g e N) (he : u'.heap[g]? = u.heap[g]?) : IB u' g e N := by
  obtain ⟨cur, h1, h2⟩ := h
  exact ⟨cur, he.trans h1, h2⟩
theorem mem_set {v x : Value} : ∀ {l : List Value} {i : Nat}, v ∈ l.set i x → v = x ∨ v ∈ l
  | [], _, h => by simp at h
  | a :: l, 0, h => by
    simp at h
    rcases h with h | h
    · exact .inl h
    · exact .inr (.tail _ h)
  | a :: l, i + 1, h => by
    simp only [List.set_cons_succ, List.mem_cons] at h
    rcases h with h | h
    · subst h; exact .inr (.head _)
    · rcases mem_set h with h | h
      · exact .inl h
      · exact .inr (.tail _ h)
theorem IB.setCell (h : IB u g e N) (b o : Nat) (x : Int) : IB (u.setCell ⟨b, o, none⟩ (.int .i64 x)) g e N := by
  by_cases hp : g = b
  · obtain ⟨cur, h1, h2, h3⟩ := h
    subst hp
    refine ⟨cur.setIfInBounds o (.int .i64 x), by simp [World.setCell, Array.getElem?_modify, h1], by simpa using h2, fun v hv => ?_⟩
    rw [Array.toList_setIfInBounds] at hv
    rcases mem_set hv with hv | hv
    · exact ⟨x, hv⟩
    · exact h3 v hv
  · exact h.of_eq (Below.heap_setCell u ⟨b, o, none⟩ _ g hp)
theorem IB.far (h : IB u g e N) {p : Addr} (hp : g ≠ p.block) (v : Value) : IB (u.setCell p v) g e N := h.of_eq (Below.heap_setCell u p v g hp)
theorem IB.alloc (h : IB u g e N) (o : Obj) : IB (u.alloc o) g e N := h.of_eq (Below.heap_alloc u o g h.lt)
theorem IB.new (u : World) (e : TypeId) (cs : Array Value) (h : ∀ v ∈ cs.toList, IsI v) : IB (u.alloc (.cells cs e)) u.heap.size e cs.size := ⟨cs, heap_alloc_new u _, rfl, h⟩
theorem IB.below {B : Nat} (h : IB u g e N) (hb : Below B u u') (hg : g < B) : IB u' g e N := h.of_eq (hb.block g hg)
theorem IB.only {R : Nat} (h : IB u g e N) (hO : Only R u u') (hg : g ≠ R) : IB u' g e N := h.of_eq (hO.block g h.lt (by intro e; injection e; omega))
theorem IB.notRd {R : Nat} {k : Int} (h : IB u g e N) (hR : Rd u R k) : g ≠ R := by
  rintro rfl
  obtain ⟨a, len, cap, p, h1, _⟩ := hR
  obtain ⟨cur, h2, _, h3⟩ := h
  rw [h1] at h2
  injection h2 with h2
  injection h2 with h2
  subst h2
  obtain ⟨x, hx⟩ := h3 (.slice a len cap) (by simp)
  cases hx
theorem IB.content (h : IB u g e N) : ∃ p : Nat → Int, ∀ j, j < N → u.cell? ⟨g, j, none⟩ = some (.int .i64 (p j)) := by
  refine ⟨fun j => if hj : j < N then (h.at_ hj).choose else 0, fun j hj => ?_⟩
  rw [(h.at_ hj).choose_spec]
  simp only [hj, dif_pos]
end

/-- What a step may do: blocks of numbers from base on may change their numbers; all else stays. -/
structure Chg (base : Nat) (u u' : World) : Prop where
  os : u'.os = u.os
  tape : u'.tape = u.tape
  output : u'.output = u.output
  size : u.heap.size ≤ u'.heap.size
  block : ∀ k, k < u.heap.size → u'.heap[k]? = u.heap[k]? ∨ (base ≤ k ∧ ∃ e N, IB u k e N)
  ib : ∀ g e N, IB u g e N → IB u' g e N
theorem Chg.refl (base : Nat) (u : World) : Chg base u u := ⟨rfl, rfl, rfl, Nat.le_refl _, fun _ _ => .inl rfl, fun _ _ _ h => h⟩
theorem Chg.alloc (base : Nat) (u : World) (o : Obj) : Chg base u (u.alloc o) := ⟨rfl, rfl, rfl, by simp, fun k hk => .inl (Below.heap_alloc u o k hk), fun _ _ _ h => h.alloc o⟩
theorem Chg.setCell {base : Nat} {u : World} {g : Nat} {e : TypeId} {N : Nat} (hg : IB u g e N) (hb : base ≤ g) (j : Nat) (x : Int) : Chg base u (u.setCell ⟨g, j, none⟩ (.int .i64 x)) :=
  ⟨rfl, rfl, rfl, by simp, fun k hk => by
    by_cases h : k = g
    · subst h; exact .inr ⟨hb, e, N, hg⟩
    · exact .inl (Below.heap_setCell u ⟨g, j, none⟩ _ k h), fun _ _ _ h => h.setCell _ _ x⟩
theorem Chg.only {base R : Nat} {w u u' : World} (h : Chg base u u') (hO : Only R w u) (hb : w.heap.size ≤ base) : Only R w u' :=
  ⟨h.os.trans hO.os, h.tape.trans hO.tape, h.output.trans hO.output, Nat.le_trans hO.size h.size, fun k hk hn => by
    rcases h.block k (Nat.lt_of_lt_of_le hk hO.size) with e | ⟨e, _⟩
    · exact e.trans (hO.block k hk hn)
    · omega⟩
theorem Chg.rd {base R : Nat} {k : Int} {u u' : World} (h : Chg base u u') (hR : Rd u R k) (hb : R < base) : Rd u' R k := hR.keep fun i hi => by
  have := hR.lt
  rcases h.block i (by omega) with e | ⟨e, _⟩
  · exact e
  · omega

/-- A slice of numbers, of the call's own, of lo to hi elements of sz numbers. -/
def OV (u : World) (base : Nat) (e : TypeId) (sz lo hi : Nat) (v : Value) : Prop := ∃ A n cap, v = .slice A n cap ∧ lo ≤ n ∧ n ≤ hi ∧ ((A = none ∧ n = 0 ∧ cap = 0) ∨ ∃ g, A = some ⟨g, 0, none⟩ ∧ base ≤ g ∧ n ≤ cap ∧ cap ≤ maxLen ∧ IB u g e (cap * sz))
section
variable {u u' : World} {base : Nat} {e : TypeId} {sz lo hi : Nat} {v : Value}
theorem OV.nil (u : World) (base : Nat) (e : TypeId) (sz hi : Nat) : OV u base e sz 0 hi (.slice none 0 0) := ⟨none, 0, 0, rfl, Nat.le_refl _, Nat.zero_le _, .inl ⟨rfl, rfl, rfl⟩⟩
theorem OV.mono (h : OV u base e sz lo hi v) (hI : ∀ g e N, IB u g e N → IB u' g e N) : OV u' base e sz lo hi v := by
  obtain ⟨A, n, cap, rfl, h1, h2, h3⟩ := h
  refine ⟨A, n, cap, rfl, h1, h2, ?_⟩
  rcases h3 with h3 | ⟨g, hg, hb, hc, hm, hI'⟩
  · exact .inl h3
  · exact .inr ⟨g, hg, hb, hc, hm, hI _ _ _ hI'⟩
theorem OV.more (h : OV u base e sz lo hi v) {lo' hi' : Nat} (hl : lo' ≤ lo) (hh : hi ≤ hi') : OV u base e sz lo' hi' v := by
  obtain ⟨A, n, cap, rfl, h1, h2, h3⟩ := h
  exact ⟨A, n, cap, rfl, by omega, by omega, h3⟩
theorem OV.lit (u : World) {base : Nat} (hb : base ≤ u.heap.size) (e : TypeId) {sz n : Nat} (cs : Array Value) (hs : cs.size = n * sz) (hn : n ≤ maxLen) (h : ∀ v ∈ cs.toList, IsI v) : OV (u.alloc (.cells cs e)) base e sz n n (.slice (some ⟨u.heap.size, 0, none⟩) n n) :=
  ⟨_, n, n, rfl, Nat.le_refl _, Nat.le_refl _, .inr ⟨_, rfl, hb, Nat.le_refl _, hn, hs ▸ IB.new u e cs h⟩⟩
end
theorem isI_one {v : Value} (h : IsI v) : v.oneCell' = true := by
  obtain ⟨x, rfl⟩ := h; rfl
theorem zeroCells_mem {z : Array Value} {k : Nat} (hz : ∀ v ∈ z.toList, IsI v) : ∀ v ∈ (Builtin.zeroCells z k).toList, IsI v := by
  intro v hv
  simp only [Builtin.zeroCells, Array.toList_map, Array.toList_range, List.mem_map, List.mem_range] at hv
  obtain ⟨i, hi, rfl⟩ := hv
  have hs : 0 < z.size := by
    rcases Nat.eq_zero_or_pos z.size with h | h
    · rw [h] at hi; omega
    · exact h
  have hm : i % z.size < z.size := Nat.mod_lt _ hs
  rw [getElem!_pos z _ hm]
  exact hz _ (by simp)

/-- One more element. -/
theorem run_append_ov {P : Program} {u : World} {base : Nat} {t ty e : TypeId} {z : Value} {sz bytes lo hi : Nat} {v : Value} (ht : P.underlying t = some (.slice e))
    (hinfo : (P.info? e).map (fun i => (i.zero, i.size, i.bytes)) = some (some z, sz, bytes)) (hzs : z.cells.size = sz) (hzi : ∀ v ∈ z.cells.toList, IsI v) (hsz : 0 < sz) (hby : bytes ≤ 1024)
    (hv : OV u base e sz lo hi v) (hhi : hi ≤ 1000) (hbase : base ≤ u.heap.size) {b : Nat} (hb : IB u b e sz) :
    ∃ v' w', (Builtin.append_ #[t, t] ty #[v, .slice (some ⟨b, 0, none⟩) 1 1]).run P u = .ok v' w' ∧ OV w' base e sz (lo + 1) (hi + 1) v' ∧ Chg base u w' := by
  obtain ⟨i, hi', hz, hsize, hbi⟩ := info_parts hinfo
  subst hsize hbi
  obtain ⟨A, n, cap, rfl, hlo, hn, hA⟩ := hv
  obtain ⟨new, n1, n2, n3⟩ := hb
  have hl : new.toList.length = 1 * i.size := by simpa using n2
  have hnews : ∀ j v, new.toList[j]? = some v → u.cell? ((⟨b, 0, none⟩ : Addr).add j) = some v := fun j v hj => by
    rw [Addr.add_mid, Nat.zero_add, cell_of_row u b j new _ _ n1]
    rwa [Array.getElem?_toList] at hj
  have h1 : ∀ v ∈ new.toList, v.oneCell' = true := fun v hv => isI_one (n3 v hv)
  have hbytes : (n + 1) * i.bytes ≤ 1001 * 1024 := Nat.mul_le_mul (by omega) hby
  have grown : ∀ (olds : Array Value) (old : Nat), olds.size = n * i.size → (∀ v ∈ olds.toList, IsI v) →
      OV (u.drew.alloc (.cells (olds ++ new.toList.toArray ++ Builtin.zeroCells z.cells (grownCap u (n + 1) old e - (n + 1))) e)) base e i.size (lo + 1) (hi + 1) (.slice (some ⟨u.heap.size, 0, none⟩) (n + 1) (grownCap u (n + 1) old e)) ∧
      Chg base u (u.drew.alloc (.cells (olds ++ new.toList.toArray ++ Builtin.zeroCells z.cells (grownCap u (n + 1) old e - (n + 1))) e)) := by
    intro olds old ho hoi
    have hge := grownCap_ge u (n + 1) old e
    have hcm : grownCap u (n + 1) old e ≤ maxLen := grownCap_le_maxLen u (n + 1) old e (by unfold maxLen; omega)
    refine ⟨⟨_, _, _, rfl, by omega, by omega, .inr ⟨u.heap.size, rfl, hbase, hge, hcm, _, heap_alloc_new u.drew _, ?_, ?_⟩⟩, ⟨rfl, rfl, rfl, by simp, fun k hk => .inl (Below.heap_alloc u.drew _ k hk), fun g e' N h => h.of_eq (Below.heap_alloc u.drew _ g h.lt)⟩⟩
    · simp only [Array.size_append, List.size_toArray, size_zeroCells, hzs, ho, hl, ← Nat.add_mul]
      congr 1
      omega
    · intro v hv
      simp only [Array.toList_append, List.mem_append] at hv
      rcases hv with (hv | hv) | hv
      · exact hoi v hv
      · exact n3 v hv
      · exact zeroCells_mem hzi v hv
  rcases hA with ⟨rfl, rfl, rfl⟩ | ⟨g, rfl, hbg, hnc, hcm, cur, hg, hcs, hci⟩
  · have hr := run_append_nil (P := P) u t ty e i z ht hi' hz ⟨b, 0, none⟩ 1 1 new.toList hl hnews (by omega) (by omega) (by omega)
    have hgr := grown #[] 0 (by simp) (by simp)
    simp only [Nat.zero_add, Array.empty_append] at hgr
    exact ⟨_, _, hr, hgr.1, hgr.2⟩
  · by_cases hroom : n + 1 ≤ cap
    · have hfit : n * i.size + new.toList.length ≤ cur.size := by rw [hl, hcs, ← Nat.add_mul]; exact Nat.mul_le_mul_right _ hroom
      have hr := run_append_room (P := P) u t ty e i ht hi' g n cap cur hg ⟨b, 0, none⟩ 1 1 new.toList hl hnews h1 hroom hfit
      have hmem : ∀ v ∈ (cur.toList.take (n * i.size) ++ new.toList ++ cur.toList.drop (n * i.size + new.toList.length)).toArray.toList, IsI v := by
        intro v hv
        simp only [List.mem_append] at hv
        rcases hv with (hv | hv) | hv
        · exact hci v (List.mem_of_mem_take hv)
        · exact n3 v hv
        · exact hci v (List.mem_of_mem_drop hv)
      have hsz' : (cur.toList.take (n * i.size) ++ new.toList ++ cur.toList.drop (n * i.size + new.toList.length)).toArray.size = cap * i.size := by
        simp only [List.size_toArray, List.length_append, List.length_take, List.length_drop, Array.length_toList]
        simp only [Array.length_toList] at hfit
        omega
      have hrow := setRow_heap u g cur (cur.toList.take (n * i.size) ++ new.toList ++ cur.toList.drop (n * i.size + new.toList.length)).toArray e _ hg
      refine ⟨_, _, hr, ⟨_, _, _, rfl, by omega, by omega, .inr ⟨g, rfl, hbg, hroom, hcm, _, hrow, hsz', hmem⟩⟩, ⟨rfl, rfl, rfl, by simp, fun k hk => ?_, fun k e' N h => ?_⟩⟩
      · by_cases e' : k = g
        · subst e'; exact .inr ⟨hbg, e, _, cur, hg, rfl, hci⟩
        · exact .inl (setRow_other u g k _ e')
      · by_cases e2 : k = g
        · subst e2
          obtain ⟨cur', c1, c2, c3⟩ := h
          rw [hg] at c1
          injection c1 with c1
          injection c1 with c1 c4
          subst c1 c4
          exact ⟨_, hrow, by rw [hsz', ← c2, hcs], hmem⟩
        · exact h.of_eq (setRow_other u g k _ e2)
    · have hcut : ∀ j v, (cur.toList.take (n * i.size))[j]? = some v → u.cell? ((⟨g, 0, none⟩ : Addr).add j) = some v := fun j v hj => by
        rw [Addr.add_mid, Nat.zero_add, cell_of_row u g j cur _ _ hg]
        rw [List.getElem?_take] at hj
        split at hj
        · rwa [Array.getElem?_toList] at hj
        · cases hj
      have hlt : (cur.toList.take (n * i.size)).length = n * i.size := by
        have : n * i.size ≤ cap * i.size := Nat.mul_le_mul_right _ hnc
        simp only [List.length_take, Array.length_toList]
        omega
      have hr := run_append_grow (P := P) u t ty e i z ht hi' hz ⟨g, 0, none⟩ n cap _ hlt hcut ⟨b, 0, none⟩ 1 1 new.toList hl hnews (by omega) (by omega) (growslice_fits (by omega) (by omega))
      have hgr := grown (cur.toList.take (n * i.size)).toArray cap (by simpa using hlt) (fun v hv => hci v (List.mem_of_mem_take (by simpa using hv)))
      exact ⟨_, _, hr, hgr.1, hgr.2⟩
/-- The same at an operation. -/
theorem oper_append {P : Program} {u : World} {base : Nat} {t e : TypeId} {z : Value} {sz bytes lo hi : Nat} {o : Oper} {a : Act} {s x : Operand} {K : Act → World → Prop} {Q : Exit → Act → World → Prop}
    (ho : o.op = .call { callee := .builtin .append, args := #[s, x], argTypes := #[t, t] }) (ht : P.underlying t = some (.slice e))
    (hinfo : (P.info? e).map (fun i => (i.zero, i.size, i.bytes)) = some (some z, sz, bytes)) (hzs : z.cells.size = sz) (hzi : ∀ v ∈ z.cells.toList, IsI v) (hsz : 0 < sz) (hby : bytes ≤ 1024)
    (hv : OV u base e sz lo hi (a.eval s)) (hhi : hi ≤ 1000) (hbase : base ≤ u.heap.size) {b : Nat} (hx : a.eval x = .slice (some ⟨b, 0, none⟩) 1 1) (hb : IB u b e sz)
    (h : ∀ v' w', OV w' base e sz (lo + 1) (hi + 1) v' → Chg base u w' → K (a.put o.dst v') w') : o.wp P a u K Q := by
  obtain ⟨v', w', hr, h1, h2⟩ := run_append_ov (P := P) (ty := o.type) ht hinfo hzs hzi hsz hby hv hhi hbase hb
  unfold Oper.wp execOp
  simp only [ho, resolve, invoke, builtin, Sem.run_bind, Sem.run_pure, Result.andThen_ok, List.map_toArray, List.map_cons, List.map_nil, hx, hr]
  exact h v' w' h1 h2
/-- A slice of numbers that lies in a block of numbers. -/
def IS (u : World) (base sz : Nat) (A : Option Addr) (n : Nat) : Prop := n = 0 ∨ ∃ b off e N, A = some ⟨b, off, none⟩ ∧ base ≤ b ∧ IB u b e N ∧ off + n * sz ≤ N
theorem IS.mono {u u' : World} {base sz : Nat} {A : Option Addr} {n : Nat} (h : IS u base sz A n) (hI : ∀ g e N, IB u g e N → IB u' g e N) : IS u' base sz A n := by
  rcases h with h | ⟨b, off, e, N, h1, h0, h2, h3⟩
  · exact .inl h
  · exact .inr ⟨b, off, e, N, h1, h0, hI _ _ _ h2, h3⟩
theorem OV.is {u : World} {base : Nat} {e : TypeId} {sz lo hi : Nat} {A : Option Addr} {n cap : Nat} (h : OV u base e sz lo hi (.slice A n cap)) : IS u base sz A n ∧ n ≤ cap ∧ cap ≤ maxLen := by
  obtain ⟨A', n', cap', hv, _, _, hA⟩ := h
  injection hv with h1 h2 h3
  subst h1 h2 h3
  rcases hA with ⟨rfl, rfl, rfl⟩ | ⟨g, rfl, hb, hc, hm, hI⟩
  · exact ⟨.inl rfl, Nat.le_refl _, Nat.zero_le _⟩
  · exact ⟨.inr ⟨g, 0, e, _, rfl, hb, hI, by rw [Nat.zero_add]; exact Nat.mul_le_mul_right _ hc⟩, hc, hm⟩
theorem IS.alloc {u : World} {base sz : Nat} {A : Option Addr} {n : Nat} (h : IS u base sz A n) (o : Obj) : IS (u.alloc o) base sz A n := h.mono fun _ _ _ h => h.alloc o
theorem IS.drewN {u : World} {base sz : Nat} {A : Option Addr} {n : Nat} (h : IS u base sz A n) (k : Nat) : IS (u.drewN k) base sz A n := h
theorem IS.drew {u : World} {base sz : Nat} {A : Option Addr} {n : Nat} (h : IS u base sz A n) : IS u.drew base sz A n := h
theorem IS.only {u u' : World} {base sz : Nat} {A : Option Addr} {n R : Nat} {k : Int} (hR : Rd u R k) (hO : Only R u u') (h : IS u base sz A n) : IS u' base sz A n := h.mono fun _ _ _ h => h.only hO (h.notRd hR)
theorem IS.far {u : World} {base sz : Nat} {A : Option Addr} {n : Nat} (h : IS u base sz A n) {p : Addr} (hp : p.block < base) (v : Value) : IS (u.setCell p v) base sz A n := by
  rcases h with h | ⟨b, off, e, N, h1, h0, h2, h3⟩
  · exact .inl h
  · exact .inr ⟨b, off, e, N, h1, h0, h2.far (by omega) v, h3⟩
theorem IS.read {u : World} {base sz : Nat} {A : Option Addr} {n : Nat} (h : IS u base sz A n) : ∃ p : Nat → Int, RS u u.heap.size sz A n (iv p) := by
  rcases h with h | ⟨b, off, e, N, rfl, _, hI, hle⟩
  · exact ⟨fun _ => 0, .inl h⟩
  · obtain ⟨p, hp⟩ := hI.content
    exact ⟨fun j => p (off + j), .inr ⟨b, off, rfl, hI.lt, fun j hj => hp _ (by omega)⟩⟩
end Go.Proofs.Ytabioinmpjfflaa
