/-
  A region that draws its order, walked once, whose condition may speak of the operations that have run. No conditions.
-/
import Derived.Test.YtabioinmpjfflaaBlk
import Derived.Test.YtabioinmpjfflaaKinds
namespace Go.Proofs.Ytabioinmpjfflaa
set_option linter.all false
set_option linter.unusedSimpArgs false
set_option linter.unusedVariables false
set_option maxRecDepth 20000
open Go.ChangeShapes Go.WideShapes Go.ChangeAt Go.RowKit

def updL (L : Nat → Bool) (i : Nat) : Nat → Bool := fun j => if j = i then true else L j
theorem updL_ne {L : Nat → Bool} {i j : Nat} (h : j ≠ i) : updL L i j = L j := if_neg h
theorem updL_eq (L : Nat → Bool) (i : Nat) : updL L i i = true := if_pos rfl
/-- What is asked behind an operation; the condition may speak of the frame. -/
def Typed2 (C : Nat → Act → World → Prop) (Ext : World → World → Prop) (T : Nat → Value → World → Prop) (i n : Nat) (dst : Option Nat) (a : Act) (w : World) (a' : Act) (w' : World) : Prop := ∃ v, a' = a.put dst v ∧ C (n + 1) (a.put dst v) w' ∧ Ext w w' ∧ T i v w'
theorem Typed2.mk {C : Nat → Act → World → Prop} {Ext : World → World → Prop} {T : Nat → Value → World → Prop} {i n : Nat} {dst : Option Nat} {a : Act} {w : World} {a' : Act} {w' : World} (v : Value) (h1 : a' = a.put dst v) (h2 : C (n + 1) (a.put dst v) w') (h3 : Ext w w') (h4 : T i v w') :
    Typed2 C Ext T i n dst a w a' w' := ⟨v, h1, h2, h3, h4⟩
/-- The operations that operation j waits for, and itself. -/
def reach (ops : Array Oper) : Nat → Nat → List Nat
  | 0, _ => []
  | f + 1, j => j :: (match ops[j]? with
    | none => []
    | some o => (o.after.toList.filter fun e => Region.binds .any e).flatMap fun e => reach ops f e.on)
theorem reach_true {ops : Array Oper} {L : Nat → Bool} (hcl : ∀ (j : Nat) (oj : Oper), ops[j]? = some oj → L j = true → ∀ e ∈ oj.after, Region.binds .any e = true → L e.on = true) :
    ∀ (f j : Nat), L j = true → ∀ i ∈ reach ops f j, L i = true
  | 0, _, _, i, h => by simp [reach] at h
  | f + 1, j, hj, i, h => by
    unfold reach at h
    rw [List.mem_cons] at h
    rcases h with h | h
    · rw [h]; exact hj
    · cases ho : ops[j]? with
      | none => rw [ho] at h; simp at h
      | some o =>
        rw [ho] at h
        simp only [List.mem_flatMap, List.mem_filter] at h
        obtain ⟨e, ⟨he, hb⟩, hi⟩ := h
        exact reach_true hcl f e.on (hcl j o ho hj e (by simpa using he) hb) i hi
/-- While another operation has not run the last one, which waits for all, has not either. -/
theorem last_false {ops : Array Oper} {L : Nat → Bool} (hcl : ∀ (j : Nat) (oj : Oper), ops[j]? = some oj → L j = true → ∀ e ∈ oj.after, Region.binds .any e = true → L e.on = true)
    (N : Nat) (h : (List.range (N + 1)).all (fun i => (reach ops (N + 1) N).contains i) = true) {i : Nat} (hi : i < N + 1) (hL : L i = false) : L N = false := by
  cases hN : L N
  · rfl
  · have h1 := List.all_eq_true.1 h i (List.mem_range.2 hi)
    have := reach_true hcl (N + 1) N hN i (by simpa using h1)
    rw [hL] at this; cases this
section
variable {P : Program} {ops : Array Oper} {Q : Exit → Act → World → Prop}
theorem wp_region_typed2 {id : Nat} {a0 : Act} {w : World} (hm : P.follows .mixedOrders = true) (hB : typedB ops a0.tmps.size = true)
    (C : (Nat → Bool) → Nat → Act → World → Prop) (Ext : World → World → Prop) (T : Nat → Value → World → Prop)
    (hT : ∀ j v w w', T j v w → Ext w w' → T j v w')
    (h0 : C (fun _ => false) 0 a0 w.drew)
    (hop : ∀ (L : Nat → Bool) (i : Nat) (o : Oper) (n : Nat) (a : Act) (w : World), ops[i]? = some o → n < ops.size → L i = false →
      (∀ (j : Nat) (oj : Oper), ops[j]? = some oj → L j = true → ∀ e ∈ oj.after, Region.binds .any e = true → L e.on = true) →
      C L n a w → (∀ e ∈ o.after, Region.binds .any e = true → ∀ (oe : Oper) (t : Nat), ops[e.on]? = some oe → oe.dst = some t → T e.on (a.tmps.getD t undef) w) →
      (∀ t, (∀ (j : Nat) (oj : Oper), ops[j]? = some oj → oj.dst ≠ some t) → a.tmps.getD t undef = a0.tmps.getD t undef) →
      o.wp P a w (Typed2 (C (updL L i)) Ext T i n o.dst a w) Q)
    (hdone : ∀ (L : Nat → Bool) (a : Act) (w : World), (∀ j, j < ops.size → L j = true) → C L ops.size a w → (∀ (j : Nat) (o : Oper) (t : Nat), ops[j]? = some o → o.dst = some t → T j (a.tmps.getD t undef) w) → (∀ (j : Nat) (o : Oper), ops[j]? = some o → ∃ v, T j v w) →
      (∀ t, (∀ (j : Nat) (oj : Oper), ops[j]? = some oj → oj.dst ≠ some t) → a.tmps.getD t undef = a0.tmps.getD t undef) → a.tmps.size = a0.tmps.size → a.defers = a0.defers → Q .normal a w) :
    (Code.region id ops true).wp P Q a0 w := by
  refine wp_region_any hm ?_
  refine wpAny_of_inv (I := fun listed a w => C (fun j => listed.getD j false) (listed.toList.count true) a w ∧ a.tmps.size = a0.tmps.size ∧ a.defers = a0.defers ∧
    (∀ (j : Nat) (o : Oper), ops[j]? = some o → listed.getD j false = true → ∃ v, (∀ t, o.dst = some t → a.tmps.getD t undef = v) ∧ T j v w) ∧
    (∀ t, (∀ (j : Nat) (oj : Oper), ops[j]? = some oj → oj.dst ≠ some t) → a.tmps.getD t undef = a0.tmps.getD t undef) ∧
    (∀ (j : Nat) (oj : Oper), ops[j]? = some oj → listed.getD j false = true → ∀ e ∈ oj.after, Region.binds .any e = true → listed.getD e.on false = true)) ?_ ?_ _ _ _ _ ?_ (by simp) (by simp)
  · rintro listed a w i o ⟨hC, hs, hd, hL, hU, hcl⟩ hsz ho hun hall
    obtain ⟨hg, hlt, hdst⟩ := typedB_at hB ho
    have hi' : i < listed.size := by rw [hsz]; exact (Array.getElem?_eq_some_iff.1 ho).1
    have hfalse : listed.toList[i]? = some false := by
      rw [Array.getElem?_toList, Array.getElem?_eq_getElem hi']
      rw [Array.getD_eq_getD_getElem?, Array.getElem?_eq_getElem hi'] at hun
      simpa using hun
    have hunf : listed.getD i false = false := by
      rw [Array.getElem?_toList] at hfalse
      rw [Array.getD_eq_getD_getElem?, hfalse]; rfl
    unfold wpOp
    rw [ho]
    simp only [Region.wanted, hg]
    rw [if_pos (by simp)]
    have hcnt : listed.toList.count true < ops.size := by
      have h1 := count_set listed.toList i hfalse
      have h2 : (listed.toList.set i true).count true ≤ (listed.toList.set i true).length := List.count_le_length
      simp only [List.length_set, Array.length_toList] at h2
      omega
    have hupd : (fun j => (listed.setIfInBounds i true).getD j false) = updL (fun j => listed.getD j false) i := by
      funext j
      unfold updL
      by_cases e : i = j
      · subst e; simp [hi']
      · simp [Array.getElem?_setIfInBounds, e, Ne.symm e]
    refine .inl (Oper.wp_mono ?_ (hop _ i o _ a w ho hcnt hunf hcl hC (fun e he hb oe t hoe ht => by
      obtain ⟨v, h1, h2⟩ := hL e.on oe hoe (hall e he hb)
      rw [h1 t ht]; exact h2) hU))
    rintro a' w' ⟨v, rfl, hC', hE, hTv⟩
    refine ⟨?_, by rw [put_size]; exact hs, by rw [put_defers]; exact hd, fun j oj hj hl => ?_, fun t ht => ?_, fun j oj hj hl e he hb => ?_⟩
    · rw [Array.toList_setIfInBounds, count_set _ _ hfalse, hupd]
      exact hC'
    · by_cases e : i = j
      · subst e
        obtain rfl : o = oj := Option.some.inj (ho.symm.trans hj)
        exact ⟨v, fun t ht => by rw [ht, put_get (by rw [hs]; exact (hdst t ht).1)], hTv⟩
      · have hl' : listed.getD j false = true := by
          have hj' : j < listed.size := by rw [hsz]; exact (Array.getElem?_eq_some_iff.1 hj).1
          simpa [Array.getElem?_setIfInBounds, e] using hl
        obtain ⟨u, hu, hTu⟩ := hL j oj hj hl'
        refine ⟨u, fun t ht => ?_, hT _ _ _ _ hTu hE⟩
        have hne : o.dst ≠ some t := by
          rcases Nat.lt_or_gt_of_ne e with hlt' | hgt
          · exact ((typedB_at hB hj).2.2 t ht).2 i o hlt' ho
          · intro e'
            exact (hdst t e').2 j oj hgt hj ht
        rw [put_other hne]
        exact hu t ht
    · rw [put_other (ht i o ho)]
      exact hU t ht
    · have h1 := congrFun hupd j
      have h2 := congrFun hupd e.on
      (try simp only at h1 h2)
      rw [h1] at hl
      rw [h2]
      by_cases e2 : e.on = i
      · rw [e2]; exact updL_eq _ _
      · rw [updL_ne e2]
        by_cases e1 : j = i
        · subst e1
          obtain rfl : o = oj := Option.some.inj (ho.symm.trans hj)
          exact hall e he hb
        · rw [updL_ne e1] at hl
          exact hcl j oj hj hl e he hb
  · rintro listed a w ⟨hC, hs, hd, hL, hU, hcl⟩ hsz hr
    have hall : ∀ j, j < ops.size → listed.getD j false = true := by
      intro j
      induction j using Nat.strongRecOn with
      | _ j ih =>
        intro hj
        have ho : ops[j]? = some ops[j] := Array.getElem?_eq_getElem hj
        cases hv : listed.getD j true
        · exfalso
          have : j ∈ Region.ready .any ops listed := mem_ready.2 ⟨hv, _, ho, fun e he hb => ih e.on ((typedB_at hB ho).2.1 e he hb) (Nat.lt_trans ((typedB_at hB ho).2.1 e he hb) hj)⟩
          rw [hr] at this
          cases this
        · have hj' : j < listed.size := by omega
          simp [hj'] at hv ⊢
          exact hv
    have hcount : listed.toList.count true = ops.size := by
      rw [List.count_eq_length.2 (fun b hb => ?_)]
      · simpa using hsz
      · obtain ⟨j, hj⟩ := List.getElem?_of_mem hb
        have hjl : j < ops.size := by
          have := (List.getElem?_eq_some_iff.1 hj).1
          simp at this; omega
        have := hall j hjl
        rw [Array.getD_eq_getD_getElem?, ← Array.getElem?_toList, hj] at this
        simpa using this.symm
    rw [hcount] at hC
    exact hdone _ a w hall hC (fun j o t hj ht => by
      obtain ⟨v, h1, h2⟩ := hL j o hj (hall j (Array.getElem?_eq_some_iff.1 hj).1)
      rw [h1 t ht]; exact h2) (fun j o hj => by
      obtain ⟨v, _, h2⟩ := hL j o hj (hall j (Array.getElem?_eq_some_iff.1 hj).1)
      exact ⟨v, h2⟩) hU hs hd
  · refine ⟨?_, rfl, rfl, fun j o hj hl => ?_, fun t ht => rfl, fun j o hj hl => ?_⟩
    · have e : (fun j => (Array.replicate ops.size false).getD j false) = fun _ => false := by
        funext j
        by_cases hj : j < ops.size <;> simp [hj]
      rw [e]
      simpa [List.count_replicate] using h0
    · exfalso
      have hj' : j < ops.size := (Array.getElem?_eq_some_iff.1 hj).1
      simp [hj'] at hl
    · exfalso
      have hj' : j < ops.size := (Array.getElem?_eq_some_iff.1 hj).1
      simp [hj'] at hl
end

/-- An element of a row of numbers. -/
def kEl (v : Value) (u : World) : Prop := ∃ b i e N, v = .pointer (some ⟨b, i, none⟩) ∧ i < N ∧ IB u b e N
/-- A row of n numbers, just written out. -/
def kLit (base : Nat) (e : TypeId) (n sz : Nat) (v : Value) (u : World) : Prop := ∃ b, v = .slice (some ⟨b, 0, none⟩) n n ∧ base ≤ b ∧ IB u b e (n * sz)
def kAny (v : Value) : Prop := ∃ x : Int, v = .int .i64 x
/-- Blocks of numbers stay; boxes stay boxes. -/
def XT (Bx : World → Nat → Prop) (u u' : World) : Prop := (∀ g e N, IB u g e N → IB u' g e N) ∧ ∀ b, Bx u b → Bx u' b
section
variable {Bx : World → Nat → Prop} {u u' : World}
theorem XT.refl (Bx : World → Nat → Prop) (u : World) : XT Bx u u := ⟨fun _ _ _ h => h, fun _ h => h⟩
theorem kEl.ext {v : Value} (h : kEl v u) (e : XT Bx u u') : kEl v u' := by
  obtain ⟨b, i, t, N, h1, h2, h3⟩ := h
  exact ⟨b, i, t, N, h1, h2, e.1 _ _ _ h3⟩
theorem kLit.ext {base : Nat} {t : TypeId} {n sz : Nat} {v : Value} (h : kLit base t n sz v u) (e : XT Bx u u') : kLit base t n sz v u' := by
  obtain ⟨b, h1, h2, h3⟩ := h
  exact ⟨b, h1, h2, e.1 _ _ _ h3⟩
theorem OV.ext {base : Nat} {t : TypeId} {sz lo hi : Nat} {v : Value} (h : OV u base t sz lo hi v) (e : XT Bx u u') : OV u' base t sz lo hi v := h.mono e.1
theorem ib_only {R : Nat} {k : Int} (hR : Rd u R k) (hO : Only R u u') : ∀ g e N, IB u g e N → IB u' g e N := fun _ _ _ h => h.only hO (h.notRd hR)
theorem XT.only {R : Nat} {k : Int} (hR : Rd u R k) (hO : Only R u u') (hB : ∀ b, Bx u b → (∀ i, i ≠ R → i < u.heap.size → u'.heap[i]? = u.heap[i]?) → Bx u' b) : XT Bx u u' :=
  ⟨ib_only hR hO, fun b h => hB b h fun i hi hl => hO.block i hl (by intro e; injection e; omega)⟩
theorem XT.alloc (o : Obj) (hB : ∀ b, Bx u b → (∀ i, i < u.heap.size → (u.alloc o).heap[i]? = u.heap[i]?) → Bx (u.alloc o) b) : XT Bx u (u.alloc o) :=
  ⟨fun _ _ _ h => h.alloc o, fun b h => hB b h fun i hi => Below.heap_alloc u o i hi⟩
theorem kLit.new {base : Nat} (hb : base ≤ u.heap.size) (e : TypeId) {sz n : Nat} (cs : Array Value) (hs : cs.size = n * sz) (h : ∀ v ∈ cs.toList, IsI v) : kLit base e n sz (.slice (some ⟨u.heap.size, 0, none⟩) n n) (u.alloc (.cells cs e)) :=
  ⟨_, rfl, hb, hs ▸ IB.new u e cs h⟩
end
end Go.Proofs.Ytabioinmpjfflaa
