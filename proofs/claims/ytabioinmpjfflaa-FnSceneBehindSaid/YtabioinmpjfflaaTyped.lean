/-
  A region that draws its order, walked once: each operation keeps a condition on the world and yields a value of its kind, whatever ran before. No conditions.
-/
import Derived.Test.YtabioinmpjfflaaRd
import Derived.OrdersHeld
namespace Go.Proofs.Ytabioinmpjfflaa
set_option linter.all false
set_option linter.unusedSimpArgs false
set_option linter.unusedVariables false
set_option maxRecDepth 20000
open Go.RowKit

theorem count_set : ∀ (l : List Bool) (i : Nat), l[i]? = some false → (l.set i true).count true = l.count true + 1
  | [], _, h => by simp at h
  | b :: l, 0, h => by
    simp at h
    subst h
    simp
  | b :: l, i + 1, h => by
    simp only [List.getElem?_cons_succ] at h
    rw [List.set_cons_succ, List.count_cons, List.count_cons, count_set l i h]
    omega

section
variable {P : Program} {ops : Array Oper} {Q : Exit → Act → World → Prop}
theorem wpAny_of_inv {I : Array Bool → Act → World → Prop}
    (hstep : ∀ listed a w i o, I listed a w → listed.size = ops.size → ops[i]? = some o → listed.getD i true = false → (∀ e ∈ o.after, Region.binds .any e = true → listed.getD e.on false = true) →
      wpOp P ops Q i (fun a' w' => I (listed.setIfInBounds i true) a' w') a w)
    (hdone : ∀ listed a w, I listed a w → listed.size = ops.size → Region.ready .any ops listed = [] → Q .normal a w) :
    ∀ (fuel : Nat) (listed : Array Bool) (a : Act) (w : World), I listed a w → listed.size = ops.size → ops.size ≤ fuel + listed.toList.count true → wpAny P .any ops Q fuel listed a w
  | 0, listed, a, w, hI, hs, hf => by
    have hall : Region.ready .any ops listed = [] := by
      rw [List.eq_nil_iff_forall_not_mem]
      intro i hi
      obtain ⟨h0, o, ho, _⟩ := mem_ready.1 hi
      have hi' : i < listed.size := by rw [hs]; exact (Array.getElem?_eq_some_iff.1 ho).1
      have hc : listed.toList.count true = listed.toList.length := Nat.le_antisymm List.count_le_length (by simp at hf ⊢; omega)
      have := (List.count_eq_length.1 hc) listed[i] (by simp)
      rw [Array.getD_eq_getD_getElem?, Array.getElem?_eq_getElem hi', ← this] at h0
      cases h0
    exact ⟨hall, hdone listed a w hI hs hall⟩
  | fuel + 1, listed, a, w, hI, hs, hf => by
    refine ⟨fun h => hdone listed a w hI hs h, fun i hi => ?_⟩
    obtain ⟨h0, o, ho, hall⟩ := mem_ready.1 hi
    have hi' : i < listed.size := by rw [hs]; exact (Array.getElem?_eq_some_iff.1 ho).1
    refine wpOp_mono (fun a' w' h => wpAny_of_inv hstep hdone fuel _ a' w' h (by simpa using hs) ?_) (hstep listed a w i o hI hs ho h0 hall)
    have hfalse : listed.toList[i]? = some false := by
      rw [Array.getElem?_toList, Array.getElem?_eq_getElem hi']
      rw [Array.getD_eq_getD_getElem?, Array.getElem?_eq_getElem hi'] at h0
      simpa using h0
    rw [Array.toList_setIfInBounds, count_set _ _ hfalse]
    omega

/-- No guard; what an operation waits for stands before it; each slot is written once, and is there. -/
def typedB (ops : Array Oper) (N : Nat) : Bool :=
  (List.range ops.size).all fun i => match ops[i]? with
    | none => false
    | some o => o.guard.isNone && o.after.all (fun e => !Region.binds .any e || decide (e.on < i)) &&
      (match o.dst with
        | none => true
        | some t => decide (t < N) && (List.range i).all fun j => match ops[j]? with
          | some oj => oj.dst != some t
          | none => true)
theorem typedB_at {N i : Nat} {o : Oper} (h : typedB ops N = true) (ho : ops[i]? = some o) :
    o.guard = none ∧ (∀ e ∈ o.after, Region.binds .any e = true → e.on < i) ∧ ∀ t, o.dst = some t → t < N ∧ ∀ j oj, j < i → ops[j]? = some oj → oj.dst ≠ some t := by
  have hi : i < ops.size := (Array.getElem?_eq_some_iff.1 ho).1
  have h1 := List.all_eq_true.1 h i (List.mem_range.2 hi)
  rw [ho] at h1
  simp only [Bool.and_eq_true, Option.isNone_iff_eq_none] at h1
  obtain ⟨⟨hg, ha⟩, hd⟩ := h1
  refine ⟨hg, fun e he hb => ?_, fun t ht => ?_⟩
  · have := Array.all_eq_true_iff_forall_mem.1 ha e he
    simpa [hb] using this
  · rw [ht] at hd
    simp only [Bool.and_eq_true, decide_eq_true_eq] at hd
    refine ⟨hd.1, fun j oj hj hoj => ?_⟩
    have := List.all_eq_true.1 hd.2 j (List.mem_range.2 hj)
    rw [hoj] at this
    simpa using this

theorem put_get {a : Act} {t : Nat} {v : Value} (ht : t < a.tmps.size) : (a.put (some t) v).tmps.getD t undef = v := by
  unfold Act.put
  simp [ht]
theorem put_other {a : Act} {d : Option Nat} {t : Nat} {v : Value} (h : d ≠ some t) : (a.put d v).tmps.getD t undef = a.tmps.getD t undef := by
  unfold Act.put
  cases d with
  | none => rfl
  | some d =>
    have hd : d ≠ t := fun e => h (by rw [e])
    simp [Array.getElem?_setIfInBounds, hd]
theorem put_size {a : Act} {d : Option Nat} {v : Value} : (a.put d v).tmps.size = a.tmps.size := by
  unfold Act.put; cases d <;> simp
theorem put_defers {a : Act} {d : Option Nat} {v : Value} : (a.put d v).defers = a.defers := by
  unfold Act.put; cases d <;> rfl

/-- What is asked behind an operation. -/
def Typed (C : Nat → World → Prop) (Ext : World → World → Prop) (T : Nat → Value → World → Prop) (i n : Nat) (dst : Option Nat) (a : Act) (w : World) (a' : Act) (w' : World) : Prop := ∃ v, a' = a.put dst v ∧ C (n + 1) w' ∧ Ext w w' ∧ T i v w'
theorem Typed.mk {C : Nat → World → Prop} {Ext : World → World → Prop} {T : Nat → Value → World → Prop} {i n : Nat} {dst : Option Nat} {a : Act} {w : World} {a' : Act} {w' : World} (v : Value) (h1 : a' = a.put dst v) (h2 : C (n + 1) w') (h3 : Ext w w') (h4 : T i v w') :
    Typed C Ext T i n dst a w a' w' := ⟨v, h1, h2, h3, h4⟩

theorem wp_region_typed {id : Nat} {a0 : Act} {w : World} (hm : P.follows .mixedOrders = true) (hB : typedB ops a0.tmps.size = true)
    (C : Nat → World → Prop) (Ext : World → World → Prop) (T : Nat → Value → World → Prop)
    (hT : ∀ j v w w', T j v w → Ext w w' → T j v w')
    (h0 : C 0 w.drew)
    (hop : ∀ (i : Nat) (o : Oper) (n : Nat) (a : Act) (w : World), ops[i]? = some o → n < ops.size → C n w → (∀ e ∈ o.after, Region.binds .any e = true → ∀ (oe : Oper) (t : Nat), ops[e.on]? = some oe → oe.dst = some t → T e.on (a.tmps.getD t undef) w) →
      (∀ t, (∀ (j : Nat) (oj : Oper), ops[j]? = some oj → oj.dst ≠ some t) → a.tmps.getD t undef = a0.tmps.getD t undef) →
      o.wp P a w (Typed C Ext T i n o.dst a w) Q)
    (hdone : ∀ (a : Act) (w : World), C ops.size w → (∀ (j : Nat) (o : Oper) (t : Nat), ops[j]? = some o → o.dst = some t → T j (a.tmps.getD t undef) w) → (∀ (j : Nat) (o : Oper), ops[j]? = some o → ∃ v, T j v w) →
      (∀ t, (∀ (j : Nat) (oj : Oper), ops[j]? = some oj → oj.dst ≠ some t) → a.tmps.getD t undef = a0.tmps.getD t undef) → a.tmps.size = a0.tmps.size → a.defers = a0.defers → Q .normal a w) :
    (Code.region id ops true).wp P Q a0 w := by
  refine wp_region_any hm ?_
  refine wpAny_of_inv (I := fun listed a w => C (listed.toList.count true) w ∧ a.tmps.size = a0.tmps.size ∧ a.defers = a0.defers ∧
    (∀ (j : Nat) (o : Oper), ops[j]? = some o → listed.getD j false = true → ∃ v, (∀ t, o.dst = some t → a.tmps.getD t undef = v) ∧ T j v w) ∧
    (∀ t, (∀ (j : Nat) (oj : Oper), ops[j]? = some oj → oj.dst ≠ some t) → a.tmps.getD t undef = a0.tmps.getD t undef)) ?_ ?_ _ _ _ _ ?_ (by simp) (by simp)
  · rintro listed a w i o ⟨hC, hs, hd, hL, hU⟩ hsz ho hun hall
    obtain ⟨hg, hlt, hdst⟩ := typedB_at hB ho
    have hi' : i < listed.size := by rw [hsz]; exact (Array.getElem?_eq_some_iff.1 ho).1
    unfold wpOp
    rw [ho]
    simp only [Region.wanted, hg]
    rw [if_pos (by simp)]
    have hcnt : listed.toList.count true < ops.size := by
      have h1 := count_set listed.toList i (by
        rw [Array.getElem?_toList, Array.getElem?_eq_getElem hi']
        rw [Array.getD_eq_getD_getElem?, Array.getElem?_eq_getElem hi'] at hun
        simpa using hun)
      have h2 : (listed.toList.set i true).count true ≤ (listed.toList.set i true).length := List.count_le_length
      simp only [List.length_set, Array.length_toList] at h2
      omega
    refine .inl (Oper.wp_mono ?_ (hop i o _ a w ho hcnt hC (fun e he hb oe t hoe ht => by
      obtain ⟨v, h1, h2⟩ := hL e.on oe hoe (hall e he hb)
      rw [h1 t ht]; exact h2) hU))
    rintro a' w' ⟨v, rfl, hC', hE, hTv⟩
    have hfalse : listed.toList[i]? = some false := by
      rw [Array.getElem?_toList, Array.getElem?_eq_getElem hi']
      rw [Array.getD_eq_getD_getElem?, Array.getElem?_eq_getElem hi'] at hun
      simpa using hun
    refine ⟨?_, by rw [put_size]; exact hs, by rw [put_defers]; exact hd, fun j oj hj hl => ?_, fun t ht => ?_⟩
    · rw [Array.toList_setIfInBounds, count_set _ _ hfalse]
      exact hC'
    · by_cases e : i = j
      · subst e
        obtain rfl : o = oj := Option.some.inj (ho.symm.trans hj)
        exact ⟨v, fun t ht => by rw [ht, put_get (by rw [hs]; exact (hdst t ht).1)], hTv⟩
      · have hl' : listed.getD j false = true := by
          have hj' : j < listed.size := by rw [hsz]; exact (Array.getElem?_eq_some_iff.1 hj).1
          simpa [Array.getElem?_setIfInBounds, e] using hl
        obtain ⟨u, hu, hTu⟩ := hL j oj hj hl'
        refine ⟨u, fun t ht => ?_, hT _ _ _ _ hTu hE⟩
        have hne : o.dst ≠ some t := by
          rcases Nat.lt_or_gt_of_ne e with hlt' | hgt
          · exact ((typedB_at hB hj).2.2 t ht).2 i o hlt' ho
          · intro e'
            exact (hdst t e').2 j oj hgt hj ht
        rw [put_other hne]
        exact hu t ht
    · rw [put_other (ht i o ho)]
      exact hU t ht
  · rintro listed a w ⟨hC, hs, hd, hL, hU⟩ hsz hr
    have hall : ∀ j, j < ops.size → listed.getD j false = true := by
      intro j
      induction j using Nat.strongRecOn with
      | _ j ih =>
        intro hj
        have ho : ops[j]? = some ops[j] := Array.getElem?_eq_getElem hj
        cases hv : listed.getD j true
        · exfalso
          have : j ∈ Region.ready .any ops listed := mem_ready.2 ⟨hv, _, ho, fun e he hb => ih e.on ((typedB_at hB ho).2.1 e he hb) (Nat.lt_trans ((typedB_at hB ho).2.1 e he hb) hj)⟩
          rw [hr] at this
          cases this
        · have hj' : j < listed.size := by omega
          simp [hj'] at hv ⊢
          exact hv
    have hcount : listed.toList.count true = ops.size := by
      rw [List.count_eq_length.2 (fun b hb => ?_)]
      · simpa using hsz
      · obtain ⟨j, hj⟩ := List.getElem?_of_mem hb
        have hjl : j < ops.size := by
          have := (List.getElem?_eq_some_iff.1 hj).1
          simp at this; omega
        have := hall j hjl
        rw [Array.getD_eq_getD_getElem?, ← Array.getElem?_toList, hj] at this
        simpa using this.symm
    rw [hcount] at hC
    exact hdone a w hC (fun j o t hj ht => by
      obtain ⟨v, h1, h2⟩ := hL j o hj (hall j (Array.getElem?_eq_some_iff.1 hj).1)
      rw [h1 t ht]; exact h2) (fun j o hj => by
      obtain ⟨v, _, h2⟩ := hL j o hj (hall j (Array.getElem?_eq_some_iff.1 hj).1)
      exact ⟨v, h2⟩) hU hs hd
  · refine ⟨?_, rfl, rfl, fun j o hj hl => ?_, fun t ht => rfl⟩
    · simpa [List.count_replicate] using h0
    · exfalso
      have hj' : j < ops.size := (Array.getElem?_eq_some_iff.1 hj).1
      simp [hj'] at hl

theorem not_written {t : Nat} (h : ops.any (fun o => o.dst == some t) = false) : ∀ (j : Nat) (oj : Oper), ops[j]? = some oj → oj.dst ≠ some t := fun j oj hj e => by
  have hj' := Array.getElem?_eq_some_iff.1 hj
  have : ops.any (fun o => o.dst == some t) = true := by
    rw [Array.any_eq_true]
    exact ⟨j, hj'.1, by rw [hj'.2, e]; simp⟩
  rw [h] at this; cases this
/-- The frame behind such a region, slot by slot. -/
theorem tmps_eq {a a0 : Act} (hs : a.tmps.size = a0.tmps.size) (hU : ∀ t, (∀ (j : Nat) (oj : Oper), ops[j]? = some oj → oj.dst ≠ some t) → a.tmps.getD t undef = a0.tmps.getD t undef) :
    a.tmps = ((List.range a0.tmps.size).map fun t => if ops.any (fun o => o.dst == some t) = true then a.tmps.getD t undef else a0.tmps.getD t undef).toArray := by
  apply Array.ext_getElem?
  intro t
  by_cases ht : t < a0.tmps.size
  · have hta : t < a.tmps.size := by omega
    have e1 : a.tmps[t]? = some (a.tmps.getD t undef) := by simp [hta]
    have e2 : ∀ f : Nat → Value, ((List.range a0.tmps.size).map f).toArray[t]? = some (f t) := fun f => by simp [ht]
    rw [e1, e2]
    congr 1
    by_cases hw : ops.any (fun o => o.dst == some t) = true
    · rw [if_pos hw]
    · rw [if_neg hw]
      refine hU t fun j oj hj e => hw ?_
      rw [Array.any_eq_true]
      have hj' := Array.getElem?_eq_some_iff.1 hj
      exact ⟨j, hj'.1, by rw [hj'.2, e]; simp⟩
  · have e2 : ∀ f : Nat → Value, ((List.range a0.tmps.size).map f).toArray[t]? = none := fun f => Array.getElem?_eq_none (by simp; omega)
    rw [e2, Array.getElem?_eq_none (by omega)]
/-- The same by the list of the slots that the region writes. -/
theorem tmps_ds {a a0 : Act} (ds : List Nat) (hds : ops.toList.filterMap (·.dst) = ds) (hs : a.tmps.size = a0.tmps.size) (hU : ∀ t, (∀ (j : Nat) (oj : Oper), ops[j]? = some oj → oj.dst ≠ some t) → a.tmps.getD t undef = a0.tmps.getD t undef) :
    a.tmps = ((List.range a0.tmps.size).map fun t => if t ∈ ds then a.tmps.getD t undef else a0.tmps.getD t undef).toArray := by
  rw [tmps_eq hs hU]
  congr 1
  refine List.map_congr_left fun t _ => ?_
  have hiff : ops.any (fun o => o.dst == some t) = true ↔ t ∈ ds := by
    rw [← hds, List.mem_filterMap, Array.any_eq_true]
    constructor
    · rintro ⟨i, hi, h⟩
      exact ⟨ops[i], by simp, by simpa using h⟩
    · rintro ⟨o, ho, h⟩
      obtain ⟨i, hi⟩ := List.getElem?_of_mem ho
      have hi' := List.getElem?_eq_some_iff.1 hi
      exact ⟨i, by simpa using hi'.1, by rw [show ops[i]'(by simpa using hi'.1) = o from by simpa using hi'.2, h]; simp⟩
  by_cases h : t ∈ ds
  · rw [if_pos h, if_pos (hiff.2 h)]
    rw [← tmps_eq hs hU]
  · rw [if_neg h, if_neg (fun e => h (hiff.1 e))]
end
end Go.Proofs.Ytabioinmpjfflaa
