/-
  A region that draws its order, walked once, where an operation knows that those it waits for have run. No conditions.
-/
import Derived.Test.YthopeedonikdhaaTyped2
namespace Go.Proofs.Ythopeedonikdhaa
set_option linter.all false
set_option linter.unusedSimpArgs false
set_option linter.unusedVariables false
open Go.ChangeShapes Go.WideShapes Go.ChangeAt Go.RowKit

section
variable {P : Program} {ops : Array Oper} {Q : Exit → Act → World → Prop}
theorem wp_region_typed3 {id : Nat} {a0 : Act} {w : World} (hm : P.follows .mixedOrders = true) (hB : typedB ops a0.tmps.size = true)
    (C : (Nat → Bool) → Nat → Act → World → Prop) (Ext : World → World → Prop) (T : Nat → Value → World → Prop)
    (hT : ∀ j v w w', T j v w → Ext w w' → T j v w')
    (h0 : C (fun _ => false) 0 a0 w.drew)
    (hop : ∀ (L : Nat → Bool) (i : Nat) (o : Oper) (n : Nat) (a : Act) (w : World), ops[i]? = some o → n < ops.size → L i = false →
      (∀ (j : Nat) (oj : Oper), ops[j]? = some oj → L j = true → ∀ e ∈ oj.after, Region.binds .any e = true → L e.on = true) →
      (∀ e ∈ o.after, Region.binds .any e = true → L e.on = true) → a.tmps.size = a0.tmps.size → C L n a w → (∀ e ∈ o.after, Region.binds .any e = true → ∀ (oe : Oper) (t : Nat), ops[e.on]? = some oe → oe.dst = some t → T e.on (a.tmps.getD t undef) w) →
      (∀ t, (∀ (j : Nat) (oj : Oper), ops[j]? = some oj → oj.dst ≠ some t) → a.tmps.getD t undef = a0.tmps.getD t undef) →
      o.wp P a w (Typed2 (C (updL L i)) Ext T i n o.dst a w) Q)
    (hdone : ∀ (L : Nat → Bool) (a : Act) (w : World), (∀ j, j < ops.size → L j = true) → C L ops.size a w → (∀ (j : Nat) (o : Oper) (t : Nat), ops[j]? = some o → o.dst = some t → T j (a.tmps.getD t undef) w) → (∀ (j : Nat) (o : Oper), ops[j]? = some o → ∃ v, T j v w) →
      (∀ t, (∀ (j : Nat) (oj : Oper), ops[j]? = some oj → oj.dst ≠ some t) → a.tmps.getD t undef = a0.tmps.getD t undef) → a.tmps.size = a0.tmps.size → a.defers = a0.defers → Q .normal a w) :
    (Code.region id ops true).wp P Q a0 w := by
  refine wp_region_any hm ?_
  refine wpAny_of_inv (I := fun listed a w => C (fun j => listed.getD j false) (listed.toList.count true) a w ∧ a.tmps.size = a0.tmps.size ∧ a.defers = a0.defers ∧
    (∀ (j : Nat) (o : Oper), ops[j]? = some o → listed.getD j false = true → ∃ v, (∀ t, o.dst = some t → a.tmps.getD t undef = v) ∧ T j v w) ∧
    (∀ t, (∀ (j : Nat) (oj : Oper), ops[j]? = some oj → oj.dst ≠ some t) → a.tmps.getD t undef = a0.tmps.getD t undef) ∧
    (∀ (j : Nat) (oj : Oper), ops[j]? = some oj → listed.getD j false = true → ∀ e ∈ oj.after, Region.binds .any e = true → listed.getD e.on false = true)) ?_ ?_ _ _ _ _ ?_ (by simp) (by simp)
  · rintro listed a w i o ⟨hC, hs, hd, hL, hU, hcl⟩ hsz ho hun hall
    obtain ⟨hg, hlt, hdst⟩ := typedB_at hB ho
    have hi' : i < listed.size := by rw [hsz]; exact (Array.getElem?_eq_some_iff.1 ho).1
    have hfalse : listed.toList[i]? = some false := by
      rw [Array.getElem?_toList, Array.getElem?_eq_getElem hi']
      rw [Array.getD_eq_getD_getElem?, Array.getElem?_eq_getElem hi'] at hun
      simpa using hun
    have hunf : listed.getD i false = false := by
      rw [Array.getElem?_toList] at hfalse
      rw [Array.getD_eq_getD_getElem?, hfalse]; rfl
    unfold wpOp
    rw [ho]
    simp only [Region.wanted, hg]
    rw [if_pos (by simp)]
    have hcnt : listed.toList.count true < ops.size := by
      have h1 := count_set listed.toList i hfalse
      have h2 : (listed.toList.set i true).count true ≤ (listed.toList.set i true).length := List.count_le_length
      simp only [List.length_set, Array.length_toList] at h2
      omega
    have hupd : (fun j => (listed.setIfInBounds i true).getD j false) = updL (fun j => listed.getD j false) i := by
      funext j
      unfold updL
      by_cases e : i = j
      · subst e; simp [hi']
      · simp [Array.getElem?_setIfInBounds, e, Ne.symm e]
    refine .inl (Oper.wp_mono ?_ (hop _ i o _ a w ho hcnt hunf hcl hall hs hC (fun e he hb oe t hoe ht => by
      obtain ⟨v, h1, h2⟩ := hL e.on oe hoe (hall e he hb)
      rw [h1 t ht]; exact h2) hU))
    rintro a' w' ⟨v, rfl, hC', hE, hTv⟩
    refine ⟨?_, by rw [put_size]; exact hs, by rw [put_defers]; exact hd, fun j oj hj hl => ?_, fun t ht => ?_, fun j oj hj hl e he hb => ?_⟩
    · rw [Array.toList_setIfInBounds, count_set _ _ hfalse, hupd]
      exact hC'
    · by_cases e : i = j
      · subst e
        obtain rfl : o = oj := Option.some.inj (ho.symm.trans hj)
        exact ⟨v, fun t ht => by rw [ht, put_get (by rw [hs]; exact (hdst t ht).1)], hTv⟩
      · have hl' : listed.getD j false = true := by
          have hj' : j < listed.size := by rw [hsz]; exact (Array.getElem?_eq_some_iff.1 hj).1
          simpa [Array.getElem?_setIfInBounds, e] using hl
        obtain ⟨u, hu, hTu⟩ := hL j oj hj hl'
        refine ⟨u, fun t ht => ?_, hT _ _ _ _ hTu hE⟩
        have hne : o.dst ≠ some t := by
          rcases Nat.lt_or_gt_of_ne e with hlt' | hgt
          · exact ((typedB_at hB hj).2.2 t ht).2 i o hlt' ho
          · intro e'
            exact (hdst t e').2 j oj hgt hj ht
        rw [put_other hne]
        exact hu t ht
    · rw [put_other (ht i o ho)]
      exact hU t ht
    · have h1 := congrFun hupd j
      have h2 := congrFun hupd e.on
      (try simp only at h1 h2)
      rw [h1] at hl
      rw [h2]
      by_cases e2 : e.on = i
      · rw [e2]; exact updL_eq _ _
      · rw [updL_ne e2]
        by_cases e1 : j = i
        · subst e1
          obtain rfl : o = oj := Option.some.inj (ho.symm.trans hj)
          exact hall e he hb
        · rw [updL_ne e1] at hl
          exact hcl j oj hj hl e he hb
  · rintro listed a w ⟨hC, hs, hd, hL, hU, hcl⟩ hsz hr
    have hall : ∀ j, j < ops.size → listed.getD j false = true := by
      intro j
      induction j using Nat.strongRecOn with
      | _ j ih =>
        intro hj
        have ho : ops[j]? = some ops[j] := Array.getElem?_eq_getElem hj
        cases hv : listed.getD j true
        · exfalso
          have : j ∈ Region.ready .any ops listed := mem_ready.2 ⟨hv, _, ho, fun e he hb => ih e.on ((typedB_at hB ho).2.1 e he hb) (Nat.lt_trans ((typedB_at hB ho).2.1 e he hb) hj)⟩
          rw [hr] at this
          cases this
        · have hj' : j < listed.size := by omega
          simp [hj'] at hv ⊢
          exact hv
    have hcount : listed.toList.count true = ops.size := by
      rw [List.count_eq_length.2 (fun b hb => ?_)]
      · simpa using hsz
      · obtain ⟨j, hj⟩ := List.getElem?_of_mem hb
        have hjl : j < ops.size := by
          have := (List.getElem?_eq_some_iff.1 hj).1
          simp at this; omega
        have := hall j hjl
        rw [Array.getD_eq_getD_getElem?, ← Array.getElem?_toList, hj] at this
        simpa using this.symm
    rw [hcount] at hC
    exact hdone _ a w hall hC (fun j o t hj ht => by
      obtain ⟨v, h1, h2⟩ := hL j o hj (hall j (Array.getElem?_eq_some_iff.1 hj).1)
      rw [h1 t ht]; exact h2) (fun j o hj => by
      obtain ⟨v, _, h2⟩ := hL j o hj (hall j (Array.getElem?_eq_some_iff.1 hj).1)
      exact ⟨v, h2⟩) hU hs hd
  · refine ⟨?_, rfl, rfl, fun j o hj hl => ?_, fun t ht => rfl, fun j o hj hl => ?_⟩
    · have e : (fun j => (Array.replicate ops.size false).getD j false) = fun _ => false := by
        funext j
        by_cases hj : j < ops.size <;> simp [hj]
      rw [e]
      simpa [List.count_replicate] using h0
    · exfalso
      have hj' : j < ops.size := (Array.getElem?_eq_some_iff.1 hj).1
      simp [hj'] at hl
    · exfalso
      have hj' : j < ops.size := (Array.getElem?_eq_some_iff.1 hj).1
      simp [hj'] at hl
end
end Go.Proofs.Ythopeedonikdhaa
