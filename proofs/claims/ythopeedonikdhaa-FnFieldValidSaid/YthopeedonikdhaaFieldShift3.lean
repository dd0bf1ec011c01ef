/-
  ShiftField of the reference, where it has a result. Conditions: at most 1048576 tiles and numbers.
-/
import Derived.Test.YthopeedonikdhaaFieldShift2
import Derived.Test.YthopeedonikdhaaTyped2
namespace Go.Proofs.Ythopeedonikdhaa
set_option linter.all false
set_option linter.unusedSimpArgs false
set_option linter.unusedVariables false
open Go.ChangeShapes Go.WideShapes Go.ChangeAt Go.RowKit

/-- append to an empty literal: a row of the call's own, in a new block; nothing else turns. -/
theorem oper_append_lit {P : Program} {u : World} {t e : TypeId} {z : Value} {sz bytes : Nat} {o : Oper} {a : Act} {s x : Operand} {K : Act → World → Prop} {Q : Exit → Act → World → Prop}
    (ho : o.op = .call { callee := .builtin .append, args := #[s, x], argTypes := #[t, t] }) (ht : P.underlying t = some (.slice e))
    (hinfo : (P.info? e).map (fun i => (i.zero, i.size, i.bytes)) = some (some z, sz, bytes)) (hzs : z.cells.size = sz) (hby : bytes ≤ 1024)
    (base b b' off m cx : Nat) (c : Nat → Value) (hs : a.eval s = .slice (some ⟨b, 0, none⟩) 0 0) (hx : a.eval x = .slice (some ⟨b', off, none⟩) m cx) (hc : ∀ j, j < m * sz → u.cell? ⟨b', off + j, none⟩ = some (c j)) (hm0 : 0 < m) (hm : m ≤ 1048576) (hbase : base ≤ u.heap.size)
    (h : ∀ A' cap' ob, (u.drew.alloc ob).ownsRow base e sz (.slice A' m cap') m ((List.range (m * sz)).map c) → K (a.put o.dst (.slice A' m cap')) (u.drew.alloc ob)) : o.wp P a u K Q := by
  obtain ⟨i, hi, hz, hsize, hbi⟩ := info_parts hinfo
  subst hsize hbi
  have hbytes : (0 + m) * i.bytes ≤ 1048576 * 1024 := Nat.mul_le_mul (by omega) hby
  have hr := run_append_grow (P := P) u t o.type e i z ht hi hz ⟨b, 0, none⟩ 0 0 [] (by simp) (by simp) ⟨b', off, none⟩ m cx ((List.range (m * i.size)).map c) (by simp) (fun j v hj => by
    rw [Addr.add_mid]
    have hl : j < m * i.size := by
      have := (List.getElem?_eq_some_iff.1 hj).1
      simpa using this
    rw [map_get (c := c) hl] at hj
    injection hj with hj
    rw [hc j hl, hj]) (by omega) (by omega) (growslice_fits (by omega) (by omega))
  have hge := grownCap_ge u (0 + m) 0 e
  have hcm := grownCap_le_maxLen u (0 + m) 0 e (by unfold maxLen; omega)
  unfold Oper.wp execOp
  simp only [ho, resolve, invoke, builtin, Sem.run_bind, Sem.run_pure, Result.andThen_ok, List.map_toArray, List.map_cons, List.map_nil, hs, hx, hr, Nat.zero_add]
  simp only [Nat.zero_add] at hge hcm
  refine h _ _ _ ⟨by simp, .inr ⟨_, _, _, rfl, hbase, heap_alloc_new u.drew _, hge, hcm, ?_, ?_⟩⟩
  · simp only [Array.size_append, List.size_toArray, List.length_nil, List.length_map, List.length_range, size_zeroCells, hzs, Nat.zero_add, ← Nat.add_mul]
    congr 1
    omega
  · simp [List.take_append]

/-- A Field's block. -/
def FY (u : World) (k : Nat) : Prop := ∃ W A n c B m d X Y, FB u k 26 W A n c B m d X Y
/-- Only Fields' blocks turn, and they stay such. -/
structure EY (u u' : World) : Prop where
  size : u.heap.size ≤ u'.heap.size
  keep : ∀ k, k < u.heap.size → ¬ FY u k → u'.heap[k]? = u.heap[k]?
  fy : ∀ k, FY u k → FY u' k
theorem FY.lt {u : World} {k : Nat} (h : FY u k) : k < u.heap.size := by
  obtain ⟨_, _, _, _, _, _, _, _, _, h⟩ := h
  exact heap_lt h
theorem EY.refl (u : World) : EY u u := ⟨Nat.le_refl _, fun _ _ _ => rfl, fun _ h => h⟩
theorem EY.alloc (u : World) (o : Obj) : EY u (u.alloc o) := ⟨by simp, fun k hk _ => Below.heap_alloc u o k hk, fun k ⟨W, A, n, c, B, m, d, X, Y, h⟩ => ⟨W, A, n, c, B, m, d, X, Y, h.alloc o⟩⟩
theorem EY.drewAlloc (u : World) (o : Obj) : EY u (u.drew.alloc o) := ⟨by simp, fun k hk _ => Below.heap_alloc u.drew o k hk, fun k ⟨W, A, n, c, B, m, d, X, Y, h⟩ => ⟨W, A, n, c, B, m, d, X, Y, h.drew.alloc o⟩⟩
theorem own_ey {u u' : World} {base : Nat} {e : TypeId} {sz n : Nat} {v : Value} {xs : List Value} (h : u.ownsRow base e sz v n xs) (hE : EY u u') (he : e ≠ 26) : u'.ownsRow base e sz v n xs := by
  obtain ⟨h1, h2⟩ := h
  refine ⟨h1, ?_⟩
  rcases h2 with h2 | ⟨g, cap, cur, hv, hg, hh, r⟩
  · exact .inl h2
  · refine .inr ⟨g, cap, cur, hv, hg, (hE.keep g (heap_lt hh) ?_).trans hh, r⟩
    rintro ⟨_, _, _, _, _, _, _, _, _, hf⟩
    unfold FB at hf
    rw [hh] at hf
    injection hf with hf
    injection hf with _ hf _
    exact he hf
theorem own_types {w : World} {base base' : Nat} {e e' : TypeId} {sz sz' n n' : Nat} {v v' : Value} {xs xs' : List Value} (h : w.ownsRow base e sz v n xs) (h' : w.ownsRow base' e' sz' v' n' xs') (he : e ≠ e') : v.ownBlock = none ∨ v.ownBlock ≠ v'.ownBlock := by
  rcases h.2 with ⟨rfl, _⟩ | ⟨g, cap, cur, rfl, _, h1, _⟩
  · exact .inl rfl
  · rcases h'.2 with ⟨rfl, _⟩ | ⟨g', cap', cur', rfl, _, h2, _⟩
    · exact .inr (by simp [Value.ownBlock])
    · refine .inr fun hy => ?_
      simp only [Value.ownBlock] at hy
      injection hy with hy
      subst hy
      rw [h1] at h2
      injection h2 with h2
      injection h2 with _ h2 _
      exact he h2
theorem FB.putA {w : World} {g : Nat} {t : TypeId} {W X Y : Int} {A B : Option Addr} {n c m d : Nat} (h : FB w g t W A n c B m d X Y) (W' : Int) (A' : Option Addr) (n' c' : Nat) (B' : Option Addr) (m' d' : Nat) (X' Y' : Int) :
    FB (((((w.setCell ⟨g, 0, none⟩ (.int .i64 W')).setCell ⟨g, 1, none⟩ (.slice A' n' c')).setCell ⟨g, 2, none⟩ (.slice B' m' d')).setCell ⟨g, 3, none⟩ (.int .i64 X')).setCell ⟨g, 4, none⟩ (.int .i64 Y')) g t W' A' n' c' B' m' d' X' Y' := by
  unfold FB at h ⊢
  simp [World.setCell, Array.getElem?_modify, h]
theorem FB.set3 {w : World} {g : Nat} {t : TypeId} {W X Y : Int} {A B : Option Addr} {n c m d : Nat} (h : FB w g t W A n c B m d X Y) (x : Int) : FB (w.setCell ⟨g, 3, none⟩ (.int .i64 x)) g t W A n c B m d x Y := by
  unfold FB at h ⊢
  simp [World.setCell, Array.getElem?_modify, h]
theorem FB.set4 {w : World} {g : Nat} {t : TypeId} {W X Y : Int} {A B : Option Addr} {n c m d : Nat} (h : FB w g t W A n c B m d X Y) (x : Int) : FB (w.setCell ⟨g, 4, none⟩ (.int .i64 x)) g t W A n c B m d X x := by
  unfold FB at h ⊢
  simp [World.setCell, Array.getElem?_modify, h]
theorem EY.set {u : World} {g o : Nat} {v : Value} (h : FY u g) (h' : FY (u.setCell ⟨g, o, none⟩ v) g) : EY u (u.setCell ⟨g, o, none⟩ v) :=
  ⟨by simp, fun k _ hn => Below.heap_setCell u ⟨g, o, none⟩ v k (fun e => hn (e ▸ h)), fun k hf => by
    by_cases e : k = g
    · exact e ▸ h'
    · obtain ⟨W3, A3, n3, c3, B3, m3, d3, X3, Y3, h3⟩ := hf
      exact ⟨W3, A3, n3, c3, B3, m3, d3, X3, Y3, h3.far e _⟩⟩
/-- A new field's shifts are set. -/
theorem own_set34 {u : World} {g base : Nat} {W X Y : Int} {A B : Option Addr} {n c m d : Nat} {e : TypeId} {sz k : Nat} {v : Value} {xs : List Value} (h : u.ownsRow base e sz v k xs) (hg : FB u g 26 W A n c B m d X Y) (he : e ≠ 26) (x y : Int) :
    ((u.setCell ⟨g, 3, none⟩ (.int .i64 x)).setCell ⟨g, 4, none⟩ (.int .i64 y)).ownsRow base e sz v k xs :=
  own_ey (own_ey h (EY.set ⟨_, _, _, _, _, _, _, _, _, hg⟩ ⟨_, _, _, _, _, _, _, _, _, hg.set3 x⟩) he) (EY.set ⟨_, _, _, _, _, _, _, _, _, hg.set3 x⟩ ⟨_, _, _, _, _, _, _, _, _, (hg.set3 x).set4 y⟩) he
/-- What a new field holds behind the region. -/
def NF (u : World) (base : Nat) (v : Value) (W : Int) (n m : Nat) (p : Nat → Int) (q : Nat → Nat → Int) : Prop :=
  ∃ g A c B d, v = .pointer (some ⟨g, 0, none⟩) ∧ base ≤ g ∧ FB u g 26 W A n c B m d 0 0 ∧ u.ownsRow base 3 1 (.slice A n c) n ((List.range (n * 1)).map (iv p)) ∧
    u.ownsRow base 45 64 (.slice B m d) m ((List.range (m * 64)).map (tc q))
def C5 (W0 : World) (base : Nat) (W : Int) (n m : Nat) (p : Nat → Int) (q : Nat → Nat → Int) (L : Nat → Bool) (_ : Nat) (a : Act) (u : World) : Prop :=
  Below base W0 u ∧ (L 12 = true → NF u base (a.tmps.getD 9 undef) W n m p q)
theorem C5.step {W0 : World} {base : Nat} {W : Int} {n m : Nat} {p : Nat → Int} {q : Nat → Nat → Int} {L : Nat → Bool} {i k : Nat} {a' : Act} {u' : World} (hL : L 12 = false) (hi : i ≠ 12) (h : Below base W0 u') : C5 W0 base W n m p q (updL L i) k a' u' :=
  ⟨h, fun h => by rw [updL_ne (Ne.symm hi), hL] at h; cases h⟩

end Go.Proofs.Ythopeedonikdhaa
