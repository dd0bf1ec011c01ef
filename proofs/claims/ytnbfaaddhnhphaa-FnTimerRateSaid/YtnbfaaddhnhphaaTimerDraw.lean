/-
  What the drawn timers are: three numbers, Fired at most 8. No conditions.
-/
import Derived.Test.YtnbfaaddhnhphaaThree
import Derived.Test.YtnbfaaddhnhphaaKinds
import Derived.Deep.DeepCutAuto
import Derived.IntWalk
namespace Go.Proofs.Ytnbfaaddhnhphaa
set_option linter.all false
set_option linter.unusedSimpArgs false
set_option linter.unusedVariables false
open Go.ChangeShapes Go.WideShapes Go.ChangeAt Go.RowKit

/-- A list of numbers that was laid ahead of the call, one other block between: the one that is picked. -/
theorem Only.int_new1 {R : Nat} {w w3 : World} {cs : Array Value} {T m : Nat} {o : Obj} {lo hi : Int} (hO : Only R ((w.alloc (.cells cs T)).alloc o) w3) (hR : R ≠ w.heap.size) (hm : m < cs.size)
    (hall : ∀ v ∈ cs.toList, ∃ x : Int, v = .int .i64 x ∧ lo ≤ x ∧ x ≤ hi) : ∃ x : Int, w3.cell? ⟨w.heap.size, m, none⟩ = some (.int .i64 x) ∧ lo ≤ x ∧ x ≤ hi := by
  have hh := (hO.block w.heap.size (by simp; omega) (by intro e; injection e; omega)).trans ((Below.heap_alloc (w.alloc (.cells cs T)) o w.heap.size (by simp)).trans (heap_alloc_new w _))
  obtain ⟨x, hx, h1, h2⟩ := hall cs[m] (by simp)
  refine ⟨x, ?_, h1, h2⟩
  rw [cell_of_row w3 w.heap.size m cs T _ hh, Array.getElem?_eq_getElem hm, hx]

/-- The number at a place of four. -/
def at4 (a b c d : Int) (m : Nat) : Int := if m = 0 then a else if m = 1 then b else if m = 2 then c else d
theorem at4_list (m : Nat) (hm : m < 4) : ∀ a b c d : Int, [Value.int .i64 a, .int .i64 b, .int .i64 c, .int .i64 d][m]? = some (.int .i64 (at4 a b c d m)) := fun a b c d => by
  match m, hm with
  | 0, _ => rfl
  | 1, _ => rfl
  | 2, _ => rfl
  | 3, _ => rfl
theorem at4_get (m : Nat) (hm : m < 4) : ∀ a b c d : Int, #[Value.int .i64 a, .int .i64 b, .int .i64 c, .int .i64 d][m]? = some (.int .i64 (at4 a b c d m)) := fun a b c d => by
  rw [List.getElem?_toArray]; exact at4_list m hm a b c d
/-- The number at a place of three. -/
def at3 (a b c : Int) (m : Nat) : Int := if m = 0 then a else if m = 1 then b else c
theorem at3_list (m : Nat) (hm : m < 3) : ∀ a b c : Int, [Value.int .i64 a, .int .i64 b, .int .i64 c][m]? = some (.int .i64 (at3 a b c m)) := fun a b c => by
  match m, hm with
  | 0, _ => rfl
  | 1, _ => rfl
  | 2, _ => rfl
theorem at3_get (m : Nat) (hm : m < 3) : ∀ a b c : Int, #[Value.int .i64 a, .int .i64 b, .int .i64 c][m]? = some (.int .i64 (at3 a b c m)) := fun a b c => by
  rw [List.getElem?_toArray]; exact at3_list m hm a b c

/-- A timer's block, behind the blocks that were there: Fired at most 8. -/
def TBx (B : Nat) (u : World) (g : Nat) : Prop := B ≤ g ∧ ∃ l r f : Int, f ≤ 8 ∧ B3 u g 24 l r f
theorem TBx.only {B R : Nat} (hR : R < B) {u u' : World} (b : Nat) (h : TBx B u b) (hk : ∀ i, i ≠ R → i < u.heap.size → u'.heap[i]? = u.heap[i]?) : TBx B u' b := by
  obtain ⟨h1, l, r, f, h2, h3⟩ := h
  exact ⟨h1, l, r, f, h2, (hk b (by omega) h3.lt).trans h3⟩
theorem TBx.alloc {B : Nat} {u u' : World} (b : Nat) (h : TBx B u b) (hk : ∀ i, i < u.heap.size → u'.heap[i]? = u.heap[i]?) : TBx B u' b := by
  obtain ⟨h1, l, r, f, h2, h3⟩ := h
  exact ⟨h1, l, r, f, h2, (hk b h3.lt).trans h3⟩
/-- A store of a whole timer into a box. -/
theorem TBx.put {B g : Nat} {u : World} (h : TBx B u g) (a b c : Int) (hc : c ≤ 8) : Ext (TBx B) u (((u.setCell ⟨g, 0, none⟩ (.int .i64 a)).setCell ⟨g, 1, none⟩ (.int .i64 b)).setCell ⟨g, 2, none⟩ (.int .i64 c)) := by
  obtain ⟨h1, l, r, f, h2, h3⟩ := h
  refine ⟨fun x cs hx => ?_, fun x hx => ?_⟩
  · have hne : x ≠ g := by
      rintro rfl
      unfold B3 at h3
      rw [hx] at h3
      injection h3 with h3
      injection h3 with _ h3
      exact absurd h3 (by decide)
    simp [World.setCell, Array.getElem?_modify, Ne.symm hne, hx]
  · obtain ⟨k1, l', r', f', k2, k3⟩ := hx
    by_cases e : x = g
    · subst e
      exact ⟨k1, a, b, c, hc, h3.put a b c⟩
    · exact ⟨k1, l', r', f', k2, ((k3.far (a := ⟨g, 0, none⟩) e _).far (a := ⟨g, 1, none⟩) e _).far (a := ⟨g, 2, none⟩) e _⟩
theorem B3.set {u : World} {g : Nat} {t : TypeId} {l r f : Int} (h : B3 u g t l r f) (i : Nat) (hi : i < 3) (x : Int) : ∃ l' r' f', (f' = f ∨ (i = 2 ∧ f' = x)) ∧ B3 (u.setCell ⟨g, i, none⟩ (.int .i64 x)) g t l' r' f' := by
  by_cases h0 : i = 0
  · subst h0; exact ⟨x, r, f, .inl rfl, h.put0 x⟩
  · by_cases h1 : i = 1
    · subst h1; exact ⟨l, x, f, .inl rfl, h.put1 x⟩
    · obtain rfl : i = 2 := by omega
      exact ⟨l, r, x, .inr ⟨rfl, rfl⟩, h.put2 x⟩
theorem TBx.set {B g : Nat} {u : World} (h : TBx B u g) (i : Nat) (hi : i < 3) (x : Int) (hx : i = 2 → x ≤ 8) : Ext (TBx B) u (u.setCell ⟨g, i, none⟩ (.int .i64 x)) := by
  obtain ⟨h1, l, r, f, h2, h3⟩ := h
  refine ⟨fun y cs hy => ?_, fun y hy => ?_⟩
  · have hne : y ≠ g := by
      rintro rfl
      unfold B3 at h3
      rw [hy] at h3
      injection h3 with h3
      injection h3 with _ h3
      exact absurd h3 (by decide)
    simp [World.setCell, Array.getElem?_modify, Ne.symm hne, hy]
  · obtain ⟨k1, l', r', f', k2, k3⟩ := hy
    by_cases e : y = g
    · subst e
      obtain ⟨a, b, c, hc, hB⟩ := k3.set i hi x
      refine ⟨k1, a, b, c, ?_, hB⟩
      rcases hc with hc | hc
      · omega
      · have := hx hc.1
        omega
    · exact ⟨k1, l', r', f', k2, k3.far (a := ⟨g, i, none⟩) e _⟩
def DTimer (R : Nat) (k : Int) (w : World) (e : Ending) (w' : World) : Prop := ∃ l r f : Int, f ≤ 8 ∧ e = .returned (.agg #[.int .i64 l, .int .i64 r, .int .i64 f]) ∧ Only R w w' ∧ Rd w' R (k + 40)
set_option maxHeartbeats 2000000 in
theorem l20Timer_c (R : Nat) (n k : Int) (w : World) (hR : Rd w R k) (hk : k ≤ 500000) (hn : n ≤ 1000000) (hn0 : -1000000 ≤ n) :
    Calls Try.prog 12 #[.pointer (some ⟨R, 0, none⟩), .int .i64 n] w (DTimer R k w) := by
  have hlt := hR.lt
  go_enter Try.func12, Try.ntmps12
  go_upto_region 1 with fail
  go_cut [5] (fun s wx => ∃ (g : Nat) (r f : Int), s = .pointer (some ⟨g, 0, none⟩) ∧ w.heap.size < g ∧ f ≤ 8 ∧ (∃ l, B3 wx g 24 l r f) ∧ B3 wx w.heap.size 24 0 0 0 ∧ Rd wx R (k + 12) ∧ Only R w wx)
  case first =>
    have hW0 := B3.new w 24 0 0 0
    have hO0 : Only R w (w.alloc (.cells #[.int .i64 0, .int .i64 0, .int .i64 0] 24)) := (Only.refl _ _).alloc _
    have hR0 : Rd (w.alloc (.cells #[.int .i64 0, .int .i64 0, .int .i64 0] 24)) R k := hR.alloc _
    have hB0 : (w.alloc (.cells #[.int .i64 0, .int .i64 0, .int .i64 0] 24)).heap.size = w.heap.size + 1 := by simp
    generalize (w.alloc (.cells #[.int .i64 0, .int .i64 0, .int .i64 0] 24)) = W at *
    refine wp_region_typed (by kernel_rfl) (by kernel_rfl) (Rdg R k W) (Ext (TBx (w.heap.size + 1)))
      (fun j v u => match j with
        | 0 | 3 | 7 => kIs (.pointer (some ⟨R, 0, none⟩)) v
        | 1 => kNat 40 v
        | 2 => kRow 4 (fun _ => True) v u
        | 4 => kNat 4 v
        | 5 => kElem (fun _ => True) v u
        | 6 => kInt (fun _ => True) v
        | 8 => kNat 9 v
        | 9 => ∃ r f : Int, f ≤ 8 ∧ v = .agg #[.int .i64 0, .int .i64 r, .int .i64 f]
        | 10 => ∃ g, v = .pointer (some ⟨g, 0, none⟩) ∧ TBx (w.heap.size + 1) u g
        | _ => True) ?_ ?_ ?_ ?_
    · intro j v u u' h e
      split at h <;> first | exact h | exact h.ext e | exact ⟨_, h.choose_spec.1, e.2 _ h.choose_spec.2⟩
    · exact ⟨(Only.refl _ _).drew, (show Rd W.drew R k from hR0).more (by omega)⟩
    · intro i o n' a u ho hn' hC hD hU
      have hsz := hC.size
      have hC2 := hC.2
      have hnx := hC.next
      have hon : ∀ u', Only R u u' → Rd u' R (k + n' + 1) → Rdg R k W (n' + 1) u' := fun u' => hC.only
      have hex : ∀ u', Only R u u' → Ext (TBx (w.heap.size + 1)) u u' := fun u' hO => Ext.only hC.2 hO (TBx.only (by omega))
      have hal : ∀ ob, Ext (TBx (w.heap.size + 1)) u (u.alloc ob) := fun ob => Ext.alloc ob TBx.alloc
      have hi : i < 12 := (Array.getElem?_eq_some_iff.1 ho).1
      replace hn' : n' < 12 := hn'
      obtain rfl | rfl | rfl | rfl | rfl | rfl | rfl | rfl | rfl | rfl | rfl | rfl : i = 0 ∨ i = 1 ∨ i = 2 ∨ i = 3 ∨ i = 4 ∨ i = 5 ∨ i = 6 ∨ i = 7 ∨ i = 8 ∨ i = 9 ∨ i = 10 ∨ i = 11 := by omega
      all_goals (simp only [List.getElem?_toArray, List.getElem?_cons_zero, List.getElem?_cons_succ, Option.some.injEq] at ho; subst ho)
      all_goals clear hi
      · have u0 := hU 0 (not_written (by kernel_rfl))
        simp at u0
        clear hU hD
        go_simp
        exact Typed.mk _ rfl hnx (Ext.refl _ _) rfl
      · have e0 := hD ⟨0, Ground.data⟩ (by simp) rfl _ 6 rfl rfl
        simp [kIs] at e0
        clear hU hD
        go_simp
        refine (pick_c R 40 _ u hC2 (by omega) (by omega) (by omega)).mono ?_
        rintro e w' ⟨m, hm, rfl, hO, hR'⟩
        exact Typed.mk _ rfl (hon _ hO hR') (hex _ hO) ⟨m, hm, rfl⟩
      · obtain ⟨m, hm, e7⟩ := hD ⟨1, Ground.data⟩ (by simp) rfl _ 7 rfl rfl
        simp at e7
        clear hU hD
        go_simp
        exact Typed.mk _ rfl (hC.alloc _) (hal _) ⟨_, rfl, row_lit u [0, 1, m, 1000] 4 _ rfl (fun _ _ => trivial)⟩
      · have u0 := hU 0 (not_written (by kernel_rfl))
        simp at u0
        clear hU hD
        go_simp
        exact Typed.mk _ rfl hnx (Ext.refl _ _) rfl
      · have e0 := hD ⟨3, Ground.data⟩ (by simp) rfl _ 9 rfl rfl
        simp [kIs] at e0
        clear hU hD
        go_simp
        refine (pick_c R 4 _ u hC2 (by omega) (by omega) (by omega)).mono ?_
        rintro e w' ⟨m, hm, rfl, hO, hR'⟩
        exact Typed.mk _ rfl (hon _ hO hR') (hex _ hO) ⟨m, hm, rfl⟩
      · obtain ⟨b, e0, hrow⟩ := hD ⟨2, Ground.data⟩ (by simp) rfl _ 8 rfl rfl
        obtain ⟨m, hm, e1⟩ := hD ⟨4, Ground.data⟩ (by simp) rfl _ 10 rfl rfl
        simp at e0 e1
        have hm4 : (m : Int) < 4 := by omega
        clear hU hD
        go_simp
        exact Typed.mk _ rfl hnx (Ext.refl _ _) ⟨b, m, 4, rfl, by omega, hrow⟩
      · obtain ⟨b, m, q, e0, hm, hrow⟩ := hD ⟨5, Ground.data⟩ (by simp) rfl _ 11 rfl rfl
        obtain ⟨x, hx, hx0⟩ := hrow.cell hm
        simp at e0
        clear hU hD
        go_simp
        exact Typed.mk _ rfl hnx (Ext.refl _ _) ⟨x, hx0, rfl⟩
      · have u0 := hU 0 (not_written (by kernel_rfl))
        simp at u0
        clear hU hD
        go_simp
        exact Typed.mk _ rfl hnx (Ext.refl _ _) rfl
      · have e0 := hD ⟨7, Ground.data⟩ (by simp) rfl _ 13 rfl rfl
        simp [kIs] at e0
        clear hU hD
        go_simp
        refine (pick_c R 9 _ u hC2 (by omega) (by omega) (by omega)).mono ?_
        rintro e w' ⟨m, hm, rfl, hO, hR'⟩
        exact Typed.mk _ rfl (hon _ hO hR') (hex _ hO) ⟨m, hm, rfl⟩
      · obtain ⟨x, hx, e12⟩ := hD ⟨6, Ground.data⟩ (by simp) rfl _ 12 rfl rfl
        obtain ⟨m, hm, e14⟩ := hD ⟨8, Ground.data⟩ (by simp) rfl _ 14 rfl rfl
        simp at e12 e14
        clear hU hD
        go_simp
        exact Typed.mk _ rfl hC.next (Ext.refl _ _) ⟨x, m, by omega, rfl⟩
      · clear hU hD
        go_simp
        exact Typed.mk _ rfl (hC.alloc _) (hal _) ⟨_, rfl, by omega, 0, 0, 0, by omega, B3.new _ _ _ _ _⟩
      · obtain ⟨r, f, hf, e15⟩ := hD ⟨9, Ground.data⟩ (by simp) rfl _ 15 rfl rfl
        obtain ⟨g, e5, hg⟩ := hD ⟨10, Ground.data⟩ (by simp) rfl _ 5 rfl rfl
        simp at e15 e5
        have hput := hg.put 0 r f hf
        obtain ⟨hg0, l', r', f', _, hB3⟩ := hg
        obtain ⟨c0, c1, c2⟩ := hB3.cells
        obtain ⟨y0, y1, y2⟩ := hB3.free
        clear hU hD
        go_simp
        refine Typed.mk undef rfl ⟨?_, ?_⟩ hput trivial
        · exact ((hC.1.setCell (.inr (by simp; omega)) _).setCell (.inr (by simp; omega)) _).setCell (.inr (by simp; omega)) _
        · exact Rd.setCell (Rd.setCell (Rd.setCell (hC.2.more (by omega)) (by simp; omega) _) (by simp; omega) _) (by simp; omega) _
    · intro a u hC hL hN hU hs hd
      obtain ⟨g, e5, hg0, l, r, f, hf, hg⟩ := hL 10 _ 5 rfl rfl
      have e5' : a.tmps[5]?.getD undef = .pointer (some ⟨g, 0, none⟩) := by simpa using e5
      clear e5
      have ht := tmps_ds [6, 7, 8, 9, 10, 11, 12, 13, 14, 15, 5] rfl hs hU
      simp [List.range, List.range.loop] at ht
      rw [e5'] at ht
      (try generalize a.tmps[6]?.getD undef = x6 at ht)
      (try generalize a.tmps[7]?.getD undef = x7 at ht)
      (try generalize a.tmps[8]?.getD undef = x8 at ht)
      (try generalize a.tmps[9]?.getD undef = x9 at ht)
      (try generalize a.tmps[10]?.getD undef = x10 at ht)
      (try generalize a.tmps[11]?.getD undef = x11 at ht)
      (try generalize a.tmps[12]?.getD undef = x12 at ht)
      (try generalize a.tmps[13]?.getD undef = x13 at ht)
      (try generalize a.tmps[14]?.getD undef = x14 at ht)
      (try generalize a.tmps[15]?.getD undef = x15 at ht)
      (try generalize a.tmps[5]?.getD undef = x5 at ht)
      obtain ⟨tm, df⟩ := a
      simp only at ht hd
      subst ht hd
      clear hL hN hU hs
      have hB1 : B3 u w.heap.size 24 0 0 0 := hW0.only hC.1 (by omega)
      have hR1 := hC.2
      have hO1 := hO0.trans hC.1
      go_wp2_with fail
      go_meet
      exact ⟨g, r, f, rfl, by omega, hf, ⟨l, hg⟩, hB1, hR1, hO1⟩
  case rest =>
    obtain ⟨g, r, f, rfl, hg, hf, ⟨l, hB⟩, hZ, hR1, hO1⟩ := hcut
    go_upto_region 2 with fail
    have HT0 : TBx (w.heap.size + 1) wc g := ⟨by omega, l, r, f, hf, hB⟩
    refine wp_region_typed (by kernel_rfl) (by kernel_rfl) (fun n u => Rdg R (k + 12) w n u ∧ TBx (w.heap.size + 1) u g ∧ B3 u w.heap.size 24 0 0 0) (Ext (TBx (w.heap.size + 1)))
      (fun j v u => match j with
        | 0 | 5 => kIs (.pointer (some ⟨R, 0, none⟩)) v
        | 1 => kNat 40 v
        | 2 => kIs (.pointer (some ⟨g, 1, none⟩)) v
        | 3 => kInt (fun _ => True) v
        | 4 => kRow 3 (fun _ => True) v u
        | 6 => kNat 3 v
        | 7 => kElem (fun _ => True) v u
        | 8 => kInt (fun _ => True) v
        | 9 => kIs (.pointer (some ⟨g, 0, none⟩)) v
        | _ => True) ?_ ?_ ?_ ?_
    · intro j v u u' h e
      split at h <;> first | exact h | exact h.ext e
    · exact ⟨⟨hO1.drew, (show Rd wc.drew R (k + 12) from hR1).more (by omega)⟩, HT0, hZ⟩
    · rintro i o n' a u ho hn' ⟨hC, hT, hZu⟩ hD hU
      have hsz := hC.size
      have hC2 := hC.2
      have hnx : Rdg R (k + 12) w (n' + 1) u ∧ TBx (w.heap.size + 1) u g ∧ B3 u w.heap.size 24 0 0 0 := ⟨hC.next, hT, hZu⟩
      have hex : ∀ u', Only R u u' → Ext (TBx (w.heap.size + 1)) u u' := fun u' hO => Ext.only hC.2 hO (TBx.only (by omega))
      have hal : ∀ ob, Ext (TBx (w.heap.size + 1)) u (u.alloc ob) := fun ob => Ext.alloc ob TBx.alloc
      have hon : ∀ u', Only R u u' → Rd u' R (k + 12 + n' + 1) → Rdg R (k + 12) w (n' + 1) u' ∧ TBx (w.heap.size + 1) u' g ∧ B3 u' w.heap.size 24 0 0 0 := fun u' hO hR' => ⟨hC.only hO hR', (hex u' hO).2 g hT, hZu.only hO (by omega)⟩
      have hi : i < 11 := (Array.getElem?_eq_some_iff.1 ho).1
      replace hn' : n' < 11 := hn'
      obtain rfl | rfl | rfl | rfl | rfl | rfl | rfl | rfl | rfl | rfl | rfl : i = 0 ∨ i = 1 ∨ i = 2 ∨ i = 3 ∨ i = 4 ∨ i = 5 ∨ i = 6 ∨ i = 7 ∨ i = 8 ∨ i = 9 ∨ i = 10 := by omega
      all_goals (simp only [List.getElem?_toArray, List.getElem?_cons_zero, List.getElem?_cons_succ, Option.some.injEq] at ho; subst ho)
      all_goals clear hi
      · have u0 := hU 0 (not_written (by kernel_rfl))
        simp at u0
        clear hU hD
        go_simp
        exact Typed.mk _ rfl hnx (Ext.refl _ _) rfl
      · have e0 := hD ⟨0, Ground.data⟩ (by simp) rfl _ 16 rfl rfl
        simp [kIs] at e0
        clear hU hD
        go_simp
        refine (pick_c R 40 _ u hC2 (by omega) (by omega) (by omega)).mono ?_
        rintro e w' ⟨m, hm, rfl, hO, hR'⟩
        exact Typed.mk _ rfl (hon _ hO hR') (hex _ hO) ⟨m, hm, rfl⟩
      · have u5 := hU 5 (not_written (by kernel_rfl))
        simp at u5
        clear hU hD
        go_simp
        exact Typed.mk _ rfl hnx (Ext.refl _ _) rfl
      · have e0 := hD ⟨2, Ground.data⟩ (by simp) rfl _ 18 rfl rfl
        simp [kIs] at e0
        obtain ⟨hg0, l', r', f', hf', hB3⟩ := hT
        obtain ⟨c0, c1, c2⟩ := hB3.cells
        clear hU hD
        go_simp
        exact Typed.mk _ rfl hnx (Ext.refl _ _) ⟨r', trivial, rfl⟩
      · obtain ⟨m, hm, e1⟩ := hD ⟨1, Ground.data⟩ (by simp) rfl _ 17 rfl rfl
        obtain ⟨x, _, e2⟩ := hD ⟨3, Ground.data⟩ (by simp) rfl _ 19 rfl rfl
        simp at e1 e2
        clear hU hD
        go_simp
        exact Typed.mk _ rfl ⟨hC.alloc _, (hal _).2 g hT, hZu.alloc _⟩ (hal _) ⟨_, rfl, row_lit u [0, m, x] 3 _ rfl (fun _ _ => trivial)⟩
      · have u0 := hU 0 (not_written (by kernel_rfl))
        simp at u0
        clear hU hD
        go_simp
        exact Typed.mk _ rfl hnx (Ext.refl _ _) rfl
      · have e0 := hD ⟨5, Ground.data⟩ (by simp) rfl _ 21 rfl rfl
        simp [kIs] at e0
        clear hU hD
        go_simp
        refine (pick_c R 3 _ u hC2 (by omega) (by omega) (by omega)).mono ?_
        rintro e w' ⟨m, hm, rfl, hO, hR'⟩
        exact Typed.mk _ rfl (hon _ hO hR') (hex _ hO) ⟨m, hm, rfl⟩
      · obtain ⟨b, e0, hrow⟩ := hD ⟨4, Ground.data⟩ (by simp) rfl _ 20 rfl rfl
        obtain ⟨m, hm, e1⟩ := hD ⟨6, Ground.data⟩ (by simp) rfl _ 22 rfl rfl
        simp at e0 e1
        have hm4 : (m : Int) < 3 := by omega
        clear hU hD
        go_simp
        exact Typed.mk _ rfl hnx (Ext.refl _ _) ⟨b, m, 3, rfl, by omega, hrow⟩
      · obtain ⟨b, m, q, e0, hm, hrow⟩ := hD ⟨7, Ground.data⟩ (by simp) rfl _ 23 rfl rfl
        obtain ⟨x, hx, hx0⟩ := hrow.cell hm
        simp at e0
        clear hU hD
        go_simp
        exact Typed.mk _ rfl hnx (Ext.refl _ _) ⟨x, hx0, rfl⟩
      · have u5 := hU 5 (not_written (by kernel_rfl))
        simp at u5
        clear hU hD
        go_simp
        exact Typed.mk _ rfl hnx (Ext.refl _ _) rfl
      · have e0 := hD ⟨9, Ground.data⟩ (by simp) rfl _ 25 rfl rfl
        obtain ⟨x, _, e1⟩ := hD ⟨8, Ground.data⟩ (by simp) rfl _ 24 rfl rfl
        simp [kIs] at e0 e1
        have hset := TBx.set hT 0 (by omega) x (by omega)
        obtain ⟨hg0, l', r', f', hf', hB3⟩ := id hT
        obtain ⟨c0, c1, c2⟩ := hB3.cells
        obtain ⟨y0, y1, y2⟩ := hB3.free
        clear hU hD
        go_simp
        exact Typed.mk undef rfl ⟨⟨hC.1.setCell (.inr (by simp; omega)) _, (hC.2.more (by omega)).setCell (by simp; omega) _⟩, hset.2 g hT, hZu.far (by simp; omega) _⟩ hset trivial
    · rintro a u ⟨hC, ⟨hg1, l', r', f', hf', hB'⟩, hZ'⟩ hL hN hU hs hd
      have ht := tmps_ds [16, 17, 18, 19, 20, 21, 22, 23, 24, 25] rfl hs hU
      simp [List.range, List.range.loop] at ht
      (try generalize a.tmps[16]?.getD undef = x16 at ht)
      (try generalize a.tmps[17]?.getD undef = x17 at ht)
      (try generalize a.tmps[18]?.getD undef = x18 at ht)
      (try generalize a.tmps[19]?.getD undef = x19 at ht)
      (try generalize a.tmps[20]?.getD undef = x20 at ht)
      (try generalize a.tmps[21]?.getD undef = x21 at ht)
      (try generalize a.tmps[22]?.getD undef = x22 at ht)
      (try generalize a.tmps[23]?.getD undef = x23 at ht)
      (try generalize a.tmps[24]?.getD undef = x24 at ht)
      (try generalize a.tmps[25]?.getD undef = x25 at ht)
      obtain ⟨tm, df⟩ := a
      simp only at ht hd
      subst ht hd
      clear hL hN hU hs
      have hRu : Rd u R (k + 12 + 11) := hC.2
      have hOu : Only R w u := hC.1
      have hsz := hOu.size
      have hgu := hB'.lt
      clear hC HT0 hB hZ hR1 hO1
      go_wp2_with fail
      refine (odd_c _ _ _ _ hRu (by omega) (by omega) (by omega)).mono ?_
      rintro e w4 ⟨b, rfl, hO4, hR4⟩
      have hB4 := hB'.only hO4 (by omega)
      have hZ4 := hZ'.only hO4 (by omega)
      have hS4 := hOu.trans hO4
      have hz4 := hO4.size
      clear hO4 hB' hZ' hRu hOu
      obtain ⟨c0, c1, c2⟩ := hB4.cells
      obtain ⟨y0, y1, y2⟩ := hB4.free
      obtain ⟨d0, d1, d2⟩ := hZ4.cells
      obtain ⟨x0, x1, x2⟩ := hZ4.free
      cases b
      · go_wp2
        refine bodyPost_ret (v := .agg #[.int .i64 l', .int .i64 r', .int .i64 f']) (by simp [results, Try.results12, go_sem, *]) rfl ⟨_, _, _, hf', rfl, ?_, ?_⟩
        · exact ((hS4.setCell (.inr (by simp)) _).setCell (.inr (by simp)) _).setCell (.inr (by simp)) _
        · exact (((hR4.more (by omega)).setCell (by simp; omega) _).setCell (by simp; omega) _).setCell (by simp; omega) _
      · clear c0 c1 c2 y0 y1 y2 d0 d1 d2 x0 x1 x2
        go_wp2_with fail
        refine (pick_c _ _ _ _ hR4 (by omega) (by omega) (by omega)).mono ?_
        rintro e w5 ⟨d, hd, rfl, hO5, hR5⟩
        have hB5 := hB4.only hO5 (by omega)
        have hZ5 := hZ4.only hO5 (by omega)
        have hS5 := hS4.trans hO5
        have hz5 := hO5.size
        clear hO5 hB4 hZ4 hS4 hR4
        have hd3 : d = 0 ∨ d = 1 ∨ d = 2 := by omega
        clear hd
        rcases hd3 with rfl | rfl | rfl
        · go_wp2_with fail
          have hRa := hR5.alloc (.cells #[.int .i64 (-1), .int .i64 1001] 3)
          refine (pick_c _ _ _ _ hRa (by omega) (by omega) (by omega)).mono ?_
          rintro e w6 ⟨m, hm, rfl, hO6, hR6⟩
          obtain ⟨x, hx, hx0, hx1⟩ := hO6.int_new (m := m) (lo := -1) (hi := 1001) (by omega) (by simp <;> omega) (by simp <;> omega)
          have hB6 := (hB5.alloc (.cells #[.int .i64 (-1), .int .i64 1001] 3)).only hO6 (by omega)
          have hZ6 := (hZ5.alloc (.cells #[.int .i64 (-1), .int .i64 1001] 3)).only hO6 (by omega)
          have hS6 := (hS5.alloc (.cells #[.int .i64 (-1), .int .i64 1001] 3)).trans hO6
          have hz6 := hO6.size
          (try simp only [World.size_alloc] at hz6)
          clear hRa hR5 hO6 hB5 hZ5 hS5
          obtain ⟨c0, c1, c2⟩ := hB6.cells
          obtain ⟨y0, y1, y2⟩ := hB6.free
          obtain ⟨d0, d1, d2⟩ := hZ6.cells
          obtain ⟨x0, x1, x2⟩ := hZ6.free
          go_wp2
          refine bodyPost_ret (v := .agg #[.int .i64 x, .int .i64 r', .int .i64 f']) (by simp [results, Try.results12, go_sem, *]) rfl ⟨_, _, _, hf', rfl, ?_, ?_⟩
          · exact (((hS6.setCell (.inr (by simp; omega)) _).setCell (.inr (by simp)) _).setCell (.inr (by simp)) _).setCell (.inr (by simp)) _
          · exact (((((hR6.more (by omega)).setCell (by simp; omega) _).setCell (by simp; omega) _).setCell (by simp; omega) _).setCell (by simp; omega) _)
        · go_wp2_with fail
          have hRa := hR5.alloc (.cells #[.int .i64 (-1), .int .i64 1001] 3)
          refine (pick_c _ _ _ _ hRa (by omega) (by omega) (by omega)).mono ?_
          rintro e w6 ⟨m, hm, rfl, hO6, hR6⟩
          obtain ⟨x, hx, hx0, hx1⟩ := hO6.int_new (m := m) (lo := -1) (hi := 1001) (by omega) (by simp <;> omega) (by simp <;> omega)
          have hB6 := (hB5.alloc (.cells #[.int .i64 (-1), .int .i64 1001] 3)).only hO6 (by omega)
          have hZ6 := (hZ5.alloc (.cells #[.int .i64 (-1), .int .i64 1001] 3)).only hO6 (by omega)
          have hS6 := (hS5.alloc (.cells #[.int .i64 (-1), .int .i64 1001] 3)).trans hO6
          have hz6 := hO6.size
          (try simp only [World.size_alloc] at hz6)
          clear hRa hR5 hO6 hB5 hZ5 hS5
          obtain ⟨c0, c1, c2⟩ := hB6.cells
          obtain ⟨y0, y1, y2⟩ := hB6.free
          obtain ⟨d0, d1, d2⟩ := hZ6.cells
          obtain ⟨x0, x1, x2⟩ := hZ6.free
          go_wp2
          refine bodyPost_ret (v := .agg #[.int .i64 l', .int .i64 x, .int .i64 f']) (by simp [results, Try.results12, go_sem, *]) rfl ⟨_, _, _, hf', rfl, ?_, ?_⟩
          · exact (((hS6.setCell (.inr (by simp; omega)) _).setCell (.inr (by simp)) _).setCell (.inr (by simp)) _).setCell (.inr (by simp)) _
          · exact (((((hR6.more (by omega)).setCell (by simp; omega) _).setCell (by simp; omega) _).setCell (by simp; omega) _).setCell (by simp; omega) _)
        · obtain ⟨c0, c1, c2⟩ := hB5.cells
          obtain ⟨y0, y1, y2⟩ := hB5.free
          obtain ⟨d0, d1, d2⟩ := hZ5.cells
          obtain ⟨x0, x1, x2⟩ := hZ5.free
          go_wp2
          refine bodyPost_ret (v := .agg #[.int .i64 l', .int .i64 r', .int .i64 (-1)]) (by simp [results, Try.results12, go_sem, *]) rfl ⟨_, _, _, by omega, rfl, ?_, ?_⟩
          · exact (((hS5.setCell (.inr (by simp; omega)) _).setCell (.inr (by simp)) _).setCell (.inr (by simp)) _).setCell (.inr (by simp)) _
          · exact (((((hR5.more (by omega)).setCell (by simp; omega) _).setCell (by simp; omega) _).setCell (by simp; omega) _).setCell (by simp; omega) _)

/-- A store into a block of three numbers keeps the reader. -/
theorem Rd.setB3 {w : World} {R : Nat} {k : Int} (h : Rd w R k) {g : Nat} {t : TypeId} {x y z : Int} (hB : B3 w g t x y z) (hg : g ≠ R) (i : Nat) (v : Value) : Rd (w.setCell ⟨g, i, none⟩ v) R k := by
  obtain ⟨a, len, cap, p, h1, h2, h3, h4, h5⟩ := h
  refine ⟨a, len, cap, p, (Below.heap_setCell w ⟨g, i, none⟩ v R (Ne.symm hg)).trans h1, h2, h3, h4, ?_⟩
  rcases h5 with h5 | ⟨b, off, rfl, hlt, hc⟩
  · exact .inl h5
  · refine .inr ⟨b, off, rfl, hlt, fun j hj => ?_⟩
    obtain ⟨u, hu, hcu⟩ := hc j hj
    have hb : b ≠ g := by
      rintro rfl
      unfold B3 at hB
      simp only [World.cell?, hB] at hcu
      have hm : ∀ q : Nat, #[Value.int .i64 x, Value.int .i64 y, Value.int .i64 z][q]? ≠ some (.int .u8 u) := fun q => by
        match q with
        | 0 => intro e; cases e
        | 1 => intro e; cases e
        | 2 => intro e; cases e
        | q + 3 => simp
      exact hm _ (by simpa using hcu)
    exact ⟨u, hu, (World.cell?_of_block (w := w) (a := ⟨b, off + j, none⟩) (Below.heap_setCell w ⟨g, i, none⟩ v b hb)).trans hcu⟩
def DSkip (w : World) (e : Ending) (w' : World) : Prop := ∃ l r f n : Int, f ≤ 8 ∧ (-1 ≤ n ∧ n ≤ 100001) ∧ e = .returned (.tuple #[.agg #[.int .i64 l, .int .i64 r, .int .i64 f], .int .i64 n]) ∧ Below w.heap.size w w'
set_option maxHeartbeats 2000000 in
theorem drawSkipTimer_c (a : Option Addr) (len cap : Nat) (w : World) (hcode : Code w a len) (hl : len ≤ cap) : Calls Try.prog 5 #[.slice a len cap] w (DSkip w) := by
  go_enter Try.func5, Try.ntmps5
  have hZ0 := B3.new w 24 0 0 0
  go_wp2_with fail
  refine (open_c _ _ _ _ (hcode.keep (by (repeat (first | with_reducible exact Below.refl _ _ | ((with_reducible refine viaO (by assumption) ?_ ?_ ?_) <;> try ((try simp only [World.size_alloc, World.size_setCell, World.size_drew]) <;> omega)) | ((with_reducible refine Below.alloc ?_ ?_ _) <;> try ((try simp only [World.size_alloc, World.size_setCell, World.size_drew]) <;> omega)) | ((with_reducible refine Below.setCell ?_ ?_ _) <;> try ((try simp only [World.size_alloc, World.size_setCell, World.size_drew]) <;> omega)) | (with_reducible refine below_drewN ?_ _) | (with_reducible refine Below.drew ?_) | ((with_reducible refine via (by assumption) ?_ ?_) <;> try ((try simp only [World.size_alloc, World.size_setCell, World.size_drew]) <;> omega)))))) (by assumption)).mono ?_
  rintro e w1 ⟨R, rfl, hR0, hO_w1, hR_w1⟩
  have hz_w1 := hO_w1.size
  (try simp only [World.size_alloc, World.size_setCell, World.size_drew] at hz_w1)
  (try simp only [World.size_alloc, World.size_setCell, World.size_drew] at hR0)
  have hlt_w1 := hR_w1.lt
  have hZ1 := hZ0.below hO_w1 (by simp)
  have hb1 : Below w.heap.size w w1 := by
    (repeat (first | with_reducible exact Below.refl _ _ | ((with_reducible refine viaO (by assumption) ?_ ?_ ?_) <;> try ((try simp only [World.size_alloc, World.size_setCell, World.size_drew]) <;> omega)) | ((with_reducible refine Below.alloc ?_ ?_ _) <;> try ((try simp only [World.size_alloc, World.size_setCell, World.size_drew]) <;> omega)) | ((with_reducible refine Below.setCell ?_ ?_ _) <;> try ((try simp only [World.size_alloc, World.size_setCell, World.size_drew]) <;> omega)) | (with_reducible refine below_drewN ?_ _) | (with_reducible refine Below.drew ?_) | ((with_reducible refine via (by assumption) ?_ ?_) <;> try ((try simp only [World.size_alloc, World.size_setCell, World.size_drew]) <;> omega))))
  clear hZ0 hO_w1
  go_wp2_with fail
  refine (l20Timer_c _ _ _ _ hR_w1 (by omega) (by omega) (by omega)).mono ?_
  rintro e w2 ⟨l, r, f, hf, rfl, hO2, hR2⟩
  have hz2 := hO2.size
  have hZ2 := (hZ1.only hO2 (by omega)).alloc (.cells #[.int .i64 l, .int .i64 r, .int .i64 f] 24)
  have hB2 := B3.new w2 24 l r f
  have hb2 := (viaO hO2 hb1 (by omega) (by omega)).alloc (by omega) (.cells #[.int .i64 l, .int .i64 r, .int .i64 f] 24)
  have hR2 := hR2.alloc (.cells #[.int .i64 l, .int .i64 r, .int .i64 f] 24)
  clear hZ1 hb1 hO2 hcode
  go_wp2_with fail
  have hlw : w.heap.size < w2.heap.size := by omega
  generalize (w2.alloc (.cells #[.int .i64 l, .int .i64 r, .int .i64 f] 24)) = W at *
  have hOW : Only R w W := Only.of_below hb2
  refine wp_region_typed (by kernel_rfl) (by kernel_rfl) (fun n u => Rdg R 40 w n u ∧ B3 u w2.heap.size 24 l r f ∧ ∃ x y z, B3 u w.heap.size 24 x y z) (Ext (fun u _ => B3 u w.heap.size 24 l r f))
    (fun j v u => match j with
      | 0 => kIs (.agg #[.int .i64 l, .int .i64 r, .int .i64 f]) v
      | 1 | 3 | 8 => kIs (.pointer (some ⟨R, 0, none⟩)) v
      | 2 => kNat 100 v
      | 4 => kNat 256 v
      | 5 => kInt (fun x => 0 ≤ x ∧ x ≤ 100000) v
      | 6 => kRow 4 (fun x => -1 ≤ x ∧ x ≤ 100001) v u
      | 7 => kRow 6 (fun x => 0 ≤ x ∧ x ≤ 3) v u
      | 9 => kNat 6 v
      | 10 => kElem (fun x => 0 ≤ x ∧ x ≤ 3) v u
      | 11 => kInt (fun x => 0 ≤ x ∧ x ≤ 3) v
      | 12 => kElem (fun x => -1 ≤ x ∧ x ≤ 100001) v u
      | 13 | 15 => kInt (fun x => -1 ≤ x ∧ x ≤ 100001) v
      | 14 => B3 u w.heap.size 24 l r f
      | _ => True) ?_ ?_ ?_ ?_
  · intro j v u u' h e
    split at h <;> first | exact h | exact h.ext e | exact e.2 0 h
  · exact ⟨⟨hOW.drew, (show Rd W.drew R (0 + 40) from hR2).more (by omega)⟩, hB2, 0, 0, 0, hZ2⟩
  · rintro i o n' a' u ho hn' ⟨hC, hBu, x0, y0, z0, hZu⟩ hD hU
    have hsz := hC.size
    have hC2 := hC.2
    have hnx : Rdg R 40 w (n' + 1) u ∧ B3 u w2.heap.size 24 l r f ∧ ∃ x y z, B3 u w.heap.size 24 x y z := ⟨hC.next, hBu, x0, y0, z0, hZu⟩
    have hex : ∀ u', Only R u u' → Ext (fun u _ => B3 u w.heap.size 24 l r f) u u' := fun u' hO => Ext.only hC.2 hO (fun b h hk => (hk w.heap.size (by omega) h.lt).trans h)
    have hal : ∀ ob, Ext (fun u _ => B3 u w.heap.size 24 l r f) u (u.alloc ob) := fun ob => Ext.alloc ob (fun b h hk => (hk w.heap.size h.lt).trans h)
    have hon : ∀ u', Only R u u' → Rd u' R (40 + n' + 1) → Rdg R 40 w (n' + 1) u' ∧ B3 u' w2.heap.size 24 l r f ∧ ∃ x y z, B3 u' w.heap.size 24 x y z := fun u' hO hR' => ⟨hC.only hO hR', hBu.only hO (by omega), x0, y0, z0, hZu.only hO (by omega)⟩
    have han : ∀ ob, Rdg R 40 w (n' + 1) (u.alloc ob) ∧ B3 (u.alloc ob) w2.heap.size 24 l r f ∧ ∃ x y z, B3 (u.alloc ob) w.heap.size 24 x y z := fun ob => ⟨hC.alloc _, hBu.alloc _, x0, y0, z0, hZu.alloc _⟩
    have hi : i < 16 := (Array.getElem?_eq_some_iff.1 ho).1
    replace hn' : n' < 16 := hn'
    obtain rfl | rfl | rfl | rfl | rfl | rfl | rfl | rfl | rfl | rfl | rfl | rfl | rfl | rfl | rfl | rfl : i = 0 ∨ i = 1 ∨ i = 2 ∨ i = 3 ∨ i = 4 ∨ i = 5 ∨ i = 6 ∨ i = 7 ∨ i = 8 ∨ i = 9 ∨ i = 10 ∨ i = 11 ∨ i = 12 ∨ i = 13 ∨ i = 14 ∨ i = 15 := by omega
    all_goals (simp only [List.getElem?_toArray, List.getElem?_cons_zero, List.getElem?_cons_succ, Option.some.injEq] at ho; subst ho)
    all_goals clear hi
    · have u5 := hU 5 (not_written (by kernel_rfl))
      simp at u5
      obtain ⟨c0, c1, c2⟩ := hBu.cells
      clear hU hD
      go_simp
      exact Typed.mk _ rfl hnx (Ext.refl _ _) rfl
    · have u0 := hU 4 (not_written (by kernel_rfl))
      simp at u0
      clear hU hD
      go_simp
      exact Typed.mk _ rfl hnx (Ext.refl _ _) rfl
    · have e0 := hD ⟨1, Ground.data⟩ (by simp) rfl _ 11 rfl rfl
      simp [kIs] at e0
      clear hU hD
      go_simp
      refine (pick_c R 100 _ u hC2 (by omega) (by omega) (by omega)).mono ?_
      rintro e w' ⟨m, hm, rfl, hO, hR'⟩
      exact Typed.mk _ rfl (hon _ hO hR') (hex _ hO) ⟨m, hm, rfl⟩
    · have u0 := hU 4 (not_written (by kernel_rfl))
      simp at u0
      clear hU hD
      go_simp
      exact Typed.mk _ rfl hnx (Ext.refl _ _) rfl
    · have e0 := hD ⟨3, Ground.data⟩ (by simp) rfl _ 13 rfl rfl
      simp [kIs] at e0
      clear hU hD
      go_simp
      refine (pick_c R 256 _ u hC2 (by omega) (by omega) (by omega)).mono ?_
      rintro e w' ⟨m, hm, rfl, hO, hR'⟩
      exact Typed.mk _ rfl (hon _ hO hR') (hex _ hO) ⟨m, hm, rfl⟩
    · obtain ⟨m, hm, e1⟩ := hD ⟨4, Ground.data⟩ (by simp) rfl _ 14 rfl rfl
      simp at e1
      have hm2 : m < 256 := by omega
      have e2 : IntKind.i64.wrap ((m : Int) * 390) = (m : Int) * 390 := IntWalk.i64_in _ (by omega)
      clear hU hD hm
      go_simp
      exact Typed.mk _ rfl hnx (Ext.refl _ _) ⟨_, ⟨by omega, by omega⟩, rfl⟩
    · obtain ⟨m, hm, e1⟩ := hD ⟨2, Ground.data⟩ (by simp) rfl _ 12 rfl rfl
      obtain ⟨x, hx, e2⟩ := hD ⟨5, Ground.data⟩ (by simp) rfl _ 15 rfl rfl
      simp at e1 e2
      clear hU hD
      go_simp
      exact Typed.mk _ rfl (han _) (hal _) ⟨_, rfl, row_lit u [m, x, -1, 100001] 4 _ rfl (fun y hy => by simp at hy; omega)⟩
    · clear hU hD
      go_simp
      exact Typed.mk _ rfl (han _) (hal _) ⟨_, rfl, row_lit u [0, 0, 0, 1, 2, 3] 6 _ rfl (fun y hy => by simp at hy; omega)⟩
    · have u0 := hU 4 (not_written (by kernel_rfl))
      simp at u0
      clear hU hD
      go_simp
      exact Typed.mk _ rfl hnx (Ext.refl _ _) rfl
    · have e0 := hD ⟨8, Ground.data⟩ (by simp) rfl _ 18 rfl rfl
      simp [kIs] at e0
      clear hU hD
      go_simp
      refine (pick_c R 6 _ u hC2 (by omega) (by omega) (by omega)).mono ?_
      rintro e w' ⟨m, hm, rfl, hO, hR'⟩
      exact Typed.mk _ rfl (hon _ hO hR') (hex _ hO) ⟨m, hm, rfl⟩
    · obtain ⟨b, e0, hrow⟩ := hD ⟨7, Ground.data⟩ (by simp) rfl _ 17 rfl rfl
      obtain ⟨m, hm, e1⟩ := hD ⟨9, Ground.data⟩ (by simp) rfl _ 19 rfl rfl
      simp at e0 e1
      have hm4 : (m : Int) < 6 := by omega
      clear hU hD
      go_simp
      exact Typed.mk _ rfl hnx (Ext.refl _ _) ⟨b, m, 6, rfl, by omega, hrow⟩
    · obtain ⟨b, m, q, e0, hm, hrow⟩ := hD ⟨10, Ground.data⟩ (by simp) rfl _ 20 rfl rfl
      obtain ⟨x, hx, hx0⟩ := hrow.cell hm
      simp at e0
      clear hU hD
      go_simp
      exact Typed.mk _ rfl hnx (Ext.refl _ _) ⟨x, hx0, rfl⟩
    · obtain ⟨b, e0, hrow⟩ := hD ⟨6, Ground.data⟩ (by simp) rfl _ 16 rfl rfl
      obtain ⟨x, hx, e1⟩ := hD ⟨11, Ground.data⟩ (by simp) rfl _ 21 rfl rfl
      obtain ⟨m, rfl⟩ := Int.eq_ofNat_of_zero_le hx.1
      simp at e0 e1
      have hm4 : (m : Int) < 4 := by omega
      clear hU hD
      go_simp
      exact Typed.mk _ rfl hnx (Ext.refl _ _) ⟨b, m, 4, rfl, by omega, hrow⟩
    · obtain ⟨b, m, q, e0, hm, hrow⟩ := hD ⟨12, Ground.data⟩ (by simp) rfl _ 22 rfl rfl
      obtain ⟨x, hx, hx0⟩ := hrow.cell hm
      simp at e0
      clear hU hD
      go_simp
      exact Typed.mk _ rfl hnx (Ext.refl _ _) ⟨x, hx0, rfl⟩
    · have e0 := hD ⟨0, Ground.data⟩ (by simp) rfl _ 10 rfl rfl
      simp [kIs] at e0
      have u2 := hU 2 (not_written (by kernel_rfl))
      simp at u2
      obtain ⟨c0, c1, c2⟩ := hZu.cells
      obtain ⟨y0, y1, y2⟩ := hZu.free
      have hput := hZu.put l r f
      clear hU hD
      go_simp
      refine Typed.mk undef rfl ⟨⟨?_, ?_⟩, ?_, l, r, f, hput⟩ ⟨fun x cs hx => ?_, fun x hx => hput⟩ hput
      · exact ((hC.1.setCell (.inr (by simp)) _).setCell (.inr (by simp)) _).setCell (.inr (by simp)) _
      · exact ((((hC.2.more (by omega)).setB3 hZu (by omega) 0 _).setB3 (hZu.put0 _) (by omega) 1 _).setB3 ((hZu.put0 _).put1 _) (by omega) 2 _)
      · exact ((hBu.far (by simp; omega) _).far (by simp; omega) _).far (by simp; omega) _
      · have hne : x ≠ w.heap.size := by
          rintro rfl
          unfold B3 at hZu
          rw [hx] at hZu
          injection hZu with hZu
          injection hZu with _ hZu
          exact absurd hZu (by decide)
        simp [World.setCell, Array.getElem?_modify, Ne.symm hne, hx]
    · obtain ⟨x, hx, e1⟩ := hD ⟨13, Ground.data⟩ (by simp) rfl _ 23 rfl rfl
      simp at e1
      clear hU hD
      go_simp
      exact Typed.mk _ rfl hnx (Ext.refl _ _) ⟨x, hx, rfl⟩
  · rintro a' u ⟨hC, hBu, hZu⟩ hL hN hU hs hd
    obtain ⟨n, hn, e3⟩ := hL 15 _ 3 rfl rfl
    obtain ⟨_, hres⟩ := hN 14 _ rfl
    have e3' : a'.tmps[3]?.getD undef = .int .i64 n := by simpa using e3
    clear e3
    replace hres : B3 u w.heap.size 24 l r f := hres
    have ht := tmps_ds [10, 11, 12, 13, 14, 15, 16, 17, 18, 19, 20, 21, 22, 23, 3] rfl hs hU
    simp [List.range, List.range.loop] at ht
    rw [e3'] at ht
    (try generalize a'.tmps[10]?.getD undef = x10 at ht)
    (try generalize a'.tmps[11]?.getD undef = x11 at ht)
    (try generalize a'.tmps[12]?.getD undef = x12 at ht)
    (try generalize a'.tmps[13]?.getD undef = x13 at ht)
    (try generalize a'.tmps[14]?.getD undef = x14 at ht)
    (try generalize a'.tmps[15]?.getD undef = x15 at ht)
    (try generalize a'.tmps[16]?.getD undef = x16 at ht)
    (try generalize a'.tmps[17]?.getD undef = x17 at ht)
    (try generalize a'.tmps[18]?.getD undef = x18 at ht)
    (try generalize a'.tmps[19]?.getD undef = x19 at ht)
    (try generalize a'.tmps[20]?.getD undef = x20 at ht)
    (try generalize a'.tmps[21]?.getD undef = x21 at ht)
    (try generalize a'.tmps[22]?.getD undef = x22 at ht)
    (try generalize a'.tmps[23]?.getD undef = x23 at ht)
    (try generalize a'.tmps[3]?.getD undef = x3 at ht)
    obtain ⟨tm, df⟩ := a'
    simp only at ht hd
    subst ht hd
    clear hL hN hU hs
    obtain ⟨c0, c1, c2⟩ := hres.cells
    have hO := hC.1
    clear hC hBu hZu hres
    go_wp2
    refine bodyPost_ret (v := .tuple #[.agg #[.int .i64 l, .int .i64 r, .int .i64 f], .int .i64 n]) (by simp [results, Try.results5, go_sem, *]) rfl ⟨l, r, f, n, hf, hn, rfl, ?_⟩
    exact hO.below (by omega) (by omega)

end Go.Proofs.Ytnbfaaddhnhphaa
