/-
  What the drawn tiles and sprites are: lists of the draw's own, at most 4 tiles and 24 sprites. No conditions.
-/
import Derived.Test.YtabioinmpjfflaaSpr
import Derived.Test.YtabioinmpjfflaaAppend
import Derived.Test.YtabioinmpjfflaaTileDraw
import Derived.IntWalk
namespace Go.Proofs.Ytabioinmpjfflaa
set_option linter.all false
set_option linter.unusedSimpArgs false
set_option linter.unusedVariables false
set_option maxRecDepth 20000
open Go.ChangeShapes Go.WideShapes Go.ChangeAt Go.RowKit

theorem own_onlyR {w w' : World} {R base : Nat} {t : TypeId} {sz n : Nat} {v : Value} {xs : List Value} (h : w.ownsRow base t sz v n xs) (hO : Only R w w') (hR : R < base) : w'.ownsRow base t sz v n xs :=
  h.kept hO (by
    cases e : v.ownBlock
    · exact .inl rfl
    · refine .inr fun e' => ?_
      injection e' with e'
      have := (h.lt _ e).1
      omega)
theorem Only.then_below {R : Nat} {w w2 w3 : World} (h : Only R w w2) (hb : Below w.heap.size w2 w3) : Only R w w3 :=
  ⟨hb.os.trans h.os, hb.tape.trans h.tape, hb.output.trans h.output, Nat.le_trans h.size hb.size, fun i hi hn => (hb.block i hi).trans (h.block i hi hn)⟩
section
variable {P : Program} {ops : Array Oper} {rest : List Oper} {o : Oper} {a : Act} {w : World} {Q : Exit → Act → World → Prop}
theorem atLit {dst : Option Tmp} {ty ot : TypeId} {n : Nat} {ps : Array (Nat × Operand)} {pos : String} {after : Array Edge} {gd : Option (Nat × Bool)} (h : wpList P ops Q (⟨dst, .buildSlice ty n ps, ot, pos, after, gd⟩ :: rest) a w) : wpList P ops Q (⟨dst, .buildSlice ty n ps, ot, pos, after, gd⟩ :: rest) a w := h
theorem wpList_lit1 (hgd : o.guard = none) (ty : TypeId) (x : Operand) (ho : o.op = .buildSlice ty 1 #[(0, x)]) (v : Value) (hx : a.eval x = v) (w' : World) (u : Value) (hr : (Instr.buildSlice ty 1 #[(0, v)]).run P w = .ok u w')
    (h : wpList P ops Q rest (a.put o.dst u) w') : wpList P ops Q (o :: rest) a w :=
  wpList_plain hgd fun K hK => by
    have hr' : (execOp a.eval o).run P w = .ok (.value u) w' := by
      unfold execOp
      rw [ho]
      simp [Sem.run_bind, hx, hr]
    unfold Oper.wp
    rw [hr']
    exact hK _ _ h
end
theorem lit1_tile (p : Nat → Int) (W : World) : (Instr.buildSlice 24 1 #[(0, .agg (tv p))]).run Try.prog W = .ok (.slice (some ⟨W.heap.size, 0, none⟩) 1 1) (W.alloc (.cells (tv p) 36)) := by kernel_rfl
theorem tc_snoc (q : Nat → Nat → Int) (m : Nat) (p : Nat → Int) : (List.range (m * 64)).map (tc fun i => if i = m then p else q i) = (List.range (m * 64)).map (tc q) :=
  List.map_congr_left fun i hi => by
    simp only [List.mem_range] at hi
    unfold tc
    simp only [if_neg (show ¬ i / 64 = m by omega)]
def DTiles (R : Nat) (k : Int) (w : World) (e : Ending) (w' : World) : Prop := ∃ B m d q, e = .returned (.slice B m d) ∧ 1 ≤ m ∧ m ≤ 4 ∧ w'.ownsRow w.heap.size 36 64 (.slice B m d) m ((List.range (m * 64)).map (tc q)) ∧ Only R w w' ∧ Rd w' R (k + 1000)

/-- What a drawn list of sprites is. -/
def DSprites (R : Nat) (k : Int) (w : World) (e : Ending) (w' : World) : Prop := ∃ A n c s, e = .returned (.slice A n c) ∧ n ≤ 24 ∧ (∃ g, A = some ⟨g, 0, none⟩) ∧ w'.ownsRow w.heap.size 38 6 (.slice A n c) n ((List.range (n * 6)).map (sc s)) ∧ Only R w w' ∧ Rd w' R (k + 200)
theorem sc_snoc (s : Nat → Spr) (n : Nat) (x : Spr) : (List.range (n * 6)).map (sc fun i => if i = n then x else s i) = (List.range (n * 6)).map (sc s) :=
  List.map_congr_left fun i hi => by
    simp only [List.mem_range] at hi
    unfold sc
    simp only [if_neg (show ¬ i / 6 = n by omega)]
theorem cells6 (x : Spr) (j : Nat) (hj : j < 6) : #[Value.int .i64 x.x, .int .i64 x.y, .int .i64 x.num, .bool x.ac, .bool x.dn, .bool x.bh][j]? = some (scl x j) := by
  match j, hj with
  | 0, _ => rfl
  | 1, _ => rfl
  | 2, _ => rfl
  | 3, _ => rfl
  | 4, _ => rfl
  | 5, _ => rfl
def lenOf : Value → Nat
  | .slice _ n _ => n
  | _ => 0
theorem sc_put0 (s : Nat → Spr) (kk : Nat) (x : Int) (j : Nat) : updV (sc s) (kk * 6) (.int .i64 x) j = sc (fun i => if i = kk then { s kk with x := x } else s i) j := by
  show (if j = kk * 6 then Value.int .i64 x else scl (s (j / 6)) (j % 6)) = scl (if j / 6 = kk then { s kk with x := x } else s (j / 6)) (j % 6)
  by_cases e : j = kk * 6
  · subst e
    rw [if_pos rfl, show kk * 6 / 6 = kk by omega, show kk * 6 % 6 = 0 by omega, if_pos rfl]; rfl
  · rw [if_neg e]
    by_cases e2 : j / 6 = kk
    · rw [if_pos e2, e2]
      have h0 : j % 6 ≠ 0 := by omega
      generalize j % 6 = r at h0
      match r, h0 with
      | 0, h => exact absurd rfl h
      | 1, _ => rfl
      | 2, _ => rfl
      | 3, _ => rfl
      | 4, _ => rfl
      | r + 5, _ => rfl
    · rw [if_neg e2]
theorem sc_put2 (s : Nat → Spr) (kk : Nat) (x : Int) (j : Nat) : updV (sc s) (kk * 6 + 2) (.int .i64 x) j = sc (fun i => if i = kk then { s kk with num := x } else s i) j := by
  show (if j = kk * 6 + 2 then Value.int .i64 x else scl (s (j / 6)) (j % 6)) = scl (if j / 6 = kk then { s kk with num := x } else s (j / 6)) (j % 6)
  by_cases e : j = kk * 6 + 2
  · subst e
    rw [if_pos rfl, show (kk * 6 + 2) / 6 = kk by omega, show (kk * 6 + 2) % 6 = 2 by omega, if_pos rfl]; rfl
  · rw [if_neg e]
    by_cases e2 : j / 6 = kk
    · rw [if_pos e2, e2]
      have h0 : j % 6 ≠ 2 := by omega
      generalize j % 6 = r at h0
      match r, h0 with
      | 0, _ => rfl
      | 1, _ => rfl
      | 2, h => exact absurd rfl h
      | 3, _ => rfl
      | 4, _ => rfl
      | r + 5, _ => rfl
    · rw [if_neg e2]
theorem scl_one' (s : Nat → Spr) (n j : Nat) (hj : j < 6) : (sc s (n * 6 + j)).oneCell' = true := by
  rw [sc_at s n j hj]; exact scl_one _ _

set_option maxHeartbeats 4000000 in
theorem l20Sprites_c (R : Nat) (nt : Nat) (bad k0 : Int) (w : World) (hR : Rd w R k0) (hk0 : k0 ≤ 500000) (hnt : nt ≤ 1000) (hn : bad ≤ 1000000) (hn0 : -1000000 ≤ bad) :
    Calls Try.prog 58 #[.pointer (some ⟨R, 0, none⟩), .int .i64 nt, .int .i64 bad] w (DSprites R k0 w) := by
  have hlt := hR.lt
  obtain ⟨mt, hmt, hmt1, hmt2⟩ : ∃ mt : Nat, ((1 < (nt : Int) ∧ mt = nt) ∨ ((nt : Int) ≤ 1 ∧ mt = 1)) ∧ 1 ≤ mt ∧ mt ≤ 1000 := by
    by_cases h : 1 < nt
    · exact ⟨nt, .inl ⟨by omega, rfl⟩, by omega, hnt⟩
    · exact ⟨1, .inr ⟨by omega, rfl⟩, by omega, by omega⟩
  go_enter Try.func58, Try.ntmps58
  go_wp2_with fail
  have hRa := hR.alloc (.cells #[] 38)
  refine (pick_c _ _ _ _ hRa (by omega) (by omega) (by omega)).mono ?_
  rintro e w1 ⟨same, hsame, rfl, hO1, hR1⟩
  go_wp2_with fail
  refine (pick_c _ _ _ _ hR1 (by omega) (by omega) (by omega)).mono ?_
  rintro e w2 ⟨j0, hj0, rfl, hO2, hR2⟩
  have hj9 : j0 < 9 := by omega
  have HO2 := Lib.hid ((((Only.refl R w).alloc (.cells #[] 38)).trans hO1).trans hO2)
  have HE := Lib.hid (own_onlyR (own_onlyR (own_empty w 38 6 w.heap.size (Nat.le_refl _)) hO1 hlt) hO2 hlt)
  have HR2 := Lib.hid hR2
  clear hO1 hO2 hRa hR1 hR2 hj0
  go_wp2
  go_loopw [7, 9] (fun u i wr => ∃ (j n c : Nat) (A : Option Addr) (s : Nat → Spr), j ≤ j0 ∧ n + j = j0 ∧ i = .int .i64 j ∧ u = .slice A n c ∧ (∃ g, A = some ⟨g, 0, none⟩) ∧ wr.ownsRow w.heap.size 38 6 (.slice A n c) n ((List.range (n * 6)).map (sc s)) ∧ Rd wr R (k0 + 2 + 7 * n) ∧ Only R w wr) (fun _ i _ => (intOf i).toNat)
  case atStart => exact ⟨j0, 0, 0, _, fun _ => zeroS, by omega, by omega, rfl, rfl, ⟨_, rfl⟩, HE.out, HR2.out.more (by omega), HO2.out⟩
  case round =>
    obtain ⟨j, n, c, A, s, hj, hmj, rfl, rfl, hAg, hown, hR0, hO⟩ := hrel
    have HW := Lib.hid hown
    have HO := Lib.hid hO
    have hOs := hO.size
    clear hown hO
    by_cases hj0 : j = 0
    · have hj0' : ¬ 0 < (j : Int) := by omega
      by_cases hn0 : n = 0
      · subst hn0
        go_wp2
        go_ret
        exact ⟨A, 0, c, s, rfl, by omega, hAg, HW.out, HO.out, hR0.more (by omega)⟩
      have hnp : 0 < n := by omega
      have hnpi : 0 < (n : Int) := by omega
      go_wp2_with fail
      refine (odd_c _ _ _ _ hR0 (by omega) (by omega) (by omega)).mono ?_
      rintro e w3 ⟨v, rfl, hO3, hR3⟩
      have HW3 := Lib.hid (own_onlyR HW.out hO3 hlt)
      have HO3 := Lib.hid (HO.out.trans hO3)
      clear hO3
      cases v
      · go_wp2
        go_ret
        exact ⟨A, n, c, s, rfl, by omega, hAg, HW3.out, HO3.out, hR3.more (by omega)⟩
      · go_wp2_with fail
        refine (pick_c _ _ _ _ hR3 (by omega) (by omega) (by omega)).mono ?_
        rintro e w4 ⟨kk, hkk, rfl, hO4, hR4⟩
        have hkn : kk < n := by omega
        go_wp2_with fail
        refine (pick_c _ _ _ _ hR4 (by omega) (by omega) (by omega)).mono ?_
        rintro e w5 ⟨dd, hdd, rfl, hO5, hR5⟩
        have HW5 := Lib.hid (own_onlyR (own_onlyR HW3.out hO4 hlt) hO5 hlt)
        have HO5 := Lib.hid ((HO3.out.trans hO4).trans hO5)
        have hs5 := ((HO3.out.trans hO4).trans hO5).size
        have HR5 := Lib.hid hR5
        have hd3 : dd = 0 ∨ dd = 1 ∨ dd = 2 := by omega
        clear hO4 hO5 hR3 hR4 hR5 hdd hkk HW3 HO3
        rcases hd3 with rfl | rfl | rfl
        · go_wp2_with fail
          have hRb := HR5.out.alloc (.cells #[.int .i64 (-17), .int .i64 65] 3)
          refine (pick_c _ _ _ _ hRb (by omega) (by omega) (by omega)).mono ?_
          rintro e w6 ⟨mm, hmm, rfl, hO6, hR6⟩
          obtain ⟨x, hx, _, _⟩ := hO6.int_new (m := mm) (lo := -1000) (hi := 1000) (by omega) (by simp <;> omega) (by simp <;> omega)
          have h6 := own_onlyR (HW5.out.alloc (.cells #[.int .i64 (-17), .int .i64 65] 3)) hO6 hlt
          obtain ⟨g, rfl, hg0, hg1⟩ := own_head h6 hnp
          have ck := (h6.cellAt (kk * 6 + 0) (by omega)).trans (map_get (show kk * 6 + 0 < n * 6 by omega))
          rw [sc_at s kk 0 (by omega)] at ck
          simp only [scl] at ck
          have fk := h6.frozenAt (kk * 6 + 0)
          (try rw [Nat.add_zero] at ck fk)
          have HP := Lib.hid (own_put h6 (kk * 6 + 0) (.int .i64 x))
          have HO6 := Lib.hid ((HO5.out.alloc (.cells #[.int .i64 (-17), .int .i64 65] 3)).trans hO6)
          have HR6 := Lib.hid hR6
          have i1 : (kk : Int) < (n : Int) := by omega
          have hgR : R < g := by omega
          clear h6 hO6 hR6 hRb
          go_wp2
          go_ret
          refine ⟨_, n, _, fun i => if i = kk then { s kk with x := x } else s i, rfl, by omega, ⟨g, rfl⟩, ?_, HO6.out.setCell (.inr hg0) _, (HR6.out.more (by omega)).setCell hgR _⟩
          have hp := HP.out
          (try rw [Nat.add_zero] at hp)
          refine cast (congrArg (fun l => World.ownsRow _ _ _ _ _ _ l) (List.map_congr_left fun i hi => ?_)) hp
          exact sc_put0 s kk x i
        · go_wp2_with fail
          have hRb := HR5.out.alloc (.cells #[.int .i64 (-1), .int .i64 (nt : Int)] 3)
          refine (pick_c _ _ _ _ hRb (by omega) (by omega) (by omega)).mono ?_
          rintro e w6 ⟨mm, hmm, rfl, hO6, hR6⟩
          obtain ⟨x, hx, _, _⟩ := hO6.int_new (m := mm) (lo := -1000) (hi := 1000) (by omega) (by simp <;> omega) (by simp <;> omega)
          have h6 := own_onlyR (HW5.out.alloc (.cells #[.int .i64 (-1), .int .i64 (nt : Int)] 3)) hO6 hlt
          obtain ⟨g, rfl, hg0, hg1⟩ := own_head h6 hnp
          have ck := (h6.cellAt (kk * 6 + 2) (by omega)).trans (map_get (show kk * 6 + 2 < n * 6 by omega))
          rw [sc_at s kk 2 (by omega)] at ck
          simp only [scl] at ck
          have fk := h6.frozenAt (kk * 6 + 2)
          (try rw [Nat.add_zero] at ck fk)
          have HP := Lib.hid (own_put h6 (kk * 6 + 2) (.int .i64 x))
          have HO6 := Lib.hid ((HO5.out.alloc (.cells #[.int .i64 (-1), .int .i64 (nt : Int)] 3)).trans hO6)
          have HR6 := Lib.hid hR6
          have i1 : (kk : Int) < (n : Int) := by omega
          have hgR : R < g := by omega
          clear h6 hO6 hR6 hRb
          go_wp2
          go_ret
          refine ⟨_, n, _, fun i => if i = kk then { s kk with num := x } else s i, rfl, by omega, ⟨g, rfl⟩, ?_, HO6.out.setCell (.inr hg0) _, (HR6.out.more (by omega)).setCell hgR _⟩
          have hp := HP.out
          (try rw [Nat.add_zero] at hp)
          refine cast (congrArg (fun l => World.ownsRow _ _ _ _ _ _ l) (List.map_congr_left fun i hi => ?_)) hp
          exact sc_put2 s kk x i
        · go_wp2
          go_loopw [7] (fun u wr => ∃ (n c : Nat) (A : Option Addr) (s : Nat → Spr), 1 ≤ n ∧ n ≤ 24 ∧ u = .slice A n c ∧ wr.ownsRow w.heap.size 38 6 (.slice A n c) n ((List.range (n * 6)).map (sc s)) ∧ Rd wr R (k0 + 100) ∧ Only R w wr) (fun u _ => 24 - (lenOf u))
          case atStart => exact ⟨n, c, A, s, hnp, by omega, rfl, HW5.out, HR5.out.more (by omega), HO5.out⟩
          case round =>
            obtain ⟨n2, c2, A2, s2, hn1, hn2, rfl, hown2, hR2', hO2'⟩ := hrel
            have HA := Lib.hid hown2
            have HB := Lib.hid hR2'
            have HC := Lib.hid hO2'
            have hOs2 := hO2'.size
            by_cases h12 : n2 ≤ 12
            · have h12i : (n2 : Int) ≤ 12 := by omega
              obtain ⟨g, rfl, hg0, hg1⟩ := own_head hown2 (by omega)
              have hcell : ∀ j, j < n2 * 6 → wr.cell? ⟨g, 0 + j, none⟩ = some (sc (fun i => if i < n2 then s2 i else s2 (i - n2)) (n2 * 6 + j)) := fun j hj => by
                rw [Nat.zero_add, (HA.out.cellAt j hj).trans (map_get hj)]
                unfold sc
                rw [show (n2 * 6 + j) / 6 = n2 + j / 6 by omega, show (n2 * 6 + j) % 6 = j % 6 by omega]
                show some (scl (s2 (j / 6)) (j % 6)) = some (scl (if n2 + j / 6 < n2 then s2 (n2 + j / 6) else s2 (n2 + j / 6 - n2)) (j % 6))
                rw [if_neg (by omega), show n2 + j / 6 - n2 = j / 6 by omega]
              have HCELL := Lib.hid hcell
              have HA2 : Hid (wr.ownsRow w.heap.size 38 6 (.slice (some ⟨g, 0, none⟩) n2 c2) n2 ((List.range (n2 * 6)).map (sc fun i => if i < n2 then s2 i else s2 (i - n2)))) := Lib.hid (by
                refine cast (congrArg (fun l => World.ownsRow _ _ _ _ _ _ l) (List.map_congr_left fun i hi => ?_)) HA.out
                simp only [List.mem_range] at hi
                unfold sc
                simp only [if_pos (show i / 6 < n2 by omega)])
              clear hown2 hR2' hO2' hcell
              go_wp2_with (at_builtin; refine wpList_append_all Try.underlying27 info38 rfl (by omega) (by omega) rfl _ _ rfl w.heap.size n2 n2 c2 c2 g 0 (some ⟨g, 0, none⟩) (sc fun i => if i < n2 then s2 i else s2 (i - n2)) rfl rfl HA2.out HCELL.out (fun j hj => by unfold sc; exact scl_one _ _) (by omega) hOs2 ?_; intro A' cap' w9 hown9 hO_w9)
              go_roundw
              case rel => exact ⟨n2 + n2, cap', A', _, by omega, by omega, rfl, hown9, HB.out.below hO_w9 hlt, HC.out.then_below hO_w9⟩
              case measure => simp [lenOf]; omega
            · have h12i : ¬ (n2 : Int) ≤ 12 := by omega
              clear hown2 hR2' hO2'
              go_wp2
              go_ret
              exact ⟨A2, n2, c2, s2, rfl, hn2, (by obtain ⟨g, hg, _⟩ := own_head HA.out (by omega); exact ⟨g, hg⟩), HA.out, HC.out, HB.out.more (by omega)⟩
    · have hjp : 0 < (j : Int) := by omega
      go_wp2_with fail
      refine (pick_c _ _ _ _ hR0 (by omega) (by omega) (by omega)).mono ?_
      rintro e u1 ⟨a1, ha1, rfl, hO1, hR1⟩
      go_wp2_with fail
      refine (pick_c _ _ _ _ hR1 (by omega) (by omega) (by omega)).mono ?_
      rintro e u2 ⟨a2, ha2, rfl, hO2, hR2⟩
      rcases hmt with ⟨hm1, rfl⟩ | ⟨hm1, rfl⟩
      all_goals
        go_wp2_with fail
        refine (pick_c _ _ _ _ hR2 (by omega) (by omega) (by omega)).mono ?_
        rintro e u3 ⟨a3, ha3, rfl, hO3, hR3⟩
        go_wp2_with fail
        refine (pick_c _ _ _ _ hR3 (by omega) (by omega) (by omega)).mono ?_
        rintro e u4 ⟨a4, ha4, rfl, hO4, hR4⟩
        go_wp2_with fail
        refine (pick_c _ _ _ _ hR4 (by omega) (by omega) (by omega)).mono ?_
        rintro e u5 ⟨a5, ha5, rfl, hO5, hR5⟩
        go_wp2_with fail
        refine (pick_c _ _ _ _ hR5 (by omega) (by omega) (by omega)).mono ?_
        rintro e u6 ⟨a6, ha6, rfl, hO6, hR6⟩
        have hO06 := ((((hO1.trans hO2).trans hO3).trans hO4).trans hO5).trans hO6
        have e1 : IntKind.i64.wrap ((a1 : Int) - 8) = (a1 : Int) - 8 := IntWalk.i64_in _ (by omega)
        have e2 : IntKind.i64.wrap ((a2 : Int) - 8) = (a2 : Int) - 8 := IntWalk.i64_in _ (by omega)
        have HW6 := Lib.hid (own_onlyR HW.out hO06 hlt)
        have HO6 := Lib.hid (HO.out.trans hO06)
        have hs6 := (HO.out.trans hO06).size
        have hRa := hR6.alloc (.cells #[.int .i64 ((a1 : Int) - 8), .int .i64 ((a2 : Int) - 8), .int .i64 a3, .bool ((a4 : Int) == 0), .bool ((a5 : Int) == 0), .bool ((a6 : Int) == 0)] 38)
        have hR6l := hR6.lt
        clear hO1 hO2 hO3 hO4 hO5 hO6 hO06 hR1 hR2 hR3 hR4 hR5 ha1 ha2 ha3 ha4 ha5 ha6
        go_wp2_with fail
        refine (pick_c _ _ _ _ hRa (by omega) (by omega) (by omega)).mono ?_
        rintro e u7 ⟨a7, ha7, rfl, hO7, hR7⟩
        have hz7 := hO7.size
        simp only [World.size_alloc] at hz7
        have HW7 := Lib.hid (own_onlyR (HW6.out.alloc (.cells #[.int .i64 ((a1 : Int) - 8), .int .i64 ((a2 : Int) - 8), .int .i64 a3, .bool ((a4 : Int) == 0), .bool ((a5 : Int) == 0), .bool ((a6 : Int) == 0)] 38)) hO7 hlt)
        have HO7 := Lib.hid ((HO6.out.alloc (.cells #[.int .i64 ((a1 : Int) - 8), .int .i64 ((a2 : Int) - 8), .int .i64 a3, .bool ((a4 : Int) == 0), .bool ((a5 : Int) == 0), .bool ((a6 : Int) == 0)] 38)).trans hO7)
        have c7 := fun o => hO7.cells.1 u6.heap.size o (by simp) (by omega)
        have f7 := fun o => hO7.cells.2 u6.heap.size o (by simp) (by omega)
        have HN6 : Hid ((Value.slice A n c).ownBlock = none ∨ (Value.slice A n c).ownBlock ≠ some u6.heap.size) := Lib.hid (by
          cases hx : (Value.slice A n c).ownBlock with
          | none => exact .inl rfl
          | some x =>
            refine .inr fun hy => ?_
            injection hy with hy
            have := (HW6.out.lt _ hx).2
            omega)
        have HR7 := Lib.hid hR7
        clear hO7 hRa hR6 hR7
        by_cases h7 : a7 = 0
        · have h7' : ((a7 : Int) == 0) = true := by simp [h7]
          clear h7
          have HW8 : Hid ((u7.setCell ⟨u6.heap.size, 1, none⟩ (.int .i64 same)).ownsRow w.heap.size 38 6 (.slice A n c) n ((List.range (n * 6)).map (sc fun i => if i = n then ⟨(a1 : Int) - 8, same, a3, (a4 : Int) == 0, (a5 : Int) == 0, (a6 : Int) == 0⟩ else s i))) := Lib.hid (by rw [sc_snoc]; exact HW7.out.kept (grown_put u7 u6.heap.size 1 _) HN6.out)
          have hs8 : w.heap.size ≤ (u7.setCell ⟨u6.heap.size, 1, none⟩ (.int .i64 same)).heap.size := by (try simp only [World.size_setCell]); omega
          go_wp2_with (at_builtin; refine wpList_append_el (w0 := (u7.setCell ⟨u6.heap.size, 1, none⟩ (.int .i64 same))) (cs := #[.int .i64 ((a1 : Int) - 8), .int .i64 same, .int .i64 a3, .bool ((a4 : Int) == 0), .bool ((a5 : Int) == 0), .bool ((a6 : Int) == 0)]) Try.underlying27 info38 rfl (by omega) (by omega) rfl _ _ rfl w.heap.size n c A (sc fun i => if i = n then ⟨(a1 : Int) - 8, same, a3, (a4 : Int) == 0, (a5 : Int) == 0, (a6 : Int) == 0⟩ else s i) rfl (by (try rw [World.size_setCell]); rfl) HW8.out rfl (fun j hj => by rw [sc_at _ n j hj, if_pos rfl]; exact cells6 ⟨(a1 : Int) - 8, same, a3, (a4 : Int) == 0, (a5 : Int) == 0, (a6 : Int) == 0⟩ j hj) (fun j hj => scl_one' _ n j hj) (by omega) hs8 ?_; intro A' cap' w9 hown9 hO_w9)
          go_roundw
          case rel => exact ⟨j - 1, n + 1, cap', A', _, by omega, by omega, by go_num, rfl, (by obtain ⟨g, hg, _⟩ := own_head hown9 (by omega); exact ⟨g, hg⟩), hown9, ((HR7.out.setCell (p := ⟨u6.heap.size, 1, none⟩) (show R < u6.heap.size from hR6l) (.int .i64 same)).below hO_w9 hlt).more (by omega), (HO7.out.setCell (p := ⟨u6.heap.size, 1, none⟩) (.inr hs6) (.int .i64 same)).then_below hO_w9⟩
          case measure => simp [intOf]; omega
        · have h7' : ((a7 : Int) == 0) = false := by simpa using h7
          clear h7
          have HW8 : Hid (u7.ownsRow w.heap.size 38 6 (.slice A n c) n ((List.range (n * 6)).map (sc fun i => if i = n then ⟨(a1 : Int) - 8, ((a2 : Int) - 8), a3, (a4 : Int) == 0, (a5 : Int) == 0, (a6 : Int) == 0⟩ else s i))) := Lib.hid (by rw [sc_snoc]; exact HW7.out)
          have hs8 : w.heap.size ≤ u7.heap.size := by (try simp only [World.size_setCell]); omega
          go_wp2_with (at_builtin; refine wpList_append_el (w0 := u7) (cs := #[.int .i64 ((a1 : Int) - 8), .int .i64 ((a2 : Int) - 8), .int .i64 a3, .bool ((a4 : Int) == 0), .bool ((a5 : Int) == 0), .bool ((a6 : Int) == 0)]) Try.underlying27 info38 rfl (by omega) (by omega) rfl _ _ rfl w.heap.size n c A (sc fun i => if i = n then ⟨(a1 : Int) - 8, ((a2 : Int) - 8), a3, (a4 : Int) == 0, (a5 : Int) == 0, (a6 : Int) == 0⟩ else s i) rfl (by (try rw [World.size_setCell]); rfl) HW8.out rfl (fun j hj => by rw [sc_at _ n j hj, if_pos rfl]; exact cells6 ⟨(a1 : Int) - 8, ((a2 : Int) - 8), a3, (a4 : Int) == 0, (a5 : Int) == 0, (a6 : Int) == 0⟩ j hj) (fun j hj => scl_one' _ n j hj) (by omega) hs8 ?_; intro A' cap' w9 hown9 hO_w9)
          go_roundw
          case rel => exact ⟨j - 1, n + 1, cap', A', _, by omega, by omega, by go_num, rfl, (by obtain ⟨g, hg, _⟩ := own_head hown9 (by omega); exact ⟨g, hg⟩), hown9, (HR7.out.below hO_w9 hlt).more (by omega), HO7.out.then_below hO_w9⟩
          case measure => simp [intOf]; omega
end Go.Proofs.Ytabioinmpjfflaa
