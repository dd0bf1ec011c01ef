/-
  ShiftField of the reference, where it has a result: the walk. Conditions: at most 1048576 tiles and numbers.
-/
import Derived.Test.YthopeedonikdhaaFieldShift3
namespace Go.Proofs.Ythopeedonikdhaa
set_option linter.all false
set_option linter.unusedSimpArgs false
set_option linter.unusedVariables false
open Go.ChangeShapes Go.WideShapes Go.ChangeAt Go.RowKit

set_option maxHeartbeats 2000000 in
theorem sshy_c (W : Nat) (A : Option Addr) (n c : Nat) (B : Option Addr) (m d : Nat) (X Y : Nat) (dx dy : Int) (p : Nat → Int) (q : Nat → Nat → Int) (w : World) {C C' : Nat} (h : RS w C 1 A n (iv p)) (h' : RS w C' 64 B m (tc q)) (hC : C ≤ w.heap.size) (hC' : C' ≤ w.heap.size) (hn : n ≤ 1048576) (hm : m ≤ 1048576)
    (hv : fvd W n m X Y p q = true) (hx : inB dx (-255) 255 = true) (hy : inB dy (-255) 255 = true) (hok : FOK W n m p) (hX : X ≤ 255) (hY : Y ≤ 255) : Calls Try.prog 12 #[fdV W A n c B m d X Y, .int .i64 dx, .int .i64 dy] w (GField W n m ((X + dx) % (8 * W)) ((Y + dy) % (8 * (n / W))) p q w) := by
  obtain ⟨w1, w8, hmul, h1, h8, m1, m16, num⟩ := id hok
  have hn0 : 0 < n := by
    have : 1 * 1 ≤ W * (n / W) := Nat.mul_le_mul w1 h1
    omega
  obtain ⟨x0, x1⟩ := inB_true.1 hx
  obtain ⟨y0, y1⟩ := inB_true.1 hy
  have q0 : 1 ≤ (n : Int) / (W : Int) ∧ (n : Int) / (W : Int) ≤ 8 := by
    rw [← Int.natCast_ediv]; omega
  obtain ⟨q1, q2⟩ := q0
  have k1 : ¬ W = 0 := by omega
  obtain ⟨b1, off1, rfl, hb1, -⟩ := h.at_ hn0
  obtain ⟨b2, off2, rfl, hb2, -⟩ := h'.at_ m1
  have H := Lib.hid h
  have H' := Lib.hid h'
  have HV := Lib.hid hv
  have HX := Lib.hid hx
  have HY := Lib.hid hy
  clear h h' hv hx hy hok hmul num
  go_enter Try.func12, Try.ntmps12
  go_upto_region 5 with (first | (go_at_call 7; (refine (sfv_c _ _ _ _ _ _ _ _ _ p q _ HV.out _ (C := C) (C' := C') (RS.alloc (RS.alloc H.out hC _) (by ((try simp only [World.size_alloc, World.size_setCell, World.size_drew]) <;> omega)) _) (RS.alloc (RS.alloc H'.out hC' _) (by ((try simp only [World.size_alloc, World.size_setCell, World.size_drew]) <;> omega)) _) (by ((try simp only [World.size_alloc, World.size_setCell, World.size_drew]) <;> omega)) (by ((try simp only [World.size_alloc, World.size_setCell, World.size_drew]) <;> omega)) hn hm).mono ?_; rintro e w1 ⟨rfl, hO_w1⟩; have hz_w1 := hO_w1.size; (try simp only [World.size_alloc, World.size_setCell, World.size_drew] at hz_w1); have hs_w1_0 : w.heap.size < w1.heap.size := (by omega); have c_w1_0 := fun o => (bcell hO_w1).1 (w.heap.size) o (by (try simp only [World.size_alloc, World.size_setCell, World.size_drew]) <;> omega); have f_w1_0 := fun o => (bcell hO_w1).2 (w.heap.size) o (by (try simp only [World.size_alloc, World.size_setCell, World.size_drew]) <;> omega); have hs_w1_1 : w.heap.size + 1 < w1.heap.size := (by omega); have c_w1_1 := fun o => (bcell hO_w1).1 (w.heap.size + 1) o (by (try simp only [World.size_alloc, World.size_setCell, World.size_drew]) <;> omega); have f_w1_1 := fun o => (bcell hO_w1).2 (w.heap.size + 1) o (by (try simp only [World.size_alloc, World.size_setCell, World.size_drew]) <;> omega))) | (go_at_call 19; (first | (with_reducible refine (l1In_c dx (-255) 255 _ HX.out _).mono ?_) | (with_reducible refine (l1In_c dy (-255) 255 _ HY.out _).mono ?_)); rintro e w' ⟨rfl, rfl⟩))
  have hBu1 : FB w1 w.heap.size 26 W (some ⟨b1, off1, none⟩) n c (some ⟨b2, off2, none⟩) m d X Y := FB.below hO_w1 (FB.alloc (FB.new w _ _ _ _ _ _ _ _ _ _) _) (by ((try simp only [World.size_alloc, World.size_setCell, World.size_drew]) <;> omega))
  have hZu1 : FB w1 (w.heap.size + 1) 26 0 none 0 0 none 0 0 0 0 := by
    refine FB.below hO_w1 ?_ (by ((try simp only [World.size_alloc, World.size_setCell, World.size_drew]) <;> omega))
    have := FB.new (w.alloc (.cells #[.int .i64 W, .slice (some ⟨b1, off1, none⟩) n c, .slice (some ⟨b2, off2, none⟩) m d, .int .i64 X, .int .i64 Y] 26)) 26 0 none 0 0 none 0 0 0 0
    rwa [World.size_alloc] at this
  have S1 := Lib.hid (RS.seg (RS.below hO_w1 (RS.alloc (RS.alloc H.out hC (.cells #[.int .i64 W, .slice (some ⟨b1, off1, none⟩) n c, .slice (some ⟨b2, off2, none⟩) m d, .int .i64 X, .int .i64 Y] 26)) (by ((try simp only [World.size_alloc, World.size_setCell, World.size_drew]) <;> omega)) (.cells #[.int .i64 0, .slice none 0 0, .slice none 0 0, .int .i64 0, .int .i64 0] 26)) (by ((try simp only [World.size_alloc, World.size_setCell, World.size_drew]) <;> omega))) hn0)
  have S2 := Lib.hid (RS.seg (RS.below hO_w1 (RS.alloc (RS.alloc H'.out hC' (.cells #[.int .i64 W, .slice (some ⟨b1, off1, none⟩) n c, .slice (some ⟨b2, off2, none⟩) m d, .int .i64 X, .int .i64 Y] 26)) (by ((try simp only [World.size_alloc, World.size_setCell, World.size_drew]) <;> omega)) (.cells #[.int .i64 0, .slice none 0 0, .slice none 0 0, .int .i64 0, .int .i64 0] 26)) (by ((try simp only [World.size_alloc, World.size_setCell, World.size_drew]) <;> omega))) m1)
  have hl1 : b1 < w1.heap.size := by omega
  have hl2 : b2 < w1.heap.size := by omega
  refine wp_region_typed2 (by kernel_rfl) (by kernel_rfl) (C5 w1 w1.heap.size W n m p q) EY
    (fun j v u => match j with
      | 0 => kIs (.pointer (some ⟨w.heap.size, 0, none⟩)) v
      | 1 => kIs (.int .i64 W) v
      | 2 | 6 => ∃ b, v = .slice (some ⟨b, 0, none⟩) 0 0
      | 3 => kIs (.pointer (some ⟨w.heap.size, 1, none⟩)) v
      | 4 => kIs (.slice (some ⟨b1, off1, none⟩) n c) v
      | 5 => ∃ A' c', v = .slice A' n c' ∧ u.ownsRow w1.heap.size 3 1 (.slice A' n c') n ((List.range (n * 1)).map (iv p))
      | 7 => kIs (.pointer (some ⟨w.heap.size, 2, none⟩)) v
      | 8 => kIs (.slice (some ⟨b2, off2, none⟩) m d) v
      | 9 => ∃ B' d', v = .slice B' m d' ∧ u.ownsRow w1.heap.size 45 64 (.slice B' m d') m ((List.range (m * 64)).map (tc q))
      | 10 => ∃ A' c' B' d', v = fdV W A' n c' B' m d' 0 0 ∧ u.ownsRow w1.heap.size 3 1 (.slice A' n c') n ((List.range (n * 1)).map (iv p)) ∧ u.ownsRow w1.heap.size 45 64 (.slice B' m d') m ((List.range (m * 64)).map (tc q))
      | 11 => ∃ g, v = .pointer (some ⟨g, 0, none⟩) ∧ w1.heap.size ≤ g ∧ FY u g
      | _ => True) ?_ ?_ ?_ ?_
  · intro j v u u' h e
    split at h <;> first | exact h | exact ⟨_, _, h.choose_spec.choose_spec.1, own_ey h.choose_spec.choose_spec.2 e (by decide)⟩ | (obtain ⟨A', c', B', d', e1, e2, e3⟩ := h; exact ⟨A', c', B', d', e1, own_ey e2 e (by decide), own_ey e3 e (by decide)⟩) | exact ⟨_, h.choose_spec.1, h.choose_spec.2.1, e.fy _ h.choose_spec.2.2⟩
  · exact ⟨(Below.refl _ _).drew, fun h => by cases h⟩
  · intro L i o n' a u ho hn' hLi hcl hCC hD hU
    obtain ⟨hC1, -⟩ := hCC
    have hsz := hC1.size
    have hBu := FB.below hC1 hBu1 (by omega)
    have hlast : L 12 = false := last_false hcl 12 (by kernel_rfl) (show i < 13 from (Array.getElem?_eq_some_iff.1 ho).1) hLi
    have hnx0 : i ≠ 12 → ∀ a', C5 w1 w1.heap.size W n m p q (updL L i) (n' + 1) a' u := fun hi _ => C5.step hlast hi hC1
    have han0 : i ≠ 12 → ∀ ob a', C5 w1 w1.heap.size W n m p q (updL L i) (n' + 1) a' (u.alloc ob) := fun hi ob _ => C5.step hlast hi (hC1.alloc hsz ob)
    have hon0 : i ≠ 12 → ∀ ob a', C5 w1 w1.heap.size W n m p q (updL L i) (n' + 1) a' (u.drew.alloc ob) := fun hi ob _ => C5.step hlast hi (hC1.drew.alloc hsz ob)
    have hrf := EY.refl u
    have hal : ∀ ob, EY u (u.alloc ob) := EY.alloc u
    have hal2 : ∀ ob, EY u (u.drew.alloc ob) := EY.drewAlloc u
    have hi : i < 13 := (Array.getElem?_eq_some_iff.1 ho).1
    replace hn' : n' < 13 := hn'
    obtain rfl | rfl | rfl | rfl | rfl | rfl | rfl | rfl | rfl | rfl | rfl | rfl | rfl : i = 0 ∨ i = 1 ∨ i = 2 ∨ i = 3 ∨ i = 4 ∨ i = 5 ∨ i = 6 ∨ i = 7 ∨ i = 8 ∨ i = 9 ∨ i = 10 ∨ i = 11 ∨ i = 12 := by omega
    all_goals (simp only [List.getElem?_toArray, List.getElem?_cons_zero, List.getElem?_cons_succ, Option.some.injEq] at ho; subst ho)
    all_goals clear hi hcl
    all_goals (try (have hnx := hnx0 (by decide); have hon := hon0 (by decide); have han := han0 (by decide)))
    · have u5 := hU 3 (not_written (by kernel_rfl))
      simp at u5
      clear hU hD
      go_simp
      exact Typed2.mk _ rfl (hnx _) hrf rfl
    · have e0 := hD ⟨0, Ground.data⟩ (by simp) rfl _ 34 rfl rfl
      simp [kIs] at e0
      obtain ⟨c0, c1, c2, c3, c4⟩ := hBu.cells
      clear hU hD
      go_simp
      exact Typed2.mk _ rfl (hnx _) hrf rfl
    · clear hU hD
      go_simp
      exact Typed2.mk _ rfl (han _ _) (hal _) ⟨_, rfl⟩
    · have u5 := hU 3 (not_written (by kernel_rfl))
      simp at u5
      clear hU hD
      go_simp
      exact Typed2.mk _ rfl (hnx _) hrf rfl
    · have e0 := hD ⟨3, Ground.data⟩ (by simp) rfl _ 37 rfl rfl
      simp [kIs] at e0
      obtain ⟨c0, c1, c2, c3, c4⟩ := hBu.cells
      clear hU hD
      go_simp
      exact Typed2.mk _ rfl (hnx _) hrf rfl
    · obtain ⟨b, e0⟩ := hD ⟨2, Ground.data⟩ (by simp) rfl _ 36 rfl rfl
      have e1 := hD ⟨4, Ground.data⟩ (by simp) rfl _ 38 rfl rfl
      simp [kIs] at e0 e1
      clear hU hD
      refine oper_append_lit rfl Try.underlying23 info3 rfl (by omega) w1.heap.size b b1 off1 n c (iv p) (by simp [Act.eval, e0]) (by simp [Act.eval, e1]) (fun j hj => ?_) hn0 hn hsz ?_
      · have := S1.out j hj
        rw [Nat.zero_mul, Nat.zero_add] at this
        exact (hC1.cell (p := ⟨b1, off1 + j, none⟩) hl1).trans this
      · intro A' cap' ob hown
        exact Typed2.mk _ rfl (hon _ _) (hal2 _) ⟨A', cap', rfl, hown⟩
    · clear hU hD
      go_simp
      exact Typed2.mk _ rfl (han _ _) (hal _) ⟨_, rfl⟩
    · have u5 := hU 3 (not_written (by kernel_rfl))
      simp at u5
      clear hU hD
      go_simp
      exact Typed2.mk _ rfl (hnx _) hrf rfl
    · have e0 := hD ⟨7, Ground.data⟩ (by simp) rfl _ 41 rfl rfl
      simp [kIs] at e0
      obtain ⟨c0, c1, c2, c3, c4⟩ := hBu.cells
      clear hU hD
      go_simp
      exact Typed2.mk _ rfl (hnx _) hrf rfl
    · obtain ⟨b, e0⟩ := hD ⟨6, Ground.data⟩ (by simp) rfl _ 40 rfl rfl
      have e1 := hD ⟨8, Ground.data⟩ (by simp) rfl _ 42 rfl rfl
      simp [kIs] at e0 e1
      clear hU hD
      refine oper_append_lit rfl Try.underlying24 info45 rfl (by omega) w1.heap.size b b2 off2 m d (tc q) (by simp [Act.eval, e0]) (by simp [Act.eval, e1]) (fun j hj => ?_) m1 hm hsz ?_
      · have := S2.out j hj
        rw [Nat.zero_mul, Nat.zero_add] at this
        exact (hC1.cell (p := ⟨b2, off2 + j, none⟩) hl2).trans this
      · intro A' cap' ob hown
        exact Typed2.mk _ rfl (hon _ _) (hal2 _) ⟨A', cap', rfl, hown⟩
    · have e0 := hD ⟨1, Ground.data⟩ (by simp) rfl _ 35 rfl rfl
      obtain ⟨A', c', e1, o1⟩ := hD ⟨5, Ground.data⟩ (by simp) rfl _ 39 rfl rfl
      obtain ⟨B', d', e2, o2⟩ := hD ⟨9, Ground.data⟩ (by simp) rfl _ 43 rfl rfl
      simp [kIs] at e0 e1 e2
      have o1s := o1
      simp only [Nat.mul_one] at o1s
      clear hU hD
      go_simp
      exact Typed2.mk _ rfl (hnx _) hrf ⟨A', c', B', d', rfl, (by first | exact o1 | exact o1s), o2⟩
    · clear hU hD
      go_simp
      exact Typed2.mk _ rfl (han _ _) (hal _) ⟨_, rfl, hsz, _, _, _, _, _, _, _, _, _, FB.new _ _ _ _ _ _ _ _ _ _ _⟩
    · obtain ⟨A', c', B', d', e1, o1, o2⟩ := hD ⟨10, Ground.data⟩ (by simp) rfl _ 44 rfl rfl
      obtain ⟨g, e0, hg0, W2, A2, n2, c2, B2, m2, d2, X2, Y2, hg⟩ := hD ⟨11, Ground.data⟩ (by simp) rfl _ 9 rfl rfl
      simp [fdV] at e0 e1
      have hput := hg.putA W A' n c' B' m d' 0 0
      have hEY : EY u (((((u.setCell ⟨g, 0, none⟩ (.int .i64 W)).setCell ⟨g, 1, none⟩ (.slice A' n c')).setCell ⟨g, 2, none⟩ (.slice B' m d')).setCell ⟨g, 3, none⟩ (.int .i64 0)).setCell ⟨g, 4, none⟩ (.int .i64 0)) := by
        refine ⟨by simp, fun k hk hnf => ?_, fun k hf => ?_⟩
        · have hne : k ≠ g := fun e => hnf (e ▸ ⟨_, _, _, _, _, _, _, _, _, hg⟩)
          rw [Below.heap_setCell _ ⟨g, 4, none⟩ _ k hne, Below.heap_setCell _ ⟨g, 3, none⟩ _ k hne, Below.heap_setCell _ ⟨g, 2, none⟩ _ k hne, Below.heap_setCell _ ⟨g, 1, none⟩ _ k hne, Below.heap_setCell _ ⟨g, 0, none⟩ _ k hne]
        · by_cases hne : k = g
          · subst hne; exact ⟨_, _, _, _, _, _, _, _, _, hput⟩
          · obtain ⟨W3, A3, n3, c3, B3, m3, d3, X3, Y3, h3⟩ := hf
            exact ⟨W3, A3, n3, c3, B3, m3, d3, X3, Y3, ((((h3.far hne _).far hne _).far hne _).far hne _).far hne _⟩
      have o1' := own_ey o1 hEY (by decide)
      have o2' := own_ey o2 hEY (by decide)
      obtain ⟨c0, c1, c2, c3, c4⟩ := hg.cells
      obtain ⟨y0, y1, y2, y3, y4⟩ := hg.free
      clear hU hD o1 o2
      go_simp
      refine Typed2.mk (a := a) undef rfl ⟨?_, fun _ => ⟨g, A', c', B', d', by simpa [Act.put] using e0, hg0, hput, o1', o2'⟩⟩ hEY trivial
      exact ((((hC1.setCell hg0 _).setCell hg0 _).setCell hg0 _).setCell hg0 _).setCell hg0 _
  · intro L a u hLL hCC hL hN hU hs hd
    obtain ⟨hC1, hG⟩ := hCC
    obtain ⟨g, A', c', B', d', e9, hg0, hg, o1, o2⟩ := hG (hLL 12 (by decide))
    have e9' : a.tmps[9]?.getD undef = .pointer (some ⟨g, 0, none⟩) := by simpa using e9
    clear e9 hG
    have ht := tmps_ds [34, 35, 36, 37, 38, 39, 40, 41, 42, 43, 44, 9] rfl hs hU
    simp [List.range, List.range.loop] at ht
    rw [e9'] at ht
    (try generalize a.tmps[34]?.getD undef = x34 at ht)
    (try generalize a.tmps[35]?.getD undef = x35 at ht)
    (try generalize a.tmps[36]?.getD undef = x36 at ht)
    (try generalize a.tmps[37]?.getD undef = x37 at ht)
    (try generalize a.tmps[38]?.getD undef = x38 at ht)
    (try generalize a.tmps[39]?.getD undef = x39 at ht)
    (try generalize a.tmps[40]?.getD undef = x40 at ht)
    (try generalize a.tmps[41]?.getD undef = x41 at ht)
    (try generalize a.tmps[42]?.getD undef = x42 at ht)
    (try generalize a.tmps[43]?.getD undef = x43 at ht)
    (try generalize a.tmps[44]?.getD undef = x44 at ht)
    (try generalize a.tmps[9]?.getD undef = x9 at ht)
    obtain ⟨tm, df⟩ := a
    simp only at ht hd
    subst ht hd
    clear hL hN hU hs
    have hz := hC1.size
    have hBu := FB.below hC1 hBu1 (by omega)
    have hZu := FB.below hC1 hZu1 (by omega)
    obtain ⟨a1, ha1⟩ : ∃ a1 : Int, (X : Int) + dx = a1 := ⟨_, rfl⟩
    obtain ⟨a2, ha2⟩ : ∃ a2 : Int, (Y : Int) + dy = a2 := ⟨_, rfl⟩
    obtain ⟨v1, hv1⟩ : ∃ v1 : Int, 8 * (W : Int) = v1 := ⟨_, rfl⟩
    obtain ⟨v2, hv2⟩ : ∃ v2 : Int, 8 * ((n : Int) / (W : Int)) = v2 := ⟨_, rfl⟩
    have r1 : -v1 < a1.tmod v1 := Int.lt_tmod_of_pos a1 (by omega)
    have r2 : a1.tmod v1 < v1 := Int.tmod_lt_of_pos a1 (by omega)
    have r3 := mdl_eq (a := a1) (b := v1) (by omega)
    have r4 : -v2 < a2.tmod v2 := Int.lt_tmod_of_pos a2 (by omega)
    have r5 : a2.tmod v2 < v2 := Int.tmod_lt_of_pos a2 (by omega)
    have r6 := mdl_eq (a := a2) (b := v2) (by omega)
    unfold mdl at r3 r6
    have r7 : ¬ v1 = 0 := by omega
    have r8 : ¬ v2 = 0 := by omega
    have r9 : -1000 ≤ a1 ∧ a1 ≤ 1000 := by omega
    have r10 : -1000 ≤ a2 ∧ a2 ≤ 1000 := by omega
    have r11 : v1 ≤ 64 ∧ v2 ≤ 64 := by omega
    obtain ⟨d0, d1, d2, d3, d4⟩ := hBu.cells
    obtain ⟨t0, t1, t2, t3, t4⟩ := hZu.cells
    obtain ⟨y0, y1, y2, y3, y4⟩ := hZu.free
    have ng1 : w.heap.size ≠ g := by omega
    have ng2 : w.heap.size + 1 ≠ g := by omega
    have O1 := Lib.hid o1
    have O2 := Lib.hid o2
    have HG := Lib.hid hg
    clear o1 o2 hBu hZu hBu1 hZu1
    obtain ⟨c0, c1, c2, c3, c4⟩ := hg.cells
    obtain ⟨z0, z1, z2, z3, z4⟩ := hg.free
    clear hg
    go_wp2
    refine bodyPost_ret (v := fdV W A' n c' B' m d' (a1 % v1) (a2 % v2)) (by simp [results, Try.results12, go_sem, *]) rfl ⟨A', c', B', d', rfl, ?_, ?_, ?_, ?_⟩
    · refine own_base (base := w1.heap.size) ?_ (by omega)
      iterate 5 (with_reducible refine ownsRow_setCell_below ?_ (by simp <;> omega) _)
      exact own_set34 O1.out HG.out (by decide) _ _
    · refine own_base (base := w1.heap.size) ?_ (by omega)
      iterate 5 (with_reducible refine ownsRow_setCell_below ?_ (by simp <;> omega) _)
      exact own_set34 O2.out HG.out (by decide) _ _
    · exact own_types O2.out O1.out (by decide)
    · (repeat (first | with_reducible exact Below.refl _ _ | ((with_reducible refine viaO (by assumption) ?_ ?_ ?_) <;> try ((try simp only [World.size_alloc, World.size_setCell, World.size_drew]) <;> omega)) | ((with_reducible refine Below.alloc ?_ ?_ _) <;> try ((try simp only [World.size_alloc, World.size_setCell, World.size_drew]) <;> omega)) | ((with_reducible refine Below.setCell ?_ ?_ _) <;> try ((try simp only [World.size_alloc, World.size_setCell, World.size_drew]) <;> omega)) | (with_reducible refine below_drewN ?_ _) | (with_reducible refine Below.drew ?_) | ((with_reducible refine via (by assumption) ?_ ?_) <;> try ((try simp only [World.size_alloc, World.size_setCell, World.size_drew]) <;> omega))))

def shI (v : Bool) (x : Int) : Int := if v then x else 0
def shK (v : Bool) (x : Nat) : Nat := if v then x else 0
theorem shK_le (v : Bool) (x : Nat) : shK v x ≤ x := by cases v <;> simp [shK]

theorem ish_c (W : Int) (A : Option Addr) (n c : Nat) (B : Option Addr) (m d : Nat) (X Y dx dy : Int) (p : Nat → Int) (q : Nat → Nat → Int) (v : Bool) (hv : shv W n m X Y p q dx dy = v) (w : World) {C C' : Nat} (h : RS w C 1 A n (iv p)) (h' : RS w C' 64 B m (tc q)) (hC : C ≤ w.heap.size) (hC' : C' ≤ w.heap.size) (hn : n ≤ 1048576) (hm : m ≤ 1048576) :
    Calls Try.prog 10 #[fdV W A n c B m d X Y, .int .i64 dx, .int .i64 dy] w (GField (shI v W) (shK v n) (shK v m) (shI v ((X + dx) % (8 * W))) (shI v ((Y + dy) % (8 * (n / W)))) p q w) := by
  cases v
  · exact ishn_c W A n c B m d X Y dx dy p q w h h' hC hC' hn hm hv
  · have hv' := hv
    unfold shv at hv
    simp only [Bool.and_eq_true] at hv
    obtain ⟨⟨hf, hx⟩, hy⟩ := hv
    obtain ⟨W', X', Y', rfl, rfl, rfl, hX, hY, hok⟩ := fok_of hf
    exact ishy_c W' A n c B m d X' Y' dx dy p q w h h' hC hC' hn hm hf hx hy hok hX hY

theorem ssh_c (W : Int) (A : Option Addr) (n c : Nat) (B : Option Addr) (m d : Nat) (X Y dx dy : Int) (p : Nat → Int) (q : Nat → Nat → Int) (v : Bool) (hv : shv W n m X Y p q dx dy = v) (w : World) {C C' : Nat} (h : RS w C 1 A n (iv p)) (h' : RS w C' 64 B m (tc q)) (hC : C ≤ w.heap.size) (hC' : C' ≤ w.heap.size) (hn : n ≤ 1048576) (hm : m ≤ 1048576) :
    Calls Try.prog 12 #[fdV W A n c B m d X Y, .int .i64 dx, .int .i64 dy] w (GField (shI v W) (shK v n) (shK v m) (shI v ((X + dx) % (8 * W))) (shI v ((Y + dy) % (8 * (n / W)))) p q w) := by
  cases v
  · exact sshn_c W A n c B m d X Y dx dy p q w h h' hC hC' hn hm hv
  · have hv' := hv
    unfold shv at hv
    simp only [Bool.and_eq_true] at hv
    obtain ⟨⟨hf, hx⟩, hy⟩ := hv
    obtain ⟨W', X', Y', rfl, rfl, rfl, hX, hY, hok⟩ := fok_of hf
    exact sshy_c W' A n c B m d X' Y' dx dy p q w h h' hC hC' hn hm hf hx hy hok hX hY

end Go.Proofs.Ythopeedonikdhaa
