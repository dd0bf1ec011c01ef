/-
  The law FnFieldValid holds: a valid background without the last number of its table, if it has more than one column, or with an unknown tile, is invalid; for every code. No conditions.
-/
import Derived.Test.YthopeedonikdhaaOpen
import Derived.Test.YthopeedonikdhaaFieldDraw3
import Derived.Test.YthopeedonikdhaaFieldValid
import Derived.Test.YthopeedonikdhaaFieldGrow
namespace Go.Proofs.Ythopeedonikdhaa.lawFnFieldValid
set_option linter.all false
set_option linter.unusedSimpArgs false
set_option linter.unusedVariables false
open Go.ChangeShapes Go.WideShapes Go.ChangeAt Go.RowKit

theorem fvd_rows {W : Int} {n m : Nat} {X Y : Int} {p : Nat → Int} {q : Nat → Nat → Int} (h : fvd W n m X Y p q = true) : 1 ≤ W ∧ W ≤ 8 ∧ (n : Int) % W = 0 ∧ 1 ≤ (n : Int) / W ∧ (n : Int) / W ≤ 8 := by
  unfold fvd at h
  simp only [Bool.and_eq_true] at h
  obtain ⟨⟨⟨⟨⟨⟨⟨hW, hr⟩, hQ⟩, -⟩, -⟩, -⟩, -⟩, -⟩ := h
  obtain ⟨a, b⟩ := inB_true.1 hW
  obtain ⟨c, d⟩ := inB_true.1 hQ
  exact ⟨a, b, by simpa using hr, c, d⟩
/-- Without a number the rows are not complete. -/
theorem fvd_short {W : Int} {n m : Nat} {X Y : Int} {p p' : Nat → Int} {q : Nat → Nat → Int} (h : fvd W n m X Y p q = true) (hW : W ≠ 1) (hn : 0 < n) : fvd W (n - 1) m X Y p' q = false := by
  obtain ⟨w1, w8, hr, -, -⟩ := fvd_rows h
  have hne : (((n - 1 : Nat) : Int) % W == 0) = false := by
    refine beq_eq_false_iff_ne.2 fun e => ?_
    have e1 : ((n - 1 : Nat) : Int) = (n : Int) - 1 := by omega
    rw [e1] at e
    have d1 := Int.dvd_of_emod_eq_zero hr
    have d2 := Int.dvd_of_emod_eq_zero e
    have d3 : W ∣ 1 := by
      have := Int.dvd_sub d1 d2
      rwa [show (n : Int) - ((n : Int) - 1) = 1 by omega] at this
    have := Int.le_of_dvd (by decide) d3
    omega
  unfold fvd
  rw [hne]
  simp
/-- With a number that no tile has it is not valid. -/
theorem fvd_unknown {W : Int} {n m : Nat} {X Y : Int} {p' : Nat → Int} {q : Nat → Nat → Int} (hn : 0 < n) (h : p' (n - 1) = m) : fvd W n m X Y p' q = false := by
  have hm : msv n m p' = false := msv_no (k := n - 1) (by omega) (by rw [h]; exact inB_false.2 (.inr (by omega)))
  unfold fvd
  rw [hm]
  simp

set_option maxRecDepth 100000 in
set_option maxHeartbeats 2000000 in
theorem walk (v0 : Value) (w : World) (h0 : CodeArg w v0) : Calls Try.prog 3 #[v0] w fun e w' => e = .returned (.bool true) ∧ Below w.heap.size w w' := by
  obtain ⟨a, len, cap, rfl, hcode, hl⟩ := h0
  have hm := hcode.1; unfold maxLen at hm
  by_cases hlen : 1048576 < len
  · go_enter Try.func3, Try.ntmps3
    go_wp2
    go_ret
    exact ⟨rfl, Below.refl _ _⟩
  · go_enter Try.func3, Try.ntmps3
    go_wp2_with fail
    refine (drawFieldValid_c _ _ _ _ hcode hl).mono ?_
    rintro e w1 ⟨W, A, n, c, B, m, d, X, Y, rfl, ⟨p, q, hA, hB, hnc, hmd, hn, hm'⟩, hO_w1⟩
    have hz_w1 := hO_w1.size
    clear hm hcode
    obtain ⟨v, hv⟩ : ∃ v, fvd W n m X Y p q = v := ⟨_, rfl⟩
    have H1 := Lib.hid (fun w h1 h2 h3 h4 => ifv_c W A n c B m d X Y p q v hv w (C := w1.heap.size) (C' := w1.heap.size) h1 h2 h3 h4 (by omega) (by omega))
    have H2 := Lib.hid (fun w h1 h2 h3 h4 => sfv_c W A n c B m d X Y p q v hv w (C := w1.heap.size) (C' := w1.heap.size) h1 h2 h3 h4 (by omega) (by omega))
    have HV := Lib.hid hv
    clear hv
    go_wp2_with fail
    refine (H1.out _ (by (repeat (first | with_reducible assumption | ((with_reducible refine RS.below (by assumption) ?_ ?_) <;> try ((try simp only [World.size_alloc, World.size_setCell, World.size_drew]) <;> omega)) | ((with_reducible refine RS.alloc ?_ ?_ _) <;> try ((try simp only [World.size_alloc, World.size_setCell, World.size_drew]) <;> omega)) | ((with_reducible refine RS.setRow ?_ ?_ _) <;> try ((try simp only [World.size_alloc, World.size_setCell, World.size_drew]) <;> omega)) | ((with_reducible refine RS.setCell ?_ ?_ _) <;> try ((try simp only [World.size_alloc, World.size_setCell, World.size_drew]) <;> omega)) | ((with_reducible refine RS.setCells ?_ ?_ _ _) <;> try ((try simp only [World.size_alloc, World.size_setCell, World.size_drew]) <;> omega)) | (with_reducible apply RS.drewN) | (with_reducible apply RS.drew)))) (by (repeat (first | with_reducible assumption | ((with_reducible refine RS.below (by assumption) ?_ ?_) <;> try ((try simp only [World.size_alloc, World.size_setCell, World.size_drew]) <;> omega)) | ((with_reducible refine RS.alloc ?_ ?_ _) <;> try ((try simp only [World.size_alloc, World.size_setCell, World.size_drew]) <;> omega)) | ((with_reducible refine RS.setRow ?_ ?_ _) <;> try ((try simp only [World.size_alloc, World.size_setCell, World.size_drew]) <;> omega)) | ((with_reducible refine RS.setCell ?_ ?_ _) <;> try ((try simp only [World.size_alloc, World.size_setCell, World.size_drew]) <;> omega)) | ((with_reducible refine RS.setCells ?_ ?_ _ _) <;> try ((try simp only [World.size_alloc, World.size_setCell, World.size_drew]) <;> omega)) | (with_reducible apply RS.drewN) | (with_reducible apply RS.drew)))) (by ((try simp only [World.size_alloc, World.size_setCell, World.size_drew]) <;> omega)) (by ((try simp only [World.size_alloc, World.size_setCell, World.size_drew]) <;> omega))).mono ?_
    rintro e w2 ⟨rfl, hO_w2⟩
    have hz_w2 := hO_w2.size
    (try simp only [World.size_alloc, World.size_setCell, World.size_drew] at hz_w2)
    have hs_w2_0 : w1.heap.size < w2.heap.size := (by omega)
    have c_w2_0 := fun o => (bcell hO_w2).1 (w1.heap.size) o (by (try simp only [World.size_alloc, World.size_setCell, World.size_drew]) <;> omega)
    have f_w2_0 := fun o => (bcell hO_w2).2 (w1.heap.size) o (by (try simp only [World.size_alloc, World.size_setCell, World.size_drew]) <;> omega)
    go_wp2_with fail
    refine (H2.out _ (by (repeat (first | with_reducible assumption | ((with_reducible refine RS.below (by assumption) ?_ ?_) <;> try ((try simp only [World.size_alloc, World.size_setCell, World.size_drew]) <;> omega)) | ((with_reducible refine RS.alloc ?_ ?_ _) <;> try ((try simp only [World.size_alloc, World.size_setCell, World.size_drew]) <;> omega)) | ((with_reducible refine RS.setRow ?_ ?_ _) <;> try ((try simp only [World.size_alloc, World.size_setCell, World.size_drew]) <;> omega)) | ((with_reducible refine RS.setCell ?_ ?_ _) <;> try ((try simp only [World.size_alloc, World.size_setCell, World.size_drew]) <;> omega)) | ((with_reducible refine RS.setCells ?_ ?_ _ _) <;> try ((try simp only [World.size_alloc, World.size_setCell, World.size_drew]) <;> omega)) | (with_reducible apply RS.drewN) | (with_reducible apply RS.drew)))) (by (repeat (first | with_reducible assumption | ((with_reducible refine RS.below (by assumption) ?_ ?_) <;> try ((try simp only [World.size_alloc, World.size_setCell, World.size_drew]) <;> omega)) | ((with_reducible refine RS.alloc ?_ ?_ _) <;> try ((try simp only [World.size_alloc, World.size_setCell, World.size_drew]) <;> omega)) | ((with_reducible refine RS.setRow ?_ ?_ _) <;> try ((try simp only [World.size_alloc, World.size_setCell, World.size_drew]) <;> omega)) | ((with_reducible refine RS.setCell ?_ ?_ _) <;> try ((try simp only [World.size_alloc, World.size_setCell, World.size_drew]) <;> omega)) | ((with_reducible refine RS.setCells ?_ ?_ _ _) <;> try ((try simp only [World.size_alloc, World.size_setCell, World.size_drew]) <;> omega)) | (with_reducible apply RS.drewN) | (with_reducible apply RS.drew)))) (by ((try simp only [World.size_alloc, World.size_setCell, World.size_drew]) <;> omega)) (by ((try simp only [World.size_alloc, World.size_setCell, World.size_drew]) <;> omega))).mono ?_
    rintro e w3 ⟨rfl, hO_w3⟩
    have hz_w3 := hO_w3.size
    (try simp only [World.size_alloc, World.size_setCell, World.size_drew] at hz_w3)
    have hs_w3_0 : w1.heap.size < w3.heap.size := (by omega)
    have c_w3_0 := fun o => (bcell hO_w3).1 (w1.heap.size) o (by (try simp only [World.size_alloc, World.size_setCell, World.size_drew]) <;> omega)
    have f_w3_0 := fun o => (bcell hO_w3).2 (w1.heap.size) o (by (try simp only [World.size_alloc, World.size_setCell, World.size_drew]) <;> omega)
    have b0 : Hid (Below w.heap.size w w3) := by
      refine Lib.hid ?_
      (repeat (first | with_reducible exact Below.refl _ _ | ((with_reducible refine viaO (by assumption) ?_ ?_ ?_) <;> try ((try simp only [World.size_alloc, World.size_setCell, World.size_drew]) <;> omega)) | ((with_reducible refine Below.alloc ?_ ?_ _) <;> try ((try simp only [World.size_alloc, World.size_setCell, World.size_drew]) <;> omega)) | ((with_reducible refine Below.setCell ?_ ?_ _) <;> try ((try simp only [World.size_alloc, World.size_setCell, World.size_drew]) <;> omega)) | (with_reducible refine below_drewN ?_ _) | (with_reducible refine Below.drew ?_) | ((with_reducible refine via (by assumption) ?_ ?_) <;> try ((try simp only [World.size_alloc, World.size_setCell, World.size_drew]) <;> omega))))
    cases v
    · go_wp2_with (go_at_call 8; refine (alive_c _).mono ?_; rintro e w' ⟨rfl, rfl⟩)
      go_ret
      exact ⟨rfl, b0.out⟩
    · obtain ⟨w1', w8', hr, q1, q8⟩ := fvd_rows HV.out
      have hn0 : 0 < n := by
        rcases Nat.eq_zero_or_pos n with rfl | h
        · simp at q1
        · exact h
      have HF := Lib.hid (FB.below hO_w3 (FB.below hO_w2 (FB.new w1 26 W A n c B m d X Y) (by simp)) (by omega))
      have HA := Lib.hid (RS.below hO_w3 (RS.below hO_w2 (RS.alloc hA (Nat.le_refl _) (.cells #[.int .i64 W, .slice A n c, .slice B m d, .int .i64 X, .int .i64 Y] 26)) (by simp)) (by omega))
      have HB := Lib.hid (RS.below hO_w3 (RS.below hO_w2 (RS.alloc hB (Nat.le_refl _) (.cells #[.int .i64 W, .slice A n c, .slice B m d, .int .i64 X, .int .i64 Y] 26)) (by simp)) (by omega))
      clear hA hB hO_w1 hO_w2 hO_w3 H1 H2 c_w2_0 f_w2_0 c_w3_0 f_w3_0 hr q1 q8
      obtain ⟨bA, oA, rfl, hbA, -⟩ := HA.out.at_ hn0
      obtain ⟨c0, c1, c2, c3, c4⟩ := HF.out.cells
      have i1 : (1 : Int) ≤ (n : Int) := by omega
      have i2 : (n : Int) ≤ (c : Int) := by omega
      obtain ⟨oB, hoB⟩ : ∃ oB : Nat, (if c = 1 then some (⟨bA, oA, none⟩ : Addr) else some ⟨bA, oA + 1, none⟩) = some ⟨bA, oB, none⟩ := by
        by_cases hc1 : c = 1
        · exact ⟨oA, if_pos hc1⟩
        · exact ⟨oA + 1, if_neg hc1⟩
      have HD : Hid (RS w3 w1.heap.size 1 (some ⟨bA, oB, none⟩) (n - 1) (iv fun j => p (1 + j))) := by
        refine Lib.hid ?_
        have := RS.drop (k := 1) (cap := c) HA.out hn0 hnc
        rw [← hoB]
        exact this
      go_upto_region 12 with fail
      have hb4 : Hid (Below w.heap.size w ((w3.alloc (.cells #[.int .i64 W, .slice (some ⟨bA, oB, none⟩) (n - 1) (c - 1), .slice B m d, .int .i64 X, .int .i64 Y] 26)).alloc (.cells #[.int .i64 W, .slice (some ⟨bA, oA, none⟩) n c, .slice B m d, .int .i64 X, .int .i64 Y] 26))) := Lib.hid ((b0.out.alloc (by omega) _).alloc (by simp; omega) _)
      have HF0 : Hid (FB ((w3.alloc (.cells #[.int .i64 W, .slice (some ⟨bA, oB, none⟩) (n - 1) (c - 1), .slice B m d, .int .i64 X, .int .i64 Y] 26)).alloc (.cells #[.int .i64 W, .slice (some ⟨bA, oA, none⟩) n c, .slice B m d, .int .i64 X, .int .i64 Y] 26)) w1.heap.size 26 W (some ⟨bA, oA, none⟩) n c B m d X Y) := Lib.hid ((HF.out.alloc _).alloc _)
      have HF1 : Hid (FB ((w3.alloc (.cells #[.int .i64 W, .slice (some ⟨bA, oB, none⟩) (n - 1) (c - 1), .slice B m d, .int .i64 X, .int .i64 Y] 26)).alloc (.cells #[.int .i64 W, .slice (some ⟨bA, oA, none⟩) n c, .slice B m d, .int .i64 X, .int .i64 Y] 26)) w3.heap.size 26 W (some ⟨bA, oB, none⟩) (n - 1) (c - 1) B m d X Y) := Lib.hid ((FB.new w3 _ _ _ _ _ _ _ _ _ _).alloc _)
      have HF2 : Hid (FB ((w3.alloc (.cells #[.int .i64 W, .slice (some ⟨bA, oB, none⟩) (n - 1) (c - 1), .slice B m d, .int .i64 X, .int .i64 Y] 26)).alloc (.cells #[.int .i64 W, .slice (some ⟨bA, oA, none⟩) n c, .slice B m d, .int .i64 X, .int .i64 Y] 26)) (w3.heap.size + 1) 26 W (some ⟨bA, oA, none⟩) n c B m d X Y) := Lib.hid (by have := FB.new (w3.alloc (.cells #[.int .i64 W, .slice (some ⟨bA, oB, none⟩) (n - 1) (c - 1), .slice B m d, .int .i64 X, .int .i64 Y] 26)) 26 W (some ⟨bA, oA, none⟩) n c B m d X Y; rwa [World.size_alloc] at this)
      have KD := Lib.hid (RS.alloc (RS.alloc HD.out (by omega) (.cells #[.int .i64 W, .slice (some ⟨bA, oB, none⟩) (n - 1) (c - 1), .slice B m d, .int .i64 X, .int .i64 Y] 26)) (by simp; omega) (.cells #[.int .i64 W, .slice (some ⟨bA, oA, none⟩) n c, .slice B m d, .int .i64 X, .int .i64 Y] 26))
      have KB := Lib.hid (RS.alloc (RS.alloc HB.out (by omega) (.cells #[.int .i64 W, .slice (some ⟨bA, oB, none⟩) (n - 1) (c - 1), .slice B m d, .int .i64 X, .int .i64 Y] 26)) (by simp; omega) (.cells #[.int .i64 W, .slice (some ⟨bA, oA, none⟩) n c, .slice B m d, .int .i64 X, .int .i64 Y] 26))
      obtain ⟨wa, hwa⟩ : ∃ wa, (w3.alloc (.cells #[.int .i64 W, .slice (some ⟨bA, oB, none⟩) (n - 1) (c - 1), .slice B m d, .int .i64 X, .int .i64 Y] 26)).alloc (.cells #[.int .i64 W, .slice (some ⟨bA, oA, none⟩) n c, .slice B m d, .int .i64 X, .int .i64 Y] 26) = wa := ⟨_, rfl⟩
      obtain ⟨N, hN1, hN2, hN3, hN4⟩ : ∃ N, N ≤ wa.heap.size ∧ wa.heap.size ≤ N ∧ w3.heap.size + 2 ≤ N ∧ N ≤ w3.heap.size + 2 := ⟨wa.heap.size, Nat.le_refl _, Nat.le_refl _, by rw [← hwa]; simp, by rw [← hwa]; simp⟩
      rw [hwa] at hb4 HF0 HF1 HF2 KD KB
      rw [hwa]
      clear hwa c0 c1 c2 c3 c4
      obtain ⟨P, hP⟩ : ∃ P : Nat → Int, (fun j => if j = n - 1 then (m : Int) else p (1 + j)) = P := ⟨_, rfl⟩
      have hPl : P (n - 1) = m := by rw [← hP]; exact if_pos rfl
      have hPi : ∀ j, j < n - 1 → p (1 + j) = P j := fun j hj => by rw [← hP]; exact (if_neg (by omega)).symm
      have KP : Hid (RS wa w1.heap.size 1 (some ⟨bA, oB, none⟩) (n - 1) (iv P)) := Lib.hid (KD.out.congr fun j hj => by show Value.int .i64 (p (1 + j)) = .int .i64 (P j); rw [hPi j (by omega)])
      have HV1 : W ≠ 1 → Hid (fvd W (n - 1) m X Y P q = false) := fun hw => Lib.hid (fvd_short HV.out hw hn0)
      have HV2 : Hid (fvd W n m X Y P q = false) := Lib.hid (fvd_unknown hn0 hPl)
      have hPL := Lib.hid hPl
      clear hP hPi KD hPl HA HF b0
      refine wp_region_typed3 (by kernel_rfl) (by kernel_rfl) (C12 wa N (w3.heap.size + 1) n m (iv P)) (fun _ _ => True)
        (fun j v _ => match j with
          | 1 => kIs (.pointer (some ⟨w1.heap.size, 1, none⟩)) v
          | 2 => kIs (.slice (some ⟨bA, oA, none⟩) n c) v
          | 3 => kIs (.slice (some ⟨bA, oB, none⟩) (n - 1) (c - 1)) v
          | 5 => kIs (.pointer (some ⟨w1.heap.size, 2, none⟩)) v
          | 6 => kIs (.slice B m d) v
          | 7 => kIs (.int .i64 m) v
          | 10 => kIs (.pointer (some ⟨w3.heap.size + 1, 1, none⟩)) v
          | _ => True) ?_ ?_ ?_ ?_
      · intro j v u u' h e
        exact h
      · exact ⟨fun _ => (Below.refl _ _).drew, (fun h => by cases h), (fun h => by cases h), (fun h => by cases h), (fun h => by cases h), (fun h => by cases h)⟩
      · intro L i o n' a u ho hn' hLi hcl hA hs hCC hD hU
        have hs51 : Hid (a.tmps.size = 51) := Lib.hid hs
        clear hs
        have hi : i < 12 := (Array.getElem?_eq_some_iff.1 ho).1
        have hlast : i ≠ 11 → L 11 = false := fun _ => last_false hcl 11 (by kernel_rfl) hi hLi
        have hl11 : L 11 = false := by
          by_cases e : i = 11
          · rw [← e]; exact hLi
          · exact hlast e
        have hb := hCC.below hl11
        have hFu := FB.below hb HF0.out (by omega)
        obtain ⟨c0, c1, c2, c3, c4⟩ := hFu.cells
        have hZu := FB.below hb HF2.out (by omega)
        obtain ⟨z0, z1, z2, z3, z4⟩ := hZu.cells
        obtain ⟨y0, y1, y2, y3, y4⟩ := hZu.free
        have hCH := Lib.hid hCC
        clear hCC hFu hZu
        replace hn' : n' < 12 := hn'
        obtain rfl | rfl | rfl | rfl | rfl | rfl | rfl | rfl | rfl | rfl | rfl | rfl : i = 0 ∨ i = 1 ∨ i = 2 ∨ i = 3 ∨ i = 4 ∨ i = 5 ∨ i = 6 ∨ i = 7 ∨ i = 8 ∨ i = 9 ∨ i = 10 ∨ i = 11 := by omega
        all_goals (simp only [List.getElem?_toArray, List.getElem?_cons_zero, List.getElem?_cons_succ, Option.some.injEq] at ho; subst ho)
        all_goals clear hi
        · clear hU hD hA hcl
          go_simp
          exact Typed2.mk _ rfl (C12.lit0 hCH.out hN1 hl11 hs51.out _) trivial trivial
        · have u3 := hU 3 (not_written (by kernel_rfl))
          simp at u3
          clear hU hD hA hcl
          go_simp
          exact Typed2.mk _ rfl (C12.keep (i := 1) (dst := some 28) hCH.out (by decide) (by decide) _ _) trivial rfl
        · have e0 := hD ⟨1, Ground.data⟩ (by simp) rfl _ 28 rfl rfl
          simp [kIs] at e0
          clear hU hD hA hcl
          go_simp
          exact Typed2.mk _ rfl (C12.keep (i := 2) (dst := some 29) hCH.out (by decide) (by decide) _ _) trivial rfl
        · have e0 := hD ⟨2, Ground.data⟩ (by simp) rfl _ 29 rfl rfl
          simp [kIs] at e0
          clear hU hD hA hcl
          go_simp
          exact Typed2.mk _ rfl (C12.keep (i := 3) (dst := some 30) hCH.out (by decide) (by decide) _ _) trivial (by simp [kIs, *])
        · have hL0 : L 0 = true := hA ⟨0, Ground.data⟩ (by simp) rfl
          obtain ⟨b, e0, o0⟩ := hCH.out.r27 hL0 hLi
          have e1 := hD ⟨3, Ground.data⟩ (by simp) rfl _ 30 rfl rfl
          simp [kIs] at e0 e1
          have h9 : L 9 = false := by
            cases h9 : L 9
            · rfl
            · have := hcl 9 _ rfl h9 ⟨4, Ground.data⟩ (by simp) rfl
              rw [hLi] at this; cases this
          clear hU hD hA hcl
          by_cases hn1 : n = 1
          · subst hn1
            refine oper_append_none rfl Try.underlying23 info3 b 0 (c - 1) ⟨bA, oB, none⟩ (by simp [Act.eval, e0]) (by simp [Act.eval, e1]) ?_
            exact Typed2.mk _ rfl (C12.app4 hCH.out hN1 hl11 h9 hs51.out _ _ u (.inl rfl) o0 _) trivial trivial
          · refine oper_append_lit rfl Try.underlying23 info3 rfl (by omega) N b bA oB (n - 1) (c - 1) (iv P) (by simp [Act.eval, e0]) (by simp [Act.eval, e1]) (fun j hj => ?_) (by omega) (by omega) (Nat.le_trans hN1 hb.size) ?_
            · exact (hb.cell (p := ⟨bA, oB + j, none⟩) (by show bA < _; omega)).trans (KP.out.cellsAt j hj)
            · intro A' cap' ob hown
              exact Typed2.mk _ rfl (C12.app4 hCH.out hN1 hl11 h9 hs51.out _ _ _ (.inr ⟨ob, rfl⟩) hown _) trivial trivial
        · have u3 := hU 3 (not_written (by kernel_rfl))
          simp at u3
          clear hU hD hA hcl
          go_simp
          exact Typed2.mk _ rfl (C12.keep (i := 5) (dst := some 32) hCH.out (by decide) (by decide) _ _) trivial rfl
        · have e0 := hD ⟨5, Ground.data⟩ (by simp) rfl _ 32 rfl rfl
          simp [kIs] at e0
          clear hU hD hA hcl
          go_simp
          exact Typed2.mk _ rfl (C12.keep (i := 6) (dst := some 33) hCH.out (by decide) (by decide) _ _) trivial rfl
        · have e0 := hD ⟨6, Ground.data⟩ (by simp) rfl _ 33 rfl rfl
          simp [kIs] at e0
          clear hU hD hA hcl
          go_simp
          exact Typed2.mk _ rfl (C12.keep (i := 7) (dst := some 34) hCH.out (by decide) (by decide) _ _) trivial rfl
        · have e0 := hD ⟨7, Ground.data⟩ (by simp) rfl _ 34 rfl rfl
          simp [kIs] at e0
          clear hU hD hA hcl
          go_simp
          exact Typed2.mk _ rfl (C12.lit8 hCH.out hN1 hl11 hs51.out _) trivial trivial
        · have hL4 : L 4 = true := hA ⟨4, Ground.data⟩ (by simp) rfl
          have hL8 : L 8 = true := hA ⟨8, Ground.data⟩ (by simp) rfl
          obtain ⟨A1, c1', e0, o0⟩ := hCH.out.r31 hL4 hLi
          obtain ⟨b8, e1, o1⟩ := hCH.out.r35 hL8 hLi
          simp at e0 e1
          clear hU hD hA hcl
          refine oper_append_own rfl Try.underlying23 info3 rfl (by omega) (by omega) N (n - 1) 1 c1' 1 b8 0 A1 (iv P) (by simp [Act.eval, e0]) (by simp [Act.eval, e1]) o0 (fun j hj => ?_) (fun j hj => rfl) (by omega) (Nat.le_trans hN1 hb.size) ?_
          · obtain rfl : j = 0 := by omega
            rw [o1]
            simp only [iv, Nat.mul_one, Nat.add_zero]
            rw [hPL.out]
          · rw [show n - 1 + 1 = n by omega]
            intro A' cap' u' hown hbu
            exact Typed2.mk _ rfl (C12.app9 hCH.out hN1 hl11 hL4 hs51.out _ _ _ hbu hown _) trivial trivial
        · have u6 := hU 6 (not_written (by kernel_rfl))
          simp at u6
          clear hU hD hA hcl
          go_simp
          exact Typed2.mk _ rfl (C12.keep (i := 10) (dst := some 37) hCH.out (by decide) (by decide) _ _) trivial rfl
        · have hL9 : L 9 = true := hA ⟨9, Ground.data⟩ (by simp) rfl
          have hL4 : L 4 = true := hcl 9 _ rfl hL9 ⟨4, Ground.data⟩ (by simp) rfl
          obtain ⟨A1, c1', e0, o0⟩ := hCH.out.r36 hL9 hl11
          have e0' := e0
          have e1 := hD ⟨10, Ground.data⟩ (by simp) rfl _ 37 rfl rfl
          simp [kIs] at e0 e1
          clear hU hD hA hcl
          go_simp
          exact Typed2.mk (a := a) undef rfl (C12.last hCH.out hN1 hl11 hL4 hL9 A1 c1' e0' _) trivial trivial
      · intro L a u hLL hCC hL hN hU hs hd
        clear hN
        obtain ⟨A1, c1', u1, rfl, hb1, hown⟩ := hCC.fin (hLL 11 (by decide))
        clear hCC
        have hN : True := trivial
        have ht := tmps_ds [27, 28, 29, 30, 31, 32, 33, 34, 35, 36, 37] rfl hs hU
        simp [List.range, List.range.loop] at ht
        (try generalize a.tmps[27]?.getD undef = x27 at ht)
        (try generalize a.tmps[28]?.getD undef = x28 at ht)
        (try generalize a.tmps[29]?.getD undef = x29 at ht)
        (try generalize a.tmps[30]?.getD undef = x30 at ht)
        (try generalize a.tmps[31]?.getD undef = x31 at ht)
        (try generalize a.tmps[32]?.getD undef = x32 at ht)
        (try generalize a.tmps[33]?.getD undef = x33 at ht)
        (try generalize a.tmps[34]?.getD undef = x34 at ht)
        (try generalize a.tmps[35]?.getD undef = x35 at ht)
        (try generalize a.tmps[36]?.getD undef = x36 at ht)
        (try generalize a.tmps[37]?.getD undef = x37 at ht)
        obtain ⟨tm, df⟩ := a
        simp only at ht hd
        subst ht hd
        clear hL hN hU hs
        have hzu := hb1.size
        obtain ⟨f0, f1, f2, f3, f4⟩ := (FB.far (FB.below hb1 HF0.out (by omega)) (a := ⟨w3.heap.size + 1, 1, none⟩) (by simp <;> omega) (.slice A1 n c1')).cells
        obtain ⟨g0, g1, g2, g3, g4⟩ := (FB.far (FB.below hb1 HF1.out (by omega)) (a := ⟨w3.heap.size + 1, 1, none⟩) (by simp <;> omega) (.slice A1 n c1')).cells
        obtain ⟨k0, k1, k2, k3, k4⟩ := ((FB.below hb1 HF2.out (by omega)).put1 A1 n c1').cells
        have TB := Lib.hid (RS.setCell (RS.below hb1 KB.out (by omega)) (p := ⟨w3.heap.size + 1, 1, none⟩) (by simp <;> omega) (.slice A1 n c1'))
        have TP := Lib.hid (RS.setCell (RS.below hb1 KP.out (by omega)) (p := ⟨w3.heap.size + 1, 1, none⟩) (by simp <;> omega) (.slice A1 n c1'))
        have TA := Lib.hid (own_rs (ownsRow_setCell_below hown (a := ⟨w3.heap.size + 1, 1, none⟩) (by simp; omega) (.slice A1 n c1')))
        have b5 : Hid (Below w.heap.size w (u1.setCell ⟨w3.heap.size + 1, 1, none⟩ (.slice A1 n c1'))) := Lib.hid ((hb4.out.trans (hb1.mono (by omega))).setCell (by simp <;> omega) _)
        obtain ⟨w5, hw5⟩ : ∃ w5, u1.setCell ⟨w3.heap.size + 1, 1, none⟩ (.slice A1 n c1') = w5 := ⟨_, rfl⟩
        have hs5 : u1.heap.size ≤ w5.heap.size := by rw [← hw5]; simp
        rw [hw5] at f0 f1 f2 f3 f4 g0 g1 g2 g3 g4 k0 k1 k2 k3 k4 TB TP b5
        have TA' : Hid (RS w5 w5.heap.size 1 A1 n (iv P)) := by rw [hw5] at TA; exact TA
        rw [hw5]
        clear hb1 hown hw5 TA
        by_cases hW : W = 1
        · have hWb : (W == 1) = true := by simp [hW]
          clear hW
          go_wp2_with (first | (go_at_call 6; (refine (ifv_c _ _ _ _ _ _ _ _ _ P q _ HV2.out _ (C := w5.heap.size) (C' := w1.heap.size) TA'.out TB.out (by ((try simp only [World.size_alloc, World.size_setCell, World.size_drew]) <;> omega)) (by ((try simp only [World.size_alloc, World.size_setCell, World.size_drew]) <;> omega)) (by omega) (by omega)).mono ?_; rintro e w7 ⟨rfl, hO_w7⟩; have hz_w7 := hO_w7.size; (try simp only [World.size_alloc, World.size_setCell, World.size_drew] at hz_w7))))
          go_ret
          exact ⟨rfl, b5.out.trans (hO_w7.mono (by omega))⟩
        · have hWb : (W == 1) = false := by simpa using hW
          have HV3 := HV1 hW
          clear hW
          go_wp2_with (go_at_call 6; (first | ((with_reducible refine Go.Calls.mono (ifv_c W (some ⟨bA, oB, none⟩) (n - 1) (c - 1) B m d X Y P q _ HV3.out w5 (C := w1.heap.size) (C' := w1.heap.size) TP.out TB.out (by ((try simp only [World.size_alloc, World.size_setCell, World.size_drew]) <;> omega)) (by ((try simp only [World.size_alloc, World.size_setCell, World.size_drew]) <;> omega)) (by omega) (by omega)) ?_); rintro e w7 ⟨rfl, hO_w7⟩; have hz_w7 := hO_w7.size; (try simp only [World.size_alloc, World.size_setCell, World.size_drew] at hz_w7); have hs_w7_0 : w3.heap.size + 1 < w7.heap.size := (by omega); have c_w7_0 := fun o => (bcell hO_w7).1 (w3.heap.size + 1) o (by (try simp only [World.size_alloc, World.size_setCell, World.size_drew]) <;> omega); have f_w7_0 := fun o => (bcell hO_w7).2 (w3.heap.size + 1) o (by (try simp only [World.size_alloc, World.size_setCell, World.size_drew]) <;> omega)) | ((with_reducible refine Go.Calls.mono (ifv_c W A1 n c1' B m d X Y P q _ HV2.out w7 (C := w5.heap.size) (C' := w1.heap.size) (RS.below hO_w7 TA'.out (by omega)) (RS.below hO_w7 TB.out (by omega)) (by ((try simp only [World.size_alloc, World.size_setCell, World.size_drew]) <;> omega)) (by ((try simp only [World.size_alloc, World.size_setCell, World.size_drew]) <;> omega)) (by omega) (by omega)) ?_); rintro e w8 ⟨rfl, hO_w8⟩)))
          go_ret
          exact ⟨rfl, b5.out.trans ((hO_w7.mono (by omega)).trans (hO_w8.mono (by omega)))⟩

set_option maxRecDepth 100000 in
theorem lifted (os : Os) (started : os.Started) (H : Type) (enc : TypeId × Value → H) :
    ReturnsInHanded {} Try.checked os 3 .any (Rows.fnFieldValidSpec.pre6 enc Try.prog Try.f3 Rows.fnFieldValidRow.domain false) (Rows.fnFieldValidSpec.post enc Try.prog Try.f3 false true false false) := by
  refine returnsInHanded_of_change (C := Try.checked) own started (by kernel_rfl) Try.func3
    (ChangeSpec.witness6 (enc := enc) (C := Try.checked) false ⟨#[], #[.slice none 0 0], []⟩ 8 (by kernel_rfl) (by kernel_rfl) (by kernel_rfl) (by kernel_rfl)) ?_
  intro W base args ds gs before hval0 hW hcnd _
  have hval : ∀ (j : Nat) t v, Try.f3.params[j]? = some t → args[j]? = some v → Value.okWide Try.prog W .any base t v := hval0
  have hW' := hW
  obtain ⟨p, q, hA0, hV, rfl, hfz, hnd⟩ := hW
  have hA : DataW.TrodAll enc Try.prog W 0 (fun _ => true) true Try.f3.params.toList args.toList ds p := hA0
  rw [Try.params3] at hA hval
  obtain ⟨v0, vs0, d0, ds0, p0, q0, hargs, rfl, rfl, h0, r0⟩ := trodAll_cons hA
  obtain ⟨rfl, rfl, rfl⟩ := trodAll_nil r0
  obtain rfl : args = #[v0] := by cases args; simp_all
  obtain ⟨rfl, rfl⟩ := trodVars_none hV
  have lt0 : ∀ x ∈ p0, x.block < W.heap.size := by obtain ⟨m, hm⟩ := h0; exact DataW.trod_lt m _ _ _ hm
  have a0 := codeArg (hval 0 22 v0 rfl rfl) h0
  clear hA0 hval0
  refine (walk v0 W a0).mono fun e W' ⟨he, bel⟩ => ?_
  subst he
  exact ⟨_, rfl, _, _, _, [], _, [], hW', trodAll_mk1 (shut_bool Try.underlying4 _), (trodAll_cons_mk (Below.trod laidOut (by kernel_rfl) (of_decide_eq_true (by kernel_rfl)) h0 bel lt0) trodAll_mk0), rfl, bel.frame _, fun h => by cases h⟩

theorem proved : Rows.FnFieldValidSaid :=
  OpenClaim.holds_of_wide 3 Try.f3 rfl rfl rfl rfl rfl rfl rfl ⟨rfl, rfl, rfl, rfl, rfl⟩ rfl rfl rfl rfl rfl (by kernel_rfl) Try.func3 (by kernel_rfl)
    (of_decide_eq_true (by kernel_rfl)) (by unfold Func.isWrapper; first | (rw [if_pos (by decide +kernel)]; kernel_rfl) | (rw [if_neg (by decide +kernel)]; exact ⟨rfl, rfl⟩))
    (fun os started H enc _ => lifted os started H enc)
#print axioms proved

end Go.Proofs.Ythopeedonikdhaa.lawFnFieldValid
