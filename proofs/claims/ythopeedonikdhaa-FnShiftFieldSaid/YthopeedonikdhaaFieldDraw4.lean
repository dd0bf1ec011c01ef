/-
  What the drawn fields are that come with a line or with shifts. No conditions.
-/
import Derived.Test.YthopeedonikdhaaFieldDraw3
namespace Go.Proofs.Ythopeedonikdhaa
set_option linter.all false
set_option linter.unusedSimpArgs false
set_option linter.unusedVariables false
open Go.ChangeShapes Go.WideShapes Go.ChangeAt Go.RowKit

theorem Rd.setFB {w : World} {R : Nat} {k : Int} (h : Rd w R k) {g : Nat} {t : TypeId} {W : Int} {A : Option Addr} {n c : Nat} {B : Option Addr} {m d : Nat} {X Y : Int} (hB : FB w g t W A n c B m d X Y) (hg : g ≠ R) (i : Nat) (v : Value) : Rd (w.setCell ⟨g, i, none⟩ v) R k := by
  obtain ⟨a, len, cap, p, h1, h2, h3, h4, h5⟩ := h
  refine ⟨a, len, cap, p, (Below.heap_setCell w ⟨g, i, none⟩ v R (Ne.symm hg)).trans h1, h2, h3, h4, ?_⟩
  rcases h5 with h5 | ⟨b, off, rfl, hlt, hc⟩
  · exact .inl h5
  · refine .inr ⟨b, off, rfl, hlt, fun j hj => ?_⟩
    obtain ⟨u, hu, hcu⟩ := hc j hj
    have hb : b ≠ g := by
      rintro rfl
      unfold FB at hB
      simp only [World.cell?, hB] at hcu
      have hm : ∀ q : Nat, #[Value.int .i64 W, .slice A n c, .slice B m d, .int .i64 X, .int .i64 Y][q]? ≠ some (.int .u8 u) := fun q => by
        match q with
        | 0 => intro e; cases e
        | 1 => intro e; cases e
        | 2 => intro e; cases e
        | 3 => intro e; cases e
        | 4 => intro e; cases e
        | q + 5 => simp
      exact hm _ (by simpa using hcu)
    exact ⟨u, hu, (World.cell?_of_block (w := w) (a := ⟨b, off + j, none⟩) (Below.heap_setCell w ⟨g, i, none⟩ v b hb)).trans hcu⟩
theorem Rd.store5 {w : World} {R : Nat} {k : Int} (h : Rd w R k) {g : Nat} {t : TypeId} {W : Int} {A : Option Addr} {n c : Nat} {B : Option Addr} {m d : Nat} {X Y : Int} (hB : FB w g t W A n c B m d X Y) (hg : g ≠ R) (W' : Int) (A' : Option Addr) (n' c' : Nat) (B' : Option Addr) (m' d' : Nat) (X' Y' : Int) :
    Rd (((((w.setCell ⟨g, 0, none⟩ (.int .i64 W')).setCell ⟨g, 1, none⟩ (.slice A' n' c')).setCell ⟨g, 2, none⟩ (.slice B' m' d')).setCell ⟨g, 3, none⟩ (.int .i64 X')).setCell ⟨g, 4, none⟩ (.int .i64 Y')) R k :=
  ((((h.setFB hB hg 0 _).setFB (hB.put0 W') hg 1 _).setFB ((hB.put0 W').put1 A' n' c') hg 2 _).setFB (((hB.put0 W').put1 A' n' c').put2 B' m' d') hg 3 _).setFB ((((hB.put0 W').put1 A' n' c').put2 B' m' d').put3 X') hg 4 _
/-- The result's cell gets the field at operation s. -/
def DSt (R : Nat) (k : Int) (w0 : World) (z g base : Nat) (W : Int) (A : Option Addr) (n c : Nat) (B : Option Addr) (m d : Nat) (X Y : Int) (s : Nat) (L : Nat → Bool) (n' : Nat) (_ : Act) (u : World) : Prop :=
  Rdg R k w0 n' u ∧ FB u g 26 W A n c B m d X Y ∧ IS u base 1 A n ∧ IS u base 64 B m ∧ (L s = false → FBz u z) ∧ (L s = true → FB u z 26 W A n c B m d X Y)
theorem DSt.step {R : Nat} {k : Int} {w0 u u' : World} {z g base : Nat} {W : Int} {A : Option Addr} {n c : Nat} {B : Option Addr} {m d : Nat} {X Y : Int} {s : Nat} {L : Nat → Bool} {n' i : Nat} {a : Act} (h : DSt R k w0 z g base W A n c B m d X Y s L n' a u) (hi : i ≠ s) (h1 : Rdg R k w0 (n' + 1) u')
    (hF : ∀ b t W A n c B m d X Y, b ≠ R → FB u b t W A n c B m d X Y → FB u' b t W A n c B m d X Y) (hz : z ≠ R) (hg : g ≠ R) (hI : ∀ b e N, IB u b e N → IB u' b e N) (a' : Act) : DSt R k w0 z g base W A n c B m d X Y s (updL L i) (n' + 1) a' u' := by
  obtain ⟨_, g1, g2, g3, g4, g5⟩ := h
  exact ⟨h1, hF _ _ _ _ _ _ _ _ _ _ _ hg g1, g2.mono hI, g3.mono hI, fun e => hF _ _ _ _ _ _ _ _ _ _ _ hz (g4 (by rwa [updL_ne (Ne.symm hi)] at e)), fun e => hF _ _ _ _ _ _ _ _ _ _ _ hz (g5 (by rwa [updL_ne (Ne.symm hi)] at e))⟩
def kIn (p : Int → Prop) (v : Value) : Prop := ∃ x : Int, p x ∧ v = .int .i64 x

set_option maxRecDepth 100000 in
set_option maxHeartbeats 2000000 in
theorem drawShiftField_c (a : Option Addr) (len cap : Nat) (w : World) (hcode : Code w a len) (hl : len ≤ cap) : Calls Try.prog 9 #[.slice a len cap] w (DF2 w) := by
  go_enter Try.func9, Try.ntmps9
  have hZ0 : FBz _ w.heap.size := FB.new w 26 0 none 0 0 none 0 0 0 0
  go_wp2_with fail
  refine (open_c _ _ _ _ (hcode.keep (by (repeat (first | with_reducible exact Below.refl _ _ | ((with_reducible refine viaO (by assumption) ?_ ?_ ?_) <;> try ((try simp only [World.size_alloc, World.size_setCell, World.size_drew]) <;> omega)) | ((with_reducible refine Below.alloc ?_ ?_ _) <;> try ((try simp only [World.size_alloc, World.size_setCell, World.size_drew]) <;> omega)) | ((with_reducible refine Below.setCell ?_ ?_ _) <;> try ((try simp only [World.size_alloc, World.size_setCell, World.size_drew]) <;> omega)) | (with_reducible refine below_drewN ?_ _) | (with_reducible refine Below.drew ?_) | ((with_reducible refine via (by assumption) ?_ ?_) <;> try ((try simp only [World.size_alloc, World.size_setCell, World.size_drew]) <;> omega)))))) (by assumption)).mono ?_
  rintro e w1 ⟨R, rfl, hR0, hO_w1, hR_w1⟩
  have hz_w1 := hO_w1.size
  (try simp only [World.size_alloc, World.size_setCell, World.size_drew] at hz_w1)
  (try simp only [World.size_alloc, World.size_setCell, World.size_drew] at hR0)
  have hlt_w1 := hR_w1.lt
  have hZ1 := FB.below hO_w1 hZ0 (by simp)
  have hb1 : Below w.heap.size w w1 := by
    (repeat (first | with_reducible exact Below.refl _ _ | ((with_reducible refine viaO (by assumption) ?_ ?_ ?_) <;> try ((try simp only [World.size_alloc, World.size_setCell, World.size_drew]) <;> omega)) | ((with_reducible refine Below.alloc ?_ ?_ _) <;> try ((try simp only [World.size_alloc, World.size_setCell, World.size_drew]) <;> omega)) | ((with_reducible refine Below.setCell ?_ ?_ _) <;> try ((try simp only [World.size_alloc, World.size_setCell, World.size_drew]) <;> omega)) | (with_reducible refine below_drewN ?_ _) | (with_reducible refine Below.drew ?_) | ((with_reducible refine via (by assumption) ?_ ?_) <;> try ((try simp only [World.size_alloc, World.size_setCell, World.size_drew]) <;> omega))))
  clear hZ0 hO_w1
  go_wp2_with fail
  refine (l20Field_c _ _ _ _ hR_w1 (by omega) (by omega) (by omega)).mono ?_
  rintro e w2 ⟨W, A, n, c, B, m, d, X, Y, rfl, hA, hB, hn, hm, hn', hm', hO2, hR2⟩
  have hz2 := hO2.size
  have hZ2 := FB.only hO2 hZ1 (by omega)
  have hb2 : Below w.heap.size w w2 := viaO hO2 hb1 (by omega) (by omega)
  have hlt1 : w.heap.size < w1.heap.size := by omega
  have hA2 := hA.alloc (.cells #[.int .i64 W, .slice A n c, .slice B m d, .int .i64 X, .int .i64 Y] 26)
  have hB2 := hB.alloc (.cells #[.int .i64 W, .slice A n c, .slice B m d, .int .i64 X, .int .i64 Y] 26)
  have hR3 := hR2.alloc (.cells #[.int .i64 W, .slice A n c, .slice B m d, .int .i64 X, .int .i64 Y] 26)
  have hZ3 := hZ2.alloc (.cells #[.int .i64 W, .slice A n c, .slice B m d, .int .i64 X, .int .i64 Y] 26)
  have hF3 := FB.new w2 26 W A n c B m d X Y
  have hb3 := hb2.alloc (by omega) (.cells #[.int .i64 W, .slice A n c, .slice B m d, .int .i64 X, .int .i64 Y] 26)
  have hRlt := hR2.lt
  clear hA hB hR2 hZ2 hb2 hO2 hZ1
  go_upto_region 3 with fail
  have hOW : Only R w _ := Only.of_below hb3
  generalize (w2.alloc (.cells #[.int .i64 W, .slice A n c, .slice B m d, .int .i64 X, .int .i64 Y] 26)) = wa at *
  refine wp_region_typed2 (by kernel_rfl) (by kernel_rfl) (DSt R 12000 w w.heap.size w2.heap.size w1.heap.size W A n c B m d X Y 12) (XT (fun _ _ => False))
    (fun j v u => match j with
      | 0 => kIs (fdV W A n c B m d X Y) v
      | 1 | 4 | 9 => kIs (.pointer (some ⟨R, 0, none⟩)) v
      | 2 | 10 => kNat 256 v
      | 3 | 11 | 14 => kIn (fun x => -1000 ≤ x ∧ x ≤ 1000) v
      | 5 => kNat 14 v
      | 6 => kIn (fun x => 0 ≤ x ∧ x ≤ 1) v
      | 7 => kIn (fun x => 0 ≤ x ∧ x ≤ 400) v
      | 8 | 13 => kIn (fun x => -2000 ≤ x ∧ x ≤ 2000) v
      | _ => True) ?_ ?_ ?_ ?_
  · intro j v u u' h e
    split at h <;> exact h
  · exact ⟨⟨hOW.drew, (show Rd wa.drew R _ from hR3).more (by omega)⟩, hF3, hA2, hB2, fun _ => hZ3, fun h => by cases h⟩
  · intro L i o n' a u ho hn' hLi hcl hC hD hU
    have hCC := Lib.hid hC
    obtain ⟨hC1, hBu, hAu, hTu, hZ0, hZ1⟩ := hC
    have hsz := hC1.1.size
    have hC2 := hC1.2
    have hnx0 : i ≠ 12 → ∀ a', DSt R 12000 w w.heap.size w2.heap.size w1.heap.size W A n c B m d X Y 12 (updL L i) (n' + 1) a' u := fun hi => DSt.step hCC.out hi hC1.next (fun _ _ _ _ _ _ _ _ _ _ _ _ h => h) (by omega) (by omega) (fun _ _ _ h => h)
    have hon0 : i ≠ 12 → ∀ u', Only R u u' → Rd u' R (12000 + n' + 1) → ∀ a', DSt R 12000 w w.heap.size w2.heap.size w1.heap.size W A n c B m d X Y 12 (updL L i) (n' + 1) a' u' := fun hi u' hO hR' => DSt.step hCC.out hi (hC1.only hO hR') (fun _ _ _ _ _ _ _ _ _ _ _ hb h => h.only hO hb) (by omega) (by omega) (ib_only hC2 hO)
    have han0 : True := trivial
    have hrf := XT.refl (fun _ _ => False) u
    have hex : ∀ u', Only R u u' → XT (fun _ _ => False) u u' := fun u' hO => XT.only hC2 hO (fun _ h => h.elim)
    have hi : i < 15 := (Array.getElem?_eq_some_iff.1 ho).1
    replace hn' : n' < 15 := hn'
    obtain rfl | rfl | rfl | rfl | rfl | rfl | rfl | rfl | rfl | rfl | rfl | rfl | rfl | rfl | rfl : i = 0 ∨ i = 1 ∨ i = 2 ∨ i = 3 ∨ i = 4 ∨ i = 5 ∨ i = 6 ∨ i = 7 ∨ i = 8 ∨ i = 9 ∨ i = 10 ∨ i = 11 ∨ i = 12 ∨ i = 13 ∨ i = 14 := by omega
    all_goals (simp only [List.getElem?_toArray, List.getElem?_cons_zero, List.getElem?_cons_succ, Option.some.injEq] at ho; subst ho)
    all_goals clear hi hcl
    all_goals (try (have hnx := hnx0 (by decide); have hon := hon0 (by decide)))
    · obtain ⟨c0, c1, c2, c3, c4⟩ := hBu.cells
      have u6 := hU 6 (not_written (by kernel_rfl))
      simp at u6
      clear hU hD
      go_simp
      exact Typed2.mk _ rfl (hnx _) hrf rfl
    · have u0 := hU 5 (not_written (by kernel_rfl))
      simp at u0
      clear hU hD
      go_simp
      exact Typed2.mk _ rfl (hnx _) hrf rfl
    · have e0 := hD ⟨1, Ground.data⟩ (by simp) rfl _ 12 rfl rfl
      simp [kIs] at e0
      clear hU hD
      go_simp
      refine (pick_c R 256 _ u hC2 (by omega) (by omega) (by omega)).mono ?_
      rintro e w' ⟨m, hm, rfl, hO, hR'⟩
      exact Typed2.mk _ rfl (hon _ hO hR' _) (hex _ hO) ⟨m, hm, rfl⟩
    · obtain ⟨x, hx, e0⟩ := hD ⟨2, Ground.data⟩ (by simp) rfl _ 13 rfl rfl
      simp at e0
      have hx1 : x < 256 := by omega
      have ew : IntKind.i64.wrap ((x : Int) - 128) = (x : Int) - 128 := IntWalk.i64_in _ (by omega)
      clear hU hD hx
      go_simp
      exact Typed2.mk _ rfl (hnx _) hrf ⟨_, ⟨by omega, by omega⟩, rfl⟩
    · have u0 := hU 5 (not_written (by kernel_rfl))
      simp at u0
      clear hU hD
      go_simp
      exact Typed2.mk _ rfl (hnx _) hrf rfl
    · have e0 := hD ⟨4, Ground.data⟩ (by simp) rfl _ 15 rfl rfl
      simp [kIs] at e0
      clear hU hD
      go_simp
      refine (pick_c R 14 _ u hC2 (by omega) (by omega) (by omega)).mono ?_
      rintro e w' ⟨m, hm, rfl, hO, hR'⟩
      exact Typed2.mk _ rfl (hon _ hO hR' _) (hex _ hO) ⟨m, hm, rfl⟩
    · obtain ⟨x, hx, e0⟩ := hD ⟨5, Ground.data⟩ (by simp) rfl _ 16 rfl rfl
      simp at e0
      have hx1 : x < 14 := by omega
      have et : IntKind.i64.wrap ((x : Int) / 13) = (x : Int) / 13 := IntWalk.i64_in _ (by omega)
      clear hU hD hx
      go_simp
      exact Typed2.mk _ rfl (hnx _) hrf ⟨_, ⟨by omega, by omega⟩, rfl⟩
    · obtain ⟨x, hx, e0⟩ := hD ⟨6, Ground.data⟩ (by simp) rfl _ 17 rfl rfl
      simp at e0
      have ew : IntKind.i64.wrap (x * 400) = x * 400 := IntWalk.i64_in _ (by omega)
      clear hU hD
      go_simp
      exact Typed2.mk _ rfl (hnx _) hrf ⟨_, ⟨by omega, by omega⟩, rfl⟩
    · obtain ⟨x, hx, e0⟩ := hD ⟨3, Ground.data⟩ (by simp) rfl _ 14 rfl rfl
      obtain ⟨y, hy, e1⟩ := hD ⟨7, Ground.data⟩ (by simp) rfl _ 18 rfl rfl
      simp at e0 e1
      have ew : IntKind.i64.wrap (x + y) = x + y := IntWalk.i64_in _ (by omega)
      clear hU hD
      go_simp
      exact Typed2.mk _ rfl (hnx _) hrf ⟨_, ⟨by omega, by omega⟩, rfl⟩
    · have u0 := hU 5 (not_written (by kernel_rfl))
      simp at u0
      clear hU hD
      go_simp
      exact Typed2.mk _ rfl (hnx _) hrf rfl
    · have e0 := hD ⟨9, Ground.data⟩ (by simp) rfl _ 20 rfl rfl
      simp [kIs] at e0
      clear hU hD
      go_simp
      refine (pick_c R 256 _ u hC2 (by omega) (by omega) (by omega)).mono ?_
      rintro e w' ⟨m, hm, rfl, hO, hR'⟩
      exact Typed2.mk _ rfl (hon _ hO hR' _) (hex _ hO) ⟨m, hm, rfl⟩
    · obtain ⟨x, hx, e0⟩ := hD ⟨10, Ground.data⟩ (by simp) rfl _ 21 rfl rfl
      simp at e0
      have hx1 : x < 256 := by omega
      have ew : IntKind.i64.wrap ((x : Int) - 128) = (x : Int) - 128 := IntWalk.i64_in _ (by omega)
      clear hU hD hx
      go_simp
      exact Typed2.mk _ rfl (hnx _) hrf ⟨_, ⟨by omega, by omega⟩, rfl⟩
    · have e10 := hD ⟨0, Ground.data⟩ (by simp) rfl _ 11 rfl rfl
      simp [kIs] at e10
      have u2 := hU 2 (not_written (by kernel_rfl))
      simp at u2
      have hz := hZ0 hLi
      obtain ⟨d0, d1, d2, d3, d4⟩ := hz.cells
      obtain ⟨x0, x1, x2, x3, x4⟩ := hz.free
      have hput := hz.put W A n c B m d X Y
      have hib := put5_ib hz (.int .i64 W) (.slice A n c) (.slice B m d) (.int .i64 X) (.int .i64 Y)
      have hrd := (hC2.more (show 12000 + (n' : Int) ≤ 12000 + ((n' + 1 : Nat) : Int) by omega)).store5 hz (by omega) W A n c B m d X Y
      clear hU hD
      go_simp
      refine Typed2.mk undef rfl ⟨⟨?_, hrd⟩, ?_, hAu.mono hib, hTu.mono hib, fun e => ?_, fun _ => hput⟩ ⟨hib, fun _ h => h.elim⟩ trivial
      · exact ((((hC1.1.setCell (.inr (by simp)) _).setCell (.inr (by simp)) _).setCell (.inr (by simp)) _).setCell (.inr (by simp)) _).setCell (.inr (by simp)) _
      · exact ((((hBu.far (by simp; omega) _).far (by simp; omega) _).far (by simp; omega) _).far (by simp; omega) _).far (by simp; omega) _
      · rw [updL_eq] at e; cases e
    · obtain ⟨x, hx, e0⟩ := hD ⟨8, Ground.data⟩ (by simp) rfl _ 19 rfl rfl
      simp at e0
      clear hU hD
      go_simp
      exact Typed2.mk _ rfl (hnx _) hrf ⟨x, hx, rfl⟩
    · obtain ⟨x, hx, e0⟩ := hD ⟨11, Ground.data⟩ (by simp) rfl _ 22 rfl rfl
      simp at e0
      clear hU hD
      go_simp
      exact Typed2.mk _ rfl (hnx _) hrf ⟨x, hx, rfl⟩
  · intro L a u hLL hC hL hN hU hs hd
    obtain ⟨x, hx, e3⟩ := hL 13 _ 3 rfl rfl
    obtain ⟨y, hy, e4⟩ := hL 14 _ 4 rfl rfl
    have e3' : a.tmps[3]?.getD undef = .int .i64 x := by simpa using e3
    have e4' : a.tmps[4]?.getD undef = .int .i64 y := by simpa using e4
    obtain ⟨hC1, hBu, hAu, hTu, _, hZ1⟩ := hC
    have hZu := hZ1 (hLL 12 (by decide))
    clear e3 e4
    have ht := tmps_ds [11, 12, 13, 14, 15, 16, 17, 18, 19, 20, 21, 22, 3, 4] rfl hs hU
    simp [List.range, List.range.loop] at ht
    rw [e3', e4'] at ht
    (try generalize a.tmps[11]?.getD undef = x11 at ht)
    (try generalize a.tmps[12]?.getD undef = x12 at ht)
    (try generalize a.tmps[13]?.getD undef = x13 at ht)
    (try generalize a.tmps[14]?.getD undef = x14 at ht)
    (try generalize a.tmps[15]?.getD undef = x15 at ht)
    (try generalize a.tmps[16]?.getD undef = x16 at ht)
    (try generalize a.tmps[17]?.getD undef = x17 at ht)
    (try generalize a.tmps[18]?.getD undef = x18 at ht)
    (try generalize a.tmps[19]?.getD undef = x19 at ht)
    (try generalize a.tmps[20]?.getD undef = x20 at ht)
    (try generalize a.tmps[21]?.getD undef = x21 at ht)
    (try generalize a.tmps[22]?.getD undef = x22 at ht)
    (try generalize a.tmps[3]?.getD undef = x3 at ht)
    (try generalize a.tmps[4]?.getD undef = x4 at ht)
    obtain ⟨tm, df⟩ := a
    simp only at ht hd
    subst ht hd
    clear hL hN hU hs
    obtain ⟨c0, c1, c2, c3, c4⟩ := hZu.cells
    have hOu := hC1.1
    clear hC1 hZ1 hBu hZu
    go_wp2
    exact bodyPost_ret (v := .tuple #[fdV W A n c B m d X Y, .int .i64 x, .int .i64 y]) (by simp [results, Try.results9, go_sem, *]) rfl ⟨W, A, n, c, B, m, d, X, Y, x, y, rfl, fg_mk hAu hTu hn hm hn' hm', hOu.below (by omega) (Nat.le_refl _)⟩

end Go.Proofs.Ythopeedonikdhaa
