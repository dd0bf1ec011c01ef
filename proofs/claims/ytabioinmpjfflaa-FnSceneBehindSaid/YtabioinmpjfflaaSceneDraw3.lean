/-
  What DrawSceneLine draws. No conditions.
-/
import Derived.Test.YtabioinmpjfflaaSceneDraw2
import Derived.Test.YtabioinmpjfflaaTyped2
import Derived.Test.YtabioinmpjfflaaKinds
namespace Go.Proofs.Ytabioinmpjfflaa
set_option linter.all false
set_option linter.unusedSimpArgs false
set_option linter.unusedVariables false
set_option maxRecDepth 20000
open Go.ChangeShapes Go.WideShapes Go.ChangeAt Go.RowKit

theorem SH.put {w : World} {g : Nat} {t : TypeId} {W : Int} {A : Option Addr} {n c : Nat} {B : Option Addr} {m d : Nat} {X Y : Int} {S : Option Addr} {k e : Nat} (h : SH w g t W A n c B m d X Y S k e) (W' : Int) (A' : Option Addr) (n' c' : Nat) (B' : Option Addr) (m' d' : Nat) (X' Y' : Int) (S' : Option Addr) (k' e' : Nat) :
    SH ((((((w.setCell ⟨g, 0, none⟩ (.int .i64 W')).setCell ⟨g, 1, none⟩ (.slice A' n' c')).setCell ⟨g, 2, none⟩ (.slice B' m' d')).setCell ⟨g, 3, none⟩ (.int .i64 X')).setCell ⟨g, 4, none⟩ (.int .i64 Y')).setCell ⟨g, 5, none⟩ (.slice S' k' e')) g t W' A' n' c' B' m' d' X' Y' S' k' e' := by
  unfold SH at h ⊢
  simp [World.setCell, Array.getElem?_modify, h]
/-- The reader stays where all its blocks stay but that of a scene. -/
theorem Rd.offSH {w w' : World} {R : Nat} {k : Int} (h : Rd w R k) {z : Nat} {t : TypeId} {W : Int} {A : Option Addr} {n c : Nat} {B : Option Addr} {m d : Nat} {X Y : Int} {S : Option Addr} {j e : Nat} (hz : SH w z t W A n c B m d X Y S j e) (hzR : z ≠ R) (hk : ∀ i, i ≠ z → w'.heap[i]? = w.heap[i]?) : Rd w' R k := by
  obtain ⟨a, len, cap, p, h1, h2, h3, h4, h5⟩ := h
  refine ⟨a, len, cap, p, (hk R (Ne.symm hzR)).trans h1, h2, h3, h4, ?_⟩
  rcases h5 with h5 | ⟨b, off, rfl, hlt, hc⟩
  · exact .inl h5
  · refine .inr ⟨b, off, rfl, hlt, fun i hi => ?_⟩
    obtain ⟨u, hu, hcu⟩ := hc i hi
    have hb : b ≠ z := by
      rintro rfl
      unfold SH at hz
      simp only [World.cell?, hz] at hcu
      have hm : ∀ q : Nat, #[Value.int .i64 W, .slice A n c, .slice B m d, .int .i64 X, .int .i64 Y, .slice S j e][q]? ≠ some (.int .u8 u) := fun q => by
        match q with
        | 0 => intro e; cases e
        | 1 => intro e; cases e
        | 2 => intro e; cases e
        | 3 => intro e; cases e
        | 4 => intro e; cases e
        | 5 => intro e; cases e
        | q + 6 => simp
      exact hm _ (by simpa using hcu)
    exact ⟨u, hu, (World.cell?_of_block (w := w) (a := ⟨b, off + i, none⟩) (hk b hb)).trans hcu⟩
/-- The result's cell gets the scene at operation 4. -/
def DCt (R : Nat) (k0 : Int) (w0 wa : World) (z g base : Nat) (W : Int) (A : Option Addr) (n c : Nat) (B : Option Addr) (m d : Nat) (X Y : Int) (S : Option Addr) (k e : Nat) (L : Nat → Bool) (n' : Nat) (_ : Act) (u : World) : Prop :=
  Rdg R k0 w0 n' u ∧ SH u g 29 W A n c B m d X Y S k e ∧ (wa.heap.size ≤ u.heap.size ∧ ∀ i, base ≤ i → i < wa.heap.size → u.heap[i]? = wa.heap[i]?) ∧ (L 4 = false → SH u z 29 0 none 0 0 none 0 0 0 0 none 0 0) ∧ (L 4 = true → SH u z 29 W A n c B m d X Y S k e)
theorem DCt.step {R : Nat} {k0 : Int} {w0 wa u u' : World} {z g base : Nat} {W : Int} {A : Option Addr} {n c : Nat} {B : Option Addr} {m d : Nat} {X Y : Int} {S : Option Addr} {k e : Nat} {L : Nat → Bool} {n' i : Nat} {a : Act} (h : DCt R k0 w0 wa z g base W A n c B m d X Y S k e L n' a u) (hi : i ≠ 4) (h1 : Rdg R k0 w0 (n' + 1) u')
    (hO : Only R u u') (hz : z ≠ R) (hg : g ≠ R) (hR : R < base) (a' : Act) : DCt R k0 w0 wa z g base W A n c B m d X Y S k e (updL L i) (n' + 1) a' u' := by
  obtain ⟨q1, g1, ⟨g0, g2⟩, g4, g5⟩ := h
  refine ⟨h1, SH.only hO g1 hg, ⟨Nat.le_trans g0 hO.size, fun j h1 h2 => (hO.block j (by omega) (by intro e; injection e; omega)).trans (g2 j h1 h2)⟩, fun e => SH.only hO (g4 (by rwa [updL_ne (Ne.symm hi)] at e)) hz, fun e => SH.only hO (g5 (by rwa [updL_ne (Ne.symm hi)] at e)) hz⟩
def kIn' (p : Int → Prop) (v : Value) : Prop := ∃ x : Int, p x ∧ v = .int .i64 x

set_option maxRecDepth 100000 in
set_option maxHeartbeats 2000000 in
theorem drawSceneLine_c (a : Option Addr) (len cap : Nat) (w : World) (hcode : Code w a len) (hl : len ≤ cap) : Calls Try.prog 9 #[.slice a len cap] w (DC1 w) := by
  go_enter Try.func9, Try.ntmps9
  have hZ0 := SH.new w 29 0 none 0 0 none 0 0 0 0 none 0 0
  go_wp2_with fail
  refine (open_c _ _ _ _ (hcode.keep (by (repeat (first | with_reducible exact Below.refl _ _ | ((with_reducible refine viaO (by assumption) ?_ ?_ ?_) <;> try ((try simp only [World.size_alloc, World.size_setCell, World.size_drew]) <;> omega)) | ((with_reducible refine Below.alloc ?_ ?_ _) <;> try ((try simp only [World.size_alloc, World.size_setCell, World.size_drew]) <;> omega)) | ((with_reducible refine Below.setCell ?_ ?_ _) <;> try ((try simp only [World.size_alloc, World.size_setCell, World.size_drew]) <;> omega)) | (with_reducible refine below_drewN ?_ _) | (with_reducible refine Below.drew ?_) | ((with_reducible refine via (by assumption) ?_ ?_) <;> try ((try simp only [World.size_alloc, World.size_setCell, World.size_drew]) <;> omega)))))) (by assumption)).mono ?_
  rintro e w1 ⟨R, rfl, hR0, hO_w1, hR_w1⟩
  have hz_w1 := hO_w1.size
  (try simp only [World.size_alloc, World.size_setCell, World.size_drew] at hz_w1)
  (try simp only [World.size_alloc, World.size_setCell, World.size_drew] at hR0)
  have hlt_w1 := hR_w1.lt
  have hZ1 := SH.below hO_w1 hZ0 (by simp)
  have hb1 : Below w.heap.size w w1 := by
    (repeat (first | with_reducible exact Below.refl _ _ | ((with_reducible refine viaO (by assumption) ?_ ?_ ?_) <;> try ((try simp only [World.size_alloc, World.size_setCell, World.size_drew]) <;> omega)) | ((with_reducible refine Below.alloc ?_ ?_ _) <;> try ((try simp only [World.size_alloc, World.size_setCell, World.size_drew]) <;> omega)) | ((with_reducible refine Below.setCell ?_ ?_ _) <;> try ((try simp only [World.size_alloc, World.size_setCell, World.size_drew]) <;> omega)) | (with_reducible refine below_drewN ?_ _) | (with_reducible refine Below.drew ?_) | ((with_reducible refine via (by assumption) ?_ ?_) <;> try ((try simp only [World.size_alloc, World.size_setCell, World.size_drew]) <;> omega))))
  clear hZ0 hO_w1
  go_wp2_with fail
  refine (l20Scene_c _ _ _ _ hR_w1 (by omega) (by omega) (by omega)).mono ?_
  rintro e w2 ⟨W, A, n, c, B, m, d, X, Y, S, k, f, p, q, s, rfl, hA, hB, hS, ⟨g1, g2, g3, g4, g5, g6⟩, hO2, hR2⟩
  have hz2 := hO2.size
  have hlt1 : w.heap.size < w1.heap.size := by omega
  have HA := Lib.hid (hA.alloc (.cells #[.int .i64 W, .slice A n c, .slice B m d, .int .i64 X, .int .i64 Y, .slice S k f] 29))
  have HB := Lib.hid (hB.alloc (.cells #[.int .i64 W, .slice A n c, .slice B m d, .int .i64 X, .int .i64 Y, .slice S k f] 29))
  have HS := Lib.hid (hS.alloc (.cells #[.int .i64 W, .slice A n c, .slice B m d, .int .i64 X, .int .i64 Y, .slice S k f] 29))
  have hR3 := hR2.alloc (.cells #[.int .i64 W, .slice A n c, .slice B m d, .int .i64 X, .int .i64 Y, .slice S k f] 29)
  have hZ3 := (SH.only hO2 hZ1 (by omega)).alloc (.cells #[.int .i64 W, .slice A n c, .slice B m d, .int .i64 X, .int .i64 Y, .slice S k f] 29)
  have hF3 := SH.new w2 29 W A n c B m d X Y S k f
  have hb2 : Below w.heap.size w w2 := viaO hO2 hb1 (by omega) (by omega)
  have hb3 := hb2.alloc (by omega) (.cells #[.int .i64 W, .slice A n c, .slice B m d, .int .i64 X, .int .i64 Y, .slice S k f] 29)
  have hR1lt := hR_w1.lt
  clear hA hB hS hR2 hb2 hO2 hZ1
  go_upto_region 3 with fail
  have hOW : Only R w _ := Only.of_below hb3
  generalize (w2.alloc (.cells #[.int .i64 W, .slice A n c, .slice B m d, .int .i64 X, .int .i64 Y, .slice S k f] 29)) = wa at *
  have hzw := hOW.size
  refine wp_region_typed2 (by kernel_rfl) (by kernel_rfl) (DCt R 14000 w wa w.heap.size w2.heap.size w1.heap.size W A n c B m d X Y S k f) (fun _ _ => True)
    (fun j v u => match j with
      | 0 => kIs (scV W A n c B m d X Y S k f) v
      | 1 => kIs (.pointer (some ⟨R, 0, none⟩)) v
      | 2 => kNat 18 v
      | 3 | 5 => kIn' (fun x => -1 ≤ x ∧ x ≤ 17) v
      | _ => True) ?_ ?_ ?_ ?_
  · intro j v u u' h e
    split at h <;> exact h
  · exact ⟨⟨hOW.drew, (show Rd wa.drew R _ from hR3).more (by omega)⟩, hF3, ⟨Nat.le_refl _, fun _ _ _ => rfl⟩, fun _ => hZ3, fun h => by cases h⟩
  · intro L i o n' a u ho hn' hLi hcl hC hD hU
    have hCC := Lib.hid hC
    obtain ⟨hC1, hBu, hKu, hZ0, hZ1⟩ := hC
    have hsz := hC1.1.size
    have hC2 := hC1.2
    have hnx0 : i ≠ 4 → ∀ a', DCt R 14000 w wa w.heap.size w2.heap.size w1.heap.size W A n c B m d X Y S k f (updL L i) (n' + 1) a' u := fun hi => DCt.step hCC.out hi hC1.next (Only.refl _ _) (by omega) (by omega) (by omega)
    have hon0 : i ≠ 4 → ∀ u', Only R u u' → Rd u' R (14000 + n' + 1) → ∀ a', DCt R 14000 w wa w.heap.size w2.heap.size w1.heap.size W A n c B m d X Y S k f (updL L i) (n' + 1) a' u' := fun hi u' hO hR' => DCt.step hCC.out hi (hC1.only hO hR') hO (by omega) (by omega) (by omega)
    have han0 : True := trivial
    have hrf := True.intro
    have hex : ∀ u', Only R u u' → True := fun _ _ => trivial
    have hi : i < 6 := (Array.getElem?_eq_some_iff.1 ho).1
    replace hn' : n' < 6 := hn'
    obtain rfl | rfl | rfl | rfl | rfl | rfl : i = 0 ∨ i = 1 ∨ i = 2 ∨ i = 3 ∨ i = 4 ∨ i = 5 := by omega
    all_goals (simp only [List.getElem?_toArray, List.getElem?_cons_zero, List.getElem?_cons_succ, Option.some.injEq] at ho; subst ho)
    all_goals clear hi hcl
    all_goals (try (have hnx := hnx0 (by decide); have hon := hon0 (by decide)))
    · obtain ⟨c0, c1, c2, c3, c4, c5⟩ := hBu.sb.cells
      have u6 := hU 5 (not_written (by kernel_rfl))
      simp at u6
      clear hU hD
      go_simp
      exact Typed2.mk _ rfl (hnx _) hrf rfl
    · have u0 := hU 4 (not_written (by kernel_rfl))
      simp at u0
      clear hU hD
      go_simp
      exact Typed2.mk _ rfl (hnx _) hrf rfl
    · have e0 := hD ⟨1, Ground.data⟩ (by simp) rfl _ 11 rfl rfl
      simp [kIs] at e0
      clear hU hD
      go_simp
      refine (pick_c R 18 _ u hC2 (by omega) (by omega) (by omega)).mono ?_
      rintro e w' ⟨m, hm, rfl, hO, hR'⟩
      exact Typed2.mk _ rfl (hon _ hO hR' _) (hex _ hO) ⟨m, hm, rfl⟩
    · obtain ⟨x, hx, e0⟩ := hD ⟨2, Ground.data⟩ (by simp) rfl _ 12 rfl rfl
      simp at e0
      have hx1 : x < 18 := by omega
      have ew : IntKind.i64.wrap ((x : Int) - 1) = (x : Int) - 1 := IntWalk.i64_in _ (by omega)
      clear hU hD hx
      go_simp
      exact Typed2.mk _ rfl (hnx _) hrf ⟨_, ⟨by omega, by omega⟩, rfl⟩
    · have e10 := hD ⟨0, Ground.data⟩ (by simp) rfl _ 10 rfl rfl
      simp [kIs] at e10
      have u2 := hU 2 (not_written (by kernel_rfl))
      simp at u2
      have hz := hZ0 hLi
      obtain ⟨d0, d1, d2, d3, d4, d5⟩ := hz.sb.cells
      obtain ⟨x0, x1, x2, x3, x4, x5⟩ := hz.free
      have HPUT := Lib.hid (hz.put W A n c B m d X Y S k f)
      have HRD := Lib.hid (fun u' hk => (hC2.more (show 14000 + (n' : Int) ≤ 14000 + ((n' + 1 : Nat) : Int) by omega)).offSH (w' := u') hz (by omega) hk)
      have HBU := Lib.hid hBu
      obtain ⟨hKs, hKu⟩ := hKu
      have HKU := Lib.hid hKu
      clear hU hD hBu hKu hz
      go_simp
      refine Typed2.mk undef rfl ⟨⟨?_, HRD.out _ fun i hi => ?_⟩, ?_, ⟨by simp; omega, fun i h1 h2 => ?_⟩, fun e => ?_, fun _ => HPUT.out⟩ trivial trivial
      · exact (((((hC1.1.setCell (.inr (by simp)) _).setCell (.inr (by simp)) _).setCell (.inr (by simp)) _).setCell (.inr (by simp)) _).setCell (.inr (by simp)) _).setCell (.inr (by simp)) _
      · exact (Below.heap_setCell _ _ _ i hi).trans ((Below.heap_setCell _ _ _ i hi).trans ((Below.heap_setCell _ _ _ i hi).trans ((Below.heap_setCell _ _ _ i hi).trans ((Below.heap_setCell _ _ _ i hi).trans (Below.heap_setCell _ _ _ i hi)))))
      · exact (((((HBU.out.far (by simp; omega) _).far (by simp; omega) _).far (by simp; omega) _).far (by simp; omega) _).far (by simp; omega) _).far (by simp; omega) _
      · have hi : i ≠ w.heap.size := by omega
        exact (Below.heap_setCell _ _ _ i hi).trans ((Below.heap_setCell _ _ _ i hi).trans ((Below.heap_setCell _ _ _ i hi).trans ((Below.heap_setCell _ _ _ i hi).trans ((Below.heap_setCell _ _ _ i hi).trans ((Below.heap_setCell _ _ _ i hi).trans (HKU.out i h1 h2))))))
      · rw [updL_eq] at e; cases e
    · obtain ⟨x, hx, e0⟩ := hD ⟨3, Ground.data⟩ (by simp) rfl _ 13 rfl rfl
      simp at e0
      clear hU hD
      go_simp
      exact Typed2.mk _ rfl (hnx _) hrf ⟨x, hx, rfl⟩
  · intro L a u hLL hC hL hN hU hs hd
    obtain ⟨y, hy, e3⟩ := hL 5 _ 3 rfl rfl
    have e3' : a.tmps[3]?.getD undef = .int .i64 y := by simpa using e3
    obtain ⟨hC1, hBu, hKu, _, hZ1⟩ := hC
    have hZu := hZ1 (hLL 4 (by decide))
    clear e3
    have ht := tmps_ds [10, 11, 12, 13, 3] rfl hs hU
    simp [List.range, List.range.loop] at ht
    rw [e3'] at ht
    (try generalize a.tmps[10]?.getD undef = x10 at ht)
    (try generalize a.tmps[11]?.getD undef = x11 at ht)
    (try generalize a.tmps[12]?.getD undef = x12 at ht)
    (try generalize a.tmps[13]?.getD undef = x13 at ht)
    (try generalize a.tmps[3]?.getD undef = x3 at ht)
    obtain ⟨tm, df⟩ := a
    simp only at ht hd
    subst ht hd
    clear hL hN hU hs
    obtain ⟨c0, c1, c2, c3, c4, c5⟩ := hZu.sb.cells
    have hOu := hC1.1
    obtain ⟨hzu, hKu⟩ := hKu
    have HK := Lib.hid hKu
    clear hC1 hZ1 hBu hZu hKu
    go_wp2
    exact bodyPost_ret (v := .tuple #[scV W A n c B m d X Y S k f, .int .i64 y]) (by simp [results, Try.results9, go_sem, *]) rfl ⟨W, A, n, c, B, m, d, X, Y, S, k, f, y, rfl, hy, ⟨p, q, s, (HA.out.keep hzu HK.out).rs, (HB.out.keep hzu HK.out).rs, (HS.out.keep hzu HK.out).rs, g1, g2, g3, g4, g5, g6⟩, hOu.below (by omega) (Nat.le_refl _)⟩

end Go.Proofs.Ytabioinmpjfflaa
