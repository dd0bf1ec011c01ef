/-
  What the drawn scenes are, as the laws get them. No conditions.
-/
import Derived.Test.YtabioinmpjfflaaSceneRT
import Derived.Test.YtabioinmpjfflaaFieldDraw
import Derived.Test.YtabioinmpjfflaaFieldDraw3
import Derived.Test.YtabioinmpjfflaaSprDraw
import Derived.Test.YtabioinmpjfflaaXYDraw
namespace Go.Proofs.Ytabioinmpjfflaa
set_option linter.all false
set_option linter.unusedSimpArgs false
set_option linter.unusedVariables false
set_option maxRecDepth 20000
open Go.ChangeShapes Go.WideShapes Go.ChangeAt Go.RowKit

section
variable {w w' : World} {base sz n : Nat} {A : Option Addr} {c : Nat → Value}
theorem IS.rt (h : IS w base sz A n) : ∃ p : Nat → Int, RT w base sz A n (iv p) := by
  rcases h with h | ⟨b, off, e, N, rfl, h0, hI, hle⟩
  · exact ⟨fun _ => 0, .inl h⟩
  · obtain ⟨p, hp⟩ := hI.content
    exact ⟨fun j => p (off + j), .inr ⟨b, off, rfl, h0, hI.lt, fun j hj => hp _ (by omega)⟩⟩
theorem IS.rtT (h : IS w base 64 A n) : ∃ q : Nat → Nat → Int, RT w base 64 A n (tc q) := by
  obtain ⟨p, hp⟩ := h.rt
  refine ⟨fun i j => p (i * 64 + j), ?_⟩
  rcases hp with hp | ⟨b, off, e, h1, h2, h3⟩
  · exact .inl hp
  · refine .inr ⟨b, off, e, h1, h2, fun j hj => ?_⟩
    rw [h3 j hj]
    show some (Value.int .i64 (p j)) = some (Value.int .i64 (p (j / 64 * 64 + j % 64)))
    rw [show j / 64 * 64 + j % 64 = j by omega]
end
/-- The result of l20Scene. -/
def DScene (R : Nat) (k0 : Int) (w : World) (e : Ending) (w' : World) : Prop := ∃ (W : Int) (A : Option Addr) (n c : Nat) (B : Option Addr) (m d : Nat) (X Y : Int) (S : Option Addr) (k f : Nat) (p : Nat → Int) (q : Nat → Nat → Int) (s : Nat → Spr),
  e = .returned (scV W A n c B m d X Y S k f) ∧ RT w' w.heap.size 1 A n (iv p) ∧ RT w' w.heap.size 64 B m (tc q) ∧ RT w' w.heap.size 6 S k (sc s) ∧ (n ≤ c ∧ m ≤ d ∧ k ≤ f ∧ n ≤ 100 ∧ m ≤ 100 ∧ k ≤ 24) ∧ Only R w w' ∧ Rd w' R (k0 + 13000)

set_option maxRecDepth 100000 in
set_option maxHeartbeats 2000000 in
theorem l20Scene_c (R : Nat) (bad k0 : Int) (w : World) (hR : Rd w R k0) (hk : k0 ≤ 400000) (hb : bad ≤ 1000000) (hb0 : -1000000 ≤ bad) :
    Calls Try.prog 31 #[.pointer (some ⟨R, 0, none⟩), .int .i64 bad] w (DScene R k0 w) := by
  have hlt := hR.lt
  go_enter Try.func31, Try.ntmps31
  have hZ0 := SH.new w 29 0 none 0 0 none 0 0 0 0 none 0 0
  have hR0 := hR.alloc (.cells #[.int .i64 0, .slice none 0 0, .slice none 0 0, .int .i64 0, .int .i64 0, .slice none 0 0] 29)
  have hO0 : Only R w _ := (Only.refl R w).alloc (.cells #[.int .i64 0, .slice none 0 0, .slice none 0 0, .int .i64 0, .int .i64 0, .slice none 0 0] 29)
  go_wp2_with fail
  refine (l20Field_c _ _ _ _ hR0 (by omega) (by omega) (by omega)).mono ?_
  rintro e w2 ⟨W, A, n, c, B, m, d, X, Y, rfl, hA, hB, hn, hm, hn', hm', hO2, hR2⟩
  have hz2 := hO2.size
  simp only [World.size_alloc] at hz2
  obtain ⟨p, hA2⟩ := hA.rt
  obtain ⟨q, hB2⟩ := hB.rtT
  simp only [World.size_alloc] at hA2 hB2
  have hZ2 := SH.only hO2 hZ0 (by omega)
  have hR3 := hR2.alloc (.cells #[.int .i64 W, .slice A n c, .slice B m d, .int .i64 X, .int .i64 Y, .slice none 0 0] 29)
  have hZ3 := hZ2.alloc (.cells #[.int .i64 W, .slice A n c, .slice B m d, .int .i64 X, .int .i64 Y, .slice none 0 0] 29)
  have hF3 := SH.new w2 29 W A n c B m d X Y none 0 0
  have hO3 := (hO0.trans hO2).alloc (.cells #[.int .i64 W, .slice A n c, .slice B m d, .int .i64 X, .int .i64 Y, .slice none 0 0] 29)
  have hR2lt := hR2.lt
  have HA2 := Lib.hid hA2
  have HB2 := Lib.hid hB2
  clear hA hB hA2 hB2 hR2 hZ2 hO2 hZ0 hO0 hR0
  go_wp2_with fail
  refine (l20Sprites_c _ _ _ _ _ hR3 (by omega) (by omega) (by omega) (by omega)).mono ?_
  rintro e w4 ⟨S, k, f, s, rfl, hk24, -, hS, hO4, hR4⟩
  have hz4 := hO4.size
  simp only [World.size_alloc] at hz4
  have hS4 := own_rt hS
  have hkf := own_cap hS
  simp only [World.size_alloc] at hS4
  have hk4 : ∀ i, w.heap.size + 1 ≤ i → i < w2.heap.size → w4.heap[i]? = w2.heap[i]? := fun i h1 h2 => (hO4.block i (by simp; omega) (by intro e; injection e; omega)).trans (Below.heap_alloc w2 _ i h2)
  have HK4 := Lib.hid hk4
  have HO5 := Lib.hid (hO3.trans hO4)
  have hZ4 := SH.only hO4 hZ3 (by omega)
  have hF4 := SH.only hO4 hF3 (by omega)
  have HS4 := Lib.hid hS4
  have HR4 := Lib.hid hR4
  clear hZ3 hF3 hO3 hO4 hS hR3 hk4 hS4 hR4
  obtain ⟨c0, c1, c2, c3, c4, c5⟩ := hF4.sb.cells
  obtain ⟨x0, x1, x2, x3, x4, x5⟩ := hF4.free
  obtain ⟨d0, d1, d2, d3, d4, d5⟩ := hZ4.sb.cells
  obtain ⟨y0, y1, y2, y3, y4, y5⟩ := hZ4.free
  clear hF4
  have hkE : ∀ u : World, u = (((((((w4.setCell ⟨w2.heap.size, 5, none⟩ (.slice S k f)).setCell ⟨w.heap.size, 0, none⟩ (.int .i64 W)).setCell ⟨w.heap.size, 1, none⟩ (.slice A n c)).setCell ⟨w.heap.size, 2, none⟩ (.slice B m d)).setCell ⟨w.heap.size, 3, none⟩ (.int .i64 X)).setCell ⟨w.heap.size, 4, none⟩ (.int .i64 Y)).setCell ⟨w.heap.size, 5, none⟩ (.slice S k f)) →
      DScene R k0 w (.returned (scV W A n c B m d X Y S k f)) u := fun u hu => by
    have hk : ∀ i, w.heap.size + 1 ≤ i → i < w2.heap.size → u.heap[i]? = w2.heap[i]? := fun i h1 h2 => by
      rw [hu]
      exact (Below.heap_setCell _ _ _ i (by simp; omega)).trans ((Below.heap_setCell _ _ _ i (by simp; omega)).trans ((Below.heap_setCell _ _ _ i (by simp; omega)).trans ((Below.heap_setCell _ _ _ i (by simp; omega)).trans ((Below.heap_setCell _ _ _ i (by simp; omega)).trans ((Below.heap_setCell _ _ _ i (by simp; omega)).trans ((Below.heap_setCell _ _ _ i (by simp; omega)).trans (HK4.out i h1 h2)))))))
    have hsz : w2.heap.size ≤ u.heap.size := by rw [hu]; simp; omega
    refine ⟨W, A, n, c, B, m, d, X, Y, S, k, f, p, q, s, rfl, (HA2.out.keep hsz hk).lower (by omega), (HB2.out.keep hsz hk).lower (by omega), ?_, ⟨hn, hm, hkf, hn', hm', hk24⟩, ?_, ?_⟩
    · rw [hu]
      exact (((((((HS4.out.far (by simp) _).far (by simp; omega) _).far (by simp; omega) _).far (by simp; omega) _).far (by simp; omega) _).far (by simp; omega) _).far (by simp; omega) _).lower (by omega)
    · rw [hu]
      exact ((((((HO5.out.setCell (.inr (by simp; omega)) _).setCell (.inr (by simp)) _).setCell (.inr (by simp)) _).setCell (.inr (by simp)) _).setCell (.inr (by simp)) _).setCell (.inr (by simp)) _).setCell (.inr (by simp)) _
    · rw [hu]
      exact Rd.setCell (Rd.setCell (Rd.setCell (Rd.setCell (Rd.setCell (Rd.setCell (Rd.setCell (HR4.out.more (by omega)) (by simp; omega) _) (by simp; omega) _) (by simp; omega) _) (by simp; omega) _) (by simp; omega) _) (by simp; omega) _) (by simp; omega) _
  have HE := Lib.hid hkE
  clear hkE
  go_wp2
  exact bodyPost_ret (v := scV W A n c B m d X Y S k f) (by simp [results, Try.results31, go_sem, *]) rfl (HE.out _ rfl)

end Go.Proofs.Ytabioinmpjfflaa
