/-
  The contracts of SpriteAt in the program and in the reference. Conditions: at most 1048576 sprites and tiles.
-/
import Derived.Test.YtabioinmpjfflaaSprTop
namespace Go.Proofs.Ytabioinmpjfflaa
set_option linter.all false
set_option linter.unusedSimpArgs false
set_option linter.unusedVariables false
set_option maxRecDepth 20000
open Go.ChangeShapes Go.WideShapes Go.ChangeAt Go.RowKit

theorem fat_cases (s : Nat → Spr) (q : Nat → Nat → Int) (x y : Int) : ∀ L : List Nat, fat s q x y L = (-1, 0) ∨ ∃ i, i ∈ L ∧ fat s q x y L = ((i : Int), spx (s i) q x y) ∧ spx (s i) q x y ≠ 0
  | [] => .inl rfl
  | i :: L => by
    by_cases h : spx (s i) q x y = 0
    · have e : fat s q x y (i :: L) = fat s q x y L := if_pos h
      rw [e]
      rcases fat_cases s q x y L with h1 | ⟨j, hj, h1, h2⟩
      · exact .inl h1
      · exact .inr ⟨j, .tail _ hj, h1, h2⟩
    · have e : fat s q x y (i :: L) = ((i : Int), spx (s i) q x y) := if_neg h
      exact .inr ⟨i, .head _, e, h⟩
/-- The values of SpriteAt. -/
def satV (n m : Nat) (s : Nat → Spr) (q : Nat → Nat → Int) (x y : Int) : Int × Int := if (svd n m s q && inB x 0 31 && inB y 0 15) = true then fat s q x y (shown n s y) else (-1, 0)
theorem satV_no {n m : Nat} {s : Nat → Spr} {q : Nat → Nat → Int} {x y : Int} (h : (svd n m s q && inB x 0 31 && inB y 0 15) = false) : satV n m s q x y = (-1, 0) := by
  unfold satV; rw [h]; rfl
theorem satV_yes {n m : Nat} {s : Nat → Spr} {q : Nat → Nat → Int} {x y : Int} (h : (svd n m s q && inB x 0 31 && inB y 0 15) = true) : satV n m s q x y = fat s q x y (shown n s y) := by
  unfold satV; rw [h]; rfl
theorem shown_ok {n m : Nat} {s : Nat → Spr} {y : Int} (h : ∀ i, i < n → sok m (s i) = true) : ∀ i, i ∈ shown n s y → i < n ∧ sok m (s i) = true := fun i hi => ⟨(shown_lt hi).1, h i (shown_lt hi).1⟩

set_option maxHeartbeats 1000000 in
theorem isat_c (A : Option Addr) (n c : Nat) (B : Option Addr) (m d : Nat) (s : Nat → Spr) (q : Nat → Nat → Int) (x y : Int) (w : World) {C C' : Nat} (h : RS w C 6 A n (sc s)) (h' : RS w C' 64 B m (tc q)) (hC : C ≤ w.heap.size) (hC' : C' ≤ w.heap.size) (hn : n ≤ 1048576) (hm : m ≤ 1048576) :
    Calls Try.prog 20 #[.slice A n c, .slice B m d, .int .i64 x, .int .i64 y] w fun e w' => e = .returned (.tuple #[.int .i64 (satV n m s q x y).1, .int .i64 (satV n m s q x y).2]) ∧ Below w.heap.size w w' := by
  have H := Lib.hid h
  have H' := Lib.hid h'
  clear h h'
  cases hv : svd n m s q
  · rw [satV_no (by rw [hv]; rfl)]
    have HV := Lib.hid hv
    clear hv
    go_enter Try.func20, Try.ntmps20
    go_wp2_with (first | (go_at_call 44; (refine (isv_c _ _ _ _ _ _ s q false HV.out _ H.out H'.out hC hC' hn hm).mono ?_; rintro e w1 ⟨rfl, hO_w1⟩; have hz_w1 := hO_w1.size; (try simp only [World.size_alloc, World.size_setCell, World.size_drew] at hz_w1))))
    exact bodyPost_ret (v := .tuple #[.int .i64 (-1), .int .i64 0]) (by simp [results, Try.results20, go_sem, *]) rfl ⟨rfl, hO_w1⟩
  · have HV := Lib.hid hv
    obtain ⟨p1, p2, p3, p4⟩ := svd_parts hv
    cases hx : inB x 0 31
    · rw [satV_no (by rw [hv, hx]; rfl)]
      have HX := Lib.hid hx
      clear hv hx p3 p4
      go_enter Try.func20, Try.ntmps20
      go_wp2_with (first | (go_at_call 44; (refine (isv_c _ _ _ _ _ _ s q true HV.out _ H.out H'.out hC hC' hn hm).mono ?_; rintro e w1 ⟨rfl, hO_w1⟩; have hz_w1 := hO_w1.size; (try simp only [World.size_alloc, World.size_setCell, World.size_drew] at hz_w1))) | (go_at_call 36; (with_reducible refine (within_c x 0 31 _ HX.out _).mono ?_); rintro e w' ⟨rfl, rfl⟩))
      exact bodyPost_ret (v := .tuple #[.int .i64 (-1), .int .i64 0]) (by simp [results, Try.results20, go_sem, *]) rfl ⟨rfl, hO_w1⟩
    · have HX := Lib.hid hx
      cases hy : inB y 0 15
      · rw [satV_no (by rw [hv, hx, hy]; rfl)]
        have HY := Lib.hid hy
        clear hv hx hy p3 p4
        go_enter Try.func20, Try.ntmps20
        go_wp2_with (first | (go_at_call 44; (refine (isv_c _ _ _ _ _ _ s q true HV.out _ H.out H'.out hC hC' hn hm).mono ?_; rintro e w1 ⟨rfl, hO_w1⟩; have hz_w1 := hO_w1.size; (try simp only [World.size_alloc, World.size_setCell, World.size_drew] at hz_w1))) | (go_at_call 36; (first | (with_reducible refine (within_c x 0 31 _ HX.out _).mono ?_) | (with_reducible refine (within_c y 0 15 _ HY.out _).mono ?_)); rintro e w' ⟨rfl, rfl⟩))
        exact bodyPost_ret (v := .tuple #[.int .i64 (-1), .int .i64 0]) (by simp [results, Try.results20, go_sem, *]) rfl ⟨rfl, hO_w1⟩
      · have HY := Lib.hid hy
        obtain ⟨y0, y1⟩ := inB_true.1 hy
        obtain ⟨x0, x1⟩ := inB_true.1 hx
        rw [satV_yes (by rw [hv, hx, hy]; rfl)]
        have HP := Lib.hid (fun i (hi : i < n) => (sok_parts (p4 i hi)).2.1)
        have HSH := Lib.hid (shown_ok (y := y) p4)
        have hle := shown_le n s y
        have HFC := Lib.hid (fat_cases s q x y (shown n s y))
        clear hv hx hy p3 p4
        obtain ⟨L, hL⟩ : ∃ L, shown n s y = L := ⟨_, rfl⟩
        have HON := Lib.hid (fun w2 h1 h2 => ion_c A n c s y w2 (C := C) h1 h2 p1 y0 y1 HP.out)
        rw [hL] at HSH hle HFC HON
        rw [hL]
        go_enter Try.func20, Try.ntmps20
        go_wp2_with (first | ((go_at_call 44; (refine (isv_c _ _ _ _ _ _ s q true HV.out _ H.out H'.out hC hC' hn hm).mono ?_; rintro e w1 ⟨rfl, hO_w1⟩; have hz_w1 := hO_w1.size; (try simp only [World.size_alloc, World.size_setCell, World.size_drew] at hz_w1))); have hA1 := RS.below hO_w1 H.out hC; have hB1 := RS.below hO_w1 H'.out hC') | (go_at_call 36; (first | (with_reducible refine (within_c x 0 31 _ HX.out _).mono ?_) | (with_reducible refine (within_c y 0 15 _ HY.out _).mono ?_)); rintro e w' ⟨rfl, rfl⟩) | (go_at_call 46; refine (HON.out _ hA1 (by ((try simp only [World.size_alloc, World.size_setCell, World.size_drew]) <;> omega))).mono ?_; rintro e w2 ⟨A2, cap2, rfl, hown, hO_w2⟩; have hz_w2 := hO_w2.size; have hA2 := RS.below hO_w2 hA1 (by omega); have hB2 := RS.below hO_w2 hB1 (by omega); have s2 := own_rs hown) | (go_at_call 45; refine (isa_c _ n _ _ m _ s q x y L _ _ _ hA2 hB2 s2 (by omega) (by omega) (by omega) HSH.out hle p1 x0 x1 y0 y1).mono ?_; rintro e w3 ⟨rfl, hO_w3⟩))
        first
          | exact bodyPost_ret (v := .tuple #[.int .i64 (fat s q x y L).1, .int .i64 (fat s q x y L).2]) (by simp [results, Try.results20, go_sem]) rfl ⟨rfl, hO_w1.trans ((hO_w2.mono hO_w1.size).trans (hO_w3.mono (by omega)))⟩
          | (refine (ssa_c _ n _ _ m _ s q x y L _ _ _ hA2 hB2 s2 (by omega) (by omega) (by omega) HSH.out hle p1 x0 x1 y0 y1).mono ?_
             rintro e w3 ⟨rfl, hO_w3⟩
             have hz_w3 := hO_w3.size
             rcases HFC.out with hf | ⟨i, hi, hf, hz⟩
             · rw [hf]
               have HFH := Lib.hid hf
               clear hf
               go_wp2
               exact bodyPost_ret (v := .tuple #[.int .i64 (-1), .int .i64 0]) (by simp [results, Try.results20, go_sem, *]) rfl ⟨by rw [HFH.out], hO_w1.trans ((hO_w2.mono hO_w1.size).trans (hO_w3.mono (by omega)))⟩
             · rw [hf]
               obtain ⟨hin, hok⟩ := HSH.out i hi
               have hA3 := RS.below hO_w3 hA2 (by omega)
               have hB3 := RS.below hO_w3 hB2 (by omega)
               obtain ⟨b, off, rfl, hbl, s0, s1, s2', s3, s4, s5⟩ := hA3.spr hin
               have i2 : (i : Int) < (n : Int) := by omega
               have i0 : ¬ (i : Int) < 0 := by omega
               obtain ⟨v, hvv⟩ : ∃ v, spx (s i) q x y = v := ⟨_, rfl⟩
               have HVV := Lib.hid hvv
               have HFH := Lib.hid hf
               rw [hvv]
               clear hf hz hvv hA2 hB2 hA3 hA1 hB1 s2 hown
               simp only
               go_wp2_with (go_at_call 55; (refine (ssp_c (s i) B m d q x y w3 (C := C') hok hB3 (by omega) x0 x1 y0 y1).mono ?_; rintro e w4 ⟨rfl, hO_w4⟩; rw [HVV.out]))
               exact bodyPost_ret (v := .tuple #[.int .i64 i, .int .i64 v]) (by simp [results, Try.results20, go_sem, *]) rfl ⟨by rw [HFH.out, HVV.out], hO_w1.trans ((hO_w2.mono hO_w1.size).trans ((hO_w3.mono (by omega)).trans (hO_w4.mono (by omega))))⟩)

end Go.Proofs.Ytabioinmpjfflaa
