/-
  The contract of l12Pixel: a pixel of a valid scene, in the reference. Conditions: a valid scene.
-/
import Derived.Test.YtabioinmpjfflaaSceneLine
import Derived.Test.YtabioinmpjfflaaSprLaw
namespace Go.Proofs.Ytabioinmpjfflaa
set_option linter.all false
set_option linter.unusedSimpArgs false
set_option linter.unusedVariables false
set_option maxRecDepth 20000
open Go.ChangeShapes Go.WideShapes Go.ChangeAt Go.RowKit

set_option maxRecDepth 100000 in
set_option maxHeartbeats 2000000 in
theorem slp_c (W n m : Nat) (A : Option Addr) (c : Nat) (B : Option Addr) (d : Nat) (X Y : Nat) (S : Option Addr) (k e : Nat) (p : Nat → Int) (q : Nat → Nat → Int) (s : Nat → Spr) (L : List Nat) (D : Option Addr) (e2 : Nat) (x y : Nat) (w : World) {C C' C2 C3 : Nat} (hok : FOK W n m p) (hsv : svd k m s q = true)
    (h : RS w C 1 A n (iv p)) (h' : RS w C' 64 B m (tc q)) (h2 : RS w C2 6 S k (sc s)) (h3 : RS w C3 1 D L.length (lc L)) (hC : C ≤ w.heap.size) (hC' : C' ≤ w.heap.size) (hC2 : C2 ≤ w.heap.size) (hC3 : C3 ≤ w.heap.size) (hX : X ≤ 255) (hY : Y ≤ 255) (hx : x ≤ 31) (hy : y ≤ 15)
    (hL : ∀ i, i ∈ L → i < k ∧ sok m (s i) = true) (hl : L.length ≤ 4) :
    Calls Try.prog 41 #[scV W A n c B m d X Y S k e, .slice D L.length e2, .int .i64 x, .int .i64 y] w fun e w' => e = .returned (.int .i64 (scq (fpx W n X Y p q x y) s (fat s q x y L))) ∧ Below w.heap.size w w' := by
  obtain ⟨p1, p2, p3, p4⟩ := svd_parts hsv
  have HSP := Lib.hid (fun i (hi : i < k) => spxB (x := (x : Int)) (y := (y : Int)) hsv hi)
  have H := Lib.hid h
  have H' := Lib.hid h'
  have H2 := Lib.hid h2
  have H3 := Lib.hid h3
  have HOK := Lib.hid hok
  have HL := Lib.hid hL
  obtain ⟨b, hbv⟩ : ∃ b, fpx W n X Y p q x y = b := ⟨_, rfl⟩
  have HPX := Lib.hid (fun w h1 h2 h3 h4 => by have := spx_c W n m A c B d X Y x y p q w (C := C) (C' := C') hok h1 h2 h3 h4 hX hY hx hy; rw [hbv] at this; exact this)
  rw [hbv]
  obtain ⟨r, hr⟩ : ∃ r, scq b s (fat s q (x : Int) (y : Int) L) = r := ⟨_, rfl⟩
  rw [hr]
  have HR := Lib.hid hr
  clear h h' h2 h3 hok hsv p4 p3 hL hbv hr
  go_enter Try.func41, Try.ntmps41
  go_wp2_with fail
  refine (HPX.out _ (RS.alloc H.out hC _) (RS.alloc H'.out hC' _) (by ((try simp only [World.size_alloc, World.size_setCell, World.size_drew]) <;> omega)) (by ((try simp only [World.size_alloc, World.size_setCell, World.size_drew]) <;> omega))).mono ?_
  rintro e w1 ⟨rfl, hO_w1⟩
  have hz_w1 := hO_w1.size
  (try simp only [World.size_alloc, World.size_setCell, World.size_drew] at hz_w1)
  have hs_w1_0 : w.heap.size < w1.heap.size := (by omega)
  have c_w1_0 := fun o => (bcell hO_w1).1 (w.heap.size) o (by (try simp only [World.size_alloc, World.size_setCell, World.size_drew]) <;> omega)
  have f_w1_0 := fun o => (bcell hO_w1).2 (w.heap.size) o (by (try simp only [World.size_alloc, World.size_setCell, World.size_drew]) <;> omega)
  have HB1 := Lib.hid (RS.below hO_w1 (RS.alloc H'.out hC' (.cells #[.int .i64 W, .slice A n c, .slice B m d, .int .i64 X, .int .i64 Y, .slice S k e] 29)) (by ((try simp only [World.size_alloc, World.size_setCell, World.size_drew]) <;> omega)))
  have HS1 := Lib.hid (RS.below hO_w1 (RS.alloc H2.out hC2 (.cells #[.int .i64 W, .slice A n c, .slice B m d, .int .i64 X, .int .i64 Y, .slice S k e] 29)) (by ((try simp only [World.size_alloc, World.size_setCell, World.size_drew]) <;> omega)))
  have HD1 := Lib.hid (RS.below hO_w1 (RS.alloc H3.out hC3 (.cells #[.int .i64 W, .slice A n c, .slice B m d, .int .i64 X, .int .i64 Y, .slice S k e] 29)) (by ((try simp only [World.size_alloc, World.size_setCell, World.size_drew]) <;> omega)))
  have b1 : Hid (Below w.heap.size w w1) := by
    refine Lib.hid ?_
    (repeat (first | with_reducible exact Below.refl _ _ | ((with_reducible refine viaO (by assumption) ?_ ?_ ?_) <;> try ((try simp only [World.size_alloc, World.size_setCell, World.size_drew]) <;> omega)) | ((with_reducible refine Below.alloc ?_ ?_ _) <;> try ((try simp only [World.size_alloc, World.size_setCell, World.size_drew]) <;> omega)) | ((with_reducible refine Below.setCell ?_ ?_ _) <;> try ((try simp only [World.size_alloc, World.size_setCell, World.size_drew]) <;> omega)) | (with_reducible refine below_drewN ?_ _) | (with_reducible refine Below.drew ?_) | ((with_reducible refine via (by assumption) ?_ ?_) <;> try ((try simp only [World.size_alloc, World.size_setCell, World.size_drew]) <;> omega))))
  rcases fat_cases s q (x : Int) (y : Int) L with hf | ⟨i, hi, hf, hz⟩
  · have HSA := Lib.hid (fun w h1 h2 h3 h4 h5 h6 => by have := ssa_c S k e B m d s q (x : Int) (y : Int) L D e2 w (C := C2) (C' := C') (C2 := C3) h1 h2 h3 h4 h5 h6 HL.out hl p1 (by omega) (by omega) (by omega) (by omega); rw [hf] at this; exact this)
    have hr := HR.out
    rw [hf, scq_no] at hr
    subst hr
    clear hf HR
    go_wp2_with fail
    refine (HSA.out _ HS1.out HB1.out HD1.out (by ((try simp only [World.size_alloc, World.size_setCell, World.size_drew]) <;> omega)) (by ((try simp only [World.size_alloc, World.size_setCell, World.size_drew]) <;> omega)) (by ((try simp only [World.size_alloc, World.size_setCell, World.size_drew]) <;> omega))).mono ?_
    rintro e w2 ⟨rfl, hO_w2⟩
    have hz_w2 := hO_w2.size
    (try simp only [World.size_alloc, World.size_setCell, World.size_drew] at hz_w2)
    have hs_w2_0 : w.heap.size < w2.heap.size := (by omega)
    have c_w2_0 := fun o => (bcell hO_w2).1 (w.heap.size) o (by (try simp only [World.size_alloc, World.size_setCell, World.size_drew]) <;> omega)
    have f_w2_0 := fun o => (bcell hO_w2).2 (w.heap.size) o (by (try simp only [World.size_alloc, World.size_setCell, World.size_drew]) <;> omega)
    go_wp2
    go_ret
    exact ⟨rfl, b1.out.trans (hO_w2.mono (by omega))⟩
  · obtain ⟨hik, hoki⟩ := HL.out i hi
    obtain ⟨v0, v3⟩ := HSP.out i hik
    obtain ⟨v, hv⟩ : ∃ v, spx (s i) q (x : Int) (y : Int) = v := ⟨_, rfl⟩
    have HVV := Lib.hid hv
    rw [hv] at hf v0 v3 hz
    have HSA := Lib.hid (fun w h1 h2 h3 h4 h5 h6 => by have := ssa_c S k e B m d s q (x : Int) (y : Int) L D e2 w (C := C2) (C' := C') (C2 := C3) h1 h2 h3 h4 h5 h6 HL.out hl p1 (by omega) (by omega) (by omega) (by omega); rw [hf] at this; exact this)
    have HR2 := Lib.hid HR.out
    rw [hf] at HR2
    clear hf hv HR
    go_wp2_with fail
    refine (HSA.out _ HS1.out HB1.out HD1.out (by ((try simp only [World.size_alloc, World.size_setCell, World.size_drew]) <;> omega)) (by ((try simp only [World.size_alloc, World.size_setCell, World.size_drew]) <;> omega)) (by ((try simp only [World.size_alloc, World.size_setCell, World.size_drew]) <;> omega))).mono ?_
    rintro e w2 ⟨rfl, hO_w2⟩
    have hz_w2 := hO_w2.size
    (try simp only [World.size_alloc, World.size_setCell, World.size_drew] at hz_w2)
    have hs_w2_0 : w.heap.size < w2.heap.size := (by omega)
    have c_w2_0 := fun o => (bcell hO_w2).1 (w.heap.size) o (by (try simp only [World.size_alloc, World.size_setCell, World.size_drew]) <;> omega)
    have f_w2_0 := fun o => (bcell hO_w2).2 (w.heap.size) o (by (try simp only [World.size_alloc, World.size_setCell, World.size_drew]) <;> omega)
    have hB2 := RS.below hO_w2 HB1.out (by omega)
    obtain ⟨bS, oS, rfl, hbS, s0, s1, s2, s3, s4, s5⟩ := (RS.below hO_w2 HS1.out (by omega)).spr hik
    have HB2 := Lib.hid hB2
    have i0 : ¬ (i : Int) < 0 := by omega
    have i1 : (i : Int) < (k : Int) := by omega
    have ev : IntKind.i64.wrap (4 + v) = 4 + v := IntWalk.i64_in _ (by omega)
    have b2 : Hid (Below w.heap.size w w2) := Lib.hid (b1.out.trans (hO_w2.mono (by omega)))
    have HCALL := Lib.hid (fun u (hu : Below w2.heap.size w2 u) => by have := ssp_c (s i) B m d q (x : Int) (y : Int) u (C := C') hoki (RS.below hu HB2.out (by omega)) (by have := hu.size; omega) (by omega) (by omega) (by omega) (by omega); rw [HVV.out] at this; exact this)
    obtain ⟨si, hsi⟩ : ∃ si, s i = si := ⟨_, rfl⟩
    rw [hsi] at HCALL s0 s1 s2 s3 s4 s5
    obtain ⟨sx, sy, nm, ac, dn, bh⟩ := si
    have HBH := Lib.hid (show (s i).bh = bh by rw [hsi])
    clear hsi hB2 hoki hi hz
    dsimp only at s0 s1 s2 s3 s4 s5
    have hbs2 : bS < w2.heap.size := by omega
    cases bh
    · have hres : scq b s ((i : Int), v) = 4 + v := scq_front (by rw [HBH.out]; rfl)
      have hr := HR2.out
      rw [hres] at hr
      subst hr
      clear hres HR2
      go_wp2
      refine wp_region_over (by kernel_rfl) (by kernel_rfl) ?_
      intro W5 hO_W5
      have hz_W5 := hO_W5.size
      (try simp only [World.size_alloc, World.size_setCell, World.size_drew] at hz_W5)
      have hs_W5_0 : w.heap.size < W5.heap.size := (by omega)
      have c_W5_0 := fun o => (bcell hO_W5).1 (w.heap.size) o (by (try simp only [World.size_alloc, World.size_setCell, World.size_drew]) <;> omega)
      have f_W5_0 := fun o => (bcell hO_W5).2 (w.heap.size) o (by (try simp only [World.size_alloc, World.size_setCell, World.size_drew]) <;> omega)
      have hs_W5_1 : bS < W5.heap.size := (by omega)
      have c_W5_1 := fun o => (bcell hO_W5).1 (bS) o (by (try simp only [World.size_alloc, World.size_setCell, World.size_drew]) <;> omega)
      have f_W5_1 := fun o => (bcell hO_W5).2 (bS) o (by (try simp only [World.size_alloc, World.size_setCell, World.size_drew]) <;> omega)
      have v_W5_0 := fun x o => over_cell W5 x (w.heap.size) o hs_W5_0
      have v_W5_1 := fun x o => over_cell W5 x (bS) o hs_W5_1
      repeat (go_big_quiet_step ((go_at_call 55; refine Calls.over_of (HCALL.out _ (hO_W5.trans ((over_below W5 _).mono (by omega)))))))
      refine wpQuiet_nil ?_
      intro W6 hx_W6
      obtain ⟨x_W6, hx_W6⟩ := hx_W6
      have hO_W6 : Below W5.heap.size W5 W6 := hx_W6 ▸ over_below W5 x_W6
      clear hx_W6
      have hz_W6 := hO_W6.size
      have hs_W6_0 : w.heap.size < W6.heap.size := (by omega)
      have c_W6_0 := fun o => (bcell hO_W6).1 (w.heap.size) o (by (try simp only [World.size_alloc, World.size_setCell, World.size_drew]) <;> omega)
      have f_W6_0 := fun o => (bcell hO_W6).2 (w.heap.size) o (by (try simp only [World.size_alloc, World.size_setCell, World.size_drew]) <;> omega)
      have hs_W6_1 : bS < W6.heap.size := (by omega)
      have c_W6_1 := fun o => (bcell hO_W6).1 (bS) o (by (try simp only [World.size_alloc, World.size_setCell, World.size_drew]) <;> omega)
      have f_W6_1 := fun o => (bcell hO_W6).2 (bS) o (by (try simp only [World.size_alloc, World.size_setCell, World.size_drew]) <;> omega)
      go_wp2
      go_ret
      exact ⟨rfl, b2.out.trans ((hO_W5.mono (by omega)).trans (hO_W6.mono (by omega)))⟩
    · by_cases hb0 : b = 0
      · have hres : scq b s ((i : Int), v) = 4 + v := scq_front (by rw [HBH.out, hb0]; rfl)
        have hr := HR2.out
        rw [hres] at hr
        subst hr
        have hbb : (b != 0) = false := by rw [hb0]; rfl
        clear hres hb0 HR2
        go_wp2
        refine wp_region_over (by kernel_rfl) (by kernel_rfl) ?_
        intro W5 hO_W5
        have hz_W5 := hO_W5.size
        (try simp only [World.size_alloc, World.size_setCell, World.size_drew] at hz_W5)
        have hs_W5_0 : w.heap.size < W5.heap.size := (by omega)
        have c_W5_0 := fun o => (bcell hO_W5).1 (w.heap.size) o (by (try simp only [World.size_alloc, World.size_setCell, World.size_drew]) <;> omega)
        have f_W5_0 := fun o => (bcell hO_W5).2 (w.heap.size) o (by (try simp only [World.size_alloc, World.size_setCell, World.size_drew]) <;> omega)
        have hs_W5_1 : bS < W5.heap.size := (by omega)
        have c_W5_1 := fun o => (bcell hO_W5).1 (bS) o (by (try simp only [World.size_alloc, World.size_setCell, World.size_drew]) <;> omega)
        have f_W5_1 := fun o => (bcell hO_W5).2 (bS) o (by (try simp only [World.size_alloc, World.size_setCell, World.size_drew]) <;> omega)
        have v_W5_0 := fun x o => over_cell W5 x (w.heap.size) o hs_W5_0
        have v_W5_1 := fun x o => over_cell W5 x (bS) o hs_W5_1
        repeat (go_big_quiet_step ((go_at_call 55; refine Calls.over_of (HCALL.out _ (hO_W5.trans ((over_below W5 _).mono (by omega)))))))
        refine wpQuiet_nil ?_
        intro W6 hx_W6
        obtain ⟨x_W6, hx_W6⟩ := hx_W6
        have hO_W6 : Below W5.heap.size W5 W6 := hx_W6 ▸ over_below W5 x_W6
        clear hx_W6
        have hz_W6 := hO_W6.size
        have hs_W6_0 : w.heap.size < W6.heap.size := (by omega)
        have c_W6_0 := fun o => (bcell hO_W6).1 (w.heap.size) o (by (try simp only [World.size_alloc, World.size_setCell, World.size_drew]) <;> omega)
        have f_W6_0 := fun o => (bcell hO_W6).2 (w.heap.size) o (by (try simp only [World.size_alloc, World.size_setCell, World.size_drew]) <;> omega)
        have hs_W6_1 : bS < W6.heap.size := (by omega)
        have c_W6_1 := fun o => (bcell hO_W6).1 (bS) o (by (try simp only [World.size_alloc, World.size_setCell, World.size_drew]) <;> omega)
        have f_W6_1 := fun o => (bcell hO_W6).2 (bS) o (by (try simp only [World.size_alloc, World.size_setCell, World.size_drew]) <;> omega)
        go_wp2
        go_ret
        exact ⟨rfl, b2.out.trans ((hO_W5.mono (by omega)).trans (hO_W6.mono (by omega)))⟩
      · have hres : scq b s ((i : Int), v) = b := scq_back (by rw [HBH.out]; simpa using hb0)
        have hr := HR2.out
        rw [hres] at hr
        subst hr
        have hbb : (b != 0) = true := by simpa using hb0
        clear hres hb0 HR2
        go_wp2
        go_ret
        exact ⟨rfl, b2.out⟩

end Go.Proofs.Ytabioinmpjfflaa
