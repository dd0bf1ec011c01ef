/-
  The contract of sceneLine: the pixels of a line of a valid scene. Conditions: a valid scene.
-/
import Derived.Test.YtabioinmpjfflaaSceneFC
import Derived.Test.YtabioinmpjfflaaOver
import Derived.Deep.RegionHeld3
namespace Go.Proofs.Ytabioinmpjfflaa
set_option linter.all false
set_option linter.unusedSimpArgs false
set_option linter.unusedVariables false
set_option maxRecDepth 20000
open Go.ChangeShapes Go.WideShapes Go.ChangeAt Go.RowKit

theorem spxB {n m : Nat} {s : Nat → Spr} {q : Nat → Nat → Int} {x y : Int} (h : svd n m s q = true) {i : Nat} (hi : i < n) : 0 ≤ spx (s i) q x y ∧ spx (s i) q x y ≤ 3 := by
  obtain ⟨p1, p2, p3, p4⟩ := svd_parts h
  obtain ⟨_, _, c0, c1⟩ := sok_parts (p4 i hi)
  cases hb : (inB (x - (s i).x) 0 7 && inB (y - (s i).y) 0 7)
  · rw [spx_no hb]; omega
  · unfold spx
    rw [hb, if_pos rfl]
    simp only [Bool.and_eq_true] at hb
    have h1 := inB_true.1 hb.1
    have h2 := inB_true.1 hb.2
    have h7 : ∀ (b : Bool) (c : Nat), c ≤ 7 → turn7 b c ≤ 7 := fun b c h => by unfold turn7; split <;> omega
    have g1 := h7 (s i).ac (x - (s i).x).toNat (by omega)
    have g2 := h7 (s i).dn (y - (s i).y).toNat (by omega)
    exact inB_true.1 (tvd_true.1 (tsv_true.1 p3 _ (by omega)) _ (by omega))
/-- What is shown where the background has b, and the sprites r. -/
def scq (b : Int) (s : Nat → Spr) (r : Int × Int) : Int := if r.1 < 0 then b else if ((s r.1.toNat).bh && b != 0) = true then b else 4 + r.2
theorem scq_no (b : Int) (s : Nat → Spr) : scq b s (-1, 0) = b := rfl
theorem scq_back {b : Int} {s : Nat → Spr} {i : Nat} {v : Int} (h : ((s i).bh && b != 0) = true) : scq b s ((i : Int), v) = b := by
  unfold scq
  simp only [Int.toNat_natCast]
  rw [if_neg (by omega), if_pos h]
theorem scq_front {b : Int} {s : Nat → Spr} {i : Nat} {v : Int} (h : ((s i).bh && b != 0) = false) : scq b s ((i : Int), v) = 4 + v := by
  unfold scq
  simp only [Int.toNat_natCast]
  rw [if_neg (by omega), if_neg (by rw [h]; decide)]
/-- A pixel of a scene. -/
def scp (W n X Y : Nat) (p : Nat → Int) (q : Nat → Nat → Int) (k : Nat) (s : Nat → Spr) (x y : Nat) : Int := scq (fpx W n X Y p q x y) s (fat s q x y (shown k s y))

/-- A line whose first x pixels are those of f, the others those of g. -/
def rowF (f g : Nat → Int) (x : Nat) : Nat → Int := fun j => if j < x then f j else g j
theorem rowF_put {f g : Nat → Int} {x : Nat} {v : Int} (h : f x = v) : (List.range 32).map (updV (iv (rowF f g x)) x (.int .i64 v)) = (List.range 32).map (iv (rowF f g (x + 1))) :=
  List.map_congr_left fun j _ => by
    unfold updV iv rowF
    by_cases e : j = x
    · subst e; rw [if_pos rfl, if_pos (by omega), h]
    · rw [if_neg e]
      by_cases l : j < x
      · rw [if_pos l, if_pos (by omega)]
      · rw [if_neg l, if_neg (by omega)]
theorem rowF_same {f g : Nat → Int} {x : Nat} (h : f x = g x) : (List.range 32).map (iv (rowF f g x)) = (List.range 32).map (iv (rowF f g (x + 1))) :=
  List.map_congr_left fun j _ => by
    unfold iv rowF
    by_cases e : j = x
    · subst e; rw [if_neg (by omega), if_pos (by omega), h]
    · by_cases l : j < x
      · rw [if_pos l, if_pos (by omega)]
      · rw [if_neg l, if_neg (by omega)]
theorem rowF_zero (f g : Nat → Int) : (List.range 32).map (iv g) = (List.range 32).map (iv (rowF f g 0)) := rfl
theorem rowF_all (f g : Nat → Int) : (List.range 32).map (iv (rowF f g 32)) = (List.range 32).map (iv f) :=
  List.map_congr_left fun j hj => by
    unfold iv rowF
    rw [if_pos (List.mem_range.1 hj)]

set_option maxRecDepth 100000 in
set_option maxHeartbeats 2000000 in
theorem iscl_c (g : Nat) (W n m : Nat) (A : Option Addr) (c : Nat) (B : Option Addr) (d : Nat) (X Y : Nat) (S : Option Addr) (k e : Nat) (p : Nat → Int) (q : Nat → Nat → Int) (s : Nat → Spr) (y : Nat) (w : World) {C C' C2 : Nat} (hok : FOK W n m p) (hsv : svd k m s q = true)
    (hS : SB w g W A n c B m d X Y S k e) (h : RS w C 1 A n (iv p)) (h' : RS w C' 64 B m (tc q)) (h2 : RS w C2 6 S k (sc s)) (hC : C ≤ w.heap.size) (hC' : C' ≤ w.heap.size) (hC2 : C2 ≤ w.heap.size) (hX : X ≤ 255) (hY : Y ≤ 255) (hy : y ≤ 15) :
    Calls Try.prog 37 #[.pointer (some ⟨g, 0, none⟩), .int .i64 y] w (Gives 3 1 32 (iv fun x => scp W n X Y p q k s x y) w) := by
  obtain ⟨p1, p2, p3, p4⟩ := svd_parts hsv
  have HSP := Lib.hid (fun i (hi : i < k) (x : Int) => spxB (x := x) (y := (y : Int)) hsv hi)
  have HP := Lib.hid (fun i (hi : i < k) => (sok_parts (p4 i hi)).2.1)
  have HSH := Lib.hid (shown_ok (y := (y : Int)) p4)
  have hle := shown_le k s (y : Int)
  have H := Lib.hid h
  have H' := Lib.hid h'
  have H2 := Lib.hid h2
  have HS := Lib.hid hS
  have HOK := Lib.hid hok
  have hg := hS.lt
  obtain ⟨c0, c1, c2, c3, c4, c5⟩ := hS.cells
  have hmk := make32
  obtain ⟨L, hL⟩ : ∃ L, shown k s (y : Int) = L := ⟨_, rfl⟩
  have HON := Lib.hid (fun w2 h1 h2 => ion_c S k e s (y : Int) w2 (C := C2) h1 h2 p1 (by omega) (by omega) HP.out)
  rw [hL] at HSH hle HON
  have HL := Lib.hid hL
  clear h h' h2 hS hok hsv p4 p3 hL
  go_enter Try.func37, Try.ntmps37
  go_wp2
  have hs := World.new_ne w ⟨g, 3, none⟩ c3
  go_region_held3 (fun w' => w'.cell? ⟨g, 3, none⟩ = some (.int .i64 X) ∧ w'.cell? ⟨g, 4, none⟩ = some (.int .i64 Y)) (first | assumption | go_keep) (first | (go_at_call 38; refine (idlC_c g W n m A c B d X Y X Y y p q _ (C := C) (C' := C') (base := w.heap.size) HOK.out (FC.alloc (FC.drew HS.out.1) _) (RS.alloc (RS.drew H.out) hC _) (RS.alloc (RS.drew H'.out) hC' _) hX hY hy hg hC hC' (by ((try simp only [World.size_alloc, World.size_setCell, World.size_drew]) <;> omega)) (World.ownsRow_made w.drew (e := 3) _ 32 (Nat.le_refl _) (by decide) (ca_size _ _))).mono ?_; rintro e w2 ⟨A2, cap2, rfl, hown, hO_w2⟩; have hz_w2 := hO_w2.size; obtain ⟨z0, z1, z2, z3, z4, z5⟩ := (SB.below hO_w2 (SB.alloc (SB.drew HS.out) (.cells (ca 32 fun _ => .int .i64 0) 3)) hg).cells))
  obtain ⟨go, hgo, hgo0, hgo1⟩ := own_head hown (by decide)
  subst hgo
  have HB2 := Lib.hid (RS.below hO_w2 (RS.alloc (RS.drew H'.out) hC' (.cells (ca 32 fun _ => .int .i64 0) 3)) hC')
  have HS2 := Lib.hid (RS.below hO_w2 (RS.alloc (RS.drew H2.out) hC2 (.cells (ca 32 fun _ => .int .i64 0) 3)) hC2)
  have hb2 : Hid (Below w.heap.size w w2) := Lib.hid (((Below.refl w.heap.size w).drew.alloc (Nat.le_refl _) _).trans hO_w2)
  have HOWN := Lib.hid hown
  simp only [World.size_alloc, World.size_drew] at hz_w2
  clear hown c0 c1 c2 c3 c4 c5 hs hO_w2
  go_wp2_with fail
  refine (HON.out _ HS2.out (by omega)).mono ?_
  rintro e w3 ⟨A3, cap3, rfl, h3, hO_w3⟩
  have hz_w3 := hO_w3.size
  have hb3 : Hid (Below w.heap.size w w3) := Lib.hid (hb2.out.trans (hO_w3.mono (by omega)))
  have HO3 := Lib.hid (own_below HOWN.out hO_w3 (Nat.le_refl _))
  have HS3 := Lib.hid h3
  clear h3 hO_w3 HB2 HS2 HOWN hb2 z0 z1 z2 z3 z4 z5
  go_wp2
  go_loopw [34] (fun i wr => ∃ x : Nat, x ≤ 32 ∧ i = .int .i64 x ∧ wr.ownsRow w.heap.size 3 1 (.slice (some ⟨go, 0, none⟩) 32 cap2) 32 ((List.range 32).map (iv (rowF (fun x => scp W n X Y p q k s x y) (fun j => fpx W n X Y p q j y) x))) ∧
    wr.ownsRow w2.heap.size 3 1 (.slice A3 L.length cap3) L.length ((List.range (L.length * 1)).map (lc L)) ∧ Below w.heap.size w wr ∧ w3.heap.size ≤ wr.heap.size) (fun i _ => 32 - (intOf i).toNat)
  case atStart => exact ⟨0, by omega, rfl, HO3.out, HS3.out, hb3.out, Nat.le_refl _⟩
  case round =>
    obtain ⟨x, hx, rfl, hrow, hsh, hb, hsz⟩ := hrel
    have hbr := Lib.hid hb
    have hbs := hb.size
    have ROW := Lib.hid hrow
    have SHO := Lib.hid hsh
    by_cases hlt : x < 32
    · obtain ⟨c0, c1, c2, c3, c4, c5⟩ := (SB.below hb HS.out hg).cells
      have ck : wr.cell? ⟨go, x, none⟩ = some (.int .i64 (fpx W n X Y p q x y)) := (hrow.cellAt x (by omega)).trans ((map_get (by omega)).trans (by unfold iv rowF; rw [if_neg (by omega)]))
      have fz := hrow.frozenAt x
      have hscp : scp W n X Y p q k s x y = scq (fpx W n X Y p q x y) s (fat s q x y L) := by unfold scp; rw [HL.out]
      have HSCP := Lib.hid hscp
      have hgo2 : go < w2.heap.size := hgo1
      have HCALL := Lib.hid (fun u (hu : Below wr.heap.size wr u) => isa_c S k e B m d s q (x : Int) (y : Int) L A3 cap3 u (C := C2) (C' := C') (C2 := wr.heap.size) (RS.below hu (RS.below hbr.out H2.out hC2) (by omega)) (RS.below hu (RS.below hbr.out H'.out hC') (by omega)) (RS.below hu (own_rs SHO.out) (Nat.le_refl _)) (by have := hu.size; omega) (by have := hu.size; omega) hu.size HSH.out hle p1 (by omega) (by omega) (by omega) (by omega))
      obtain ⟨b, hbv⟩ : ∃ b, fpx W n X Y p q x y = b := ⟨_, rfl⟩
      rw [hbv] at ck hscp
      have HBV := Lib.hid hbv
      have xi : (x : Int) < 32 := by omega
      have ew : IntKind.i64.wrap ((x : Int) + 1) = (x : Int) + 1 := IntWalk.i64_in _ (by omega)
      rcases fat_cases s q (x : Int) (y : Int) L with hf | ⟨i, hi, hf, hz⟩
      · rw [hf] at HCALL hscp
        rw [scq_no] at hscp
        have HSC := Lib.hid hscp
        clear hf hscp hbv hrow hsh hb
        go_wp2
        refine wp_region_over (by kernel_rfl) (by kernel_rfl) ?_
        intro W5 hO_W5
        have hz_W5 := hO_W5.size
        (try simp only [World.size_alloc, World.size_setCell, World.size_drew] at hz_W5)
        have hs_W5_0 : g < W5.heap.size := (by omega)
        have c_W5_0 := fun o => (bcell hO_W5).1 (g) o (by (try simp only [World.size_alloc, World.size_setCell, World.size_drew]) <;> omega)
        have f_W5_0 := fun o => (bcell hO_W5).2 (g) o (by (try simp only [World.size_alloc, World.size_setCell, World.size_drew]) <;> omega)
        have hs_W5_1 : go < W5.heap.size := (by omega)
        have c_W5_1 := fun o => (bcell hO_W5).1 (go) o (by (try simp only [World.size_alloc, World.size_setCell, World.size_drew]) <;> omega)
        have f_W5_1 := fun o => (bcell hO_W5).2 (go) o (by (try simp only [World.size_alloc, World.size_setCell, World.size_drew]) <;> omega)
        have v_W5_0 := fun x o => over_cell W5 x (g) o hs_W5_0
        have v_W5_1 := fun x o => over_cell W5 x (go) o hs_W5_1
        repeat (go_big_quiet_step ((go_at_call 45; refine Calls.over_of (HCALL.out _ (hO_W5.trans ((over_below W5 _).mono (by omega)))))))
        refine wpQuiet_nil ?_
        intro W6 hx_W6
        obtain ⟨x_W6, hx_W6⟩ := hx_W6
        have hO_W6 : Below W5.heap.size W5 W6 := hx_W6 ▸ over_below W5 x_W6
        clear hx_W6
        have hz_W6 := hO_W6.size
        have hs_W6_0 : g < W6.heap.size := (by omega)
        have c_W6_0 := fun o => (bcell hO_W6).1 (g) o (by (try simp only [World.size_alloc, World.size_setCell, World.size_drew]) <;> omega)
        have f_W6_0 := fun o => (bcell hO_W6).2 (g) o (by (try simp only [World.size_alloc, World.size_setCell, World.size_drew]) <;> omega)
        have hs_W6_1 : go < W6.heap.size := (by omega)
        have c_W6_1 := fun o => (bcell hO_W6).1 (go) o (by (try simp only [World.size_alloc, World.size_setCell, World.size_drew]) <;> omega)
        have f_W6_1 := fun o => (bcell hO_W6).2 (go) o (by (try simp only [World.size_alloc, World.size_setCell, World.size_drew]) <;> omega)
        go_wp2
        go_roundw
        case rel =>
          refine ⟨x + 1, by omega, by go_num, ?_, ?_, ?_, ?_⟩
          · rw [← rowF_same (f := fun x => scp W n X Y p q k s x y) (g := fun j => fpx W n X Y p q j y) (x := x) (by show scp W n X Y p q k s x y = fpx W n X Y p q x y; rw [HSC.out, HBV.out])]
            exact own_below (own_below ROW.out hO_W5 (Nat.le_refl _)) hO_W6 (by omega)
          · exact own_below (own_below SHO.out hO_W5 (Nat.le_refl _)) hO_W6 (by omega)
          · exact hbr.out.trans ((hO_W5.mono (by omega)).trans (hO_W6.mono (by omega)))
          · omega
        case measure => simp [intOf]; omega
      · obtain ⟨hik, hoki⟩ := HSH.out i hi
        obtain ⟨v0, v3⟩ := HSP.out i hik x
        obtain ⟨v, hv⟩ : ∃ v, spx (s i) q (x : Int) (y : Int) = v := ⟨_, rfl⟩
        rw [hv] at hf v0 v3 hz
        rw [hf] at HCALL hscp
        obtain ⟨bS, oS, rfl, hbS, s0, s1, s2, s3, s4, s5⟩ := (RS.below hb H2.out hC2).spr hik
        have i0 : ¬ (i : Int) < 0 := by omega
        have i1 : (i : Int) < (k : Int) := by omega
        have ev : IntKind.i64.wrap (4 + v) = 4 + v := IntWalk.i64_in _ (by omega)
        cases hbh : (s i).bh
        · have HSC := Lib.hid (hscp.trans (scq_front (v := v) (by rw [hbh]; rfl)))
          rw [hbh] at s5
          clear hf hscp hbv hrow hsh hb hbh hoki hi hz hv s0 s1 s2 s3 s4
          go_wp2
          refine wp_region_over (by kernel_rfl) (by kernel_rfl) ?_
          intro W5 hO_W5
          have hz_W5 := hO_W5.size
          (try simp only [World.size_alloc, World.size_setCell, World.size_drew] at hz_W5)
          have hs_W5_0 : g < W5.heap.size := (by omega)
          have c_W5_0 := fun o => (bcell hO_W5).1 (g) o (by (try simp only [World.size_alloc, World.size_setCell, World.size_drew]) <;> omega)
          have f_W5_0 := fun o => (bcell hO_W5).2 (g) o (by (try simp only [World.size_alloc, World.size_setCell, World.size_drew]) <;> omega)
          have hs_W5_1 : go < W5.heap.size := (by omega)
          have c_W5_1 := fun o => (bcell hO_W5).1 (go) o (by (try simp only [World.size_alloc, World.size_setCell, World.size_drew]) <;> omega)
          have f_W5_1 := fun o => (bcell hO_W5).2 (go) o (by (try simp only [World.size_alloc, World.size_setCell, World.size_drew]) <;> omega)
          have hs_W5_2 : bS < W5.heap.size := (by omega)
          have c_W5_2 := fun o => (bcell hO_W5).1 (bS) o (by (try simp only [World.size_alloc, World.size_setCell, World.size_drew]) <;> omega)
          have f_W5_2 := fun o => (bcell hO_W5).2 (bS) o (by (try simp only [World.size_alloc, World.size_setCell, World.size_drew]) <;> omega)
          have v_W5_0 := fun x o => over_cell W5 x (g) o hs_W5_0
          have v_W5_1 := fun x o => over_cell W5 x (go) o hs_W5_1
          have v_W5_2 := fun x o => over_cell W5 x (bS) o hs_W5_2
          repeat (go_big_quiet_step ((go_at_call 45; refine Calls.over_of (HCALL.out _ (hO_W5.trans ((over_below W5 _).mono (by omega)))))))
          refine wpQuiet_nil ?_
          intro W6 hx_W6
          obtain ⟨x_W6, hx_W6⟩ := hx_W6
          have hO_W6 : Below W5.heap.size W5 W6 := hx_W6 ▸ over_below W5 x_W6
          clear hx_W6
          have hz_W6 := hO_W6.size
          have hs_W6_0 : g < W6.heap.size := (by omega)
          have c_W6_0 := fun o => (bcell hO_W6).1 (g) o (by (try simp only [World.size_alloc, World.size_setCell, World.size_drew]) <;> omega)
          have f_W6_0 := fun o => (bcell hO_W6).2 (g) o (by (try simp only [World.size_alloc, World.size_setCell, World.size_drew]) <;> omega)
          have hs_W6_1 : go < W6.heap.size := (by omega)
          have c_W6_1 := fun o => (bcell hO_W6).1 (go) o (by (try simp only [World.size_alloc, World.size_setCell, World.size_drew]) <;> omega)
          have f_W6_1 := fun o => (bcell hO_W6).2 (go) o (by (try simp only [World.size_alloc, World.size_setCell, World.size_drew]) <;> omega)
          have hs_W6_2 : bS < W6.heap.size := (by omega)
          have c_W6_2 := fun o => (bcell hO_W6).1 (bS) o (by (try simp only [World.size_alloc, World.size_setCell, World.size_drew]) <;> omega)
          have f_W6_2 := fun o => (bcell hO_W6).2 (bS) o (by (try simp only [World.size_alloc, World.size_setCell, World.size_drew]) <;> omega)
          go_wp2
          go_roundw
          case rel =>
            refine ⟨x + 1, by omega, by go_num, ?_, ?_, ?_, ?_⟩
            · rw [← rowF_put (f := fun x => scp W n X Y p q k s x y) (g := fun j => fpx W n X Y p q j y) (x := x) (v := 4 + v) HSC.out]
              exact own_put (own_below (own_below ROW.out hO_W5 (Nat.le_refl _)) hO_W6 (by omega)) _ _
            · exact ownsRow_setCell_below (own_below (own_below SHO.out hO_W5 (Nat.le_refl _)) hO_W6 (by omega)) (by simp; omega) _
            · exact (hbr.out.trans ((hO_W5.mono (by omega)).trans (hO_W6.mono (by omega)))).setCell (by simp; omega) _
            · simp; omega
          case measure => simp [intOf]; omega
        · rw [hbh] at s5
          by_cases hb0 : b = 0
          · have HSC := Lib.hid (hscp.trans (scq_front (v := v) (by rw [hbh, hb0]; rfl)))
            subst hb0
            clear hf hscp hbv hrow hsh hb hbh hoki hi hz hv s0 s1 s2 s3 s4
            go_wp2
            refine wp_region_over (by kernel_rfl) (by kernel_rfl) ?_
            intro W5 hO_W5
            have hz_W5 := hO_W5.size
            (try simp only [World.size_alloc, World.size_setCell, World.size_drew] at hz_W5)
            have hs_W5_0 : g < W5.heap.size := (by omega)
            have c_W5_0 := fun o => (bcell hO_W5).1 (g) o (by (try simp only [World.size_alloc, World.size_setCell, World.size_drew]) <;> omega)
            have f_W5_0 := fun o => (bcell hO_W5).2 (g) o (by (try simp only [World.size_alloc, World.size_setCell, World.size_drew]) <;> omega)
            have hs_W5_1 : go < W5.heap.size := (by omega)
            have c_W5_1 := fun o => (bcell hO_W5).1 (go) o (by (try simp only [World.size_alloc, World.size_setCell, World.size_drew]) <;> omega)
            have f_W5_1 := fun o => (bcell hO_W5).2 (go) o (by (try simp only [World.size_alloc, World.size_setCell, World.size_drew]) <;> omega)
            have hs_W5_2 : bS < W5.heap.size := (by omega)
            have c_W5_2 := fun o => (bcell hO_W5).1 (bS) o (by (try simp only [World.size_alloc, World.size_setCell, World.size_drew]) <;> omega)
            have f_W5_2 := fun o => (bcell hO_W5).2 (bS) o (by (try simp only [World.size_alloc, World.size_setCell, World.size_drew]) <;> omega)
            have v_W5_0 := fun x o => over_cell W5 x (g) o hs_W5_0
            have v_W5_1 := fun x o => over_cell W5 x (go) o hs_W5_1
            have v_W5_2 := fun x o => over_cell W5 x (bS) o hs_W5_2
            repeat (go_big_quiet_step ((go_at_call 45; refine Calls.over_of (HCALL.out _ (hO_W5.trans ((over_below W5 _).mono (by omega)))))))
            refine wpQuiet_nil ?_
            intro W6 hx_W6
            obtain ⟨x_W6, hx_W6⟩ := hx_W6
            have hO_W6 : Below W5.heap.size W5 W6 := hx_W6 ▸ over_below W5 x_W6
            clear hx_W6
            have hz_W6 := hO_W6.size
            have hs_W6_0 : g < W6.heap.size := (by omega)
            have c_W6_0 := fun o => (bcell hO_W6).1 (g) o (by (try simp only [World.size_alloc, World.size_setCell, World.size_drew]) <;> omega)
            have f_W6_0 := fun o => (bcell hO_W6).2 (g) o (by (try simp only [World.size_alloc, World.size_setCell, World.size_drew]) <;> omega)
            have hs_W6_1 : go < W6.heap.size := (by omega)
            have c_W6_1 := fun o => (bcell hO_W6).1 (go) o (by (try simp only [World.size_alloc, World.size_setCell, World.size_drew]) <;> omega)
            have f_W6_1 := fun o => (bcell hO_W6).2 (go) o (by (try simp only [World.size_alloc, World.size_setCell, World.size_drew]) <;> omega)
            have hs_W6_2 : bS < W6.heap.size := (by omega)
            have c_W6_2 := fun o => (bcell hO_W6).1 (bS) o (by (try simp only [World.size_alloc, World.size_setCell, World.size_drew]) <;> omega)
            have f_W6_2 := fun o => (bcell hO_W6).2 (bS) o (by (try simp only [World.size_alloc, World.size_setCell, World.size_drew]) <;> omega)
            go_wp2
            go_roundw
            case rel =>
              refine ⟨x + 1, by omega, by go_num, ?_, ?_, ?_, ?_⟩
              · rw [← rowF_put (f := fun x => scp W n X Y p q k s x y) (g := fun j => fpx W n X Y p q j y) (x := x) (v := 4 + v) HSC.out]
                exact own_put (own_below (own_below ROW.out hO_W5 (Nat.le_refl _)) hO_W6 (by omega)) _ _
              · exact ownsRow_setCell_below (own_below (own_below SHO.out hO_W5 (Nat.le_refl _)) hO_W6 (by omega)) (by simp; omega) _
              · exact (hbr.out.trans ((hO_W5.mono (by omega)).trans (hO_W6.mono (by omega)))).setCell (by simp; omega) _
              · simp; omega
            case measure => simp [intOf]; omega
          · have hbb : (b == 0) = false := by simpa using hb0
            have HSC := Lib.hid (hscp.trans (scq_back (v := v) (by rw [hbh]; simpa using hb0)))
            clear hf hscp hbv hrow hsh hb hbh hoki hi hz hv s0 s1 s2 s3 s4 hb0
            go_wp2
            refine wp_region_over (by kernel_rfl) (by kernel_rfl) ?_
            intro W5 hO_W5
            have hz_W5 := hO_W5.size
            (try simp only [World.size_alloc, World.size_setCell, World.size_drew] at hz_W5)
            have hs_W5_0 : g < W5.heap.size := (by omega)
            have c_W5_0 := fun o => (bcell hO_W5).1 (g) o (by (try simp only [World.size_alloc, World.size_setCell, World.size_drew]) <;> omega)
            have f_W5_0 := fun o => (bcell hO_W5).2 (g) o (by (try simp only [World.size_alloc, World.size_setCell, World.size_drew]) <;> omega)
            have hs_W5_1 : go < W5.heap.size := (by omega)
            have c_W5_1 := fun o => (bcell hO_W5).1 (go) o (by (try simp only [World.size_alloc, World.size_setCell, World.size_drew]) <;> omega)
            have f_W5_1 := fun o => (bcell hO_W5).2 (go) o (by (try simp only [World.size_alloc, World.size_setCell, World.size_drew]) <;> omega)
            have hs_W5_2 : bS < W5.heap.size := (by omega)
            have c_W5_2 := fun o => (bcell hO_W5).1 (bS) o (by (try simp only [World.size_alloc, World.size_setCell, World.size_drew]) <;> omega)
            have f_W5_2 := fun o => (bcell hO_W5).2 (bS) o (by (try simp only [World.size_alloc, World.size_setCell, World.size_drew]) <;> omega)
            have v_W5_0 := fun x o => over_cell W5 x (g) o hs_W5_0
            have v_W5_1 := fun x o => over_cell W5 x (go) o hs_W5_1
            have v_W5_2 := fun x o => over_cell W5 x (bS) o hs_W5_2
            repeat (go_big_quiet_step ((go_at_call 45; refine Calls.over_of (HCALL.out _ (hO_W5.trans ((over_below W5 _).mono (by omega)))))))
            refine wpQuiet_nil ?_
            intro W6 hx_W6
            obtain ⟨x_W6, hx_W6⟩ := hx_W6
            have hO_W6 : Below W5.heap.size W5 W6 := hx_W6 ▸ over_below W5 x_W6
            clear hx_W6
            have hz_W6 := hO_W6.size
            have hs_W6_0 : g < W6.heap.size := (by omega)
            have c_W6_0 := fun o => (bcell hO_W6).1 (g) o (by (try simp only [World.size_alloc, World.size_setCell, World.size_drew]) <;> omega)
            have f_W6_0 := fun o => (bcell hO_W6).2 (g) o (by (try simp only [World.size_alloc, World.size_setCell, World.size_drew]) <;> omega)
            have hs_W6_1 : go < W6.heap.size := (by omega)
            have c_W6_1 := fun o => (bcell hO_W6).1 (go) o (by (try simp only [World.size_alloc, World.size_setCell, World.size_drew]) <;> omega)
            have f_W6_1 := fun o => (bcell hO_W6).2 (go) o (by (try simp only [World.size_alloc, World.size_setCell, World.size_drew]) <;> omega)
            have hs_W6_2 : bS < W6.heap.size := (by omega)
            have c_W6_2 := fun o => (bcell hO_W6).1 (bS) o (by (try simp only [World.size_alloc, World.size_setCell, World.size_drew]) <;> omega)
            have f_W6_2 := fun o => (bcell hO_W6).2 (bS) o (by (try simp only [World.size_alloc, World.size_setCell, World.size_drew]) <;> omega)
            go_wp2
            go_roundw
            case rel =>
              refine ⟨x + 1, by omega, by go_num, ?_, ?_, ?_, ?_⟩
              · rw [← rowF_same (f := fun x => scp W n X Y p q k s x y) (g := fun j => fpx W n X Y p q j y) (x := x) (by show scp W n X Y p q k s x y = fpx W n X Y p q x y; rw [HSC.out, HBV.out])]
                exact own_below (own_below ROW.out hO_W5 (Nat.le_refl _)) hO_W6 (by omega)
              · exact own_below (own_below SHO.out hO_W5 (Nat.le_refl _)) hO_W6 (by omega)
              · exact hbr.out.trans ((hO_W5.mono (by omega)).trans (hO_W6.mono (by omega)))
              · omega
            case measure => simp [intOf]; omega
    · have hx32 : x = 32 := by omega
      subst hx32
      clear hrow hsh hb
      go_wp2
      go_ret
      refine ⟨_, _, rfl, ?_, hbr.out⟩
      rw [Nat.mul_one]
      have := ROW.out
      rwa [rowF_all] at this

end Go.Proofs.Ytabioinmpjfflaa
