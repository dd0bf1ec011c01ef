/-
  The law FnLatchPad holds: latched buttons are read: the eight digits, the lowest one first, and then ones; for every code. No conditions.
-/
import Derived.Test.YtgnkoakmgfphmaaOpen
import Derived.Test.YtgnkoakmgfphmaaPadDraw
import Derived.Test.YtgnkoakmgfphmaaPadLaw
namespace Go.Proofs.Ytgnkoakmgfphmaa.lawFnLatchPad
set_option linter.all false
set_option linter.unusedSimpArgs false
set_option linter.unusedVariables false
open Go.ChangeShapes Go.WideShapes Go.ChangeAt Go.RowKit

/-- Block g is a controller. -/
def PB (w : World) (g : Nat) (q t r : Int) : Prop := w.heap[g]? = some (.cells #[.int .i64 q, .int .i64 t, .int .i64 r] 27 (0, 0))
section
variable {w w' : World} {g : Nat} {q t r : Int}
theorem PB.lt (h : PB w g q t r) : g < w.heap.size := by
  rcases Nat.lt_or_ge g w.heap.size with hlt | hge
  · exact hlt
  · unfold PB at h; rw [Array.getElem?_eq_none hge] at h; cases h
theorem PB.below {B : Nat} (h : PB w g q t r) (hb : Below B w w') (hg : g < B) : PB w' g q t r := (hb.block g hg).trans h
theorem PB.alloc (h : PB w g q t r) (o : Obj) : PB (w.alloc o) g q t r := (Below.heap_alloc w o g h.lt).trans h
theorem PB.far (h : PB w g q t r) {a : Addr} (ha : g ≠ a.block) (v : Value) : PB (w.setCell a v) g q t r := (Below.heap_setCell w a v g ha).trans h
theorem PB.cells (h : PB w g q t r) : w.cell? ⟨g, 0, none⟩ = some (.int .i64 q) ∧ w.cell? ⟨g, 1, none⟩ = some (.int .i64 t) ∧ w.cell? ⟨g, 2, none⟩ = some (.int .i64 r) ∧ w.frozen? ⟨g, 0, none⟩ = false ∧ w.frozen? ⟨g, 1, none⟩ = false ∧ w.frozen? ⟨g, 2, none⟩ = false := by
  unfold PB at h
  simp [World.cell?, World.frozen?, h]
theorem PB.put (h : PB w g q t r) (a b c : Int) : PB (((w.setCell ⟨g, 0, none⟩ (.int .i64 a)).setCell ⟨g, 1, none⟩ (.int .i64 b)).setCell ⟨g, 2, none⟩ (.int .i64 c)) g a b c := by
  unfold PB at h ⊢
  simp [World.setCell, Array.getElem?_modify, h]
end

set_option maxHeartbeats 4000000 in
theorem walk (v0 : Value) (w : World) (h0 : CodeArg w v0) : Calls Try.prog 13 #[v0] w fun e w' => e = .returned (.bool true) ∧ Below w.heap.size w w' := by
  obtain ⟨a, len, cap, rfl, hcode, hl⟩ := h0
  have hm := hcode.1; unfold maxLen at hm
  by_cases hlen : 1048576 < len
  · go_enter Try.func13, Try.ntmps13
    go_wp2
    go_ret
    exact ⟨rfl, Below.refl _ _⟩
  · go_enter Try.func13, Try.ntmps13
    go_wp2_with fail
    refine (drawLatchPad_c _ _ _ _ hcode hl).mono ?_
    rintro e w1 ⟨p, t, r, rfl, hO_w1⟩
    have hz_w1 := hO_w1.size
    clear hm hcode
    cases hv : pv p t r
    · have HV := Lib.hid hv
      have z0 : ∀ x, onlyIf false x = 0 := onlyIf_false
      clear hv
      go_wp2_with fail
      refine (ila_c _ _ _ _ HV.out _).mono ?_
      rintro e w2 ⟨rfl, hO_w2⟩
      have hz_w2 := hO_w2.size
      (try simp only [World.size_alloc, World.size_setCell, World.size_drew] at hz_w2)
      have hs_w2_0 : w1.heap.size < w2.heap.size := (by omega)
      have c_w2_0 := fun o => (bcell hO_w2).1 (w1.heap.size) o (by (try simp only [World.size_alloc, World.size_setCell, World.size_drew]) <;> omega)
      have f_w2_0 := fun o => (bcell hO_w2).2 (w1.heap.size) o (by (try simp only [World.size_alloc, World.size_setCell, World.size_drew]) <;> omega)
      go_wp2_with fail
      refine wp_region_over (by kernel_rfl) (by kernel_rfl) ?_
      intro w3 hO_w3
      have hz_w3 := hO_w3.size
      (try simp only [World.size_alloc, World.size_setCell, World.size_drew] at hz_w3)
      have hs_w3_0 : w1.heap.size < w3.heap.size := (by omega)
      have c_w3_0 := fun o => (bcell hO_w3).1 (w1.heap.size) o (by (try simp only [World.size_alloc, World.size_setCell, World.size_drew]) <;> omega)
      have f_w3_0 := fun o => (bcell hO_w3).2 (w1.heap.size) o (by (try simp only [World.size_alloc, World.size_setCell, World.size_drew]) <;> omega)
      have hs_w3_1 : w2.heap.size < w3.heap.size := (by omega)
      have c_w3_1 := fun o => (bcell hO_w3).1 (w2.heap.size) o (by (try simp only [World.size_alloc, World.size_setCell, World.size_drew]) <;> omega)
      have f_w3_1 := fun o => (bcell hO_w3).2 (w2.heap.size) o (by (try simp only [World.size_alloc, World.size_setCell, World.size_drew]) <;> omega)
      have v_w3_0 := fun x o => over_cell w3 x (w1.heap.size) o hs_w3_0
      have v_w3_1 := fun x o => over_cell w3 x (w2.heap.size) o hs_w3_1
      repeat (go_big_quiet_step ((go_at_call 19; refine Calls.over_of (sla_c _ _ _ _ HV.out _))))
      refine wpQuiet_nil ?_
      intro w4 hx_w4
      obtain ⟨x_w4, hx_w4⟩ := hx_w4
      have hO_w4 : Below w3.heap.size w3 w4 := hx_w4 ▸ over_below w3 x_w4
      clear hx_w4
      have hz_w4 := hO_w4.size
      have hs_w4_0 : w1.heap.size < w4.heap.size := (by omega)
      have c_w4_0 := fun o => (bcell hO_w4).1 (w1.heap.size) o (by (try simp only [World.size_alloc, World.size_setCell, World.size_drew]) <;> omega)
      have f_w4_0 := fun o => (bcell hO_w4).2 (w1.heap.size) o (by (try simp only [World.size_alloc, World.size_setCell, World.size_drew]) <;> omega)
      have hs_w4_1 : w2.heap.size < w4.heap.size := (by omega)
      have c_w4_1 := fun o => (bcell hO_w4).1 (w2.heap.size) o (by (try simp only [World.size_alloc, World.size_setCell, World.size_drew]) <;> omega)
      have f_w4_1 := fun o => (bcell hO_w4).2 (w2.heap.size) o (by (try simp only [World.size_alloc, World.size_setCell, World.size_drew]) <;> omega)
      go_wp2_with fail
      refine (spv_c _ _ _ _ HV.out _).mono ?_
      rintro e w5 ⟨rfl, hO_w5⟩
      have hz_w5 := hO_w5.size
      (try simp only [World.size_alloc, World.size_setCell, World.size_drew] at hz_w5)
      have hs_w5_0 : w1.heap.size < w5.heap.size := (by omega)
      have c_w5_0 := fun o => (bcell hO_w5).1 (w1.heap.size) o (by (try simp only [World.size_alloc, World.size_setCell, World.size_drew]) <;> omega)
      have f_w5_0 := fun o => (bcell hO_w5).2 (w1.heap.size) o (by (try simp only [World.size_alloc, World.size_setCell, World.size_drew]) <;> omega)
      have hs_w5_1 : w2.heap.size < w5.heap.size := (by omega)
      have c_w5_1 := fun o => (bcell hO_w5).1 (w2.heap.size) o (by (try simp only [World.size_alloc, World.size_setCell, World.size_drew]) <;> omega)
      have f_w5_1 := fun o => (bcell hO_w5).2 (w2.heap.size) o (by (try simp only [World.size_alloc, World.size_setCell, World.size_drew]) <;> omega)
      go_wp2_with (go_at_call 28; refine (alive_c _).mono ?_; rintro e w' ⟨rfl, rfl⟩)
      go_ret
      refine ⟨rfl, ?_⟩
      (repeat (first | with_reducible exact Below.refl _ _ | ((with_reducible refine viaO (by assumption) ?_ ?_ ?_) <;> try ((try simp only [World.size_alloc, World.size_setCell, World.size_drew]) <;> omega)) | ((with_reducible refine Below.alloc ?_ ?_ _) <;> try ((try simp only [World.size_alloc, World.size_setCell, World.size_drew]) <;> omega)) | ((with_reducible refine Below.setCell ?_ ?_ _) <;> try ((try simp only [World.size_alloc, World.size_setCell, World.size_drew]) <;> omega)) | (with_reducible refine below_drewN ?_ _) | (with_reducible refine Below.drew ?_) | ((with_reducible refine via (by assumption) ?_ ?_) <;> try ((try simp only [World.size_alloc, World.size_setCell, World.size_drew]) <;> omega))))
    · have HV := Lib.hid hv
      have z1 : ∀ x, onlyIf true x = x := onlyIf_true
      obtain ⟨p0, p1, t0, t1, r0, r1⟩ := pv_true hv
      clear hv t0 t1 r0 r1
      go_wp2_with fail
      refine (ila_c _ _ _ _ HV.out _).mono ?_
      rintro e w2 ⟨rfl, hO_w2⟩
      have hz_w2 := hO_w2.size
      (try simp only [World.size_alloc, World.size_setCell, World.size_drew] at hz_w2)
      have hs_w2_0 : w1.heap.size < w2.heap.size := (by omega)
      have c_w2_0 := fun o => (bcell hO_w2).1 (w1.heap.size) o (by (try simp only [World.size_alloc, World.size_setCell, World.size_drew]) <;> omega)
      have f_w2_0 := fun o => (bcell hO_w2).2 (w1.heap.size) o (by (try simp only [World.size_alloc, World.size_setCell, World.size_drew]) <;> omega)
      go_wp2_with fail
      refine wp_region_over (by kernel_rfl) (by kernel_rfl) ?_
      intro w3 hO_w3
      have hz_w3 := hO_w3.size
      (try simp only [World.size_alloc, World.size_setCell, World.size_drew] at hz_w3)
      have hs_w3_0 : w1.heap.size < w3.heap.size := (by omega)
      have c_w3_0 := fun o => (bcell hO_w3).1 (w1.heap.size) o (by (try simp only [World.size_alloc, World.size_setCell, World.size_drew]) <;> omega)
      have f_w3_0 := fun o => (bcell hO_w3).2 (w1.heap.size) o (by (try simp only [World.size_alloc, World.size_setCell, World.size_drew]) <;> omega)
      have hs_w3_1 : w2.heap.size < w3.heap.size := (by omega)
      have c_w3_1 := fun o => (bcell hO_w3).1 (w2.heap.size) o (by (try simp only [World.size_alloc, World.size_setCell, World.size_drew]) <;> omega)
      have f_w3_1 := fun o => (bcell hO_w3).2 (w2.heap.size) o (by (try simp only [World.size_alloc, World.size_setCell, World.size_drew]) <;> omega)
      have v_w3_0 := fun x o => over_cell w3 x (w1.heap.size) o hs_w3_0
      have v_w3_1 := fun x o => over_cell w3 x (w2.heap.size) o hs_w3_1
      repeat (go_big_quiet_step ((go_at_call 19; refine Calls.over_of (sla_c _ _ _ _ HV.out _))))
      refine wpQuiet_nil ?_
      intro w4 hx_w4
      obtain ⟨x_w4, hx_w4⟩ := hx_w4
      have hO_w4 : Below w3.heap.size w3 w4 := hx_w4 ▸ over_below w3 x_w4
      clear hx_w4
      have hz_w4 := hO_w4.size
      have hs_w4_0 : w1.heap.size < w4.heap.size := (by omega)
      have c_w4_0 := fun o => (bcell hO_w4).1 (w1.heap.size) o (by (try simp only [World.size_alloc, World.size_setCell, World.size_drew]) <;> omega)
      have f_w4_0 := fun o => (bcell hO_w4).2 (w1.heap.size) o (by (try simp only [World.size_alloc, World.size_setCell, World.size_drew]) <;> omega)
      have hs_w4_1 : w2.heap.size < w4.heap.size := (by omega)
      have c_w4_1 := fun o => (bcell hO_w4).1 (w2.heap.size) o (by (try simp only [World.size_alloc, World.size_setCell, World.size_drew]) <;> omega)
      have f_w4_1 := fun o => (bcell hO_w4).2 (w2.heap.size) o (by (try simp only [World.size_alloc, World.size_setCell, World.size_drew]) <;> omega)
      have P4 : PB w4 w2.heap.size p p 0 := by
        have e1 : PB (w2.alloc (.cells #[.int .i64 p, .int .i64 p, .int .i64 0] 27)) w2.heap.size p p 0 := heap_alloc_new w2 _
        exact (e1.below hO_w3 (by simp)).below hO_w4 (by omega)
      have X4 : PB w4 w1.heap.size p t r := by
        have e1 : PB (w1.alloc (.cells #[.int .i64 p, .int .i64 t, .int .i64 r] 27)) w1.heap.size p t r := heap_alloc_new w1 _
        exact ((((e1.below hO_w2 (by simp)).alloc _).below hO_w3 (by simp; omega))).below hO_w4 (by omega)
      go_wp2_with fail
      refine (spv_c _ _ _ _ HV.out _).mono ?_
      rintro e w5 ⟨rfl, hO_w5⟩
      have hz_w5 := hO_w5.size
      (try simp only [World.size_alloc, World.size_setCell, World.size_drew] at hz_w5)
      have hs_w5_0 : w1.heap.size < w5.heap.size := (by omega)
      have c_w5_0 := fun o => (bcell hO_w5).1 (w1.heap.size) o (by (try simp only [World.size_alloc, World.size_setCell, World.size_drew]) <;> omega)
      have f_w5_0 := fun o => (bcell hO_w5).2 (w1.heap.size) o (by (try simp only [World.size_alloc, World.size_setCell, World.size_drew]) <;> omega)
      have hs_w5_1 : w2.heap.size < w5.heap.size := (by omega)
      have c_w5_1 := fun o => (bcell hO_w5).1 (w2.heap.size) o (by (try simp only [World.size_alloc, World.size_setCell, World.size_drew]) <;> omega)
      have f_w5_1 := fun o => (bcell hO_w5).2 (w2.heap.size) o (by (try simp only [World.size_alloc, World.size_setCell, World.size_drew]) <;> omega)
      have P5 := Lib.hid (P4.below hO_w5 (by omega))
      have X5 := Lib.hid (X4.below hO_w5 (by omega))
      have hl1 : w1.heap.size < w2.heap.size := hs_w2_0
      have hl2 : w2.heap.size < w5.heap.size := P5.out.lt
      have B5 : Below w.heap.size w w5 := by
        (repeat (first | with_reducible exact Below.refl _ _ | ((with_reducible refine viaO (by assumption) ?_ ?_ ?_) <;> try ((try simp only [World.size_alloc, World.size_setCell, World.size_drew]) <;> omega)) | ((with_reducible refine Below.alloc ?_ ?_ _) <;> try ((try simp only [World.size_alloc, World.size_setCell, World.size_drew]) <;> omega)) | ((with_reducible refine Below.setCell ?_ ?_ _) <;> try ((try simp only [World.size_alloc, World.size_setCell, World.size_drew]) <;> omega)) | (with_reducible refine below_drewN ?_ _) | (with_reducible refine Below.drew ?_) | ((with_reducible refine via (by assumption) ?_ ?_) <;> try ((try simp only [World.size_alloc, World.size_setCell, World.size_drew]) <;> omega))))
      have HB5 := Lib.hid B5
      clear c_w2_0 f_w2_0 c_w3_0 f_w3_0 c_w3_1 f_w3_1 v_w3_0 v_w3_1 c_w4_0 f_w4_0 c_w4_1 f_w4_1 c_w5_0 f_w5_0 c_w5_1 f_w5_1 P4 X4 hO_w2 hO_w3 hO_w4 hO_w5 B5
      go_wp2
      go_loopw [5] (fun i wr => ∃ k : Nat, k ≤ 10 ∧ i = .int .i64 k ∧ (∃ q : Int, 0 ≤ q ∧ q ≤ 255 ∧ PB wr w2.heap.size q p ((min k 8 : Nat) : Int)) ∧ PB wr w1.heap.size p t r ∧ Below w.heap.size w wr) (fun i _ => 10 - (intOf i).toNat)
      case atStart => exact ⟨0, by omega, rfl, ⟨p, p0, p1, P5.out⟩, X5.out, HB5.out⟩
      case round =>
        obtain ⟨k, hk, rfl, ⟨q, q0, q1, hP⟩, hX, hb⟩ := hrel
        have HP := Lib.hid hP
        have HX := Lib.hid hX
        have HB := Lib.hid hb
        have hlt := hP.lt
        obtain ⟨c0, c1, c2, f0, f1, f2⟩ := hP.cells
        by_cases hlk : k < 10
        · clear hP hb
          have x0 := hX.cells.1
          have g0 : (0 : Int) ≤ 37 * (k : Int) % 256 := by omega
          have g1 : 37 * (k : Int) % 256 ≤ 255 := by omega
          have G := Lib.hid (And.intro g0 g1)
          have e0 : ∃ c : Int, 37 * (k : Int) % 256 = c := ⟨_, rfl⟩
          by_cases h8 : k < 8
          · have hmin : min k 8 = k := by omega
            rw [hmin] at c2
            have V1 := Lib.hid (show (pv q p (k : Int) && inB (37 * (k : Int) % 256) 0 255) = true by
              rw [pv_mk ⟨q0, q1, p0, p1, by omega, by omega⟩, inB_true.2 (by omega)]; rfl)
            have V2 := Lib.hid (pv_mk (p := 37 * (k : Int) % 256) (t := p) (r := (k : Int)) ⟨by omega, by omega, p0, p1, by omega, by omega⟩)
            have z2 : nextR true (k : Int) = (k : Int) + 1 := by unfold nextR; rw [if_pos rfl, if_neg (by omega)]
            have z3 : readB true p (k : Int) = bitAt p k := by unfold readB; rw [if_pos rfl, if_neg (by omega)]
            have z4 : (p / 2 ^ k).tmod 2 = bitAt p k := by
              have := shr_rem (t := p) (r := (k : Int)) p0
              rwa [Int.toNat_natCast] at this
            clear hX hmin e0 g0 g1
            go_wp2_with fail
            refine (ipr_c _ _ _ _ true V1.out _).mono ?_
            rintro e w6 ⟨rfl, hO_w6⟩
            have hz_w6 := hO_w6.size
            (try simp only [World.size_alloc, World.size_setCell, World.size_drew] at hz_w6)
            have hs_w6_0 : w1.heap.size < w6.heap.size := (by omega)
            have c_w6_0 := fun o => (bcell hO_w6).1 (w1.heap.size) o (by (try simp only [World.size_alloc, World.size_setCell, World.size_drew]) <;> omega)
            have f_w6_0 := fun o => (bcell hO_w6).2 (w1.heap.size) o (by (try simp only [World.size_alloc, World.size_setCell, World.size_drew]) <;> omega)
            have hs_w6_1 : w2.heap.size < w6.heap.size := (by omega)
            have c_w6_1 := fun o => (bcell hO_w6).1 (w2.heap.size) o (by (try simp only [World.size_alloc, World.size_setCell, World.size_drew]) <;> omega)
            have f_w6_1 := fun o => (bcell hO_w6).2 (w2.heap.size) o (by (try simp only [World.size_alloc, World.size_setCell, World.size_drew]) <;> omega)
            go_wp2_with fail
            refine (ird_c _ _ _ _ V2.out _).mono ?_
            rintro e w7 ⟨rfl, hO_w7⟩
            have hz_w7 := hO_w7.size
            (try simp only [World.size_alloc, World.size_setCell, World.size_drew] at hz_w7)
            have hs_w7_0 : w1.heap.size < w7.heap.size := (by omega)
            have c_w7_0 := fun o => (bcell hO_w7).1 (w1.heap.size) o (by (try simp only [World.size_alloc, World.size_setCell, World.size_drew]) <;> omega)
            have f_w7_0 := fun o => (bcell hO_w7).2 (w1.heap.size) o (by (try simp only [World.size_alloc, World.size_setCell, World.size_drew]) <;> omega)
            have hs_w7_1 : w2.heap.size < w7.heap.size := (by omega)
            have c_w7_1 := fun o => (bcell hO_w7).1 (w2.heap.size) o (by (try simp only [World.size_alloc, World.size_setCell, World.size_drew]) <;> omega)
            have f_w7_1 := fun o => (bcell hO_w7).2 (w2.heap.size) o (by (try simp only [World.size_alloc, World.size_setCell, World.size_drew]) <;> omega)
            go_wp2
            go_roundw
            case rel =>
              have P7 := (HP.out.below hO_w6 (by omega)).below hO_w7 (by omega)
              have X7 := (HX.out.below hO_w6 (by omega)).below hO_w7 (by omega)
              refine ⟨k + 1, by omega, by go_num, ⟨_, G.out.1, G.out.2, ?_⟩, ?_, ?_⟩
              · rw [show min (k + 1) 8 = k + 1 by omega]
                exact (P7.put (37 * (k : Int) % 256) p ((k : Int) + 1)).alloc _
              · exact (((X7.far (by simp; omega) _).far (by simp; omega) _).far (by simp; omega) _).alloc _
              · refine Below.trans HB.out ?_
                (repeat (first | with_reducible exact Below.refl _ _ | ((with_reducible refine viaO (by assumption) ?_ ?_ ?_) <;> try ((try simp only [World.size_alloc, World.size_setCell, World.size_drew]) <;> omega)) | ((with_reducible refine Below.alloc ?_ ?_ _) <;> try ((try simp only [World.size_alloc, World.size_setCell, World.size_drew]) <;> omega)) | ((with_reducible refine Below.setCell ?_ ?_ _) <;> try ((try simp only [World.size_alloc, World.size_setCell, World.size_drew]) <;> omega)) | (with_reducible refine below_drewN ?_ _) | (with_reducible refine Below.drew ?_) | ((with_reducible refine via (by assumption) ?_ ?_) <;> try ((try simp only [World.size_alloc, World.size_setCell, World.size_drew]) <;> omega))))
            case measure => simp [intOf]; omega
          · have hmin : min k 8 = 8 := by omega
            rw [hmin] at c2
            have V1 := Lib.hid (show (pv q p 8 && inB (37 * (k : Int) % 256) 0 255) = true by
              rw [pv_mk ⟨q0, q1, p0, p1, by omega, by omega⟩, inB_true.2 (by omega)]; rfl)
            have V2 := Lib.hid (pv_mk (p := 37 * (k : Int) % 256) (t := p) (r := 8) ⟨by omega, by omega, p0, p1, by omega, by omega⟩)
            have z2 : nextR true 8 = 8 := rfl
            have z3 : readB true p 8 = 1 := rfl
            clear hX hmin e0 g0 g1
            go_wp2_with fail
            refine (ipr_c _ _ _ _ true V1.out _).mono ?_
            rintro e w6 ⟨rfl, hO_w6⟩
            have hz_w6 := hO_w6.size
            (try simp only [World.size_alloc, World.size_setCell, World.size_drew] at hz_w6)
            have hs_w6_0 : w1.heap.size < w6.heap.size := (by omega)
            have c_w6_0 := fun o => (bcell hO_w6).1 (w1.heap.size) o (by (try simp only [World.size_alloc, World.size_setCell, World.size_drew]) <;> omega)
            have f_w6_0 := fun o => (bcell hO_w6).2 (w1.heap.size) o (by (try simp only [World.size_alloc, World.size_setCell, World.size_drew]) <;> omega)
            have hs_w6_1 : w2.heap.size < w6.heap.size := (by omega)
            have c_w6_1 := fun o => (bcell hO_w6).1 (w2.heap.size) o (by (try simp only [World.size_alloc, World.size_setCell, World.size_drew]) <;> omega)
            have f_w6_1 := fun o => (bcell hO_w6).2 (w2.heap.size) o (by (try simp only [World.size_alloc, World.size_setCell, World.size_drew]) <;> omega)
            go_wp2_with fail
            refine (ird_c _ _ _ _ V2.out _).mono ?_
            rintro e w7 ⟨rfl, hO_w7⟩
            have hz_w7 := hO_w7.size
            (try simp only [World.size_alloc, World.size_setCell, World.size_drew] at hz_w7)
            have hs_w7_0 : w1.heap.size < w7.heap.size := (by omega)
            have c_w7_0 := fun o => (bcell hO_w7).1 (w1.heap.size) o (by (try simp only [World.size_alloc, World.size_setCell, World.size_drew]) <;> omega)
            have f_w7_0 := fun o => (bcell hO_w7).2 (w1.heap.size) o (by (try simp only [World.size_alloc, World.size_setCell, World.size_drew]) <;> omega)
            have hs_w7_1 : w2.heap.size < w7.heap.size := (by omega)
            have c_w7_1 := fun o => (bcell hO_w7).1 (w2.heap.size) o (by (try simp only [World.size_alloc, World.size_setCell, World.size_drew]) <;> omega)
            have f_w7_1 := fun o => (bcell hO_w7).2 (w2.heap.size) o (by (try simp only [World.size_alloc, World.size_setCell, World.size_drew]) <;> omega)
            go_wp2
            go_roundw
            case rel =>
              have P7 := (HP.out.below hO_w6 (by omega)).below hO_w7 (by omega)
              have X7 := (HX.out.below hO_w6 (by omega)).below hO_w7 (by omega)
              refine ⟨k + 1, by omega, by go_num, ⟨_, G.out.1, G.out.2, ?_⟩, ?_, ?_⟩
              · rw [show min (k + 1) 8 = 8 by omega]
                exact (P7.put (37 * (k : Int) % 256) p 8).alloc _
              · exact (((X7.far (by simp; omega) _).far (by simp; omega) _).far (by simp; omega) _).alloc _
              · refine Below.trans HB.out ?_
                (repeat (first | with_reducible exact Below.refl _ _ | ((with_reducible refine viaO (by assumption) ?_ ?_ ?_) <;> try ((try simp only [World.size_alloc, World.size_setCell, World.size_drew]) <;> omega)) | ((with_reducible refine Below.alloc ?_ ?_ _) <;> try ((try simp only [World.size_alloc, World.size_setCell, World.size_drew]) <;> omega)) | ((with_reducible refine Below.setCell ?_ ?_ _) <;> try ((try simp only [World.size_alloc, World.size_setCell, World.size_drew]) <;> omega)) | (with_reducible refine below_drewN ?_ _) | (with_reducible refine Below.drew ?_) | ((with_reducible refine via (by assumption) ?_ ?_) <;> try ((try simp only [World.size_alloc, World.size_setCell, World.size_drew]) <;> omega))))
            case measure => simp [intOf]; omega
        · have hk10 : k = 10 := by omega
          subst hk10
          clear hX hb hP
          go_wp2
          go_ret
          exact ⟨rfl, HB.out⟩

set_option maxRecDepth 100000 in
theorem lifted (os : Os) (started : os.Started) (H : Type) (enc : TypeId × Value → H) :
    ReturnsInHanded {} Try.checked os 13 .any (Rows.fnLatchPadSpec.pre6 enc Try.prog Try.f13 Rows.fnLatchPadRow.domain false) (Rows.fnLatchPadSpec.post enc Try.prog Try.f13 false true false false) := by
  refine returnsInHanded_of_change (C := Try.checked) own started (by kernel_rfl) Try.func13
    (ChangeSpec.witness6 (enc := enc) (C := Try.checked) false ⟨#[], #[.slice none 0 0], []⟩ 8 (by kernel_rfl) (by kernel_rfl) (by kernel_rfl) (by kernel_rfl)) ?_
  intro W base args ds gs before hval0 hW hcnd _
  have hval : ∀ (j : Nat) t v, Try.f13.params[j]? = some t → args[j]? = some v → Value.okWide Try.prog W .any base t v := hval0
  have hW' := hW
  obtain ⟨p, q, hA0, hV, rfl, hfz, hnd⟩ := hW
  have hA : DataW.TrodAll enc Try.prog W 0 (fun _ => true) true Try.f13.params.toList args.toList ds p := hA0
  rw [Try.params13] at hA hval
  obtain ⟨v0, vs0, d0, ds0, p0, q0, hargs, rfl, rfl, h0, r0⟩ := trodAll_cons hA
  obtain ⟨rfl, rfl, rfl⟩ := trodAll_nil r0
  obtain rfl : args = #[v0] := by cases args; simp_all
  obtain ⟨rfl, rfl⟩ := trodVars_none hV
  have lt0 : ∀ x ∈ p0, x.block < W.heap.size := by obtain ⟨m, hm⟩ := h0; exact DataW.trod_lt m _ _ _ hm
  have a0 := codeArg (hval 0 36 v0 rfl rfl) h0
  clear hA0 hval0
  refine (walk v0 W a0).mono fun e W' ⟨he, bel⟩ => ?_
  subst he
  exact ⟨_, rfl, _, _, _, [], _, [], hW', trodAll_mk1 (shut_bool Try.underlying4 _), (trodAll_cons_mk (Below.trod laidOut (by kernel_rfl) (of_decide_eq_true (by kernel_rfl)) h0 bel lt0) trodAll_mk0), rfl, bel.frame _, fun h => by cases h⟩

theorem proved : Rows.FnLatchPadSaid :=
  OpenClaim.holds_of_wide 13 Try.f13 rfl rfl rfl rfl rfl rfl rfl ⟨rfl, rfl, rfl, rfl, rfl⟩ rfl rfl rfl rfl rfl (by kernel_rfl) Try.func13 (by kernel_rfl)
    (of_decide_eq_true (by kernel_rfl)) (by unfold Func.isWrapper; first | (rw [if_pos (by decide +kernel)]; kernel_rfl) | (rw [if_neg (by decide +kernel)]; exact ⟨rfl, rfl⟩))
    (fun os started H enc _ => lifted os started H enc)
#print axioms proved

end Go.Proofs.Ytgnkoakmgfphmaa.lawFnLatchPad
