/-
  The contracts of lines of fields in the program and in the reference. Conditions: at most 1048576 tiles and numbers.
-/
import Derived.Test.YtabioinmpjfflaaFieldLaw
import Derived.Test.YtabioinmpjfflaaAppend
namespace Go.Proofs.Ytabioinmpjfflaa
set_option linter.all false
set_option linter.unusedSimpArgs false
set_option linter.unusedVariables false
set_option maxRecDepth 20000
open Go.ChangeShapes Go.WideShapes Go.ChangeAt Go.RowKit

theorem fcol_add {W n m : Nat} {p : Nat → Int} (hok : FOK W n m p) (X k j : Nat) (h : fcol W X k % 8 + j < 8) : fcol W X (k + j) = fcol W X k + j := by
  have hl : fcol W X k < 8 * W := Nat.mod_lt _ (by have := hok.w1; omega)
  have e : fcol W X (k + j) = (fcol W X k + j) % (8 * W) := by
    unfold fcol
    rw [Nat.mod_add_mod, show k + j + X = k + X + j by omega]
  rw [e, Nat.mod_eq_of_lt (by omega)]
theorem fpx_run {W n m : Nat} {p : Nat → Int} (hok : FOK W n m p) (X Y : Nat) (q : Nat → Nat → Int) (k j y : Nat) (h : fcol W X k % 8 + j < 8) :
    fpx W n X Y p q (k + j) y = q (p (fidx W n X Y k y)).toNat (frow W n Y y % 8 * 8 + fcol W X k % 8 + j) := by
  have e := fcol_add hok X k j h
  have e1 : fidx W n X Y (k + j) y = fidx W n X Y k y := by
    unfold fidx
    rw [e, show (fcol W X k + j) / 8 = fcol W X k / 8 by omega]
  unfold fpx
  rw [e1, e, show (fcol W X k + j) % 8 = fcol W X k % 8 + j by omega, Nat.add_assoc]

theorem slice64 (b o kk nn : Nat) (h1 : 1 ≤ nn) (h : kk + nn ≤ 64) : ∀ W, (Instr.sliceAt 34 (.pointer (some ⟨b, o, none⟩)) (some (.int .i64 (kk : Int))) (some (.int .i64 ((kk : Int) + (nn : Int)))) none).run Try.prog W = .ok (.slice (some ⟨b, o + kk, none⟩) nn (64 - kk)) W := fun W => by
  have e64 : Try.prog.arrayLen 34 = 64 := by kernel_rfl
  have hu : Try.prog.underlying 34 = some (.array (Try.prog.arrayLen 34) (Try.prog.elem 34)) := by kernel_rfl
  have es : (sizeOf (Try.prog.elem 34)).run Try.prog W = .ok 1 W := by kernel_rfl
  rw [run_sliceAt_array_lh W 34 ⟨b, o, none⟩ hu .i64 .i64 kk (kk + nn) (by omega) (by omega) (by rw [e64]; omega), es]
  simp only [Result.andThen_ok, slicedAt, e64]
  rw [if_neg (by omega), Addr.add_mid]
  simp only [Nat.mul_one, Int.toNat_natCast]
  rw [show ((kk : Int) + (nn : Int)).toNat - kk = nn by omega]

set_option maxHeartbeats 1000000 in
theorem idl_c (g : Nat) (t : TypeId) (W n m : Nat) (A : Option Addr) (c : Nat) (B : Option Addr) (d : Nat) (X0 Y0 : Int) (X Y y : Nat) (p : Nat → Int) (q : Nat → Nat → Int) (w : World) {C C' base co : Nat} {Ao : Option Addr} (hok : FOK W n m p) (hF : FB w g t W A n c B m d X0 Y0)
    (h : RS w C 1 A n (iv p)) (h' : RS w C' 64 B m (tc q)) (hX : X ≤ 255) (hY : Y ≤ 255) (hy : y ≤ 15) (hg : g < base) (hC : C ≤ base) (hC' : C' ≤ base) (hbase : base ≤ w.heap.size) (ho : w.ownsRow base 3 1 (.slice Ao 0 co) 0 []) :
    Calls Try.prog 38 #[.pointer (some ⟨g, 0, none⟩), .int .i64 X, .int .i64 Y, .int .i64 y, .int .i64 0, .int .i64 32, .slice Ao 0 co] w fun e w' => ∃ A' cap', e = .returned (.slice A' 32 cap') ∧
      w'.ownsRow base 3 1 (.slice A' 32 cap') 32 ((List.range 32).map (iv fun j => fpx W n X Y p q j y)) ∧ Below base w w' := by
  obtain ⟨w1, w8, hmul, h1, h8, m1, m16, num⟩ := id hok
  obtain ⟨c0, c1, c2, c3, c4⟩ := hF.cells
  have k1 : ¬ W = 0 := by omega
  have hgr : frow W n Y y < 8 * (n / W) := Nat.mod_lt _ (by omega)
  have erow : ((y : Int) + (Y : Int)) % (8 * ((n : Int) / (W : Int))) = (frow W n Y y : Int) := by
    unfold frow; simp
  have q0 : 0 ≤ (n : Int) / (W : Int) ∧ (n : Int) / (W : Int) ≤ 8 := by
    rw [← Int.natCast_ediv]; omega
  obtain ⟨q1, q2⟩ := q0
  have HOK := Lib.hid hok
  have HF := Lib.hid hF
  have H := Lib.hid h
  have H' := Lib.hid h'
  have HO := Lib.hid ho
  have NUM := Lib.hid num
  have hn64 : n ≤ 64 := by
    have : W * (n / W) ≤ 8 * 8 := Nat.mul_le_mul w8 h8
    omega
  clear hok hF h h' ho num hmul
  go_enter Try.func38, Try.ntmps38
  go_wp2
  go_quiet (fail)
  go_wp2
  rw [erow]
  clear c0 c1 c2 c3 c4
  go_loopw [6, 16] (fun v i wr => ∃ k : Nat, k ≤ 32 ∧ i = .int .i64 k ∧ (∃ A cap, v = .slice A k cap ∧ wr.ownsRow base 3 1 (.slice A k cap) k ((List.range k).map (iv fun j => fpx W n X Y p q j y))) ∧ Below base w wr) (fun _ i _ => 32 - (intOf i).toNat)
  case atStart => exact ⟨0, by omega, rfl, ⟨_, _, rfl, HO.out⟩, below_drewN (Below.refl _ _) _⟩
  case round =>
    obtain ⟨k, hk, rfl, ⟨A1, cap1, rfl, hO⟩, hb⟩ := hrel
    have HB := Lib.hid hb
    have HO1 := Lib.hid hO
    have hbs := hb.size
    by_cases hlk : k < 32
    · obtain ⟨c0, c1, c2, c3, c4⟩ := (FB.below hb HF.out hg).cells
      have hi := fidx_lt HOK.out X Y k y
      obtain ⟨b, off, rfl, hbl, hc⟩ := (RS.below hb H.out hC).at_ (by omega)
      obtain ⟨b', off', rfl, hbl', hc'⟩ := (RS.below hb H'.out hC').at_ (by omega)
      obtain ⟨hp0, hp1⟩ := NUM.out _ hi
      obtain ⟨pi, hpi⟩ := Int.eq_ofNat_of_zero_le hp0
      have hck := hc (fidx W n X Y k y) (by omega)
      simp only [iv] at hck
      rw [hpi] at hck hp1
      have hgc : fcol W X k < 8 * W := Nat.mod_lt _ (by omega)
      have ecol : ((k : Int) + (X : Int)) % (8 * (W : Int)) = (fcol W X k : Int) := by unfold fcol; simp
      have eidx : (frow W n Y y : Int) / 8 * (W : Int) + (fcol W X k : Int) / 8 = (fidx W n X Y k y : Int) := by
        unfold fidx
        simp
      have q3 : 0 ≤ (frow W n Y y : Int) / 8 * (W : Int) ∧ (frow W n Y y : Int) / 8 * (W : Int) ≤ 64 := ⟨Int.mul_nonneg (by omega) (by omega), by omega⟩
      obtain ⟨q3, q4⟩ := q3
      have q5 : pi < m := by omega
      have hmin : ∃ nn : Nat, 1 ≤ nn ∧ nn + fcol W X k % 8 ≤ 8 ∧ k + nn ≤ 32 ∧ ((8 - (fcol W X k : Int) % 8 = (nn : Int) ∧ (nn : Int) ≤ 32 - (k : Int)) ∨ (32 - (k : Int) = (nn : Int) ∧ ¬ (8 - (fcol W X k : Int) % 8 ≤ (nn : Int)))) := by
        by_cases h : 8 - fcol W X k % 8 ≤ 32 - k
        · exact ⟨8 - fcol W X k % 8, by omega, by omega, by omega, .inl ⟨by omega, by omega⟩⟩
        · exact ⟨32 - k, by omega, by omega, by omega, .inr ⟨by omega, by omega⟩⟩
      obtain ⟨nn, hnn1, hnn2, hnn3, emin⟩ := hmin
      obtain ⟨kk, hkk⟩ : ∃ kk : Nat, frow W n Y y % 8 * 8 + fcol W X k % 8 = kk := ⟨_, rfl⟩
      have hk64 : kk + nn ≤ 64 := by omega
      have epx : (frow W n Y y : Int) % 8 * 8 + (fcol W X k : Int) % 8 = (kk : Int) := by omega
      have HC := Lib.hid hc'
      have hrun : ∀ j, j < nn → fpx W n X Y p q (k + j) y = q pi (kk + j) := fun j hj => by
        rw [fpx_run HOK.out X Y q k j y (by omega), hpi, hkk]
        rfl
      have HRUN := Lib.hid hrun
      clear hc hc' hb hO hpi hp0 hkk hrun
      generalize fcol W X k = cl at *
      generalize frow W n Y y = rw' at *
      generalize fidx W n X Y k y = ix at *
      have hsl := slice64 b' (off' + pi * 64) kk nn hnn1 hk64
      go_wp2
      (try rw [ecol])
      go_quiet (fail)
      have hcell : ∀ j, j < nn * 1 → wr.cell? ⟨b', off' + pi * 64 + kk + j, none⟩ = some (iv (fun j => fpx W n X Y p q j y) (k * 1 + j)) := fun j hj => by
        have := HC.out (pi * 64 + (kk + j)) (by omega)
        rw [tc_at q pi _ (by omega)] at this
        rw [show off' + pi * 64 + kk + j = off' + (pi * 64 + (kk + j)) by omega, this]
        simp only [iv, Nat.mul_one]
        rw [HRUN.out j (by omega)]
      have HCELL := Lib.hid hcell
      have HO2 : Hid (wr.ownsRow base 3 1 (.slice A1 k cap1) k ((List.range (k * 1)).map (iv fun j => fpx W n X Y p q j y))) := Lib.hid (by rw [Nat.mul_one]; exact HO1.out)
      have hbw : base ≤ wr.heap.size := by omega
      clear hcell
      rcases emin with ⟨em1, em2⟩ | ⟨em1, em2⟩
      all_goals
        go_wp2_with (at_builtin; refine wpList_append_all Try.underlying23 info3 rfl (by omega) (by decide) rfl _ _ rfl base k nn cap1 (64 - kk) b' (off' + pi * 64 + kk) A1 (iv fun j => fpx W n X Y p q j y) rfl rfl HO2.out HCELL.out (fun _ _ => rfl) (by omega) hbw ?_; intro A' cap' w3 hown3 hO_w3)
        go_roundw
        case rel => exact ⟨k + nn, by omega, by go_num, ⟨A', cap', rfl, by rw [Nat.mul_one] at hown3; exact hown3⟩, (below_drewN HB.out _).trans hO_w3⟩
        case measure => simp [intOf]; omega
    · have hk32 : k = 32 := by omega
      subst hk32
      clear hb hO
      go_wp2
      go_ret
      exact ⟨_, _, rfl, HO1.out, HB.out⟩

/-- How many values a line has. -/
def lnN (v : Bool) : Nat := if v then 32 else 0
theorem lnN_le (v : Bool) : lnN v ≤ 32 := by cases v <;> decide
/-- The values of a line. -/
def lnV (W : Int) (n : Nat) (X Y : Int) (p : Nat → Int) (q : Nat → Nat → Int) (y : Int) : Nat → Int := fun j => fpx W.toNat n X.toNat Y.toNat p q j y.toNat
theorem make32 (W : World) : (Instr.makeSlice 23 (.int .i64 0) (.int .i64 32)).run Try.prog W = .ok (.slice (some ⟨W.heap.size, 0, none⟩) 0 32) (W.alloc (.cells (ca 32 fun _ => .int .i64 0) 3)) := by
  obtain ⟨i, hi, hz, hs, hb⟩ := info_parts info3
  have hr := run_make (P := Try.prog) W 23 3 i _ Try.underlying23 hi hz .i64 .i64 0 32 (by omega) (by omega) (by rw [hb]; omega) (by omega)
  rw [hr, hs]
  simp only [Int.toNat_natCast, Nat.mul_one, Value.cells]
  have e := made_ca (.int .i64 0) 32
  rw [← e]
  rfl

set_option maxHeartbeats 1000000 in
theorem iln_c (W : Int) (A : Option Addr) (n c : Nat) (B : Option Addr) (m d : Nat) (X Y y : Int) (p : Nat → Int) (q : Nat → Nat → Int) (v : Bool) (hv : (fvd W n m X Y p q && inB y 0 15) = v) (w : World) {C C' : Nat} (h : RS w C 1 A n (iv p)) (h' : RS w C' 64 B m (tc q)) (hC : C ≤ w.heap.size) (hC' : C' ≤ w.heap.size) (hn : n ≤ 1048576) (hm : m ≤ 1048576) :
    Calls Try.prog 14 #[fdV W A n c B m d X Y, .int .i64 y] w (Gives 3 1 (lnN v) (iv (lnV W n X Y p q y)) w) := by
  have H := Lib.hid h
  have H' := Lib.hid h'
  clear h h'
  have G0 : ∀ w', Below w.heap.size w w' → Gives 3 1 (lnN false) (iv (lnV W n X Y p q y)) w (.returned (.slice none 0 0)) w' := fun w' hb => ⟨none, 0, rfl, own_nil w' _ _ _ _, hb⟩
  have HG := Lib.hid G0
  clear G0
  cases hf : fvd W n m X Y p q
  · have HF := Lib.hid hf
    have hv' : false = v := by rw [← hv, hf]; rfl
    subst hv'
    clear hf hv
    go_enter Try.func14, Try.ntmps14
    go_wp2_with (first | (go_at_call 23; (refine (ifv_c _ _ _ _ _ _ _ _ _ p q _ HF.out _ (C := C) (C' := C') (H.out.alloc hC _) (H'.out.alloc hC' _) (by ((try simp only [World.size_alloc, World.size_setCell, World.size_drew]) <;> omega)) (by ((try simp only [World.size_alloc, World.size_setCell, World.size_drew]) <;> omega)) hn hm).mono ?_; rintro e w1 ⟨rfl, hO_w1⟩; have hz_w1 := hO_w1.size; (try simp only [World.size_alloc, World.size_setCell, World.size_drew] at hz_w1); have hs_w1_0 : w.heap.size < w1.heap.size := (by omega); have c_w1_0 := fun o => (bcell hO_w1).1 (w.heap.size) o (by (try simp only [World.size_alloc, World.size_setCell, World.size_drew]) <;> omega); have f_w1_0 := fun o => (bcell hO_w1).2 (w.heap.size) o (by (try simp only [World.size_alloc, World.size_setCell, World.size_drew]) <;> omega))))
    go_ret
    refine HG.out _ ?_
    (repeat (first | with_reducible exact Below.refl _ _ | ((with_reducible refine viaO (by assumption) ?_ ?_ ?_) <;> try ((try simp only [World.size_alloc, World.size_setCell, World.size_drew]) <;> omega)) | ((with_reducible refine Below.alloc ?_ ?_ _) <;> try ((try simp only [World.size_alloc, World.size_setCell, World.size_drew]) <;> omega)) | ((with_reducible refine Below.setCell ?_ ?_ _) <;> try ((try simp only [World.size_alloc, World.size_setCell, World.size_drew]) <;> omega)) | (with_reducible refine below_drewN ?_ _) | (with_reducible refine Below.drew ?_) | ((with_reducible refine via (by assumption) ?_ ?_) <;> try ((try simp only [World.size_alloc, World.size_setCell, World.size_drew]) <;> omega))))
  · have HF := Lib.hid hf
    cases hy : inB y 0 15
    · have HY := Lib.hid hy
      have hv' : false = v := by rw [← hv, hf, hy]; rfl
      subst hv'
      clear hf hv hy
      go_enter Try.func14, Try.ntmps14
      go_wp2_with (first | (go_at_call 23; (refine (ifv_c _ _ _ _ _ _ _ _ _ p q _ HF.out _ (C := C) (C' := C') (H.out.alloc hC _) (H'.out.alloc hC' _) (by ((try simp only [World.size_alloc, World.size_setCell, World.size_drew]) <;> omega)) (by ((try simp only [World.size_alloc, World.size_setCell, World.size_drew]) <;> omega)) hn hm).mono ?_; rintro e w1 ⟨rfl, hO_w1⟩; have hz_w1 := hO_w1.size; (try simp only [World.size_alloc, World.size_setCell, World.size_drew] at hz_w1); have hs_w1_0 : w.heap.size < w1.heap.size := (by omega); have c_w1_0 := fun o => (bcell hO_w1).1 (w.heap.size) o (by (try simp only [World.size_alloc, World.size_setCell, World.size_drew]) <;> omega); have f_w1_0 := fun o => (bcell hO_w1).2 (w.heap.size) o (by (try simp only [World.size_alloc, World.size_setCell, World.size_drew]) <;> omega))) | (go_at_call 36; (with_reducible refine (within_c y 0 15 _ HY.out _).mono ?_); rintro e w' ⟨rfl, rfl⟩))
      go_ret
      refine HG.out _ ?_
      (repeat (first | with_reducible exact Below.refl _ _ | ((with_reducible refine viaO (by assumption) ?_ ?_ ?_) <;> try ((try simp only [World.size_alloc, World.size_setCell, World.size_drew]) <;> omega)) | ((with_reducible refine Below.alloc ?_ ?_ _) <;> try ((try simp only [World.size_alloc, World.size_setCell, World.size_drew]) <;> omega)) | ((with_reducible refine Below.setCell ?_ ?_ _) <;> try ((try simp only [World.size_alloc, World.size_setCell, World.size_drew]) <;> omega)) | (with_reducible refine below_drewN ?_ _) | (with_reducible refine Below.drew ?_) | ((with_reducible refine via (by assumption) ?_ ?_) <;> try ((try simp only [World.size_alloc, World.size_setCell, World.size_drew]) <;> omega))))
    · have HY := Lib.hid hy
      have hv' : true = v := by rw [← hv, hf, hy]; rfl
      subst hv'
      obtain ⟨W', X', Y', rfl, rfl, rfl, hX, hY, hok⟩ := fok_of hf
      obtain ⟨y0, y1⟩ := inB_true.1 hy
      obtain ⟨y', rfl⟩ := Int.eq_ofNat_of_zero_le y0
      have hy' : y' ≤ 15 := by omega
      have HOK := Lib.hid hok
      have hmk := make32
      clear hf hv hy y0 y1 hok
      go_enter Try.func14, Try.ntmps14
      go_wp2_with (first | ((go_at_call 23; (refine (ifv_c _ _ _ _ _ _ _ _ _ p q _ HF.out _ (C := C) (C' := C') (H.out.alloc hC _) (H'.out.alloc hC' _) (by ((try simp only [World.size_alloc, World.size_setCell, World.size_drew]) <;> omega)) (by ((try simp only [World.size_alloc, World.size_setCell, World.size_drew]) <;> omega)) hn hm).mono ?_; rintro e w1 ⟨rfl, hO_w1⟩; have hz_w1 := hO_w1.size; (try simp only [World.size_alloc, World.size_setCell, World.size_drew] at hz_w1); have hs_w1_0 : w.heap.size < w1.heap.size := (by omega); have c_w1_0 := fun o => (bcell hO_w1).1 (w.heap.size) o (by (try simp only [World.size_alloc, World.size_setCell, World.size_drew]) <;> omega); have f_w1_0 := fun o => (bcell hO_w1).2 (w.heap.size) o (by (try simp only [World.size_alloc, World.size_setCell, World.size_drew]) <;> omega))); have hF1 := FB.below hO_w1 (FB.new w 26 W' A n c B m d X' Y') (by simp); have HF1 := Lib.hid hF1; clear hF1) | (go_at_call 36; (with_reducible refine (within_c y' 0 15 _ HY.out _).mono ?_); rintro e w' ⟨rfl, rfl⟩))
      obtain ⟨c0, c1, c2, c3, c4⟩ := HF1.out.cells
      have hs := World.new_ne w1 ⟨w.heap.size, 3, none⟩ c3
      go_region_held3 (fun w' => w'.cell? ⟨w.heap.size, 3, none⟩ = some (.int .i64 X') ∧ w'.cell? ⟨w.heap.size, 4, none⟩ = some (.int .i64 Y')) (first | assumption | go_keep) (first | (go_at_call 38; refine (idl_c w.heap.size 26 W' n m A c B d X' Y' X' Y' y' p q _ (C := C) (C' := C') (base := w1.heap.size) HOK.out (HF1.out.drew.alloc _) (RS.alloc (RS.drew (by have h1 := H.out; (repeat (first | with_reducible assumption | ((with_reducible refine RS.below (by assumption) ?_ ?_) <;> try ((try simp only [World.size_alloc, World.size_setCell, World.size_drew]) <;> omega)) | ((with_reducible refine RS.alloc ?_ ?_ _) <;> try ((try simp only [World.size_alloc, World.size_setCell, World.size_drew]) <;> omega)) | ((with_reducible refine RS.setRow ?_ ?_ _) <;> try ((try simp only [World.size_alloc, World.size_setCell, World.size_drew]) <;> omega)) | ((with_reducible refine RS.setCell ?_ ?_ _) <;> try ((try simp only [World.size_alloc, World.size_setCell, World.size_drew]) <;> omega)) | ((with_reducible refine RS.setCells ?_ ?_ _ _) <;> try ((try simp only [World.size_alloc, World.size_setCell, World.size_drew]) <;> omega)) | (with_reducible apply RS.drewN) | (with_reducible apply RS.drew))))) (by ((try simp only [World.size_alloc, World.size_setCell, World.size_drew]) <;> omega)) _) (RS.alloc (RS.drew (by have h1 := H'.out; (repeat (first | with_reducible assumption | ((with_reducible refine RS.below (by assumption) ?_ ?_) <;> try ((try simp only [World.size_alloc, World.size_setCell, World.size_drew]) <;> omega)) | ((with_reducible refine RS.alloc ?_ ?_ _) <;> try ((try simp only [World.size_alloc, World.size_setCell, World.size_drew]) <;> omega)) | ((with_reducible refine RS.setRow ?_ ?_ _) <;> try ((try simp only [World.size_alloc, World.size_setCell, World.size_drew]) <;> omega)) | ((with_reducible refine RS.setCell ?_ ?_ _) <;> try ((try simp only [World.size_alloc, World.size_setCell, World.size_drew]) <;> omega)) | ((with_reducible refine RS.setCells ?_ ?_ _ _) <;> try ((try simp only [World.size_alloc, World.size_setCell, World.size_drew]) <;> omega)) | (with_reducible apply RS.drewN) | (with_reducible apply RS.drew))))) (by ((try simp only [World.size_alloc, World.size_setCell, World.size_drew]) <;> omega)) _) hX hY hy' (by ((try simp only [World.size_alloc, World.size_setCell, World.size_drew]) <;> omega)) (by ((try simp only [World.size_alloc, World.size_setCell, World.size_drew]) <;> omega)) (by ((try simp only [World.size_alloc, World.size_setCell, World.size_drew]) <;> omega)) (by ((try simp only [World.size_alloc, World.size_setCell, World.size_drew]) <;> omega)) (World.ownsRow_made w1.drew (e := 3) _ 32 (Nat.le_refl _) (by decide) (ca_size _ _))).mono ?_; rintro e w2 ⟨A', cap', rfl, hown, hO_w2⟩; have hz_w2 := hO_w2.size; have hF2 := FB.below hO_w2 (HF1.out.drew.alloc (.cells (ca 32 fun _ => .int .i64 0) 3)) (by ((try simp only [World.size_alloc, World.size_setCell, World.size_drew]) <;> omega)); obtain ⟨z0, z1, z2, z3, z4⟩ := hF2.cells))
      go_wp2
      go_ret
      refine ⟨A', cap', rfl, own_base (base := w1.heap.size) hown (by omega), ?_⟩
      refine Below.trans ?_ (hO_w2.mono (by omega))
      (repeat (first | with_reducible exact Below.refl _ _ | ((with_reducible refine viaO (by assumption) ?_ ?_ ?_) <;> try ((try simp only [World.size_alloc, World.size_setCell, World.size_drew]) <;> omega)) | ((with_reducible refine Below.alloc ?_ ?_ _) <;> try ((try simp only [World.size_alloc, World.size_setCell, World.size_drew]) <;> omega)) | ((with_reducible refine Below.setCell ?_ ?_ _) <;> try ((try simp only [World.size_alloc, World.size_setCell, World.size_drew]) <;> omega)) | (with_reducible refine below_drewN ?_ _) | (with_reducible refine Below.drew ?_) | ((with_reducible refine via (by assumption) ?_ ?_) <;> try ((try simp only [World.size_alloc, World.size_setCell, World.size_drew]) <;> omega))))

end Go.Proofs.Ytabioinmpjfflaa
