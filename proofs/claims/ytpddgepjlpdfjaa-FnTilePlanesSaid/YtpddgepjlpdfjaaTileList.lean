/-
  The contracts of the functions on the bytes of tiles. No conditions.
-/
import Derived.Test.YtpddgepjlpdfjaaInts
import Derived.Test.YtpddgepjlpdfjaaTileBits
import Derived.StillTailTactics
namespace Go.Proofs.Ytpddgepjlpdfjaa
set_option linter.all false
set_option linter.unusedSimpArgs false
set_option linter.unusedVariables false
open Go.ChangeShapes Go.WideShapes Go.ChangeAt Go.RowKit

/-- Are the first n numbers bytes? -/
def byt (n : Nat) (p : Nat → Int) : Bool := (List.range n).all fun i => inB (p i) 0 255
theorem byt_true {n : Nat} {p : Nat → Int} : byt n p = true ↔ ∀ i, i < n → inB (p i) 0 255 = true := by simp [byt]
theorem byt_no {n k : Nat} {p : Nat → Int} (hk : k < n) (h : inB (p k) 0 255 = false) : byt n p = false := by
  cases hv : byt n p
  · rfl
  · have := byt_true.1 hv k hk
    rw [h] at this; cases this

theorem iab_c (A : Option Addr) (n cap : Nat) (p : Nat → Int) (v : Bool) (hv : byt n p = v) (w : World) {B : Nat} (h : RS w B 1 A n (iv p)) (hn : n ≤ 1048576) :
    Calls Try.prog 51 #[.slice A n cap] w fun e w' => e = .returned (.bool v) ∧ w = w' := by
  have H := Lib.hid h
  have HV := Lib.hid hv
  clear h hv
  go_enter Try.func51, Try.ntmps51
  go_wp2
  go_loop [7] (fun i => ∃ k : Nat, k ≤ n ∧ i = .int .i64 k ∧ Hid (∀ j, j < k → inB (p j) 0 255 = true)) (fun i => n - (intOf i).toNat)
  case atStart => exact ⟨0, by omega, rfl, fun j hj => by omega⟩
  case round =>
    obtain ⟨k, hk, rfl, hall⟩ := hrel
    by_cases hlt : k < n
    · obtain ⟨b, off, rfl, hbl, hc⟩ := H.out.at_ (by omega)
      have ck := hc k (by omega)
      clear hc
      cases hb : inB (p k) 0 255
      · have HB := Lib.hid hb
        clear hb
        go_wp2_with (go_at_call 55; refine (isByte_c _ _ HB.out _).mono ?_; rintro e w1 ⟨rfl, rfl⟩)
        go_ret
        exact ⟨ret_bool ((byt_no hlt HB.out).symm.trans HV.out), rfl⟩
      · have HB := Lib.hid hb
        clear hb
        go_wp2_with (go_at_call 55; refine (isByte_c _ _ HB.out _).mono ?_; rintro e w1 ⟨rfl, rfl⟩)
        go_round
        case rel => exact ⟨k + 1, by omega, by go_num, fun j hj => by
          by_cases e : j = k
          · subst e; exact HB.out
          · exact hall.out j (by omega)⟩
        case measure => simp [intOf]; omega
    · have hkn : k = n := by omega
      subst hkn
      go_wp2
      go_ret
      exact ⟨ret_bool ((byt_true.2 hall.out).symm.trans HV.out), rfl⟩

theorem slb_c (A : Option Addr) (n cap : Nat) (p : Nat → Int) (v : Bool) (hv : (byt n p && n == 16) = v) (w : World) {B : Nat} (h : RS w B 1 A n (iv p)) (hn : n ≤ 1048576) :
    Calls Try.prog 50 #[.slice A n cap, .int .i64 16] w fun e w' => e = .returned (.bool v) ∧ w = w' := by
  have H := Lib.hid h
  have HV := Lib.hid hv
  clear h hv
  go_enter Try.func50, Try.ntmps50
  go_wp2
  go_loop [5] (fun i => ∃ k : Nat, k ≤ n ∧ i = .int .i64 k ∧ Hid (∀ j, j < k → inB (p j) 0 255 = true)) (fun i => n - (intOf i).toNat)
  case atStart => exact ⟨0, by omega, rfl, fun j hj => by omega⟩
  case round =>
    obtain ⟨k, hk, rfl, hall⟩ := hrel
    by_cases hlt : k < n
    · obtain ⟨b, off, rfl, hbl, hc⟩ := H.out.at_ (by omega)
      have ck := hc k (by omega)
      clear hc
      cases hb : inB (p k) 0 255
      · have HB := Lib.hid hb
        clear hb
        go_wp2_with (go_at_call 56; refine (l1Byte_c _ _ HB.out _).mono ?_; rintro e w1 ⟨rfl, rfl⟩)
        go_ret
        exact ⟨ret_bool (by rw [← HV.out, byt_no hlt HB.out]; rfl), rfl⟩
      · have HB := Lib.hid hb
        clear hb
        go_wp2_with (go_at_call 56; refine (l1Byte_c _ _ HB.out _).mono ?_; rintro e w1 ⟨rfl, rfl⟩)
        go_round
        case rel => exact ⟨k + 1, by omega, by go_num, fun j hj => by
          by_cases e : j = k
          · subst e; exact HB.out
          · exact hall.out j (by omega)⟩
        case measure => simp [intOf]; omega
    · have hkn : k = n := by omega
      subst hkn
      go_wp2
      go_ret
      refine ⟨ret_bool ?_, rfl⟩
      rw [← HV.out, byt_true.2 hall.out]
      simp only [Bool.true_and]
      rw [Bool.eq_iff_iff]
      simp
      try omega

theorem or_bit {a b : Int} (ha : 0 ≤ a ∧ a ≤ 255) (hb : b = 0 ∨ b = 1) : bits .or .i64 (a * 2) b = 2 * a + b := by
  obtain ⟨n, rfl⟩ := Int.eq_ofNat_of_zero_le ha.1
  have h : ∀ n < 256, bits .or .i64 (((n : Nat) : Int) * 2) 0 = 2 * ((n : Nat) : Int) + 0 ∧ bits .or .i64 (((n : Nat) : Int) * 2) 1 = 2 * ((n : Nat) : Int) + 1 := by decide +kernel
  rcases hb with rfl | rfl
  · exact (h n (by omega)).1
  · exact (h n (by omega)).2
theorem and_bit {a : Int} (ha : 0 ≤ a ∧ a ≤ 255) : bits .and .i64 a 1 = a % 2 := by
  obtain ⟨n, rfl⟩ := Int.eq_ofNat_of_zero_le ha.1
  have h : ∀ n < 256, bits .and .i64 ((n : Nat) : Int) 1 = ((n : Nat) : Int) % 2 := by decide +kernel
  exact h n (by omega)

theorem itb_yes (p : Nat → Int) (hv : tvd p = true) (w : World) : Calls Try.prog 34 #[.agg (tv p)] w (Gives 3 1 16 (iv (tb p)) w) := by
  have hall := tvd_true.1 hv
  have HA := Lib.hid hall
  have HV := Lib.hid hv
  clear hv hall
  have hT := TB.new w 26 p
  have hmk : ∀ W : World, (Instr.makeSlice 38 (.int .i64 16) (.int .i64 16)).run Try.prog W = .ok (.slice (some ⟨W.heap.size, 0, none⟩) 16 16) (W.alloc (.cells (ca 16 fun _ => .int .i64 0) 3)) := makeInts 16 (by omega)
  go_enter Try.func34, Try.ntmps34
  go_wp2_with ((with_reducible refine atLoad (ty := 26) ?_); refine wpList_load_tile rfl 26 _ rfl _ rfl 26 _ (hT) _ Try.underlying26 rfl size26 ?_)
  go_wp2_with fail
  refine (itv_c _ _ HV.out _).mono ?_
  rintro e w1 ⟨rfl, hO_w1⟩
  have hz_w1 := hO_w1.size
  (try simp only [World.size_alloc, World.size_setCell, World.size_drew] at hz_w1)
  have hT1 := hT.below hO_w1 (by simp)
  clear hT
  go_wp2_with ((with_reducible refine atLoad (ty := 22) ?_); refine wpList_load_tile rfl 22 _ rfl _ rfl 26 _ (hT1.alloc _) _ Try.underlying22 rfl size22 ?_)
  clear hmk hT1
  go_loopw [12] (fun i wr => ∃ k : Nat, k ≤ 64 ∧ i = .int .i64 k ∧ CB wr w1.heap.size 3 16 (iv (tbK p k)) ∧ Below w.heap.size w wr) (fun i _ => 64 - (intOf i).toNat)
  case atStart =>
    refine ⟨0, by omega, rfl, (CB.new _ _ _ _).congr (fun i _ => by simp [tbK_0]), ?_⟩
    (repeat (first | with_reducible exact Below.refl _ _ | ((with_reducible refine viaO (by assumption) ?_ ?_ ?_) <;> try ((try simp only [World.size_alloc, World.size_setCell, World.size_drew]) <;> omega)) | ((with_reducible refine Below.alloc ?_ ?_ _) <;> try ((try simp only [World.size_alloc, World.size_setCell, World.size_drew]) <;> omega)) | ((with_reducible refine Below.setCell ?_ ?_ _) <;> try ((try simp only [World.size_alloc, World.size_setCell, World.size_drew]) <;> omega)) | (with_reducible refine below_drewN ?_ _) | (with_reducible refine Below.drew ?_) | ((with_reducible refine via (by assumption) ?_ ?_) <;> try ((try simp only [World.size_alloc, World.size_setCell, World.size_drew]) <;> omega))))
  case round =>
    obtain ⟨k, hk, rfl, h1, hb⟩ := hrel
    have H1 := Lib.hid h1
    have HB := Lib.hid hb
    by_cases hlk : k < 64
    · have hix := index_tile p k
      have c1 := h1.cell (k / 8) (by omega)
      have f1 := h1.frozen (k / 8)
      have c2 := h1.cell (8 + k / 8) (by omega)
      have f2 := h1.frozen (8 + k / 8)
      obtain ⟨b0, b1⟩ := inB_true.1 (HA.out k hlk)
      have r1 := tbK_byte p k (k / 8)
      have r2 := tbK_byte p k (8 + k / 8)
      clear h1 hb
      go_wp2
      go_roundw
      case rel =>
        refine ⟨k + 1, by omega, by go_num, ((H1.out.put (k / 8) _).put (8 + k / 8) _).congr fun i hi => ?_, (HB.out.setCell (by simp <;> omega) _).setCell (by simp <;> omega) _⟩
        have e1 : bits .and .i64 (p k) 1 = dg p k 0 := and_bit (by omega)
        have e2 : p k / 2 = dg p k 1 := by unfold dg; rw [if_neg (by decide)]; omega
        rw [e1, e2, or_bit r1 (dg_01 _ _ _), or_bit r2 (dg_01 _ _ _)]
        show _ = Value.int .i64 (tbK p (k + 1) i)
        rw [← tbK_step p k hlk i hi]
        unfold updV upd
        split
        · rfl
        · split <;> rfl
      case measure => simp [intOf]; omega
    · have hk64 : k = 64 := by omega
      subst hk64
      clear h1 hb
      go_wp2
      go_ret
      refine ⟨_, _, rfl, ?_, HB.out⟩
      exact (H1.out.congr (d := iv (tb p)) fun i hi => by simp [tbK_end]).own (by omega) (by unfold maxLen; omega)

theorem itb_no (p : Nat → Int) (hv : tvd p = false) (w : World) : Calls Try.prog 34 #[.agg (tv p)] w fun e w' => e = .returned (.slice none 0 0) ∧ Below w.heap.size w w' := by
  have HV := Lib.hid hv
  clear hv
  have hT := TB.new w 26 p
  go_enter Try.func34, Try.ntmps34
  go_wp2_with ((with_reducible refine atLoad (ty := 26) ?_); refine wpList_load_tile rfl 26 _ rfl _ rfl 26 _ (hT) _ Try.underlying26 rfl size26 ?_)
  go_wp2_with fail
  refine (itv_c _ _ HV.out _).mono ?_
  rintro e w1 ⟨rfl, hO_w1⟩
  have hz_w1 := hO_w1.size
  (try simp only [World.size_alloc, World.size_setCell, World.size_drew] at hz_w1)
  go_wp2
  go_ret
  refine ⟨rfl, ?_⟩
  (repeat (first | with_reducible exact Below.refl _ _ | ((with_reducible refine viaO (by assumption) ?_ ?_ ?_) <;> try ((try simp only [World.size_alloc, World.size_setCell, World.size_drew]) <;> omega)) | ((with_reducible refine Below.alloc ?_ ?_ _) <;> try ((try simp only [World.size_alloc, World.size_setCell, World.size_drew]) <;> omega)) | ((with_reducible refine Below.setCell ?_ ?_ _) <;> try ((try simp only [World.size_alloc, World.size_setCell, World.size_drew]) <;> omega)) | (with_reducible refine below_drewN ?_ _) | (with_reducible refine Below.drew ?_) | ((with_reducible refine via (by assumption) ?_ ?_) <;> try ((try simp only [World.size_alloc, World.size_setCell, World.size_drew]) <;> omega))))

theorem stb_no (p : Nat → Int) (hv : tvd p = false) (w : World) : Calls Try.prog 33 #[.agg (tv p)] w (Gives 3 1 0 (iv (tb p)) w) := by
  have HV := Lib.hid hv
  clear hv
  have hT := TB.new w 26 p
  go_enter Try.func33, Try.ntmps33
  go_wp2
  refine wp_loop_once ?_
  go_wp2_with ((with_reducible refine atLoad (ty := 26) ?_); refine wpList_load_tile_g (by first | rfl | (go_simp; done) | (go_simp; omega) | (simp [Region.wanted, yielded]; omega)) 26 _ rfl _ rfl 26 _ (hT.alloc _) _ Try.underlying26 rfl size26 ?_)
  go_wp2_with fail
  refine (stv_c _ _ HV.out _).mono ?_
  rintro e w1 ⟨rfl, hO_w1⟩
  have hz_w1 := hO_w1.size
  (try simp only [World.size_alloc, World.size_setCell, World.size_drew] at hz_w1)
  go_wp2
  go_ret
  refine ⟨_, 0, rfl, ?_, ?_⟩
  · refine own_below ?_ hO_w1 (Nat.le_refl _)
    have := own_empty (w.alloc (.cells (tv p) 26)) 3 1 w.heap.size (by simp)
    rwa [World.size_alloc] at this
  · (repeat (first | with_reducible exact Below.refl _ _ | ((with_reducible refine viaO (by assumption) ?_ ?_ ?_) <;> try ((try simp only [World.size_alloc, World.size_setCell, World.size_drew]) <;> omega)) | ((with_reducible refine Below.alloc ?_ ?_ _) <;> try ((try simp only [World.size_alloc, World.size_setCell, World.size_drew]) <;> omega)) | ((with_reducible refine Below.setCell ?_ ?_ _) <;> try ((try simp only [World.size_alloc, World.size_setCell, World.size_drew]) <;> omega)) | (with_reducible refine below_drewN ?_ _) | (with_reducible refine Below.drew ?_) | ((with_reducible refine via (by assumption) ?_ ?_) <;> try ((try simp only [World.size_alloc, World.size_setCell, World.size_drew]) <;> omega))))

theorem dg_walk (p : Nat → Int) (x h : Nat) (hp : 0 ≤ p x) (hh : h < 2) : (p x / 2 ^ h).tmod 2 = dg p x h := by
  have h2 : (0 : Int) < 2 ^ h := Int.pow_pos (by omega)
  rw [Int.tmod_eq_emod_of_nonneg (Int.ediv_nonneg hp (by omega))]
  unfold dg
  rcases (show h = 0 ∨ h = 1 by omega) with e | e <;> subst e <;> simp
theorem stb_yes (p : Nat → Int) (hv : tvd p = true) (w : World) : Calls Try.prog 33 #[.agg (tv p)] w (Gives 3 1 16 (iv (tb p)) w) := by
  have hall := tvd_true.1 hv
  have HA := Lib.hid hall
  have HV := Lib.hid hv
  clear hv hall
  go_enter Try.func33, Try.ntmps33
  go_wp2
  go_loopw [3, 4] (fun v i wr => ∃ k : Nat, k ≤ 16 ∧ i = .int .i64 k ∧ (∃ A cap, v = .slice A k cap ∧ wr.ownsRow (w.heap.size + 1) 3 1 (.slice A k cap) k ((List.range k).map (iv (tb p)))) ∧ TB wr w.heap.size 26 p ∧ Below w.heap.size w wr) (fun _ i _ => 16 - (intOf i).toNat)
  case atStart =>
    refine ⟨0, by omega, rfl, ⟨_, 0, rfl, ?_⟩, (TB.new w _ _).alloc _, ?_⟩
    · have := own_empty (w.alloc (.cells (tv p) 26)) 3 1 (w.heap.size + 1) (by simp)
      rwa [World.size_alloc] at this
    · (repeat (first | with_reducible exact Below.refl _ _ | ((with_reducible refine viaO (by assumption) ?_ ?_ ?_) <;> try ((try simp only [World.size_alloc, World.size_setCell, World.size_drew]) <;> omega)) | ((with_reducible refine Below.alloc ?_ ?_ _) <;> try ((try simp only [World.size_alloc, World.size_setCell, World.size_drew]) <;> omega)) | ((with_reducible refine Below.setCell ?_ ?_ _) <;> try ((try simp only [World.size_alloc, World.size_setCell, World.size_drew]) <;> omega)) | (with_reducible refine below_drewN ?_ _) | (with_reducible refine Below.drew ?_) | ((with_reducible refine via (by assumption) ?_ ?_) <;> try ((try simp only [World.size_alloc, World.size_setCell, World.size_drew]) <;> omega))))
  case round =>
    obtain ⟨k, hk, rfl, ⟨A, cap, rfl, h1⟩, hT, hb⟩ := hrel
    have H1 := Lib.hid h1
    have HB := Lib.hid hb
    have hlt := hT.lt
    by_cases hlk : k < 16
    · clear h1 hb
      go_wp2_with ((with_reducible refine atLoad (ty := 26) ?_); refine wpList_load_tile_g (by first | rfl | (go_simp; done) | (go_simp; omega) | (simp [Region.wanted, yielded]; omega)) 26 _ rfl _ rfl 26 _ (hT) _ Try.underlying26 rfl size26 ?_)
      go_wp2_with fail
      refine (stv_c _ _ HV.out _).mono ?_
      rintro e w2 ⟨rfl, hO_w2⟩
      have hz_w2 := hO_w2.size
      (try simp only [World.size_alloc, World.size_setCell, World.size_drew] at hz_w2)
      have hT2 := hT.below hO_w2 hT.lt
      have HT2 := Lib.hid hT2
      have H2 := Lib.hid (own_below H1.out hO_w2 (Nat.le_refl _))
      have HB2 := Lib.hid (via hO_w2 HB.out HB.out.size)
      have hcell : ∀ m, m < 8 → w2.cell? ⟨w.heap.size, k % 8 * 8 + m, none⟩ = some (.int .i64 (p (k % 8 * 8 + m))) := fun m hm => hT2.cell _ (by omega)
      have HC := Lib.hid hcell
      clear hT hT2 hcell
      go_wp2
      go_loop [5, 6] (fun u x => ∃ m : Nat, m ≤ 8 ∧ x = .int .i64 m ∧ u = .int .i64 (rf (fun x => dg p (k % 8 * 8 + x) (k / 8)) m)) (fun _ x => 8 - (intOf x).toNat)
      case atStart => exact ⟨0, by omega, rfl, rfl⟩
      case round =>
        obtain ⟨m, hm, rfl, rfl⟩ := hrel
        have r1 := rf_le (fun x => dg p (k % 8 * 8 + x) (k / 8)) (fun x => dg_01 _ _ _) m hm
        by_cases hlm : m < 8
        · have c1 := HC.out m hlm
          obtain ⟨b0, b1⟩ := inB_true.1 (HA.out (k % 8 * 8 + m) (by omega))
          go_wp2
          go_round
          case rel =>
            refine ⟨m + 1, by omega, by go_num, ?_⟩
            rw [dg_walk p _ _ b0 (by omega)]
            have d1 := dg_01 p (k % 8 * 8 + m) (k / 8)
            rw [IntWalk.wrap64_in _ (by omega)]
            rfl
          case measure => simp [intOf]; omega
        · have hm8 : m = 8 := by omega
          subst hm8
          have hbase : w.heap.size + 1 ≤ w2.heap.size := by omega
          go_wp2_with (at_builtin; refine wpList_append_one Try.underlying38 info3 rfl (by decide) rfl _ _ rfl (w.heap.size + 1) k cap A (iv (tb p)) rfl rfl H2.out rfl rfl (by omega) hbase ?_; intro A' cap' w3 hown3 hO_w3)
          go_roundw
          case rel => exact ⟨k + 1, by omega, by go_num, ⟨A', cap', rfl, hown3⟩, HT2.out.below hO_w3 (by omega), HB2.out.trans (hO_w3.mono (by omega))⟩
          case measure => simp [intOf]; omega
    · have hkn : k = 16 := by omega
      subst hkn
      clear hT h1 hb
      go_wp2
      go_ret
      exact ⟨A, cap, rfl, own_base H1.out (by omega), HB.out⟩

def tbN (v : Bool) : Nat := if v = true then 16 else 0

theorem itb_c (p : Nat → Int) (v : Bool) (hv : tvd p = v) (w : World) : Calls Try.prog 34 #[.agg (tv p)] w (Gives 3 1 (tbN v) (iv (tb p)) w) := by
  cases v
  · first
      | exact itb_no p hv w
      | exact (itb_no p hv w).mono fun e w' ⟨he, hb⟩ => ⟨none, 0, he, World.ownsRow_nil _ _ _ _, hb⟩
  · exact itb_yes p hv w

theorem stb_c (p : Nat → Int) (v : Bool) (hv : tvd p = v) (w : World) : Calls Try.prog 33 #[.agg (tv p)] w (Gives 3 1 (tbN v) (iv (tb p)) w) := by
  cases v
  · first
      | exact stb_no p hv w
      | exact (stb_no p hv w).mono fun e w' ⟨he, hb⟩ => ⟨none, 0, he, World.ownsRow_nil _ _ _ _, hb⟩
  · exact stb_yes p hv w

/-! ### Reading a tile -/
theorem run_loadVar_tile {w : World} {g : Nat} {t : TypeId} {p : Nat → Int} (hg : TB w g t p) : (loadVar 26 ⟨g, 0, none⟩).run Try.prog w = .ok (.agg (tv p)) w :=
  run_loadVar_row (P := Try.prog) w g t 26 (tv p) (0, 0) _ hg Try.underlying26 rfl (by rw [tv_size]; exact size26)
theorem results_tile2 {fn : Func} {c u : Tmp} (h : fn.results = #[.cell c 26, .tmp u]) (tmps : Array Value) (w : World) (g : Nat) (t : TypeId) (q : Nat → Int) (hp : tmps.getD c undef = .pointer (some ⟨g, 0, none⟩)) (hg : TB w g t q) {x : Value} (hu : tmps.getD u undef = x) :
    (results fn tmps).run Try.prog w = .ok (.tuple #[.agg (tv q), x]) w := by
  subst hu
  have hp' : tmps[c]?.getD undef = .pointer (some ⟨g, 0, none⟩) := by simpa using hp
  simp [results, h, hp', asAddr, run_loadVar_tile hg]
def rdV (n : Nat) (p : Nat → Int) : Bool := byt n p && n == 16
theorem rdV_no {n : Nat} {p : Nat → Int} (h : n ≠ 16) : rdV n p = false := by simp [rdV, h]
def rdR (v : Bool) (l : Nat → Int) : Nat → Int := if v = true then rt l else zeroT
theorem rdR_true (l : Nat → Int) : rdR true l = rt l := rfl
theorem rdR_false (l : Nat → Int) : rdR false l = zeroT := rfl

theorem irt_no (A : Option Addr) (n cap : Nat) (p : Nat → Int) (hv : rdV n p = false) (w : World) {B : Nat} (h : RS w B 1 A n (iv p)) (hB : B ≤ w.heap.size) (hn : n ≤ 1048576) :
    Calls Try.prog 31 #[.slice A n cap] w fun e w' => e = .returned (.tuple #[.agg (tv zeroT), .bool false]) ∧ Below w.heap.size w w' := by
  have H := Lib.hid h
  have hT := TB.new w 26 zeroT
  clear h
  by_cases h16 : n = 16
  · subst h16
    have hb : byt 16 p = false := by simpa [rdV] using hv
    have HB := Lib.hid hb
    clear hb hv
    go_enter Try.func31, Try.ntmps31
    go_wp2_with (first | ((with_reducible refine atAlloc (ty := 26) ?_); refine wpList_alloc_tile rfl 26 rfl zero26 ?_; (try simp only [World.size_alloc, World.size_setCell, setRow_size])) | ((with_reducible refine atBuild (ty := 26) ?_); refine wpList_build_tile rfl 26 rfl build26 ?_) | ((with_reducible refine atStore (ty := 26) ?_); refine wpList_store_tile rfl 26 _ _ rfl _ rfl (zeroT) rfl 26 _ (hT) size26 ?_) | (go_at_call 51; refine (iab_c _ _ _ _ _ HB.out _ (H.out.alloc hB _) (by omega)).mono ?_; rintro e w1 ⟨rfl, rfl⟩))
    refine bodyPost_ret (v := .tuple #[.agg (tv zeroT), .bool false]) (results_tile2 rfl _ _ _ _ zeroT rfl (hT.row _) rfl) rfl ⟨rfl, ?_⟩
    refine below_setRow ?_ (by omega) _
    (repeat (first | with_reducible exact Below.refl _ _ | ((with_reducible refine viaO (by assumption) ?_ ?_ ?_) <;> try ((try simp only [World.size_alloc, World.size_setCell, World.size_drew]) <;> omega)) | ((with_reducible refine Below.alloc ?_ ?_ _) <;> try ((try simp only [World.size_alloc, World.size_setCell, World.size_drew]) <;> omega)) | ((with_reducible refine Below.setCell ?_ ?_ _) <;> try ((try simp only [World.size_alloc, World.size_setCell, World.size_drew]) <;> omega)) | (with_reducible refine below_drewN ?_ _) | (with_reducible refine Below.drew ?_) | ((with_reducible refine via (by assumption) ?_ ?_) <;> try ((try simp only [World.size_alloc, World.size_setCell, World.size_drew]) <;> omega))))
  · have hne : ((n : Int) != 16) = true := by simp; omega
    clear hv
    go_enter Try.func31, Try.ntmps31
    go_wp2_with (first | ((with_reducible refine atAlloc (ty := 26) ?_); refine wpList_alloc_tile rfl 26 rfl zero26 ?_; (try simp only [World.size_alloc, World.size_setCell, setRow_size])) | ((with_reducible refine atBuild (ty := 26) ?_); refine wpList_build_tile rfl 26 rfl build26 ?_) | ((with_reducible refine atStore (ty := 26) ?_); refine wpList_store_tile rfl 26 _ _ rfl _ rfl (zeroT) rfl 26 _ (hT) size26 ?_))
    refine bodyPost_ret (v := .tuple #[.agg (tv zeroT), .bool false]) (results_tile2 rfl _ _ _ _ zeroT rfl (hT.row _) rfl) rfl ⟨rfl, ?_⟩
    refine below_setRow ?_ (by omega) _
    (repeat (first | with_reducible exact Below.refl _ _ | ((with_reducible refine viaO (by assumption) ?_ ?_ ?_) <;> try ((try simp only [World.size_alloc, World.size_setCell, World.size_drew]) <;> omega)) | ((with_reducible refine Below.alloc ?_ ?_ _) <;> try ((try simp only [World.size_alloc, World.size_setCell, World.size_drew]) <;> omega)) | ((with_reducible refine Below.setCell ?_ ?_ _) <;> try ((try simp only [World.size_alloc, World.size_setCell, World.size_drew]) <;> omega)) | (with_reducible refine below_drewN ?_ _) | (with_reducible refine Below.drew ?_) | ((with_reducible refine via (by assumption) ?_ ?_) <;> try ((try simp only [World.size_alloc, World.size_setCell, World.size_drew]) <;> omega))))

theorem upd_step (q : Nat → Int) (k i : Nat) : upd (fun j => if j < k then q j else 0) k (q k) i = if i < k + 1 then q i else 0 := by
  unfold upd
  by_cases e : i = k
  · subst e; simp
  · rw [if_neg e]
    show (if i < k then q i else 0) = _
    by_cases h : i < k
    · rw [if_pos h, if_pos (by omega)]
    · rw [if_neg h, if_neg (by omega)]
theorem shr_byte {a : Int} (n : Nat) (h0 : 0 ≤ a) (h1 : a ≤ 255) : 0 ≤ a / 2 ^ n ∧ a / 2 ^ n ≤ 255 := by
  have h2 : (0 : Int) < 2 ^ n := Int.pow_pos (by omega)
  exact ⟨Int.ediv_nonneg h0 (by omega), Int.le_trans (Int.ediv_le_self _ h0) h1⟩
theorem or_two {a b : Int} (ha : a = 0 ∨ a = 1) (hb : b = 0 ∨ b = 1) : bits .or .i64 a (b * 2) = a + 2 * b := by
  rcases ha with rfl | rfl <;> rcases hb with rfl | rfl <;> decide +kernel
theorem rt_impl (p : Nat → Int) (k : Nat) (b0 : 0 ≤ p (k / 8)) (b1 : p (k / 8) ≤ 255) (b2 : 0 ≤ p (8 + k / 8)) (b3 : p (8 + k / 8) ≤ 255) :
    bits .or .i64 (bits .and .i64 (p (k / 8) / 2 ^ (7 - (k : Int) % 8).toNat) 1) (IntKind.i64.wrap (bits .and .i64 (p (8 + k / 8) / 2 ^ (7 - (k : Int) % 8).toNat) 1 * 2)) = rt p k := by
  rw [and_bit (shr_byte _ b0 b1), and_bit (shr_byte _ b2 b3), IntWalk.i64_in _ (by omega), or_two (by omega) (by omega), show (7 - (k : Int) % 8).toNat = 7 - k % 8 by omega]
  rfl
theorem rt_spec (p : Nat → Int) (k : Nat) (b0 : 0 ≤ p (k / 8)) (b2 : 0 ≤ p (8 + k / 8)) :
    IntKind.i64.wrap ((p (k / 8) / 2 ^ (7 - (k : Int) % 8).toNat).tmod 2 + IntKind.i64.wrap (2 * (p (8 + k / 8) / 2 ^ (7 - (k : Int) % 8).toNat).tmod 2)) = rt p k := by
  have h2 : (0 : Int) < 2 ^ (7 - (k : Int) % 8).toNat := Int.pow_pos (by omega)
  rw [Int.tmod_eq_emod_of_nonneg (Int.ediv_nonneg b0 (by omega)), Int.tmod_eq_emod_of_nonneg (Int.ediv_nonneg b2 (by omega)), IntWalk.i64_in (2 * _) (by omega), IntWalk.i64_in _ (by omega), show (7 - (k : Int) % 8).toNat = 7 - k % 8 by omega]
  rfl

theorem irt_yes (A : Option Addr) (cap : Nat) (p : Nat → Int) (hv : byt 16 p = true) (w : World) {B : Nat} (h : RS w B 1 A 16 (iv p)) (hB : B ≤ w.heap.size) :
    Calls Try.prog 31 #[.slice A 16 cap] w fun e w' => e = .returned (.tuple #[.agg (tv (rt p)), .bool true]) ∧ Below w.heap.size w w' := by
  have HB := Lib.hid hv
  have HA := Lib.hid (byt_true.1 hv)
  obtain ⟨b, off, rfl, hbl, hc⟩ := h.at_ (by omega)
  have H := Lib.hid h
  have HC := Lib.hid hc
  clear hv h hc
  go_enter Try.func31, Try.ntmps31
  go_wp2_with (first | ((with_reducible refine atAlloc (ty := 26) ?_); refine wpList_alloc_tile rfl 26 rfl zero26 ?_; (try simp only [World.size_alloc, World.size_setCell, setRow_size])) | (go_at_call 51; refine (iab_c _ _ _ _ _ HB.out _ (H.out.alloc hB _) (by omega)).mono ?_; rintro e w1 ⟨rfl, rfl⟩))
  go_loopw [16] (fun i wr => ∃ k : Nat, k ≤ 64 ∧ i = .int .i64 k ∧ TB wr (w.heap.size + 1) 26 (fun j => if j < k then rt p j else 0) ∧ TB wr w.heap.size 26 zeroT ∧ Below w.heap.size w wr) (fun i _ => 64 - (intOf i).toNat)
  case atStart =>
    refine ⟨0, by omega, rfl, (TB.new1 w _ _ _).congr (fun i _ => by simp [zeroT]), (TB.new w _ _).alloc _, ?_⟩
    (repeat (first | with_reducible exact Below.refl _ _ | ((with_reducible refine viaO (by assumption) ?_ ?_ ?_) <;> try ((try simp only [World.size_alloc, World.size_setCell, World.size_drew]) <;> omega)) | ((with_reducible refine Below.alloc ?_ ?_ _) <;> try ((try simp only [World.size_alloc, World.size_setCell, World.size_drew]) <;> omega)) | ((with_reducible refine Below.setCell ?_ ?_ _) <;> try ((try simp only [World.size_alloc, World.size_setCell, World.size_drew]) <;> omega)) | (with_reducible refine below_drewN ?_ _) | (with_reducible refine Below.drew ?_) | ((with_reducible refine via (by assumption) ?_ ?_) <;> try ((try simp only [World.size_alloc, World.size_setCell, World.size_drew]) <;> omega))))
  case round =>
    obtain ⟨k, hk, rfl, h1, h2, hb⟩ := hrel
    have H1 := Lib.hid h1
    have H2 := Lib.hid h2
    have HB := Lib.hid hb
    by_cases hlk : k < 64
    · have c1 : wr.cell? ⟨b, off + k / 8, none⟩ = some (.int .i64 (p (k / 8))) := (hb.cell (p := ⟨b, off + k / 8, none⟩) (by show b < _; omega)).trans (HC.out (k / 8) (by omega))
      have c2 : wr.cell? ⟨b, off + (8 + k / 8), none⟩ = some (.int .i64 (p (8 + k / 8))) := (hb.cell (p := ⟨b, off + (8 + k / 8), none⟩) (by show b < _; omega)).trans (HC.out (8 + k / 8) (by omega))
      obtain ⟨b0, b1⟩ := inB_true.1 (HA.out (k / 8) (by omega))
      obtain ⟨b2, b3⟩ := inB_true.1 (HA.out (8 + k / 8) (by omega))
      have c3 := h1.cell k hlk
      have f3 := h1.frozen k
      have e1 : IntKind.i64.wrap ((k : Int) / 8) = (k : Int) / 8 := IntWalk.i64_in _ (by omega)
      have e2 : IntKind.i64.wrap (8 + (k : Int) / 8) = 8 + (k : Int) / 8 := IntWalk.i64_in _ (by omega)
      have e3 : ((k : Int) / 8).toNat = k / 8 := by omega
      have e4 : (8 + (k : Int) / 8).toNat = 8 + k / 8 := by omega
      have i1 : (k : Int) / 8 < 16 := by omega
      have i2 : 8 + (k : Int) / 8 < 16 := by omega
      have i3 : 0 ≤ (k : Int) / 8 := by omega
      have i4 : 0 ≤ 8 + (k : Int) / 8 := by omega
      clear h1 h2 hb
      go_wp2
      go_still_tail 22, (by kernel_rfl)
      clear e1 e2 e3 e4 i1 i2 i3 i4
      have e5 : bits .or .i64 (bits .and .i64 (p (k / 8) / 2 ^ (7 - (k : Int) % 8).toNat) 1) (IntKind.i64.wrap (bits .and .i64 (p (8 + k / 8) / 2 ^ (7 - (k : Int) % 8).toNat) 1 * 2)) = rt p k := rt_impl p k b0 b1 b2 b3
      rw [e5]
      clear e5
      change wpList _ _ _ _ _ wr.drew
      go_wp2
      go_roundw
      case rel =>
        refine ⟨k + 1, by omega, by go_num, ?_, ?_, ?_⟩
        · exact (H1.out.drew.put k (rt p k)).congr (fun i hi => upd_step (rt p) k i)
        · exact H2.out.drew.far (by simp) _
        · exact HB.out.drew.setCell (by simp) _
      case measure => simp [intOf]; omega
    · have hk64 : k = 64 := by omega
      subst hk64
      have h3 : TB wr (w.heap.size + 1) 26 (rt p) := h1.congr fun i hi => by simp [hi]
      clear h1 hb
      go_wp2_with (first | ((with_reducible refine atLoad (ty := 26) ?_); refine wpList_load_tile rfl 26 _ rfl _ rfl 26 _ (h3) _ Try.underlying26 rfl size26 ?_) | ((with_reducible refine atStore (ty := 26) ?_); refine wpList_store_tile rfl 26 _ _ rfl _ rfl (rt p) rfl 26 _ (h2) size26 ?_))
      refine bodyPost_ret (v := .tuple #[.agg (tv (rt p)), .bool true]) (results_tile2 rfl _ _ _ _ _ rfl (h2.row _) rfl) rfl ⟨rfl, ?_⟩
      exact below_setRow HB.out (by omega) _

theorem srt_no (A : Option Addr) (n cap : Nat) (p : Nat → Int) (hv : rdV n p = false) (w : World) {B : Nat} (h : RS w B 1 A n (iv p)) (hB : B ≤ w.heap.size) (hn : n ≤ 1048576) :
    Calls Try.prog 29 #[.slice A n cap] w fun e w' => e = .returned (.tuple #[.agg (tv zeroT), .bool false]) ∧ Below w.heap.size w w' := by
  have H := Lib.hid h
  have HV := Lib.hid hv
  clear h hv
  have hT := (TB.new w 26 zeroT).alloc (.cells (tv zeroT) 26)
  have hX := TB.new1 w (.cells (tv zeroT) 26) 26 zeroT
  go_enter Try.func29, Try.ntmps29
  go_wp2_with (first | ((with_reducible refine atAlloc (ty := 26) ?_); refine wpList_alloc_tile rfl 26 rfl zero26 ?_; (try simp only [World.size_alloc, World.size_setCell, setRow_size])) | ((with_reducible refine atBuild (ty := 26) ?_); refine wpList_build_tile rfl 26 rfl build26 ?_) | ((with_reducible refine atStore (ty := 26) ?_); refine wpList_store_tile rfl 26 _ _ rfl _ rfl (zeroT) rfl 26 _ (hX) size26 ?_))
  have hT1 := hT.farRow (g' := w.heap.size + 1) (by omega) (tv zeroT)
  have hX1 := hX.row zeroT
  have HR := Lib.hid (((H.out.alloc hB (.cells (tv zeroT) 26)).alloc (by simp; omega) (.cells (tv zeroT) 26)).setRow (g := w.heap.size + 1) (by omega) (tv zeroT))
  clear hT hX
  go_wp2_with (first | (go_at_call 50; refine (slb_c _ _ _ _ _ HV.out _ HR.out (by omega)).mono ?_; rintro e w1 ⟨rfl, rfl⟩) | ((with_reducible refine atLoad (ty := 26) ?_); refine wpList_load_tile rfl 26 _ rfl _ rfl 26 _ (hX1) _ Try.underlying26 rfl size26 ?_) | ((with_reducible refine atStore (ty := 26) ?_); refine wpList_store_tile rfl 26 _ _ rfl _ rfl (zeroT) rfl 26 _ (hT1) size26 ?_))
  refine bodyPost_ret (v := .tuple #[.agg (tv zeroT), .bool false]) (results_tile2 rfl _ _ _ _ zeroT rfl (hT1.row _) rfl) rfl ⟨rfl, ?_⟩
  refine below_setRow (below_setRow ?_ (by omega) _) (by omega) _
  (repeat (first | with_reducible exact Below.refl _ _ | ((with_reducible refine viaO (by assumption) ?_ ?_ ?_) <;> try ((try simp only [World.size_alloc, World.size_setCell, World.size_drew]) <;> omega)) | ((with_reducible refine Below.alloc ?_ ?_ _) <;> try ((try simp only [World.size_alloc, World.size_setCell, World.size_drew]) <;> omega)) | ((with_reducible refine Below.setCell ?_ ?_ _) <;> try ((try simp only [World.size_alloc, World.size_setCell, World.size_drew]) <;> omega)) | (with_reducible refine below_drewN ?_ _) | (with_reducible refine Below.drew ?_) | ((with_reducible refine via (by assumption) ?_ ?_) <;> try ((try simp only [World.size_alloc, World.size_setCell, World.size_drew]) <;> omega))))

theorem srt_yes (A : Option Addr) (cap : Nat) (p : Nat → Int) (hv : byt 16 p = true) (w : World) {B : Nat} (h : RS w B 1 A 16 (iv p)) (hB : B ≤ w.heap.size) :
    Calls Try.prog 29 #[.slice A 16 cap] w fun e w' => e = .returned (.tuple #[.agg (tv (rt p)), .bool true]) ∧ Below w.heap.size w w' := by
  have hv2 : rdV 16 p = true := by simp [rdV, hv]
  have HV := Lib.hid hv2
  have HA := Lib.hid (byt_true.1 hv)
  obtain ⟨b, off, rfl, hbl, hc⟩ := h.at_ (by omega)
  have H := Lib.hid h
  have HC := Lib.hid hc
  clear hv hv2 h hc
  have hT := (TB.new w 26 zeroT).alloc (.cells (tv zeroT) 26)
  have hX := TB.new1 w (.cells (tv zeroT) 26) 26 zeroT
  go_enter Try.func29, Try.ntmps29
  go_wp2_with (first | ((with_reducible refine atAlloc (ty := 26) ?_); refine wpList_alloc_tile rfl 26 rfl zero26 ?_; (try simp only [World.size_alloc, World.size_setCell, setRow_size])) | ((with_reducible refine atBuild (ty := 26) ?_); refine wpList_build_tile rfl 26 rfl build26 ?_) | ((with_reducible refine atStore (ty := 26) ?_); refine wpList_store_tile rfl 26 _ _ rfl _ rfl (zeroT) rfl 26 _ (hX) size26 ?_))
  have HT := Lib.hid (hT.farRow (g' := w.heap.size + 1) (by omega) (tv zeroT))
  have HX := Lib.hid (hX.row zeroT)
  have HR := Lib.hid (((H.out.alloc hB (.cells (tv zeroT) 26)).alloc (by simp; omega) (.cells (tv zeroT) 26)).setRow (g := w.heap.size + 1) (by omega) (tv zeroT))
  clear hT hX
  go_wp2_with (go_at_call 50; refine (slb_c _ _ _ _ _ HV.out _ HR.out (by omega)).mono ?_; rintro e w1 ⟨rfl, rfl⟩)
  go_loopw [5] (fun i wr => ∃ k : Nat, k ≤ 64 ∧ i = .int .i64 k ∧ TB wr (w.heap.size + 1) 26 (fun j => if j < k then rt p j else 0) ∧ TB wr w.heap.size 26 zeroT ∧ Below w.heap.size w wr) (fun i _ => 64 - (intOf i).toNat)
  case atStart =>
    refine ⟨0, by omega, rfl, HX.out.congr (fun i _ => by simp [zeroT]), HT.out, ?_⟩
    refine below_setRow ?_ (by omega) _
    (repeat (first | with_reducible exact Below.refl _ _ | ((with_reducible refine viaO (by assumption) ?_ ?_ ?_) <;> try ((try simp only [World.size_alloc, World.size_setCell, World.size_drew]) <;> omega)) | ((with_reducible refine Below.alloc ?_ ?_ _) <;> try ((try simp only [World.size_alloc, World.size_setCell, World.size_drew]) <;> omega)) | ((with_reducible refine Below.setCell ?_ ?_ _) <;> try ((try simp only [World.size_alloc, World.size_setCell, World.size_drew]) <;> omega)) | (with_reducible refine below_drewN ?_ _) | (with_reducible refine Below.drew ?_) | ((with_reducible refine via (by assumption) ?_ ?_) <;> try ((try simp only [World.size_alloc, World.size_setCell, World.size_drew]) <;> omega))))
  case round =>
    obtain ⟨k, hk, rfl, h1, h2, hb⟩ := hrel
    have H1 := Lib.hid h1
    have H2 := Lib.hid h2
    have HB := Lib.hid hb
    by_cases hlk : k < 64
    · have c1 : wr.cell? ⟨b, off + k / 8, none⟩ = some (.int .i64 (p (k / 8))) := (hb.cell (p := ⟨b, off + k / 8, none⟩) (by show b < _; omega)).trans (HC.out (k / 8) (by omega))
      have c2 : wr.cell? ⟨b, off + (8 + k / 8), none⟩ = some (.int .i64 (p (8 + k / 8))) := (hb.cell (p := ⟨b, off + (8 + k / 8), none⟩) (by show b < _; omega)).trans (HC.out (8 + k / 8) (by omega))
      obtain ⟨b0, b1⟩ := inB_true.1 (HA.out (k / 8) (by omega))
      obtain ⟨b2, b3⟩ := inB_true.1 (HA.out (8 + k / 8) (by omega))
      have c3 := h1.cell k hlk
      have f3 := h1.frozen k
      have e2 : IntKind.i64.wrap (8 + (k : Int) / 8) = 8 + (k : Int) / 8 := IntWalk.i64_in _ (by omega)
      have e3 : ((k : Int) / 8).toNat = k / 8 := by omega
      have e4 : (8 + (k : Int) / 8).toNat = 8 + k / 8 := by omega
      have i1 : (k : Int) / 8 < 16 := by omega
      have i2 : 8 + (k : Int) / 8 < 16 := by omega
      have i3 : 0 ≤ (k : Int) / 8 := by omega
      have i4 : 0 ≤ 8 + (k : Int) / 8 := by omega
      clear h1 h2 hb
      go_wp2
      go_still_tail 20, (by kernel_rfl)
      clear e2 e3 e4 i1 i2 i3 i4
      rw [rt_spec p k b0 b2]
      change wpList _ _ _ _ _ wr.drew
      go_wp2
      go_roundw
      case rel =>
        refine ⟨k + 1, by omega, by go_num, ?_, ?_, ?_⟩
        · exact (H1.out.drew.put k (rt p k)).congr (fun i hi => upd_step (rt p) k i)
        · exact H2.out.drew.far (by simp) _
        · exact HB.out.drew.setCell (by simp) _
      case measure => simp [intOf]; omega
    · have hk64 : k = 64 := by omega
      subst hk64
      have h3 : TB wr (w.heap.size + 1) 26 (rt p) := h1.congr fun i hi => by simp [hi]
      clear h1 hb
      go_wp2_with (first | ((with_reducible refine atLoad (ty := 26) ?_); refine wpList_load_tile rfl 26 _ rfl _ rfl 26 _ (h3) _ Try.underlying26 rfl size26 ?_) | ((with_reducible refine atStore (ty := 26) ?_); refine wpList_store_tile rfl 26 _ _ rfl _ rfl (rt p) rfl 26 _ (h2) size26 ?_))
      refine bodyPost_ret (v := .tuple #[.agg (tv (rt p)), .bool true]) (results_tile2 rfl _ _ _ _ _ rfl (h2.row _) rfl) rfl ⟨rfl, ?_⟩
      exact below_setRow HB.out (by omega) _

theorem irt_c (A : Option Addr) (n cap : Nat) (p : Nat → Int) (v : Bool) (hv : rdV n p = v) (w : World) {B : Nat} (h : RS w B 1 A n (iv p)) (hB : B ≤ w.heap.size) (hn : n ≤ 1048576) :
    Calls Try.prog 31 #[.slice A n cap] w fun e w' => e = .returned (.tuple #[.agg (tv (rdR v p)), .bool v]) ∧ Below w.heap.size w w' := by
  cases v
  · exact irt_no A n cap p hv w h hB hn
  · have hv' := hv
    simp [rdV] at hv'
    obtain ⟨h1, rfl⟩ := hv'
    exact irt_yes A cap p h1 w h hB

theorem srt_c (A : Option Addr) (n cap : Nat) (p : Nat → Int) (v : Bool) (hv : rdV n p = v) (w : World) {B : Nat} (h : RS w B 1 A n (iv p)) (hB : B ≤ w.heap.size) (hn : n ≤ 1048576) :
    Calls Try.prog 29 #[.slice A n cap] w fun e w' => e = .returned (.tuple #[.agg (tv (rdR v p)), .bool v]) ∧ Below w.heap.size w w' := by
  cases v
  · exact srt_no A n cap p hv w h hB hn
  · have hv' := hv
    simp [rdV] at hv'
    obtain ⟨h1, rfl⟩ := hv'
    exact srt_yes A cap p h1 w h hB

end Go.Proofs.Ytpddgepjlpdfjaa
