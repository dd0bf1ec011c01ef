/-
  Sprites, and lists of sprites: copied, compared. Conditions: at most 1048576 sprites.
-/
import Derived.Test.YtabioinmpjfflaaTiles2
import Derived.Deep.MidRow
namespace Go.Proofs.Ytabioinmpjfflaa
set_option linter.all false
set_option linter.unusedSimpArgs false
set_option linter.unusedVariables false
set_option maxRecDepth 20000
open Go.ChangeShapes Go.WideShapes Go.ChangeAt Go.RowKit

structure Spr where
  x : Int
  y : Int
  num : Int
  ac : Bool
  dn : Bool
  bh : Bool
def scl (s : Spr) : Nat → Value
  | 0 => .int .i64 s.x
  | 1 => .int .i64 s.y
  | 2 => .int .i64 s.num
  | 3 => .bool s.ac
  | 4 => .bool s.dn
  | _ => .bool s.bh
/-- The cells of a list of sprites. -/
def sc (s : Nat → Spr) : Nat → Value := fun j => scl (s (j / 6)) (j % 6)
abbrev spV (s : Spr) : Value := .agg #[.int .i64 s.x, .int .i64 s.y, .int .i64 s.num, .bool s.ac, .bool s.dn, .bool s.bh]
def zeroS : Spr := ⟨0, 0, 0, false, false, false⟩
theorem sc_at (s : Nat → Spr) (k j : Nat) (hj : j < 6) : sc s (k * 6 + j) = scl (s k) j := by
  unfold sc
  rw [show (k * 6 + j) / 6 = k by omega, show (k * 6 + j) % 6 = j by omega]
theorem scl_one (s : Spr) (j : Nat) : (scl s j).oneCell' = true := by
  unfold scl
  split <;> rfl
/-- The cells of sprite number k. -/
theorem RS.spr {w : World} {B n : Nat} {A : Option Addr} {s : Nat → Spr} (h : RS w B 6 A n (sc s)) {k : Nat} (hk : k < n) : ∃ b off, A = some ⟨b, off, none⟩ ∧ b < B ∧ w.cell? ⟨b, off + k * 6, none⟩ = some (.int .i64 (s k).x) ∧ w.cell? ⟨b, off + k * 6 + 1, none⟩ = some (.int .i64 (s k).y) ∧
    w.cell? ⟨b, off + k * 6 + 2, none⟩ = some (.int .i64 (s k).num) ∧ w.cell? ⟨b, off + k * 6 + 3, none⟩ = some (.bool (s k).ac) ∧ w.cell? ⟨b, off + k * 6 + 4, none⟩ = some (.bool (s k).dn) ∧ w.cell? ⟨b, off + k * 6 + 5, none⟩ = some (.bool (s k).bh) := by
  obtain ⟨b, off, rfl, hb, hc⟩ := h.at_ (by omega)
  have g : ∀ j, j < 6 → w.cell? ⟨b, off + k * 6 + j, none⟩ = some (scl (s k) j) := fun j hj => by
    rw [Nat.add_assoc, hc (k * 6 + j) (by omega), sc_at s k j hj]
  exact ⟨b, off, rfl, hb, g 0 (by omega), g 1 (by omega), g 2 (by omega), g 3 (by omega), g 4 (by omega), g 5 (by omega)⟩

theorem toSprite_c (s : Spr) (w : World) : Calls Try.prog 68 #[spV s] w fun e w' => e = .returned (spV s) ∧ Below w.heap.size w w' := by
  go_enter Try.func68, Try.ntmps68
  go_wp2
  refine bodyPost_ret (v := spV s) (by simp [results, Try.results68, go_sem, *]) rfl ⟨rfl, ?_⟩
  (repeat (first | with_reducible exact Below.refl _ _ | ((with_reducible refine viaO (by assumption) ?_ ?_ ?_) <;> try ((try simp only [World.size_alloc, World.size_setCell, World.size_drew]) <;> omega)) | ((with_reducible refine Below.alloc ?_ ?_ _) <;> try ((try simp only [World.size_alloc, World.size_setCell, World.size_drew]) <;> omega)) | ((with_reducible refine Below.setCell ?_ ?_ _) <;> try ((try simp only [World.size_alloc, World.size_setCell, World.size_drew]) <;> omega)) | (with_reducible refine below_drewN ?_ _) | (with_reducible refine Below.drew ?_) | ((with_reducible refine via (by assumption) ?_ ?_) <;> try ((try simp only [World.size_alloc, World.size_setCell, World.size_drew]) <;> omega))))
theorem eqSprite_c (s : Spr) (w : World) : Calls Try.prog 71 #[spV s, spV s] w fun e w' => e = .returned (.bool true) ∧ Below w.heap.size w w' := by
  go_enter Try.func71, Try.ntmps71
  go_wp2
  go_ret
  refine ⟨rfl, ?_⟩
  (repeat (first | with_reducible exact Below.refl _ _ | ((with_reducible refine viaO (by assumption) ?_ ?_ ?_) <;> try ((try simp only [World.size_alloc, World.size_setCell, World.size_drew]) <;> omega)) | ((with_reducible refine Below.alloc ?_ ?_ _) <;> try ((try simp only [World.size_alloc, World.size_setCell, World.size_drew]) <;> omega)) | ((with_reducible refine Below.setCell ?_ ?_ _) <;> try ((try simp only [World.size_alloc, World.size_setCell, World.size_drew]) <;> omega)) | (with_reducible refine below_drewN ?_ _) | (with_reducible refine Below.drew ?_) | ((with_reducible refine via (by assumption) ?_ ?_) <;> try ((try simp only [World.size_alloc, World.size_setCell, World.size_drew]) <;> omega))))
theorem szSpriteS_c (A : Option Addr) (n cap : Nat) (left : Int) (w : World) (hl : 0 ≤ left ∧ left ≤ 1048576) (hn : n ≤ 9223372036854775807) :
    Calls Try.prog 49 #[.slice A n cap, .int .i64 left] w fun e w' => e = .returned (.int .i64 (if (n : Int) ≤ left then left - n else -1)) ∧ w = w' := by
  have e1 : IntKind.i64.wrap (left - (n : Int)) = left - n := IntWalk.i64_in _ (by omega)
  by_cases h : (n : Int) ≤ left
  · rw [if_pos h]
    have h1 : ¬ left - (n : Int) < 0 := by omega
    go_enter Try.func49, Try.ntmps49
    go_wp2
    go_ret
    exact ⟨rfl, rfl⟩
  · rw [if_neg h]
    have h1 : left - (n : Int) < 0 := by omega
    go_enter Try.func49, Try.ntmps49
    go_wp2
    go_ret
    exact ⟨rfl, rfl⟩

theorem info38 : (Try.prog.info? 38).map (fun i => (i.zero, i.size, i.bytes)) = some (some (spV zeroS), 6, 32) := by kernel_rfl
theorem made_sprites (m : Nat) : madeCells (spV zeroS).cells m = ca m (sc fun _ => zeroS) := by
  apply Array.ext_getElem?
  intro i
  by_cases hi : i < m
  · rw [ca_get _ _ _ hi]
    have h6 : i % 6 < 6 := Nat.mod_lt _ (by omega)
    have e2 : (madeCells (spV zeroS).cells m)[i]? = some ((spV zeroS).cells[i % 6]!) := by simp [madeCells, hi, Value.cells]
    rw [e2]
    congr 1
    unfold sc
    generalize i % 6 = r at h6
    match r, h6 with
    | 0, _ => rfl
    | 1, _ => rfl
    | 2, _ => rfl
    | 3, _ => rfl
    | 4, _ => rfl
    | 5, _ => rfl
  · rw [Array.getElem?_eq_none (show (madeCells (spV zeroS).cells m).size ≤ i by rw [size_madeCells]; omega), Array.getElem?_eq_none (show (ca m (sc fun _ => zeroS)).size ≤ i by rw [ca_size]; omega)]
theorem makeSprites (n : Nat) (hn : n ≤ 1048576) (W : World) : (Instr.makeSlice 27 (.int .i64 (n : Int)) (.int .i64 (n : Int))).run Try.prog W = .ok (.slice (some ⟨W.heap.size, 0, none⟩) n n) (W.alloc (.cells (ca (n * 6) (sc fun _ => zeroS)) 38)) := by
  obtain ⟨i, hi, hz, hs, hb⟩ := info_parts info38
  have hr := run_make (P := Try.prog) W 27 38 i _ Try.underlying27 hi hz .i64 .i64 n n (by omega) (by omega) (by rw [hb]; omega) (by omega)
  rw [hr, hs]
  simp only [Int.toNat_natCast]
  rw [made_sprites]
/-- Six cells of a block are written. -/
theorem CB.put6 {w : World} {g : Nat} {t : TypeId} {n : Nat} {s s' : Nat → Spr} (h : CB w g t (n * 6) (sc s)) (k : Nat) (x : Spr) (hs : ∀ i, i < n → s' i = if i = k then x else s i) :
    CB ((((((w.setCell ⟨g, k * 6, none⟩ (.int .i64 x.x)).setCell ⟨g, k * 6 + 1, none⟩ (.int .i64 x.y)).setCell ⟨g, k * 6 + 2, none⟩ (.int .i64 x.num)).setCell ⟨g, k * 6 + 3, none⟩ (.bool x.ac)).setCell ⟨g, k * 6 + 4, none⟩ (.bool x.dn)).setCell ⟨g, k * 6 + 5, none⟩ (.bool x.bh)) g t (n * 6) (sc s') := by
  refine ((((((h.put _ _).put _ _).put _ _).put _ _).put _ _).put _ _).congr fun j hj => ?_
  have hd : s' (j / 6) = if j / 6 = k then x else s (j / 6) := hs _ (by omega)
  simp only [updV]
  by_cases e : j / 6 = k
  · have hm : j = k * 6 + j % 6 := by omega
    have h6 : j % 6 < 6 := Nat.mod_lt _ (by omega)
    unfold sc
    rw [hd, if_pos e]
    have hc : j % 6 = 0 ∨ j % 6 = 1 ∨ j % 6 = 2 ∨ j % 6 = 3 ∨ j % 6 = 4 ∨ j % 6 = 5 := by omega
    rcases hc with h | h | h | h | h | h
    · rw [h, if_neg (by omega), if_neg (by omega), if_neg (by omega), if_neg (by omega), if_neg (by omega), if_pos (by omega)]; rfl
    · rw [h, if_neg (by omega), if_neg (by omega), if_neg (by omega), if_neg (by omega), if_pos (by omega)]; rfl
    · rw [h, if_neg (by omega), if_neg (by omega), if_neg (by omega), if_pos (by omega)]; rfl
    · rw [h, if_neg (by omega), if_neg (by omega), if_pos (by omega)]; rfl
    · rw [h, if_neg (by omega), if_pos (by omega)]; rfl
    · rw [h, if_pos (by omega)]; rfl
  · rw [if_neg (by omega), if_neg (by omega), if_neg (by omega), if_neg (by omega), if_neg (by omega), if_neg (by omega)]
    unfold sc
    rw [hd, if_neg e]

theorem toSpriteS_c (A : Option Addr) (n cap : Nat) (s : Nat → Spr) (w : World) {B : Nat} (h : RS w B 6 A n (sc s)) (hB : B ≤ w.heap.size) (hn : n ≤ 1048576) : Calls Try.prog 51 #[.slice A n cap] w (Gives 38 6 n (sc s) w) := by
  have H := Lib.hid h
  clear h
  have hmk := makeSprites n hn
  go_enter Try.func51, Try.ntmps51
  go_wp2
  clear hmk
  go_loopw [4] (fun i wr => ∃ k : Nat, k ≤ n ∧ i = .int .i64 k ∧ CB wr w.heap.size 38 (n * 6) (sc fun j => if j < k then s j else zeroS) ∧ Below w.heap.size w wr) (fun i _ => n - (intOf i).toNat)
  case atStart =>
    refine ⟨0, by omega, rfl, (CB.new _ _ _ _).congr (fun i _ => by simp), ?_⟩
    (repeat (first | with_reducible exact Below.refl _ _ | ((with_reducible refine viaO (by assumption) ?_ ?_ ?_) <;> try ((try simp only [World.size_alloc, World.size_setCell, World.size_drew]) <;> omega)) | ((with_reducible refine Below.alloc ?_ ?_ _) <;> try ((try simp only [World.size_alloc, World.size_setCell, World.size_drew]) <;> omega)) | ((with_reducible refine Below.setCell ?_ ?_ _) <;> try ((try simp only [World.size_alloc, World.size_setCell, World.size_drew]) <;> omega)) | (with_reducible refine below_drewN ?_ _) | (with_reducible refine Below.drew ?_) | ((with_reducible refine via (by assumption) ?_ ?_) <;> try ((try simp only [World.size_alloc, World.size_setCell, World.size_drew]) <;> omega))))
  case round =>
    obtain ⟨k, hk, rfl, h1, hb⟩ := hrel
    have H1 := Lib.hid h1
    have HB := Lib.hid hb
    have hlt := h1.lt
    by_cases hlk : k < n
    · obtain ⟨b, off, rfl, hbl, s0, s1, s2, s3, s4, s5⟩ := (RS.below hb H.out hB).spr hlk
      clear h1 hb
      have i1 : (k : Int) < (n : Int) := by omega
      go_wp2_with fail
      refine (toSprite_c (s k) _).mono ?_
      rintro e w1 ⟨rfl, hO_w1⟩
      have hz_w1 := hO_w1.size
      have h2 := H1.out.below hO_w1 hlt
      have ht : ∀ j, j < 6 → ∃ v, w1.cell? ⟨w.heap.size, k * 6 + j, none⟩ = some v := fun j hj => ⟨_, h2.cell (k * 6 + j) (by omega)⟩
      obtain ⟨v0, y0⟩ := ht 0 (by omega)
      obtain ⟨v1, y1⟩ := ht 1 (by omega)
      obtain ⟨v2, y2⟩ := ht 2 (by omega)
      obtain ⟨v3, y3⟩ := ht 3 (by omega)
      obtain ⟨v4, y4⟩ := ht 4 (by omega)
      obtain ⟨v5, y5⟩ := ht 5 (by omega)
      have f0 := h2.frozen (k * 6)
      have f1 := h2.frozen (k * 6 + 1)
      have f2 := h2.frozen (k * 6 + 2)
      have f3 := h2.frozen (k * 6 + 3)
      have f4 := h2.frozen (k * 6 + 4)
      have f5 := h2.frozen (k * 6 + 5)
      rw [Nat.add_zero] at y0
      have H2 := Lib.hid h2
      clear h2 ht
      go_wp2
      go_roundw
      case rel =>
        refine ⟨k + 1, by omega, by go_num, H2.out.put6 k (s k) (fun i hi => ?_), ?_⟩
        · by_cases e : i = k
          · subst e; simp
          · rw [if_neg e]; split <;> split <;> first | rfl | omega
        · exact (((((((via hO_w1 HB.out HB.out.size).setCell (Nat.le_refl _) _).setCell (Nat.le_refl _) _).setCell (Nat.le_refl _) _).setCell (Nat.le_refl _) _).setCell (Nat.le_refl _) _).setCell (Nat.le_refl _) _)
      case measure => simp [intOf]; omega
    · have hkn : k = n := by omega
      subst hkn
      clear h1 hb
      go_wp2
      go_ret
      refine ⟨_, _, rfl, ?_, HB.out⟩
      refine (H1.out.congr (d := sc s) fun i hi => ?_).ownN (Nat.le_refl _) (by unfold maxLen; omega)
      unfold sc
      have e1 : i / 6 < k := by omega
      simp only [e1, if_true]

theorem eqSpriteS_c (A B : Option Addr) (n cap cap' : Nat) (s : Nat → Spr) (w : World) {C C' : Nat} (h : RS w C 6 A n (sc s)) (h' : RS w C' 6 B n (sc s)) (hC : C ≤ w.heap.size) (hC' : C' ≤ w.heap.size) (hn : n ≤ 1048576) :
    Calls Try.prog 53 #[.slice A n cap, .slice B n cap'] w fun e w' => e = .returned (.bool true) ∧ Below w.heap.size w w' := by
  have H := Lib.hid h
  have H' := Lib.hid h'
  clear h h'
  go_enter Try.func53, Try.ntmps53
  go_wp2
  go_loopw [5] (fun i wr => ∃ k : Nat, k ≤ n ∧ i = .int .i64 k ∧ Below w.heap.size w wr) (fun i _ => n - (intOf i).toNat)
  case atStart => exact ⟨0, by omega, rfl, Below.refl _ _⟩
  case round =>
    obtain ⟨k, hk, rfl, hb⟩ := hrel
    have HB := Lib.hid hb
    by_cases hlt : k < n
    · obtain ⟨b, off, rfl, hbl, s0, s1, s2, s3, s4, s5⟩ := (RS.below hb H.out hC).spr hlt
      obtain ⟨b', off', rfl, hbl', t0, t1, t2, t3, t4, t5⟩ := (RS.below hb H'.out hC').spr hlt
      have hi1 : (k : Int) < (n : Int) := by omega
      have hbs := hb.size
      clear hb
      go_wp2
      refine wp_region_over (by kernel_rfl) (by kernel_rfl) ?_
      intro W3 hO_W3
      have hz_W3 := hO_W3.size
      (try simp only [World.size_alloc, World.size_setCell, World.size_drew] at hz_W3)
      have hs_W3_0 : b < W3.heap.size := (by omega)
      have c_W3_0 := fun o => (bcell hO_W3).1 (b) o (by (try simp only [World.size_alloc, World.size_setCell, World.size_drew]) <;> omega)
      have f_W3_0 := fun o => (bcell hO_W3).2 (b) o (by (try simp only [World.size_alloc, World.size_setCell, World.size_drew]) <;> omega)
      have hs_W3_1 : b' < W3.heap.size := (by omega)
      have c_W3_1 := fun o => (bcell hO_W3).1 (b') o (by (try simp only [World.size_alloc, World.size_setCell, World.size_drew]) <;> omega)
      have f_W3_1 := fun o => (bcell hO_W3).2 (b') o (by (try simp only [World.size_alloc, World.size_setCell, World.size_drew]) <;> omega)
      have v_W3_0 := fun x o => over_cell W3 x (b) o hs_W3_0
      have v_W3_1 := fun x o => over_cell W3 x (b') o hs_W3_1
      repeat (go_big_quiet_step ((go_at_call 71; (with_reducible refine Calls.over_of (eqSprite_c _ _)))))
      refine wpQuiet_nil ?_
      intro W4 hx_W4
      obtain ⟨x_W4, hx_W4⟩ := hx_W4
      have hO_W4 : Below W3.heap.size W3 W4 := hx_W4 ▸ over_below W3 x_W4
      clear hx_W4
      have hz_W4 := hO_W4.size
      have hs_W4_0 : b < W4.heap.size := (by omega)
      have c_W4_0 := fun o => (bcell hO_W4).1 (b) o (by (try simp only [World.size_alloc, World.size_setCell, World.size_drew]) <;> omega)
      have f_W4_0 := fun o => (bcell hO_W4).2 (b) o (by (try simp only [World.size_alloc, World.size_setCell, World.size_drew]) <;> omega)
      have hs_W4_1 : b' < W4.heap.size := (by omega)
      have c_W4_1 := fun o => (bcell hO_W4).1 (b') o (by (try simp only [World.size_alloc, World.size_setCell, World.size_drew]) <;> omega)
      have f_W4_1 := fun o => (bcell hO_W4).2 (b') o (by (try simp only [World.size_alloc, World.size_setCell, World.size_drew]) <;> omega)
      go_wp2
      go_roundw
      case rel => exact ⟨k + 1, by omega, by go_num, (HB.out.trans (hO_W3.mono (by omega))).trans (hO_W4.mono (by omega))⟩
      case measure => simp [intOf]; omega
    · have hkn : k = n := by omega
      subst hkn
      clear hb
      go_wp2
      go_ret
      exact ⟨rfl, HB.out⟩
end Go.Proofs.Ytabioinmpjfflaa
