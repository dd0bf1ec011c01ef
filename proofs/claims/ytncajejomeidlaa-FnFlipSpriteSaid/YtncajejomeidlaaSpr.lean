/-
  Sprites, and lists of sprites: copied, compared. Conditions: at most 1048576 sprites.
-/
import Derived.Test.YtncajejomeidlaaTiles2
import Derived.Deep.MidRow
namespace Go.Proofs.Ytncajejomeidlaa
set_option linter.all false
set_option linter.unusedSimpArgs false
set_option linter.unusedVariables false
open Go.ChangeShapes Go.WideShapes Go.ChangeAt Go.RowKit

structure Spr where
  x : Int
  y : Int
  num : Int
  ac : Bool
  dn : Bool
  bh : Bool
def scl (s : Spr) : Nat → Value
  | 0 => .int .i64 s.x
  | 1 => .int .i64 s.y
  | 2 => .int .i64 s.num
  | 3 => .bool s.ac
  | 4 => .bool s.dn
  | _ => .bool s.bh
/-- The cells of a list of sprites. -/
def sc (s : Nat → Spr) : Nat → Value := fun j => scl (s (j / 6)) (j % 6)
abbrev spV (s : Spr) : Value := .agg #[.int .i64 s.x, .int .i64 s.y, .int .i64 s.num, .bool s.ac, .bool s.dn, .bool s.bh]
def zeroS : Spr := ⟨0, 0, 0, false, false, false⟩
theorem sc_at (s : Nat → Spr) (k j : Nat) (hj : j < 6) : sc s (k * 6 + j) = scl (s k) j := by
  unfold sc
  rw [show (k * 6 + j) / 6 = k by omega, show (k * 6 + j) % 6 = j by omega]
theorem scl_one (s : Spr) (j : Nat) : (scl s j).oneCell' = true := by
  unfold scl
  split <;> rfl
/-- The cells of sprite number k. -/
theorem RS.spr {w : World} {B n : Nat} {A : Option Addr} {s : Nat → Spr} (h : RS w B 6 A n (sc s)) {k : Nat} (hk : k < n) : ∃ b off, A = some ⟨b, off, none⟩ ∧ b < B ∧ w.cell? ⟨b, off + k * 6, none⟩ = some (.int .i64 (s k).x) ∧ w.cell? ⟨b, off + k * 6 + 1, none⟩ = some (.int .i64 (s k).y) ∧
    w.cell? ⟨b, off + k * 6 + 2, none⟩ = some (.int .i64 (s k).num) ∧ w.cell? ⟨b, off + k * 6 + 3, none⟩ = some (.bool (s k).ac) ∧ w.cell? ⟨b, off + k * 6 + 4, none⟩ = some (.bool (s k).dn) ∧ w.cell? ⟨b, off + k * 6 + 5, none⟩ = some (.bool (s k).bh) := by
  obtain ⟨b, off, rfl, hb, hc⟩ := h.at_ (by omega)
  have g : ∀ j, j < 6 → w.cell? ⟨b, off + k * 6 + j, none⟩ = some (scl (s k) j) := fun j hj => by
    rw [Nat.add_assoc, hc (k * 6 + j) (by omega), sc_at s k j hj]
  exact ⟨b, off, rfl, hb, g 0 (by omega), g 1 (by omega), g 2 (by omega), g 3 (by omega), g 4 (by omega), g 5 (by omega)⟩

theorem info30 : (Try.prog.info? 30).map (fun i => (i.zero, i.size, i.bytes)) = some (some (spV zeroS), 6, 32) := by kernel_rfl
theorem made_sprites (m : Nat) : madeCells (spV zeroS).cells m = ca m (sc fun _ => zeroS) := by
  apply Array.ext_getElem?
  intro i
  by_cases hi : i < m
  · rw [ca_get _ _ _ hi]
    have h6 : i % 6 < 6 := Nat.mod_lt _ (by omega)
    have e2 : (madeCells (spV zeroS).cells m)[i]? = some ((spV zeroS).cells[i % 6]!) := by simp [madeCells, hi, Value.cells]
    rw [e2]
    congr 1
    unfold sc
    generalize i % 6 = r at h6
    match r, h6 with
    | 0, _ => rfl
    | 1, _ => rfl
    | 2, _ => rfl
    | 3, _ => rfl
    | 4, _ => rfl
    | 5, _ => rfl
  · rw [Array.getElem?_eq_none (show (madeCells (spV zeroS).cells m).size ≤ i by rw [size_madeCells]; omega), Array.getElem?_eq_none (show (ca m (sc fun _ => zeroS)).size ≤ i by rw [ca_size]; omega)]
theorem makeSprites (n : Nat) (hn : n ≤ 1048576) (W : World) : (Instr.makeSlice 23 (.int .i64 (n : Int)) (.int .i64 (n : Int))).run Try.prog W = .ok (.slice (some ⟨W.heap.size, 0, none⟩) n n) (W.alloc (.cells (ca (n * 6) (sc fun _ => zeroS)) 30)) := by
  obtain ⟨i, hi, hz, hs, hb⟩ := info_parts info30
  have hr := run_make (P := Try.prog) W 23 30 i _ Try.underlying23 hi hz .i64 .i64 n n (by omega) (by omega) (by rw [hb]; omega) (by omega)
  rw [hr, hs]
  simp only [Int.toNat_natCast]
  rw [made_sprites]
/-- Six cells of a block are written. -/
theorem CB.put6 {w : World} {g : Nat} {t : TypeId} {n : Nat} {s s' : Nat → Spr} (h : CB w g t (n * 6) (sc s)) (k : Nat) (x : Spr) (hs : ∀ i, i < n → s' i = if i = k then x else s i) :
    CB ((((((w.setCell ⟨g, k * 6, none⟩ (.int .i64 x.x)).setCell ⟨g, k * 6 + 1, none⟩ (.int .i64 x.y)).setCell ⟨g, k * 6 + 2, none⟩ (.int .i64 x.num)).setCell ⟨g, k * 6 + 3, none⟩ (.bool x.ac)).setCell ⟨g, k * 6 + 4, none⟩ (.bool x.dn)).setCell ⟨g, k * 6 + 5, none⟩ (.bool x.bh)) g t (n * 6) (sc s') := by
  refine ((((((h.put _ _).put _ _).put _ _).put _ _).put _ _).put _ _).congr fun j hj => ?_
  have hd : s' (j / 6) = if j / 6 = k then x else s (j / 6) := hs _ (by omega)
  simp only [updV]
  by_cases e : j / 6 = k
  · have hm : j = k * 6 + j % 6 := by omega
    have h6 : j % 6 < 6 := Nat.mod_lt _ (by omega)
    unfold sc
    rw [hd, if_pos e]
    have hc : j % 6 = 0 ∨ j % 6 = 1 ∨ j % 6 = 2 ∨ j % 6 = 3 ∨ j % 6 = 4 ∨ j % 6 = 5 := by omega
    rcases hc with h | h | h | h | h | h
    · rw [h, if_neg (by omega), if_neg (by omega), if_neg (by omega), if_neg (by omega), if_neg (by omega), if_pos (by omega)]; rfl
    · rw [h, if_neg (by omega), if_neg (by omega), if_neg (by omega), if_neg (by omega), if_pos (by omega)]; rfl
    · rw [h, if_neg (by omega), if_neg (by omega), if_neg (by omega), if_pos (by omega)]; rfl
    · rw [h, if_neg (by omega), if_neg (by omega), if_pos (by omega)]; rfl
    · rw [h, if_neg (by omega), if_pos (by omega)]; rfl
    · rw [h, if_pos (by omega)]; rfl
  · rw [if_neg (by omega), if_neg (by omega), if_neg (by omega), if_neg (by omega), if_neg (by omega), if_neg (by omega)]
    unfold sc
    rw [hd, if_neg e]
