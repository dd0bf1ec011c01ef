/-
  The contracts of the sprites of a line. Conditions: the sprites are valid, the line is in the picture.
-/
import Derived.Test.YtabioinmpjfflaaSprPx
import Derived.Test.YtabioinmpjfflaaAppend
namespace Go.Proofs.Ytabioinmpjfflaa
set_option linter.all false
set_option linter.unusedSimpArgs false
set_option linter.unusedVariables false
set_option maxRecDepth 20000
open Go.ChangeShapes Go.WideShapes Go.ChangeAt Go.RowKit

def cov (s : Spr) (y : Int) : Bool := inB (y - s.y) 0 7
/-- The sprites that cover a line. -/
def cvl (n : Nat) (s : Nat → Spr) (y : Int) : List Nat := (List.range n).filter fun i => cov (s i) y
/-- Those that are shown. -/
def shown (n : Nat) (s : Nat → Spr) (y : Int) : List Nat := (cvl n s y).take 4
theorem cvl_succ (n : Nat) (s : Nat → Spr) (y : Int) : cvl (n + 1) s y = cvl n s y ++ if cov (s n) y then [n] else [] := by
  unfold cvl
  rw [List.range_succ, List.filter_append]
  congr 1
  simp [List.filter_cons]
theorem shown_succ (n : Nat) (s : Nat → Spr) (y : Int) : shown (n + 1) s y = if (cov (s n) y && decide ((shown n s y).length < 4)) = true then shown n s y ++ [n] else shown n s y := by
  unfold shown
  rw [cvl_succ]
  have hlen : ((cvl n s y).take 4).length = min 4 (cvl n s y).length := List.length_take
  cases hc : cov (s n) y
  · simp
  · by_cases h : (cvl n s y).length < 4
    · rw [decide_eq_true (by omega)]
      simp only [Bool.and_true, if_true]
      rw [List.take_of_length_le (show (cvl n s y).length ≤ 4 by omega), List.take_of_length_le (by simp; omega)]
    · rw [decide_eq_false (by omega)]
      simp only [Bool.and_false, if_true, Bool.false_eq_true, if_false]
      rw [List.take_append_of_le_length (by omega)]
theorem shown_le (n : Nat) (s : Nat → Spr) (y : Int) : (shown n s y).length ≤ 4 := by
  unfold shown; rw [List.length_take]; omega
/-- Once there are four nothing is added. -/
theorem shown_full {n : Nat} {s : Nat → Spr} {y : Int} (h : (shown n s y).length = 4) : ∀ k, shown (n + k) s y = shown n s y
  | 0 => rfl
  | k + 1 => by
    rw [← Nat.add_assoc, shown_succ, shown_full h k, decide_eq_false (by omega)]
    simp
theorem shown_lt {n : Nat} {s : Nat → Spr} {y : Int} {i : Nat} (h : i ∈ shown n s y) : i < n ∧ cov (s i) y = true := by
  have := List.mem_of_mem_take h
  unfold cvl at this
  rw [List.mem_filter, List.mem_range] at this
  exact this
/-- A list of numbers, as cells. -/
def lc (L : List Nat) : Nat → Value := iv fun j => ((L.getD j 0 : Nat) : Int)
theorem lc_snoc (L : List Nat) (x : Nat) : (List.range L.length).map (lc (L ++ [x])) = (List.range L.length).map (lc L) :=
  List.map_congr_left fun i hi => by
    simp only [List.mem_range] at hi
    simp [lc, iv, List.getD, List.getElem?_append_left hi]
theorem lc_last (L : List Nat) (x : Nat) : lc (L ++ [x]) L.length = .int .i64 x := by
  simp [lc, iv, List.getD]

set_option maxHeartbeats 1000000 in
theorem ion_c (A : Option Addr) (n c : Nat) (s : Nat → Spr) (y : Int) (w : World) {C : Nat} (h : RS w C 6 A n (sc s)) (hC : C ≤ w.heap.size) (hn : n ≤ 12) (hy0 : 0 ≤ y) (hy1 : y ≤ 15) (hs : ∀ i, i < n → -16 ≤ (s i).y ∧ (s i).y ≤ 64) :
    Calls Try.prog 46 #[.slice A n c, .int .i64 y] w (Gives 3 1 (shown n s y).length (lc (shown n s y)) w) := by
  have H := Lib.hid h
  have HS := Lib.hid hs
  clear h hs
  go_enter Try.func46, Try.ntmps46
  go_wp2
  go_loopw [5, 10] (fun u i wr => ∃ k : Nat, k ≤ n ∧ i = .int .i64 k ∧ (∃ A1 cap1, u = .slice A1 (shown k s y).length cap1 ∧ wr.ownsRow w.heap.size 3 1 (.slice A1 (shown k s y).length cap1) (shown k s y).length ((List.range (shown k s y).length).map (lc (shown k s y)))) ∧ Below w.heap.size w wr) (fun _ i _ => n - (intOf i).toNat)
  case atStart => exact ⟨0, by omega, rfl, ⟨none, 0, rfl, World.ownsRow_nil w _ _ _⟩, Below.refl _ _⟩
  case round =>
    obtain ⟨k, hk, rfl, ⟨A1, cap1, rfl, hO⟩, hb⟩ := hrel
    have HB := Lib.hid hb
    have HO := Lib.hid hO
    have hbs := hb.size
    by_cases hlt : k < n
    · obtain ⟨b, off, rfl, hbl, s0, s1, s2, s3, s4, s5⟩ := (RS.below hb H.out hC).spr hlt
      obtain ⟨g0, g1⟩ := HS.out k hlt
      have i1 : (k : Int) < (n : Int) := by omega
      have e1 : IntKind.i64.wrap (y - (s k).y) = y - (s k).y := IntWalk.i64_in _ (by omega)
      clear hb hO
      have hal : Hid (∀ o, Below w.heap.size w (wr.alloc o)) := Lib.hid fun o => HB.out.alloc hbs o
      cases hc : cov (s k) y
      · have HCV : Hid (inB (y - (s k).y) 0 7 = false) := Lib.hid hc
        have hsh : shown (k + 1) s y = shown k s y := by rw [shown_succ, hc]; rfl
        have HSH := Lib.hid hsh
        clear hc hsh
        go_wp2_with (first | (go_at_call 36; (with_reducible refine (within_c (y - (s k).y) 0 7 _ HCV.out _).mono ?_); rintro e w' ⟨rfl, rfl⟩))
        go_roundw
        case rel =>
          refine ⟨k + 1, by omega, by go_num, ⟨A1, cap1, ?_, ?_⟩, hal.out _⟩
          · rw [HSH.out]
          · rw [HSH.out]; exact HO.out.alloc _
        case measure => simp [intOf]; omega
      · have HCV : Hid (inB (y - (s k).y) 0 7 = true) := Lib.hid hc
        by_cases hl : (shown k s y).length < 4
        · have hsh : shown (k + 1) s y = shown k s y ++ [k] := by rw [shown_succ, hc, decide_eq_true hl]; rfl
          have HSH := Lib.hid hsh
          have hli : ((shown k s y).length : Int) < 4 := by omega
          clear hc hsh
          obtain ⟨L, hL⟩ : ∃ L, shown k s y = L := ⟨_, rfl⟩
          rw [hL] at HO HSH hl hli
          rw [hL]
          have HO2 : Hid ((wr.alloc (.cells #[.int .i64 (s k).x, .int .i64 (s k).y, .int .i64 (s k).num, .bool (s k).ac, .bool (s k).dn, .bool (s k).bh] 38)).ownsRow w.heap.size 3 1 (.slice A1 L.length cap1) L.length ((List.range L.length).map (lc (L ++ [k])))) := Lib.hid (by rw [lc_snoc]; exact HO.out.alloc _)
          have hbw : w.heap.size ≤ (wr.alloc (.cells #[.int .i64 (s k).x, .int .i64 (s k).y, .int .i64 (s k).num, .bool (s k).ac, .bool (s k).dn, .bool (s k).bh] 38)).heap.size := by simp; omega
          go_wp2_with (first | (go_at_call 36; (with_reducible refine (within_c (y - (s k).y) 0 7 _ HCV.out _).mono ?_); rintro e w' ⟨rfl, rfl⟩) | (at_builtin; refine wpList_append_one Try.underlying23 info3 rfl (by decide) rfl _ _ rfl w.heap.size L.length cap1 A1 (lc (L ++ [k])) rfl (by rw [World.size_alloc]; rfl) HO2.out (lc_last L k).symm rfl (by omega) hbw ?_; intro A' cap' w7 hown7 hO_w7))
          go_roundw
          case rel =>
            refine ⟨k + 1, by omega, by go_num, ⟨A', cap', ?_, ?_⟩, (hal.out _).trans hO_w7⟩
            · rw [HSH.out]; simp
            · rw [HSH.out]; simpa using hown7
          case measure => simp [intOf]; omega
        · have hsh : shown (k + 1) s y = shown k s y := by rw [shown_succ, hc, decide_eq_false hl]; rfl
          have HSH := Lib.hid hsh
          have hli : ¬ ((shown k s y).length : Int) < 4 := by omega
          clear hc hsh
          go_wp2_with (first | (go_at_call 36; (with_reducible refine (within_c (y - (s k).y) 0 7 _ HCV.out _).mono ?_); rintro e w' ⟨rfl, rfl⟩))
          go_roundw
          case rel =>
            refine ⟨k + 1, by omega, by go_num, ⟨A1, cap1, ?_, ?_⟩, hal.out _⟩
            · rw [HSH.out]
            · rw [HSH.out]; exact HO.out.alloc _
          case measure => simp [intOf]; omega
    · have hkn : k = n := by omega
      subst hkn
      clear hb hO
      go_wp2
      go_ret
      refine ⟨A1, cap1, rfl, ?_, HB.out⟩
      rw [Nat.mul_one]
      exact HO.out

set_option maxHeartbeats 1000000 in
theorem son_c (A : Option Addr) (n c : Nat) (s : Nat → Spr) (y : Int) (w : World) {C : Nat} (h : RS w C 6 A n (sc s)) (hC : C ≤ w.heap.size) (hn : n ≤ 12) (hy0 : 0 ≤ y) (hy1 : y ≤ 15) (hs : ∀ i, i < n → -16 ≤ (s i).y ∧ (s i).y ≤ 64) :
    Calls Try.prog 40 #[.slice A n c, .int .i64 y] w (Gives 3 1 (shown n s y).length (lc (shown n s y)) w) := by
  have H := Lib.hid h
  have HS := Lib.hid hs
  clear h hs
  go_enter Try.func40, Try.ntmps40
  go_wp2
  go_loopw [5, 6] (fun u i wr => ∃ k : Nat, k ≤ n ∧ i = .int .i64 k ∧ (∃ A1 cap1, u = .slice A1 (shown k s y).length cap1 ∧ wr.ownsRow w.heap.size 3 1 (.slice A1 (shown k s y).length cap1) (shown k s y).length ((List.range (shown k s y).length).map (lc (shown k s y)))) ∧ Below w.heap.size w wr) (fun _ i _ => n - (intOf i).toNat)
  case atStart =>
    refine ⟨0, by omega, rfl, ⟨_, 0, rfl, own_empty w _ _ _ (Nat.le_refl _)⟩, ?_⟩
    (repeat (first | with_reducible exact Below.refl _ _ | ((with_reducible refine viaO (by assumption) ?_ ?_ ?_) <;> try ((try simp only [World.size_alloc, World.size_setCell, World.size_drew]) <;> omega)) | ((with_reducible refine Below.alloc ?_ ?_ _) <;> try ((try simp only [World.size_alloc, World.size_setCell, World.size_drew]) <;> omega)) | ((with_reducible refine Below.setCell ?_ ?_ _) <;> try ((try simp only [World.size_alloc, World.size_setCell, World.size_drew]) <;> omega)) | (with_reducible refine below_drewN ?_ _) | (with_reducible refine Below.drew ?_) | ((with_reducible refine via (by assumption) ?_ ?_) <;> try ((try simp only [World.size_alloc, World.size_setCell, World.size_drew]) <;> omega))))
  case round =>
    obtain ⟨k, hk, rfl, ⟨A1, cap1, rfl, hO⟩, hb⟩ := hrel
    have HB := Lib.hid hb
    have HO := Lib.hid hO
    have hbs := hb.size
    have hl4 := shown_le k s y
    by_cases hlt : k < n
    · by_cases hl : (shown k s y).length < 4
      · obtain ⟨b, off, rfl, hbl, s0, s1, s2, s3, s4, s5⟩ := (RS.below hb H.out hC).spr hlt
        obtain ⟨g0, g1⟩ := HS.out k hlt
        have i1 : (k : Int) < (n : Int) := by omega
        have e1 : IntKind.i64.wrap (y - (s k).y) = y - (s k).y := IntWalk.i64_in _ (by omega)
        have hli : ((shown k s y).length : Int) < 4 := by omega
        clear hb hO
        cases hc : cov (s k) y
        · have HCV : Hid (inB (y - (s k).y) 0 7 = false) := Lib.hid hc
          have hsh : shown (k + 1) s y = shown k s y := by rw [shown_succ, hc]; rfl
          have HSH := Lib.hid hsh
          clear hc hsh
          go_wp2_with (first | (go_at_call 39; (with_reducible refine (l1In_c (y - (s k).y) 0 7 _ HCV.out _).mono ?_); rintro e w' ⟨rfl, rfl⟩))
          go_roundw
          case rel =>
            refine ⟨k + 1, by omega, by go_num, ⟨A1, cap1, ?_, ?_⟩, HB.out⟩
            · rw [HSH.out]
            · rw [HSH.out]; exact HO.out
          case measure => simp [intOf]; omega
        · have HCV : Hid (inB (y - (s k).y) 0 7 = true) := Lib.hid hc
          have hsh : shown (k + 1) s y = shown k s y ++ [k] := by rw [shown_succ, hc, decide_eq_true hl]; rfl
          have HSH := Lib.hid hsh
          clear hc hsh
          obtain ⟨L, hL⟩ : ∃ L, shown k s y = L := ⟨_, rfl⟩
          rw [hL] at HO HSH hl hli
          rw [hL]
          have HO2 : Hid (wr.ownsRow w.heap.size 3 1 (.slice A1 L.length cap1) L.length ((List.range L.length).map (lc (L ++ [k])))) := Lib.hid (by rw [lc_snoc]; exact HO.out)
          go_wp2_with (first | (go_at_call 39; (with_reducible refine (l1In_c (y - (s k).y) 0 7 _ HCV.out _).mono ?_); rintro e w' ⟨rfl, rfl⟩) | (at_builtin; refine wpList_append_one Try.underlying23 info3 rfl (by decide) rfl _ _ rfl w.heap.size L.length cap1 A1 (lc (L ++ [k])) rfl rfl HO2.out (lc_last L k).symm rfl (by omega) hbs ?_; intro A' cap' w7 hown7 hO_w7))
          go_roundw
          case rel =>
            refine ⟨k + 1, by omega, by go_num, ⟨A', cap', ?_, ?_⟩, HB.out.trans hO_w7⟩
            · rw [HSH.out]; simp
            · rw [HSH.out]; simpa using hown7
          case measure => simp [intOf]; omega
      · have hfull : shown n s y = shown k s y := by
          have := shown_full (n := k) (s := s) (y := y) (by omega) (n - k)
          rwa [show k + (n - k) = n by omega] at this
        have hli : ¬ ((shown k s y).length : Int) < 4 := by omega
        have i1 : (k : Int) < (n : Int) := by omega
        have HFULL := Lib.hid hfull
        clear hb hO hfull
        go_wp2
        go_ret
        rw [HFULL.out]
        refine ⟨A1, cap1, rfl, ?_, HB.out⟩
        rw [Nat.mul_one]
        exact HO.out
    · have hkn : k = n := by omega
      subst hkn
      clear hb hO
      go_wp2
      go_ret
      refine ⟨A1, cap1, rfl, ?_, HB.out⟩
      rw [Nat.mul_one]
      exact HO.out
end Go.Proofs.Ytabioinmpjfflaa
