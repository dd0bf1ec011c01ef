/-
  The contracts of SpritesValid in the program and in the reference. Conditions: at most 1048576 sprites and tiles.
-/
import Derived.Test.YtabioinmpjfflaaSpr
import Derived.Test.YtabioinmpjfflaaField
namespace Go.Proofs.Ytabioinmpjfflaa
set_option linter.all false
set_option linter.unusedSimpArgs false
set_option linter.unusedVariables false
set_option maxRecDepth 20000
open Go.ChangeShapes Go.WideShapes Go.ChangeAt Go.RowKit

/-- Is a sprite valid for m tiles? -/
def sok (m : Nat) (s : Spr) : Bool := inB s.x (-16) 64 && inB s.y (-16) 64 && inB s.num 0 ((m : Int) - 1)
def sov (n m : Nat) (s : Nat → Spr) : Bool := (List.range n).all fun i => sok m (s i)
theorem sov_true {n m : Nat} {s : Nat → Spr} : sov n m s = true ↔ ∀ i, i < n → sok m (s i) = true := by simp [sov]
theorem sov_no {n m k : Nat} {s : Nat → Spr} (hk : k < n) (h : sok m (s k) = false) : sov n m s = false := by
  cases hv : sov n m s
  · rfl
  · have := sov_true.1 hv k hk
    rw [h] at this; cases this
/-- Are the sprites valid? -/
def svd (n m : Nat) (s : Nat → Spr) (q : Nat → Nat → Int) : Bool := decide (n ≤ 12) && (decide (m ≤ 16) && tsv m q) && sov n m s

set_option maxHeartbeats 1000000 in
theorem isv_c (A : Option Addr) (n c : Nat) (B : Option Addr) (m d : Nat) (s : Nat → Spr) (q : Nat → Nat → Int) (v : Bool) (hv : svd n m s q = v) (w : World) {C C' : Nat} (h : RS w C 6 A n (sc s)) (h' : RS w C' 64 B m (tc q)) (hC : C ≤ w.heap.size) (hC' : C' ≤ w.heap.size) (hnn : n ≤ 1048576) (hm : m ≤ 1048576) :
    Calls Try.prog 44 #[.slice A n c, .slice B m d] w fun e w' => e = .returned (.bool v) ∧ Below w.heap.size w w' := by
  have H := Lib.hid h
  have H' := Lib.hid h'
  have HV := Lib.hid hv
  clear h h' hv
  by_cases hn : 12 < n
  · have hF : false = v := by rw [← HV.out]; unfold svd; rw [decide_eq_false (by omega)]; rfl
    subst hF
    have hn' : (12 : Int) < (n : Int) := by omega
    go_enter Try.func44, Try.ntmps44
    go_wp2
    go_ret
    exact ⟨rfl, Below.refl _ _⟩
  · have hn' : ¬ (12 : Int) < (n : Int) := by omega
    cases hT : (decide (m ≤ 16) && tsv m q)
    · have HT := Lib.hid hT
      have hF : false = v := by rw [← HV.out]; unfold svd; rw [hT]; simp
      subst hF
      clear hT
      go_enter Try.func44, Try.ntmps44
      go_wp2_with (first | (go_at_call 47; (refine (itsv_c _ _ _ _ _ HT.out _ H'.out hC').mono ?_; rintro e w1 ⟨rfl, hO_w1⟩; have hz_w1 := hO_w1.size; (try simp only [World.size_alloc, World.size_setCell, World.size_drew] at hz_w1))))
      go_ret
      exact ⟨rfl, hO_w1⟩
    · have HT := Lib.hid hT
      have hF : sov n m s = v := by rw [← HV.out]; unfold svd; rw [hT, decide_eq_true (show n ≤ 12 by omega)]; rfl
      have HF := Lib.hid hF
      clear hT hF
      go_enter Try.func44, Try.ntmps44
      go_wp2_with (first | (go_at_call 47; (refine (itsv_c _ _ _ _ _ HT.out _ H'.out hC').mono ?_; rintro e w1 ⟨rfl, hO_w1⟩; have hz_w1 := hO_w1.size; (try simp only [World.size_alloc, World.size_setCell, World.size_drew] at hz_w1))))
      go_loopw [17] (fun i wr => ∃ k : Nat, k ≤ n ∧ i = .int .i64 k ∧ Hid (∀ j, j < k → sok m (s j) = true) ∧ Below w.heap.size w wr) (fun i _ => n - (intOf i).toNat)
      case atStart => exact ⟨0, by omega, rfl, fun j hj => by omega, hO_w1⟩
      case round =>
        obtain ⟨k, hk, rfl, hall, hb⟩ := hrel
        have HB := Lib.hid hb
        by_cases hlt : k < n
        · obtain ⟨b, off, rfl, hbl, s0, s1, s2, s3, s4, s5⟩ := (RS.below hb H.out hC).spr hlt
          have i1 : (k : Int) < (n : Int) := by omega
          have e1 : IntKind.i64.wrap ((m : Int) - 1) = (m : Int) - 1 := IntWalk.i64_in _ (by omega)
          have hbs := hb.size
          clear hb
          cases hx : inB (s k).x (-16) 64
          · have HX := Lib.hid hx
            have hbad : sok m (s k) = false := by unfold sok; rw [hx]; rfl
            have HBAD := Lib.hid hbad
            clear hx hbad
            go_wp2_with (first | (go_at_call 36; (with_reducible refine (within_c (s k).x (-16) 64 _ HX.out _).mono ?_); rintro e w' ⟨rfl, rfl⟩))
            go_ret
            refine ⟨ret_bool ((sov_no hlt HBAD.out).symm.trans HF.out), ?_⟩
            exact HB.out.alloc hbs _
          · have HX := Lib.hid hx
            cases hy : inB (s k).y (-16) 64
            · have HY := Lib.hid hy
              have hbad : sok m (s k) = false := by unfold sok; rw [hx, hy]; rfl
              have HBAD := Lib.hid hbad
              clear hx hy hbad
              go_wp2_with (first | (go_at_call 36; (first | (with_reducible refine (within_c (s k).x (-16) 64 _ HX.out _).mono ?_) | (with_reducible refine (within_c (s k).y (-16) 64 _ HY.out _).mono ?_)); rintro e w' ⟨rfl, rfl⟩))
              go_ret
              refine ⟨ret_bool ((sov_no hlt HBAD.out).symm.trans HF.out), ?_⟩
              exact HB.out.alloc hbs _
            · have HY := Lib.hid hy
              cases hz : inB (s k).num 0 ((m : Int) - 1)
              · have HZ := Lib.hid hz
                have hbad : sok m (s k) = false := by unfold sok; rw [hx, hy, hz]; rfl
                have HBAD := Lib.hid hbad
                clear hx hy hz hbad
                go_wp2_with (first | (go_at_call 36; (first | (with_reducible refine (within_c (s k).x (-16) 64 _ HX.out _).mono ?_) | (with_reducible refine (within_c (s k).y (-16) 64 _ HY.out _).mono ?_) | (with_reducible refine (within_c (s k).num 0 ((m : Int) - 1) _ HZ.out _).mono ?_)); rintro e w' ⟨rfl, rfl⟩))
                go_ret
                refine ⟨ret_bool ((sov_no hlt HBAD.out).symm.trans HF.out), ?_⟩
                exact HB.out.alloc hbs _
              · have HZ := Lib.hid hz
                have hgood : sok m (s k) = true := by unfold sok; rw [hx, hy, hz]; rfl
                have HG := Lib.hid hgood
                clear hx hy hz hgood
                go_wp2_with (first | (go_at_call 36; (first | (with_reducible refine (within_c (s k).x (-16) 64 _ HX.out _).mono ?_) | (with_reducible refine (within_c (s k).y (-16) 64 _ HY.out _).mono ?_) | (with_reducible refine (within_c (s k).num 0 ((m : Int) - 1) _ HZ.out _).mono ?_)); rintro e w' ⟨rfl, rfl⟩))
                go_roundw
                case rel =>
                  refine ⟨k + 1, by omega, by go_num, fun j hj => ?_, HB.out.alloc hbs _⟩
                  by_cases e : j = k
                  · subst e; exact HG.out
                  · exact hall.out j (by omega)
                case measure => simp [intOf]; omega
        · have hkn : k = n := by omega
          subst hkn
          clear hb
          go_wp2
          go_ret
          exact ⟨ret_bool ((sov_true.2 hall.out).symm.trans HF.out), HB.out⟩

set_option maxHeartbeats 2000000 in
theorem ssv_c (A : Option Addr) (n c : Nat) (B : Option Addr) (m d : Nat) (s : Nat → Spr) (q : Nat → Nat → Int) (v : Bool) (hv : svd n m s q = v) (w : World) {C C' : Nat} (h : RS w C 6 A n (sc s)) (h' : RS w C' 64 B m (tc q)) (hC : C ≤ w.heap.size) (hC' : C' ≤ w.heap.size) (hnn : n ≤ 1048576) (hm : m ≤ 1048576) :
    Calls Try.prog 34 #[.slice A n c, .slice B m d] w fun e w' => e = .returned (.bool v) ∧ Below w.heap.size w w' := by
  have H := Lib.hid h
  have H' := Lib.hid h'
  have HV := Lib.hid hv
  clear h h' hv
  go_enter Try.func34, Try.ntmps34
  go_wp2
  go_loopw [5] (fun i wr => ∃ k : Nat, k ≤ m ∧ i = .int .i64 k ∧ Hid (∀ j, j < k → tvd (q j) = true) ∧ Below w.heap.size w wr) (fun i _ => m - (intOf i).toNat)
  case atStart => exact ⟨0, by omega, rfl, fun j hj => by omega, Below.refl _ _⟩
  case round =>
    obtain ⟨k, hk, rfl, hall, hb⟩ := hrel
    have HB := Lib.hid hb
    by_cases hlt : k < m
    · obtain ⟨b, off, rfl, hbl, hc⟩ := (RS.below hb H'.out hC').at_ (by omega)
      have hr := ts_range hc hlt
      clear hb hc
      cases ht : tvd (q k)
      · have HT := Lib.hid ht
        clear ht
        have hF : false = v := by rw [← HV.out]; unfold svd; rw [tsv_no hlt HT.out]; simp
        subst hF
        go_wp2_with ((with_reducible refine atLoad (ty := 36) ?_); refine wpList_load_tile_mid rfl 36 _ rfl b (off + k * 64) rfl (q k) hr _ Try.underlying36 rfl size36 ?_)
        go_wp2_with fail
        refine (stv_c _ _ HT.out _).mono ?_
        rintro e w1 ⟨rfl, hO_w1⟩
        have hz_w1 := hO_w1.size
        (try simp only [World.size_alloc, World.size_setCell, World.size_drew] at hz_w1)
        go_wp2
        go_ret
        exact ⟨rfl, via hO_w1 HB.out HB.out.size⟩
      · have HT := Lib.hid ht
        clear ht
        go_wp2_with ((with_reducible refine atLoad (ty := 36) ?_); refine wpList_load_tile_mid rfl 36 _ rfl b (off + k * 64) rfl (q k) hr _ Try.underlying36 rfl size36 ?_)
        go_wp2_with fail
        refine (stv_c _ _ HT.out _).mono ?_
        rintro e w1 ⟨rfl, hO_w1⟩
        have hz_w1 := hO_w1.size
        (try simp only [World.size_alloc, World.size_setCell, World.size_drew] at hz_w1)
        go_wp2
        go_roundw
        case rel =>
          refine ⟨k + 1, by omega, by go_num, fun j hj => ?_, via hO_w1 HB.out HB.out.size⟩
          by_cases e : j = k
          · subst e; exact HT.out
          · exact hall.out j (by omega)
        case measure => simp [intOf]; omega
    · have hkm : k = m := by omega
      subst hkm
      have hF2 : (decide (n ≤ 12) && decide (k ≤ 16) && sov n k s) = v := by rw [← HV.out]; unfold svd; rw [tsv_true.2 hall.out]; simp
      have HF2 := Lib.hid hF2
      clear hF2 hb
      go_wp2
      obtain ⟨wo, rfl⟩ : ∃ wo : World, wo = wr := ⟨_, rfl⟩
      go_loopw [6] (fun i wr => ∃ k' : Nat, k' ≤ n ∧ i = .int .i64 k' ∧ Hid (∀ j, j < k' → sok k (s j) = true) ∧ Below w.heap.size w wr) (fun i _ => n - (intOf i).toNat)
      case atStart => exact ⟨0, by omega, rfl, fun j hj => by omega, HB.out⟩
      case round =>
        obtain ⟨k', hk', rfl, hall', hb'⟩ := hrel
        have HB' := Lib.hid hb'
        by_cases hlt' : k' < n
        · obtain ⟨b, off, rfl, hbl, s0, s1, s2, s3, s4, s5⟩ := (RS.below hb' H.out hC).spr hlt'
          have i1 : (k' : Int) < (n : Int) := by omega
          have e1 : IntKind.i64.wrap ((k : Int) - 1) = (k : Int) - 1 := IntWalk.i64_in _ (by omega)
          clear hb'
          cases hx : inB (s k').x (-16) 64
          · have HX := Lib.hid hx
            have hF : false = v := by
              rw [← HF2.out, sov_no hlt' (by unfold sok; rw [hx]; rfl)]; simp
            subst hF
            clear hx
            go_wp2_with (first | (go_at_call 39; (with_reducible refine (l1In_c (s k').x (-16) 64 _ HX.out _).mono ?_); rintro e w' ⟨rfl, rfl⟩))
            go_ret
            exact ⟨rfl, HB'.out⟩
          · have HX := Lib.hid hx
            cases hy : inB (s k').y (-16) 64
            · have HY := Lib.hid hy
              have hF : false = v := by
                rw [← HF2.out, sov_no hlt' (by unfold sok; rw [hx, hy]; rfl)]; simp
              subst hF
              clear hx hy
              go_wp2_with (first | (go_at_call 39; (first | (with_reducible refine (l1In_c (s k').x (-16) 64 _ HX.out _).mono ?_) | (with_reducible refine (l1In_c (s k').y (-16) 64 _ HY.out _).mono ?_)); rintro e w' ⟨rfl, rfl⟩))
              go_ret
              exact ⟨rfl, HB'.out⟩
            · have HY := Lib.hid hy
              cases hz : inB (s k').num 0 ((k : Int) - 1)
              · have HZ := Lib.hid hz
                have hF : false = v := by
                  rw [← HF2.out, sov_no hlt' (by unfold sok; rw [hx, hy, hz]; rfl)]; simp
                subst hF
                clear hx hy hz
                go_wp2_with (first | (go_at_call 39; (first | (with_reducible refine (l1In_c (s k').x (-16) 64 _ HX.out _).mono ?_) | (with_reducible refine (l1In_c (s k').y (-16) 64 _ HY.out _).mono ?_) | (with_reducible refine (l1In_c (s k').num 0 ((k : Int) - 1) _ HZ.out _).mono ?_)); rintro e w' ⟨rfl, rfl⟩))
                go_ret
                exact ⟨rfl, HB'.out⟩
              · have HZ := Lib.hid hz
                have hgood : sok k (s k') = true := by unfold sok; rw [hx, hy, hz]; rfl
                have HG := Lib.hid hgood
                clear hx hy hz hgood
                go_wp2_with (first | (go_at_call 39; (first | (with_reducible refine (l1In_c (s k').x (-16) 64 _ HX.out _).mono ?_) | (with_reducible refine (l1In_c (s k').y (-16) 64 _ HY.out _).mono ?_) | (with_reducible refine (l1In_c (s k').num 0 ((k : Int) - 1) _ HZ.out _).mono ?_)); rintro e w' ⟨rfl, rfl⟩))
                go_roundw
                case rel =>
                  refine ⟨k' + 1, by omega, by go_num, fun j hj => ?_, HB'.out⟩
                  by_cases e : j = k'
                  · subst e; exact HG.out
                  · exact hall'.out j (by omega)
                case measure => simp [intOf]; omega
        · have hkn : k' = n := by omega
          subst hkn
          clear hb'
          have hF : (decide (k' ≤ 12) && decide (k ≤ 16)) = v := by rw [← HF2.out, sov_true.2 hall'.out]; simp
          by_cases g1 : (k' : Int) ≤ 12
          · by_cases g2 : (k : Int) ≤ 16
            · have hv' : true = v := by rw [← hF, decide_eq_true (show k' ≤ 12 by omega), decide_eq_true (show k ≤ 16 by omega)]; rfl
              subst hv'
              clear hF
              go_wp2
              go_ret
              exact ⟨rfl, HB'.out⟩
            · have hv' : false = v := by rw [← hF, decide_eq_false (show ¬ k ≤ 16 by omega)]; simp
              subst hv'
              clear hF
              go_wp2
              go_ret
              exact ⟨rfl, HB'.out⟩
          · have hv' : false = v := by rw [← hF, decide_eq_false (show ¬ k' ≤ 12 by omega)]; rfl
            subst hv'
            clear hF
            go_wp2
            go_ret
            exact ⟨rfl, HB'.out⟩
end Go.Proofs.Ytabioinmpjfflaa
