/-
  The contracts of SpritesOnLine, SpriteAt and SpritesHidden in the program and in the reference. Conditions: at most 1048576 sprites and tiles.
-/
import Derived.Test.YtpfdhodilmfmkaaSprAt
namespace Go.Proofs.Ytpfdhodilmfmkaa
set_option linter.all false
set_option linter.unusedSimpArgs false
set_option linter.unusedVariables false
open Go.ChangeShapes Go.WideShapes Go.ChangeAt Go.RowKit

theorem svd_parts {n m : Nat} {s : Nat → Spr} {q : Nat → Nat → Int} (h : svd n m s q = true) : n ≤ 12 ∧ m ≤ 16 ∧ tsv m q = true ∧ ∀ i, i < n → sok m (s i) = true := by
  unfold svd at h
  simp only [Bool.and_eq_true, decide_eq_true_eq] at h
  exact ⟨h.1.1, h.1.2.1, h.1.2.2, sov_true.1 h.2⟩
/-- The list of SpritesOnLine. -/
def solL (n m : Nat) (s : Nat → Spr) (q : Nat → Nat → Int) (y : Int) : List Nat := if (svd n m s q && inB y 0 15) = true then shown n s y else []
theorem solL_no {n m : Nat} {s : Nat → Spr} {q : Nat → Nat → Int} {y : Int} (h : (svd n m s q && inB y 0 15) = false) : solL n m s q y = [] := by
  unfold solL; rw [h]; rfl
theorem solL_yes {n m : Nat} {s : Nat → Spr} {q : Nat → Nat → Int} {y : Int} (h : (svd n m s q && inB y 0 15) = true) : solL n m s q y = shown n s y := by
  unfold solL; rw [h]; rfl
theorem solL_le (n m : Nat) (s : Nat → Spr) (q : Nat → Nat → Int) (y : Int) : (solL n m s q y).length ≤ 4 := by
  unfold solL
  split
  · exact shown_le n s y
  · simp
theorem gives_nil {w w' : World} (hb : Below w.heap.size w w') : Gives 3 1 ([] : List Nat).length (lc []) w (.returned (.slice none 0 0)) w' := ⟨none, 0, rfl, own_nil _ _ _ _ _, hb⟩
theorem gives_emp {w u : World} (hb : Below w.heap.size w u) : Gives 3 1 ([] : List Nat).length (lc []) w (.returned (.slice (some ⟨u.heap.size, 0, none⟩) 0 0)) (u.alloc (.cells #[] 3)) :=
  ⟨_, 0, rfl, own_empty u _ _ _ hb.size, hb.alloc hb.size _⟩

set_option maxHeartbeats 1000000 in
theorem isol_c (A : Option Addr) (n c : Nat) (B : Option Addr) (m d : Nat) (s : Nat → Spr) (q : Nat → Nat → Int) (y : Int) (w : World) {C C' : Nat} (h : RS w C 6 A n (sc s)) (h' : RS w C' 64 B m (tc q)) (hC : C ≤ w.heap.size) (hC' : C' ≤ w.heap.size) (hn : n ≤ 1048576) (hm : m ≤ 1048576) :
    Calls Try.prog 26 #[.slice A n c, .slice B m d, .int .i64 y] w (Gives 3 1 (solL n m s q y).length (lc (solL n m s q y)) w) := by
  have H := Lib.hid h
  have H' := Lib.hid h'
  clear h h'
  cases hv : svd n m s q
  · rw [solL_no (by rw [hv]; rfl)]
    have HV := Lib.hid hv
    clear hv
    go_enter Try.func26, Try.ntmps26
    go_wp2_with (first | (go_at_call 14; (refine (isv_c _ _ _ _ _ _ s q false HV.out _ H.out H'.out hC hC' hn hm).mono ?_; rintro e w1 ⟨rfl, hO_w1⟩; have hz_w1 := hO_w1.size; (try simp only [World.size_alloc, World.size_setCell, World.size_drew] at hz_w1))))
    go_ret
    first
      | exact gives_nil hO_w1
      | exact gives_emp hO_w1
  · have HV := Lib.hid hv
    obtain ⟨p1, p2, p3, p4⟩ := svd_parts hv
    cases hy : inB y 0 15
    · rw [solL_no (by rw [hv, hy]; rfl)]
      have HY := Lib.hid hy
      clear hv hy p3 p4
      go_enter Try.func26, Try.ntmps26
      go_wp2_with (first | (go_at_call 14; (refine (isv_c _ _ _ _ _ _ s q true HV.out _ H.out H'.out hC hC' hn hm).mono ?_; rintro e w1 ⟨rfl, hO_w1⟩; have hz_w1 := hO_w1.size; (try simp only [World.size_alloc, World.size_setCell, World.size_drew] at hz_w1))) | (go_at_call 43; (with_reducible refine (within_c y 0 15 _ HY.out _).mono ?_); rintro e w' ⟨rfl, rfl⟩))
      go_ret
      first
        | exact gives_nil hO_w1
        | exact gives_emp hO_w1
    · have HY := Lib.hid hy
      obtain ⟨y0, y1⟩ := inB_true.1 hy
      rw [solL_yes (by rw [hv, hy]; rfl)]
      have HP := Lib.hid (fun i (hi : i < n) => (sok_parts (p4 i hi)).2.1)
      clear hv hy p3 p4
      go_enter Try.func26, Try.ntmps26
      go_wp2_with (first | (go_at_call 14; (refine (isv_c _ _ _ _ _ _ s q true HV.out _ H.out H'.out hC hC' hn hm).mono ?_; rintro e w1 ⟨rfl, hO_w1⟩; have hz_w1 := hO_w1.size; (try simp only [World.size_alloc, World.size_setCell, World.size_drew] at hz_w1))) | (go_at_call 43; (with_reducible refine (within_c y 0 15 _ HY.out _).mono ?_); rintro e w' ⟨rfl, rfl⟩) | (go_at_call 51; refine (ion_c _ _ _ s y _ (C := C) (by have h1 := H.out; (repeat (first | with_reducible assumption | ((with_reducible refine RS.below (by assumption) ?_ ?_) <;> try ((try simp only [World.size_alloc, World.size_setCell, World.size_drew]) <;> omega)) | ((with_reducible refine RS.alloc ?_ ?_ _) <;> try ((try simp only [World.size_alloc, World.size_setCell, World.size_drew]) <;> omega)) | ((with_reducible refine RS.setRow ?_ ?_ _) <;> try ((try simp only [World.size_alloc, World.size_setCell, World.size_drew]) <;> omega)) | ((with_reducible refine RS.setCell ?_ ?_ _) <;> try ((try simp only [World.size_alloc, World.size_setCell, World.size_drew]) <;> omega)) | ((with_reducible refine RS.setCells ?_ ?_ _ _) <;> try ((try simp only [World.size_alloc, World.size_setCell, World.size_drew]) <;> omega)) | (with_reducible apply RS.drewN) | (with_reducible apply RS.drew)))) (by ((try simp only [World.size_alloc, World.size_setCell, World.size_drew]) <;> omega)) p1 y0 y1 HP.out).mono ?_; rintro e w2 ⟨A2, cap2, rfl, hown, hO_w2⟩))
      go_ret
      refine ⟨A2, cap2, rfl, own_base hown hO_w1.size, hO_w1.trans (hO_w2.mono hO_w1.size)⟩

set_option maxHeartbeats 1000000 in
theorem ssol_c (A : Option Addr) (n c : Nat) (B : Option Addr) (m d : Nat) (s : Nat → Spr) (q : Nat → Nat → Int) (y : Int) (w : World) {C C' : Nat} (h : RS w C 6 A n (sc s)) (h' : RS w C' 64 B m (tc q)) (hC : C ≤ w.heap.size) (hC' : C' ≤ w.heap.size) (hn : n ≤ 1048576) (hm : m ≤ 1048576) :
    Calls Try.prog 29 #[.slice A n c, .slice B m d, .int .i64 y] w (Gives 3 1 (solL n m s q y).length (lc (solL n m s q y)) w) := by
  have H := Lib.hid h
  have H' := Lib.hid h'
  clear h h'
  cases hv : svd n m s q
  · rw [solL_no (by rw [hv]; rfl)]
    have HV := Lib.hid hv
    clear hv
    go_enter Try.func29, Try.ntmps29
    go_wp2_with (first | (go_at_call 15; (refine (ssv_c _ _ _ _ _ _ s q false HV.out _ H.out H'.out hC hC' hn hm).mono ?_; rintro e w1 ⟨rfl, hO_w1⟩; have hz_w1 := hO_w1.size; (try simp only [World.size_alloc, World.size_setCell, World.size_drew] at hz_w1))))
    go_ret
    first
      | exact gives_nil hO_w1
      | exact gives_emp hO_w1
  · have HV := Lib.hid hv
    obtain ⟨p1, p2, p3, p4⟩ := svd_parts hv
    cases hy : inB y 0 15
    · rw [solL_no (by rw [hv, hy]; rfl)]
      have HY := Lib.hid hy
      clear hv hy p3 p4
      go_enter Try.func29, Try.ntmps29
      go_wp2_with (first | (go_at_call 15; (refine (ssv_c _ _ _ _ _ _ s q true HV.out _ H.out H'.out hC hC' hn hm).mono ?_; rintro e w1 ⟨rfl, hO_w1⟩; have hz_w1 := hO_w1.size; (try simp only [World.size_alloc, World.size_setCell, World.size_drew] at hz_w1))) | (go_at_call 45; (with_reducible refine (l1In_c y 0 15 _ HY.out _).mono ?_); rintro e w' ⟨rfl, rfl⟩))
      go_ret
      first
        | exact gives_nil hO_w1
        | exact gives_emp hO_w1
    · have HY := Lib.hid hy
      obtain ⟨y0, y1⟩ := inB_true.1 hy
      rw [solL_yes (by rw [hv, hy]; rfl)]
      have HP := Lib.hid (fun i (hi : i < n) => (sok_parts (p4 i hi)).2.1)
      clear hv hy p3 p4
      go_enter Try.func29, Try.ntmps29
      go_wp2_with (first | (go_at_call 15; (refine (ssv_c _ _ _ _ _ _ s q true HV.out _ H.out H'.out hC hC' hn hm).mono ?_; rintro e w1 ⟨rfl, hO_w1⟩; have hz_w1 := hO_w1.size; (try simp only [World.size_alloc, World.size_setCell, World.size_drew] at hz_w1))) | (go_at_call 45; (with_reducible refine (l1In_c y 0 15 _ HY.out _).mono ?_); rintro e w' ⟨rfl, rfl⟩) | (go_at_call 53; refine (son_c _ _ _ s y _ (C := C) (by have h1 := H.out; (repeat (first | with_reducible assumption | ((with_reducible refine RS.below (by assumption) ?_ ?_) <;> try ((try simp only [World.size_alloc, World.size_setCell, World.size_drew]) <;> omega)) | ((with_reducible refine RS.alloc ?_ ?_ _) <;> try ((try simp only [World.size_alloc, World.size_setCell, World.size_drew]) <;> omega)) | ((with_reducible refine RS.setRow ?_ ?_ _) <;> try ((try simp only [World.size_alloc, World.size_setCell, World.size_drew]) <;> omega)) | ((with_reducible refine RS.setCell ?_ ?_ _) <;> try ((try simp only [World.size_alloc, World.size_setCell, World.size_drew]) <;> omega)) | ((with_reducible refine RS.setCells ?_ ?_ _ _) <;> try ((try simp only [World.size_alloc, World.size_setCell, World.size_drew]) <;> omega)) | (with_reducible apply RS.drewN) | (with_reducible apply RS.drew)))) (by ((try simp only [World.size_alloc, World.size_setCell, World.size_drew]) <;> omega)) p1 y0 y1 HP.out).mono ?_; rintro e w2 ⟨A2, cap2, rfl, hown, hO_w2⟩))
      go_ret
      refine ⟨A2, cap2, rfl, own_base hown hO_w1.size, hO_w1.trans (hO_w2.mono hO_w1.size)⟩

/-- The value of SpritesHidden. -/
def shd (n m : Nat) (s : Nat → Spr) (q : Nat → Nat → Int) (y : Int) : Int := if (svd n m s q && inB y 0 15) = true then max ((cvl n s y).length - 4 : Int) 0 else -1
theorem shd_no {n m : Nat} {s : Nat → Spr} {q : Nat → Nat → Int} {y : Int} (h : (svd n m s q && inB y 0 15) = false) : shd n m s q y = -1 := by
  unfold shd; rw [h]; rfl
theorem shd_yes {n m : Nat} {s : Nat → Spr} {q : Nat → Nat → Int} {y : Int} (h : (svd n m s q && inB y 0 15) = true) : shd n m s q y = max ((cvl n s y).length - 4 : Int) 0 := by
  unfold shd; rw [h]; rfl
theorem cvl_le (n : Nat) (s : Nat → Spr) (y : Int) : (cvl n s y).length ≤ n := by
  have := List.length_filter_le (fun i => cov (s i) y) (List.range n)
  simpa [cvl] using this
theorem cvl_len (n : Nat) (s : Nat → Spr) (y : Int) : (cvl (n + 1) s y).length = (cvl n s y).length + if cov (s n) y = true then 1 else 0 := by
  rw [cvl_succ]; split <;> simp

set_option maxHeartbeats 1000000 in
theorem ishd_c (A : Option Addr) (n c : Nat) (B : Option Addr) (m d : Nat) (s : Nat → Spr) (q : Nat → Nat → Int) (y : Int) (w : World) {C C' : Nat} (h : RS w C 6 A n (sc s)) (h' : RS w C' 64 B m (tc q)) (hC : C ≤ w.heap.size) (hC' : C' ≤ w.heap.size) (hn : n ≤ 1048576) (hm : m ≤ 1048576) :
    Calls Try.prog 24 #[.slice A n c, .slice B m d, .int .i64 y] w fun e w' => e = .returned (.int .i64 (shd n m s q y)) ∧ Below w.heap.size w w' := by
  have H := Lib.hid h
  have H' := Lib.hid h'
  clear h h'
  cases hv : svd n m s q
  · rw [shd_no (by rw [hv]; rfl)]
    have HV := Lib.hid hv
    clear hv
    go_enter Try.func24, Try.ntmps24
    go_wp2_with (first | (go_at_call 14; (refine (isv_c _ _ _ _ _ _ s q false HV.out _ H.out H'.out hC hC' hn hm).mono ?_; rintro e w1 ⟨rfl, hO_w1⟩; have hz_w1 := hO_w1.size; (try simp only [World.size_alloc, World.size_setCell, World.size_drew] at hz_w1))))
    go_ret
    exact ⟨rfl, hO_w1⟩
  · have HV := Lib.hid hv
    obtain ⟨p1, p2, p3, p4⟩ := svd_parts hv
    cases hy : inB y 0 15
    · rw [shd_no (by rw [hv, hy]; rfl)]
      have HY := Lib.hid hy
      clear hv hy p3 p4
      go_enter Try.func24, Try.ntmps24
      go_wp2_with (first | (go_at_call 14; (refine (isv_c _ _ _ _ _ _ s q true HV.out _ H.out H'.out hC hC' hn hm).mono ?_; rintro e w1 ⟨rfl, hO_w1⟩; have hz_w1 := hO_w1.size; (try simp only [World.size_alloc, World.size_setCell, World.size_drew] at hz_w1))) | (go_at_call 43; (with_reducible refine (within_c y 0 15 _ HY.out _).mono ?_); rintro e w' ⟨rfl, rfl⟩))
      go_ret
      exact ⟨rfl, hO_w1⟩
    · have HY := Lib.hid hy
      obtain ⟨y0, y1⟩ := inB_true.1 hy
      rw [shd_yes (by rw [hv, hy]; rfl)]
      have HP := Lib.hid (fun i (hi : i < n) => (sok_parts (p4 i hi)).2.1)
      clear hv hy p3 p4
      go_enter Try.func24, Try.ntmps24
      go_wp2_with (first | (go_at_call 14; (refine (isv_c _ _ _ _ _ _ s q true HV.out _ H.out H'.out hC hC' hn hm).mono ?_; rintro e w1 ⟨rfl, hO_w1⟩; have hz_w1 := hO_w1.size; (try simp only [World.size_alloc, World.size_setCell, World.size_drew] at hz_w1))) | (go_at_call 43; (with_reducible refine (within_c y 0 15 _ HY.out _).mono ?_); rintro e w' ⟨rfl, rfl⟩))
      go_loopw [7, 21] (fun u i wr => ∃ k : Nat, k ≤ n ∧ i = .int .i64 k ∧ u = .int .i64 ((cvl k s y).length : Nat) ∧ Below w.heap.size w wr) (fun _ i _ => n - (intOf i).toNat)
      case atStart => exact ⟨0, by omega, rfl, rfl, hO_w1⟩
      case round =>
        obtain ⟨k, hk, rfl, rfl, hb⟩ := hrel
        have HB := Lib.hid hb
        have hbs := hb.size
        have hle := cvl_le k s y
        by_cases hlt : k < n
        · obtain ⟨b, off, rfl, hbl, s0, s1, s2, s3, s4, s5⟩ := (RS.below hb H.out hC).spr hlt
          obtain ⟨g0, g1⟩ := HP.out k hlt
          have i1 : (k : Int) < (n : Int) := by omega
          have e1 : IntKind.i64.wrap (y - (s k).y) = y - (s k).y := IntWalk.i64_in _ (by omega)
          have hln := cvl_len k s y
          have HLN := Lib.hid hln
          clear hb hln
          cases hc : cov (s k) y
          · have HCV : Hid (inB (y - (s k).y) 0 7 = false) := Lib.hid hc
            have HC2 := Lib.hid hc
            clear hc
            go_wp2_with (first | (go_at_call 43; (with_reducible refine (within_c (y - (s k).y) 0 7 _ HCV.out _).mono ?_); rintro e w' ⟨rfl, rfl⟩))
            go_roundw
            case rel =>
              refine ⟨k + 1, by omega, by go_num, ?_, ?_⟩
              · rw [HLN.out, HC2.out]; rfl
              · first | exact HB.out.alloc hbs _ | exact HB.out
            case measure => simp [intOf]; omega
          · have HCV : Hid (inB (y - (s k).y) 0 7 = true) := Lib.hid hc
            have HC2 := Lib.hid hc
            clear hc
            go_wp2_with (first | (go_at_call 43; (with_reducible refine (within_c (y - (s k).y) 0 7 _ HCV.out _).mono ?_); rintro e w' ⟨rfl, rfl⟩))
            go_roundw
            case rel =>
              refine ⟨k + 1, by omega, by go_num, ?_, ?_⟩
              · rw [HLN.out, HC2.out]; simp <;> omega
              · first | exact HB.out.alloc hbs _ | exact HB.out
            case measure => simp [intOf]; omega
        · have hkn : k = n := by omega
          subst hkn
          clear hb
          go_wp2
          all_goals
            go_ret
            exact ⟨ret_int (by omega), HB.out⟩

set_option maxHeartbeats 1000000 in
theorem sshd_c (A : Option Addr) (n c : Nat) (B : Option Addr) (m d : Nat) (s : Nat → Spr) (q : Nat → Nat → Int) (y : Int) (w : World) {C C' : Nat} (h : RS w C 6 A n (sc s)) (h' : RS w C' 64 B m (tc q)) (hC : C ≤ w.heap.size) (hC' : C' ≤ w.heap.size) (hn : n ≤ 1048576) (hm : m ≤ 1048576) :
    Calls Try.prog 25 #[.slice A n c, .slice B m d, .int .i64 y] w fun e w' => e = .returned (.int .i64 (shd n m s q y)) ∧ Below w.heap.size w w' := by
  have H := Lib.hid h
  have H' := Lib.hid h'
  clear h h'
  cases hv : svd n m s q
  · rw [shd_no (by rw [hv]; rfl)]
    have HV := Lib.hid hv
    clear hv
    go_enter Try.func25, Try.ntmps25
    go_wp2_with (first | (go_at_call 15; (refine (ssv_c _ _ _ _ _ _ s q false HV.out _ H.out H'.out hC hC' hn hm).mono ?_; rintro e w1 ⟨rfl, hO_w1⟩; have hz_w1 := hO_w1.size; (try simp only [World.size_alloc, World.size_setCell, World.size_drew] at hz_w1))))
    go_ret
    exact ⟨rfl, hO_w1⟩
  · have HV := Lib.hid hv
    obtain ⟨p1, p2, p3, p4⟩ := svd_parts hv
    cases hy : inB y 0 15
    · rw [shd_no (by rw [hv, hy]; rfl)]
      have HY := Lib.hid hy
      clear hv hy p3 p4
      go_enter Try.func25, Try.ntmps25
      go_wp2_with (first | (go_at_call 15; (refine (ssv_c _ _ _ _ _ _ s q true HV.out _ H.out H'.out hC hC' hn hm).mono ?_; rintro e w1 ⟨rfl, hO_w1⟩; have hz_w1 := hO_w1.size; (try simp only [World.size_alloc, World.size_setCell, World.size_drew] at hz_w1))) | (go_at_call 45; (with_reducible refine (l1In_c y 0 15 _ HY.out _).mono ?_); rintro e w' ⟨rfl, rfl⟩))
      go_ret
      exact ⟨rfl, hO_w1⟩
    · have HY := Lib.hid hy
      obtain ⟨y0, y1⟩ := inB_true.1 hy
      rw [shd_yes (by rw [hv, hy]; rfl)]
      have HP := Lib.hid (fun i (hi : i < n) => (sok_parts (p4 i hi)).2.1)
      clear hv hy p3 p4
      go_enter Try.func25, Try.ntmps25
      go_wp2_with (first | (go_at_call 15; (refine (ssv_c _ _ _ _ _ _ s q true HV.out _ H.out H'.out hC hC' hn hm).mono ?_; rintro e w1 ⟨rfl, hO_w1⟩; have hz_w1 := hO_w1.size; (try simp only [World.size_alloc, World.size_setCell, World.size_drew] at hz_w1))) | (go_at_call 45; (with_reducible refine (l1In_c y 0 15 _ HY.out _).mono ?_); rintro e w' ⟨rfl, rfl⟩))
      go_loopw [7, 8] (fun u i wr => ∃ k : Nat, k ≤ n ∧ i = .int .i64 k ∧ u = .int .i64 ((cvl k s y).length : Nat) ∧ Below w.heap.size w wr) (fun _ i _ => n - (intOf i).toNat)
      case atStart => exact ⟨0, by omega, rfl, rfl, hO_w1⟩
      case round =>
        obtain ⟨k, hk, rfl, rfl, hb⟩ := hrel
        have HB := Lib.hid hb
        have hbs := hb.size
        have hle := cvl_le k s y
        by_cases hlt : k < n
        · obtain ⟨b, off, rfl, hbl, s0, s1, s2, s3, s4, s5⟩ := (RS.below hb H.out hC).spr hlt
          obtain ⟨g0, g1⟩ := HP.out k hlt
          have i1 : (k : Int) < (n : Int) := by omega
          have e1 : IntKind.i64.wrap (y - (s k).y) = y - (s k).y := IntWalk.i64_in _ (by omega)
          have hln := cvl_len k s y
          have HLN := Lib.hid hln
          clear hb hln
          cases hc : cov (s k) y
          · have HCV : Hid (inB (y - (s k).y) 0 7 = false) := Lib.hid hc
            have HC2 := Lib.hid hc
            clear hc
            go_wp2_with (first | (go_at_call 45; (with_reducible refine (l1In_c (y - (s k).y) 0 7 _ HCV.out _).mono ?_); rintro e w' ⟨rfl, rfl⟩))
            go_roundw
            case rel =>
              refine ⟨k + 1, by omega, by go_num, ?_, ?_⟩
              · rw [HLN.out, HC2.out]; rfl
              · first | exact HB.out.alloc hbs _ | exact HB.out
            case measure => simp [intOf]; omega
          · have HCV : Hid (inB (y - (s k).y) 0 7 = true) := Lib.hid hc
            have HC2 := Lib.hid hc
            clear hc
            go_wp2_with (first | (go_at_call 45; (with_reducible refine (l1In_c (y - (s k).y) 0 7 _ HCV.out _).mono ?_); rintro e w' ⟨rfl, rfl⟩))
            go_roundw
            case rel =>
              refine ⟨k + 1, by omega, by go_num, ?_, ?_⟩
              · rw [HLN.out, HC2.out]; simp <;> omega
              · first | exact HB.out.alloc hbs _ | exact HB.out
            case measure => simp [intOf]; omega
        · have hkn : k = n := by omega
          subst hkn
          clear hb
          go_wp2
          all_goals
            go_ret
            exact ⟨ret_int (by omega), HB.out⟩

end Go.Proofs.Ytpfdhodilmfmkaa
