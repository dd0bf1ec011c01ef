/-
  The law FnFlipSprite holds: a flipped sprite shows the flipped tile; for every code. No conditions.
-/
import Derived.Test.YtncajejomeidlaaOpen
import Derived.Test.YtncajejomeidlaaSprLaw
import Derived.Test.YtncajejomeidlaaSprDraw3
import Derived.Test.YtncajejomeidlaaTile3
namespace Go.Proofs.Ytncajejomeidlaa.lawFnFlipSprite
set_option linter.all false
set_option linter.unusedSimpArgs false
set_option linter.unusedVariables false
open Go.ChangeShapes Go.WideShapes Go.ChangeAt Go.RowKit

theorem flip_tvd {p : Nat → Int} (h : tvd p = true) (a d : Bool) : tvd (flipP a d p) = true :=
  tvd_true.2 fun i hi => tvd_true.1 h _ (flip_lt a d hi)
/-- The pixel of a sprite flipped across is that of the other on the flipped tile. -/
theorem spx_flip (sx sy : Int) (dn bh : Bool) (q : Nat → Nat → Int) (x y : Int) : spx ⟨sx, sy, 0, false, dn, bh⟩ (fun _ => flipP true false (q 0)) x y = spx ⟨sx, sy, 0, true, dn, bh⟩ q x y := by
  unfold spx
  simp only
  split
  · rename_i h
    simp only [Bool.and_eq_true] at h
    have h1 := inB_true.1 h.1
    have h2 := inB_true.1 h.2
    obtain ⟨c, hc⟩ := Int.eq_ofNat_of_zero_le h1.1
    obtain ⟨r, hr⟩ := Int.eq_ofNat_of_zero_le h2.1
    rw [hc, hr]
    simp only [Int.toNat_natCast]
    have hc7 : c ≤ 7 := by omega
    have hr7 : r ≤ 7 := by omega
    have hd : turn7 dn r ≤ 7 := by unfold turn7; split <;> omega
    generalize turn7 dn r = R at *
    show q 0 (8 * fl false ((8 * R + turn7 false c) / 8) + fl true ((8 * R + turn7 false c) % 8)) = q (0 : Int).toNat (8 * R + turn7 true c)
    have e1 : turn7 false c = c := by unfold turn7; rw [if_neg (by decide)]
    have e2 : turn7 true c = 7 - c := by unfold turn7; rw [if_pos rfl]
    rw [e1, e2, show (8 * R + c) / 8 = R by omega, show (8 * R + c) % 8 = c by omega]
    unfold fl
    rw [if_neg (by decide), if_pos rfl]
    rfl
  · rfl
/-- The values for one flipped sprite. -/
theorem sat_flip {n m : Nat} {s : Nat → Spr} {q : Nat → Nat → Int} (x y : Int) (h : svd n m s q = true) (hn : 1 ≤ n) (hm : 1 ≤ m) :
    satV 1 1 (fun _ => ⟨(s 0).x, (s 0).y, 0, false, (s 0).dn, (s 0).bh⟩) (fun _ => flipP true false (q 0)) x y = satV 1 1 (fun _ => ⟨(s 0).x, (s 0).y, 0, true, (s 0).dn, (s 0).bh⟩) q x y := by
  obtain ⟨p1, p2, p3, p4⟩ := svd_parts h
  obtain ⟨a1, a2, a3, a4⟩ := sok_parts (p4 0 hn)
  have ht := tsv_true.1 p3 0 hm
  have hok : ∀ b : Bool, sok 1 ⟨(s 0).x, (s 0).y, 0, b, (s 0).dn, (s 0).bh⟩ = true := fun b => by
    unfold sok
    rw [inB_true.2 a1, inB_true.2 a2, inB_true.2 (show (0 : Int) ≤ 0 ∧ (0 : Int) ≤ ((1 : Nat) : Int) - 1 by omega)]
    rfl
  have hv : ∀ (b : Bool) (Q : Nat → Nat → Int), tvd (Q 0) = true → svd 1 1 (fun _ => ⟨(s 0).x, (s 0).y, 0, b, (s 0).dn, (s 0).bh⟩) Q = true := fun b Q hQ => by
    unfold svd
    rw [decide_eq_true (show 1 ≤ 12 by omega), decide_eq_true (show 1 ≤ 16 by omega), tsv_true.2 (fun i hi => by (have e : i = 0 := by omega); subst e; exact hQ), sov_true.2 (fun i hi => hok b)]
    rfl
  have h1 := hv false (fun _ => flipP true false (q 0)) (flip_tvd ht true false)
  have h2 := hv true q ht
  unfold satV
  rw [h1, h2]
  split
  · have hsh : ∀ b : Bool, shown 1 (fun _ => ⟨(s 0).x, (s 0).y, 0, b, (s 0).dn, (s 0).bh⟩) y = if cov (s 0) y = true then [0] else [] := fun b => by
      unfold shown cvl
      show ((List.range 1).filter fun i => cov ⟨(s 0).x, (s 0).y, 0, b, (s 0).dn, (s 0).bh⟩ y).take 4 = _
      have : cov ⟨(s 0).x, (s 0).y, 0, b, (s 0).dn, (s 0).bh⟩ y = cov (s 0) y := rfl
      rw [this]
      cases cov (s 0) y <;> rfl
    rw [hsh, hsh]
    split
    · unfold fat
      rw [spx_flip]
      rfl
    · rfl
  · rfl

theorem lit1_spr (s : Spr) (W : World) : (Instr.buildSlice 23 1 #[(0, spV s)]).run Try.prog W = .ok (.slice (some ⟨W.heap.size, 0, none⟩) 1 1) (W.alloc (.cells #[.int .i64 s.x, .int .i64 s.y, .int .i64 s.num, .bool s.ac, .bool s.dn, .bool s.bh] 30)) := by kernel_rfl

theorem spr_cells {w : World} {g : Nat} {x y num : Int} {ac dn bh : Bool} {t : TypeId} (h : w.heap[g]? = some (.cells #[.int .i64 x, .int .i64 y, .int .i64 num, .bool ac, .bool dn, .bool bh] t (0, 0))) :
    w.cell? ⟨g, 0, none⟩ = some (.int .i64 x) ∧ w.cell? ⟨g, 1, none⟩ = some (.int .i64 y) ∧ w.cell? ⟨g, 2, none⟩ = some (.int .i64 num) ∧ w.cell? ⟨g, 3, none⟩ = some (.bool ac) ∧ w.cell? ⟨g, 4, none⟩ = some (.bool dn) ∧ w.cell? ⟨g, 5, none⟩ = some (.bool bh) := by
  simp [World.cell?, h]

theorem spr_rs (w : World) (x y num : Int) (ac dn bh : Bool) {t : TypeId} : RS (w.alloc (.cells #[.int .i64 x, .int .i64 y, .int .i64 num, .bool ac, .bool dn, .bool bh] t)) (w.alloc (.cells #[.int .i64 x, .int .i64 y, .int .i64 num, .bool ac, .bool dn, .bool bh] t)).heap.size 6 (some ⟨w.heap.size, 0, none⟩) 1 (sc fun _ => ⟨x, y, num, ac, dn, bh⟩) :=
  .inr ⟨w.heap.size, 0, rfl, by simp, fun j hj => by
    obtain ⟨c0, c1, c2, c3, c4, c5⟩ := spr_cells (heap_alloc_new w (.cells #[.int .i64 x, .int .i64 y, .int .i64 num, .bool ac, .bool dn, .bool bh] t))
    rw [Nat.zero_add]
    have h6 : j = 0 ∨ j = 1 ∨ j = 2 ∨ j = 3 ∨ j = 4 ∨ j = 5 := by omega
    rcases h6 with rfl | rfl | rfl | rfl | rfl | rfl
    · exact c0
    · exact c1
    · exact c2
    · exact c3
    · exact c4
    · exact c5⟩

theorem tile_rs (w : World) (p : Nat → Int) {t : TypeId} : RS (w.alloc (.cells (tv p) t)) (w.alloc (.cells (tv p) t)).heap.size 64 (some ⟨w.heap.size, 0, none⟩) 1 (tc fun _ => p) :=
  .inr ⟨w.heap.size, 0, rfl, by simp, fun j hj => by
    rw [Nat.zero_add, (TB.new w t p).cell j (by omega)]
    unfold tc
    rw [show j % 64 = j by omega]⟩
theorem rs_cells_at {w : World} {B sz b o n : Nat} {c : Nat → Value} (h : RS w B sz (some ⟨b, o, none⟩) n c) : ∀ j, j < n * sz → w.cell? ⟨b, o + j, none⟩ = some (c j) := fun j hj => by
  rcases h with h | ⟨b', off, e, hb, hc⟩
  · subst h; omega
  · injection e with e
    injection e with e1 e2
    subst e1 e2
    exact hc j hj
theorem wp_lit1 {P : Program} {o : Oper} {a : Act} {w : World} {K : Act → World → Prop} {Q : Exit → Act → World → Prop} (ty : TypeId) (x : Operand) (ho : o.op = .buildSlice ty 1 #[(0, x)]) (v : Value) (hx : a.eval x = v) (w' : World) (u : Value) (hr : (Instr.buildSlice ty 1 #[(0, v)]).run P w = .ok u w')
    (h : K (a.put o.dst u) w') : o.wp P a w K Q := by
  have hr' : (execOp a.eval o).run P w = .ok (.value u) w' := by
    unfold execOp
    rw [ho]
    simp [Sem.run_bind, hx, hr]
  unfold Oper.wp
  rw [hr']
  exact h

theorem wp_index0 {P : Program} {o : Oper} {a : Act} {w : World} {K : Act → World → Prop} {Q : Exit → Act → World → Prop} (ty : TypeId) (x ix : Operand) (ho : o.op = .indexAddr ty x ix) (X I : Value) (hx : a.eval x = X) (hi : a.eval ix = I) (u : Value) (hr : (Instr.indexAt ty X I).run P w = .ok u w)
    (h : K (a.put o.dst u) w) : o.wp P a w K Q := by
  have hr' : (execOp a.eval o).run P w = .ok (.value u) w := by
    unfold execOp
    rw [ho]
    simp [Sem.run_bind, hx, hi, hr]
  unfold Oper.wp
  rw [hr']
  exact h
theorem index0_tile (b o m d : Nat) (hm : 0 < m) (W : World) : (Instr.indexAt 24 (.slice (some ⟨b, o, none⟩) m d) (.int .i64 0)).run Try.prog W = .ok (.pointer (some ⟨b, o, none⟩)) W := by
  have hu := run_underlying (w := W) Try.underlying24
  have hs : (sizeOf 35).run Try.prog W = .ok 64 W := by kernel_rfl
  simp [Instr.indexAt, asIntOf, hu, hs, hm, Addr.add]

set_option maxRecDepth 100000 in
set_option maxHeartbeats 2000000 in
theorem walk (v0 : Value) (w : World) (h0 : CodeArg w v0) : Calls Try.prog 3 #[v0] w fun e w' => e = .returned (.bool true) ∧ Below w.heap.size w w' := by
  obtain ⟨a, len, cap, rfl, hcode, hl⟩ := h0
  have hm := hcode.1; unfold maxLen at hm
  by_cases hlen : 1048576 < len
  · go_enter Try.func3, Try.ntmps3
    go_wp2
    go_ret
    exact ⟨rfl, Below.refl _ _⟩
  · go_enter Try.func3, Try.ntmps3
    go_wp2_with fail
    refine (drawSpriteAt_c _ _ _ _ hcode hl).mono ?_
    rintro e w1 ⟨A, n, c, s, B, m, d, q, x, y, rfl, ⟨hA, hB, hn, hm', hn24, hm1, hm4, g, rfl⟩, hO_w1⟩
    have hz_w1 := hO_w1.size
    clear hm hcode
    obtain ⟨v, hv⟩ : ∃ v, svd n m s q = v := ⟨_, rfl⟩
    have HV := Lib.hid hv
    go_wp2_with fail
    refine (ssv_c _ _ _ _ _ _ s q v HV.out _ (C := w1.heap.size) (C' := w1.heap.size) (by (repeat (first | with_reducible assumption | ((with_reducible refine RS.below (by assumption) ?_ ?_) <;> try ((try simp only [World.size_alloc, World.size_setCell, World.size_drew]) <;> omega)) | ((with_reducible refine RS.alloc ?_ ?_ _) <;> try ((try simp only [World.size_alloc, World.size_setCell, World.size_drew]) <;> omega)) | ((with_reducible refine RS.setRow ?_ ?_ _) <;> try ((try simp only [World.size_alloc, World.size_setCell, World.size_drew]) <;> omega)) | ((with_reducible refine RS.setCell ?_ ?_ _) <;> try ((try simp only [World.size_alloc, World.size_setCell, World.size_drew]) <;> omega)) | ((with_reducible refine RS.setCells ?_ ?_ _ _) <;> try ((try simp only [World.size_alloc, World.size_setCell, World.size_drew]) <;> omega)) | (with_reducible apply RS.drewN) | (with_reducible apply RS.drew)))) (by (repeat (first | with_reducible assumption | ((with_reducible refine RS.below (by assumption) ?_ ?_) <;> try ((try simp only [World.size_alloc, World.size_setCell, World.size_drew]) <;> omega)) | ((with_reducible refine RS.alloc ?_ ?_ _) <;> try ((try simp only [World.size_alloc, World.size_setCell, World.size_drew]) <;> omega)) | ((with_reducible refine RS.setRow ?_ ?_ _) <;> try ((try simp only [World.size_alloc, World.size_setCell, World.size_drew]) <;> omega)) | ((with_reducible refine RS.setCell ?_ ?_ _) <;> try ((try simp only [World.size_alloc, World.size_setCell, World.size_drew]) <;> omega)) | ((with_reducible refine RS.setCells ?_ ?_ _ _) <;> try ((try simp only [World.size_alloc, World.size_setCell, World.size_drew]) <;> omega)) | (with_reducible apply RS.drewN) | (with_reducible apply RS.drew)))) (by ((try simp only [World.size_alloc, World.size_setCell, World.size_drew]) <;> omega)) (by ((try simp only [World.size_alloc, World.size_setCell, World.size_drew]) <;> omega)) (by omega) (by omega)).mono ?_
    rintro e w2 ⟨rfl, hO_w2⟩
    have hz_w2 := hO_w2.size
    (try simp only [World.size_alloc, World.size_setCell, World.size_drew] at hz_w2)
    have hb2 : Hid (Below w.heap.size w w2) := by
      refine Lib.hid ?_
      (repeat (first | with_reducible exact Below.refl _ _ | ((with_reducible refine viaO (by assumption) ?_ ?_ ?_) <;> try ((try simp only [World.size_alloc, World.size_setCell, World.size_drew]) <;> omega)) | ((with_reducible refine Below.alloc ?_ ?_ _) <;> try ((try simp only [World.size_alloc, World.size_setCell, World.size_drew]) <;> omega)) | ((with_reducible refine Below.setCell ?_ ?_ _) <;> try ((try simp only [World.size_alloc, World.size_setCell, World.size_drew]) <;> omega)) | (with_reducible refine below_drewN ?_ _) | (with_reducible refine Below.drew ?_) | ((with_reducible refine via (by assumption) ?_ ?_) <;> try ((try simp only [World.size_alloc, World.size_setCell, World.size_drew]) <;> omega))))
    have HA := Lib.hid (RS.below hO_w2 hA (Nat.le_refl _))
    have HB := Lib.hid (RS.below hO_w2 hB (Nat.le_refl _))
    have h12 : w1.heap.size ≤ w2.heap.size := by omega
    clear hv hA hB hO_w2
    cases v
    · go_wp2_with (go_at_call 6; refine (alive_c _).mono ?_; rintro e w' ⟨rfl, rfl⟩)
      go_ret
      exact ⟨rfl, hb2.out⟩
    · by_cases hn0 : n = 0
      · subst hn0
        go_wp2_with (go_at_call 6; refine (alive_c _).mono ?_; rintro e w' ⟨rfl, rfl⟩)
        go_ret
        exact ⟨rfl, hb2.out⟩
      · have hnb : ((n : Int) == 0) = false := beq_eq_false_iff_ne.2 (by omega)
        have hn1 : 0 < n := by omega
        have hgl : g < w1.heap.size := by
          rcases HA.out with h | ⟨b, off, e, hbb, _⟩
          · omega
          · injection e with e; injection e with e1 e2; subst e1; exact hbb
        obtain ⟨bS, oS, eS, hbS, s0, s1, s2, s3, s4, s5⟩ := HA.out.spr hn1
        injection eS with eS; injection eS with e1 e2; subst e1 e2
        have HSAT := Lib.hid (sat_flip x y HV.out hn1 hm1)
        have htv : tvd (q 0) = true := tsv_true.1 (svd_parts HV.out).2.2.1 0 hm1
        have HTV := Lib.hid htv
        obtain ⟨sp, hsp⟩ : ∃ sp, s 0 = sp := ⟨_, rfl⟩
        rw [hsp] at s0 s1 s2 s3 s4 s5 HSAT
        obtain ⟨sx, sy, nm, ac, dn, bh⟩ := sp
        dsimp only at s0 s1 s2 s3 s4 s5
        obtain ⟨bT, oT, rfl, hbT, hcT⟩ := HB.out.at_ hm1
        have HTR := Lib.hid (ts_range hcT hm1)
        clear hsp hn0 htv hcT
        go_upto_region 11 with fail
        have F1 : ((w2.alloc (.cells #[.int .i64 sx, .int .i64 sy, .int .i64 0, .bool true, .bool dn, .bool bh] 30)).alloc (.cells #[.int .i64 sx, .int .i64 sy, .int .i64 0, .bool false, .bool dn, .bool bh] 30)).heap[w2.heap.size]? = some (.cells #[.int .i64 sx, .int .i64 sy, .int .i64 0, .bool true, .bool dn, .bool bh] 30 (0, 0)) :=
          (Below.heap_alloc _ _ _ (by simp)).trans (heap_alloc_new w2 _)
        have F2 : ((w2.alloc (.cells #[.int .i64 sx, .int .i64 sy, .int .i64 0, .bool true, .bool dn, .bool bh] 30)).alloc (.cells #[.int .i64 sx, .int .i64 sy, .int .i64 0, .bool false, .bool dn, .bool bh] 30)).heap[w2.heap.size + 1]? = some (.cells #[.int .i64 sx, .int .i64 sy, .int .i64 0, .bool false, .bool dn, .bool bh] 30 (0, 0)) := by
          have := heap_alloc_new (w2.alloc (.cells #[.int .i64 sx, .int .i64 sy, .int .i64 0, .bool true, .bool dn, .bool bh] 30)) (.cells #[.int .i64 sx, .int .i64 sy, .int .i64 0, .bool false, .bool dn, .bool bh] 30)
          rwa [World.size_alloc] at this
        have HB3 := Lib.hid (RS.alloc (RS.alloc HB.out h12 (.cells #[.int .i64 sx, .int .i64 sy, .int .i64 0, .bool true, .bool dn, .bool bh] 30)) (by simp; omega) (.cells #[.int .i64 sx, .int .i64 sy, .int .i64 0, .bool false, .bool dn, .bool bh] 30))
        have hb3 : Hid (Below w.heap.size w ((w2.alloc (.cells #[.int .i64 sx, .int .i64 sy, .int .i64 0, .bool true, .bool dn, .bool bh] 30)).alloc (.cells #[.int .i64 sx, .int .i64 sy, .int .i64 0, .bool false, .bool dn, .bool bh] 30))) := Lib.hid ((hb2.out.alloc (by omega) _).alloc (by simp; omega) _)
        have hz3 : ((w2.alloc (.cells #[.int .i64 sx, .int .i64 sy, .int .i64 0, .bool true, .bool dn, .bool bh] 30)).alloc (.cells #[.int .i64 sx, .int .i64 sy, .int .i64 0, .bool false, .bool dn, .bool bh] 30)).heap.size = w2.heap.size + 2 := by simp
        clear s0 s1 s2 s3 s4 s5
        generalize (w2.alloc (.cells #[.int .i64 sx, .int .i64 sy, .int .i64 0, .bool true, .bool dn, .bool bh] 30)).alloc (.cells #[.int .i64 sx, .int .i64 sy, .int .i64 0, .bool false, .bool dn, .bool bh] 30) = w3 at *
        have C1 := spr_cells F1
        have C2 := spr_cells F2
        obtain ⟨c0, c1, c2, c3, c4, c5⟩ := id C1
        have d1 : (1 : Int) ≤ (d : Int) := by omega
        have d0 : ¬ d = 0 := by omega
        have dm : (1 : Int) ≤ (m : Int) := by omega
        have dm0 : (0 : Int) < (m : Int) := by omega
        have ew : IntKind.i64.wrap 1 = 1 := IntWalk.i64_in _ (by omega)
        obtain ⟨k, v, hkv⟩ : ∃ k v, satV 1 1 (fun _ => ⟨sx, sy, 0, true, dn, bh⟩) q x y = (k, v) := ⟨_, _, rfl⟩
        have hsat := HSAT.out
        rw [hkv] at hsat
        have HI := Lib.hid (fun A u h1 h2 h3 h4 => by have := isat_c A 1 1 (some ⟨bT, oT, none⟩) 1 d (fun _ => ⟨sx, sy, 0, true, dn, bh⟩) q x y u (C := u.heap.size) (C' := w1.heap.size) h1 h2 h3 h4 (by omega) (by omega); rw [hkv] at this; exact this)
        have HS := Lib.hid (fun A u h1 h2 h3 h4 => by have := ssat_c A 1 1 (some ⟨bT, oT, none⟩) 1 d (fun _ => ⟨sx, sy, 0, true, dn, bh⟩) q x y u (C := u.heap.size) (C' := w1.heap.size) h1 h2 h3 h4 (by omega) (by omega); rw [hkv] at this; exact this)
        have HF := Lib.hid (fun A B u h1 h2 h3 h4 => by have := isat_c A 1 1 B 1 1 (fun _ => ⟨sx, sy, 0, false, dn, bh⟩) (fun _ => flipP true false (q 0)) x y u (C := u.heap.size) (C' := u.heap.size) h1 h2 h3 h4 (by omega) (by omega); rw [hsat] at this; exact this)
        have HT3 := Lib.hid (HB3.out.take hm1)
        have h13 : w1.heap.size ≤ w3.heap.size := by omega
        have hG : w2.heap.size + 1 < w3.heap.size := by omega
        have hrs := (spr_rs w3 sx sy 0 true dn bh (t := 30)).drew
        have hrt := (RS.alloc HT3.out h13 (.cells #[.int .i64 sx, .int .i64 sy, .int .i64 0, .bool true, .bool dn, .bool bh] 30)).drew
        have HC := Lib.hid (HI.out (some ⟨w3.heap.size, 0, none⟩) (w3.alloc (.cells #[.int .i64 sx, .int .i64 sy, .int .i64 0, .bool true, .bool dn, .bool bh] 30)).drew hrs hrt (Nat.le_refl _) (by simp; omega))
        clear hsat hkv HSAT HA HB hgl hbS hrs hrt hz3
        go_region_held3 (fun w' => w'.cell? ⟨w2.heap.size, 0, none⟩ = some (.int .i64 sx) ∧ w'.cell? ⟨w2.heap.size, 1, none⟩ = some (.int .i64 sy) ∧ w'.cell? ⟨w2.heap.size, 2, none⟩ = some (.int .i64 0) ∧ w'.cell? ⟨w2.heap.size, 3, none⟩ = some (.bool true) ∧ w'.cell? ⟨w2.heap.size, 4, none⟩ = some (.bool dn) ∧ w'.cell? ⟨w2.heap.size, 5, none⟩ = some (.bool bh)) (first | assumption | go_keep) (first | (go_at_call 7;  with_reducible refine Calls.mono HC.out ?_; rintro e w4 ⟨rfl, hO_w4⟩; have hz_w4 := hO_w4.size; simp only [World.size_alloc, World.size_drew] at hz_w4; obtain ⟨c0, c1, c2, c3, c4, c5⟩ := spr_cells ((hO_w4.block _ (by simp; omega)).trans ((Below.heap_alloc w3 _ _ (by omega)).trans F1))))
        have G1 := (hO_w4.block _ (by simp; omega)).trans ((Below.heap_alloc w3 _ _ (by omega)).trans F1)
        have G2 := (hO_w4.block _ (by simp; omega)).trans ((Below.heap_alloc w3 _ _ (by omega)).trans F2)
        have HT4 := Lib.hid (RS.below hO_w4 (RS.drew (RS.alloc HT3.out h13 (.cells #[.int .i64 sx, .int .i64 sy, .int .i64 0, .bool true, .bool dn, .bool bh] 30))) (by simp; omega))
        have hb4 : Hid (Below w.heap.size w w4) := Lib.hid (hb3.out.trans (((((Below.refl _ _).alloc (Nat.le_refl _) _).drew).trans (hO_w4.mono (by simp))).mono (by omega)))
        have h14 : w1.heap.size ≤ w4.heap.size := by omega
        have hG4 : w2.heap.size + 1 < w4.heap.size := by omega
        clear c0 c1 c2 c3 c4 c5 C1 C2 F1 F2 HB3 HT3 hb3 hO_w4
        have htr := ts_range (rs_cells_at HT4.out) (show 0 < 1 by decide)
        have HTR := Lib.hid htr
        obtain ⟨FT, hFT⟩ : ∃ FT, tv (flipP true false (q 0)) = FT := ⟨_, rfl⟩
        have HFT := Lib.hid hFT
        have HTQ := Lib.hid (tv_list (q 0))
        clear htr hFT
        go_upto_region 12 with fail
        refine wp_region_typed (by kernel_rfl) (by kernel_rfl) (fun _ u => Below w4.heap.size w4 u) (fun u u' => Below u.heap.size u u')
          (fun j v' u => match j with
            | 0 => kIs (.agg #[.int .i64 sx, .int .i64 sy, .int .i64 0, .bool false, .bool dn, .bool bh]) v'
            | 1 => ∃ b, v' = .slice (some ⟨b, 0, none⟩) 1 1 ∧ RS u u.heap.size 6 (some ⟨b, 0, none⟩) 1 (sc fun _ => ⟨sx, sy, 0, false, dn, bh⟩)
            | 2 => kIs (.slice (some ⟨bT, oT, none⟩) m d) v'
            | 3 => kIs (.pointer (some ⟨bT, oT, none⟩)) v'
            | 4 => kIs (.agg (tv (q 0))) v'
            | 5 => kIs (.agg (tv (flipP true false (q 0)))) v'
            | 6 => ∃ b, v' = .slice (some ⟨b, 0, none⟩) 1 1 ∧ RS u u.heap.size 64 (some ⟨b, 0, none⟩) 1 (tc fun _ => flipP true false (q 0))
            | 7 => kIs (.int .i64 x) v'
            | 8 => kIs (.int .i64 y) v'
            | 9 => kIs (.tuple #[.int .i64 k, .int .i64 v]) v'
            | 10 => kIs (.tuple #[.int .i64 k, .int .i64 v]) v'
            | 11 => kIs (.int .i64 k) v'
            | 12 => kIs (.int .i64 v) v'
            | 13 => kIs (.int .i64 k) v'
            | 14 => kIs (.int .i64 v) v'
            | _ => True) ?_ ?_ ?_ ?_
        · intro j v' u u' h e
          split at h <;> first | exact h | exact ⟨_, h.choose_spec.1, (RS.below e h.choose_spec.2 (Nat.le_refl _)).more e.size⟩
        · exact (Below.refl _ _).drew
        · intro i o n' a' u ho hn' hC hD hU
          have hsz := hC.size
          have hrf := Below.refl u.heap.size u
          have hi : i < 15 := (Array.getElem?_eq_some_iff.1 ho).1
          replace hn' : n' < 15 := hn'
          obtain rfl | rfl | rfl | rfl | rfl | rfl | rfl | rfl | rfl | rfl | rfl | rfl | rfl | rfl | rfl : i = 0 ∨ i = 1 ∨ i = 2 ∨ i = 3 ∨ i = 4 ∨ i = 5 ∨ i = 6 ∨ i = 7 ∨ i = 8 ∨ i = 9 ∨ i = 10 ∨ i = 11 ∨ i = 12 ∨ i = 13 ∨ i = 14 := by omega
          all_goals (simp only [List.getElem?_toArray, List.getElem?_cons_zero, List.getElem?_cons_succ, Option.some.injEq] at ho; subst ho)
          all_goals clear hi
          · have u8 := hU 8 (not_written (by kernel_rfl))
            obtain ⟨c0, c1, c2, c3, c4, c5⟩ := spr_cells ((hC.block _ (by omega)).trans G2)
            simp at u8
            clear hU hD
            go_simp
            exact Typed.mk _ rfl hC hrf rfl
          · have e0 := hD ⟨0, Ground.data⟩ (by simp) rfl _ 58 rfl rfl
            simp [kIs] at e0
            clear hU hD
            go_simp
            exact Typed.mk _ rfl (hC.alloc hsz _) (hrf.alloc (Nat.le_refl _) _) ⟨_, rfl, spr_rs u sx sy 0 false dn bh⟩
          · have u4 := hU 4 (not_written (by kernel_rfl))
            simp at u4
            clear hU hD
            go_simp
            exact Typed.mk _ rfl hC hrf rfl
          · have e0 := hD ⟨2, Ground.data⟩ (by simp) rfl _ 60 rfl rfl
            simp [kIs] at e0
            clear hU hD
            refine wp_index0 24 _ _ rfl (.slice (some ⟨bT, oT, none⟩) m d) (.int .i64 0) (by simpa [Act.eval] using e0) (by rfl) _ (index0_tile bT oT m d (by omega) u) ?_
            exact Typed.mk _ rfl hC hrf rfl
          · have e0 := hD ⟨3, Ground.data⟩ (by simp) rfl _ 61 rfl rfl
            simp [kIs] at e0
            clear hU hD
            refine wp_load_mid 35 _ rfl bT oT (by simpa [Act.eval] using e0) (tv (q 0)).toList _ (rangeAt_below HTR.out hC (by omega)) Try.underlying35 rfl (by rw [HTQ.out]; exact size35) ?_
            refine Typed.mk (.agg (tv (q 0))) ?_ hC hrf ?_
            · rw [Array.toArray_toList]
            · rfl
          · have e0 := hD ⟨4, Ground.data⟩ (by simp) rfl _ 62 rfl rfl
            simp [kIs] at e0
            clear hU hD
            go_simp
            refine (ifl_yes (q 0) true false HTV.out u).mono ?_
            rintro e w' ⟨rfl, hO⟩
            exact Typed.mk _ rfl (hC.trans (hO.mono hsz)) hO rfl
          · have e0 := hD ⟨5, Ground.data⟩ (by simp) rfl _ 63 rfl rfl
            simp [kIs] at e0
            clear hU hD
            refine wp_lit1 24 _ rfl (.agg (tv (flipP true false (q 0)))) (by simpa [Act.eval] using e0) _ _ (lit1_tile _ u) ?_
            exact Typed.mk _ rfl (hC.alloc hsz _) (hrf.alloc (Nat.le_refl _) _) ⟨_, rfl, tile_rs u _⟩
          · have u4 := hU 5 (not_written (by kernel_rfl))
            simp at u4
            clear hU hD
            go_simp
            exact Typed.mk _ rfl hC hrf rfl
          · have u4 := hU 6 (not_written (by kernel_rfl))
            simp at u4
            clear hU hD
            go_simp
            exact Typed.mk _ rfl hC hrf rfl
          · obtain ⟨b1, e1, r1⟩ := hD ⟨1, Ground.data⟩ (by simp) rfl _ 59 rfl rfl
            obtain ⟨b6, e6, r6⟩ := hD ⟨6, Ground.data⟩ (by simp) rfl _ 64 rfl rfl
            have e7 := hD ⟨7, Ground.data⟩ (by simp) rfl _ 65 rfl rfl
            have e8 := hD ⟨8, Ground.data⟩ (by simp) rfl _ 66 rfl rfl
            simp [kIs] at e1 e6 e7 e8
            have HCC := Lib.hid (HF.out _ _ u r1 r6 (Nat.le_refl _) (Nat.le_refl _))
            clear hU hD r1 r6
            go_simp
            refine HCC.out.mono ?_
            rintro e w' ⟨rfl, hO⟩
            exact Typed.mk _ rfl (hC.trans (hO.mono hsz)) hO rfl
          · have e0 := hD ⟨9, Ground.data⟩ (by simp) rfl _ 67 rfl rfl
            simp [kIs] at e0
            clear hU hD
            go_simp
            exact Typed.mk _ rfl hC hrf rfl
          · have e0 := hD ⟨10, Ground.data⟩ (by simp) rfl _ 57 rfl rfl
            simp [kIs] at e0
            clear hU hD
            go_simp
            exact Typed.mk _ rfl hC hrf rfl
          · have e0 := hD ⟨10, Ground.data⟩ (by simp) rfl _ 57 rfl rfl
            simp [kIs] at e0
            clear hU hD
            go_simp
            exact Typed.mk _ rfl hC hrf rfl
          · have e0 := hD ⟨11, Ground.data⟩ (by simp) rfl _ 68 rfl rfl
            simp [kIs] at e0
            clear hU hD
            go_simp
            exact Typed.mk _ rfl hC hrf rfl
          · have e0 := hD ⟨12, Ground.data⟩ (by simp) rfl _ 69 rfl rfl
            simp [kIs] at e0
            clear hU hD
            go_simp
            exact Typed.mk _ rfl hC hrf rfl
        · intro a u hC hL hN hU hs hd
          have e11 := hL 13 _ 11 rfl rfl
          have e12 := hL 14 _ 12 rfl rfl
          have e11' : a.tmps[11]?.getD undef = .int .i64 k := by simpa [kIs] using e11
          have e12' : a.tmps[12]?.getD undef = .int .i64 v := by simpa [kIs] using e12
          clear e11 e12
          have ht := tmps_ds [58, 59, 60, 61, 62, 63, 64, 65, 66, 67, 57, 68, 69, 11, 12] rfl hs hU
          simp [List.range, List.range.loop] at ht
          rw [e11', e12'] at ht
          (try generalize a.tmps[58]?.getD undef = x58 at ht)
          (try generalize a.tmps[59]?.getD undef = x59 at ht)
          (try generalize a.tmps[60]?.getD undef = x60 at ht)
          (try generalize a.tmps[61]?.getD undef = x61 at ht)
          (try generalize a.tmps[62]?.getD undef = x62 at ht)
          (try generalize a.tmps[63]?.getD undef = x63 at ht)
          (try generalize a.tmps[64]?.getD undef = x64 at ht)
          (try generalize a.tmps[65]?.getD undef = x65 at ht)
          (try generalize a.tmps[66]?.getD undef = x66 at ht)
          (try generalize a.tmps[67]?.getD undef = x67 at ht)
          (try generalize a.tmps[57]?.getD undef = x57 at ht)
          (try generalize a.tmps[68]?.getD undef = x68 at ht)
          (try generalize a.tmps[69]?.getD undef = x69 at ht)
          (try generalize a.tmps[11]?.getD undef = x11 at ht)
          (try generalize a.tmps[12]?.getD undef = x12 at ht)
          obtain ⟨tm, df⟩ := a
          simp only at ht hd
          subst ht hd
          clear hL hN hU hs
          have hzu := hC.size
          obtain ⟨c0, c1, c2, c3, c4, c5⟩ := spr_cells ((hC.block _ (by omega)).trans G1)
          have F1 := (hC.block _ (by omega)).trans G1
          have HTu := Lib.hid (RS.below hC HT4.out h14)
          have h1u : w1.heap.size ≤ u.heap.size := by omega
          have hbu : Hid (Below w.heap.size w u) := Lib.hid (hb4.out.trans (hC.mono (by have := hb4.out.size; omega)))
          have hrs := (spr_rs u sx sy 0 true dn bh (t := 30)).drew
          have hrt := (RS.alloc HTu.out h1u (.cells #[.int .i64 sx, .int .i64 sy, .int .i64 0, .bool true, .bool dn, .bool bh] 30)).drew
          have HC := Lib.hid (HS.out (some ⟨u.heap.size, 0, none⟩) (u.alloc (.cells #[.int .i64 sx, .int .i64 sy, .int .i64 0, .bool true, .bool dn, .bool bh] 30)).drew hrs hrt (Nat.le_refl _) (by simp; omega))
          have hGu : w2.heap.size < u.heap.size := by omega
          clear hrs hrt hC G1 G2 hzu
          go_upto_region 13 with fail
          go_region_held3 (fun w' => w'.cell? ⟨w2.heap.size, 0, none⟩ = some (.int .i64 sx) ∧ w'.cell? ⟨w2.heap.size, 1, none⟩ = some (.int .i64 sy) ∧ w'.cell? ⟨w2.heap.size, 2, none⟩ = some (.int .i64 0) ∧ w'.cell? ⟨w2.heap.size, 3, none⟩ = some (.bool true) ∧ w'.cell? ⟨w2.heap.size, 4, none⟩ = some (.bool dn) ∧ w'.cell? ⟨w2.heap.size, 5, none⟩ = some (.bool bh)) (first | assumption | go_keep) (first | (go_at_call 9; with_reducible refine Calls.mono HC.out ?_; rintro e w5 ⟨rfl, hO_w5⟩; have hz_w5 := hO_w5.size; simp only [World.size_alloc, World.size_drew] at hz_w5; obtain ⟨c0, c1, c2, c3, c4, c5⟩ := spr_cells ((hO_w5.block _ (by simp; omega)).trans ((Below.heap_alloc u _ _ (by omega)).trans F1))))
          have hb5 : Hid (Below w.heap.size w w5) := Lib.hid (hbu.out.trans (((((Below.refl _ _).alloc (Nat.le_refl _) _).drew).trans (hO_w5.mono (by simp))).mono (by have := hbu.out.size; omega)))
          clear hO_w5 c0 c1 c2 c3 c4 c5
          go_wp2
          go_ret
          exact ⟨rfl, hb5.out⟩

set_option maxRecDepth 100000 in
theorem lifted (os : Os) (started : os.Started) (H : Type) (enc : TypeId × Value → H) :
    ReturnsInHanded {} Try.checked os 3 .any (Rows.fnFlipSpriteSpec.pre6 enc Try.prog Try.f3 Rows.fnFlipSpriteRow.domain false) (Rows.fnFlipSpriteSpec.post enc Try.prog Try.f3 false true false false) := by
  refine returnsInHanded_of_change (C := Try.checked) own started (by kernel_rfl) Try.func3
    (ChangeSpec.witness6 (enc := enc) (C := Try.checked) false ⟨#[], #[.slice none 0 0], []⟩ 8 (by kernel_rfl) (by kernel_rfl) (by kernel_rfl) (by kernel_rfl)) ?_
  intro W base args ds gs before hval0 hW hcnd _
  have hval : ∀ (j : Nat) t v, Try.f3.params[j]? = some t → args[j]? = some v → Value.okWide Try.prog W .any base t v := hval0
  have hW' := hW
  obtain ⟨p, q, hA0, hV, rfl, hfz, hnd⟩ := hW
  have hA : DataW.TrodAll enc Try.prog W 0 (fun _ => true) true Try.f3.params.toList args.toList ds p := hA0
  rw [Try.params3] at hA hval
  obtain ⟨v0, vs0, d0, ds0, p0, q0, hargs, rfl, rfl, h0, r0⟩ := trodAll_cons hA
  obtain ⟨rfl, rfl, rfl⟩ := trodAll_nil r0
  obtain rfl : args = #[v0] := by cases args; simp_all
  obtain ⟨rfl, rfl⟩ := trodVars_none hV
  have lt0 : ∀ x ∈ p0, x.block < W.heap.size := by obtain ⟨m, hm⟩ := h0; exact DataW.trod_lt m _ _ _ hm
  have a0 := codeArg (hval 0 22 v0 rfl rfl) h0
  clear hA0 hval0
  refine (walk v0 W a0).mono fun e W' ⟨he, bel⟩ => ?_
  subst he
  exact ⟨_, rfl, _, _, _, [], _, [], hW', trodAll_mk1 (shut_bool Try.underlying4 _), (trodAll_cons_mk (Below.trod laidOut (by kernel_rfl) (of_decide_eq_true (by kernel_rfl)) h0 bel lt0) trodAll_mk0), rfl, bel.frame _, fun h => by cases h⟩

theorem proved : Rows.FnFlipSpriteSaid :=
  OpenClaim.holds_of_wide 3 Try.f3 rfl rfl rfl rfl rfl rfl rfl ⟨rfl, rfl, rfl, rfl, rfl⟩ rfl rfl rfl rfl rfl (by kernel_rfl) Try.func3 (by kernel_rfl)
    (of_decide_eq_true (by kernel_rfl)) (by unfold Func.isWrapper; first | (rw [if_pos (by decide +kernel)]; kernel_rfl) | (rw [if_neg (by decide +kernel)]; exact ⟨rfl, rfl⟩))
    (fun os started H enc _ => lifted os started H enc)
#print axioms proved

end Go.Proofs.Ytncajejomeidlaa.lawFnFlipSprite
