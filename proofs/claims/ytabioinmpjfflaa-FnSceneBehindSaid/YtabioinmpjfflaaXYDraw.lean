/-
  A drawn column and line. No conditions.
-/
import Derived.Test.YtabioinmpjfflaaTyped2
import Derived.Deep.DeepCutAuto
namespace Go.Proofs.Ytabioinmpjfflaa
set_option linter.all false
set_option linter.unusedSimpArgs false
set_option linter.unusedVariables false
set_option maxRecDepth 20000
open Go.ChangeShapes Go.WideShapes Go.ChangeAt Go.RowKit

def D2 (R : Nat) (k : Int) (w0 : World) (_ : Nat → Bool) (n : Nat) (_ : Act) (u : World) : Prop := Rdg R k w0 n u
def DXY (R : Nat) (k : Int) (w : World) (e : Ending) (w' : World) : Prop := ∃ x y : Int, e = .returned (.tuple #[.int .i64 x, .int .i64 y]) ∧ Only R w w' ∧ Rd w' R (k + 20)
set_option maxRecDepth 100000 in
set_option maxHeartbeats 2000000 in
theorem l20XY_c (R : Nat) (n k : Int) (w : World) (hR : Rd w R k) (hk : k ≤ 500000) (hn : n ≤ 1000000) (hn0 : -1000000 ≤ n) :
    Calls Try.prog 42 #[.pointer (some ⟨R, 0, none⟩), .int .i64 n] w (DXY R k w) := by
  have hlt := hR.lt
  go_enter Try.func42, Try.ntmps42
  go_wp2_with fail
  refine (odd_c _ _ _ _ (by (repeat (first | with_reducible assumption | (with_reducible apply Rd.alloc) | ((with_reducible apply Rd.setCell) <;> try ((try simp only [World.size_alloc, World.size_setCell, World.size_drew]) <;> omega)) | (with_reducible apply Rd.drewN) | (with_reducible apply Rd.drew)))) (by omega) (by omega) (by omega)).mono ?_
  rintro e w1 ⟨v, rfl, hO_w1, hR_w1⟩
  have hz_w1 := hO_w1.size
  (try simp only [World.size_alloc, World.size_setCell, World.size_drew] at hz_w1)
  cases v
  · go_wp2_with fail
    refine (pick_c _ _ _ _ (by (repeat (first | with_reducible assumption | (with_reducible apply Rd.alloc) | ((with_reducible apply Rd.setCell) <;> try ((try simp only [World.size_alloc, World.size_setCell, World.size_drew]) <;> omega)) | (with_reducible apply Rd.drewN) | (with_reducible apply Rd.drew)))) (by omega) (by omega) (by omega)).mono ?_
    rintro e w2 ⟨x, hv_x, rfl, hO_w2, hR_w2⟩
    have hz_w2 := hO_w2.size
    (try simp only [World.size_alloc, World.size_setCell, World.size_drew] at hz_w2)
    go_wp2_with fail
    refine (pick_c _ _ _ _ (by (repeat (first | with_reducible assumption | (with_reducible apply Rd.alloc) | ((with_reducible apply Rd.setCell) <;> try ((try simp only [World.size_alloc, World.size_setCell, World.size_drew]) <;> omega)) | (with_reducible apply Rd.drewN) | (with_reducible apply Rd.drew)))) (by omega) (by omega) (by omega)).mono ?_
    rintro e w3 ⟨y, hv_y, rfl, hO_w3, hR_w3⟩
    have hz_w3 := hO_w3.size
    (try simp only [World.size_alloc, World.size_setCell, World.size_drew] at hz_w3)
    go_wp2
    refine bodyPost_ret (v := .tuple #[.int .i64 x, .int .i64 y]) (by simp [results, Try.results42, go_sem, *]) rfl ⟨x, y, rfl, ?_, ?_⟩
    · (repeat (first | with_reducible exact Only.refl _ _ | (with_reducible refine Only.alloc ?_ _) | ((with_reducible refine Only.setCell ?_ ?_ _) <;> try ((try simp only [World.size_alloc, World.size_setCell, World.size_drew]) <;> omega)) | (with_reducible refine Only.drewN ?_ _) | (with_reducible refine Only.drew ?_) | (with_reducible refine Only.trans ?_ (by assumption))))
    · refine Rd.more (k := k + 1 + 1 + 1) ?_ (by omega)
      (repeat (first | with_reducible assumption | (with_reducible apply Rd.alloc) | ((with_reducible apply Rd.setCell) <;> try ((try simp only [World.size_alloc, World.size_setCell, World.size_drew]) <;> omega)) | (with_reducible apply Rd.drewN) | (with_reducible apply Rd.drew)))
  · go_wp2_with fail
    have hs1 := hO_w1.size
    refine wp_region_typed2 (by kernel_rfl) (by kernel_rfl) (D2 R (k + 1) w1) (XT (fun _ _ => False))
      (fun j v u => match j with
        | 0 | 5 => kLit w1.heap.size 3 3 1 v u
        | 1 | 6 => kIs (.pointer (some ⟨R, 0, none⟩)) v
        | 2 | 7 => kNat 3 v
        | 3 | 8 => kEl v u
        | 4 | 9 | 10 | 11 => kAny v
        | _ => True) ?_ ?_ ?_ ?_
    · intro j v u u' h e
      split at h <;> first | exact h | exact kLit.ext h e | exact kEl.ext h e
    · exact ⟨(Only.refl _ _).drew, (show Rd w1.drew R (k + 1) from hR_w1).more (by omega)⟩
    · intro L i o n' a u ho hn' hLi hcl hC hD hU
      have hsz := hC.1.size
      have hC2 := hC.2
      have hnx : ∀ a', D2 R (k + 1) w1 (updL L i) (n' + 1) a' u := fun _ => hC.next
      have hon : ∀ u', Only R u u' → Rd u' R (k + 1 + n' + 1) → ∀ a', D2 R (k + 1) w1 (updL L i) (n' + 1) a' u' := fun u' hO hR' _ => hC.only hO hR'
      have han : ∀ ob a', D2 R (k + 1) w1 (updL L i) (n' + 1) a' (u.alloc ob) := fun ob _ => hC.alloc ob
      have hrf := XT.refl (fun _ _ => False) u
      have hex : ∀ u', Only R u u' → XT (fun _ _ => False) u u' := fun u' hO => XT.only hC2 hO (fun _ h => h.elim)
      have hal : ∀ ob, XT (fun _ _ => False) u (u.alloc ob) := fun ob => XT.alloc ob (fun _ h => h.elim)
      have hi : i < 12 := (Array.getElem?_eq_some_iff.1 ho).1
      replace hn' : n' < 12 := hn'
      obtain rfl | rfl | rfl | rfl | rfl | rfl | rfl | rfl | rfl | rfl | rfl | rfl : i = 0 ∨ i = 1 ∨ i = 2 ∨ i = 3 ∨ i = 4 ∨ i = 5 ∨ i = 6 ∨ i = 7 ∨ i = 8 ∨ i = 9 ∨ i = 10 ∨ i = 11 := by omega
      all_goals (simp only [List.getElem?_toArray, List.getElem?_cons_zero, List.getElem?_cons_succ, Option.some.injEq] at ho; subst ho)
      all_goals clear hi hcl
      all_goals (try (have hnx := hnx0 (by decide); have hon := hon0 (by decide); have han := han0 (by decide)))
      · clear hU hD
        go_simp
        exact Typed2.mk _ rfl (han _ _) (hal _) (kLit.new (by omega) _ _ rfl (by simp [IsI]))
      · have u0 := hU 0 (not_written (by kernel_rfl))
        simp at u0
        clear hU hD
        go_simp
        exact Typed2.mk _ rfl (hnx _) hrf rfl
      · have e0 := hD ⟨1, Ground.data⟩ (by simp) rfl _ 10 rfl rfl
        simp [kIs] at e0
        clear hU hD
        go_simp
        refine (pick_c R 3 _ u hC2 (by omega) (by omega) (by omega)).mono ?_
        rintro e w' ⟨m, hm, rfl, hO, hR'⟩
        exact Typed2.mk _ rfl (hon _ hO hR' _) (hex _ hO) ⟨m, hm, rfl⟩
      · obtain ⟨b, e0, hbb, hrow⟩ := hD ⟨0, Ground.data⟩ (by simp) rfl _ 9 rfl rfl
        obtain ⟨m, hm, e1⟩ := hD ⟨2, Ground.data⟩ (by simp) rfl _ 11 rfl rfl
        simp at e0 e1
        have hm4 : (m : Int) < 3 := by omega
        clear hU hD
        go_simp
        exact Typed2.mk _ rfl (hnx _) hrf ⟨b, m, _, _, rfl, by omega, hrow⟩
      · obtain ⟨b, m, e, N, e0, hm, hrow⟩ := hD ⟨3, Ground.data⟩ (by simp) rfl _ 12 rfl rfl
        obtain ⟨x, hx⟩ := hrow.at_ hm
        simp at e0
        clear hU hD
        go_simp
        exact Typed2.mk _ rfl (hnx _) hrf ⟨x, rfl⟩
      · clear hU hD
        go_simp
        exact Typed2.mk _ rfl (han _ _) (hal _) (kLit.new (by omega) _ _ rfl (by simp [IsI]))
      · have u0 := hU 0 (not_written (by kernel_rfl))
        simp at u0
        clear hU hD
        go_simp
        exact Typed2.mk _ rfl (hnx _) hrf rfl
      · have e0 := hD ⟨6, Ground.data⟩ (by simp) rfl _ 15 rfl rfl
        simp [kIs] at e0
        clear hU hD
        go_simp
        refine (pick_c R 3 _ u hC2 (by omega) (by omega) (by omega)).mono ?_
        rintro e w' ⟨m, hm, rfl, hO, hR'⟩
        exact Typed2.mk _ rfl (hon _ hO hR' _) (hex _ hO) ⟨m, hm, rfl⟩
      · obtain ⟨b, e0, hbb, hrow⟩ := hD ⟨5, Ground.data⟩ (by simp) rfl _ 14 rfl rfl
        obtain ⟨m, hm, e1⟩ := hD ⟨7, Ground.data⟩ (by simp) rfl _ 16 rfl rfl
        simp at e0 e1
        have hm4 : (m : Int) < 3 := by omega
        clear hU hD
        go_simp
        exact Typed2.mk _ rfl (hnx _) hrf ⟨b, m, _, _, rfl, by omega, hrow⟩
      · obtain ⟨b, m, e, N, e0, hm, hrow⟩ := hD ⟨8, Ground.data⟩ (by simp) rfl _ 17 rfl rfl
        obtain ⟨x, hx⟩ := hrow.at_ hm
        simp at e0
        clear hU hD
        go_simp
        exact Typed2.mk _ rfl (hnx _) hrf ⟨x, rfl⟩
      · obtain ⟨x, e0⟩ := hD ⟨4, Ground.data⟩ (by simp) rfl _ 13 rfl rfl
        simp at e0
        clear hU hD
        go_simp
        exact Typed2.mk _ rfl (hnx _) hrf ⟨x, rfl⟩
      · obtain ⟨x, e0⟩ := hD ⟨9, Ground.data⟩ (by simp) rfl _ 18 rfl rfl
        simp at e0
        clear hU hD
        go_simp
        exact Typed2.mk _ rfl (hnx _) hrf ⟨x, rfl⟩
    · intro L a u hLL hC hL hN hU hs hd
      obtain ⟨x, e4⟩ := hL 10 _ 4 rfl rfl
      obtain ⟨y, e5⟩ := hL 11 _ 5 rfl rfl
      have e4' : a.tmps[4]?.getD undef = .int .i64 x := by simpa using e4
      have e5' : a.tmps[5]?.getD undef = .int .i64 y := by simpa using e5
      clear e4 e5
      have ht := tmps_ds [9, 10, 11, 12, 13, 14, 15, 16, 17, 18, 4, 5] rfl hs hU
      simp [List.range, List.range.loop] at ht
      rw [e4', e5'] at ht
      (try generalize a.tmps[9]?.getD undef = x9 at ht)
      (try generalize a.tmps[10]?.getD undef = x10 at ht)
      (try generalize a.tmps[11]?.getD undef = x11 at ht)
      (try generalize a.tmps[12]?.getD undef = x12 at ht)
      (try generalize a.tmps[13]?.getD undef = x13 at ht)
      (try generalize a.tmps[14]?.getD undef = x14 at ht)
      (try generalize a.tmps[15]?.getD undef = x15 at ht)
      (try generalize a.tmps[16]?.getD undef = x16 at ht)
      (try generalize a.tmps[17]?.getD undef = x17 at ht)
      (try generalize a.tmps[18]?.getD undef = x18 at ht)
      (try generalize a.tmps[4]?.getD undef = x4 at ht)
      (try generalize a.tmps[5]?.getD undef = x5 at ht)
      obtain ⟨tm, df⟩ := a
      simp only at ht hd
      subst ht hd
      clear hL hN hU hs
      have hRu : Rd u R (k + 1 + 12) := hC.2
      have hOu := hC.1
      clear hC
      go_wp2
      exact bodyPost_ret (v := .tuple #[.int .i64 x, .int .i64 y]) (by simp [results, Try.results42, go_sem, *]) rfl ⟨x, y, rfl, hO_w1.trans hOu, hRu.more (by omega)⟩
end Go.Proofs.Ytabioinmpjfflaa
