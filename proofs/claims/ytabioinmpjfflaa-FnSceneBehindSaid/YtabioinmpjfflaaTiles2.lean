/-
  Lists of tiles: compared; are all valid? Conditions: at most 1048576 tiles.
-/
import Derived.Test.YtabioinmpjfflaaTiles
import Derived.Test.YtabioinmpjfflaaOver
import Derived.ChangeKeysEq
import Derived.Laws.StructEq
namespace Go.Proofs.Ytabioinmpjfflaa
set_option linter.all false
set_option linter.unusedSimpArgs false
set_option linter.unusedVariables false
set_option maxRecDepth 20000
open Go.ChangeShapes Go.WideShapes Go.ChangeAt Go.RowKit

section
variable {ops : Array Oper} {rest : List Oper} {o : Oper} {a : Act} {W : World} {Q : Act → Prop}
theorem atQLoad {C : World → Prop} {dst : Option Tmp} {ty ot : TypeId} {x : Operand} {pos : String} {after : Array Edge} {gd : Option (Nat × Bool)} (h : wpQuiet Try.prog ops C Q (⟨dst, .load ty x, ot, pos, after, gd⟩ :: rest) a) : wpQuiet Try.prog ops C Q (⟨dst, .load ty x, ot, pos, after, gd⟩ :: rest) a := h
theorem wpQuiet_load_tile_mid (hw : Region.wanted o (yielded ops a.tmps) = true) (x : Operand) (ho : o.op = .load 36 x) (b i : Nat) (hx : a.eval x = .pointer (some ⟨b, i, none⟩)) (p : Nat → Int) (hT : W.rangeAt b i (tv p).toList) (hb : b < W.heap.size)
    (h : wpQuiet Try.prog ops (fun w' => ∃ x, w' = over W x) Q rest (a.put o.dst (.agg (tv p)))) : wpQuiet Try.prog ops (fun w' => ∃ x, w' = over W x) Q (o :: rest) a :=
  BigFrame.wpQuiet_want hw fun K hK => ⟨.agg (tv p), fun w ⟨z, hz⟩ => by
    have L := run_loadAt_mid (P := Try.prog) (over W z) b i 36 (tv p).toList _ (rangeAt_below hT (over_below W z) hb) Try.underlying36 rfl (by rw [tv_list]; exact size36)
    simp only [Array.toArray_toList] at L
    subst hz
    unfold Oper.quietAt execOp
    rw [ho]
    simp [Sem.run_bind, hx, L, Oper.quietUpon], hK _ h⟩
end

theorem eqTileS_c (A B : Option Addr) (n cap cap' : Nat) (q : Nat → Nat → Int) (w : World) {C C' : Nat} (h : RS w C 64 A n (tc q)) (h' : RS w C' 64 B n (tc q)) (hC : C ≤ w.heap.size) (hC' : C' ≤ w.heap.size) (hn : n ≤ 1048576) :
    Calls Try.prog 70 #[.slice A n cap, .slice B n cap'] w fun e w' => e = .returned (.bool true) ∧ Below w.heap.size w w' := by
  have H := Lib.hid h
  have H' := Lib.hid h'
  clear h h'
  go_enter Try.func70, Try.ntmps70
  go_wp2
  go_loopw [5] (fun i wr => ∃ k : Nat, k ≤ n ∧ i = .int .i64 k ∧ Below w.heap.size w wr) (fun i _ => n - (intOf i).toNat)
  case atStart => exact ⟨0, by omega, rfl, Below.refl _ _⟩
  case round =>
    obtain ⟨k, hk, rfl, hb⟩ := hrel
    have HB := Lib.hid hb
    by_cases hlt : k < n
    · obtain ⟨b, off, rfl, hbl, hc⟩ := (RS.below hb H.out hC).at_ (by omega)
      obtain ⟨b', off', rfl, hbl', hc'⟩ := (RS.below hb H'.out hC').at_ (by omega)
      have hr := ts_range hc hlt
      have hr' := ts_range hc' hlt
      have HR := Lib.hid hr
      have HR' := Lib.hid hr'
      have hi1 : (k : Int) < (n : Int) := by omega
      have hbs := hb.size
      clear hb hc hc' hr hr'
      go_wp2
      refine wp_region_over (by kernel_rfl) (by kernel_rfl) ?_
      intro W hO_W
      have hb1 : b < W.heap.size := by have := hO_W.size; omega
      have hb2 : b' < W.heap.size := by have := hO_W.size; omega
      have hr1 := rangeAt_below HR.out hO_W (by omega)
      have hr2 := rangeAt_below HR'.out hO_W (by omega)
      repeat (first | ((with_reducible refine atQLoad (ty := 36) ?_); first | (refine wpQuiet_load_tile_mid rfl _ rfl b (off + k * 64) rfl (q k) hr1 hb1 ?_; (conv => arg 6; simp only [Act.put, List.setIfInBounds_toArray, List.set_cons_zero, List.set_cons_succ])) | (refine wpQuiet_load_tile_mid rfl _ rfl b' (off' + k * 64) rfl (q k) hr2 hb2 ?_; (conv => arg 6; simp only [Act.put, List.setIfInBounds_toArray, List.set_cons_zero, List.set_cons_succ]))) | go_big_quiet_step ((go_at_call 74; (with_reducible refine Calls.over_of (eqTile_c _ _)))))
      refine wpQuiet_nil ?_
      intro W2 hx_W2
      obtain ⟨x_W2, hx_W2⟩ := hx_W2
      have hO_W2 : Below W.heap.size W W2 := hx_W2 ▸ over_below W x_W2
      clear hx_W2
      go_wp2
      go_roundw
      case rel => exact ⟨k + 1, by omega, by go_num, via hO_W2 (via hO_W HB.out (by omega)) (by have := hO_W.size; omega)⟩
      case measure => simp [intOf]; omega
    · have hkn : k = n := by omega
      subst hkn
      clear hb
      go_wp2
      go_ret
      exact ⟨rfl, HB.out⟩

end Go.Proofs.Ytabioinmpjfflaa
