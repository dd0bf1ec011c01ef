/-
  What DrawFlipTile draws. No conditions.
-/
import Derived.Test.YtpddgepjlpdfjaaTileDraw
import Derived.Deep.RegionHeld
namespace Go.Proofs.Ytpddgepjlpdfjaa
set_option linter.all false
set_option linter.unusedSimpArgs false
set_option linter.unusedVariables false
open Go.ChangeShapes Go.WideShapes Go.ChangeAt Go.RowKit

theorem run_loadVar_tile {w : World} {g : Nat} {t : TypeId} {p : Nat → Int} (hg : TB w g t p) : (loadVar 26 ⟨g, 0, none⟩).run Try.prog w = .ok (.agg (tv p)) w :=
  run_loadVar_row (P := Try.prog) w g t 26 (tv p) (0, 0) _ hg Try.underlying26 rfl (by rw [tv_size]; exact size26)

theorem yieldsIf_load_tile {ops : Array Oper} {S : World → Prop} {o : Oper} {a : Act} (hw : Region.wanted o (yielded ops a.tmps) = true) (x : Operand) (ho : o.op = .load 26 x) (g : Nat) (hx : a.eval x = .pointer (some ⟨g, 0, none⟩)) (t : TypeId) (p : Nat → Int) (hS : ∀ w, S w → TB w g t p) : YieldsIf Try.prog ops S o (.agg (tv p)) a :=
  .inl ⟨hw, fun w h => by
    have L := run_loadAt_tile (P := Try.prog) (hS w h) Try.underlying26 rfl size26
    unfold execOp
    rw [ho]
    simp [Sem.run_bind, hx, L]⟩
theorem takeD {md : Region.Mode} {ops : Array Oper} {Q : Exit → Act → World → Prop} {S : World → Prop} {i : Nat} {oi : Oper} {v : Value} {fuel : Nat} {listed : Array Bool} {a : Act} {w : World} (dst : Option Tmp) (hi : ops[i]? = some oi) (hd : oi.dst = dst)
    (hs : Region.noSelect ops = true) (hf : Region.free md ops listed i = true) (hr : (Region.ready md ops listed).contains i = true)
    (hQ : ∀ c a w, Q (.panic c) (a.put oi.dst v) w → Q (.panic c) a w) (hy : YieldsIf Try.prog ops S oi v a) (hS : S w)
    (h : wpAnyH Try.prog md ops Q S fuel (listed.setIfInBounds i true) (a.put dst v) w) : wpAnyH Try.prog md ops Q S (fuel + 1) listed a w := by
  subst hd
  exact wpAnyH_take hi hs hf hr hQ hy hS h
theorem results_tile3 {fn : Func} {c u v : Tmp} (h : fn.results = #[.cell c 26, .tmp u, .tmp v]) (tmps : Array Value) (w : World) (g : Nat) (t : TypeId) (q : Nat → Int) (hp : tmps.getD c undef = .pointer (some ⟨g, 0, none⟩)) (hg : TB w g t q) {x y : Value} (hu : tmps.getD u undef = x) (hv : tmps.getD v undef = y) :
    (results fn tmps).run Try.prog w = .ok (.tuple #[.agg (tv q), x, y]) w := by
  subst hu hv
  have hp' : tmps[c]?.getD undef = .pointer (some ⟨g, 0, none⟩) := by simpa using hp
  simp [results, h, hp', asAddr, run_loadVar_tile hg]
def DFlip (w : World) (e : Ending) (w' : World) : Prop := ∃ (p : Nat → Int) (x y : Bool), e = .returned (.tuple #[.agg (tv p), .bool x, .bool y]) ∧ Below w.heap.size w w'
theorem TB.cell_int {w : World} {g : Nat} {t : TypeId} {p : Nat → Int} (h : TB w g t p) (o : Nat) (u : Nat) : w.cell? ⟨g, o, none⟩ ≠ some (.int .u8 u) := by
  by_cases ho : o < 64
  · rw [h.cell o ho]; intro e; injection e with e; injection e with e; cases e
  · have hx : (tv p)[o]? = none := Array.getElem?_eq_none (by rw [tv_size]; omega)
    unfold TB at h
    simp [World.cell?, h, hx]
theorem rd_setRowT {w : World} {R : Nat} {k : Int} (h : Rd w R k) {g : Nat} {t : TypeId} {q : Nat → Int} (hT : TB w g t q) (hg : g ≠ R) (cs : Array Value) : Rd (w.setRow g cs) R k := by
  obtain ⟨a, len, cap, p, h1, h2, h3, h4, h5⟩ := h
  refine ⟨a, len, cap, p, (setRow_other w g R cs (Ne.symm hg)).trans h1, h2, h3, h4, ?_⟩
  rcases h5 with h5 | ⟨b, off, rfl, hlt, hc⟩
  · exact .inl h5
  · refine .inr ⟨b, off, rfl, hlt, fun i hi => ?_⟩
    obtain ⟨u, hu, hcu⟩ := hc i hi
    have hb : b ≠ g := by
      rintro rfl
      exact hT.cell_int _ _ hcu
    refine ⟨u, hu, ?_⟩
    rw [← hcu]
    unfold World.cell?
    simp only [setRow_other w g b cs hb]

set_option maxRecDepth 100000 in
theorem drawFlipTile_c (a : Option Addr) (len cap : Nat) (w : World) (hcode : Code w a len) (hl : len ≤ cap) : Calls Try.prog 41 #[.slice a len cap] w fun e w' => DFlip w e w' := by
  have hZ := TB.new w 26 zeroT
  go_enter Try.func41, Try.ntmps41
  go_wp2_with ((with_reducible refine atAlloc (ty := 26) ?_); refine wpList_alloc_tile rfl 26 rfl zero26 ?_; (try simp only [World.size_alloc, World.size_setCell, setRow_size]))
  go_wp2_with fail
  refine (open_c _ _ _ _ (hcode.keep (by (repeat (first | with_reducible exact Below.refl _ _ | ((with_reducible refine viaO (by assumption) ?_ ?_ ?_) <;> try ((try simp only [World.size_alloc, World.size_setCell, World.size_drew]) <;> omega)) | ((with_reducible refine Below.alloc ?_ ?_ _) <;> try ((try simp only [World.size_alloc, World.size_setCell, World.size_drew]) <;> omega)) | ((with_reducible refine Below.setCell ?_ ?_ _) <;> try ((try simp only [World.size_alloc, World.size_setCell, World.size_drew]) <;> omega)) | (with_reducible refine below_drewN ?_ _) | (with_reducible refine Below.drew ?_) | ((with_reducible refine via (by assumption) ?_ ?_) <;> try ((try simp only [World.size_alloc, World.size_setCell, World.size_drew]) <;> omega)))))) (by assumption)).mono ?_
  rintro e w1 ⟨R, rfl, hR0, hO_w1, hR_w1⟩
  have hz_w1 := hO_w1.size
  (try simp only [World.size_alloc, World.size_setCell, World.size_drew] at hz_w1)
  (try simp only [World.size_alloc, World.size_setCell, World.size_drew] at hR0)
  have hlt_w1 := hR_w1.lt
  have hZ1 := hZ.below hO_w1 (by simp)
  go_wp2_with fail
  refine (l20Tile_c _ _ _ _ (by (repeat (first | with_reducible assumption | (with_reducible apply Rd.alloc) | ((with_reducible apply Rd.setCell) <;> try ((try simp only [World.size_alloc, World.size_setCell, World.size_drew]) <;> omega)) | (with_reducible apply Rd.drewN) | (with_reducible apply Rd.drew)))) (by omega) (by omega) (by omega)).mono ?_
  rintro e w2 ⟨p, rfl, hO_w2, hR_w2⟩
  have hz_w2 := hO_w2.size
  (try simp only [World.size_alloc, World.size_setCell, World.size_drew] at hz_w2)
  have hZ2 := (hZ1.only hO_w2 (by omega)).alloc (.cells (tv p) 26)
  have hX2 := TB.new w2 26 p
  clear hZ hZ1
  go_wp2_with (first | ((with_reducible refine atAlloc (ty := 26) ?_); refine wpList_alloc_tile rfl 26 rfl zero26 ?_; (try simp only [World.size_alloc, World.size_setCell, setRow_size])) | ((with_reducible refine atStore (ty := 26) ?_); refine wpList_store_tile_new rfl 26 _ _ rfl rfl (p) rfl 26 _ size26 ?_))
  go_wp2_with fail
  refine (pick_c _ _ _ _ (by (repeat (first | with_reducible assumption | (with_reducible apply Rd.alloc) | ((with_reducible apply Rd.setCell) <;> try ((try simp only [World.size_alloc, World.size_setCell, World.size_drew]) <;> omega)) | (with_reducible apply Rd.drewN) | (with_reducible apply Rd.drew)))) (by omega) (by omega) (by omega)).mono ?_
  rintro e w3 ⟨v, hv_v, rfl, hO_w3, hR_w3⟩
  have hz_w3 := hO_w3.size
  (try simp only [World.size_alloc, World.size_setCell, World.size_drew] at hz_w3)
  have hZ3 := hZ2.only hO_w3 (by omega)
  have hX3 := hX2.only hO_w3 (by omega)
  have d1 : TB w3.drew w2.heap.size 26 p := hX3
  have d2 : TB w3.drew w.heap.size 26 zeroT := hZ3
  have r1 : Rd w3.drew R _ := hR_w3
  have hs3 : w.heap.size < w3.heap.size := hZ3.lt
  clear hZ2 hX2 hZ3 hX3
  go_wp2
  refine wp_region_held_drew (S := fun w' => TB w' w2.heap.size 26 p) (by kernel_rfl) d1 (fun hHeld => ?_)
  refine wpAnyH_take (i := 0) (v := .agg (tv p)) rfl (by kernel_rfl) (by kernel_rfl) (by kernel_rfl) (fun _ _ _ h => h) (yieldsIf_load_tile (by rfl) _ rfl _ rfl 26 p fun _ h => h) hHeld ?_
  simp only [Act.put, List.setIfInBounds_toArray, List.set_cons_zero, List.set_cons_succ]
  refine takeD (i := 1) (v := ?_) (some 16) rfl rfl (by kernel_rfl) (by kernel_rfl) (by kernel_rfl) (fun _ _ _ h => h) (Or.inl ⟨by rfl, ?_⟩) hHeld ?_
  rotate_left
  · intro w' _
    go_simp
    with_reducible rfl
  simp only [Act.put, List.setIfInBounds_toArray, List.set_cons_zero, List.set_cons_succ]
  refine takeD (i := 2) (v := ?_) (some 17) rfl rfl (by kernel_rfl) (by kernel_rfl) (by kernel_rfl) (fun _ _ _ h => h) (Or.inl ⟨by rfl, ?_⟩) hHeld ?_
  rotate_left
  · intro w' _
    go_simp
    with_reducible rfl
  simp only [Act.put, List.setIfInBounds_toArray, List.set_cons_zero, List.set_cons_succ]
  refine wpAnyH_ready (rs := [3]) (by kernel_rfl) (by simp) ?_
  refine AllReadyH.cons rfl (fun K hK => ?_) AllReadyH.nil
  go_simp
  go_wp2_with (go_at_call 52; refine (pick_c _ _ _ _ r1 (by omega) (by omega) (by omega)).mono ?_; rintro e w4 ⟨u, hu, rfl, hO_w4, hR_w4⟩)
  refine hK.out _ _ (d1.only hO_w4 (by omega)) (fun hHeld4 => ?_)
  clear hK K
  refine takeD (i := 4) (v := ?_) (some 19) rfl rfl (by kernel_rfl) (by kernel_rfl) (by kernel_rfl) (fun _ _ _ h => h) (Or.inl ⟨by rfl, ?_⟩) hHeld4 ?_
  rotate_left
  · intro w' _
    go_simp
    with_reducible rfl
  simp only [Act.put, List.setIfInBounds_toArray, List.set_cons_zero, List.set_cons_succ]
  have d4 := d2.only hO_w4 (by omega)
  refine wpAnyH_ready (rs := [5]) (by kernel_rfl) (by simp) ?_
  refine AllReadyH.cons rfl (fun K hK => ?_) AllReadyH.nil
  rw [if_pos (by rfl)]
  refine wp_store_row 26 _ _ rfl w.heap.size (tv p) rfl rfl 26 (tv zeroT) d4 (by rw [tv_size]; exact size26) (by rw [tv_size, tv_size]) (tv_one p) ?_
  have hs4 := hO_w4.size
  (try simp only [World.size_alloc, World.size_setCell, World.size_drew] at hs4)
  refine hK.out _ _ (hHeld4.farRow (by omega) _) (fun hHeld5 => ?_)
  clear hK K
  simp only [Act.put]
  refine takeD (i := 6) (v := ?_) (some 3) rfl rfl (by kernel_rfl) (by kernel_rfl) (by kernel_rfl) (fun _ _ _ h => h) (Or.inl ⟨by rfl, ?_⟩) hHeld5 ?_
  rotate_left
  · intro w' _
    go_simp
    with_reducible rfl
  simp only [Act.put, List.setIfInBounds_toArray, List.set_cons_zero, List.set_cons_succ]
  refine takeD (i := 7) (v := ?_) (some 4) rfl rfl (by kernel_rfl) (by kernel_rfl) (by kernel_rfl) (fun _ _ _ h => h) (Or.inl ⟨by rfl, ?_⟩) hHeld5 ?_
  rotate_left
  · intro w' _
    go_simp
    with_reducible rfl
  simp only [Act.put, List.setIfInBounds_toArray, List.set_cons_zero, List.set_cons_succ]
  refine wpAnyH_done (by kernel_rfl) ?_ _
  have d5 := d4.row p
  go_wp2
  refine bodyPost_ret (v := .tuple #[.agg (tv p), .bool (↑v == (0 : Int)), .bool (↑u == (0 : Int))]) (results_tile3 rfl _ _ _ _ p rfl d5 rfl rfl) rfl ⟨_, _, _, rfl, ?_⟩
  refine below_setRow ?_ (by omega) _
  (repeat (first | with_reducible exact Below.refl _ _ | ((with_reducible refine viaO (by assumption) ?_ ?_ ?_) <;> try ((try simp only [World.size_alloc, World.size_setCell, World.size_drew]) <;> omega)) | ((with_reducible refine Below.alloc ?_ ?_ _) <;> try ((try simp only [World.size_alloc, World.size_setCell, World.size_drew]) <;> omega)) | ((with_reducible refine Below.setCell ?_ ?_ _) <;> try ((try simp only [World.size_alloc, World.size_setCell, World.size_drew]) <;> omega)) | (with_reducible refine below_drewN ?_ _) | (with_reducible refine Below.drew ?_) | ((with_reducible refine via (by assumption) ?_ ?_) <;> try ((try simp only [World.size_alloc, World.size_setCell, World.size_drew]) <;> omega))))

end Go.Proofs.Ytpddgepjlpdfjaa
