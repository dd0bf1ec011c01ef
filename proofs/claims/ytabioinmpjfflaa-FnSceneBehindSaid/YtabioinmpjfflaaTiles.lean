/-
  Lists of tiles: copied, compared, looked at as a whole. Conditions: at most 1048576 tiles.
-/
import Derived.Test.YtabioinmpjfflaaInts
import Derived.Test.YtabioinmpjfflaaTile
import Derived.Deep.MidRow
import Derived.Deep.RegionHeld3
namespace Go.Proofs.Ytabioinmpjfflaa
set_option linter.all false
set_option linter.unusedSimpArgs false
set_option linter.unusedVariables false
set_option maxRecDepth 20000
open Go.ChangeShapes Go.WideShapes Go.ChangeAt Go.RowKit

/-- The cells of a list of tiles. -/
def tc (q : Nat → Nat → Int) : Nat → Value := fun j => .int .i64 (q (j / 64) (j % 64))
theorem tc_at (q : Nat → Nat → Int) (k j : Nat) (hj : j < 64) : tc q (k * 64 + j) = .int .i64 (q k j) := by
  unfold tc
  rw [show (k * 64 + j) / 64 = k by omega, show (k * 64 + j) % 64 = j by omega]
theorem tv_list (p : Nat → Int) : (tv p).toList.length = 64 := by rw [Array.length_toList, tv_size]
theorem tv_list_get (p : Nat → Int) (j : Nat) (hj : j < 64) : (tv p).toList[j]? = some (.int .i64 (p j)) := by rw [Array.getElem?_toList, tv_get p j hj]
/-- Tile number k of a list, for a load of the whole. -/
theorem ts_range {w : World} {b off n : Nat} {q : Nat → Nat → Int} (hc : ∀ j, j < n * 64 → w.cell? ⟨b, off + j, none⟩ = some (tc q j)) {k : Nat} (hk : k < n) : w.rangeAt b (off + k * 64) (tv (q k)).toList :=
  RS.range hc hk (tv_list _) fun j hj => by rw [tv_list_get _ j hj, tc_at q k j hj]
theorem rangeAt_below {w w' : World} {B b o : Nat} {vs : List Value} (h : w.rangeAt b o vs) (hb : Below B w w') (hB : b < B) : w'.rangeAt b o vs := fun j v hv => (hb.cell (p := ⟨b, o + j, none⟩) hB).trans (h j v hv)
section
variable {P : Program} {ops : Array Oper} {rest : List Oper} {o : Oper} {a : Act} {w : World} {Q : Exit → Act → World → Prop}
theorem wpList_load_tile_mid (hgd : o.guard = none) (ty : TypeId) (x : Operand) (ho : o.op = .load ty x) (b i : Nat) (hx : a.eval x = .pointer (some ⟨b, i, none⟩)) (p : Nat → Int) (hr : w.rangeAt b i (tv p).toList) (d : TypeDesc)
    (hu : P.underlying ty = some d) (hd : d.isRow = true) (hi : (P.info? ty).map (·.size) = some 64)
    (h : wpList P ops Q rest (a.put o.dst (.agg (tv p))) w) : wpList P ops Q (o :: rest) a w :=
  wpList_load_mid hgd ty x ho b i hx (tv p).toList d hr hu hd (by rw [tv_list]; exact hi) (by simpa using h)
theorem wpList_store_tile_mid (hgd : o.guard = none) (ty : TypeId) (x y : Operand) (ho : o.op = .store ty x y) (b i : Nat) (hx : a.eval x = .pointer (some ⟨b, i, none⟩)) (p : Nat → Int) (hy : a.eval y = .agg (tv p)) (ht : w.there b i 64) (hi : (P.info? ty).map (·.size) = some 64)
    (h : wpList P ops Q rest (a.put o.dst undef) (w.setCells b i (tv p).toList)) : wpList P ops Q (o :: rest) a w :=
  wpList_store_mid hgd ty x y ho b i (tv p) hx hy (by rw [tv_size]; exact ht) (by rw [tv_size]; exact hi) (tv_one p) h
end
/-- Many cells of a block are written. -/
theorem CB.puts {g : Nat} {t : TypeId} {n : Nat} : ∀ (vs : List Value) (o : Nat) {w : World} {c : Nat → Value}, CB w g t n c → CB (w.setCells g o vs) g t n (fun j => if o ≤ j then (vs[j - o]?).getD (c j) else c j)
  | [], o, w, c, h => h.congr fun i _ => by simp
  | v :: vs, o, w, c, h => by
    have := CB.puts vs (o + 1) (h.put o v)
    refine this.congr fun i _ => ?_
    show (if o + 1 ≤ i then (vs[i - (o + 1)]?).getD (updV c o v i) else updV c o v i) = if o ≤ i then ((v :: vs)[i - o]?).getD (c i) else c i
    by_cases h1 : i < o
    · have e1 : updV c o v i = c i := if_neg (by omega)
      rw [if_neg (by omega), if_neg (by omega), e1]
    · by_cases h2 : i = o
      · subst h2
        have e1 : updV c i v i = v := if_pos rfl
        rw [if_neg (by omega), if_pos (Nat.le_refl _), e1]
        simp
      · have e1 : updV c o v i = c i := if_neg h2
        rw [if_pos (show o + 1 ≤ i by omega), if_pos (show o ≤ i by omega), e1, show i - o = (i - (o + 1)) + 1 by omega, List.getElem?_cons_succ]
theorem CB.there {w : World} {g : Nat} {t : TypeId} {n : Nat} {c : Nat → Value} (h : CB w g t n c) {i m : Nat} (hm : i + m ≤ n) : w.there g i m := fun j hj => ⟨by rw [h.cell (i + j) (by omega)]; rfl, h.frozen _⟩
theorem below_setCells {B : Nat} {a : World} {g : Nat} (hg : B ≤ g) : ∀ (vs : List Value) (o : Nat) {w : World}, Below B a w → Below B a (w.setCells g o vs)
  | [], _, _, h => h
  | v :: vs, o, _, h => below_setCells hg vs (o + 1) (h.setCell hg v)
theorem CB.ownN {w : World} {g : Nat} {t : TypeId} {n sz : Nat} {c : Nat → Value} (h : CB w g t (n * sz) c) {base : Nat} (hb : base ≤ g) (hn : n ≤ maxLen) : w.ownsRow base t sz (.slice (some ⟨g, 0, none⟩) n n) n ((List.range (n * sz)).map c) :=
  ⟨by simp, .inr ⟨g, n, _, rfl, hb, h, Nat.le_refl _, hn, by rw [ca_size], by rw [ca_list]; exact List.take_of_length_le (by simp)⟩⟩

theorem info36 : (Try.prog.info? 36).map (fun i => (i.zero, i.size, i.bytes)) = some (some (.agg (tv zeroT)), 64, 512) := by kernel_rfl
theorem made_tiles (m : Nat) : madeCells (tv zeroT) m = ca m (fun _ => .int .i64 0) := by
  apply Array.ext_getElem?
  intro i
  by_cases hi : i < m
  · rw [ca_get _ _ _ hi]
    have hs : i % (tv zeroT).size < (tv zeroT).size := Nat.mod_lt _ (by rw [tv_size]; omega)
    have hs' : i % 64 < 64 := Nat.mod_lt _ (by omega)
    have e : (tv zeroT)[i % (tv zeroT).size]! = .int .i64 0 := by
      have hg := tv_get zeroT (i % 64) hs'
      simp only [tv_size, getElem!_def, hg, zeroT]
    have e2 : (madeCells (tv zeroT) m)[i]? = some ((tv zeroT)[i % (tv zeroT).size]!) := by simp [madeCells, hi]
    rw [e2, e]
  · rw [Array.getElem?_eq_none (show (madeCells (tv zeroT) m).size ≤ i by rw [size_madeCells]; omega), Array.getElem?_eq_none (show (ca m fun _ => Value.int .i64 0).size ≤ i by rw [ca_size]; omega)]
theorem makeTiles (n : Nat) (hn : n ≤ 1048576) (W : World) : (Instr.makeSlice 24 (.int .i64 (n : Int)) (.int .i64 (n : Int))).run Try.prog W = .ok (.slice (some ⟨W.heap.size, 0, none⟩) n n) (W.alloc (.cells (ca (n * 64) fun _ => .int .i64 0) 36)) := by
  obtain ⟨i, hi, hz, hs, hb⟩ := info_parts info36
  have hr := run_make (P := Try.prog) W 24 36 i _ Try.underlying24 hi hz .i64 .i64 n n (by omega) (by omega) (by rw [hb]; omega) (by omega)
  rw [hr, hs]
  simp only [Int.toNat_natCast, Value.cells]
  rw [made_tiles]

theorem toTileS_c (A : Option Addr) (n cap : Nat) (q : Nat → Nat → Int) (w : World) {B : Nat} (h : RS w B 64 A n (tc q)) (hB : B ≤ w.heap.size) (hn : n ≤ 1048576) : Calls Try.prog 67 #[.slice A n cap] w (Gives 36 64 n (tc q) w) := by
  have H := Lib.hid h
  clear h
  have hmk := makeTiles n hn
  go_enter Try.func67, Try.ntmps67
  go_wp2
  clear hmk
  go_loopw [4] (fun i wr => ∃ k : Nat, k ≤ n ∧ i = .int .i64 k ∧ CB wr w.heap.size 36 (n * 64) (fun j => if j < k * 64 then tc q j else .int .i64 0) ∧ Below w.heap.size w wr) (fun i _ => n - (intOf i).toNat)
  case atStart =>
    refine ⟨0, by omega, rfl, (CB.new _ _ _ _).congr (fun i _ => by simp), ?_⟩
    (repeat (first | with_reducible exact Below.refl _ _ | ((with_reducible refine viaO (by assumption) ?_ ?_ ?_) <;> try ((try simp only [World.size_alloc, World.size_setCell, World.size_drew]) <;> omega)) | ((with_reducible refine Below.alloc ?_ ?_ _) <;> try ((try simp only [World.size_alloc, World.size_setCell, World.size_drew]) <;> omega)) | ((with_reducible refine Below.setCell ?_ ?_ _) <;> try ((try simp only [World.size_alloc, World.size_setCell, World.size_drew]) <;> omega)) | (with_reducible refine below_drewN ?_ _) | (with_reducible refine Below.drew ?_) | ((with_reducible refine via (by assumption) ?_ ?_) <;> try ((try simp only [World.size_alloc, World.size_setCell, World.size_drew]) <;> omega))))
  case round =>
    obtain ⟨k, hk, rfl, h1, hb⟩ := hrel
    have H1 := Lib.hid h1
    have HB := Lib.hid hb
    have hlt := h1.lt
    by_cases hlk : k < n
    · obtain ⟨b, off, rfl, hbl, hc⟩ := (RS.below hb H.out hB).at_ (by omega)
      have hr := ts_range hc hlk
      clear h1 hb hc
      go_wp2_with ((with_reducible refine atLoad (ty := 104) ?_); refine wpList_load_tile_mid rfl 104 _ rfl b (off + k * 64) rfl (q k) hr _ Try.underlying104 rfl size104 ?_)
      go_wp2_with fail
      refine (toTile_c _ _).mono ?_
      rintro e w1 ⟨rfl, hO_w1⟩
      have hz_w1 := hO_w1.size
      (try simp only [World.size_alloc, World.size_setCell, World.size_drew] at hz_w1)
      have h2 := H1.out.below hO_w1 hlt
      have ht := h2.there (i := k * 64) (m := 64) (by omega)
      have H2 := Lib.hid h2
      clear h2 hr
      go_wp2_with ((with_reducible refine atStore (ty := 36) ?_); refine wpList_store_tile_mid rfl 36 _ _ rfl w.heap.size (k * 64) rfl (q k) rfl ht size36 ?_)
      go_roundw
      case rel =>
        refine ⟨k + 1, by omega, by go_num, (H2.out.puts (tv (q k)).toList (k * 64)).congr fun i hi => ?_, below_setCells (Nat.le_refl _) _ _ (via hO_w1 HB.out HB.out.size)⟩
        by_cases h1 : i < k * 64
        · rw [if_neg (by omega), if_pos h1, if_pos (by omega)]
        · rw [if_pos (by omega)]
          by_cases h2 : i < (k + 1) * 64
          · rw [if_pos h2, tv_list_get (q k) (i - k * 64) (by omega)]
            have := tc_at q k (i - k * 64) (by omega)
            rw [show k * 64 + (i - k * 64) = i by omega] at this
            rw [this]; rfl
          · rw [if_neg h2, List.getElem?_eq_none (by rw [tv_list]; omega), if_neg h1]; rfl
      case measure => simp [intOf]; omega
    · have hkn : k = n := by omega
      subst hkn
      clear h1 hb
      go_wp2
      go_ret
      refine ⟨_, _, rfl, ?_, HB.out⟩
      exact (H1.out.congr (d := tc q) fun i hi => by simp [hi]).ownN (Nat.le_refl _) (by unfold maxLen; omega)

end Go.Proofs.Ytabioinmpjfflaa
