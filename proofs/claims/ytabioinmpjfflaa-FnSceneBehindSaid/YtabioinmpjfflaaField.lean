/-
  The contracts of FieldValid in the program and in the reference. Conditions: at most 1048576 tiles and numbers.
-/
import Derived.Test.YtabioinmpjfflaaTiles2
namespace Go.Proofs.Ytabioinmpjfflaa
set_option linter.all false
set_option linter.unusedSimpArgs false
set_option linter.unusedVariables false
set_option maxRecDepth 20000
open Go.ChangeShapes Go.WideShapes Go.ChangeAt Go.RowKit

/-- Are the first n tiles valid? -/
def tsv (n : Nat) (q : Nat → Nat → Int) : Bool := (List.range n).all fun i => tvd (q i)
theorem tsv_true {n : Nat} {q : Nat → Nat → Int} : tsv n q = true ↔ ∀ i, i < n → tvd (q i) = true := by simp [tsv]
theorem tsv_no {n k : Nat} {q : Nat → Nat → Int} (hk : k < n) (h : tvd (q k) = false) : tsv n q = false := by
  cases hv : tsv n q
  · rfl
  · have := tsv_true.1 hv k hk
    rw [h] at this; cases this

theorem itsv_c (A : Option Addr) (n cap : Nat) (q : Nat → Nat → Int) (v : Bool) (hv : (decide (n ≤ 16) && tsv n q) = v) (w : World) {B : Nat} (h : RS w B 64 A n (tc q)) (hB : B ≤ w.heap.size) :
    Calls Try.prog 47 #[.slice A n cap] w fun e w' => e = .returned (.bool v) ∧ Below w.heap.size w w' := by
  have H := Lib.hid h
  have HV := Lib.hid hv
  clear h hv
  by_cases hn : n ≤ 16
  · have hn' : ¬ 16 < n := by omega
    have hV : tsv n q = v := by have := HV.out; simpa [hn] using this
    have HV2 := Lib.hid hV
    clear hV
    go_enter Try.func47, Try.ntmps47
    go_wp2
    go_loopw [10] (fun i wr => ∃ k : Nat, k ≤ n ∧ i = .int .i64 k ∧ Hid (∀ j, j < k → tvd (q j) = true) ∧ Below w.heap.size w wr) (fun i _ => n - (intOf i).toNat)
    case atStart => exact ⟨0, by omega, rfl, fun j hj => by omega, Below.refl _ _⟩
    case round =>
      obtain ⟨k, hk, rfl, hall, hb⟩ := hrel
      have HB := Lib.hid hb
      by_cases hlt : k < n
      · obtain ⟨b, off, rfl, hbl, hc⟩ := (RS.below hb H.out hB).at_ (by omega)
        have hr := ts_range hc hlt
        have hbs := hb.size
        clear hb hc
        cases ht : tvd (q k)
        · have HT := Lib.hid ht
          clear ht
          go_wp2_with (first | ((with_reducible refine atLoad (ty := 36) ?_); refine wpList_load_tile_mid rfl 36 _ rfl b (off + k * 64) rfl (q k) hr _ Try.underlying36 rfl size36 ?_) | ((with_reducible refine atAlloc (ty := 36) ?_); refine wpList_alloc_tile rfl 36 rfl zero36 ?_; (try simp only [World.size_alloc, World.size_setCell, setRow_size])) | ((with_reducible refine atStore (ty := 36) ?_); refine wpList_store_tile_new rfl 36 _ _ rfl rfl (q k) rfl 36 _ size36 ?_) | ((with_reducible refine atLoad (ty := 36) ?_); refine wpList_load_tile rfl 36 _ rfl _ rfl 36 _ (TB.new _ _ _) _ Try.underlying36 rfl size36 ?_))
          go_wp2_with fail
          refine (itv_c _ _ HT.out _).mono ?_
          rintro e w1 ⟨rfl, hO_w1⟩
          have hz_w1 := hO_w1.size
          (try simp only [World.size_alloc, World.size_setCell, World.size_drew] at hz_w1)
          go_wp2
          go_ret
          refine ⟨ret_bool ((tsv_no hlt HT.out).symm.trans HV2.out), ?_⟩
          refine Below.trans HB.out ?_
          refine ((Below.refl _ _).alloc (by omega) _).trans (hO_w1.mono (by simp; omega))
        · have HT := Lib.hid ht
          clear ht
          go_wp2_with (first | ((with_reducible refine atLoad (ty := 36) ?_); refine wpList_load_tile_mid rfl 36 _ rfl b (off + k * 64) rfl (q k) hr _ Try.underlying36 rfl size36 ?_) | ((with_reducible refine atAlloc (ty := 36) ?_); refine wpList_alloc_tile rfl 36 rfl zero36 ?_; (try simp only [World.size_alloc, World.size_setCell, setRow_size])) | ((with_reducible refine atStore (ty := 36) ?_); refine wpList_store_tile_new rfl 36 _ _ rfl rfl (q k) rfl 36 _ size36 ?_) | ((with_reducible refine atLoad (ty := 36) ?_); refine wpList_load_tile rfl 36 _ rfl _ rfl 36 _ (TB.new _ _ _) _ Try.underlying36 rfl size36 ?_))
          go_wp2_with fail
          refine (itv_c _ _ HT.out _).mono ?_
          rintro e w1 ⟨rfl, hO_w1⟩
          have hz_w1 := hO_w1.size
          (try simp only [World.size_alloc, World.size_setCell, World.size_drew] at hz_w1)
          go_wp2
          go_roundw
          case rel =>
            refine ⟨k + 1, by omega, by go_num, fun j hj => ?_, ?_⟩
            · by_cases e : j = k
              · subst e; exact HT.out
              · exact hall.out j (by omega)
            · refine Below.trans HB.out ?_
              exact ((Below.refl _ _).alloc (by omega) _).trans (hO_w1.mono (by simp; omega))
          case measure => simp [intOf]; omega
      · have hkn : k = n := by omega
        subst hkn
        clear hb
        go_wp2
        go_ret
        exact ⟨ret_bool ((tsv_true.2 hall.out).symm.trans HV2.out), HB.out⟩
  · have hn' : 16 < n := by omega
    have hV : false = v := by have := HV.out; simpa [hn] using this
    subst hV
    go_enter Try.func47, Try.ntmps47
    go_wp2
    go_ret
    exact ⟨rfl, Below.refl _ _⟩

/-- A field, as a value. -/
abbrev fdV (W : Int) (A : Option Addr) (n c : Nat) (B : Option Addr) (m d : Nat) (X Y : Int) : Value := .agg #[.int .i64 W, .slice A n c, .slice B m d, .int .i64 X, .int .i64 Y]
/-- Block g holds a field (t: the type that its block bears). -/
def FB (w : World) (g : Nat) (t : TypeId) (W : Int) (A : Option Addr) (n c : Nat) (B : Option Addr) (m d : Nat) (X Y : Int) : Prop :=
  w.heap[g]? = some (.cells #[.int .i64 W, .slice A n c, .slice B m d, .int .i64 X, .int .i64 Y] t (0, 0))
section
variable {w w' : World} {g : Nat} {t : TypeId} {W X Y : Int} {A B : Option Addr} {n c m d : Nat}
theorem FB.lt (h : FB w g t W A n c B m d X Y) : g < w.heap.size := by
  rcases Nat.lt_or_ge g w.heap.size with hlt | hge
  · exact hlt
  · unfold FB at h; rw [Array.getElem?_eq_none hge] at h; cases h
theorem FB.new (w : World) (t : TypeId) (W : Int) (A : Option Addr) (n c : Nat) (B : Option Addr) (m d : Nat) (X Y : Int) : FB (w.alloc (.cells #[.int .i64 W, .slice A n c, .slice B m d, .int .i64 X, .int .i64 Y] t)) w.heap.size t W A n c B m d X Y := heap_alloc_new w _
theorem FB.drew (h : FB w g t W A n c B m d X Y) : FB w.drew g t W A n c B m d X Y := h
theorem FB.drewN (h : FB w g t W A n c B m d X Y) (k : Nat) : FB (w.drewN k) g t W A n c B m d X Y := h
theorem FB.below {K : Nat} (hb : Below K w w') (h : FB w g t W A n c B m d X Y) (hg : g < K) : FB w' g t W A n c B m d X Y := (hb.block g hg).trans h
theorem FB.only {R : Nat} (hb : Only R w w') (h : FB w g t W A n c B m d X Y) (hg : g ≠ R) : FB w' g t W A n c B m d X Y := (hb.block g h.lt (by intro e; injection e; omega)).trans h
theorem FB.alloc (h : FB w g t W A n c B m d X Y) (o : Obj) : FB (w.alloc o) g t W A n c B m d X Y := (Below.heap_alloc w o g h.lt).trans h
theorem FB.far (h : FB w g t W A n c B m d X Y) {a : Addr} (ha : g ≠ a.block) (v : Value) : FB (w.setCell a v) g t W A n c B m d X Y := (Below.heap_setCell w a v g ha).trans h
theorem FB.cells (h : FB w g t W A n c B m d X Y) : w.cell? ⟨g, 0, none⟩ = some (.int .i64 W) ∧ w.cell? ⟨g, 1, none⟩ = some (.slice A n c) ∧ w.cell? ⟨g, 2, none⟩ = some (.slice B m d) ∧ w.cell? ⟨g, 3, none⟩ = some (.int .i64 X) ∧ w.cell? ⟨g, 4, none⟩ = some (.int .i64 Y) := by
  unfold FB at h
  simp [World.cell?, h]
theorem FB.free (h : FB w g t W A n c B m d X Y) : w.frozen? ⟨g, 0, none⟩ = false ∧ w.frozen? ⟨g, 1, none⟩ = false ∧ w.frozen? ⟨g, 2, none⟩ = false ∧ w.frozen? ⟨g, 3, none⟩ = false ∧ w.frozen? ⟨g, 4, none⟩ = false := by
  unfold FB at h
  simp [World.frozen?, h]
end
/-- Are the first n numbers numbers of tiles? -/
def msv (n m : Nat) (p : Nat → Int) : Bool := (List.range n).all fun i => inB (p i) 0 ((m : Int) - 1)
theorem msv_true {n m : Nat} {p : Nat → Int} : msv n m p = true ↔ ∀ i, i < n → inB (p i) 0 ((m : Int) - 1) = true := by simp [msv]
theorem msv_no {n m k : Nat} {p : Nat → Int} (hk : k < n) (h : inB (p k) 0 ((m : Int) - 1) = false) : msv n m p = false := by
  cases hv : msv n m p
  · rfl
  · have := msv_true.1 hv k hk
    rw [h] at this; cases this
/-- Is the field valid? -/
def fvd (W : Int) (n m : Nat) (X Y : Int) (p : Nat → Int) (q : Nat → Nat → Int) : Bool :=
  inB W 1 8 && ((n : Int) % W == 0) && inB ((n : Int) / W) 1 8 && inB (m : Int) 1 16 && tsv m q && inB X 0 255 && inB Y 0 255 && msv n m p

end Go.Proofs.Ytabioinmpjfflaa
