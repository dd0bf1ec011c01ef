/-
  A block that holds a scene; the five cells of a field at the head of a block. No conditions.
-/
import Derived.Test.YtabioinmpjfflaaFieldPx2
import Derived.Test.YtabioinmpjfflaaFieldLine
import Derived.Test.YtabioinmpjfflaaSprTop2
namespace Go.Proofs.Ytabioinmpjfflaa
set_option linter.all false
set_option linter.unusedSimpArgs false
set_option linter.unusedVariables false
set_option maxRecDepth 20000
open Go.ChangeShapes Go.WideShapes Go.ChangeAt Go.RowKit

/-- The head of block g holds a field. -/
def FC (w : World) (g : Nat) (W : Int) (A : Option Addr) (n c : Nat) (B : Option Addr) (m d : Nat) (X Y : Int) : Prop :=
  w.cell? ⟨g, 0, none⟩ = some (.int .i64 W) ∧ w.cell? ⟨g, 1, none⟩ = some (.slice A n c) ∧ w.cell? ⟨g, 2, none⟩ = some (.slice B m d) ∧ w.cell? ⟨g, 3, none⟩ = some (.int .i64 X) ∧ w.cell? ⟨g, 4, none⟩ = some (.int .i64 Y)
/-- A scene, as a value. -/
abbrev scV (W : Int) (A : Option Addr) (n c : Nat) (B : Option Addr) (m d : Nat) (X Y : Int) (S : Option Addr) (k e : Nat) : Value := .agg #[.int .i64 W, .slice A n c, .slice B m d, .int .i64 X, .int .i64 Y, .slice S k e]
/-- The head of block g holds a scene. -/
def SB (w : World) (g : Nat) (W : Int) (A : Option Addr) (n c : Nat) (B : Option Addr) (m d : Nat) (X Y : Int) (S : Option Addr) (k e : Nat) : Prop :=
  FC w g W A n c B m d X Y ∧ w.cell? ⟨g, 5, none⟩ = some (.slice S k e)
/-- Block g is just that of a scene (t: the type that it bears). -/
def SH (w : World) (g : Nat) (t : TypeId) (W : Int) (A : Option Addr) (n c : Nat) (B : Option Addr) (m d : Nat) (X Y : Int) (S : Option Addr) (k e : Nat) : Prop :=
  w.heap[g]? = some (.cells #[.int .i64 W, .slice A n c, .slice B m d, .int .i64 X, .int .i64 Y, .slice S k e] t (0, 0))
section
variable {w w' : World} {g : Nat} {t : TypeId} {W X Y : Int} {A B S : Option Addr} {n c m d k e : Nat}
theorem FC.cells (h : FC w g W A n c B m d X Y) : w.cell? ⟨g, 0, none⟩ = some (.int .i64 W) ∧ w.cell? ⟨g, 1, none⟩ = some (.slice A n c) ∧ w.cell? ⟨g, 2, none⟩ = some (.slice B m d) ∧ w.cell? ⟨g, 3, none⟩ = some (.int .i64 X) ∧ w.cell? ⟨g, 4, none⟩ = some (.int .i64 Y) := h
theorem FC.keep (hk : ∀ o, w'.cell? ⟨g, o, none⟩ = w.cell? ⟨g, o, none⟩) (h : FC w g W A n c B m d X Y) : FC w' g W A n c B m d X Y :=
  ⟨(hk 0).trans h.1, (hk 1).trans h.2.1, (hk 2).trans h.2.2.1, (hk 3).trans h.2.2.2.1, (hk 4).trans h.2.2.2.2⟩
theorem FC.below {K : Nat} (hb : Below K w w') (h : FC w g W A n c B m d X Y) (hg : g < K) : FC w' g W A n c B m d X Y := h.keep fun o => hb.cell (p := ⟨g, o, none⟩) hg
theorem SB.keep (hk : ∀ o, w'.cell? ⟨g, o, none⟩ = w.cell? ⟨g, o, none⟩) (h : SB w g W A n c B m d X Y S k e) : SB w' g W A n c B m d X Y S k e := ⟨h.1.keep hk, (hk 5).trans h.2⟩
theorem SB.below {K : Nat} (hb : Below K w w') (h : SB w g W A n c B m d X Y S k e) (hg : g < K) : SB w' g W A n c B m d X Y S k e := h.keep fun o => hb.cell (p := ⟨g, o, none⟩) hg
theorem SB.drew (h : SB w g W A n c B m d X Y S k e) : SB w.drew g W A n c B m d X Y S k e := h
theorem FC.drew (h : FC w g W A n c B m d X Y) : FC w.drew g W A n c B m d X Y := h
theorem FC.lt (h : FC w g W A n c B m d X Y) : g < w.heap.size := block_lt_of_cell (a := ⟨g, 0, none⟩) h.1
theorem FC.alloc (h : FC w g W A n c B m d X Y) (o : Obj) : FC (w.alloc o) g W A n c B m d X Y := h.keep fun q => World.cell?_alloc_lt w o ⟨g, q, none⟩ h.lt
theorem SB.alloc (h : SB w g W A n c B m d X Y S k e) (o : Obj) : SB (w.alloc o) g W A n c B m d X Y S k e := h.keep fun q => World.cell?_alloc_lt w o ⟨g, q, none⟩ h.1.lt
theorem SB.far (h : SB w g W A n c B m d X Y S k e) {a : Addr} (ha : g ≠ a.block) (v : Value) : SB (w.setCell a v) g W A n c B m d X Y S k e := h.keep fun q => World.cell?_of_block (a := ⟨g, q, none⟩) (Below.heap_setCell w a v g ha)
theorem SB.lt (h : SB w g W A n c B m d X Y S k e) : g < w.heap.size := h.1.lt
theorem SB.cells (h : SB w g W A n c B m d X Y S k e) : w.cell? ⟨g, 0, none⟩ = some (.int .i64 W) ∧ w.cell? ⟨g, 1, none⟩ = some (.slice A n c) ∧ w.cell? ⟨g, 2, none⟩ = some (.slice B m d) ∧ w.cell? ⟨g, 3, none⟩ = some (.int .i64 X) ∧ w.cell? ⟨g, 4, none⟩ = some (.int .i64 Y) ∧ w.cell? ⟨g, 5, none⟩ = some (.slice S k e) :=
  ⟨h.1.1, h.1.2.1, h.1.2.2.1, h.1.2.2.2.1, h.1.2.2.2.2, h.2⟩
theorem SH.new (w : World) (t : TypeId) (W : Int) (A : Option Addr) (n c : Nat) (B : Option Addr) (m d : Nat) (X Y : Int) (S : Option Addr) (k e : Nat) : SH (w.alloc (.cells #[.int .i64 W, .slice A n c, .slice B m d, .int .i64 X, .int .i64 Y, .slice S k e] t)) w.heap.size t W A n c B m d X Y S k e := heap_alloc_new w _
theorem SH.lt (h : SH w g t W A n c B m d X Y S k e) : g < w.heap.size := by
  rcases Nat.lt_or_ge g w.heap.size with hlt | hge
  · exact hlt
  · unfold SH at h; rw [Array.getElem?_eq_none hge] at h; cases h
theorem SH.drew (h : SH w g t W A n c B m d X Y S k e) : SH w.drew g t W A n c B m d X Y S k e := h
theorem SH.below {K : Nat} (hb : Below K w w') (h : SH w g t W A n c B m d X Y S k e) (hg : g < K) : SH w' g t W A n c B m d X Y S k e := (hb.block g hg).trans h
theorem SH.only {R : Nat} (hb : Only R w w') (h : SH w g t W A n c B m d X Y S k e) (hg : g ≠ R) : SH w' g t W A n c B m d X Y S k e := (hb.block g h.lt (by intro e; injection e; omega)).trans h
theorem SH.alloc (h : SH w g t W A n c B m d X Y S k e) (o : Obj) : SH (w.alloc o) g t W A n c B m d X Y S k e := (Below.heap_alloc w o g h.lt).trans h
theorem SH.far (h : SH w g t W A n c B m d X Y S k e) {a : Addr} (ha : g ≠ a.block) (v : Value) : SH (w.setCell a v) g t W A n c B m d X Y S k e := (Below.heap_setCell w a v g ha).trans h
theorem SH.sb (h : SH w g t W A n c B m d X Y S k e) : SB w g W A n c B m d X Y S k e := by
  unfold SH at h
  unfold SB FC
  simp [World.cell?, h]
theorem SH.free (h : SH w g t W A n c B m d X Y S k e) : w.frozen? ⟨g, 0, none⟩ = false ∧ w.frozen? ⟨g, 1, none⟩ = false ∧ w.frozen? ⟨g, 2, none⟩ = false ∧ w.frozen? ⟨g, 3, none⟩ = false ∧ w.frozen? ⟨g, 4, none⟩ = false ∧ w.frozen? ⟨g, 5, none⟩ = false := by
  unfold SH at h
  simp [World.frozen?, h]
theorem SB.new (w : World) (t : TypeId) (W : Int) (A : Option Addr) (n c : Nat) (B : Option Addr) (m d : Nat) (X Y : Int) (S : Option Addr) (k e : Nat) : SB (w.alloc (.cells #[.int .i64 W, .slice A n c, .slice B m d, .int .i64 X, .int .i64 Y, .slice S k e] t)) w.heap.size W A n c B m d X Y S k e := (SH.new w t W A n c B m d X Y S k e).sb
end
/-- Is the scene valid? -/
def scd (W : Int) (n m : Nat) (X Y : Int) (p : Nat → Int) (q : Nat → Nat → Int) (k : Nat) (s : Nat → Spr) : Bool := fvd W n m X Y p q && svd k m s q

set_option maxHeartbeats 1000000 in
theorem isc_c (W : Int) (A : Option Addr) (n c : Nat) (B : Option Addr) (m d : Nat) (X Y : Int) (S : Option Addr) (k e : Nat) (p : Nat → Int) (q : Nat → Nat → Int) (s : Nat → Spr) (v : Bool) (hv : scd W n m X Y p q k s = v) (w : World) {C C' C2 : Nat}
    (h : RS w C 1 A n (iv p)) (h' : RS w C' 64 B m (tc q)) (h2 : RS w C2 6 S k (sc s)) (hC : C ≤ w.heap.size) (hC' : C' ≤ w.heap.size) (hC2 : C2 ≤ w.heap.size) (hn : n ≤ 1048576) (hm : m ≤ 1048576) (hk : k ≤ 1048576) :
    Calls Try.prog 22 #[scV W A n c B m d X Y S k e] w fun e w' => e = .returned (.bool v) ∧ Below w.heap.size w w' := by
  have H := Lib.hid h
  have H' := Lib.hid h'
  have H2 := Lib.hid h2
  clear h h' h2
  cases hf : fvd W n m X Y p q
  · have hv' : false = v := by rw [← hv]; unfold scd; rw [hf]; rfl
    have HF := Lib.hid hf
    subst hv'
    clear hf hv
    go_enter Try.func22, Try.ntmps22
    go_wp2_with (first | (go_at_call 23; (refine (ifv_c _ _ _ _ _ _ _ _ _ p q _ HF.out _ (C := C) (C' := C') (H.out.alloc hC _) (H'.out.alloc hC' _) (by ((try simp only [World.size_alloc, World.size_setCell, World.size_drew]) <;> omega)) (by ((try simp only [World.size_alloc, World.size_setCell, World.size_drew]) <;> omega)) hn hm).mono ?_; rintro e w1 ⟨rfl, hO_w1⟩; have hz_w1 := hO_w1.size; (try simp only [World.size_alloc, World.size_setCell, World.size_drew] at hz_w1); have hs_w1_0 : w.heap.size < w1.heap.size := (by omega); have c_w1_0 := fun o => (bcell hO_w1).1 (w.heap.size) o (by (try simp only [World.size_alloc, World.size_setCell, World.size_drew]) <;> omega); have f_w1_0 := fun o => (bcell hO_w1).2 (w.heap.size) o (by (try simp only [World.size_alloc, World.size_setCell, World.size_drew]) <;> omega))))
    go_ret
    refine ⟨rfl, ?_⟩
    (repeat (first | with_reducible exact Below.refl _ _ | ((with_reducible refine viaO (by assumption) ?_ ?_ ?_) <;> try ((try simp only [World.size_alloc, World.size_setCell, World.size_drew]) <;> omega)) | ((with_reducible refine Below.alloc ?_ ?_ _) <;> try ((try simp only [World.size_alloc, World.size_setCell, World.size_drew]) <;> omega)) | ((with_reducible refine Below.setCell ?_ ?_ _) <;> try ((try simp only [World.size_alloc, World.size_setCell, World.size_drew]) <;> omega)) | (with_reducible refine below_drewN ?_ _) | (with_reducible refine Below.drew ?_) | ((with_reducible refine via (by assumption) ?_ ?_) <;> try ((try simp only [World.size_alloc, World.size_setCell, World.size_drew]) <;> omega))))
  · have hv' : svd k m s q = v := by rw [← hv]; unfold scd; rw [hf]; rfl
    have HF := Lib.hid hf
    have HV := Lib.hid hv'
    clear hf hv hv'
    go_enter Try.func22, Try.ntmps22
    go_wp2_with (first | (go_at_call 23; (refine (ifv_c _ _ _ _ _ _ _ _ _ p q _ HF.out _ (C := C) (C' := C') (H.out.alloc hC _) (H'.out.alloc hC' _) (by ((try simp only [World.size_alloc, World.size_setCell, World.size_drew]) <;> omega)) (by ((try simp only [World.size_alloc, World.size_setCell, World.size_drew]) <;> omega)) hn hm).mono ?_; rintro e w1 ⟨rfl, hO_w1⟩; have hz_w1 := hO_w1.size; (try simp only [World.size_alloc, World.size_setCell, World.size_drew] at hz_w1); have hs_w1_0 : w.heap.size < w1.heap.size := (by omega); have c_w1_0 := fun o => (bcell hO_w1).1 (w.heap.size) o (by (try simp only [World.size_alloc, World.size_setCell, World.size_drew]) <;> omega); have f_w1_0 := fun o => (bcell hO_w1).2 (w.heap.size) o (by (try simp only [World.size_alloc, World.size_setCell, World.size_drew]) <;> omega))) | (go_at_call 44; (refine (isv_c _ _ _ _ _ _ s q _ HV.out _ (C := C2) (C' := C') (RS.below hO_w1 (H2.out.alloc hC2 _) (by ((try simp only [World.size_alloc, World.size_setCell, World.size_drew]) <;> omega))) (RS.below hO_w1 (H'.out.alloc hC' _) (by ((try simp only [World.size_alloc, World.size_setCell, World.size_drew]) <;> omega))) (by ((try simp only [World.size_alloc, World.size_setCell, World.size_drew]) <;> omega)) (by ((try simp only [World.size_alloc, World.size_setCell, World.size_drew]) <;> omega)) hk hm).mono ?_; rintro e w2 ⟨rfl, hO_w2⟩; have hz_w2 := hO_w2.size; (try simp only [World.size_alloc, World.size_setCell, World.size_drew] at hz_w2))))
    go_ret
    refine ⟨rfl, ?_⟩
    (repeat (first | with_reducible exact Below.refl _ _ | ((with_reducible refine viaO (by assumption) ?_ ?_ ?_) <;> try ((try simp only [World.size_alloc, World.size_setCell, World.size_drew]) <;> omega)) | ((with_reducible refine Below.alloc ?_ ?_ _) <;> try ((try simp only [World.size_alloc, World.size_setCell, World.size_drew]) <;> omega)) | ((with_reducible refine Below.setCell ?_ ?_ _) <;> try ((try simp only [World.size_alloc, World.size_setCell, World.size_drew]) <;> omega)) | (with_reducible refine below_drewN ?_ _) | (with_reducible refine Below.drew ?_) | ((with_reducible refine via (by assumption) ?_ ?_) <;> try ((try simp only [World.size_alloc, World.size_setCell, World.size_drew]) <;> omega))))

set_option maxHeartbeats 1000000 in
theorem ssc_c (W : Int) (A : Option Addr) (n c : Nat) (B : Option Addr) (m d : Nat) (X Y : Int) (S : Option Addr) (k e : Nat) (p : Nat → Int) (q : Nat → Nat → Int) (s : Nat → Spr) (v : Bool) (hv : scd W n m X Y p q k s = v) (w : World) {C C' C2 : Nat}
    (h : RS w C 1 A n (iv p)) (h' : RS w C' 64 B m (tc q)) (h2 : RS w C2 6 S k (sc s)) (hC : C ≤ w.heap.size) (hC' : C' ≤ w.heap.size) (hC2 : C2 ≤ w.heap.size) (hn : n ≤ 1048576) (hm : m ≤ 1048576) (hk : k ≤ 1048576) :
    Calls Try.prog 10 #[scV W A n c B m d X Y S k e] w fun e w' => e = .returned (.bool v) ∧ Below w.heap.size w w' := by
  have H := Lib.hid h
  have H' := Lib.hid h'
  have H2 := Lib.hid h2
  clear h h' h2
  cases hf : fvd W n m X Y p q
  · have hv' : false = v := by rw [← hv]; unfold scd; rw [hf]; rfl
    have HF := Lib.hid hf
    subst hv'
    clear hf hv
    go_enter Try.func10, Try.ntmps10
    go_wp2_with (first | (go_at_call 33; (refine (sfv_c _ _ _ _ _ _ _ _ _ p q _ HF.out _ (C := C) (C' := C') (H.out.alloc hC _) (H'.out.alloc hC' _) (by ((try simp only [World.size_alloc, World.size_setCell, World.size_drew]) <;> omega)) (by ((try simp only [World.size_alloc, World.size_setCell, World.size_drew]) <;> omega)) hn hm).mono ?_; rintro e w1 ⟨rfl, hO_w1⟩; have hz_w1 := hO_w1.size; (try simp only [World.size_alloc, World.size_setCell, World.size_drew] at hz_w1); have hs_w1_0 : w.heap.size < w1.heap.size := (by omega); have c_w1_0 := fun o => (bcell hO_w1).1 (w.heap.size) o (by (try simp only [World.size_alloc, World.size_setCell, World.size_drew]) <;> omega); have f_w1_0 := fun o => (bcell hO_w1).2 (w.heap.size) o (by (try simp only [World.size_alloc, World.size_setCell, World.size_drew]) <;> omega))))
    go_ret
    refine ⟨rfl, ?_⟩
    (repeat (first | with_reducible exact Below.refl _ _ | ((with_reducible refine viaO (by assumption) ?_ ?_ ?_) <;> try ((try simp only [World.size_alloc, World.size_setCell, World.size_drew]) <;> omega)) | ((with_reducible refine Below.alloc ?_ ?_ _) <;> try ((try simp only [World.size_alloc, World.size_setCell, World.size_drew]) <;> omega)) | ((with_reducible refine Below.setCell ?_ ?_ _) <;> try ((try simp only [World.size_alloc, World.size_setCell, World.size_drew]) <;> omega)) | (with_reducible refine below_drewN ?_ _) | (with_reducible refine Below.drew ?_) | ((with_reducible refine via (by assumption) ?_ ?_) <;> try ((try simp only [World.size_alloc, World.size_setCell, World.size_drew]) <;> omega))))
  · have hv' : svd k m s q = v := by rw [← hv]; unfold scd; rw [hf]; rfl
    have HF := Lib.hid hf
    have HV := Lib.hid hv'
    clear hf hv hv'
    go_enter Try.func10, Try.ntmps10
    go_wp2_with (first | (go_at_call 33; (refine (sfv_c _ _ _ _ _ _ _ _ _ p q _ HF.out _ (C := C) (C' := C') (H.out.alloc hC _) (H'.out.alloc hC' _) (by ((try simp only [World.size_alloc, World.size_setCell, World.size_drew]) <;> omega)) (by ((try simp only [World.size_alloc, World.size_setCell, World.size_drew]) <;> omega)) hn hm).mono ?_; rintro e w1 ⟨rfl, hO_w1⟩; have hz_w1 := hO_w1.size; (try simp only [World.size_alloc, World.size_setCell, World.size_drew] at hz_w1); have hs_w1_0 : w.heap.size < w1.heap.size := (by omega); have c_w1_0 := fun o => (bcell hO_w1).1 (w.heap.size) o (by (try simp only [World.size_alloc, World.size_setCell, World.size_drew]) <;> omega); have f_w1_0 := fun o => (bcell hO_w1).2 (w.heap.size) o (by (try simp only [World.size_alloc, World.size_setCell, World.size_drew]) <;> omega))) | (go_at_call 34; (refine (ssv_c _ _ _ _ _ _ s q _ HV.out _ (C := C2) (C' := C') (RS.below hO_w1 (H2.out.alloc hC2 _) (by ((try simp only [World.size_alloc, World.size_setCell, World.size_drew]) <;> omega))) (RS.below hO_w1 (H'.out.alloc hC' _) (by ((try simp only [World.size_alloc, World.size_setCell, World.size_drew]) <;> omega))) (by ((try simp only [World.size_alloc, World.size_setCell, World.size_drew]) <;> omega)) (by ((try simp only [World.size_alloc, World.size_setCell, World.size_drew]) <;> omega)) hk hm).mono ?_; rintro e w2 ⟨rfl, hO_w2⟩; have hz_w2 := hO_w2.size; (try simp only [World.size_alloc, World.size_setCell, World.size_drew] at hz_w2))))
    go_ret
    refine ⟨rfl, ?_⟩
    (repeat (first | with_reducible exact Below.refl _ _ | ((with_reducible refine viaO (by assumption) ?_ ?_ ?_) <;> try ((try simp only [World.size_alloc, World.size_setCell, World.size_drew]) <;> omega)) | ((with_reducible refine Below.alloc ?_ ?_ _) <;> try ((try simp only [World.size_alloc, World.size_setCell, World.size_drew]) <;> omega)) | ((with_reducible refine Below.setCell ?_ ?_ _) <;> try ((try simp only [World.size_alloc, World.size_setCell, World.size_drew]) <;> omega)) | (with_reducible refine below_drewN ?_ _) | (with_reducible refine Below.drew ?_) | ((with_reducible refine via (by assumption) ?_ ?_) <;> try ((try simp only [World.size_alloc, World.size_setCell, World.size_drew]) <;> omega))))

end Go.Proofs.Ytabioinmpjfflaa
