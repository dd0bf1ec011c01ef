/-
  The reader of a code: its contracts: opened, it reads the code; pick returns a number in 0..n-1; odd a bool; only the reader's own cell is written. Conditions: the number of picks so far is below 2000000.
-/
import Derived.Test.YtabioinmpjfflaaBase
namespace Go.Proofs.Ytabioinmpjfflaa
set_option linter.all false
set_option linter.unusedSimpArgs false
set_option linter.unusedVariables false
set_option maxRecDepth 20000
open Go.ChangeShapes Go.WideShapes Go.ChangeAt Go.RowKit

/-- A code that came in: a slice of bytes. -/
def Code (w : World) (a : Option Addr) (len : Nat) : Prop := len ≤ maxLen ∧ (len = 0 ∨ ∃ b off, a = some ⟨b, off, none⟩ ∧ b < w.heap.size ∧ ∀ i, i < len → ∃ u : Nat, u < 256 ∧ w.cell? ⟨b, off + i, none⟩ = some (.int .u8 u))

theorem Code.keep {w w' : World} {a : Option Addr} {len : Nat} (h : Code w a len) (hb : Below w.heap.size w w') : Code w' a len := by
  obtain ⟨hl, h⟩ := h
  refine ⟨hl, ?_⟩
  rcases h with h | ⟨b, off, rfl, hlt, hc⟩
  · exact .inl h
  · refine .inr ⟨b, off, rfl, Nat.lt_of_lt_of_le hlt hb.size, fun i hi => ?_⟩
    obtain ⟨u, hu, hcell⟩ := hc i hi
    exact ⟨u, hu, (hb.cell (p := ⟨b, off + i, none⟩) hlt).trans hcell⟩

/-- Block R is a reader, at most k picks in. -/
def Rd (w : World) (R : Nat) (k : Int) : Prop := ∃ (a : Option Addr) (len cap : Nat) (p : Int), w.heap[R]? = some (.cells #[.slice a len cap, .int .i64 p] 86 (0, 0)) ∧ 0 ≤ p ∧ p ≤ k ∧ len ≤ 2000 ∧
  (len = 0 ∨ ∃ b off, a = some ⟨b, off, none⟩ ∧ b < R ∧ ∀ i, i < len → ∃ u : Nat, u < 256 ∧ w.cell? ⟨b, off + i, none⟩ = some (.int .u8 u))

theorem Rd.lt {w : World} {R : Nat} {k : Int} (h : Rd w R k) : R < w.heap.size := by
  obtain ⟨_, _, _, _, hh, _⟩ := h
  rcases Nat.lt_or_ge R w.heap.size with hlt | hge
  · exact hlt
  · rw [Array.getElem?_eq_none hge] at hh; cases hh
theorem Rd.more {w : World} {R : Nat} {k k' : Int} (h : Rd w R k) (hk : k ≤ k') : Rd w R k' := by
  obtain ⟨a, len, cap, p, h1, h2, h3, h4, h5⟩ := h
  exact ⟨a, len, cap, p, h1, h2, by omega, h4, h5⟩
/-- What turns neither the reader nor what was there before it keeps it. -/
theorem Rd.keep {w w' : World} {R : Nat} {k : Int} (h : Rd w R k) (hb : ∀ i, i ≤ R → w'.heap[i]? = w.heap[i]?) : Rd w' R k := by
  obtain ⟨a, len, cap, p, h1, h2, h3, h4, h5⟩ := h
  refine ⟨a, len, cap, p, (hb R (Nat.le_refl _)).trans h1, h2, h3, h4, ?_⟩
  rcases h5 with h5 | ⟨b, off, rfl, hlt, hc⟩
  · exact .inl h5
  · refine .inr ⟨b, off, rfl, hlt, fun i hi => ?_⟩
    obtain ⟨u, hu, hcell⟩ := hc i hi
    exact ⟨u, hu, (World.cell?_of_block (w := w) (hb b (by omega))).trans hcell⟩
theorem Rd.below {w w' : World} {R B : Nat} {k : Int} (h : Rd w R k) (hb : Below B w w') (hB : R < B) : Rd w' R k := h.keep fun i hi => hb.block i (by omega)
theorem Rd.alloc {w : World} {R : Nat} {k : Int} (h : Rd w R k) (o : Obj) : Rd (w.alloc o) R k := h.keep fun i hi => Below.heap_alloc w o i (by have := h.lt; omega)
theorem Rd.setCell {w : World} {R : Nat} {k : Int} (h : Rd w R k) {p : Addr} (hp : R < p.block) (v : Value) : Rd (w.setCell p v) R k := h.keep fun i hi => Below.heap_setCell w p v i (by omega)
theorem Rd.drew {w : World} {R : Nat} {k : Int} (h : Rd w R k) : Rd w.drew R k := h
theorem Rd.drewN {w : World} {R : Nat} {k : Int} (h : Rd w R k) (n : Nat) : Rd (w.drewN n) R k := h

/-- Only block R has turned, and what is new. -/
def Only (R : Nat) (w w' : World) : Prop := w.grownBy w' (some R)
theorem Only.refl (R : Nat) (w : World) : Only R w w := ⟨rfl, rfl, rfl, Nat.le_refl _, fun _ _ _ => rfl⟩
theorem Only.trans {R : Nat} {a b c : World} (h : Only R a b) (k : Only R b c) : Only R a c :=
  ⟨k.os.trans h.os, k.tape.trans h.tape, k.output.trans h.output, Nat.le_trans h.size k.size, fun i hi hn => (k.block i (Nat.lt_of_lt_of_le hi h.size) hn).trans (h.block i hi hn)⟩
theorem Only.below {R B : Nat} {a w : World} (h : Only R a w) (hB : B ≤ R) (hs : B ≤ a.heap.size) : Below B a w :=
  ⟨h.os, h.tape, h.output, h.size, fun i hi => h.block i (by omega) (by intro e; injection e; omega)⟩
theorem viaO {R B : Nat} {a b c : World} (k : Only R b c) (h : Below B a b) (hR : B ≤ R) (hs : B ≤ b.heap.size) : Below B a c := h.trans (k.below hR hs)
theorem Only.of_below {R : Nat} {a w : World} (h : Below a.heap.size a w) : Only R a w := ⟨h.os, h.tape, h.output, h.size, fun i hi _ => h.block i hi⟩
theorem Only.alloc {R : Nat} {a w : World} (h : Only R a w) (o : Obj) : Only R a (w.alloc o) :=
  h.trans ⟨rfl, rfl, rfl, by simp, fun i hi _ => Below.heap_alloc _ _ _ hi⟩
theorem Only.drew {R : Nat} {a w : World} (h : Only R a w) : Only R a w.drew := ⟨h.os, h.tape, h.output, h.size, h.block⟩
theorem Only.drewN {R : Nat} {a w : World} (h : Only R a w) (n : Nat) : Only R a (w.drewN n) := ⟨h.os, h.tape, h.output, h.size, h.block⟩
theorem Only.setCell {R : Nat} {a w : World} (h : Only R a w) {p : Addr} (hp : p.block = R ∨ a.heap.size ≤ p.block) (v : Value) : Only R a (w.setCell p v) :=
  ⟨h.os, h.tape, h.output, by simpa using h.size, fun i hi hn => (Below.heap_setCell w p v i (by
    rintro rfl
    rcases hp with hp | hp
    · exact hn (by rw [hp])
    · omega)).trans (h.block i hi hn)⟩
theorem Only.cells {R : Nat} {w w1 : World} (hb : Only R w w1) : (∀ b o, b < w.heap.size → b ≠ R → w1.cell? ⟨b, o, none⟩ = w.cell? ⟨b, o, none⟩) ∧ (∀ b o, b < w.heap.size → b ≠ R → w1.frozen? ⟨b, o, none⟩ = w.frozen? ⟨b, o, none⟩) :=
  ⟨fun b o h hn => World.cell?_of_block (w := w) (a := ⟨b, o, none⟩) (hb.block b h (by intro e; injection e; omega)), fun b o h hn => World.frozen?_of_block (w := w) (a := ⟨b, o, none⟩) (hb.block b h (by intro e; injection e; omega))⟩

/-- The post of a pick. -/
def Picked (R : Nat) (k n : Int) (w : World) (e : Ending) (w' : World) : Prop := ∃ v : Nat, ((v : Int) < n ∨ v = 0) ∧ e = .returned (.int .i64 v) ∧ Only R w w' ∧ Rd w' R (k + 1)
theorem picked_mk {R : Nat} {k n v : Int} {w w' : World} (h0 : 0 ≤ v) (h1 : v < n ∨ v = 0) (hO : Only R w w') (hR : Rd w' R (k + 1)) : Picked R k n w (.returned (.int .i64 v)) w' := by
  obtain ⟨m, rfl⟩ := Int.eq_ofNat_of_zero_le h0
  exact ⟨m, by omega, rfl, hO, hR⟩
/-- A list of numbers that was laid just ahead of the call: the one that is picked. -/
theorem Only.int_new {R : Nat} {w w3 : World} {cs : Array Value} {T m : Nat} {lo hi : Int} (hO : Only R (w.alloc (.cells cs T)) w3) (hR : R ≠ w.heap.size) (hm : m < cs.size)
    (hall : ∀ v ∈ cs.toList, ∃ x : Int, v = .int .i64 x ∧ lo ≤ x ∧ x ≤ hi) : ∃ x : Int, w3.cell? ⟨w.heap.size, m, none⟩ = some (.int .i64 x) ∧ lo ≤ x ∧ x ≤ hi := by
  have hh := (hO.block w.heap.size (by simp) (by intro e; injection e; omega)).trans (heap_alloc_new w _)
  obtain ⟨x, hx, h1, h2⟩ := hall cs[m] (by simp)
  refine ⟨x, ?_, h1, h2⟩
  rw [cell_of_row w3 w.heap.size m cs T _ hh, Array.getElem?_eq_getElem hm, hx]

theorem rd_step {w : World} {R len cap : Nat} {a : Option Addr} {p k : Int} (hh : w.heap[R]? = some (.cells #[.slice a len cap, .int .i64 p] 86 (0, 0))) (h0 : 0 ≤ p) (hp : p ≤ k) (hl : len ≤ 2000)
    (hr : len = 0 ∨ ∃ b off, a = some ⟨b, off, none⟩ ∧ b < R ∧ ∀ i, i < len → ∃ u : Nat, u < 256 ∧ w.cell? ⟨b, off + i, none⟩ = some (.int .u8 u)) :
    Only R w (w.setCell ⟨R, 1, none⟩ (.int .i64 (p + 1))) ∧ Rd (w.setCell ⟨R, 1, none⟩ (.int .i64 (p + 1))) R (k + 1) := by
  refine ⟨(Only.refl _ _).setCell (.inl rfl) _, a, len, cap, p + 1, ?_, by omega, by omega, hl, ?_⟩
  · simp [World.setCell, Array.getElem?_modify, hh]
  · rcases hr with hr | ⟨b, off, rfl, hlt, hc⟩
    · exact .inl hr
    · refine .inr ⟨b, off, rfl, hlt, fun i hi => ?_⟩
      obtain ⟨u, hu, hcell⟩ := hc i hi
      exact ⟨u, hu, (World.cell?_of_block (w := w) (Below.heap_setCell w ⟨R, 1, none⟩ _ b (by show b ≠ R; omega))).trans hcell⟩

theorem xor_range (x : Int) (h0 : 0 ≤ x) (h1 : x ≤ 4611686018427387904) : 0 ≤ bits .xor .i64 x (x / 64) ∧ bits .xor .i64 x (x / 64) ≤ 9223372036854775807 := by
  obtain ⟨n, rfl⟩ := Int.eq_ofNat_of_zero_le h0
  have e : ((n : Int) / 64) = ((n / 64 : Nat) : Int) := by omega
  rw [e]
  have ha : n < 9223372036854775808 := by omega
  have hb : n / 64 < 9223372036854775808 := by omega
  have ofI : ∀ a : Nat, a < 9223372036854775808 → (BitVec.ofInt 64 (a : Int)).toNat = a := fun a ha => by
    rw [BitVec.ofInt_natCast, BitVec.toNat_ofNat]; exact Nat.mod_eq_of_lt (by omega)
  have hx : n ^^^ (n / 64) < 2 ^ 63 := Nat.xor_lt_two_pow (by omega) (by omega)
  have he : bits .xor .i64 (n : Int) ((n / 64 : Nat) : Int) = ((n ^^^ (n / 64) : Nat) : Int) := by
    show IntKind.i64.wrap ((BitVec.ofInt 64 (n : Int) ^^^ BitVec.ofInt 64 ((n / 64 : Nat) : Int)).toNat : Int) = _
    rw [BitVec.toNat_xor, ofI n ha, ofI (n / 64) hb, IntKind.wrap_i64]
    omega
  rw [he]
  omega

set_option maxHeartbeats 1000000 in
theorem pick_c (R : Nat) (n k : Int) (w : World) (hR : Rd w R k) (hk : k ≤ 2000000) (hn : n ≤ 1000000) (hn0 : -1000000 ≤ n) :
    Calls Try.prog 32 #[.pointer (some ⟨R, 0, none⟩), .int .i64 n] w (Picked R k n w) := by
  obtain ⟨a, len, cap, p, hh, h0, hp, hl, hr⟩ := hR
  obtain ⟨hO, hR'⟩ := rd_step hh h0 hp hl hr
  have HO := Lib.hid hO
  have HR := Lib.hid hR'
  have c0 : w.cell? ⟨R, 0, none⟩ = some (.slice a len cap) := by simp [World.cell?, hh]
  have c1 : w.cell? ⟨R, 1, none⟩ = some (.int .i64 p) := by simp [World.cell?, hh]
  have f1 : w.frozen? ⟨R, 1, none⟩ = false := by simp [World.frozen?, hh]
  clear hO hR'
  have Hh := Lib.hid hh
  clear hh
  by_cases hn1 : n < 1
  · clear hr
    go_enter Try.func32, Try.ntmps32
    go_wp2
    go_ret
    exact picked_mk (by omega) (.inr rfl) HO.out HR.out
  rcases hr with hr | ⟨b, off, rfl, hlt, hc⟩
  · subst hr
    go_enter Try.func32, Try.ntmps32
    go_wp2
    go_ret
    exact picked_mk (by omega) (.inr rfl) HO.out HR.out
  by_cases hz : len = 0
  · subst hz
    clear hc
    go_enter Try.func32, Try.ntmps32
    go_wp2
    go_ret
    exact picked_mk (by omega) (.inr rfl) HO.out HR.out
  have hzb : ((len : Int) == 0) = false := by simp; omega
  have hl1 : 1 ≤ len := by omega
  obtain ⟨q, rfl⟩ := Int.eq_ofNat_of_zero_le h0
  have Hc := Lib.hid hc
  clear hc
  by_cases hq : q < len
  · obtain ⟨u, hu, hcell⟩ := Hc.out q hq
    go_enter Try.func32, Try.ntmps32
    go_wp2
    go_ret
    exact picked_mk (Int.emod_nonneg _ (by omega)) (.inl (Int.emod_lt_of_pos _ (by omega))) HO.out HR.out
  · obtain ⟨u, hu, hcell⟩ := Hc.out (q % len) (Nat.mod_lt _ (by omega))
    obtain ⟨u', hu', hcell'⟩ := Hc.out ((q * 7 + 3) % len) (Nat.mod_lt _ (by omega))
    go_enter Try.func32, Try.ntmps32
    go_wp2
    have m1 : (0 : Int) ≤ (q : Int) % (len : Int) := Int.emod_nonneg _ (by omega)
    have m2 : (q : Int) % (len : Int) < (len : Int) := Int.emod_lt_of_pos _ (by omega)
    have m3 : (0 : Int) ≤ ((q : Int) * 7 + 3) % (len : Int) := Int.emod_nonneg _ (by omega)
    have m4 : ((q : Int) * 7 + 3) % (len : Int) < (len : Int) := Int.emod_lt_of_pos _ (by omega)
    have m5 : (0 : Int) ≤ (q : Int) / (len : Int) := Int.ediv_nonneg (by omega) (by omega)
    have m6 : (q : Int) / (len : Int) ≤ (q : Int) := Int.ediv_le_self _ (by omega)
    go_quiet (fail)
    go_wp2
    go_ret
    have hx := xor_range ((u : Int) * 131 + (u' : Int) * 1117 + (q : Int) * 29 + (q : Int) / (len : Int) * 53) (by omega) (by omega)
    exact picked_mk (Int.tmod_nonneg _ hx.1) (.inl (Int.tmod_lt_of_pos _ (by omega))) (HO.out.drewN _) (HR.out.drewN _)

/-- The post of odd. -/
def Odd (R : Nat) (k : Int) (w : World) (e : Ending) (w' : World) : Prop := ∃ b : Bool, e = .returned (.bool b) ∧ Only R w w' ∧ Rd w' R (k + 1)
theorem odd_c (R : Nat) (n k : Int) (w : World) (hR : Rd w R k) (hk : k ≤ 2000000) (hn : n ≤ 1000000) (hn0 : -1000000 ≤ n) :
    Calls Try.prog 62 #[.pointer (some ⟨R, 0, none⟩), .int .i64 n] w (Odd R k w) := by
  by_cases h : 0 < n
  · go_enter Try.func62, Try.ntmps62
    go_wp2_with (go_at_call 32; refine (pick_c _ _ _ _ hR hk hn hn0).mono ?_; rintro e w1 ⟨v, hv, rfl, hO, hR1⟩)
    go_ret
    exact ⟨_, rfl, hO, hR1⟩
  · have h' : decide (0 < n) = false := by simpa using h
    go_enter Try.func62, Try.ntmps62
    go_wp2
    go_ret
    exact ⟨_, rfl, Only.refl _ _, hR.more (by omega)⟩

def Opened (w : World) (e : Ending) (w' : World) : Prop := ∃ R : Nat, e = .returned (.pointer (some ⟨R, 0, none⟩)) ∧ w.heap.size ≤ R ∧ Below w.heap.size w w' ∧ Rd w' R 0
theorem open_c (a : Option Addr) (len cap : Nat) (w : World) (hc : Code w a len) (hl : len ≤ cap) : Calls Try.prog 30 #[.slice a len cap] w (Opened w) := by
  obtain ⟨hm, hr⟩ := hc
  unfold maxLen at hm
  have fin : ∀ (l c : Nat), l ≤ 2000 → l ≤ len → Opened w (.returned (.pointer (some ⟨w.heap.size, 0, none⟩))) (w.alloc (.cells #[.slice a l c, .int .i64 0] 86)) := fun l c hl1 hl2 => by
    refine ⟨w.heap.size, rfl, Nat.le_refl _, (Below.refl _ _).alloc (Nat.le_refl _) _, a, l, c, 0, heap_alloc_new w _, by omega, by omega, hl1, ?_⟩
    rcases hr with hr | ⟨b, off, rfl, hlt, hcell⟩
    · exact .inl (by omega)
    · refine .inr ⟨b, off, rfl, hlt, fun i hi => ?_⟩
      obtain ⟨u, hu, h⟩ := hcell i (by omega)
      exact ⟨u, hu, (World.cell?_alloc_lt w _ ⟨b, off + i, none⟩ hlt).trans h⟩
  clear hr
  have Fin := Lib.hid fin
  clear fin
  by_cases h : 2000 < len
  · go_enter Try.func30, Try.ntmps30
    go_wp2
    go_ret
    exact Fin.out 2000 _ (by omega) (by omega)
  · go_enter Try.func30, Try.ntmps30
    go_wp2
    go_ret
    exact Fin.out len _ (by omega) (by omega)

end Go.Proofs.Ytabioinmpjfflaa
