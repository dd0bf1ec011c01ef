/-
  What the drawn fields are: lists of numbers and of tiles of the draw's own, at most 100 of each. No conditions.
-/
import Derived.Test.YtabioinmpjfflaaField
import Derived.Test.YtabioinmpjfflaaTileDraw
import Derived.Test.YtabioinmpjfflaaTyped2
import Derived.Deep.DeepCutAuto
import Derived.IntWalk
namespace Go.Proofs.Ytabioinmpjfflaa
set_option linter.all false
set_option linter.unusedSimpArgs false
set_option linter.unusedVariables false
set_option maxRecDepth 20000
open Go.ChangeShapes Go.WideShapes Go.ChangeAt Go.RowKit

section
variable {w w' : World} {g : Nat} {t : TypeId} {W : Int} {A : Option Addr} {n c : Nat} {B : Option Addr} {m d : Nat} {X Y : Int}
theorem FB.notIB {e : TypeId} {N : Nat} (h : FB w g t W A n c B m d X Y) : ¬ IB w g e N := by
  rintro ⟨cur, h1, _, h3⟩
  unfold FB at h
  rw [h] at h1
  injection h1 with h1
  injection h1 with h1
  subst h1
  obtain ⟨x, hx⟩ := h3 (.slice A n c) (by simp)
  cases hx
theorem FB.chg {base : Nat} (hc : Chg base w w') (h : FB w g t W A n c B m d X Y) : FB w' g t W A n c B m d X Y := by
  rcases hc.block g h.lt with e | ⟨_, e, N, hI⟩
  · exact e.trans h
  · exact absurd hI h.notIB
theorem FB.put (h : FB w g t W A n c B m d X Y) (W' : Int) (A' : Option Addr) (n' c' : Nat) (B' : Option Addr) (m' d' : Nat) (X' Y' : Int) :
    FB (((((w.setCell ⟨g, 0, none⟩ (.int .i64 W')).setCell ⟨g, 1, none⟩ (.slice A' n' c')).setCell ⟨g, 2, none⟩ (.slice B' m' d')).setCell ⟨g, 3, none⟩ (.int .i64 X')).setCell ⟨g, 4, none⟩ (.int .i64 Y')) g t W' A' n' c' B' m' d' X' Y' := by
  unfold FB at h ⊢
  simp [World.setCell, Array.getElem?_modify, h]
theorem FB.put0 (h : FB w g t W A n c B m d X Y) (x : Int) : FB (w.setCell ⟨g, 0, none⟩ (.int .i64 x)) g t x A n c B m d X Y := by
  unfold FB at h ⊢
  simp [World.setCell, Array.getElem?_modify, h]
theorem FB.put1 (h : FB w g t W A n c B m d X Y) (A' : Option Addr) (n' c' : Nat) : FB (w.setCell ⟨g, 1, none⟩ (.slice A' n' c')) g t W A' n' c' B m d X Y := by
  unfold FB at h ⊢
  simp [World.setCell, Array.getElem?_modify, h]
theorem FB.put2 (h : FB w g t W A n c B m d X Y) (B' : Option Addr) (m' d' : Nat) : FB (w.setCell ⟨g, 2, none⟩ (.slice B' m' d')) g t W A n c B' m' d' X Y := by
  unfold FB at h ⊢
  simp [World.setCell, Array.getElem?_modify, h]
theorem FB.put3 (h : FB w g t W A n c B m d X Y) (x : Int) : FB (w.setCell ⟨g, 3, none⟩ (.int .i64 x)) g t W A n c B m d x Y := by
  unfold FB at h ⊢
  simp [World.setCell, Array.getElem?_modify, h]
end
/-- A box of the call's own that has no lists yet. -/
def FX (B0 : Nat) (u : World) (g : Nat) : Prop := B0 < g ∧ ∃ W X Y : Int, FB u g 26 W none 0 0 none 0 0 X Y
theorem FX.only {B0 R : Nat} (hR : R ≤ B0) {u u' : World} (b : Nat) (h : FX B0 u b) (hk : ∀ i, i ≠ R → i < u.heap.size → u'.heap[i]? = u.heap[i]?) : FX B0 u' b := by
  obtain ⟨h1, W, X, Y, h2⟩ := h
  exact ⟨h1, W, X, Y, (hk b (by omega) h2.lt).trans h2⟩
theorem FX.alloc {B0 : Nat} {u u' : World} (b : Nat) (h : FX B0 u b) (hk : ∀ i, i < u.heap.size → u'.heap[i]? = u.heap[i]?) : FX B0 u' b := by
  obtain ⟨h1, W, X, Y, h2⟩ := h
  exact ⟨h1, W, X, Y, (hk b h2.lt).trans h2⟩
/-- The empty result at block z. -/
abbrev FBz (u : World) (z : Nat) : Prop := FB u z 26 0 none 0 0 none 0 0 0 0

def kFd (v : Value) : Prop := ∃ W X Y : Int, 1 ≤ W ∧ W ≤ 5 ∧ v = fdV W none 0 0 none 0 0 X Y
def D1 (R : Nat) (k : Int) (w0 : World) (z : Nat) (L : Nat → Bool) (n : Nat) (a : Act) (u : World) : Prop := Rdg R k w0 n u ∧ FBz u z ∧
  (L 19 = true → ∃ (g : Nat) (W X Y : Int), a.tmps.getD 5 undef = .pointer (some ⟨g, 0, none⟩) ∧ z < g ∧ 1 ≤ W ∧ W ≤ 5 ∧ FB u g 26 W none 0 0 none 0 0 X Y)
theorem D1.step {R : Nat} {k : Int} {w0 u u' : World} {z : Nat} {L : Nat → Bool} {n i : Nat} {a : Act} (hL : L 19 = false) (hi : i ≠ 19) (h1 : Rdg R k w0 (n + 1) u') (h2 : FBz u' z) (a' : Act) : D1 R k w0 z (updL L i) (n + 1) a' u' :=
  ⟨h1, h2, fun e => by rw [updL_ne (Ne.symm hi), hL] at e; cases e⟩

def DField (R : Nat) (k : Int) (w : World) (e : Ending) (w' : World) : Prop := ∃ (W : Int) (A : Option Addr) (n c : Nat) (B : Option Addr) (m d : Nat) (X Y : Int),
  e = .returned (fdV W A n c B m d X Y) ∧ IS w' w.heap.size 1 A n ∧ IS w' w.heap.size 64 B m ∧ n ≤ c ∧ m ≤ d ∧ n ≤ 100 ∧ m ≤ 100 ∧ Only R w w' ∧ Rd w' R (k + 12000)
theorem DField.alloc {R : Nat} {k : Int} {w u : World} {e : Ending} (h : DField R k w e u) (o : Obj) : DField R k w e (u.alloc o) := by
  obtain ⟨W, A, n, c, B, m, d, X, Y, h1, h2, h3, h4, h5, h6, h7, h8, h9⟩ := h
  exact ⟨W, A, n, c, B, m, d, X, Y, h1, h2.alloc o, h3.alloc o, h4, h5, h6, h7, h8.alloc o, h9.alloc o⟩

/-- The condition of a region that draws tiles. -/
def Rdh (R : Nat) (k : Int) (w0 : World) (n : Nat) (w : World) : Prop := Only R w0 w ∧ Rd w R (k + 200 * n)
theorem Rdh.next {R : Nat} {k : Int} {w0 w : World} {n : Nat} (h : Rdh R k w0 n w) : Rdh R k w0 (n + 1) w := ⟨h.1, h.2.more (by omega)⟩
theorem Rdh.alloc {R : Nat} {k : Int} {w0 w : World} {n : Nat} (h : Rdh R k w0 n w) (o : Obj) : Rdh R k w0 (n + 1) (w.alloc o) := ⟨h.1.alloc o, (h.2.alloc o).more (by omega)⟩
theorem Rdh.only {R : Nat} {k : Int} {w0 w w' : World} {n : Nat} (h : Rdh R k w0 n w) (hO : Only R w w') (hR : Rd w' R (k + 200 * n + 200)) : Rdh R k w0 (n + 1) w' := ⟨h.1.trans hO, hR.more (by omega)⟩
def kTile (v : Value) : Prop := ∃ p : Nat → Int, v = .agg (tv p)
theorem tv_isI (p : Nat → Int) : ∀ v ∈ (tv p).toList, IsI v := fun v hv => by
  obtain ⟨j, hj⟩ := List.getElem?_of_mem hv
  have hl : j < 64 := by
    have := (List.getElem?_eq_some_iff.1 hj).1
    rwa [tv_list] at this
  rw [tv_list_get p j hl] at hj
  injection hj with hj
  exact ⟨_, hj.symm⟩
theorem lit_tile (p : Nat → Int) (W : World) : (Instr.buildSlice 24 1 #[(0, .agg (tv p))]).run Try.prog W = .ok (.slice (some ⟨W.heap.size, 0, none⟩) 1 1) (W.alloc (.cells (tv p) 36)) := by kernel_rfl
theorem typed_run {P : Program} {o : Oper} {a : Act} {w : World} {K : Act → World → Prop} {Q : Exit → Act → World → Prop} (v : Value) (w' : World) (h : (execOp a.eval o).run P w = .ok (.value v) w') (hk : K (a.put o.dst v) w') : o.wp P a w K Q := by
  unfold Oper.wp; rw [h]; exact hk
/-- One more tile. -/
def D5 (R : Nat) (k : Int) (w0 : World) (z base g : Nat) (W : Int) (B : Option Addr) (m d : Nat) (X Y : Int) (L : Nat → Bool) (n : Nat) (_ : Act) (u : World) : Prop := Rdh R k w0 n u ∧ FBz u z ∧ OV u base 36 64 m m (.slice B m d) ∧
  (L 7 = false → FB u g 26 W none 0 0 B m d X Y) ∧ (L 7 = true → ∃ B' d', FB u g 26 W none 0 0 B' (m + 1) d' X Y ∧ OV u base 36 64 (m + 1) (m + 1) (.slice B' (m + 1) d'))
theorem D5.step {R : Nat} {k : Int} {w0 u : World} {z base g : Nat} {W : Int} {B : Option Addr} {m d : Nat} {X Y : Int} {L : Nat → Bool} {n i : Nat} (hL : L 7 = false) (hi : i ≠ 7) (h1 : Rdh R k w0 (n + 1) u) (h2 : FBz u z) (h3 : OV u base 36 64 m m (.slice B m d))
    (h4 : FB u g 26 W none 0 0 B m d X Y) (a : Act) : D5 R k w0 z base g W B m d X Y (updL L i) (n + 1) a u :=
  ⟨h1, h2, h3, fun _ => h4, fun e => by rw [updL_ne (Ne.symm hi), hL] at e; cases e⟩

/-- One more number. -/
def D9 (R : Nat) (k : Int) (w0 : World) (z base g : Nat) (W : Int) (A : Option Addr) (n c : Nat) (B : Option Addr) (m d : Nat) (X Y : Int) (L : Nat → Bool) (n' : Nat) (_ : Act) (u : World) : Prop := Rdg R k w0 n' u ∧ FBz u z ∧ OV u base 3 1 n n (.slice A n c) ∧ OV u base 36 64 m m (.slice B m d) ∧
  (L 10 = false → FB u g 26 W A n c B m d X Y) ∧ (L 10 = true → ∃ A' c', FB u g 26 W A' (n + 1) c' B m d X Y ∧ OV u base 3 1 (n + 1) (n + 1) (.slice A' (n + 1) c'))
theorem D9.step {R : Nat} {k : Int} {w0 u : World} {z base g : Nat} {W : Int} {A : Option Addr} {n c : Nat} {B : Option Addr} {m d : Nat} {X Y : Int} {L : Nat → Bool} {n' i : Nat} (hL : L 10 = false) (hi : i ≠ 10) (h1 : Rdg R k w0 (n' + 1) u) (h2 : FBz u z) (h3 : OV u base 3 1 n n (.slice A n c)) (h3' : OV u base 36 64 m m (.slice B m d))
    (h4 : FB u g 26 W A n c B m d X Y) (a : Act) : D9 R k w0 z base g W A n c B m d X Y (updL L i) (n' + 1) a u :=
  ⟨h1, h2, h3, h3', fun _ => h4, fun e => by rw [updL_ne (Ne.symm hi), hL] at e; cases e⟩
theorem lit_int (x : Int) (W : World) : (Instr.buildSlice 23 1 #[(0, .int .i64 x)]).run Try.prog W = .ok (.slice (some ⟨W.heap.size, 0, none⟩) 1 1) (W.alloc (.cells #[.int .i64 x] 3)) := by kernel_rfl

/-- The field stays. -/
def D16 (R : Nat) (k : Int) (w0 : World) (z base g : Nat) (W : Int) (A : Option Addr) (n c : Nat) (B : Option Addr) (m d : Nat) (X Y : Int) (_ : Nat → Bool) (n' : Nat) (_ : Act) (u : World) : Prop := Rdh R k w0 n' u ∧ FBz u z ∧ OV u base 3 1 n n (.slice A n c) ∧ OV u base 36 64 m m (.slice B m d) ∧ FB u g 26 W A n c B m d X Y
/-- A tile's element address. -/
def kTEl (base : Nat) (v : Value) (u : World) : Prop := ∃ b e N, v = .pointer (some ⟨b, 0, none⟩) ∧ base ≤ b ∧ 64 ≤ N ∧ IB u b e N
def kNEl (base : Nat) (v : Value) (u : World) : Prop := ∃ b i e N, v = .pointer (some ⟨b, i, none⟩) ∧ base ≤ b ∧ i < N ∧ IB u b e N
theorem kTEl.ext {Bx : World → Nat → Prop} {u u' : World} {base : Nat} {v : Value} (h : kTEl base v u) (e : XT Bx u u') : kTEl base v u' := by
  obtain ⟨b, t, N, h1, h2, h3, h4⟩ := h
  exact ⟨b, t, N, h1, h2, h3, e.1 _ _ _ h4⟩
theorem kNEl.ext {Bx : World → Nat → Prop} {u u' : World} {base : Nat} {v : Value} (h : kNEl base v u) (e : XT Bx u u') : kNEl base v u' := by
  obtain ⟨b, i, t, N, h1, h2, h3, h4⟩ := h
  exact ⟨b, i, t, N, h1, h2, h3, e.1 _ _ _ h4⟩
theorem setCells_chg {base b : Nat} {e : TypeId} {N : Nat} : ∀ (vs : List Value) (o : Nat) (u : World), IB u b e N → base ≤ b → (∀ v ∈ vs, IsI v) → Chg base u (u.setCells b o vs)
  | [], _, u, _, _, _ => Chg.refl _ _
  | v :: vs, o, u, h, hb, hv => by
    obtain ⟨x, rfl⟩ := hv v (.head _)
    have h1 := Chg.setCell h hb o x
    have h2 := setCells_chg vs (o + 1) (u.setCell ⟨b, o, none⟩ (.int .i64 x)) (h.setCell _ _ _) hb (fun v hv' => hv v (.tail _ hv'))
    refine ⟨h2.os.trans h1.os, h2.tape.trans h1.tape, h2.output.trans h1.output, Nat.le_trans h1.size h2.size, fun k hk => ?_, fun g e N h => h2.ib _ _ _ (h1.ib _ _ _ h)⟩
    rcases h2.block k (Nat.lt_of_lt_of_le hk h1.size) with e2 | ⟨e2, e3, N3, h3⟩
    · rcases h1.block k hk with e1 | e1
      · exact .inl (e2.trans e1)
      · exact .inr e1
    · by_cases hkb : k = b
      · subst hkb; exact .inr ⟨hb, e, N, h⟩
      · exact .inr ⟨e2, e3, N3, h3.of_eq (Below.heap_setCell u ⟨b, o, none⟩ _ k hkb).symm⟩
theorem IS.readT {u : World} {base : Nat} {B : Option Addr} {m : Nat} (h : IS u base 64 B m) : ∃ q : Nat → Nat → Int, RS u u.heap.size 64 B m (tc q) := by
  obtain ⟨p, hp⟩ := h.read
  refine ⟨fun i j => p (i * 64 + j), hp.congr fun j hj => ?_⟩
  show Value.int .i64 (p j) = Value.int .i64 (p (j / 64 * 64 + j % 64))
  rw [show j / 64 * 64 + j % 64 = j by omega]
theorem put5_ib {u : World} {z : Nat} (hz : FBz u z) (a b c d e : Value) : ∀ g t N, IB u g t N → IB (((((u.setCell ⟨z, 0, none⟩ a).setCell ⟨z, 1, none⟩ b).setCell ⟨z, 2, none⟩ c).setCell ⟨z, 3, none⟩ d).setCell ⟨z, 4, none⟩ e) g t N := fun g t N h => by
  have hne : g ≠ z := by
    rintro rfl
    exact hz.notIB h
  exact ((((h.far hne _).far hne _).far hne _).far hne _).far hne _

theorem field_fin {R : Nat} {k : Int} {w u : World} {W : Int} {A : Option Addr} {n c : Nat} {B : Option Addr} {m d : Nat} {X Y : Int} (hz : FBz u w.heap.size) (hO : Only R w u) (hR : Rd u R (k + 12000)) (hlt : R < w.heap.size)
    (hA : IS u w.heap.size 1 A n) (hB : IS u w.heap.size 64 B m) (hn : n ≤ c) (hm : m ≤ d) (hn' : n ≤ 100) (hm' : m ≤ 100) :
    DField R k w (.returned (fdV W A n c B m d X Y)) (((((u.setCell ⟨w.heap.size, 0, none⟩ (.int .i64 W)).setCell ⟨w.heap.size, 1, none⟩ (.slice A n c)).setCell ⟨w.heap.size, 2, none⟩ (.slice B m d)).setCell ⟨w.heap.size, 3, none⟩ (.int .i64 X)).setCell ⟨w.heap.size, 4, none⟩ (.int .i64 Y)) := by
  have hib := put5_ib hz (.int .i64 W) (.slice A n c) (.slice B m d) (.int .i64 X) (.int .i64 Y)
  refine ⟨W, A, n, c, B, m, d, X, Y, rfl, hA.mono hib, hB.mono hib, hn, hm, hn', hm', ?_, ?_⟩
  · exact ((((hO.setCell (.inr (by simp)) _).setCell (.inr (by simp)) _).setCell (.inr (by simp)) _).setCell (.inr (by simp)) _).setCell (.inr (by simp)) _
  · exact Rd.setCell (Rd.setCell (Rd.setCell (Rd.setCell (Rd.setCell hR (by simp; omega) _) (by simp; omega) _) (by simp; omega) _) (by simp; omega) _) (by simp; omega) _

set_option maxRecDepth 100000 in
set_option maxHeartbeats 16000000 in
theorem l20Field_c (R : Nat) (n k : Int) (w : World) (hR : Rd w R k) (hk : k ≤ 500000) (hn : n ≤ 1000000) (hn0 : -1000000 ≤ n) :
    Calls Try.prog 57 #[.pointer (some ⟨R, 0, none⟩), .int .i64 n] w (DField R k w) := by
  have hlt := hR.lt
  go_enter Try.func57, Try.ntmps57
  go_upto_region 1 with fail
  go_cut [5] (fun s wx => ∃ (g : Nat) (W X Y : Int), s = .pointer (some ⟨g, 0, none⟩) ∧ w.heap.size < g ∧ 1 ≤ W ∧ W ≤ 5 ∧ FB wx g 26 W none 0 0 none 0 0 X Y ∧ FBz wx w.heap.size ∧ Rd wx R (k + 20) ∧ Only R w wx)
  case first =>
    have hW0 : FBz (w.alloc (.cells #[.int .i64 0, .slice none 0 0, .slice none 0 0, .int .i64 0, .int .i64 0] 26)) w.heap.size := FB.new w _ _ _ _ _ _ _ _ _ _
    have hO0 : Only R w (w.alloc (.cells #[.int .i64 0, .slice none 0 0, .slice none 0 0, .int .i64 0, .int .i64 0] 26)) := (Only.refl _ _).alloc _
    have hR0 : Rd (w.alloc (.cells #[.int .i64 0, .slice none 0 0, .slice none 0 0, .int .i64 0, .int .i64 0] 26)) R k := hR.alloc _
    have hB0 : (w.alloc (.cells #[.int .i64 0, .slice none 0 0, .slice none 0 0, .int .i64 0, .int .i64 0] 26)).heap.size = w.heap.size + 1 := by simp
    generalize (w.alloc (.cells #[.int .i64 0, .slice none 0 0, .slice none 0 0, .int .i64 0, .int .i64 0] 26)) = W at *
    refine wp_region_typed2 (by kernel_rfl) (by kernel_rfl) (D1 R k W w.heap.size) (XT (FX w.heap.size))
      (fun j v u => match j with
        | 0 | 3 | 6 | 10 | 13 => kIs (.pointer (some ⟨R, 0, none⟩)) v
        | 1 => kNat 5 v
        | 2 => ∃ x : Int, 1 ≤ x ∧ x ≤ 5 ∧ v = .int .i64 x
        | 4 | 11 => kNat 256 v
        | 5 | 12 => kLit w.heap.size 3 2 1 v u
        | 7 | 14 => kNat 2 v
        | 8 | 15 => kEl v u
        | 9 | 16 => kAny v
        | 17 => kFd v
        | 18 => ∃ g, v = .pointer (some ⟨g, 0, none⟩) ∧ FX w.heap.size u g
        | _ => True) ?_ ?_ ?_ ?_
    · intro j v u u' h e
      split at h <;> first | exact h | exact kLit.ext h e | exact kEl.ext h e | exact ⟨_, h.choose_spec.1, e.2 _ h.choose_spec.2⟩
    · exact ⟨⟨(Only.refl _ _).drew, (show Rd W.drew R k from hR0).more (by omega)⟩, hW0, fun h => by cases h⟩
    · intro L i o n' a u ho hn' hLi hcl hC hD hU
      obtain ⟨hC1, hZ, _⟩ := hC
      have hsz := hC1.size
      have hC2 := hC1.2
      have hlast : L 19 = false := last_false hcl 19 (by kernel_rfl) (show i < 20 from (Array.getElem?_eq_some_iff.1 ho).1) hLi
      have hnx0 : i ≠ 19 → ∀ a', D1 R k W w.heap.size (updL L i) (n' + 1) a' u := fun hi => D1.step (a := a) (u := u) hlast hi hC1.next hZ
      have hon0 : i ≠ 19 → ∀ u', Only R u u' → Rd u' R (k + n' + 1) → ∀ a', D1 R k W w.heap.size (updL L i) (n' + 1) a' u' := fun hi u' hO hR' => D1.step (a := a) (u := u) hlast hi (hC1.only hO hR') (hZ.only hO (by omega))
      have han0 : i ≠ 19 → ∀ ob a', D1 R k W w.heap.size (updL L i) (n' + 1) a' (u.alloc ob) := fun hi ob => D1.step (a := a) (u := u) hlast hi (hC1.alloc ob) (hZ.alloc ob)
      have hrf := XT.refl (FX w.heap.size) u
      have hex : ∀ u', Only R u u' → XT (FX w.heap.size) u u' := fun u' hO => XT.only hC2 hO (FX.only (by omega))
      have hal : ∀ ob, XT (FX w.heap.size) u (u.alloc ob) := fun ob => XT.alloc ob FX.alloc
      have hi : i < 20 := (Array.getElem?_eq_some_iff.1 ho).1
      replace hn' : n' < 20 := hn'
      obtain rfl | rfl | rfl | rfl | rfl | rfl | rfl | rfl | rfl | rfl | rfl | rfl | rfl | rfl | rfl | rfl | rfl | rfl | rfl | rfl : i = 0 ∨ i = 1 ∨ i = 2 ∨ i = 3 ∨ i = 4 ∨ i = 5 ∨ i = 6 ∨ i = 7 ∨ i = 8 ∨ i = 9 ∨ i = 10 ∨ i = 11 ∨ i = 12 ∨ i = 13 ∨ i = 14 ∨ i = 15 ∨ i = 16 ∨ i = 17 ∨ i = 18 ∨ i = 19 := by omega
      all_goals (simp only [List.getElem?_toArray, List.getElem?_cons_zero, List.getElem?_cons_succ, Option.some.injEq] at ho; subst ho)
      all_goals clear hi hcl
      all_goals (try (have hnx := hnx0 (by decide); have hon := hon0 (by decide); have han := han0 (by decide)))
      · have u0 := hU 0 (not_written (by kernel_rfl))
        simp at u0
        clear hU hD
        go_simp
        exact Typed2.mk _ rfl (hnx _) hrf rfl
      · have e0 := hD ⟨0, Ground.data⟩ (by simp) rfl _ 8 rfl rfl
        simp [kIs] at e0
        clear hU hD
        go_simp
        refine (pick_c R 5 _ u hC2 (by omega) (by omega) (by omega)).mono ?_
        rintro e w' ⟨m, hm, rfl, hO, hR'⟩
        exact Typed2.mk _ rfl (hon _ hO hR' _) (hex _ hO) ⟨m, hm, rfl⟩
      · obtain ⟨m, hm, e9⟩ := hD ⟨1, Ground.data⟩ (by simp) rfl _ 9 rfl rfl
        simp at e9
        have hm5 : m < 5 := by omega
        have ew : IntKind.i64.wrap (1 + (m : Int)) = 1 + m := IntWalk.i64_in _ (by omega)
        clear hU hD hm
        go_simp
        exact Typed2.mk _ rfl (hnx _) hrf ⟨_, by omega, by omega, rfl⟩
      · have u0 := hU 0 (not_written (by kernel_rfl))
        simp at u0
        clear hU hD
        go_simp
        exact Typed2.mk _ rfl (hnx _) hrf rfl
      · have e0 := hD ⟨3, Ground.data⟩ (by simp) rfl _ 11 rfl rfl
        simp [kIs] at e0
        clear hU hD
        go_simp
        refine (pick_c R 256 _ u hC2 (by omega) (by omega) (by omega)).mono ?_
        rintro e w' ⟨m, hm, rfl, hO, hR'⟩
        exact Typed2.mk _ rfl (hon _ hO hR' _) (hex _ hO) ⟨m, hm, rfl⟩
      · obtain ⟨m, hm, e9⟩ := hD ⟨4, Ground.data⟩ (by simp) rfl _ 12 rfl rfl
        simp at e9
        clear hU hD
        go_simp
        exact Typed2.mk _ rfl (han _ _) (hal _) (kLit.new (by omega) _ _ rfl (by simp [IsI]))
      · have u0 := hU 0 (not_written (by kernel_rfl))
        simp at u0
        clear hU hD
        go_simp
        exact Typed2.mk _ rfl (hnx _) hrf rfl
      · have e0 := hD ⟨6, Ground.data⟩ (by simp) rfl _ 14 rfl rfl
        simp [kIs] at e0
        clear hU hD
        go_simp
        refine (pick_c R 2 _ u hC2 (by omega) (by omega) (by omega)).mono ?_
        rintro e w' ⟨m, hm, rfl, hO, hR'⟩
        exact Typed2.mk _ rfl (hon _ hO hR' _) (hex _ hO) ⟨m, hm, rfl⟩
      · obtain ⟨b, e0, hbb, hrow⟩ := hD ⟨5, Ground.data⟩ (by simp) rfl _ 13 rfl rfl
        obtain ⟨m, hm, e1⟩ := hD ⟨7, Ground.data⟩ (by simp) rfl _ 15 rfl rfl
        simp at e0 e1
        have hm4 : (m : Int) < 2 := by omega
        clear hU hD
        go_simp
        exact Typed2.mk _ rfl (hnx _) hrf ⟨b, m, _, _, rfl, by omega, hrow⟩
      · obtain ⟨b, m, e, N, e0, hm, hrow⟩ := hD ⟨8, Ground.data⟩ (by simp) rfl _ 16 rfl rfl
        obtain ⟨x, hx⟩ := hrow.at_ hm
        simp at e0
        clear hU hD
        go_simp
        exact Typed2.mk _ rfl (hnx _) hrf ⟨x, rfl⟩
      · have u0 := hU 0 (not_written (by kernel_rfl))
        simp at u0
        clear hU hD
        go_simp
        exact Typed2.mk _ rfl (hnx _) hrf rfl
      · have e0 := hD ⟨10, Ground.data⟩ (by simp) rfl _ 18 rfl rfl
        simp [kIs] at e0
        clear hU hD
        go_simp
        refine (pick_c R 256 _ u hC2 (by omega) (by omega) (by omega)).mono ?_
        rintro e w' ⟨m, hm, rfl, hO, hR'⟩
        exact Typed2.mk _ rfl (hon _ hO hR' _) (hex _ hO) ⟨m, hm, rfl⟩
      · obtain ⟨m, hm, e9⟩ := hD ⟨11, Ground.data⟩ (by simp) rfl _ 19 rfl rfl
        simp at e9
        clear hU hD
        go_simp
        exact Typed2.mk _ rfl (han _ _) (hal _) (kLit.new (by omega) _ _ rfl (by simp [IsI]))
      · have u0 := hU 0 (not_written (by kernel_rfl))
        simp at u0
        clear hU hD
        go_simp
        exact Typed2.mk _ rfl (hnx _) hrf rfl
      · have e0 := hD ⟨13, Ground.data⟩ (by simp) rfl _ 21 rfl rfl
        simp [kIs] at e0
        clear hU hD
        go_simp
        refine (pick_c R 2 _ u hC2 (by omega) (by omega) (by omega)).mono ?_
        rintro e w' ⟨m, hm, rfl, hO, hR'⟩
        exact Typed2.mk _ rfl (hon _ hO hR' _) (hex _ hO) ⟨m, hm, rfl⟩
      · obtain ⟨b, e0, hbb, hrow⟩ := hD ⟨12, Ground.data⟩ (by simp) rfl _ 20 rfl rfl
        obtain ⟨m, hm, e1⟩ := hD ⟨14, Ground.data⟩ (by simp) rfl _ 22 rfl rfl
        simp at e0 e1
        have hm4 : (m : Int) < 2 := by omega
        clear hU hD
        go_simp
        exact Typed2.mk _ rfl (hnx _) hrf ⟨b, m, _, _, rfl, by omega, hrow⟩
      · obtain ⟨b, m, e, N, e0, hm, hrow⟩ := hD ⟨15, Ground.data⟩ (by simp) rfl _ 23 rfl rfl
        obtain ⟨x, hx⟩ := hrow.at_ hm
        simp at e0
        clear hU hD
        go_simp
        exact Typed2.mk _ rfl (hnx _) hrf ⟨x, rfl⟩
      · obtain ⟨x, hx1, hx2, e10⟩ := hD ⟨2, Ground.data⟩ (by simp) rfl _ 10 rfl rfl
        obtain ⟨y, e17⟩ := hD ⟨9, Ground.data⟩ (by simp) rfl _ 17 rfl rfl
        obtain ⟨z, e24⟩ := hD ⟨16, Ground.data⟩ (by simp) rfl _ 24 rfl rfl
        simp at e10 e17 e24
        clear hU hD
        go_simp
        exact Typed2.mk _ rfl (hnx _) hrf ⟨x, y, z, hx1, hx2, rfl⟩
      · clear hU hD
        go_simp
        exact Typed2.mk _ rfl (han _ _) (hal _) ⟨_, rfl, by omega, 0, 0, 0, FB.new _ _ _ _ _ _ _ _ _ _ _⟩
      · obtain ⟨W', X, Y, hW1, hW2, e25⟩ := hD ⟨17, Ground.data⟩ (by simp) rfl _ 25 rfl rfl
        obtain ⟨g, e5, hg0, W2, X2, Y2, hg⟩ := hD ⟨18, Ground.data⟩ (by simp) rfl _ 5 rfl rfl
        simp at e25 e5
        have hput := hg.put W' none 0 0 none 0 0 X Y
        obtain ⟨c0, c1, c2, c3, c4⟩ := hg.cells
        obtain ⟨y0, y1, y2, y3, y4⟩ := hg.free
        clear hU hD
        go_simp
        refine Typed2.mk (a := a) undef rfl ⟨⟨?_, ?_⟩, ?_, fun _ => ⟨g, W', X, Y, by simpa [Act.put] using e5, hg0, hW1, hW2, hput⟩⟩ ⟨fun b e N h => ?_, fun b hb => ?_⟩ trivial
        · exact ((((hC1.1.setCell (.inr (by simp; omega)) _).setCell (.inr (by simp; omega)) _).setCell (.inr (by simp; omega)) _).setCell (.inr (by simp; omega)) _).setCell (.inr (by simp; omega)) _
        · exact Rd.setCell (Rd.setCell (Rd.setCell (Rd.setCell (Rd.setCell (hC2.more (by omega)) (by simp; omega) _) (by simp; omega) _) (by simp; omega) _) (by simp; omega) _) (by simp; omega) _
        · exact ((((hZ.far (by simp; omega) _).far (by simp; omega) _).far (by simp; omega) _).far (by simp; omega) _).far (by simp; omega) _
        · have hne : b ≠ g := by
            rintro rfl
            exact hg.notIB h
          exact ((((h.far hne _).far hne _).far hne _).far hne _).far hne _
        · obtain ⟨hb0, W3, X3, Y3, hb⟩ := hb
          by_cases e : b = g
          · subst e
            exact ⟨hb0, _, _, _, hput⟩
          · exact ⟨hb0, _, _, _, ((((hb.far e _).far e _).far e _).far e _).far e _⟩
    · intro L a u hLL hC hL hN hU hs hd
      obtain ⟨hC1, hZ, hG⟩ := hC
      obtain ⟨g, W', X, Y, e5, hg0, hW1, hW2, hg⟩ := hG (hLL 19 (by decide))
      have e5' : a.tmps[5]?.getD undef = .pointer (some ⟨g, 0, none⟩) := by simpa using e5
      clear e5 hG
      have ht := tmps_ds [8, 9, 10, 11, 12, 13, 14, 15, 16, 17, 18, 19, 20, 21, 22, 23, 24, 25, 5] rfl hs hU
      simp [List.range, List.range.loop] at ht
      rw [e5'] at ht
      (try generalize a.tmps[8]?.getD undef = x8 at ht)
      (try generalize a.tmps[9]?.getD undef = x9 at ht)
      (try generalize a.tmps[10]?.getD undef = x10 at ht)
      (try generalize a.tmps[11]?.getD undef = x11 at ht)
      (try generalize a.tmps[12]?.getD undef = x12 at ht)
      (try generalize a.tmps[13]?.getD undef = x13 at ht)
      (try generalize a.tmps[14]?.getD undef = x14 at ht)
      (try generalize a.tmps[15]?.getD undef = x15 at ht)
      (try generalize a.tmps[16]?.getD undef = x16 at ht)
      (try generalize a.tmps[17]?.getD undef = x17 at ht)
      (try generalize a.tmps[18]?.getD undef = x18 at ht)
      (try generalize a.tmps[19]?.getD undef = x19 at ht)
      (try generalize a.tmps[20]?.getD undef = x20 at ht)
      (try generalize a.tmps[21]?.getD undef = x21 at ht)
      (try generalize a.tmps[22]?.getD undef = x22 at ht)
      (try generalize a.tmps[23]?.getD undef = x23 at ht)
      (try generalize a.tmps[24]?.getD undef = x24 at ht)
      (try generalize a.tmps[25]?.getD undef = x25 at ht)
      (try generalize a.tmps[5]?.getD undef = x5 at ht)
      obtain ⟨tm, df⟩ := a
      simp only at ht hd
      subst ht hd
      clear hL hN hU hs
      have hR1 : Rd u R (k + 20) := hC1.2
      have hO1 := hO0.trans hC1.1
      go_wp2_with fail
      go_meet
      exact ⟨g, W', X, Y, rfl, hg0, hW1, hW2, hg, hZ, hR1, hO1⟩
  case rest =>
    obtain ⟨g, W', X, Y, rfl, hg0, hW1, hW2, hB, hZ, hR1, hO1⟩ := hcut
    go_wp2_with fail
    refine (pick_c _ _ _ _ hR1 (by omega) (by omega) (by omega)).mono ?_
    rintro e w1 ⟨j0, hj0, rfl, hO2, hR2⟩
    have hj4 : j0 < 4 := by omega
    have ew : IntKind.i64.wrap (1 + (j0 : Int)) = 1 + j0 := IntWalk.i64_in _ (by omega)
    have hB1 := Lib.hid (hB.only hO2 (by have := hR1.lt; omega))
    have hZ1 := Lib.hid (hZ.only hO2 (by omega))
    have hO1' := Lib.hid (hO1.trans hO2)
    have HR2 := Lib.hid hR2
    have hs1 := (hO1.trans hO2).size
    clear hB hZ hR1 hO1 hO2 hR2 hj0
    go_wp2
    go_loopw [6] (fun i wr => ∃ (j m d : Nat) (B : Option Addr), j ≤ j0 + 1 ∧ m + j = j0 + 1 ∧ i = .int .i64 j ∧ FB wr g 26 W' none 0 0 B m d X Y ∧ OV wr w.heap.size 36 64 m m (.slice B m d) ∧ FBz wr w.heap.size ∧ Rd wr R (k + 21 + 1600 * m) ∧ Only R w wr) (fun i _ => (intOf i).toNat)
    case atStart => exact ⟨j0 + 1, 0, 0, none, by omega, by omega, by simp; omega, hB1.out, OV.nil _ _ _ _ _, hZ1.out, HR2.out.more (by omega), hO1'.out⟩
    case round =>
      obtain ⟨j, m, d, B, hj, hmj, rfl, hB, hV, hZ, hRr, hO⟩ := hrel
      by_cases hj0 : j = 0
      · have hj0' : ¬ 0 < (j : Int) := by omega
        have HB := Lib.hid hB
        have HV := Lib.hid hV
        have HZ := Lib.hid hZ
        have HO := Lib.hid hO
        have c0 := hB.cells.1
        have hgb := hB.lt
        have hOs := hO.size
        have hRlt := hRr.lt
        have hRd : Rd wr.drew R (k + 21 + 1600 * m) := hRr
        clear hB hV hZ hO hRr
        go_upto_region 6 with fail
        go_region_held3 (fun w' => w'.cell? ⟨g, 0, none⟩ = some (.int .i64 W')) (first | assumption | exact c0) (first | (go_at_call 32; refine (pick_c R 4 _ _ hRd (by omega) (by omega) (by omega)).mono ?_; rintro e w2 ⟨m2, hm2, rfl, hO2, hR2⟩; have hc2 : w2.cell? ⟨g, 0, none⟩ = some (.int .i64 W') := (hO2.cells.1 g 0 (by simp; omega) (by omega)).trans c0; have hm2' : m2 < 4 := (by omega)))
        have hkk : ∃ kk : Nat, IntKind.i64.wrap (W' * IntKind.i64.wrap (1 + (m2 : Int))) = (kk : Int) ∧ 1 ≤ kk ∧ kk ≤ 20 := by
          have e1 : IntKind.i64.wrap (1 + (m2 : Int)) = 1 + m2 := IntWalk.i64_in _ (by omega)
          rw [e1]
          have h4 : m2 = 0 ∨ m2 = 1 ∨ m2 = 2 ∨ m2 = 3 := by omega
          rcases h4 with rfl | rfl | rfl | rfl
          · exact ⟨W'.toNat, by rw [IntWalk.i64_in _ (by omega)]; omega, by omega, by omega⟩
          · exact ⟨(W' * 2).toNat, by rw [show W' * (1 + ((1 : Nat) : Int)) = W' * 2 by omega, IntWalk.i64_in _ (by omega)]; omega, by omega, by omega⟩
          · exact ⟨(W' * 3).toNat, by rw [show W' * (1 + ((2 : Nat) : Int)) = W' * 3 by omega, IntWalk.i64_in _ (by omega)]; omega, by omega, by omega⟩
          · exact ⟨(W' * 4).toNat, by rw [show W' * (1 + ((3 : Nat) : Int)) = W' * 4 by omega, IntWalk.i64_in _ (by omega)]; omega, by omega, by omega⟩
        obtain ⟨kk, ekk, hk1, hk2⟩ := hkk
        rw [ekk]
        have hB2 := Lib.hid (HB.out.drew.only hO2 (by omega))
        have hV2 := Lib.hid (OV.mono (u := wr.drew) HV.out (ib_only hRd hO2))
        have hZ2 := Lib.hid (HZ.out.drew.only hO2 (by omega))
        have hOO := Lib.hid (HO.out.drew.trans hO2)
        have HR2 := Lib.hid hR2
        have hm5 : m ≤ 4 := by omega
        have hm1 : 1 ≤ m := by omega
        clear HB HV HZ HO c0 hgb hOs hRlt hRd hO2 hR2 hc2 ekk hm2 hj hmj hj0 hj0' hB1 hZ1 hO1' ew
        (try clear hHeld)
        go_wp2
        go_loopw [7] (fun i wr => ∃ (j nn c : Nat) (A : Option Addr), j ≤ kk ∧ nn + j = kk ∧ i = .int .i64 j ∧ FB wr g 26 W' A nn c B m d X Y ∧ OV wr w.heap.size 3 1 nn nn (.slice A nn c) ∧ OV wr w.heap.size 36 64 m m (.slice B m d) ∧ FBz wr w.heap.size ∧ Rd wr R (k + 22 + 1600 * m + 20 * nn) ∧ Only R w wr) (fun i _ => (intOf i).toNat)
        case atStart => exact ⟨kk, 0, 0, none, by omega, by omega, rfl, hB2.out, OV.nil _ _ _ _ _, hV2.out, hZ2.out, HR2.out.more (by omega), hOO.out⟩
        case round =>
          obtain ⟨j, nn, c, A, hj, hmj, rfl, hB, hI, hV, hZ, hRr, hO⟩ := hrel
          have hgb := hB.lt
          have hOs := hO.size
          by_cases hj0 : j = 0
          · have hj0' : ¬ 0 < (j : Int) := by omega
            obtain ⟨hA0, hAc, hAm⟩ := hI.is
            obtain ⟨hB0, hBc, hBm⟩ := hV.is
            have HB := Lib.hid hB
            have HI := Lib.hid hI
            have HV := Lib.hid hV
            have HA0 := Lib.hid hA0
            have HB0 := Lib.hid hB0
            have HZ := Lib.hid hZ
            have HO := Lib.hid hO
            clear hB hI hV hZ hO hA0 hB0
            go_wp2_with fail
            refine (odd_c _ _ _ _ hRr (by omega) (by omega) (by omega)).mono ?_
            rintro e w3 ⟨v, rfl, hO3, hR3⟩
            have hm3 := ib_only hRr hO3
            have hBF := HB.out.only hO3 (by have := hRr.lt; omega)
            have hZF := HZ.out.only hO3 (by omega)
            have hOF := HO.out.trans hO3
            have hAF := HA0.out.mono hm3
            have hVF := HB0.out.mono hm3
            have hRF := hR3
            have hs3 := hOF.size
            have hgb3 := hBF.lt
            unfold maxLen at hAm hBm
            cases v
            · clear hm3 hO3 hR3 hRr
              obtain ⟨c0, c1, c2, c3, c4⟩ := hBF.cells
              obtain ⟨d0, d1, d2, d3, d4⟩ := hZF.cells
              obtain ⟨x0, x1, x2, x3, x4⟩ := hZF.free
              go_wp2
              exact bodyPost_ret (by simp [results, Try.results57, go_sem, *]) rfl (field_fin hZF hOF (hRF.more (by omega)) hlt hAF hVF (by omega) (by omega) (by omega) (by omega))
            · have hIF := HI.out.mono hm3
              have hTF := HV.out.mono hm3
              clear hAF hVF HA0 HB0 HB HI HV HZ HO hO3 hRr hm3
              go_wp2_with fail
              refine (pick_c _ _ _ _ hRF (by omega) (by omega) (by omega)).mono ?_
              rintro e w4 ⟨dd, hdd, rfl, hO4, hR4⟩
              have hm4 := ib_only hRF hO4
              have hB4 := hBF.only hO4 (by omega)
              have hZ4 := hZF.only hO4 (by omega)
              have hO44 := hOF.trans hO4
              have hI4 := hIF.mono hm4
              have hT4 := hTF.mono hm4
              clear hBF hZF hOF hIF hTF hRF hR3 hm4 hO4 hgb3 hgb hOs
              have hBF := hB4
              have hZF := hZ4
              have hOF := hO44
              have hIF := hI4
              have hTF := hT4
              have hRF := hR4
              clear hB4 hZ4 hO44 hI4 hT4 hR4
              have hgb := hBF.lt
              have hOs := hOF.size
              have hAF := hIF.is.1
              have hVF := hTF.is.1
              have hd6 : dd = 0 ∨ dd = 1 ∨ dd = 2 ∨ dd = 3 ∨ dd = 4 ∨ dd = 5 := by omega
              clear hdd
              rcases hd6 with rfl | rfl | rfl | rfl | rfl | rfl
              · clear hIF hTF
                go_wp2_with fail
                have hRa := hRF.alloc (.cells #[.int .i64 0, .int .i64 9] 3)
                refine (pick_c _ _ _ _ hRa (by omega) (by omega) (by omega)).mono ?_
                rintro e w6 ⟨mm, hmm, rfl, hO6, hR6⟩
                obtain ⟨x, hx, _, _⟩ := hO6.int_new (m := mm) (lo := -1) (hi := 256) (by omega) (by simp <;> omega) (by simp <;> omega)
                have hm6 := ib_only hRa hO6
                have hBG := (hBF.alloc (.cells #[.int .i64 0, .int .i64 9] 3)).only hO6 (by omega)
                have hZG := (hZF.alloc (.cells #[.int .i64 0, .int .i64 9] 3)).only hO6 (by omega)
                have hOG := (hOF.alloc (.cells #[.int .i64 0, .int .i64 9] 3)).trans hO6
                have hAG := (hAF.mono (u' := w4.alloc (.cells #[.int .i64 0, .int .i64 9] 3)) (fun _ _ _ h => h.alloc _)).mono hm6
                have hVG := (hVF.mono (u' := w4.alloc (.cells #[.int .i64 0, .int .i64 9] 3)) (fun _ _ _ h => h.alloc _)).mono hm6
                have hs6 := hOG.size
                have hgb6 := hBG.lt
                have hib : ∀ b e N, IB w6 b e N → IB (w6.setCell ⟨g, 0, none⟩ (.int .i64 x)) b e N := fun b e N h => h.setCell _ _ _
                clear hRa hRF hO6 hBF hZF hOF hm6 hAF hVF
                obtain ⟨c0, c1, c2, c3, c4⟩ := hBG.cells
                obtain ⟨y0, y1, y2, y3, y4⟩ := hBG.free
                obtain ⟨d0, d1, d2, d3, d4⟩ := hZG.cells
                obtain ⟨x0, x1, x2, x3, x4⟩ := hZG.free
                go_wp2
                exact bodyPost_ret (by simp [results, Try.results57, go_sem, *]) rfl (field_fin (hZG.far (by simp; omega) _) (hOG.setCell (.inr (by simp; omega)) _) ((hR6.more (by omega)).setCell (by simp; omega) _) hlt (hAG.mono hib) (hVG.mono hib) (by omega) (by omega) (by omega) (by omega))
              · clear hAF hVF
                go_upto_region 16 with fail
                refine wp_region_typed2 (by kernel_rfl) (by kernel_rfl) (D16 R (k + 22 + 1600 * m + 20 * nn + 2) w w.heap.size w.heap.size g W' A nn c B m d X Y) (XT (fun _ _ => False))
                  (fun j v u => match j with
                    | 0 | 3 => kIs (.pointer (some ⟨g, 1, none⟩)) v
                    | 1 | 4 => kIs (.slice A nn c) v
                    | 2 | 11 => kIs (.pointer (some ⟨R, 0, none⟩)) v
                    | 5 => kIs (.int .i64 nn) v
                    | 6 => kNat nn v
                    | 7 => kIs (.pointer (some ⟨g, 2, none⟩)) v
                    | 8 => kIs (.slice B m d) v
                    | 9 => kIs (.int .i64 m) v
                    | 10 => kLit w.heap.size 3 2 1 v u
                    | 12 => kNat 2 v
                    | 13 => kEl v u
                    | 14 => kAny v
                    | 15 => kNEl w.heap.size v u
                    | _ => True) ?_ ?_ ?_ ?_
                · intro j v u u' h e
                  split at h <;> first | exact h | exact kLit.ext h e | exact kEl.ext h e | exact kTEl.ext h e | exact kNEl.ext h e
                · exact ⟨⟨hOF.drew, (show Rd w4.drew R _ from hRF).more (by omega)⟩, hZF, hIF, hTF, hBF⟩
                · intro L i o n' a u ho hn' hLi hcl hC hD hU
                  obtain ⟨hC1, hZu, hIu, hVu, hBu⟩ := hC
                  have hsz := hC1.1.size
                  have hC2 := hC1.2
                  have hRg := hC2.lt
                  have hnx : ∀ a', D16 R (k + 22 + 1600 * m + 20 * nn + 2) w w.heap.size w.heap.size g W' A nn c B m d X Y (updL L i) (n' + 1) a' u := fun _ => ⟨hC1.next, hZu, hIu, hVu, hBu⟩
                  have hon : ∀ u', Only R u u' → Rd u' R (k + 22 + 1600 * m + 20 * nn + 2 + 200 * n' + 200) → ∀ a', D16 R (k + 22 + 1600 * m + 20 * nn + 2) w w.heap.size w.heap.size g W' A nn c B m d X Y (updL L i) (n' + 1) a' u' := fun u' hO hR' _ => ⟨hC1.only hO hR', hZu.only hO (by omega), hIu.mono (ib_only hC2 hO), hVu.mono (ib_only hC2 hO), hBu.only hO (by omega)⟩
                  have han : ∀ ob a', D16 R (k + 22 + 1600 * m + 20 * nn + 2) w w.heap.size w.heap.size g W' A nn c B m d X Y (updL L i) (n' + 1) a' (u.alloc ob) := fun ob _ => ⟨hC1.alloc ob, hZu.alloc ob, hIu.mono fun _ _ _ h => h.alloc ob, hVu.mono fun _ _ _ h => h.alloc ob, hBu.alloc ob⟩
                  have hch5 : ∀ u', Chg w.heap.size u u' → ∀ a', D16 R (k + 22 + 1600 * m + 20 * nn + 2) w w.heap.size w.heap.size g W' A nn c B m d X Y (updL L i) (n' + 1) a' u' := fun u' hc _ => ⟨⟨hc.only hC1.1 (by omega), (hc.rd hC2 (by omega)).more (by omega)⟩, hZu.chg hc, hIu.mono hc.ib, hVu.mono hc.ib, hBu.chg hc⟩
                  have hrf := XT.refl (fun _ _ => False) u
                  have hex : ∀ u', Only R u u' → XT (fun _ _ => False) u u' := fun u' hO => XT.only hC2 hO (fun _ h => h.elim)
                  have hal : ∀ ob, XT (fun _ _ => False) u (u.alloc ob) := fun ob => XT.alloc ob (fun _ h => h.elim)
                  have hi : i < 17 := (Array.getElem?_eq_some_iff.1 ho).1
                  replace hn' : n' < 17 := hn'
                  obtain rfl | rfl | rfl | rfl | rfl | rfl | rfl | rfl | rfl | rfl | rfl | rfl | rfl | rfl | rfl | rfl | rfl : i = 0 ∨ i = 1 ∨ i = 2 ∨ i = 3 ∨ i = 4 ∨ i = 5 ∨ i = 6 ∨ i = 7 ∨ i = 8 ∨ i = 9 ∨ i = 10 ∨ i = 11 ∨ i = 12 ∨ i = 13 ∨ i = 14 ∨ i = 15 ∨ i = 16 := by omega
                  all_goals (simp only [List.getElem?_toArray, List.getElem?_cons_zero, List.getElem?_cons_succ, Option.some.injEq] at ho; subst ho)
                  all_goals clear hi hcl
                  all_goals (try (have hnx := hnx0 (by decide); have hon := hon0 (by decide); have han := han0 (by decide)))
                  · have u5 := hU 5 (not_written (by kernel_rfl))
                    simp at u5
                    clear hU hD
                    go_simp
                    exact Typed2.mk _ rfl (hnx _) hrf rfl
                  · have e0 := hD ⟨0, Ground.data⟩ (by simp) rfl _ 77 rfl rfl
                    simp [kIs] at e0
                    obtain ⟨c0, c1, c2, c3, c4⟩ := hBu.cells
                    clear hU hD
                    go_simp
                    exact Typed2.mk _ rfl (hnx _) hrf rfl
                  · have u0 := hU 0 (not_written (by kernel_rfl))
                    simp at u0
                    clear hU hD
                    go_simp
                    exact Typed2.mk _ rfl (hnx _) hrf rfl
                  · have u5 := hU 5 (not_written (by kernel_rfl))
                    simp at u5
                    clear hU hD
                    go_simp
                    exact Typed2.mk _ rfl (hnx _) hrf rfl
                  · have e0 := hD ⟨3, Ground.data⟩ (by simp) rfl _ 80 rfl rfl
                    simp [kIs] at e0
                    obtain ⟨c0, c1, c2, c3, c4⟩ := hBu.cells
                    clear hU hD
                    go_simp
                    exact Typed2.mk _ rfl (hnx _) hrf rfl
                  · have e0 := hD ⟨4, Ground.data⟩ (by simp) rfl _ 81 rfl rfl
                    simp [kIs] at e0
                    clear hU hD
                    go_simp
                    exact Typed2.mk _ rfl (hnx _) hrf rfl
                  · have e1 := hD ⟨5, Ground.data⟩ (by simp) rfl _ 82 rfl rfl
                    simp [kIs] at e1
                    have e0 := hD ⟨2, Ground.data⟩ (by simp) rfl _ 79 rfl rfl
                    simp [kIs] at e0
                    clear hU hD
                    go_simp
                    refine (pick_c R nn _ u hC2 (by omega) (by omega) (by omega)).mono ?_
                    rintro e w' ⟨m, hm, rfl, hO, hR'⟩
                    exact Typed2.mk _ rfl (hon _ hO (hR'.more (by omega)) _) (hex _ hO) ⟨m, hm, rfl⟩
                  · have u5 := hU 5 (not_written (by kernel_rfl))
                    simp at u5
                    clear hU hD
                    go_simp
                    exact Typed2.mk _ rfl (hnx _) hrf rfl
                  · have e0 := hD ⟨7, Ground.data⟩ (by simp) rfl _ 84 rfl rfl
                    simp [kIs] at e0
                    obtain ⟨c0, c1, c2, c3, c4⟩ := hBu.cells
                    clear hU hD
                    go_simp
                    exact Typed2.mk _ rfl (hnx _) hrf rfl
                  · have e0 := hD ⟨8, Ground.data⟩ (by simp) rfl _ 85 rfl rfl
                    simp [kIs] at e0
                    clear hU hD
                    go_simp
                    exact Typed2.mk _ rfl (hnx _) hrf rfl
                  · have e0 := hD ⟨9, Ground.data⟩ (by simp) rfl _ 86 rfl rfl
                    simp [kIs] at e0
                    clear hU hD
                    go_simp
                    exact Typed2.mk _ rfl (han _ _) (hal _) (kLit.new (by omega) _ _ rfl (by simp [IsI]))
                  · have u0 := hU 0 (not_written (by kernel_rfl))
                    simp at u0
                    clear hU hD
                    go_simp
                    exact Typed2.mk _ rfl (hnx _) hrf rfl
                  · have e0 := hD ⟨11, Ground.data⟩ (by simp) rfl _ 88 rfl rfl
                    simp [kIs] at e0
                    clear hU hD
                    go_simp
                    refine (pick_c R 2 _ u hC2 (by omega) (by omega) (by omega)).mono ?_
                    rintro e w' ⟨m, hm, rfl, hO, hR'⟩
                    exact Typed2.mk _ rfl (hon _ hO (hR'.more (by omega)) _) (hex _ hO) ⟨m, hm, rfl⟩
                  · obtain ⟨b, e0, hbb, hrow⟩ := hD ⟨10, Ground.data⟩ (by simp) rfl _ 87 rfl rfl
                    obtain ⟨m, hm, e1⟩ := hD ⟨12, Ground.data⟩ (by simp) rfl _ 89 rfl rfl
                    simp at e0 e1
                    have hm4 : (m : Int) < 2 := by omega
                    clear hU hD
                    go_simp
                    exact Typed2.mk _ rfl (hnx _) hrf ⟨b, m, _, _, rfl, by omega, hrow⟩
                  · obtain ⟨b, m, e, N, e0, hm, hrow⟩ := hD ⟨13, Ground.data⟩ (by simp) rfl _ 90 rfl rfl
                    obtain ⟨x, hx⟩ := hrow.at_ hm
                    simp at e0
                    clear hU hD
                    go_simp
                    exact Typed2.mk _ rfl (hnx _) hrf ⟨x, rfl⟩
                  · have e0 := hD ⟨1, Ground.data⟩ (by simp) rfl _ 78 rfl rfl
                    obtain ⟨mm, hmm, e1⟩ := hD ⟨6, Ground.data⟩ (by simp) rfl _ 83 rfl rfl
                    simp [kIs] at e0 e1
                    obtain ⟨A1, n1, cc1, hv1, hn1, hn2, hA1⟩ := hIu
                    injection hv1 with h1 h2 h3
                    subst h1 h2 h3
                    rcases hA1 with ⟨_, hz0, _⟩ | ⟨gA, rfl, hbA, hcA, hmA, hIB⟩
                    · omega
                    have hmn : (mm : Int) < (nn : Int) := by omega
                    clear hU hD
                    go_simp
                    exact Typed2.mk _ rfl (hnx _) hrf ⟨gA, mm, _, _, rfl, hbA, by omega, hIB⟩
                  · obtain ⟨x, e0⟩ := hD ⟨14, Ground.data⟩ (by simp) rfl _ 91 rfl rfl
                    obtain ⟨b, i, e, N, e1, hbb, hiN, hIB⟩ := hD ⟨15, Ground.data⟩ (by simp) rfl _ 92 rfl rfl
                    simp at e0 e1
                    obtain ⟨y, hy⟩ := hIB.at_ hiN
                    have hf := hIB.free i
                    have hch := Chg.setCell hIB hbb i x
                    clear hU hD
                    go_simp
                    exact Typed2.mk undef rfl (hch5 _ hch _) ⟨hch.ib, fun _ h => h.elim⟩ trivial
                · intro L a u hLL hC hL hN hU hs hd
                  obtain ⟨hC1, hZu, hIu, hVu, hBu⟩ := hC
                  have ht := tmps_ds [77, 78, 79, 80, 81, 82, 83, 84, 85, 86, 87, 88, 89, 90, 91, 92] rfl hs hU
                  simp [List.range, List.range.loop] at ht
                  (try generalize a.tmps[77]?.getD undef = x77 at ht)
                  (try generalize a.tmps[78]?.getD undef = x78 at ht)
                  (try generalize a.tmps[79]?.getD undef = x79 at ht)
                  (try generalize a.tmps[80]?.getD undef = x80 at ht)
                  (try generalize a.tmps[81]?.getD undef = x81 at ht)
                  (try generalize a.tmps[82]?.getD undef = x82 at ht)
                  (try generalize a.tmps[83]?.getD undef = x83 at ht)
                  (try generalize a.tmps[84]?.getD undef = x84 at ht)
                  (try generalize a.tmps[85]?.getD undef = x85 at ht)
                  (try generalize a.tmps[86]?.getD undef = x86 at ht)
                  (try generalize a.tmps[87]?.getD undef = x87 at ht)
                  (try generalize a.tmps[88]?.getD undef = x88 at ht)
                  (try generalize a.tmps[89]?.getD undef = x89 at ht)
                  (try generalize a.tmps[90]?.getD undef = x90 at ht)
                  (try generalize a.tmps[91]?.getD undef = x91 at ht)
                  (try generalize a.tmps[92]?.getD undef = x92 at ht)
                  obtain ⟨tm, df⟩ := a
                  simp only at ht hd
                  subst ht hd
                  clear hL hN hU hs
                  have hAu := hIu.is.1
                  have hTu := hVu.is.1
                  have hRu' : Rd u R (k + 22 + 1600 * m + 20 * nn + 2 + 200 * 17) := hC1.2
                  have hRu : Rd u R (k + 12000) := hRu'.more (by omega)
                  have hOu := hC1.1
                  clear hC1 hBF hZF hOF hIF hTF hRF hIu hVu hRu'
                  obtain ⟨c0, c1, c2, c3, c4⟩ := hBu.cells
                  obtain ⟨d0, d1, d2, d3, d4⟩ := hZu.cells
                  obtain ⟨x0, x1, x2, x3, x4⟩ := hZu.free
                  go_wp2
                  exact bodyPost_ret (by simp [results, Try.results57, go_sem, *]) rfl (field_fin hZu hOu hRu hlt hAu hTu (by omega) (by omega) (by omega) (by omega))
              · clear hAF hVF
                go_upto_region 18 with fail
                refine wp_region_typed2 (by kernel_rfl) (by kernel_rfl) (D16 R (k + 22 + 1600 * m + 20 * nn + 2) w w.heap.size w.heap.size g W' A nn c B m d X Y) (XT (fun _ _ => False))
                  (fun j v u => match j with
                    | 0 => kIs (.pointer (some ⟨g, 2, none⟩)) v
                    | 1 => kIs (.slice B m d) v
                    | 2 => kIs (.pointer (some ⟨R, 0, none⟩)) v
                    | 3 => kTile v
                    | 4 => kTEl w.heap.size v u
                    | _ => True) ?_ ?_ ?_ ?_
                · intro j v u u' h e
                  split at h <;> first | exact h | exact kLit.ext h e | exact kEl.ext h e | exact kTEl.ext h e | exact kNEl.ext h e
                · exact ⟨⟨hOF.drew, (show Rd w4.drew R _ from hRF).more (by omega)⟩, hZF, hIF, hTF, hBF⟩
                · intro L i o n' a u ho hn' hLi hcl hC hD hU
                  obtain ⟨hC1, hZu, hIu, hVu, hBu⟩ := hC
                  have hsz := hC1.1.size
                  have hC2 := hC1.2
                  have hRg := hC2.lt
                  have hnx : ∀ a', D16 R (k + 22 + 1600 * m + 20 * nn + 2) w w.heap.size w.heap.size g W' A nn c B m d X Y (updL L i) (n' + 1) a' u := fun _ => ⟨hC1.next, hZu, hIu, hVu, hBu⟩
                  have hon : ∀ u', Only R u u' → Rd u' R (k + 22 + 1600 * m + 20 * nn + 2 + 200 * n' + 200) → ∀ a', D16 R (k + 22 + 1600 * m + 20 * nn + 2) w w.heap.size w.heap.size g W' A nn c B m d X Y (updL L i) (n' + 1) a' u' := fun u' hO hR' _ => ⟨hC1.only hO hR', hZu.only hO (by omega), hIu.mono (ib_only hC2 hO), hVu.mono (ib_only hC2 hO), hBu.only hO (by omega)⟩
                  have han : ∀ ob a', D16 R (k + 22 + 1600 * m + 20 * nn + 2) w w.heap.size w.heap.size g W' A nn c B m d X Y (updL L i) (n' + 1) a' (u.alloc ob) := fun ob _ => ⟨hC1.alloc ob, hZu.alloc ob, hIu.mono fun _ _ _ h => h.alloc ob, hVu.mono fun _ _ _ h => h.alloc ob, hBu.alloc ob⟩
                  have hch5 : ∀ u', Chg w.heap.size u u' → ∀ a', D16 R (k + 22 + 1600 * m + 20 * nn + 2) w w.heap.size w.heap.size g W' A nn c B m d X Y (updL L i) (n' + 1) a' u' := fun u' hc _ => ⟨⟨hc.only hC1.1 (by omega), (hc.rd hC2 (by omega)).more (by omega)⟩, hZu.chg hc, hIu.mono hc.ib, hVu.mono hc.ib, hBu.chg hc⟩
                  have hrf := XT.refl (fun _ _ => False) u
                  have hex : ∀ u', Only R u u' → XT (fun _ _ => False) u u' := fun u' hO => XT.only hC2 hO (fun _ h => h.elim)
                  have hal : ∀ ob, XT (fun _ _ => False) u (u.alloc ob) := fun ob => XT.alloc ob (fun _ h => h.elim)
                  have hi : i < 6 := (Array.getElem?_eq_some_iff.1 ho).1
                  replace hn' : n' < 6 := hn'
                  obtain rfl | rfl | rfl | rfl | rfl | rfl : i = 0 ∨ i = 1 ∨ i = 2 ∨ i = 3 ∨ i = 4 ∨ i = 5 := by omega
                  all_goals (simp only [List.getElem?_toArray, List.getElem?_cons_zero, List.getElem?_cons_succ, Option.some.injEq] at ho; subst ho)
                  all_goals clear hi hcl
                  all_goals (try (have hnx := hnx0 (by decide); have hon := hon0 (by decide); have han := han0 (by decide)))
                  · have u5 := hU 5 (not_written (by kernel_rfl))
                    simp at u5
                    clear hU hD
                    go_simp
                    exact Typed2.mk _ rfl (hnx _) hrf rfl
                  · have e0 := hD ⟨0, Ground.data⟩ (by simp) rfl _ 95 rfl rfl
                    simp [kIs] at e0
                    obtain ⟨c0, c1, c2, c3, c4⟩ := hBu.cells
                    clear hU hD
                    go_simp
                    exact Typed2.mk _ rfl (hnx _) hrf rfl
                  · have u0 := hU 0 (not_written (by kernel_rfl))
                    simp at u0
                    clear hU hD
                    go_simp
                    exact Typed2.mk _ rfl (hnx _) hrf rfl
                  · have e0 := hD ⟨2, Ground.data⟩ (by simp) rfl _ 97 rfl rfl
                    simp [kIs] at e0
                    clear hU hD
                    go_simp
                    refine (l20Tile_c R _ _ u hC2 (by omega) (by omega) (by omega)).mono ?_
                    rintro e w' ⟨p, rfl, hO, hR'⟩
                    exact Typed2.mk _ rfl (hon _ hO hR' _) (hex _ hO) ⟨p, rfl⟩
                  · have e0 := hD ⟨1, Ground.data⟩ (by simp) rfl _ 96 rfl rfl
                    simp [kIs] at e0
                    obtain ⟨A1, n1, cc1, hv1, hn1, hn2, hA1⟩ := hVu
                    injection hv1 with h1 h2 h3
                    subst h1 h2 h3
                    rcases hA1 with ⟨_, hz0, _⟩ | ⟨gA, rfl, hbA, hcA, hmA, hIB⟩
                    · omega
                    have hmn : 0 < m := by omega
                    clear hU hD
                    go_simp
                    refine Typed2.mk _ rfl (hnx _) hrf ?_
                    exact (⟨gA, _, _, rfl, hbA, by omega, hIB⟩ : kTEl _ _ _)
                  · obtain ⟨p, e0⟩ := hD ⟨3, Ground.data⟩ (by simp) rfl _ 98 rfl rfl
                    obtain ⟨b, e, N, e1, hbb, hiN, hIB⟩ := hD ⟨4, Ground.data⟩ (by simp) rfl _ 99 rfl rfl
                    simp at e0 e1
                    have hch := setCells_chg (tv p).toList 0 u hIB hbb (tv_isI p)
                    clear hU hD
                    refine wp_store_mid 36 _ _ rfl b 0 (tv p) (by simp [Act.eval, e1]) (by simp [Act.eval, e0]) (fun j hj => ⟨?_, hIB.free _⟩) (by rw [tv_size]; exact size36) (tv_one p) ?_
                    · obtain ⟨y, hy⟩ := hIB.at_ (j := 0 + j) (by rw [tv_size] at hj; omega)
                      rw [hy]; rfl
                    · exact Typed2.mk undef rfl (hch5 _ hch _) ⟨hch.ib, fun _ h => h.elim⟩ trivial
                · intro L a u hLL hC hL hN hU hs hd
                  obtain ⟨hC1, hZu, hIu, hVu, hBu⟩ := hC
                  have ht := tmps_ds [95, 96, 97, 98, 99] rfl hs hU
                  simp [List.range, List.range.loop] at ht
                  (try generalize a.tmps[95]?.getD undef = x95 at ht)
                  (try generalize a.tmps[96]?.getD undef = x96 at ht)
                  (try generalize a.tmps[97]?.getD undef = x97 at ht)
                  (try generalize a.tmps[98]?.getD undef = x98 at ht)
                  (try generalize a.tmps[99]?.getD undef = x99 at ht)
                  obtain ⟨tm, df⟩ := a
                  simp only at ht hd
                  subst ht hd
                  clear hL hN hU hs
                  have hAu := hIu.is.1
                  have hTu := hVu.is.1
                  have hRu' : Rd u R (k + 22 + 1600 * m + 20 * nn + 2 + 200 * 6) := hC1.2
                  have hRu : Rd u R (k + 12000) := hRu'.more (by omega)
                  have hOu := hC1.1
                  clear hC1 hBF hZF hOF hIF hTF hRF hIu hVu hRu'
                  obtain ⟨c0, c1, c2, c3, c4⟩ := hBu.cells
                  obtain ⟨d0, d1, d2, d3, d4⟩ := hZu.cells
                  obtain ⟨x0, x1, x2, x3, x4⟩ := hZu.free
                  go_wp2
                  exact bodyPost_ret (by simp [results, Try.results57, go_sem, *]) rfl (field_fin hZu hOu hRu hlt hAu hTu (by omega) (by omega) (by omega) (by omega))
              · clear hIF hTF
                go_wp2_with fail
                have hRa := hRF.alloc (.cells #[.int .i64 (-1), .int .i64 256] 3)
                refine (pick_c _ _ _ _ hRa (by omega) (by omega) (by omega)).mono ?_
                rintro e w6 ⟨mm, hmm, rfl, hO6, hR6⟩
                obtain ⟨x, hx, _, _⟩ := hO6.int_new (m := mm) (lo := -1) (hi := 256) (by omega) (by simp <;> omega) (by simp <;> omega)
                have hm6 := ib_only hRa hO6
                have hBG := (hBF.alloc (.cells #[.int .i64 (-1), .int .i64 256] 3)).only hO6 (by omega)
                have hZG := (hZF.alloc (.cells #[.int .i64 (-1), .int .i64 256] 3)).only hO6 (by omega)
                have hOG := (hOF.alloc (.cells #[.int .i64 (-1), .int .i64 256] 3)).trans hO6
                have hAG := (hAF.mono (u' := w4.alloc (.cells #[.int .i64 (-1), .int .i64 256] 3)) (fun _ _ _ h => h.alloc _)).mono hm6
                have hVG := (hVF.mono (u' := w4.alloc (.cells #[.int .i64 (-1), .int .i64 256] 3)) (fun _ _ _ h => h.alloc _)).mono hm6
                have hs6 := hOG.size
                have hgb6 := hBG.lt
                have hib : ∀ b e N, IB w6 b e N → IB (w6.setCell ⟨g, 3, none⟩ (.int .i64 x)) b e N := fun b e N h => h.setCell _ _ _
                clear hRa hRF hO6 hBF hZF hOF hm6 hAF hVF
                obtain ⟨c0, c1, c2, c3, c4⟩ := hBG.cells
                obtain ⟨y0, y1, y2, y3, y4⟩ := hBG.free
                obtain ⟨d0, d1, d2, d3, d4⟩ := hZG.cells
                obtain ⟨x0, x1, x2, x3, x4⟩ := hZG.free
                go_wp2
                exact bodyPost_ret (by simp [results, Try.results57, go_sem, *]) rfl (field_fin (hZG.far (by simp; omega) _) (hOG.setCell (.inr (by simp; omega)) _) ((hR6.more (by omega)).setCell (by simp; omega) _) hlt (hAG.mono hib) (hVG.mono hib) (by omega) (by omega) (by omega) (by omega))
              · clear hAF hTF
                obtain ⟨A1, n1, cc1, hv1, hn1, hn2, hA1⟩ := hIF
                injection hv1 with h1 h2 h3
                subst h1 h2 h3
                rcases hA1 with ⟨_, hz0, _⟩ | ⟨gA, rfl, hbA, hcA, hmA, hIB⟩
                · omega
                have j1 : (1 : Int) ≤ (nn : Int) := by omega
                have j2 : (1 : Int) ≤ (c : Int) := by omega
                obtain ⟨c0, c1, c2, c3, c4⟩ := hBF.cells
                obtain ⟨y0, y1, y2, y3, y4⟩ := hBF.free
                obtain ⟨d0, d1, d2, d3, d4⟩ := hZF.cells
                obtain ⟨x0, x1, x2, x3, x4⟩ := hZF.free
                have hfar : ∀ v, ∀ b e N, IB w4 b e N → IB (w4.setCell ⟨g, 1, none⟩ v) b e N := fun v b e N h => h.far (by
                  rintro rfl
                  exact hBF.notIB h) _
                by_cases hc1 : c = 1
                · subst hc1
                  obtain rfl : nn = 1 := by omega
                  go_wp2
                  exact bodyPost_ret (by simp [results, Try.results57, go_sem, *]) rfl (field_fin (hZF.far (by simp; omega) _) (hOF.setCell (.inr (by simp; omega)) _) ((hRF.more (by omega)).setCell (by simp; omega) _) hlt (.inl rfl) (hVF.mono (hfar _)) (by omega) (by omega) (by omega) (by omega))
                · go_wp2
                  exact bodyPost_ret (by simp [results, Try.results57, go_sem, *]) rfl (field_fin (hZF.far (by simp; omega) _) (hOF.setCell (.inr (by simp; omega)) _) ((hRF.more (by omega)).setCell (by simp; omega) _) hlt (.inr ⟨gA, 1, _, _, rfl, hbA, hfar _ _ _ _ hIB, by omega⟩) (hVF.mono (hfar _)) (by omega) (by omega) (by omega) (by omega))
              · clear hIF hTF
                obtain ⟨c0, c1, c2, c3, c4⟩ := hBF.cells
                obtain ⟨y0, y1, y2, y3, y4⟩ := hBF.free
                obtain ⟨d0, d1, d2, d3, d4⟩ := hZF.cells
                obtain ⟨x0, x1, x2, x3, x4⟩ := hZF.free
                have hfar : ∀ v, ∀ b e N, IB w4 b e N → IB (w4.setCell ⟨g, 2, none⟩ v) b e N := fun v b e N h => h.far (by
                  rintro rfl
                  exact hBF.notIB h) _
                have q1 : w.heap.size < w4.heap.size := by omega
                have q2 : w.heap.size ≠ w4.heap.size := by omega
                have q3 : g ≠ w4.heap.size := by omega
                go_wp2
                have hfin : DField R k w (.returned (fdV W' A nn c (some ⟨w4.heap.size, 0, none⟩) 0 0 X Y)) _ := field_fin (hZF.far (by simp; omega) (.slice (some ⟨w4.heap.size, 0, none⟩) 0 0)) (hOF.setCell (.inr (by simp; omega)) _) ((hRF.more (by omega)).setCell (by simp; omega) _) hlt (hAF.mono (hfar _)) (.inl rfl) hAc (Nat.le_refl 0) (by omega) (by omega)
                exact bodyPost_ret (by simp [results, Try.results57, go_sem, *]) rfl (hfin.alloc _)
          · have hB0 := hB
            have hjp : 0 < (j : Int) := by omega
            go_upto_region 9 with fail
            refine wp_region_typed2 (by kernel_rfl) (by kernel_rfl) (D9 R (k + 22 + 1600 * m + 20 * nn) w w.heap.size w.heap.size g W' A nn c B m d X Y) (XT (fun _ _ => False))
              (fun j v u => match j with
                | 0 | 9 => kIs (.pointer (some ⟨g, 1, none⟩)) v
                | 1 => kIs (.slice A nn c) v
                | 2 => kIs (.pointer (some ⟨R, 0, none⟩)) v
                | 3 => kIs (.pointer (some ⟨g, 2, none⟩)) v
                | 4 => kIs (.slice B m d) v
                | 5 => kIs (.int .i64 m) v
                | 6 => kNat m v
                | 7 => kLit w.heap.size 3 1 1 v u
                | 8 => OV u w.heap.size 3 1 (nn + 1) (nn + 1) v
                | _ => True) ?_ ?_ ?_ ?_
            · intro j v u u' h e
              split at h <;> first | exact h | exact kLit.ext h e | exact OV.ext h e
            · exact ⟨⟨hO.drew, (show Rd wr.drew R _ from hRr).more (by omega)⟩, hZ, hI, hV, fun _ => hB, fun h => by cases h⟩
            · intro L i o n' a u ho hn' hLi hcl hC hD hU
              obtain ⟨hC1, hZu, hIu, hVu, hBu, _⟩ := hC
              have hsz := hC1.1.size
              have hC2 := hC1.2
              have hlast : L 10 = false := last_false hcl 10 (by kernel_rfl) (show i < 11 from (Array.getElem?_eq_some_iff.1 ho).1) hLi
              replace hBu := hBu hlast
              have hRg := hC2.lt
              have hnx0 : i ≠ 10 → ∀ a', D9 R (k + 22 + 1600 * m + 20 * nn) w w.heap.size w.heap.size g W' A nn c B m d X Y (updL L i) (n' + 1) a' u := fun hi => D9.step hlast hi hC1.next hZu hIu hVu hBu
              have hon0 : i ≠ 10 → ∀ u', Only R u u' → Rd u' R (k + 22 + 1600 * m + 20 * nn + n' + 1) → ∀ a', D9 R (k + 22 + 1600 * m + 20 * nn) w w.heap.size w.heap.size g W' A nn c B m d X Y (updL L i) (n' + 1) a' u' := fun hi u' hO hR' => D9.step hlast hi (hC1.only hO hR') (hZu.only hO (by omega)) (hIu.mono (ib_only hC2 hO)) (hVu.mono (ib_only hC2 hO)) (hBu.only hO (by omega))
              have han0 : i ≠ 10 → ∀ ob a', D9 R (k + 22 + 1600 * m + 20 * nn) w w.heap.size w.heap.size g W' A nn c B m d X Y (updL L i) (n' + 1) a' (u.alloc ob) := fun hi ob => D9.step hlast hi (hC1.alloc ob) (hZu.alloc ob) (hIu.mono fun _ _ _ h => h.alloc ob) (hVu.mono fun _ _ _ h => h.alloc ob) (hBu.alloc ob)
              have hch5 : i ≠ 10 → ∀ u', Chg w.heap.size u u' → ∀ a', D9 R (k + 22 + 1600 * m + 20 * nn) w w.heap.size w.heap.size g W' A nn c B m d X Y (updL L i) (n' + 1) a' u' := fun hi u' hc => D9.step hlast hi ⟨hc.only hC1.1 (by omega), (hc.rd hC2 (by omega)).more (by omega)⟩ (hZu.chg hc) (hIu.mono hc.ib) (hVu.mono hc.ib) (hBu.chg hc)
              have hrf := XT.refl (fun _ _ => False) u
              have hex : ∀ u', Only R u u' → XT (fun _ _ => False) u u' := fun u' hO => XT.only hC2 hO (fun _ h => h.elim)
              have hal : ∀ ob, XT (fun _ _ => False) u (u.alloc ob) := fun ob => XT.alloc ob (fun _ h => h.elim)
              have hi : i < 11 := (Array.getElem?_eq_some_iff.1 ho).1
              replace hn' : n' < 11 := hn'
              obtain rfl | rfl | rfl | rfl | rfl | rfl | rfl | rfl | rfl | rfl | rfl : i = 0 ∨ i = 1 ∨ i = 2 ∨ i = 3 ∨ i = 4 ∨ i = 5 ∨ i = 6 ∨ i = 7 ∨ i = 8 ∨ i = 9 ∨ i = 10 := by omega
              all_goals (simp only [List.getElem?_toArray, List.getElem?_cons_zero, List.getElem?_cons_succ, Option.some.injEq] at ho; subst ho)
              all_goals clear hi hcl
              all_goals (try (have hnx := hnx0 (by decide); have hon := hon0 (by decide); have han := han0 (by decide)))
              · have u5 := hU 5 (not_written (by kernel_rfl))
                simp at u5
                clear hU hD
                go_simp
                exact Typed2.mk _ rfl (hnx _) hrf rfl
              · have e0 := hD ⟨0, Ground.data⟩ (by simp) rfl _ 50 rfl rfl
                simp [kIs] at e0
                obtain ⟨c0, c1, c2, c3, c4⟩ := hBu.cells
                clear hU hD
                go_simp
                exact Typed2.mk _ rfl (hnx _) hrf rfl
              · have u0 := hU 0 (not_written (by kernel_rfl))
                simp at u0
                clear hU hD
                go_simp
                exact Typed2.mk _ rfl (hnx _) hrf rfl
              · have u5 := hU 5 (not_written (by kernel_rfl))
                simp at u5
                clear hU hD
                go_simp
                exact Typed2.mk _ rfl (hnx _) hrf rfl
              · have e0 := hD ⟨3, Ground.data⟩ (by simp) rfl _ 53 rfl rfl
                simp [kIs] at e0
                obtain ⟨c0, c1, c2, c3, c4⟩ := hBu.cells
                clear hU hD
                go_simp
                exact Typed2.mk _ rfl (hnx _) hrf rfl
              · have e0 := hD ⟨4, Ground.data⟩ (by simp) rfl _ 54 rfl rfl
                simp [kIs] at e0
                clear hU hD
                go_simp
                exact Typed2.mk _ rfl (hnx _) hrf rfl
              · have e1 := hD ⟨5, Ground.data⟩ (by simp) rfl _ 55 rfl rfl
                simp [kIs] at e1
                have e0 := hD ⟨2, Ground.data⟩ (by simp) rfl _ 52 rfl rfl
                simp [kIs] at e0
                clear hU hD
                go_simp
                refine (pick_c R m _ u hC2 (by omega) (by omega) (by omega)).mono ?_
                rintro e w' ⟨m, hm, rfl, hO, hR'⟩
                exact Typed2.mk _ rfl (hon _ hO hR' _) (hex _ hO) ⟨m, hm, rfl⟩
              · obtain ⟨x, hx, e0⟩ := hD ⟨6, Ground.data⟩ (by simp) rfl _ 56 rfl rfl
                simp at e0
                clear hU hD
                go_simp
                exact Typed2.mk _ rfl (han _ _) (hal _) (kLit.new (by omega) _ _ rfl (by simp [IsI]))
              · obtain ⟨b, e0, hbb, hI'⟩ := hD ⟨7, Ground.data⟩ (by simp) rfl _ 57 rfl rfl
                have e1 := hD ⟨1, Ground.data⟩ (by simp) rfl _ 51 rfl rfl
                simp [kIs] at e0 e1
                clear hU hD
                refine oper_append (base := w.heap.size) (lo := nn) (hi := nn) (b := b) rfl Try.underlying23 info3 rfl (by simp [Value.cells, IsI]) (by omega) (by omega) (by simpa [Act.eval, e1] using hIu) (by omega) (by omega) (by simp [Act.eval, e0]) hI' ?_
                intro v' w' hv' hch
                exact Typed2.mk _ rfl (hch5 (by decide) _ hch _) ⟨hch.ib, fun _ h => h.elim⟩ hv'
              · have u5 := hU 5 (not_written (by kernel_rfl))
                simp at u5
                clear hU hD
                go_simp
                exact Typed2.mk _ rfl (hnx _) hrf rfl
              · obtain ⟨A', n3, c2, e38, hn1, hn2, hA⟩ := hD ⟨8, Ground.data⟩ (by simp) rfl _ 58 rfl rfl
                obtain rfl : n3 = nn + 1 := by omega
                have e39 := hD ⟨9, Ground.data⟩ (by simp) rfl _ 59 rfl rfl
                simp [kIs] at e38 e39
                obtain ⟨c0, c1, c2', c3, c4⟩ := hBu.cells
                obtain ⟨y0, y1, y2, y3, y4⟩ := hBu.free
                have hib : ∀ b e N, IB u b e N → IB (u.setCell ⟨g, 1, none⟩ (.slice A' (nn + 1) c2)) b e N := fun b e N h => h.far (by
                  rintro rfl
                  exact hBu.notIB h) _
                clear hU hD
                go_simp
                refine Typed2.mk undef rfl ⟨⟨hC1.1.setCell (.inr (by simp; omega)) _, (hC2.more (by omega)).setCell (by simp; omega) _⟩, hZu.far (by simp; omega) _, hIu.mono hib, hVu.mono hib, fun e => ?_, fun _ => ⟨A', c2, hBu.put1 _ _ _, ?_⟩⟩ ⟨hib, fun _ h => h.elim⟩ trivial
                · rw [updL_eq] at e; cases e
                · exact OV.mono ⟨A', nn + 1, c2, rfl, hn1, hn2, hA⟩ hib
            · intro L a u hLL hC hL hN hU hs hd
              obtain ⟨hC1, hZu, _, hVu, _, hG⟩ := hC
              obtain ⟨A', c', hB', hI'⟩ := hG (hLL 10 (by decide))
              have ht := tmps_ds [50, 51, 52, 53, 54, 55, 56, 57, 58, 59] rfl hs hU
              simp [List.range, List.range.loop] at ht
              (try generalize a.tmps[50]?.getD undef = x50 at ht)
              (try generalize a.tmps[51]?.getD undef = x51 at ht)
              (try generalize a.tmps[52]?.getD undef = x52 at ht)
              (try generalize a.tmps[53]?.getD undef = x53 at ht)
              (try generalize a.tmps[54]?.getD undef = x54 at ht)
              (try generalize a.tmps[55]?.getD undef = x55 at ht)
              (try generalize a.tmps[56]?.getD undef = x56 at ht)
              (try generalize a.tmps[57]?.getD undef = x57 at ht)
              (try generalize a.tmps[58]?.getD undef = x58 at ht)
              (try generalize a.tmps[59]?.getD undef = x59 at ht)
              obtain ⟨tm, df⟩ := a
              simp only at ht hd
              subst ht hd
              clear hL hN hU hs
              have hR1 : Rd u R (k + 22 + 1600 * m + 20 * nn + 11) := hC1.2
              have hO1 := hC1.1
              clear hC1 hG hB0 hB hV hZ hO hRr hI
              go_wp2_with fail
              go_roundw
              case rel => exact ⟨j - 1, nn + 1, c', A', by omega, by omega, by go_num, hB', hI', hVu, hZu, hR1.more (by omega), hO1⟩
              case measure => simp [intOf]; omega
      · have hB0 := hB
        have hjp : 0 < (j : Int) := by omega
        go_upto_region 5 with fail
        have hgb := hB.lt
        have hOs := hO.size
        refine wp_region_typed2 (by kernel_rfl) (by kernel_rfl) (D5 R (k + 21 + 1600 * m) w w.heap.size w.heap.size g W' B m d X Y) (XT (fun _ _ => False))
          (fun j v u => match j with
            | 0 | 6 => kIs (.pointer (some ⟨g, 2, none⟩)) v
            | 1 => kIs (.slice B m d) v
            | 2 => kIs (.pointer (some ⟨R, 0, none⟩)) v
            | 3 => kTile v
            | 4 => kLit w.heap.size 36 1 64 v u
            | 5 => OV u w.heap.size 36 64 (m + 1) (m + 1) v
            | _ => True) ?_ ?_ ?_ ?_
        · intro j v u u' h e
          split at h <;> first | exact h | exact kLit.ext h e | exact OV.ext h e
        · exact ⟨⟨hO.drew, (show Rd wr.drew R _ from hRr).more (by omega)⟩, hZ, hV, fun _ => hB, fun h => by cases h⟩
        · intro L i o n' a u ho hn' hLi hcl hC hD hU
          obtain ⟨hC1, hZu, hVu, hBu, _⟩ := hC
          have hsz := hC1.1.size
          have hC2 := hC1.2
          have hlast : L 7 = false := last_false hcl 7 (by kernel_rfl) (show i < 8 from (Array.getElem?_eq_some_iff.1 ho).1) hLi
          replace hBu := hBu hlast
          have hRg := hC2.lt
          have hnx0 : i ≠ 7 → ∀ a', D5 R (k + 21 + 1600 * m) w w.heap.size w.heap.size g W' B m d X Y (updL L i) (n' + 1) a' u := fun hi => D5.step hlast hi hC1.next hZu hVu hBu
          have hon0 : i ≠ 7 → ∀ u', Only R u u' → Rd u' R (k + 21 + 1600 * m + 200 * n' + 200) → ∀ a', D5 R (k + 21 + 1600 * m) w w.heap.size w.heap.size g W' B m d X Y (updL L i) (n' + 1) a' u' := fun hi u' hO hR' => D5.step hlast hi (hC1.only hO hR') (hZu.only hO (by omega)) (hVu.mono (ib_only hC2 hO)) (hBu.only hO (by omega))
          have han0 : i ≠ 7 → ∀ ob a', D5 R (k + 21 + 1600 * m) w w.heap.size w.heap.size g W' B m d X Y (updL L i) (n' + 1) a' (u.alloc ob) := fun hi ob => D5.step hlast hi (hC1.alloc ob) (hZu.alloc ob) (hVu.mono fun _ _ _ h => h.alloc ob) (hBu.alloc ob)
          have hch5 : i ≠ 7 → ∀ u', Chg w.heap.size u u' → ∀ a', D5 R (k + 21 + 1600 * m) w w.heap.size w.heap.size g W' B m d X Y (updL L i) (n' + 1) a' u' := fun hi u' hc => D5.step hlast hi ⟨hc.only hC1.1 (by omega), (hc.rd hC2 (by omega)).more (by omega)⟩ (hZu.chg hc) (hVu.mono hc.ib) (hBu.chg hc)
          have hrf := XT.refl (fun _ _ => False) u
          have hex : ∀ u', Only R u u' → XT (fun _ _ => False) u u' := fun u' hO => XT.only hC2 hO (fun _ h => h.elim)
          have hal : ∀ ob, XT (fun _ _ => False) u (u.alloc ob) := fun ob => XT.alloc ob (fun _ h => h.elim)
          have hi : i < 8 := (Array.getElem?_eq_some_iff.1 ho).1
          replace hn' : n' < 8 := hn'
          obtain rfl | rfl | rfl | rfl | rfl | rfl | rfl | rfl : i = 0 ∨ i = 1 ∨ i = 2 ∨ i = 3 ∨ i = 4 ∨ i = 5 ∨ i = 6 ∨ i = 7 := by omega
          all_goals (simp only [List.getElem?_toArray, List.getElem?_cons_zero, List.getElem?_cons_succ, Option.some.injEq] at ho; subst ho)
          all_goals clear hi hcl
          all_goals (try (have hnx := hnx0 (by decide); have hon := hon0 (by decide); have han := han0 (by decide)))
          · have u5 := hU 5 (not_written (by kernel_rfl))
            simp at u5
            clear hU hD
            go_simp
            exact Typed2.mk _ rfl (hnx _) hrf rfl
          · have e0 := hD ⟨0, Ground.data⟩ (by simp) rfl _ 33 rfl rfl
            simp [kIs] at e0
            obtain ⟨c0, c1, c2, c3, c4⟩ := hBu.cells
            clear hU hD
            go_simp
            exact Typed2.mk _ rfl (hnx _) hrf rfl
          · have u0 := hU 0 (not_written (by kernel_rfl))
            simp at u0
            clear hU hD
            go_simp
            exact Typed2.mk _ rfl (hnx _) hrf rfl
          · have e0 := hD ⟨2, Ground.data⟩ (by simp) rfl _ 35 rfl rfl
            simp [kIs] at e0
            clear hU hD
            go_simp
            refine (l20Tile_c R _ _ u hC2 (by omega) (by omega) (by omega)).mono ?_
            rintro e w' ⟨p, rfl, hO, hR'⟩
            exact Typed2.mk _ rfl (hon _ hO hR' _) (hex _ hO) ⟨p, rfl⟩
          · obtain ⟨p, e0⟩ := hD ⟨3, Ground.data⟩ (by simp) rfl _ 36 rfl rfl
            simp at e0
            clear hU hD
            refine typed_run (.slice (some ⟨u.heap.size, 0, none⟩) 1 1) (u.alloc (.cells (tv p) 36)) (by simp [execOp, Act.eval, e0, Sem.run_bind, lit_tile]) ?_
            exact Typed2.mk _ rfl (han _ _) (hal _) (kLit.new (by omega) _ _ (tv_size p) (tv_isI p))
          · obtain ⟨b, e0, hbb, hI⟩ := hD ⟨4, Ground.data⟩ (by simp) rfl _ 37 rfl rfl
            have e1 := hD ⟨1, Ground.data⟩ (by simp) rfl _ 34 rfl rfl
            simp [kIs] at e0 e1
            clear hU hD
            refine oper_append (base := w.heap.size) (lo := m) (hi := m) (b := b) rfl Try.underlying24 info36 (tv_size _) (tv_isI _) (by omega) (by omega) (by simpa [Act.eval, e1] using hVu) (by omega) (by omega) (by simp [Act.eval, e0]) hI ?_
            intro v' w' hv' hch
            exact Typed2.mk _ rfl (hch5 (by decide) _ hch _) ⟨hch.ib, fun _ h => h.elim⟩ hv'
          · have u5 := hU 5 (not_written (by kernel_rfl))
            simp at u5
            clear hU hD
            go_simp
            exact Typed2.mk _ rfl (hnx _) hrf rfl
          · obtain ⟨B', n2, c2, e38, hn1, hn2, hA⟩ := hD ⟨5, Ground.data⟩ (by simp) rfl _ 38 rfl rfl
            obtain rfl : n2 = m + 1 := by omega
            have e39 := hD ⟨6, Ground.data⟩ (by simp) rfl _ 39 rfl rfl
            simp [kIs] at e38 e39
            obtain ⟨c0, c1, c2', c3, c4⟩ := hBu.cells
            obtain ⟨y0, y1, y2, y3, y4⟩ := hBu.free
            have hib : ∀ b e N, IB u b e N → IB (u.setCell ⟨g, 2, none⟩ (.slice B' (m + 1) c2)) b e N := fun b e N h => h.far (by
              rintro rfl
              exact hBu.notIB h) _
            clear hU hD
            go_simp
            refine Typed2.mk undef rfl ⟨⟨hC1.1.setCell (.inr (by simp; omega)) _, (hC2.more (by omega)).setCell (by simp; omega) _⟩, hZu.far (by simp; omega) _, hVu.mono hib, fun e => ?_, fun _ => ⟨B', c2, hBu.put2 _ _ _, ?_⟩⟩ ⟨hib, fun _ h => h.elim⟩ trivial
            · rw [updL_eq] at e; cases e
            · exact OV.mono ⟨B', m + 1, c2, rfl, hn1, hn2, hA⟩ hib
        · intro L a u hLL hC hL hN hU hs hd
          obtain ⟨hC1, hZu, _, _, hG⟩ := hC
          obtain ⟨B', d', hB', hV'⟩ := hG (hLL 7 (by decide))
          have ht := tmps_ds [33, 34, 35, 36, 37, 38, 39] rfl hs hU
          simp [List.range, List.range.loop] at ht
          (try generalize a.tmps[33]?.getD undef = x33 at ht)
          (try generalize a.tmps[34]?.getD undef = x34 at ht)
          (try generalize a.tmps[35]?.getD undef = x35 at ht)
          (try generalize a.tmps[36]?.getD undef = x36 at ht)
          (try generalize a.tmps[37]?.getD undef = x37 at ht)
          (try generalize a.tmps[38]?.getD undef = x38 at ht)
          (try generalize a.tmps[39]?.getD undef = x39 at ht)
          obtain ⟨tm, df⟩ := a
          simp only at ht hd
          subst ht hd
          clear hL hN hU hs
          have hR1 : Rd u R (k + 21 + 1600 * m + 200 * 8) := hC1.2
          have hO1 := hC1.1
          clear hC1 hG hB0 hB hV hZ hO hRr
          go_wp2_with fail
          go_roundw
          case rel => exact ⟨j - 1, m + 1, d', B', by omega, by omega, by go_num, hB', hV', hZu, hR1.more (by omega), hO1⟩
          case measure => simp [intOf]; omega
end Go.Proofs.Ytabioinmpjfflaa
