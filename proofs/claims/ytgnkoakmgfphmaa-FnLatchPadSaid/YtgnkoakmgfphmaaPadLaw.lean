/-
  Plain laws of bytes, and what CountOnes returns. No conditions.
-/
import Derived.Test.YtgnkoakmgfphmaaPad
import Derived.Lib.BitFns
namespace Go.Proofs.Ytgnkoakmgfphmaa
set_option linter.all false
set_option linter.unusedSimpArgs false
set_option linter.unusedVariables false
open Go.ChangeShapes Go.WideShapes Go.ChangeAt Go.RowKit

theorem ones8_c (x : Int) (h0 : 0 ≤ x) (h1 : x ≤ 255) (w : World) : Calls Try.prog 42 #[.int .u8 x] w fun e w' => e = .returned (.int .i64 (Lib.onesCount x.toNat)) ∧ w = w' := by
  have e := Lib.pop8_int x h0 h1
  go_enter Try.func42, Try.ntmps42
  go_wp2
  go_ret
  exact ⟨ret_int (by unfold wrap64; exact e), rfl⟩

theorem countOnes_c (x : Int) (h0 : 0 ≤ x) (h1 : x ≤ 255) (w : World) : Calls Try.prog 30 #[.int .i64 x] w fun e w' => e = .returned (.int .i64 (Lib.onesCount x.toNat)) ∧ w = w' := by
  have h : inB x 0 255 = true := inB_true.2 ⟨h0, h1⟩
  have H := Lib.hid h
  clear h
  go_enter Try.func30, Try.ntmps30
  go_wp2_with (first | (go_at_call 35; refine (isByte_c _ _ H.out _).mono ?_; rintro e w1 ⟨rfl, rfl⟩) | (go_at_call 42; refine (ones8_c _ (by omega) (by omega) _).mono ?_; rintro e w1 ⟨rfl, rfl⟩))
  go_ret
  exact ⟨rfl, rfl⟩

theorem lawByte_c (n : Int) (b : Bool) (h : inB n 0 255 = b) (w : World) : Calls Try.prog 27 #[.int .i64 n] w fun e w' => e = .returned (.bool b) ∧ w = w' := by
  subst h
  by_cases h1 : 0 ≤ n <;> by_cases h2 : n ≤ 255 <;> (go_enter Try.func27, Try.ntmps27; go_wp2; go_ret; exact ⟨by simp [inB, h1, h2], rfl⟩)

/-! ### Bits -/
theorem ofInt_wrap (X : BitVec 64) : BitVec.ofInt 64 (IntKind.i64.wrap (X.toNat : Int)) = X := by
  apply BitVec.eq_of_toNat_eq
  have hX := X.isLt
  rw [IntKind.wrap_i64, BitVec.toNat_ofInt]
  omega
theorem wrap_ofInt (b : Int) (h0 : -9223372036854775808 ≤ b) (h1 : b ≤ 9223372036854775807) : IntKind.i64.wrap ((BitVec.ofInt 64 b).toNat : Int) = b := by
  rw [IntKind.wrap_i64, BitVec.toNat_ofInt]
  omega
theorem andNot_eq (b a : Int) : bits .andNot .i64 b a = IntKind.i64.wrap ((BitVec.ofInt 64 b &&& ~~~ BitVec.ofInt 64 a).toNat : Int) := rfl
theorem and_eq (b a : Int) : bits .and .i64 b a = IntKind.i64.wrap ((BitVec.ofInt 64 b &&& BitVec.ofInt 64 a).toNat : Int) := rfl
theorem or_eq (b a : Int) : bits .or .i64 b a = IntKind.i64.wrap ((BitVec.ofInt 64 b ||| BitVec.ofInt 64 a).toNat : Int) := rfl

section
variable (A B : BitVec 64)
theorem bv1 : (B &&& ~~~ A) &&& B = B &&& ~~~ A := by
  ext i h; simp only [BitVec.getElem_and, BitVec.getElem_not]; cases B[i] <;> cases A[i] <;> rfl
theorem bv2 : (B &&& ~~~ A) &&& A = 0#64 := by
  ext i h; simp only [BitVec.getElem_and, BitVec.getElem_not, BitVec.getElem_zero]; cases B[i] <;> cases A[i] <;> rfl
theorem bv3 : ((B &&& ~~~ A) ||| A) &&& B = B := by
  ext i h; simp only [BitVec.getElem_and, BitVec.getElem_or, BitVec.getElem_not]; cases B[i] <;> cases A[i] <;> rfl
theorem bv4 : (B &&& ~~~ A) ||| (A &&& B) = B := by
  ext i h; simp only [BitVec.getElem_and, BitVec.getElem_or, BitVec.getElem_not]; cases B[i] <;> cases A[i] <;> rfl
theorem bv5 : B &&& ~~~ 0#64 = B := by
  ext i h; simp only [BitVec.getElem_and, BitVec.getElem_not, BitVec.getElem_zero]; cases B[i] <;> rfl
theorem bv6 : A &&& ~~~ A = 0#64 := by
  ext i h; simp only [BitVec.getElem_and, BitVec.getElem_not, BitVec.getElem_zero]; cases A[i] <;> rfl
theorem bv7 : B &&& ~~~ A = B ^^^ (A &&& B) := by
  ext i h; simp only [BitVec.getElem_and, BitVec.getElem_xor, BitVec.getElem_not]; cases B[i] <;> cases A[i] <;> rfl
end
theorem law1 (a b : Int) : bits .and .i64 (bits .andNot .i64 b a) b = bits .andNot .i64 b a := by
  rw [and_eq, andNot_eq, ofInt_wrap, bv1]
theorem law2 (a b : Int) : bits .and .i64 (bits .andNot .i64 b a) a = 0 := by
  rw [and_eq, andNot_eq, ofInt_wrap, bv2]; decide
theorem law3 (a b : Int) (h0 : 0 ≤ b) (h1 : b ≤ 255) : bits .and .i64 (bits .or .i64 (bits .andNot .i64 b a) a) b = b := by
  rw [and_eq, or_eq, andNot_eq, ofInt_wrap, ofInt_wrap, bv3, wrap_ofInt b (by omega) (by omega)]
theorem law4 (a b : Int) (h0 : 0 ≤ b) (h1 : b ≤ 255) : bits .or .i64 (bits .andNot .i64 b a) (bits .and .i64 a b) = b := by
  rw [and_eq, or_eq, andNot_eq, ofInt_wrap, ofInt_wrap, bv4, wrap_ofInt b (by omega) (by omega)]
theorem law5 (b : Int) (h0 : 0 ≤ b) (h1 : b ≤ 255) : bits .andNot .i64 b 0 = b := by
  rw [andNot_eq, show BitVec.ofInt 64 0 = 0#64 from rfl, bv5, wrap_ofInt b (by omega) (by omega)]
theorem law6 (a : Int) : bits .andNot .i64 a a = 0 := by
  rw [andNot_eq, bv6]; decide

theorem and_nat (a b : Nat) (ha : a < 256) (hb : b < 256) : bits .and .i64 (a : Int) (b : Int) = ((a &&& b : Nat) : Int) := by
  have hx : a &&& b < 2 ^ 8 := Nat.and_lt_two_pow _ (by omega)
  rw [and_eq, BitVec.toNat_and, BitVec.toNat_ofInt, BitVec.toNat_ofInt, IntKind.wrap_i64]
  have e1 : ((a : Int) % ((2 ^ 64 : Nat) : Int)).toNat = a := by omega
  have e2 : ((b : Int) % ((2 ^ 64 : Nat) : Int)).toNat = b := by omega
  rw [e1, e2]
  omega
theorem andNot_nat (a b : Nat) (ha : a < 256) (hb : b < 256) : bits .andNot .i64 (b : Int) (a : Int) = ((b ^^^ (a &&& b) : Nat) : Int) := by
  have hx : a &&& b < 2 ^ 8 := Nat.and_lt_two_pow _ (by omega)
  have hy : b ^^^ (a &&& b) < 2 ^ 8 := Nat.xor_lt_two_pow (by omega) hx
  rw [andNot_eq, bv7, BitVec.toNat_xor, BitVec.toNat_and, BitVec.toNat_ofInt, BitVec.toNat_ofInt, IntKind.wrap_i64]
  have e1 : ((a : Int) % ((2 ^ 64 : Nat) : Int)).toNat = a := by omega
  have e2 : ((b : Int) % ((2 ^ 64 : Nat) : Int)).toNat = b := by omega
  rw [e1, e2]
  omega
theorem xor_mod2 (x y : Nat) : (x ^^^ y) % 2 = (x + y) % 2 := by
  have h := Nat.xor_mod_two_pow (a := x) (b := y) (n := 1)
  simp only [Nat.pow_one] at h
  rw [h]
  rcases Nat.mod_two_eq_zero_or_one x with hx | hx <;> rcases Nat.mod_two_eq_zero_or_one y with hy | hy <;> rw [hx, hy] <;> simp <;> omega
theorem pop_split : ∀ (f a b : Nat), Lib.popAux f (b ^^^ (a &&& b)) + Lib.popAux f (a &&& b) = Lib.popAux f b
  | 0, _, _ => rfl
  | f + 1, a, b => by
    have ih := pop_split f (a / 2) (b / 2)
    have e1 : (b ^^^ (a &&& b)) / 2 = b / 2 ^^^ (a / 2 &&& b / 2) := by rw [Nat.xor_div_two, Nat.and_div_two]
    have e2 : (a &&& b) / 2 = a / 2 &&& b / 2 := Nat.and_div_two ..
    have e3 : (b ^^^ (a &&& b)) % 2 = (b + (a &&& b)) % 2 := xor_mod2 _ _
    have e4 : (a &&& b) % 2 ≤ b % 2 := by
      have := Nat.and_mod_two_pow (a := a) (b := b) (n := 1)
      simp only [Nat.pow_one] at this
      rw [this]; exact Nat.and_le_right
    simp only [Lib.popAux, e1, e2]
    omega
theorem count_split (a b : Int) (ha : 0 ≤ a) (ha' : a ≤ 255) (hb : 0 ≤ b) (hb' : b ≤ 255) :
    (0 ≤ bits .andNot .i64 b a ∧ bits .andNot .i64 b a ≤ 255) ∧ (0 ≤ bits .and .i64 a b ∧ bits .and .i64 a b ≤ 255) ∧
      (Lib.onesCount (bits .andNot .i64 b a).toNat : Int) + (Lib.onesCount (bits .and .i64 a b).toNat : Int) = (Lib.onesCount b.toNat : Int) := by
  obtain ⟨x, rfl⟩ := Int.eq_ofNat_of_zero_le ha
  obtain ⟨y, rfl⟩ := Int.eq_ofNat_of_zero_le hb
  have hx : x &&& y < 2 ^ 8 := Nat.and_lt_two_pow _ (by omega)
  have hy : y ^^^ (x &&& y) < 2 ^ 8 := Nat.xor_lt_two_pow (by omega) hx
  rw [andNot_nat x y (by omega) (by omega), and_nat x y (by omega) (by omega)]
  refine ⟨by omega, by omega, ?_⟩
  simp only [Int.toNat_natCast]
  have := pop_split 64 x y
  unfold Lib.onesCount
  omega
theorem ones_le (x : Nat) (h : x < 256) : Lib.onesCount x ≤ 8 := Lib.onesCount_le8 ⟨x, h⟩
end Go.Proofs.Ytgnkoakmgfphmaa
