/-
  Bits of small numbers, in the model's words. Nothing of the program.
-/
import Derived.Test.YtkbbkamnmdeagaaNum
import Derived.Laws.BitsAllLaws
namespace Go.Proofs.Ytkbbkamnmdeagaa
open Go.RowKit

theorem ofInt64 (a : Nat) (ha : a < 9223372036854775808) : (BitVec.ofInt 64 (a : Int)).toNat = a := by
  rw [BitVec.ofInt_natCast, BitVec.toNat_ofNat]; exact Nat.mod_eq_of_lt (by omega)
theorem ofInt8 (a : Nat) (ha : a < 256) : (BitVec.ofInt 8 (a : Int)).toNat = a := by
  rw [BitVec.ofInt_natCast, BitVec.toNat_ofNat]; exact Nat.mod_eq_of_lt (by omega)
/-- 'x & (2^t - 1)' is the remainder by 2^t. -/
theorem i64_mask (x t : Nat) (hx : x < 4611686018427387904) (ht : t ≤ 61) : bits .and .i64 (x : Int) ((2 ^ t : Nat) - 1) = ((x % 2 ^ t : Nat) : Int) := by
  have hp : 2 ^ t ≤ 2 ^ 61 := Nat.pow_le_pow_right (by omega) ht
  have hp1 : 1 ≤ 2 ^ t := Nat.one_le_two_pow
  have e : ((2 ^ t : Nat) : Int) - 1 = ((2 ^ t - 1 : Nat) : Int) := by omega
  rw [e]
  show IntKind.i64.wrap ((BitVec.ofInt 64 (x : Int) &&& BitVec.ofInt 64 ((2 ^ t - 1 : Nat) : Int)).toNat : Int) = _
  rw [BitVec.toNat_and, ofInt64 x (by omega), ofInt64 _ (by omega), Nat.and_two_pow_sub_one_eq_mod, IntKind.wrap_i64]
  have := Nat.mod_lt x (show 0 < 2 ^ t by omega)
  omega
/-- 'x | y' where y fits below x's last bit that is set. -/
theorem i64_or_low (x y t : Nat) (hx : x * 2 ^ t < 4611686018427387904) (hy : y < 2 ^ t) (ht : t ≤ 61) : bits .or .i64 ((x * 2 ^ t : Nat) : Int) (y : Int) = ((x * 2 ^ t + y : Nat) : Int) := by
  have hp : 2 ^ t ≤ 2 ^ 61 := Nat.pow_le_pow_right (by omega) ht
  show IntKind.i64.wrap ((BitVec.ofInt 64 ((x * 2 ^ t : Nat) : Int) ||| BitVec.ofInt 64 (y : Int)).toNat : Int) = _
  rw [BitVec.toNat_or, ofInt64 _ (by omega), ofInt64 y (by omega)]
  have h3 : x * 2 ^ t ||| y = x * 2 ^ t + y := by
    have := Nat.shiftLeft_add_eq_or_of_lt hy x
    rw [show x * 2 ^ t = x <<< t from by rw [Nat.shiftLeft_eq]]
    exact this.symm
  rw [h3, IntKind.wrap_i64]
  omega
theorem u8_mask7 (y : Nat) (h : y < 256) : bits .and .u8 (y : Int) 127 = ((y % 128 : Nat) : Int) := by
  have h1 : (127 : Int) = ((2 ^ 7 - 1 : Nat) : Int) := by decide
  rw [h1]
  show IntKind.u8.wrap ((BitVec.ofInt 8 (y : Int) &&& BitVec.ofInt 8 ((2 ^ 7 - 1 : Nat) : Int)).toNat : Int) = _
  rw [BitVec.toNat_and, ofInt8 y h, ofInt8 _ (by decide), Nat.and_two_pow_sub_one_eq_mod, IntKind.wrap_u8]
  omega
theorem u8_or_high (y : Nat) (h : y < 256) : bits .or .u8 (y : Int) 128 = ((y % 128 + 128 : Nat) : Int) := by
  have h1 : (128 : Int) = ((128 : Nat) : Int) := by decide
  rw [h1]
  show IntKind.u8.wrap ((BitVec.ofInt 8 (y : Int) ||| BitVec.ofInt 8 ((128 : Nat) : Int)).toNat : Int) = _
  rw [BitVec.toNat_or, ofInt8 y h, ofInt8 _ (by decide), IntKind.wrap_u8]
  have hall : ∀ y : Fin 256, y.val ||| 128 = y.val % 128 + 128 := by decide +kernel
  rw [hall ⟨y, h⟩]
  show ((y % 128 + 128 : Nat) : Int) % 256 = _
  omega
end Go.Proofs.Ytkbbkamnmdeagaa
