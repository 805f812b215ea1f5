/-
  Laws of int's bit operations, used by the walks. No program stands here.
  Conditions: the bounds that each states.
-/
import Derived.Laws.Bits128
import Derived.Laws.BitsAllLaws
namespace Go.Proofs.Ytphbochfpidgeaa.B
open Go

theorem and255 (n : Int) : bits .and .i64 n 255 = n % 256 := by
  have h127 : (BitVec.ofInt 64 255).toNat = 2 ^ 8 - 1 := by decide
  have key : (BitVec.ofInt 64 n &&& BitVec.ofInt 64 255).toNat = (n % ((2 ^ 64 : Nat) : Int)).toNat % 2 ^ 8 := by
    rw [BitVec.toNat_and, BitVec.toNat_ofInt, h127, Nat.and_two_pow_sub_one_eq_mod]
  show IntKind.i64.wrap ((BitVec.ofInt 64 n &&& BitVec.ofInt 64 255).toNat : Nat) = n % 256
  rw [key, IntKind.wrap_i64]
  omega
theorem or_nat (a b : Nat) (ha : a < 9223372036854775808) (hb : b < 9223372036854775808) : bits .or .i64 (a : Int) (b : Int) = ((a ||| b : Nat) : Int) := by
  have ea : (BitVec.ofInt 64 (a : Int)).toNat = a := by rw [BitVec.toNat_ofInt]; omega
  have eb : (BitVec.ofInt 64 (b : Int)).toNat = b := by rw [BitVec.toNat_ofInt]; omega
  have hlt : a ||| b < 2 ^ 63 := Nat.or_lt_two_pow (by simpa using ha) (by simpa using hb)
  show IntKind.i64.wrap ((BitVec.ofInt 64 (a : Int) ||| BitVec.ofInt 64 (b : Int)).toNat : Nat) = _
  rw [BitVec.toNat_or, ea, eb, IntKind.wrap_i64]
  omega
theorem or_join (a b i : Nat) (h : a % 2 ^ i = 0) (hb : b < 2 ^ i) (hs : a + b < 9223372036854775808) : bits .or .i64 (a : Int) (b : Int) = (a : Int) + b := by
  rw [or_nat a b (by omega) (by omega), nat_join i a b h hb]; omega
theorem or256 (a b : Nat) (hb : b < 256) (ha : a ≤ 281474976710656) : bits .or .i64 ((a : Int) * 256) (b : Int) = (a : Int) * 256 + b := by
  have := or_join (a * 256) b 8 (by omega) (by omega) (by omega)
  simpa using this
theorem or128 (b : Int) (h0 : 0 ≤ b) (h1 : b < 128) : bits .or .i64 b 128 = b + 128 := by
  have := or_join 128 b.toNat 7 (by omega) (by omega) (by omega)
  have hc : bits .or .i64 b 128 = bits .or .i64 128 b := by simp only [bits, BitVec.or_comm]
  rw [hc]
  rw [show ((b.toNat : Nat) : Int) = b by omega] at this
  simpa [Int.add_comm] using this
theorem or16 (a b : Int) (h0 : 0 ≤ a) (h1 : a ≤ 15) (k0 : 0 ≤ b) (k1 : b ≤ 15) : bits .or .i64 (a * 16) b = 16 * a + b := by
  have := or_join (a.toNat * 16) b.toNat 4 (by omega) (by omega) (by omega)
  rw [show ((a.toNat * 16 : Nat) : Int) = a * 16 by omega, show ((b.toNat : Nat) : Int) = b by omega] at this
  rw [this]; omega
end Go.Proofs.Ytphbochfpidgeaa.B
