/-
  Laws of int's bit operations: a value shifted and joined. No program stands here.
  Conditions: the bounds that each states.
-/
import Derived.Test.YtphbochfpidgeaaB1
import Derived.IntWalk
namespace Go.Proofs.Ytphbochfpidgeaa.B
open Go Go.RowKit

theorem or_low (a b i : Nat) (h : b % 2 ^ i = 0) (ha : a < 2 ^ i) (hs : b + a < 9223372036854775808) : bits .or .i64 (a : Int) (b : Int) = (a : Int) + b := by
  have hc : bits .or .i64 (a : Int) (b : Int) = bits .or .i64 (b : Int) (a : Int) := by simp only [bits, BitVec.or_comm]
  rw [hc, or_join b a i h ha hs]; omega
theorem or_shift (a d k : Nat) (ha : a < 128 ^ k) (hd : d < 128) (hk : k ≤ 6) : bits .or .i64 (a : Int) (wrap64 ((d : Int) * 2 ^ (7 * k))) = ((a + d * 128 ^ k : Nat) : Int) := by
  have e : (2 : Nat) ^ (7 * k) = 128 ^ k := by rw [Nat.pow_mul]
  have hp : 128 ^ k ≤ 4398046511104 := by
    have := Nat.pow_le_pow_right (n := 128) (by omega) hk
    simpa using this
  have hm : d * 128 ^ k ≤ 127 * 4398046511104 := Nat.mul_le_mul (by omega) hp
  have e2 : (d : Int) * 2 ^ (7 * k) = ((d * 128 ^ k : Nat) : Int) := by
    rw [← e]; simp
  rw [e2, IntWalk.wrap64_in _ ⟨by omega, by omega⟩, or_low a (d * 128 ^ k) (7 * k) (by rw [e]; exact Nat.mul_mod_left _ _) (by rw [e]; exact ha) (by omega)]
  omega
end Go.Proofs.Ytphbochfpidgeaa.B
