
/- Bits of an int: a mask is a remainder, a single bit is a quotient's remainder. -/
import Derived.Test.YtenlffhoinialaaBase
import Derived.Laws.BitsAllLaws
namespace Go.Proofs.Ytenlffhoinialaa
open Go.RowKit

theorem ofInt_toNat (x : Int) : ((BitVec.ofInt 64 x).toNat : Int) = x % 18446744073709551616 := by
  rw [BitVec.toNat_ofInt]
  have : (0 : Int) ≤ x % (2 ^ 64 : Nat) := Int.emod_nonneg _ (by decide)
  omega
theorem and_pow (x : Int) (k : Nat) (hk : k ≤ 62) : bits .and .i64 x ((2 ^ k - 1 : Nat) : Int) = x % ((2 ^ k : Nat) : Int) := by
  show IntKind.i64.wrap ((BitVec.ofInt 64 x &&& BitVec.ofInt 64 ((2 ^ k - 1 : Nat) : Int)).toNat : Int) = _
  have h2 : 2 ^ k ≤ 2 ^ 62 := Nat.pow_le_pow_right (by omega) hk
  have h62 : (2 : Nat) ^ 62 = 4611686018427387904 := by decide
  have hp : 0 < 2 ^ k := Nat.two_pow_pos k
  have e1 : (BitVec.ofInt 64 ((2 ^ k - 1 : Nat) : Int)).toNat = 2 ^ k - 1 := by
    rw [BitVec.ofInt_natCast, BitVec.toNat_ofNat]; exact Nat.mod_eq_of_lt (by omega)
  rw [BitVec.toNat_and, e1, Nat.and_two_pow_sub_one_eq_mod]
  have hlt := Nat.mod_lt (BitVec.ofInt 64 x).toNat hp
  have hx := ofInt_toNat x
  have e2 : (((BitVec.ofInt 64 x).toNat % 2 ^ k : Nat) : Int) = x % ((2 ^ k : Nat) : Int) := by
    rw [Int.natCast_emod, hx]
    have hd : ((2 ^ k : Nat) : Int) ∣ 18446744073709551616 := by
      have : (2 ^ k : Nat) ∣ 2 ^ 64 := Nat.pow_dvd_pow 2 (by omega)
      have h3 : (((2 ^ k : Nat)) : Int) ∣ ((2 ^ 64 : Nat) : Int) := Int.natCast_dvd_natCast.2 this
      simpa using h3
    exact Int.emod_emod_of_dvd x hd
  rw [e2, IntKind.wrap_i64]
  have b0 : 0 ≤ x % ((2 ^ k : Nat) : Int) := Int.emod_nonneg _ (by omega)
  have b1 : x % ((2 ^ k : Nat) : Int) < ((2 ^ k : Nat) : Int) := Int.emod_lt_of_pos _ (by omega)
  omega
theorem and_bit (x : Int) (k : Nat) (hk : k ≤ 61) : bits .and .i64 x ((2 ^ k : Nat) : Int) = x / ((2 ^ k : Nat) : Int) % 2 * ((2 ^ k : Nat) : Int) := by
  show IntKind.i64.wrap ((BitVec.ofInt 64 x &&& BitVec.ofInt 64 ((2 ^ k : Nat) : Int)).toNat : Int) = _
  have h2 : 2 ^ k ≤ 2 ^ 61 := Nat.pow_le_pow_right (by omega) hk
  have h61 : (2 : Nat) ^ 61 = 2305843009213693952 := by decide
  have hp : 0 < 2 ^ k := Nat.two_pow_pos k
  have e1 : (BitVec.ofInt 64 ((2 ^ k : Nat) : Int)).toNat = 2 ^ k := by
    rw [BitVec.ofInt_natCast, BitVec.toNat_ofNat]; exact Nat.mod_eq_of_lt (by omega)
  rw [BitVec.toNat_and, e1, nat_bit]
  have hx := ofInt_toNat x
  have e2 : (((BitVec.ofInt 64 x).toNat / 2 ^ k % 2 : Nat) : Int) = x / ((2 ^ k : Nat) : Int) % 2 := by
    rw [Int.natCast_emod, Int.natCast_ediv, hx]
    have hd : (18446744073709551616 : Int) = ((2 ^ k : Nat) : Int) * (2 * ((2 ^ (63 - k) : Nat) : Int)) := by
      have : (2 : Nat) ^ k * (2 * 2 ^ (63 - k)) = 2 ^ 64 := by
        rw [← Nat.pow_succ', ← Nat.pow_add]; congr 1; omega
      have h3 : (((2 : Nat) ^ k * (2 * 2 ^ (63 - k)) : Nat) : Int) = ((2 ^ 64 : Nat) : Int) := by rw [this]
      rw [Int.natCast_mul, Int.natCast_mul] at h3
      have h4 : ((2 ^ 64 : Nat) : Int) = 18446744073709551616 := by decide
      rw [h4] at h3
      exact h3.symm
    have hq := Int.emod_add_mul_ediv x 18446744073709551616
    generalize hr : x % 18446744073709551616 = r at *
    generalize x / 18446744073709551616 = q at *
    have hx2 : x = r + ((2 ^ k : Nat) : Int) * (2 * ((2 ^ (63 - k) : Nat) : Int) * q) := by
      rw [← hq]; rw [hd]; rw [Int.mul_assoc]
    rw [hx2, Int.add_mul_ediv_left _ _ (by omega)]
    rw [Int.mul_assoc, Int.add_mul_emod_self_left]
    rfl
  rw [Int.natCast_mul, e2, IntKind.wrap_i64]
  have b0 : x / ((2 ^ k : Nat) : Int) % 2 = 0 ∨ x / ((2 ^ k : Nat) : Int) % 2 = 1 := by omega
  rcases b0 with b | b <;> rw [b] <;> omega

@[go_sem] theorem and1 (x : Int) : bits .and .i64 x 1 = x % 2 := and_pow x 1 (by omega)
@[go_sem] theorem and3 (x : Int) : bits .and .i64 x 3 = x % 4 := and_pow x 2 (by omega)
@[go_sem] theorem and7 (x : Int) : bits .and .i64 x 7 = x % 8 := and_pow x 3 (by omega)
@[go_sem] theorem and15 (x : Int) : bits .and .i64 x 15 = x % 16 := and_pow x 4 (by omega)
@[go_sem] theorem and31 (x : Int) : bits .and .i64 x 31 = x % 32 := and_pow x 5 (by omega)
@[go_sem] theorem and63 (x : Int) : bits .and .i64 x 63 = x % 64 := and_pow x 6 (by omega)
@[go_sem] theorem and255 (x : Int) : bits .and .i64 x 255 = x % 256 := and_pow x 8 (by omega)
@[go_sem] theorem and511 (x : Int) : bits .and .i64 x 511 = x % 512 := and_pow x 9 (by omega)
@[go_sem] theorem and1023 (x : Int) : bits .and .i64 x 1023 = x % 1024 := and_pow x 10 (by omega)
@[go_sem] theorem and2047 (x : Int) : bits .and .i64 x 2047 = x % 2048 := and_pow x 11 (by omega)
@[go_sem] theorem and4 (x : Int) : bits .and .i64 x 4 = x / 4 % 2 * 4 := and_bit x 2 (by omega)
@[go_sem] theorem and8 (x : Int) : bits .and .i64 x 8 = x / 8 % 2 * 8 := and_bit x 3 (by omega)
@[go_sem] theorem and16 (x : Int) : bits .and .i64 x 16 = x / 16 % 2 * 16 := and_bit x 4 (by omega)
@[go_sem] theorem and64 (x : Int) : bits .and .i64 x 64 = x / 64 % 2 * 64 := and_bit x 6 (by omega)
theorem u64_nn (x : Int) : 0 ≤ IntKind.u64.wrap x ∧ IntKind.u64.wrap x < 18446744073709551616 := by
  rw [IntKind.wrap_u64]; omega
theorem u64_tmod (x y : Int) (hy : 0 < y) : ∃ n : Nat, (IntKind.u64.wrap x).tmod y = n ∧ (n : Int) < y := by
  have h := u64_nn x
  rw [Int.tmod_eq_emod_of_nonneg h.1]
  have h1 := Int.emod_nonneg (IntKind.u64.wrap x) (show y ≠ 0 by omega)
  have h2 := Int.emod_lt_of_pos (IntKind.u64.wrap x) hy
  exact ⟨(IntKind.u64.wrap x % y).toNat, by omega, by omega⟩
theorem tmod_bd (x y : Int) (hy : 0 < y) : -y < x.tmod y ∧ x.tmod y < y := ⟨Int.lt_tmod_of_pos x hy, Int.tmod_lt_of_pos x hy⟩
end Go.Proofs.Ytenlffhoinialaa
