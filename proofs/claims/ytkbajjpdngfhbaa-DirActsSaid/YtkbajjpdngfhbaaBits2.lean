
/- A word of bits: one bit told, set and cleared. Plain: no program. -/
import Derived.Test.YtkbajjpdngfhbaaBits
import Derived.Laws.BitsAllLaws
import Derived.Laws.BitsLemmas
namespace Go.Proofs.Ytkbajjpdngfhbaa
open Go.RowKit

/-- Bit i of a word. -/
def bitOf (x : Int) (i : Nat) : Bool := x.toNat.testBit i
/-- A word with bit i set to b. -/
def setBit (x : Int) (i : Nat) (b : Bool) : Int := ((if b then (x.toNat &&& (2 ^ 64 - 1 - 2 ^ i)) ||| 2 ^ i else x.toNat &&& (2 ^ 64 - 1 - 2 ^ i) : Nat) : Int)
/-- A word of 62 bits. -/
def W62 (x : Int) : Prop := 0 ≤ x ∧ x < 4611686018427387904

theorem bitOf_zero (i : Nat) : bitOf 0 i = false := by simp [bitOf]
theorem testBit_mask {i j : Nat} (hj : j < 62) (hi : i < 62) : (2 ^ 64 - 1 - 2 ^ i).testBit j = decide (j ≠ i) := by
  have h : 2 ^ 64 - 1 - 2 ^ i = 2 ^ 64 - (2 ^ i + 1) := by omega
  rw [h, Nat.testBit_two_pow_sub_succ (Nat.pow_lt_pow_right (by omega) (by omega)), Nat.testBit_two_pow]
  by_cases e : i = j
  · subst e; simp
  · have e' : j ≠ i := fun h => e h.symm
    simp [e, e']; omega
theorem lt_of_bits {n : Nat} (h : ∀ j, 62 ≤ j → n.testBit j = false) : n < 4611686018427387904 :=
  Nat.lt_pow_two_of_testBit n (n := 62) h
theorem bits_of_lt {n j : Nat} (h : n < 4611686018427387904) (hj : 62 ≤ j) : n.testBit j = false := by
  have h1 : 2 ^ 62 ≤ 2 ^ j := Nat.pow_le_pow_right (by omega) hj
  have h2 : (2 : Nat) ^ 62 = 4611686018427387904 := by decide
  exact Nat.testBit_lt_two_pow (by omega)

theorem setBit_W62 {x : Int} {i : Nat} {b : Bool} (h : W62 x) (hi : i < 62) : W62 (setBit x i b) := by
  obtain ⟨h0, h1⟩ := h
  have hx : x.toNat < 4611686018427387904 := by omega
  have key : (if b then (x.toNat &&& (2 ^ 64 - 1 - 2 ^ i)) ||| 2 ^ i else x.toNat &&& (2 ^ 64 - 1 - 2 ^ i)) < 4611686018427387904 := by
    refine lt_of_bits fun j hj => ?_
    have h2 := bits_of_lt hx hj
    cases b
    · simp [Nat.testBit_and, h2]
    · simp only [if_true, Nat.testBit_or, Nat.testBit_and, h2, Bool.false_and, Bool.false_or, Nat.testBit_two_pow]
      simp; omega
  unfold W62 setBit
  omega
theorem bitOf_setBit {x : Int} {i j : Nat} {b : Bool} (hi : i < 62) (hj : j < 62) : bitOf (setBit x i b) j = if j = i then b else bitOf x j := by
  unfold bitOf setBit
  rw [Int.toNat_natCast]
  cases b
  · simp only [Bool.false_eq_true, if_false, Nat.testBit_and]
    rw [testBit_mask hj hi]
    by_cases e : j = i
    · subst e; simp
    · simp [e]
  · simp only [if_true, Nat.testBit_or, Nat.testBit_and, Nat.testBit_two_pow]
    rw [testBit_mask hj hi]
    by_cases e : j = i
    · subst e; simp
    · have e' : i ≠ j := fun h => e h.symm
      simp [e, e']

/-- What the program's text makes of a bit asked. -/
theorem bit_told {x : Int} {i : Nat} (h : W62 x) : (x / 2 ^ i % 2 == 1) = bitOf x i := by
  obtain ⟨h0, _⟩ := h
  obtain ⟨n, rfl⟩ := Int.eq_ofNat_of_zero_le h0
  unfold bitOf
  rw [Int.toNat_natCast, Nat.testBit_eq_decide_div_mod_eq]
  have e : ((n : Int) / 2 ^ i % 2) = ((n / 2 ^ i % 2 : Nat) : Int) := by simp
  rw [e]
  by_cases hb : n / 2 ^ i % 2 = 1
  · rw [hb]; rfl
  · have : ((n / 2 ^ i % 2 : Nat) : Int) ≠ 1 := by omega
    simp [hb]; omega
theorem ofInt_nat64 (a : Nat) (ha : a < 18446744073709551616) : (BitVec.ofInt 64 (a : Int)).toNat = a := by
  rw [BitVec.ofInt_natCast, BitVec.toNat_ofNat]; exact Nat.mod_eq_of_lt (by omega)
theorem pow_lt62 {i : Nat} (hi : i < 62) : 2 ^ i < 4611686018427387904 := Nat.pow_lt_pow_right (a := 2) (m := i) (n := 62) (by omega) hi
theorem one_shl {i : Nat} (hi : i < 62) : IntKind.i64.wrap (1 * 2 ^ i) = ((2 ^ i : Nat) : Int) := by
  have := pow_lt62 hi
  have e : ((1 : Int) * 2 ^ i) = ((2 ^ i : Nat) : Int) := by simp
  rw [e, IntKind.wrap_i64]
  generalize (2 ^ i : Nat) = p at *
  omega
theorem one_shl64 {i : Nat} (hi : i < 62) : wrap64 ((2 : Int) ^ i) = ((2 ^ i : Nat) : Int) := by
  have h := one_shl hi
  rw [Int.one_mul, IntKind.wrap_i64] at h
  unfold wrap64
  exact h
theorem andNot_bit {x : Int} {i : Nat} (h : W62 x) (hi : i < 62) : bits .andNot .i64 x ((2 ^ i : Nat) : Int) = setBit x i false := by
  obtain ⟨h0, h1⟩ := h
  obtain ⟨n, rfl⟩ := Int.eq_ofNat_of_zero_le h0
  have hp := pow_lt62 hi
  show IntKind.i64.wrap ((BitVec.ofInt 64 (n : Int) &&& ~~~ BitVec.ofInt 64 ((2 ^ i : Nat) : Int)).toNat : Int) = _
  have e : (BitVec.ofInt 64 (n : Int) &&& ~~~ BitVec.ofInt 64 ((2 ^ i : Nat) : Int)).toNat = n &&& (2 ^ 64 - 1 - 2 ^ i) := by
    rw [BitVec.toNat_and, BitVec.toNat_not, ofInt_nat64 n (by omega), ofInt_nat64 (2 ^ i) (by omega)]
  rw [e]
  unfold setBit
  simp only [Bool.false_eq_true, if_false, Int.toNat_natCast]
  have hle : n &&& (2 ^ 64 - 1 - 2 ^ i) ≤ n := Nat.and_le_left
  rw [IntKind.wrap_i64]
  omega
theorem or_bit {x : Int} {i : Nat} (h : W62 x) (hi : i < 62) : bits .or .i64 (setBit x i false) ((2 ^ i : Nat) : Int) = setBit x i true := by
  have hw := setBit_W62 (b := true) h hi
  have hw0 := setBit_W62 (b := false) h hi
  have hp := pow_lt62 hi
  unfold setBit W62 at *
  simp only [if_true, Bool.false_eq_true, if_false] at *
  show IntKind.i64.wrap ((BitVec.ofInt 64 ((x.toNat &&& (2 ^ 64 - 1 - 2 ^ i) : Nat) : Int) ||| BitVec.ofInt 64 ((2 ^ i : Nat) : Int)).toNat : Int) = _
  rw [BitVec.toNat_or, ofInt_nat64 _ (by omega), ofInt_nat64 (2 ^ i) (by omega), IntKind.wrap_i64]
  omega
end Go.Proofs.Ytkbajjpdngfhbaa
