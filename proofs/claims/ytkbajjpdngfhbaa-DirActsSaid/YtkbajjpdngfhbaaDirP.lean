
/- The words of a directory's slot: plain. -/
import Derived.Test.YtkbajjpdngfhbaaNames10
import Derived.Test.YtkbajjpdngfhbaaBits2
namespace Go.Proofs.Ytkbajjpdngfhbaa
open Go.RowKit

/-- Bytes from f on, k of them, as a number. -/
def wsum (s : ByteArray) (f : Nat) : Nat → Nat
  | 0 => 0
  | k + 1 => wsum s f k + (s.get! (f + k)).toNat * 256 ^ k
theorem wsum_lt (s : ByteArray) (f : Nat) : ∀ k, wsum s f k < 256 ^ k
  | 0 => by simp [wsum]
  | k + 1 => by
    have h := wsum_lt s f k
    have hb := (s.get! (f + k)).toNat_lt
    unfold wsum
    rw [Nat.pow_succ]
    have : (s.get! (f + k)).toNat * 256 ^ k ≤ 255 * 256 ^ k := Nat.mul_le_mul_right _ (by omega)
    omega
theorem wsum_digit (s : ByteArray) (f : Nat) : ∀ k i, i < k → wsum s f k / 256 ^ i % 256 = (s.get! (f + i)).toNat
  | 0, i, h => absurd h (by omega)
  | k + 1, i, h => by
    have hb := (s.get! (f + k)).toNat_lt
    have hp : 0 < 256 ^ i := Nat.pow_pos (by omega)
    unfold wsum
    by_cases e : i = k
    · subst e
      rw [Nat.add_mul_div_right _ _ hp, Nat.div_eq_of_lt (wsum_lt s f i), Nat.zero_add]
      exact Nat.mod_eq_of_lt hb
    · have hk : k = i + 1 + (k - i - 1) := by omega
      have e2 : (s.get! (f + k)).toNat * 256 ^ k = ((s.get! (f + k)).toNat * 256 ^ (k - i - 1) * 256) * 256 ^ i := by
        conv => lhs; rw [hk, Nat.pow_add, Nat.pow_succ]
        rw [show i + 1 + (k - i - 1) = k by omega]
        ac_rfl
      rw [e2, Nat.add_mul_div_right _ _ hp, Nat.add_mul_mod_self_right]
      exact wsum_digit s f k i (by omega)
theorem pow256 (i : Nat) : (256 : Nat) ^ i = 2 ^ (8 * i) := by rw [Nat.pow_mul]
/-- A slot's words. -/
def sg (x : Nat) : Int := wrap64 (x : Int)
def headW (s : ByteArray) (v : Nat) : Int := ((v + s.size * 2147483648 : Nat) : Int)
def firstW (s : ByteArray) : Int := sg (wsum s 0 (min s.size 8))
def secondW (s : ByteArray) : Int := sg (wsum s 8 (s.size - 8))

theorem bv_wrap64 (x : Int) : BitVec.ofInt 64 (wrap64 x) = BitVec.ofInt 64 x := by
  apply BitVec.eq_of_toNat_eq
  have h1 := ofInt_toNat (wrap64 x)
  have h2 := ofInt_toNat x
  have : wrap64 x % 18446744073709551616 = x % 18446744073709551616 := by unfold wrap64; omega
  omega
theorem wrap64_cast (x : Int) : wrap64 x = IntKind.i64.wrap x := by rw [IntKind.wrap_i64]; unfold wrap64; omega
theorem or_shl (X b i : Nat) (hX : X < 256 ^ i) (hi : i < 8) (hb : b < 256) : bits .or .i64 (sg X) (wrap64 (b * 256 ^ i : Nat)) = sg (X + b * 256 ^ i) := by
  show IntKind.i64.wrap ((BitVec.ofInt 64 (wrap64 X) ||| BitVec.ofInt 64 (wrap64 ((b * 256 ^ i : Nat) : Int))).toNat : Int) = _
  rw [bv_wrap64, bv_wrap64]
  have hp : 256 ^ i ≤ 256 ^ 7 := Nat.pow_le_pow_right (by omega) (by omega)
  have h7 : (256 : Nat) ^ 7 = 72057594037927936 := by decide
  have hbi : b * 256 ^ i ≤ 255 * 72057594037927936 := Nat.mul_le_mul (by omega) (by omega)
  rw [BitVec.toNat_or, ofInt_nat64 _ (by omega), ofInt_nat64 _ (by omega)]
  have e : X ||| b * 256 ^ i = X + b * 256 ^ i := by
    rw [pow256] at *
    rw [Nat.or_comm, Nat.mul_comm b, ← Nat.two_pow_add_eq_or_of_lt hX, Nat.add_comm]
  rw [e]
  unfold sg
  rw [wrap64_cast]
theorem or_head (v n : Nat) (hv : v < 2147483648) (hn : n ≤ 12) : bits .or .i64 (v : Int) ((n : Int) * 2147483648) = ((v + n * 2147483648 : Nat) : Int) := by
  have e1 : ((n : Int) * 2147483648) = ((n * 2147483648 : Nat) : Int) := by simp
  rw [e1]
  show IntKind.i64.wrap ((BitVec.ofInt 64 (v : Int) ||| BitVec.ofInt 64 ((n * 2147483648 : Nat) : Int)).toNat : Int) = _
  rw [BitVec.toNat_or, ofInt_nat64 _ (by omega), ofInt_nat64 _ (by omega)]
  have e : v ||| n * 2147483648 = v + n * 2147483648 := by
    have h31 : (2 : Nat) ^ 31 = 2147483648 := by decide
    rw [← h31] at *
    rw [Nat.or_comm, Nat.mul_comm n, ← Nat.two_pow_add_eq_or_of_lt hv, Nat.add_comm]
  rw [e, IntKind.wrap_i64]
  omega
theorem sg_step (s : ByteArray) (f k : Nat) (hk : k < 8) : bits .or .i64 (sg (wsum s f k)) (wrap64 ((s.get! (f + k)).toNat * 256 ^ k : Nat)) = sg (wsum s f (k + 1)) := by
  rw [or_shl _ _ _ (wsum_lt s f k) hk (s.get! (f + k)).toNat_lt]
  rfl
theorem sg_step2 (s : ByteArray) (f k : Nat) (hk : k < 8) (b : Nat) (hb : (s.get! (f + k)).toNat = b) : bits .or .i64 (sg (wsum s f k)) (wrap64 ((b : Int) * 2 ^ (8 * k))) = sg (wsum s f (k + 1)) := by
  subst hb
  rw [← sg_step s f k hk]
  have e : ((s.get! (f + k)).toNat : Int) * 2 ^ (8 * k) = (((s.get! (f + k)).toNat * 256 ^ k : Nat) : Int) := by
    rw [Int.natCast_mul, pow256, Int.natCast_pow]
    rfl
  rw [e]
theorem sg_digit (s : ByteArray) (f k i : Nat) (hi : i < k) (hk : k ≤ 8) : sg (wsum s f k) / ((256 ^ i : Nat) : Int) % 256 = ((s.get! (f + i)).toNat : Int) := by
  have h := wsum_digit s f k i hi
  have hl := wsum_lt s f k
  have hp8 : 256 ^ k ≤ 256 ^ 8 := Nat.pow_le_pow_right (by omega) hk
  have h8 : (256 : Nat) ^ 8 = 18446744073709551616 := by decide
  generalize wsum s f k = X at *
  have hx : sg X = (X : Int) ∨ sg X = (X : Int) - 18446744073709551616 := by unfold sg wrap64; omega
  have hp : (0 : Int) < ((256 ^ i : Nat) : Int) := by exact_mod_cast Nat.pow_pos (by omega)
  rw [← h, Int.natCast_emod, Int.natCast_ediv]
  rcases hx with hx | hx
  · rw [hx]; rfl
  · have hd : (18446744073709551616 : Int) = ((256 ^ i : Nat) : Int) * (256 * ((256 ^ (7 - i) : Nat) : Int)) := by
      have : (256 : Nat) ^ i * (256 * 256 ^ (7 - i)) = 256 ^ 8 := by
        rw [← Nat.pow_succ', ← Nat.pow_add]; congr 1; omega
      have h3 : (((256 : Nat) ^ i * (256 * 256 ^ (7 - i)) : Nat) : Int) = ((256 ^ 8 : Nat) : Int) := by rw [this]
      rw [Int.natCast_mul, Int.natCast_mul, h8] at h3
      exact h3.symm
    rw [hx, hd]
    have : (X : Int) - ((256 ^ i : Nat) : Int) * (256 * ((256 ^ (7 - i) : Nat) : Int)) = (X : Int) + ((256 ^ i : Nat) : Int) * (256 * (-((256 ^ (7 - i) : Nat) : Int))) := by
      rw [Int.mul_neg, Int.mul_neg]; omega
    rw [this, Int.add_mul_ediv_left _ _ (by omega), Int.add_mul_emod_self_left]
    rfl
/-- The same words: the same string. -/
theorem words_inj {s t : ByteArray} (hs : s.size ≤ 12) (_ : t.size ≤ 12) (h0 : s.size = t.size) (h1 : firstW s = firstW t) (h2 : secondW s = secondW t) : s = t := by
  have hb : ∀ i, i < s.size → s.get! i = t.get! i := by
    intro i hi
    have key : ((s.get! i).toNat : Int) = ((t.get! i).toNat : Int) := by
      by_cases h8 : i < 8
      · have a := sg_digit s 0 (min s.size 8) i (by omega) (by omega)
        have b := sg_digit t 0 (min t.size 8) i (by omega) (by omega)
        rw [Nat.zero_add] at a b
        rw [← a, ← b]
        unfold firstW at h1
        rw [h1]
      · have a := sg_digit s 8 (s.size - 8) (i - 8) (by omega) (by omega)
        have b := sg_digit t 8 (t.size - 8) (i - 8) (by omega) (by omega)
        rw [show 8 + (i - 8) = i by omega] at a b
        rw [← a, ← b]
        unfold secondW at h2
        rw [h2]
    have : (s.get! i).toNat = (t.get! i).toNat := by omega
    exact UInt8.toNat_inj.1 this
  apply ByteArray.ext
  apply Array.ext (by simpa using h0)
  intro i h1 h2
  have := hb i h1
  rw [get_at s i h1, get_at t i h2] at this
  exact this
theorem arr3 {a b c a' b' c' : Value} (h1 : a = a') (h2 : b = b') (h3 : c = c') : #[a, b, c] = #[a', b', c'] := by rw [h1, h2, h3]
theorem Blk.cast {w : World} {g : Nat} {t : TypeId} {cs cs' : Array Value} (h : Blk w g t cs) (e : cs = cs') : Blk w g t cs' := e ▸ h
theorem byte_ofNat {x : Int} {c : UInt8} (h : x % 256 = (c.toNat : Int)) : UInt8.ofNat (x % 256).toNat = c := by
  rw [h, Int.toNat_natCast]
  exact UInt8.ofNat_toNat
end Go.Proofs.Ytkbajjpdngfhbaa
