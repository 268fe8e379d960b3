
/- refs: the words as a table; words of bits put together. Plain: no program. -/
import Derived.Test.YtokldnmhhhaalaaBits2
import Derived.Test.YtokldnmhhhaalaaArP
namespace Go.Proofs.Ytokldnmhhhaalaa
open Go.RowKit

/-- Two words of bits put together. -/
def orI (x y : Int) : Int := ((x.toNat ||| y.toNat : Nat) : Int)
theorem orI_W62 {x y : Int} (hx : W62 x) (hy : W62 y) : W62 (orI x y) := by
  obtain ⟨h0, h1⟩ := hx
  obtain ⟨h2, h3⟩ := hy
  have : (x.toNat ||| y.toNat) < 4611686018427387904 := by
    refine lt_of_bits fun j hj => ?_
    rw [Nat.testBit_or, bits_of_lt (by omega) hj, bits_of_lt (by omega) hj]
    rfl
  unfold W62 orI
  omega
theorem bitOf_orI (x y : Int) (i : Nat) : bitOf (orI x y) i = (bitOf x i || bitOf y i) := by
  unfold bitOf orI
  rw [Int.toNat_natCast, Nat.testBit_or]
theorem bits_or {x y : Int} (hx : W62 x) (hy : W62 y) : bits .or .i64 x y = orI x y := by
  have hw := orI_W62 hx hy
  obtain ⟨h0, h1⟩ := hx
  obtain ⟨h2, h3⟩ := hy
  obtain ⟨n, rfl⟩ := Int.eq_ofNat_of_zero_le h0
  obtain ⟨k, rfl⟩ := Int.eq_ofNat_of_zero_le h2
  unfold W62 orI at *
  rw [Int.toNat_natCast, Int.toNat_natCast] at *
  show IntKind.i64.wrap ((BitVec.ofInt 64 (n : Int) ||| BitVec.ofInt 64 (k : Int)).toNat : Int) = _
  rw [BitVec.toNat_or, ofInt_nat64 _ (by omega), ofInt_nat64 _ (by omega), IntKind.wrap_i64]
  omega
theorem pow_W62 {i : Nat} (hi : i < 62) : W62 ((2 ^ i : Nat) : Int) := by
  have := pow_lt62 hi
  unfold W62
  generalize 2 ^ i = p at *
  omega
theorem bitOf_pow {i j : Nat} : bitOf ((2 ^ i : Nat) : Int) j = decide (i = j) := by
  unfold bitOf
  rw [Int.toNat_natCast, Nat.testBit_two_pow]

/-- A table with one cell put anew. -/
def upd2 (T : Int → Int → Int) (r i v : Int) : Int → Int → Int := fun r' i' => if r' = r ∧ i' = i then v else T r' i'
/-- The words from f on are the table's: n + 2 rows of o + 2 cells. -/
structure Mx (ws : List Int) (f : Int) (n : Nat) (o : Int) (T : Int → Int → Int) : Prop where
  f0 : 0 ≤ f
  o0 : 1 ≤ o ∧ o ≤ 60
  n0 : 1 ≤ n ∧ n ≤ 8
  len : f + ((n : Int) + 2) * (o + 2) ≤ ws.length
  at_ : ∀ r i, 0 ≤ r → r ≤ (n : Int) + 1 → 0 ≤ i → i ≤ o + 1 → rd ws (f + r * (o + 2) + i) = T r i

theorem row_lt {r s z : Int} (h : r < s) (hz : 0 ≤ z) : r * z + z ≤ s * z := by
  have h2 : (r + 1) * z ≤ s * z := Int.mul_le_mul_of_nonneg_right (by omega) hz
  have h4 : (r + 1) * z = r * z + z := by rw [Int.add_mul, Int.one_mul]
  omega
theorem row_bd {r s : Int} {o : Int} (h0 : 0 ≤ r) (h1 : r ≤ s) (ho : 1 ≤ o ∧ o ≤ 60) : 0 ≤ r * (o + 2) ∧ r * (o + 2) ≤ s * (o + 2) :=
  ⟨Int.mul_nonneg h0 (by omega), Int.mul_le_mul_of_nonneg_right h1 (by omega)⟩
section
variable {ws : List Int} {f o : Int} {n : Nat} {T : Int → Int → Int}
theorem Mx.in_ (h : Mx ws f n o T) {r i : Int} (r0 : 0 ≤ r) (r1 : r ≤ (n : Int) + 1) (i0 : 0 ≤ i) (i1 : i ≤ o + 1) : 0 ≤ f + r * (o + 2) + i ∧ f + r * (o + 2) + i < ws.length := by
  have h0 := h.f0
  have ho := h.o0
  have hl := h.len
  have h1 := row_bd r0 (Int.le_refl r) ho
  have h2 := row_lt (show r < (n : Int) + 2 by omega) (show 0 ≤ o + 2 by omega)
  omega
theorem Mx.set (h : Mx ws f n o T) {r i : Int} (r0 : 0 ≤ r) (r1 : r ≤ (n : Int) + 1) (i0 : 0 ≤ i) (i1 : i ≤ o + 1) (v : Int) : Mx (wr ws (f + r * (o + 2) + i) v) f n o (upd2 T r i v) := by
  refine ⟨h.f0, h.o0, h.n0, by simpa using h.len, ?_⟩
  intro r' i' a0 a1 b0 b1
  have hin := h.in_ r0 r1 i0 i1
  have hin' := h.in_ a0 a1 b0 b1
  rw [rd_wr hin hin'.1]
  unfold upd2
  by_cases e : r' = r ∧ i' = i
  · obtain ⟨rfl, rfl⟩ := e
    rw [if_pos rfl, if_pos ⟨rfl, rfl⟩]
  · rw [if_neg e, if_neg, h.at_ r' i' a0 a1 b0 b1]
    intro he
    have ho := h.o0
    rcases Int.lt_trichotomy r' r with h1 | h1 | h1
    · have := row_lt h1 (show 0 ≤ o + 2 by omega); omega
    · subst h1; exact e ⟨rfl, by omega⟩
    · have := row_lt h1 (show 0 ≤ o + 2 by omega); omega
theorem Mx.zero {k : Nat} (f0 : 0 ≤ f) (o0 : 1 ≤ o ∧ o ≤ 60) (n0 : 1 ≤ n ∧ n ≤ 8) (len : f + ((n : Int) + 2) * (o + 2) ≤ k) : Mx (List.replicate k 0) f n o (fun _ _ => 0) :=
  ⟨f0, o0, n0, by simpa using len, fun _ _ _ _ _ _ => rd_rep _ _⟩
end
end Go.Proofs.Ytokldnmhhhaalaa
