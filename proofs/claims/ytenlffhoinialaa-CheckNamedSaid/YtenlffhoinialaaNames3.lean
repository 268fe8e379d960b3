
/- Names: the document's own rune. -/
import Derived.Test.YtenlffhoinialaaNames2
namespace Go.Proofs.Ytenlffhoinialaa
open Go.RowKit

def r3 (c a b : Int) : Int := (c - 224) * 4096 + a * 64 + b
def r4 (c a b d : Int) : Int := (c - 240) * 262144 + a * 4096 + b * 64 + d
/-- The document's rune by four bytes: -1 is a byte that does not go on. -/
def r1 (c a b d : Int) : Int × Int :=
  if c < 128 then (c, 1)
  else if 194 ≤ c ∧ c ≤ 223 ∧ 0 ≤ a then ((c - 192) * 64 + a, 2)
  else if 224 ≤ c ∧ c ≤ 239 ∧ 0 ≤ a ∧ 0 ≤ b then (if 2048 ≤ r3 c a b ∧ (r3 c a b < 55296 ∨ 57343 < r3 c a b) then (r3 c a b, 3) else (65533, 0))
  else if 240 ≤ c ∧ c ≤ 244 ∧ 0 ≤ a ∧ 0 ≤ b ∧ 0 ≤ d then (if 65536 ≤ r4 c a b d ∧ r4 c a b d ≤ 1114111 then (r4 c a b d, 4) else (65533, 0))
  else (65533, 0)
/-- What the model's range tells, the width of a byte that is no rune turned to 0. -/
def fixp (p : Nat × Nat) : Int × Int := if p = (65533, 1) then (65533, 0) else (p.1, p.2)
def rn1 (s : ByteArray) (i : Nat) : Int × Int := fixp (Utf8.decode s i)
theorem fixp_bad : fixp (65533, 1) = (65533, 0) := by simp [fixp]
theorem fixp_one (b : Nat) (h : b < 128) : fixp (b, 1) = ((b : Int), 1) := by
  unfold fixp
  rw [if_neg (by intro h; injection h; omega)]
  rfl
theorem fixp_more (r k : Nat) (h : k ≠ 1) : fixp (r, k) = ((r : Int), (k : Int)) := by
  unfold fixp
  rw [if_neg (by intro h; injection h; omega)]
theorem nx_le (s : ByteArray) (i : Nat) : -1 ≤ nx s i ∧ nx s i ≤ 63 := by
  unfold nx
  split <;> omega
theorem nx_cases (s : ByteArray) (i k : Nat) : (k < s.size - i ∧ (s.get! (i + k)).toNat / 64 = 2 ∧ nx s (i + k) = ((s.get! (i + k)).toNat % 64 : Nat)) ∨ (¬ (k < s.size - i ∧ (s.get! (i + k)).toNat / 64 = 2) ∧ nx s (i + k) = -1) := by
  have hb := (s.get! (i + k)).toNat_lt
  unfold nx
  split <;> omega
/-- THE PLAIN LAW: both tell the same rune. -/
theorem r1_plain (n b0 b1 b2 b3 : Nat) (x1 x2 x3 : Int) (h0 : b0 < 256) (hn : 1 ≤ n)
    (k1 : (1 < n ∧ b1 / 64 = 2 ∧ x1 = (b1 % 64 : Nat)) ∨ (¬ (1 < n ∧ b1 / 64 = 2) ∧ x1 = -1))
    (k2 : (2 < n ∧ b2 / 64 = 2 ∧ x2 = (b2 % 64 : Nat)) ∨ (¬ (2 < n ∧ b2 / 64 = 2) ∧ x2 = -1))
    (k3 : (3 < n ∧ b3 / 64 = 2 ∧ x3 = (b3 % 64 : Nat)) ∨ (¬ (3 < n ∧ b3 / 64 = 2) ∧ x3 = -1)) :
    r1 b0 x1 x2 x3 = fixp (Lib.decodeN n b0 b1 b2 b3) := by
  have hc : b0 < 128 ∨ (128 ≤ b0 ∧ b0 ≤ 193) ∨ (194 ≤ b0 ∧ b0 ≤ 223) ∨ (224 ≤ b0 ∧ b0 ≤ 239) ∨ (240 ≤ b0 ∧ b0 ≤ 244) ∨ 245 ≤ b0 := by omega
  rcases hc with hc | hc | hc | hc | hc | hc
  · unfold r1 Lib.decodeN
    rw [if_pos (by omega), if_pos hc, fixp_one _ hc]
  · unfold r1 Lib.decodeN
    rw [if_neg (by omega), if_neg (by omega), if_neg (by omega), if_neg (by omega), if_neg (by omega)]
    clear k1 k2 k3
    by_cases h : b0 / 32 = 6 ∧ (1 < n ∧ b1 / 64 = 2)
    · rw [if_pos h, if_neg (by omega), fixp_bad]
    · rw [if_neg h, if_neg (by omega), if_neg (by omega), fixp_bad]
  · unfold r1 Lib.decodeN
    clear k2 k3
    rw [if_neg (by omega), if_neg (show ¬ b0 < 128 by omega)]
    rcases k1 with ⟨u1, u2, rfl⟩ | ⟨u1, rfl⟩
    · rw [if_pos (by omega), if_pos (by omega), if_pos (by omega), fixp_more _ _ (by omega)]
      refine Prod.ext ?_ ?_ <;> simp only <;> omega
    · rw [if_neg (by omega), if_neg (by omega), if_neg (by omega), if_neg (by omega), if_neg (by omega), if_neg (by omega), fixp_bad]
  · unfold r1 Lib.decodeN
    clear k3
    rw [if_neg (by omega), if_neg (by omega), if_neg (show ¬ b0 < 128 by omega), if_neg (show ¬ (b0 / 32 = 6 ∧ _) by omega)]
    by_cases h : (1 < n ∧ b1 / 64 = 2) ∧ (2 < n ∧ b2 / 64 = 2)
    · have e1 : x1 = (b1 % 64 : Nat) := by omega
      have e2 : x2 = (b2 % 64 : Nat) := by omega
      clear k1 k2
      subst e1 e2
      rw [if_pos (by omega), if_pos (show b0 / 16 = 14 ∧ (1 < n ∧ b1 / 64 = 2) ∧ (2 < n ∧ b2 / 64 = 2) from ⟨by omega, h⟩)]
      unfold r3
      by_cases h2 : b0 % 16 * 4096 + b1 % 64 * 64 + b2 % 64 ≥ 2048 ∧ (b0 % 16 * 4096 + b1 % 64 * 64 + b2 % 64 < 55296 ∨ (57344 ≤ b0 % 16 * 4096 + b1 % 64 * 64 + b2 % 64 ∧ b0 % 16 * 4096 + b1 % 64 * 64 + b2 % 64 ≤ 1114111))
      · rw [if_pos (by omega), if_pos h2, fixp_more _ _ (by omega)]
        refine Prod.ext ?_ ?_ <;> simp only <;> omega
      · rw [if_neg (by omega), if_neg h2, fixp_bad]
    · have e1 : x1 = -1 ∨ x2 = -1 := by omega
      clear k1 k2
      rw [if_neg (by omega), if_neg (by omega), if_neg (fun h' => h h'.2), if_neg (by omega), fixp_bad]
  · unfold r1 Lib.decodeN
    rw [if_neg (by omega), if_neg (by omega), if_neg (by omega), if_neg (show ¬ b0 < 128 by omega), if_neg (show ¬ (b0 / 32 = 6 ∧ _) by omega), if_neg (show ¬ (b0 / 16 = 14 ∧ _) by omega)]
    by_cases h : (1 < n ∧ b1 / 64 = 2) ∧ (2 < n ∧ b2 / 64 = 2) ∧ (3 < n ∧ b3 / 64 = 2)
    · have e1 : x1 = (b1 % 64 : Nat) := by omega
      have e2 : x2 = (b2 % 64 : Nat) := by omega
      have e3 : x3 = (b3 % 64 : Nat) := by omega
      clear k1 k2 k3
      subst e1 e2 e3
      rw [if_pos (by omega), if_pos (show b0 / 8 = 30 ∧ (1 < n ∧ b1 / 64 = 2) ∧ (2 < n ∧ b2 / 64 = 2) ∧ (3 < n ∧ b3 / 64 = 2) from ⟨by omega, h⟩)]
      unfold r4
      by_cases h2 : b0 % 8 * 262144 + b1 % 64 * 4096 + b2 % 64 * 64 + b3 % 64 ≥ 65536 ∧ (b0 % 8 * 262144 + b1 % 64 * 4096 + b2 % 64 * 64 + b3 % 64 < 55296 ∨ (57344 ≤ b0 % 8 * 262144 + b1 % 64 * 4096 + b2 % 64 * 64 + b3 % 64 ∧ b0 % 8 * 262144 + b1 % 64 * 4096 + b2 % 64 * 64 + b3 % 64 ≤ 1114111))
      · rw [if_pos (by omega), if_pos h2, fixp_more _ _ (by omega)]
        refine Prod.ext ?_ ?_ <;> simp only <;> omega
      · rw [if_neg (by omega), if_neg h2, fixp_bad]
    · have e1 : x1 = -1 ∨ x2 = -1 ∨ x3 = -1 := by omega
      clear k1 k2 k3
      rw [if_neg (by omega), if_neg (fun h' => h h'.2), fixp_bad]
  · unfold r1 Lib.decodeN
    clear k1 k2 k3
    rw [if_neg (by omega), if_neg (by omega), if_neg (by omega), if_neg (by omega), if_neg (by omega), if_neg (by omega), if_neg (by omega)]
    by_cases h : b0 / 8 = 30 ∧ (1 < n ∧ b1 / 64 = 2) ∧ (2 < n ∧ b2 / 64 = 2) ∧ (3 < n ∧ b3 / 64 = 2)
    · rw [if_pos h, if_neg (by omega), fixp_bad]
    · rw [if_neg h, fixp_bad]
theorem r1_decode (s : ByteArray) (i : Nat) (hi : i < s.size) : r1 (s.get! i).toNat (nx s (i + 1)) (nx s (i + 2)) (nx s (i + 3)) = rn1 s i := by
  unfold rn1
  rw [Lib.decode_at]
  exact r1_plain _ _ _ _ _ _ _ _ (s.get! i).toNat_lt (by omega) (nx_cases s i 1) (nx_cases s i 2) (nx_cases s i 3)
end Go.Proofs.Ytenlffhoinialaa
