
/- Names: plain facts on the bytes of U+FFFD: no program. -/
import Derived.Test.YtenlffhoinialaaNames7
namespace Go.Proofs.Ytenlffhoinialaa

theorem enc_ff (r : Nat) (h : r < 55296 ∨ (57344 ≤ r ∧ r ≤ 1114111)) : (Utf8.encode (r : Int)).toList = [239, 191, 189] ↔ r = 65533 := by
  rw [ByteArray.toList_eq]
  have hv : Utf8.valid (r : Int) = true := by
    simp only [Utf8.valid, Bool.or_eq_true, Bool.and_eq_true, decide_eq_true_eq]
    omega
  constructor
  · intro he
    unfold Utf8.encode at he
    simp only [hv, if_true, Int.toNat_natCast] at he
    split at he
    · simp at he
    · split at he
      · simp at he
      · split at he
        · simp only [List.cons.injEq, and_true] at he
          obtain ⟨h1, h2, h3⟩ := he
          have e1 := congrArg UInt8.toNat h1
          have e2 := congrArg UInt8.toNat h2
          have e3 := congrArg UInt8.toNat h3
          simp only [UInt8.toNat_ofNat'] at e1 e2 e3
          have f1 : (239 : UInt8).toNat = 239 := rfl
          have f2 : (191 : UInt8).toNat = 191 := rfl
          have f3 : (189 : UInt8).toNat = 189 := rfl
          rw [f1] at e1
          rw [f2] at e2
          rw [f3] at e3
          omega
        · simp at he
  · rintro rfl
    rfl
theorem decode_valid (s : ByteArray) (i : Nat) : (Utf8.decode s i).1 < 55296 ∨ (57344 ≤ (Utf8.decode s i).1 ∧ (Utf8.decode s i).1 ≤ 1114111) := by
  rw [Lib.decode_at]
  have h0 := (s.get! i).toNat_lt
  unfold Lib.decodeN
  repeat' split
  all_goals simp only
  all_goals omega
/-- The three bytes of U+FFFD at a place: the rune is 65533 of width 3. -/
theorem decode_three (s : ByteArray) (i : Nat) (h : (Utf8.decode s i).1 = 65533) : (Utf8.decode s i = (65533, 3)) ↔ (i + 3 ≤ s.size ∧ (s.get! i).toNat = 239 ∧ (s.get! (i + 1)).toNat = 191 ∧ (s.get! (i + 2)).toNat = 189) := by
  rw [Lib.decode_at] at *
  have h0 := (s.get! i).toNat_lt
  have c2 : (i + 3 ≤ s.size) = (2 < s.size - i) := propext ⟨fun h => by omega, fun h => by omega⟩
  rw [c2]
  clear c2
  generalize s.size - i = n at *
  generalize (s.get! i).toNat = b0 at *
  generalize (s.get! (i + 1)).toNat = b1 at *
  generalize (s.get! (i + 2)).toNat = b2 at *
  generalize (s.get! (i + 3)).toNat = b3 at *
  unfold Lib.decodeN at *
  constructor
  · intro he
    split at he
    · cases he
    · split at he
      · split at he <;> (injection he with e1 e2; omega)
      · split at he
        · split at he <;> (injection he with e1 e2; omega)
        · split at he
          · split at he <;> (injection he with e1 e2; omega)
          · injection he with e1 e2; omega
  · rintro ⟨e1, e2, e3, e4⟩
    subst e2 e3 e4
    rw [if_neg (by omega), if_neg (by omega), if_pos (by omega), if_pos (by omega)]
end Go.Proofs.Ytenlffhoinialaa
