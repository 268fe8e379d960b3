
/- Names: the prefix test at a place: no program. -/
import Derived.Test.YtenlffhoinialaaNamesP
namespace Go.Proofs.Ytenlffhoinialaa

theorem extract_three (s : ByteArray) (i : Nat) (h : i + 3 ≤ s.size) : ((s.extract i s.size).extract 0 3).toList = [s.get! i, s.get! (i + 1), s.get! (i + 2)] := by
  rw [get_at s i (by omega), get_at s (i + 1) (by omega), get_at s (i + 2) (by omega), ByteArray.toList_eq]
  apply List.ext_getElem
  · simp
    have : s.data.size = s.size := rfl
    omega
  · intro k h1 h2
    simp only [List.length_cons, List.length_nil] at h2
    have hk : k = 0 ∨ k = 1 ∨ k = 2 := by omega
    rcases hk with rfl | rfl | rfl <;> simp <;> rfl
theorem prefix_ff (s : ByteArray) (i : Nat) (_ : i < s.size) (hr : (Utf8.decode s i).1 = 65533) :
    (decide ((⟨#[239, 191, 189]⟩ : ByteArray).size ≤ (s.extract i s.size).size) && (((s.extract i s.size).extract 0 (⟨#[239, 191, 189]⟩ : ByteArray).size).toList == (⟨#[239, 191, 189]⟩ : ByteArray).toList)) = !(Utf8.decode s i == (65533, 1)) := by
  have hsz : (s.extract i s.size).size = s.size - i := by simp [ByteArray.size_extract]
  have e3 : (⟨#[239, 191, 189]⟩ : ByteArray).size = 3 := rfl
  have eL : (⟨#[239, 191, 189]⟩ : ByteArray).toList = [239, 191, 189] := by rw [ByteArray.toList_eq]
  rw [hsz, e3, eL]
  have h13 : Utf8.decode s i = (65533, 1) ∨ Utf8.decode s i = (65533, 3) := by
    have h0 := (s.get! i).toNat_lt
    have h := hr
    have h2 : (Utf8.decode s i).2 = 1 ∨ (Utf8.decode s i).2 = 3 := by
      rw [Lib.decode_at] at h ⊢
      unfold Lib.decodeN at h ⊢
      generalize (s.get! i).toNat = b0 at *
      generalize (s.get! (i + 1)).toNat = b1 at *
      generalize (s.get! (i + 2)).toNat = b2 at *
      generalize (s.get! (i + 3)).toNat = b3 at *
      revert h
      repeat' split
      all_goals intro h
      all_goals first
        | exact .inl rfl
        | exact .inr rfl
        | (exfalso; simp only at h; omega)
    exact h2.imp (fun h2 => Prod.ext h h2) (fun h2 => Prod.ext h h2)
  have ht := decode_three s i hr
  rcases h13 with h | h
  · have hn : ¬ (i + 3 ≤ s.size ∧ (s.get! i).toNat = 239 ∧ (s.get! (i + 1)).toNat = 191 ∧ (s.get! (i + 2)).toNat = 189) := fun h' => by
      have := ht.2 h'
      rw [h] at this
      cases this
    rw [h]
    by_cases h3 : i + 3 ≤ s.size
    · rw [extract_three s i h3, show decide (3 ≤ s.size - i) = true by simp; omega, Bool.true_and]
      simp only [BEq.rfl, Bool.not_true, beq_eq_false_iff_ne, ne_eq, List.cons.injEq, and_true]
      rintro ⟨a, b, c⟩
      rw [a, b, c] at hn
      exact hn ⟨h3, rfl, rfl, rfl⟩
    · rw [show decide (3 ≤ s.size - i) = false by simp; omega]
      rfl
  · obtain ⟨h3, a, b, c⟩ := ht.1 h
    rw [h, extract_three s i h3, show decide (3 ≤ s.size - i) = true by simp; omega, Bool.true_and]
    have a' : s.get! i = 239 := UInt8.toNat_inj.1 a
    have b' : s.get! (i + 1) = 191 := UInt8.toNat_inj.1 b
    have c' : s.get! (i + 2) = 189 := UInt8.toNat_inj.1 c
    rw [a', b', c']
    rfl
end Go.Proofs.Ytenlffhoinialaa
