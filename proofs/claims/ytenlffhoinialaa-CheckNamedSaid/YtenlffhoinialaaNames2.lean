
/- Names: the document's own rune: 'next' and 'rune1' tell what the model's range over a string tells. -/
import Derived.Test.YtenlffhoinialaaNames
import Derived.Laws.Strings
import Derived.Laws.Strings2
import Derived.Laws.Strings3
namespace Go.Proofs.Ytenlffhoinialaa
open Go.RowKit

/-- A byte that goes on; -1: none. -/
def nx (s : ByteArray) (i : Nat) : Int := if i < s.size ∧ 128 ≤ (s.get! i).toNat ∧ (s.get! i).toNat ≤ 191 then ((s.get! i).toNat : Int) - 128 else -1
theorem get_at (s : ByteArray) (i : Nat) (h : i < s.size) : s.get! i = s[i]'h := by
  simp [ByteArray.get!, getElem!_pos, h]
  rfl

set_option maxRecDepth 1000000 in
theorem next_calls (s : ByteArray) (i : Nat) (hi : i ≤ 9223372036854775807) (w : World) :
    Calls Try.prog 135 #[.string s, .int .i64 i] w fun e w' => e = .returned (.int .i64 (nx s i)) ∧ ∃ d, w' = w.drewN d := by
  go_enter Try.func135, Try.ntmps135
  by_cases hp : i < s.size
  · have h1 : (i : Int) < (s.size : Int) := by omega
    have h0 : (0 : Int) ≤ (i : Int) := by omega
    have hg := Lib.hid (get_at s i hp)
    have hl := (s[i]'hp).toNat_lt
    have hx : (((s[i]'hp).toNat : Int) < 128) ∨ (¬ ((s[i]'hp).toNat : Int) < 128 ∧ 191 < ((s[i]'hp).toNat : Int)) ∨ (¬ ((s[i]'hp).toNat : Int) < 128 ∧ ¬ 191 < ((s[i]'hp).toNat : Int)) := by omega
    have hn : (((s[i]'hp).toNat : Int) < 128 ∨ 191 < ((s[i]'hp).toNat : Int)) → nx s i = -1 := fun h => by unfold nx; rw [hg.out, if_neg (by omega)]
    have hn2 : ¬ ((s[i]'hp).toNat : Int) < 128 → ¬ 191 < ((s[i]'hp).toNat : Int) → nx s i = ((s[i]'hp).toNat : Int) - 128 := fun h h' => by unfold nx; rw [hg.out, if_pos (by omega)]
    have HN := Lib.hid hn
    have HN2 := Lib.hid hn2
    clear hn hn2
    rcases hx with hx | ⟨hx, hy⟩ | ⟨hx, hy⟩
    · have H := Lib.hid (HN.out (.inl hx))
      go_wp2
      go_ret
      exact ⟨by rw [H.out]; rfl, 0, rfl⟩
    · have H := Lib.hid (HN.out (.inr hy))
      go_wp2
      go_ret
      exact ⟨by rw [H.out]; rfl, 0, rfl⟩
    · have H := Lib.hid (HN2.out hx hy)
      go_wp2
      go_ret
      exact ⟨by rw [H.out]; rfl, 0, rfl⟩
  · have h1 : (s.size : Int) ≤ (i : Int) := by omega
    have h2 : s.size ≤ i := by omega
    have H := Lib.hid (show nx s i = -1 by unfold nx; rw [if_neg (by omega)])
    go_wp2
    go_ret
    exact ⟨by rw [H.out]; rfl, 0, rfl⟩
end Go.Proofs.Ytenlffhoinialaa
