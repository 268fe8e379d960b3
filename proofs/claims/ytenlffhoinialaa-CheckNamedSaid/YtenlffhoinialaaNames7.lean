
/- Names: the document's own Check. -/
import Derived.Test.YtenlffhoinialaaNames6
namespace Go.Proofs.Ytenlffhoinialaa
open Go.RowKit

/-- A rune that a name may have: none of '/', below 32, 127, and no byte that is no rune. -/
def runeOk (p : Nat × Nat) : Bool := !(p.1 == 47 || decide (p.1 < 32) || p.1 == 127 || p == (65533, 1))
def okFrom (s : ByteArray) : Nat → Nat → Bool
  | 0, _ => true
  | b + 1, pos => if pos < s.size then (runeOk (Utf8.decode s pos) && okFrom s b (pos + (Utf8.decode s pos).2)) else true

/-- What a Check tells: too long, no name, a name. -/
def ncheck (s : ByteArray) : Int :=
  if 12 < s.size then 801 else if (s.toList.isEmpty || s.toList == [46] || s.toList == [46, 46]) = true then 800 else if okFrom s s.size 0 = true then 0 else 800
theorem okFrom_end (s : ByteArray) (b pos : Nat) (h : ¬ pos < s.size) : okFrom s b pos = true := by
  cases b with
  | zero => rfl
  | succ b => simp [okFrom, h]
theorem rn1_ok (s : ByteArray) (i : Nat) (_ : i < s.size) : ((rn1 s i).2 = 0 ∧ runeOk (Utf8.decode s i) = false) ∨ (¬ (rn1 s i).2 = 0 ∧ (rn1 s i).2 = ((Utf8.decode s i).2 : Int) ∧ runeOk (Utf8.decode s i) = !((Utf8.decode s i).1 == 47 || decide ((Utf8.decode s i).1 < 32) || (Utf8.decode s i).1 == 127)) := by
  have h1 := Lib.decode_width_pos s i ‹_›
  unfold rn1 fixp runeOk
  by_cases h : Utf8.decode s i = (65533, 1)
  · rw [if_pos h, h]
    exact .inl ⟨rfl, by simp⟩
  · rw [if_neg h]
    refine .inr ⟨by simp only; omega, rfl, ?_⟩
    rw [show (Utf8.decode s i == (65533, 1)) = false by simpa using h, Bool.or_false]

set_option maxRecDepth 1000000 in
theorem rcheck_calls (s : ByteArray) (hs : s.size ≤ 1000000000000000000) (w : World) :
    Calls Try.prog 84 #[.string s] w fun e w' => e = .returned (.int .i64 (ncheck s)) ∧ ∃ d, w' = w.drewN d := by
  go_enter Try.func84, Try.ntmps84
  by_cases h1 : 12 < s.size
  · have h2 : (12 : Int) < (s.size : Int) := by omega
    have H := Lib.hid (show ncheck s = 801 by unfold ncheck; rw [if_pos h1])
    go_wp2_with (fail)
    go_ret
    exact ⟨by rw [H.out]; rfl, 0, rfl⟩
  · have h2 : ¬ (12 : Int) < (s.size : Int) := by omega
    by_cases hf : (s.toList.isEmpty || s.toList == [46] || s.toList == [46, 46]) = true
    · have H := Lib.hid (show ncheck s = 800 by unfold ncheck; rw [if_neg h1, if_pos hf])
      have hx : s.toList.isEmpty = true ∨ (s.toList.isEmpty = false ∧ (s.toList == [46]) = true) ∨ (s.toList.isEmpty = false ∧ (s.toList == [46]) = false ∧ (s.toList == [46, 46]) = true) := by
        revert hf
        cases s.toList.isEmpty <;> cases (s.toList == [46]) <;> cases (s.toList == [46, 46]) <;> simp
      clear hf
      rcases hx with hx | ⟨hx, hy⟩ | ⟨hx, hy, hz⟩
      all_goals (
        go_wp2_with (fail)
        go_ret
        exact ⟨by rw [H.out]; rfl, 0, rfl⟩)
    · have HN := Lib.hid (show ncheck s = if okFrom s s.size 0 = true then 0 else 800 by unfold ncheck; rw [if_neg h1, if_neg hf])
      have hx : s.toList.isEmpty = false ∧ (s.toList == [46]) = false ∧ (s.toList == [46, 46]) = false := by
        revert hf
        cases s.toList.isEmpty <;> cases (s.toList == [46]) <;> cases (s.toList == [46, 46]) <;> simp
      obtain ⟨hx, hy, hz⟩ := hx
      clear hf
      go_wp2_with (fail)
      go_loopw [3] (fun i wr => ∃ (pos b d : Nat), wr = w.drewN d ∧ i = .int .i64 pos ∧ okFrom s b pos = okFrom s s.size 0 ∧ s.size ≤ pos + b ∧ pos ≤ s.size) (fun i _ => s.size - (intOf i).toNat)
      case atStart => exact ⟨0, s.size, 0, rfl, rfl, rfl, by omega, by omega⟩
      case round =>
        obtain ⟨pos, b, d, rfl, rfl, hc, hb, hps⟩ := hrel
        by_cases hp : pos < s.size
        · have hp1 : (pos : Int) < (s.size : Int) := by omega
          obtain ⟨b', rfl⟩ : ∃ b', b = b' + 1 := ⟨b - 1, by omega⟩
          have HC := Lib.hid hc
          have HO := Lib.hid (show okFrom s (b' + 1) pos = (runeOk (Utf8.decode s pos) && okFrom s b' (pos + (Utf8.decode s pos).2)) by simp only [okFrom, hp, if_true])
          have HF := Lib.hid (show runeOk (Utf8.decode s pos) = false → ncheck s = 800 from fun h => by rw [HN.out, ← HC.out, HO.out, h]; rfl)
          clear hc
          go_wp2_with (fail)
          refine (rune1_calls s pos hp hs _).mono ?_
          rintro e w' ⟨rfl, d1, rfl⟩
          rw [rn1_fst]
          have hw2 := decode_snd_le s pos hp
          have hw1 := Lib.decode_width_pos s pos hp
          have hk := rn1_ok s pos hp
          have hrl := decode_le s pos
          generalize (rn1 s pos).2 = k at *
          generalize (Utf8.decode s pos).1 = r at *
          generalize (Utf8.decode s pos).2 = q at *
          rcases hk with ⟨rfl, hk⟩ | ⟨hk0, rfl, hk⟩
          · have H := Lib.hid (HF.out hk)
            clear HF HO HC HN hk
            go_wp2_with (fail)
            go_ret
            exact ⟨by rw [H.out]; rfl, _, rfl⟩
          · have hr : r = 47 ∨ (r ≠ 47 ∧ r < 32) ∨ r = 127 ∨ (r ≠ 47 ∧ ¬ r < 32 ∧ r ≠ 127) := by omega
            have k0 : ((q : Int) == 0) = false := by simpa using hk0
            rcases hr with rfl | ⟨hr, hr2⟩ | rfl | ⟨hr, hr2, hr3⟩
            · have H := Lib.hid (HF.out (by rw [hk]; rfl))
              clear HF HO HC HN hk
              go_wp2_with (fail)
              go_ret
              exact ⟨by rw [H.out]; rfl, _, rfl⟩
            · have H := Lib.hid (HF.out (by rw [hk]; simp [hr2]))
              have hr4 : ((r : Int) == 47) = false := by simp; omega
              have hr5 : (r : Int) < 32 := by omega
              clear HF HO HC HN hk
              go_wp2_with (fail)
              go_ret
              exact ⟨by rw [H.out]; rfl, _, rfl⟩
            · have H := Lib.hid (HF.out (by rw [hk]; rfl))
              clear HF HO HC HN hk
              go_wp2_with (fail)
              go_ret
              exact ⟨by rw [H.out]; rfl, _, rfl⟩
            · have hok : runeOk (Utf8.decode s pos) = true := by rw [hk]; simp [hr, hr2, hr3]
              have HC2 := Lib.hid (show okFrom s b' (pos + q) = okFrom s s.size 0 by rw [← HC.out, HO.out, hok, Bool.true_and])
              have hr4 : ((r : Int) == 47) = false := by simp; omega
              have hr5 : ¬ (r : Int) < 32 := by omega
              have hr6 : ((r : Int) == 127) = false := by simp; omega
              have e5 : wrap64 ((pos : Int) + (q : Int)) = ((pos + q : Nat) : Int) := by
                rw [IntWalk.wrap64_in _ (by omega)]
                omega
              clear HF HO HC hk hok
              go_wp2_with (fail)
              go_roundw
              case rel => exact ⟨pos + q, b', _, rfl, by first | rfl | rw [e5], HC2.out, by omega, by omega⟩
              case measure =>
                simp only [intOf]
                first | omega | (rw [e5]; omega)
        · have hp1 : ¬ (pos : Int) < (s.size : Int) := by omega
          have H := Lib.hid (show ncheck s = 0 by rw [HN.out, ← hc, okFrom_end s b pos hp, if_pos rfl])
          clear hc HN
          go_wp2_with (fail)
          go_ret
          exact ⟨by rw [H.out]; rfl, _, rfl⟩
end Go.Proofs.Ytenlffhoinialaa
