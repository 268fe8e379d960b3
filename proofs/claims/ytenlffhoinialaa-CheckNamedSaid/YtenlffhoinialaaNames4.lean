
/- Names: the walk of the document's own rune. -/
import Derived.Test.YtenlffhoinialaaNames3
namespace Go.Proofs.Ytenlffhoinialaa
open Go.RowKit

theorem next_at (s : ByteArray) (j : Int) (i : Nat) (hj : j = i) (hi : i ≤ 9223372036854775807) (w : World) :
    Calls Try.prog 135 #[.string s, .int .i64 j] w fun e w' => e = .returned (.int .i64 (nx s i)) ∧ ∃ d, w' = w.drewN d := by
  subst hj
  exact next_calls s i hi w

set_option maxHeartbeats 4000000 in
set_option maxRecDepth 1000000 in
theorem rune1_calls (s : ByteArray) (i : Nat) (hi : i < s.size) (hs : s.size ≤ 1000000000000000000) (w : World) :
    Calls Try.prog 113 #[.string s, .int .i64 i] w fun e w' => e = .returned (.tuple #[.int .i64 (rn1 s i).1, .int .i64 (rn1 s i).2]) ∧ ∃ d, w' = w.drewN d := by
  have hg := r1_decode s i hi
  rw [get_at s i hi] at hg
  have HG := Lib.hid hg
  have hl := (s[i]'hi).toNat_lt
  clear hg
  have h1 : (i : Int) < (s.size : Int) := by omega
  have h0 : (0 : Int) ≤ (i : Int) := by omega
  have w1 : IntKind.i64.wrap ((i : Int) + 1) = (i : Int) + 1 := IntWalk.i64_in _ (by omega)
  have w2 : IntKind.i64.wrap ((i : Int) + 2) = (i : Int) + 2 := IntWalk.i64_in _ (by omega)
  have w3 : IntKind.i64.wrap ((i : Int) + 3) = (i : Int) + 3 := IntWalk.i64_in _ (by omega)
  go_enter Try.func113, Try.ntmps113
  go_wp2_with (fail)
  refine (next_at s _ (i + 1) (by omega) (by omega) _).mono ?_
  rintro e w' ⟨rfl, d1, rfl⟩
  have ha := nx_le s (i + 1)
  generalize nx s (i + 1) = a at *
  go_wp2_with (fail)
  refine (next_at s _ (i + 2) (by omega) (by omega) _).mono ?_
  rintro e w' ⟨rfl, d2, rfl⟩
  have hb := nx_le s (i + 2)
  generalize nx s (i + 2) = b at *
  go_wp2_with (fail)
  refine (next_at s _ (i + 3) (by omega) (by omega) _).mono ?_
  rintro e w' ⟨rfl, d3, rfl⟩
  have hd := nx_le s (i + 3)
  generalize nx s (i + 3) = d at *
  clear w1 w2 w3
  generalize ((s[i]'hi).toNat : Int) = c at *
  have key : ∀ x k : Int, r1 c a b d = (x, k) → rn1 s i = (x, k) := fun x k h => HG.out ▸ h
  have KEY := Lib.hid key
  clear key HG
  by_cases c1 : c < 128
  · have H := Lib.hid (KEY.out c 1 (by unfold r1; rw [if_pos c1]))
    clear KEY
    go_wp2
    go_ret2
    exact ⟨by rw [H.out]; rfl, _, rfl⟩
  have c2 : c < 194 ∨ (194 ≤ c ∧ c ≤ 223) ∨ (224 ≤ c ∧ c ≤ 239) ∨ (240 ≤ c ∧ c ≤ 244) ∨ 245 ≤ c := by omega
  rcases c2 with c2 | ⟨c2, c3⟩ | ⟨c2, c3⟩ | ⟨c2, c3⟩ | c2
  · have H := Lib.hid (KEY.out 65533 0 (by unfold r1; rw [if_neg c1, if_neg (by omega), if_neg (by omega), if_neg (by omega)]))
    clear KEY
    have e1 : ¬ 194 ≤ c := by omega
    have e2 : ¬ 224 ≤ c := by omega
    have e3 : ¬ 240 ≤ c := by omega
    go_wp2
    go_ret2
    exact ⟨by rw [H.out]; rfl, _, rfl⟩
  · have e2 : ¬ 224 ≤ c := by omega
    have e3 : ¬ 240 ≤ c := by omega
    by_cases a0 : 0 ≤ a
    · have H := Lib.hid (KEY.out ((c - 192) * 64 + a) 2 (by unfold r1; rw [if_neg c1, if_pos ⟨c2, c3, a0⟩]))
      have ew : IntKind.i64.wrap ((c - 192) * 64 + a) = (c - 192) * 64 + a := IntWalk.i64_in _ (by omega)
      clear KEY
      go_wp2
      go_ret2
      exact ⟨by rw [H.out]; first | rfl | (go_num), _, rfl⟩
    · have H := Lib.hid (KEY.out 65533 0 (by unfold r1; rw [if_neg c1, if_neg (by omega), if_neg (by omega), if_neg (by omega)]))
      clear KEY
      go_wp2
      go_ret2
      exact ⟨by rw [H.out]; rfl, _, rfl⟩
  · have e1 : ¬ c ≤ 223 := by omega
    have e2 : 194 ≤ c := by omega
    have e3 : ¬ 240 ≤ c := by omega
    have ab : (0 ≤ a ∧ 0 ≤ b) ∨ ¬ 0 ≤ a ∨ (0 ≤ a ∧ ¬ 0 ≤ b) := by omega
    rcases ab with ⟨a0, b0⟩ | a0 | ⟨a0, b0⟩
    · have ew1 : IntKind.i64.wrap ((c - 224) * 4096 + a * 64) = (c - 224) * 4096 + a * 64 := IntWalk.i64_in _ (by omega)
      have ew : IntKind.i64.wrap ((c - 224) * 4096 + a * 64 + b) = (c - 224) * 4096 + a * 64 + b := IntWalk.i64_in _ (by omega)
      have rr : ¬ 2048 ≤ (c - 224) * 4096 + a * 64 + b ∨ (2048 ≤ (c - 224) * 4096 + a * 64 + b ∧ (c - 224) * 4096 + a * 64 + b < 55296) ∨ (2048 ≤ (c - 224) * 4096 + a * 64 + b ∧ ¬ (c - 224) * 4096 + a * 64 + b < 55296 ∧ ¬ 57343 < (c - 224) * 4096 + a * 64 + b) ∨ (2048 ≤ (c - 224) * 4096 + a * 64 + b ∧ ¬ (c - 224) * 4096 + a * 64 + b < 55296 ∧ 57343 < (c - 224) * 4096 + a * 64 + b) := by omega
      have K0 := Lib.hid (show (¬ 2048 ≤ (c - 224) * 4096 + a * 64 + b ∨ (¬ (c - 224) * 4096 + a * 64 + b < 55296 ∧ ¬ 57343 < (c - 224) * 4096 + a * 64 + b)) → rn1 s i = (65533, 0) from fun h => KEY.out _ _ (by unfold r1 r3; rw [if_neg c1, if_neg (by omega), if_pos ⟨c2, c3, a0, b0⟩, if_neg (by omega)]))
      have K1 := Lib.hid (show (2048 ≤ (c - 224) * 4096 + a * 64 + b ∧ ((c - 224) * 4096 + a * 64 + b < 55296 ∨ 57343 < (c - 224) * 4096 + a * 64 + b)) → rn1 s i = ((c - 224) * 4096 + a * 64 + b, 3) from fun h => KEY.out _ _ (by unfold r1 r3; rw [if_neg c1, if_neg (by omega), if_pos ⟨c2, c3, a0, b0⟩, if_pos h]))
      clear KEY
      rcases rr with rr | ⟨r1, r2⟩ | ⟨r1, r2, r3⟩ | ⟨r1, r2, r3⟩
      · have H := Lib.hid (K0.out (.inl rr))
        clear K0 K1
        go_wp2
        go_ret2
        exact ⟨by rw [H.out]; rfl, _, rfl⟩
      · have H := Lib.hid (K1.out ⟨r1, .inl r2⟩)
        clear K0 K1
        go_wp2
        go_ret2
        exact ⟨by rw [H.out]; first | rfl | (go_num), _, rfl⟩
      · have H := Lib.hid (K0.out (.inr ⟨r2, r3⟩))
        clear K0 K1
        go_wp2
        go_ret2
        exact ⟨by rw [H.out]; rfl, _, rfl⟩
      · have H := Lib.hid (K1.out ⟨r1, .inr r3⟩)
        clear K0 K1
        go_wp2
        go_ret2
        exact ⟨by rw [H.out]; first | rfl | (go_num), _, rfl⟩
    all_goals (
      have H := Lib.hid (KEY.out 65533 0 (by unfold r1; rw [if_neg c1, if_neg (by omega), if_neg (by omega), if_neg (by omega)]))
      clear KEY
      go_wp2
      go_ret2
      exact ⟨by rw [H.out]; rfl, _, rfl⟩)
  · have e1 : ¬ c ≤ 223 := by omega
    have e2 : 194 ≤ c := by omega
    have e3 : 224 ≤ c := by omega
    have e4 : ¬ c ≤ 239 := by omega
    have ab : (0 ≤ a ∧ 0 ≤ b ∧ 0 ≤ d) ∨ ¬ 0 ≤ a ∨ (0 ≤ a ∧ ¬ 0 ≤ b) ∨ (0 ≤ a ∧ 0 ≤ b ∧ ¬ 0 ≤ d) := by omega
    rcases ab with ⟨a0, b0, d0⟩ | a0 | ⟨a0, b0⟩ | ⟨a0, b0, d0⟩
    · have ew : IntKind.i64.wrap ((c - 240) * 262144 + a * 4096 + b * 64 + d) = (c - 240) * 262144 + a * 4096 + b * 64 + d := IntWalk.i64_in _ (by omega)
      have rr : ¬ 65536 ≤ (c - 240) * 262144 + a * 4096 + b * 64 + d ∨ (65536 ≤ (c - 240) * 262144 + a * 4096 + b * 64 + d ∧ (c - 240) * 262144 + a * 4096 + b * 64 + d ≤ 1114111) ∨ (65536 ≤ (c - 240) * 262144 + a * 4096 + b * 64 + d ∧ ¬ (c - 240) * 262144 + a * 4096 + b * 64 + d ≤ 1114111) := by omega
      have K0 := Lib.hid (show ¬ (65536 ≤ (c - 240) * 262144 + a * 4096 + b * 64 + d ∧ (c - 240) * 262144 + a * 4096 + b * 64 + d ≤ 1114111) → rn1 s i = (65533, 0) from fun h => KEY.out _ _ (by unfold r1 r4; rw [if_neg c1, if_neg (by omega), if_neg (by omega), if_pos ⟨c2, c3, a0, b0, d0⟩, if_neg h]))
      have K1 := Lib.hid (show (65536 ≤ (c - 240) * 262144 + a * 4096 + b * 64 + d ∧ (c - 240) * 262144 + a * 4096 + b * 64 + d ≤ 1114111) → rn1 s i = ((c - 240) * 262144 + a * 4096 + b * 64 + d, 4) from fun h => KEY.out _ _ (by unfold r1 r4; rw [if_neg c1, if_neg (by omega), if_neg (by omega), if_pos ⟨c2, c3, a0, b0, d0⟩, if_pos h]))
      clear KEY
      rcases rr with rr | ⟨r1, r2⟩ | ⟨r1, r2⟩
      · have H := Lib.hid (K0.out (fun h => rr h.1))
        clear K0 K1
        go_wp2
        go_ret2
        exact ⟨by rw [H.out]; rfl, _, rfl⟩
      · have H := Lib.hid (K1.out ⟨r1, r2⟩)
        clear K0 K1
        go_wp2
        go_ret2
        exact ⟨by rw [H.out]; first | rfl | (go_num), _, rfl⟩
      · have H := Lib.hid (K0.out (fun h => r2 h.2))
        clear K0 K1
        go_wp2
        go_ret2
        exact ⟨by rw [H.out]; rfl, _, rfl⟩
    all_goals (
      have H := Lib.hid (KEY.out 65533 0 (by unfold r1; rw [if_neg c1, if_neg (by omega), if_neg (by omega), if_neg (by omega)]))
      clear KEY
      go_wp2
      go_ret2
      exact ⟨by rw [H.out]; rfl, _, rfl⟩)
  · have H := Lib.hid (KEY.out 65533 0 (by unfold r1; rw [if_neg c1, if_neg (by omega), if_neg (by omega), if_neg (by omega)]))
    clear KEY
    have e1 : ¬ c ≤ 223 := by omega
    have e2 : ¬ c ≤ 239 := by omega
    have e3 : ¬ c ≤ 244 := by omega
    have e4 : 194 ≤ c := by omega
    have e5 : 224 ≤ c := by omega
    have e6 : 240 ≤ c := by omega
    go_wp2
    go_ret2
    exact ⟨by rw [H.out]; rfl, _, rfl⟩
end Go.Proofs.Ytenlffhoinialaa
