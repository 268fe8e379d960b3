/- The document's Check at any string; Below. -/
import Derived.Test.YtenlffhoinialaaMCkSrt
import Derived.Test.YtenlffhoinialaaMNM
namespace Go.Proofs.Ytenlffhoinialaa
open Go.RowKit
set_option maxHeartbeats 1000000
set_option maxRecDepth 1000000 in
theorem rcheck_any (s : ByteArray) (w : World) :
    Calls Try.prog 84 #[.string s] w fun e w' => e = .returned (.int .i64 (ncheck s)) ∧ ∃ d, w' = w.drewN d := by
  by_cases h1 : 12 < s.size
  · have h2 : (12 : Int) < (s.size : Int) := by omega
    have H := Lib.hid (show ncheck s = 801 by unfold ncheck; rw [if_pos h1])
    go_enter Try.func84, Try.ntmps84
    go_wp2_with (fail)
    go_ret
    exact ⟨by rw [H.out]; rfl, 0, rfl⟩
  · exact rcheck_calls s (by omega) w
theorem drewN2 (w : World) (a b : Nat) : (w.drewN a).drewN b = w.drewN (a + b) := by simp [World.drewN, Nat.add_assoc]
theorem toList_at (s : ByteArray) (k : Nat) (h : k < s.size) : s.toList.drop k = s[k]'h :: s.toList.drop (k + 1) := by
  have hl : s.toList.length = s.size := by rw [Lib.toList_data]; exact Array.length_toList
  rw [List.drop_eq_getElem_cons (by omega)]
  congr 1
  have e : s.toList = s.data.toList := Lib.toList_data s
  have : ∀ (l : List UInt8) (h1 : k < l.length), l = s.data.toList → l[k] = s[k]'h := by
    intro l h1 e
    subst e
    rfl
  exact this _ _ e
theorem toList_end (s : ByteArray) (k : Nat) (h : s.size ≤ k) : s.toList.drop k = [] := by
  have hl : s.toList.length = s.size := by rw [Lib.toList_data]; exact Array.length_toList
  exact List.drop_eq_nil_of_le (by omega)
theorem nlt_step {s t : ByteArray} {k : Nat} (h : nlt s t = Op.bytesLess (s.toList.drop k) (t.toList.drop k)) (hs : k < s.size) (ht : k < t.size) :
    nlt s t = if (s[k]'hs).toNat = (t[k]'ht).toNat then Op.bytesLess (s.toList.drop (k + 1)) (t.toList.drop (k + 1)) else decide ((s[k]'hs).toNat < (t[k]'ht).toNat) := by
  rw [h, toList_at s k hs, toList_at t k ht]
  rcases hq : Op.bytesLess (s[k] :: s.toList.drop (k + 1)) (t[k] :: t.toList.drop (k + 1)) with _ | _
  · have hn : ¬ (Op.bytesLess (s[k] :: s.toList.drop (k + 1)) (t[k] :: t.toList.drop (k + 1)) = true) := by rw [hq]; exact Bool.false_ne_true
    rw [bl_cons] at hn
    by_cases e : (s[k]'hs).toNat = (t[k]'ht).toNat
    · rw [if_pos e]
      have e2 : s[k]'hs = t[k]'ht := UInt8.toNat_inj.1 e
      exact (Bool.eq_false_iff.2 fun h => hn (.inr ⟨e2, h⟩)).symm
    · rw [if_neg e]
      exact (decide_eq_false fun h => hn (.inl (UInt8.lt_iff_toNat_lt.2 h))).symm
  · rw [bl_cons] at hq
    by_cases e : (s[k]'hs).toNat = (t[k]'ht).toNat
    · rw [if_pos e]
      have e2 : s[k]'hs = t[k]'ht := UInt8.toNat_inj.1 e
      rcases hq with h | ⟨_, h⟩
      · have := UInt8.lt_iff_toNat_lt.1 h; omega
      · exact h.symm
    · rw [if_neg e]
      rcases hq with h | ⟨h, _⟩
      · exact (decide_eq_true (UInt8.lt_iff_toNat_lt.1 h)).symm
      · exact absurd (congrArg UInt8.toNat h) e
theorem nlt_last {s t : ByteArray} {k : Nat} (h : nlt s t = Op.bytesLess (s.toList.drop k) (t.toList.drop k)) (hk1 : k ≤ s.size) (hk2 : k ≤ t.size) (hs : ¬ k < s.size ∨ ¬ k < t.size) : nlt s t = decide ((s.size : Int) < (t.size : Int)) := by
  rw [h]
  by_cases ht : k < t.size
  · have hs1 : ¬ k < s.size := by omega
    rw [toList_end s k (by omega), toList_at t k ht]
    exact (decide_eq_true (by omega)).symm
  · rw [toList_end t k (by omega)]
    have : ¬ ((s.size : Int) < (t.size : Int)) := by omega
    rw [decide_eq_false this]
    cases s.toList.drop k <;> rfl
set_option maxRecDepth 1000000 in
theorem rbelow_calls (s t : ByteArray) (hs : s.size ≤ 100) (ht : t.size ≤ 100) (w : World) :
    Calls Try.prog 82 #[.string s, .string t] w fun e w' => e = .returned (.bool (nlt s t)) ∧ ∃ d, w' = w.drewN d := by
  go_enter Try.func82, Try.ntmps82
  go_wp2_with (fail)
  go_loopw [5] (fun i wr => ∃ (k d : Nat), i = .int .i64 k ∧ k ≤ s.size ∧ k ≤ t.size ∧ nlt s t = Op.bytesLess (s.toList.drop k) (t.toList.drop k) ∧ wr = w.drewN d) (fun i _ => 200 - (intOf i).toNat)
  case atStart => exact ⟨0, 0, rfl, by omega, by omega, rfl, rfl⟩
  case round =>
    obtain ⟨k, d, rfl, hk1, hk2, hn, rfl⟩ := hrel
    have HN := Lib.hid hn
    clear hn
    by_cases hg : k < s.size ∧ k < t.size
    · obtain ⟨g1, g2⟩ := hg
      have g3 : (k : Int) < (s.size : Int) := by omega
      have g4 : (k : Int) < (t.size : Int) := by omega
      have HST := Lib.hid (nlt_step HN.out g1 g2)
      by_cases e : (s[k]'g1).toNat = (t[k]'g2).toNat
      · have HE := Lib.hid (HST.out.trans (if_pos e))
        have e2 : (((s[k]'g1).toNat : Int) != ((t[k]'g2).toNat : Int)) = false := by rw [e]; simp
        clear HST HN
        go_wp2_with (fail)
        go_quiet (fail)
        go_wp2_with (fail)
        go_roundw
        case rel => exact ⟨k + 1, _, by first | rfl | (congr 1; omega), by omega, by omega, HE.out, rfl⟩
        case measure =>
          simp only [intOf]
          omega
      · have HE := Lib.hid (HST.out.trans (if_neg e))
        have e2 : (((s[k]'g1).toNat : Int) != ((t[k]'g2).toNat : Int)) = true := by rw [bne, beq_eq_false_iff_ne.2 (fun h => e (by omega))]; rfl
        clear HST HN
        go_wp2_with (fail)
        go_quiet (fail)
        go_wp2_with (fail)
        go_quiet (fail)
        go_wp2_with (fail)
        go_ret
        refine ⟨?_, _, by rw [drewN2, drewN2]⟩
        rw [HE.out]
        simp
    · have hor : ¬ (k : Int) < (s.size : Int) ∨ ((k : Int) < (s.size : Int) ∧ ¬ (k : Int) < (t.size : Int)) := by omega
      have HE := Lib.hid (nlt_last HN.out hk1 hk2 (by omega))
      clear HN hg
      rcases hor with g1 | ⟨g1, g2⟩
      all_goals (
        go_wp2_with (fail)
        go_ret
        refine ⟨?_, _, rfl⟩
        rw [HE.out]
        simp)
end Go.Proofs.Ytenlffhoinialaa
