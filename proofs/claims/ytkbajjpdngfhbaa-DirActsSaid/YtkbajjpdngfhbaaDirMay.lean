
/- dir.may: the names that are asked. -/
import Derived.Test.YtkbajjpdngfhbaaDirGet
namespace Go.Proofs.Ytkbajjpdngfhbaa
open Go.RowKit
set_option maxHeartbeats 1000000
/-- Each of the names may be. -/
def allOk (l : List ByteArray) : Bool := l.all fun s => ncheck s == 0
theorem drop_at {l : List ByteArray} {k : Nat} (h : k < l.length) : l.drop k = l[k] :: l.drop (k + 1) := List.drop_eq_getElem_cons h
set_option maxRecDepth 1000000 in
theorem mayf_calls (s : ByteArray) (w : World) :
    Calls Try.prog 51 #[.string s] w fun e w' => e = .returned (.bool (!(ncheck s == 0))) ∧ Below w.heap.size w w' := by
  have H := Lib.hid (may_calls s)
  go_enter Try.func51, Try.ntmps51
  go_wp2_with (fail)
  refine (H.out _).mono ?_
  rintro e w1 ⟨rfl, hB⟩
  go_wp2_with (fail)
  go_ret
  exact ⟨rfl, hB⟩
set_option maxRecDepth 1000000 in
theorem index_calls (l : List ByteArray) (g cap : Nat) (w : World) (hl : l.length ≤ 1000) (hB : Blk w g 9 (l.map Value.string).toArray) :
    Calls Try.prog 65 #[.slice (some ⟨g, 0, none⟩) l.length cap, .func (.func 51) #[] #[]] w fun e w' => (∃ r : Int, e = .returned (.int .i64 r) ∧ (0 ≤ r ↔ allOk l = false)) ∧ Below w.heap.size w w' := by
  have HB := Lib.hid hB
  clear hB
  go_enter Try.func65, Try.ntmps65
  go_wp2_with (fail)
  go_loopw [8] (fun i wr => ∃ k : Nat, i = .int .i64 k ∧ k ≤ l.length ∧ allOk l = allOk (l.drop k) ∧ Below w.heap.size w wr) (fun i _ => l.length - (intOf i).toNat)
  case atStart => exact ⟨0, rfl, by omega, rfl, Below.refl _ _⟩
  case round =>
    obtain ⟨k, rfl, hk, ha, hK⟩ := hrel
    by_cases hp : k < l.length
    · have h1 : (k : Int) < (l.length : Int) := by omega
      have h0 : (0 : Int) ≤ (k : Int) := by omega
      have ck : wr.cell? ⟨g, k, none⟩ = some (.string (l[k]'hp)) := by
        have hb : Blk wr g 9 (l.map Value.string).toArray := Blk.of_heap (hK.block _ HB.out.lt) HB.out
        rw [hb.cell k]
        simp [hp]
      have HA := Lib.hid (show allOk (l.drop k) = ((ncheck (l[k]'hp) == 0) && allOk (l.drop (k + 1))) by rw [drop_at hp]; rfl)
      have HA2 := Lib.hid ha
      clear ha
      have HM := Lib.hid (mayf_calls (l[k]'hp))
      generalize l[k]'hp = s at *
      go_wp2_with (fail)
      refine (HM.out _).mono ?_
      rintro e w1 ⟨rfl, hB1⟩
      have hK1 := bel_then hK hB1
      by_cases hq : (ncheck s == 0) = true
      · have HF := Lib.hid (show allOk l = allOk (l.drop (k + 1)) by rw [HA2.out, HA.out, hq, Bool.true_and])
        rw [hq]
        clear HA HA2
        go_wp2_with (fail)
        go_roundw
        case rel => exact ⟨k + 1, by first | rfl | (congr 1; omega), by omega, HF.out, hK1⟩
        case measure =>
          simp only [intOf]
          omega
      · have hq := Bool.eq_false_iff.2 hq
        have HF := Lib.hid (show allOk l = false by rw [HA2.out, HA.out, hq, Bool.false_and])
        rw [hq]
        clear HA HA2
        go_wp2_with (fail)
        go_ret
        refine ⟨⟨k, rfl, ?_⟩, hK1⟩
        rw [HF.out]
        simp
    · have h1 : ¬ (k : Int) < (l.length : Int) := by omega
      have HF := Lib.hid (show allOk l = true by rw [ha, List.drop_eq_nil_of_le (by omega)]; rfl)
      clear ha
      go_wp2_with (fail)
      go_ret
      refine ⟨⟨-1, rfl, ?_⟩, hK⟩
      rw [HF.out]
      simp
set_option maxRecDepth 1000000 in
theorem contains_calls (l : List ByteArray) (g cap : Nat) (w : World) (hl : l.length ≤ 1000) (hB : Blk w g 9 (l.map Value.string).toArray) :
    Calls Try.prog 50 #[.slice (some ⟨g, 0, none⟩) l.length cap, .func (.func 51) #[] #[]] w fun e w' => e = .returned (.bool (!allOk l)) ∧ Below w.heap.size w w' := by
  have H := Lib.hid (index_calls l g cap w hl hB)
  clear hB
  go_enter Try.func50, Try.ntmps50
  go_wp2_with (fail)
  refine H.out.mono ?_
  rintro e w1 ⟨⟨r, rfl, hr⟩, hB⟩
  by_cases h0 : 0 ≤ r
  · have := hr.1 h0
    have HF := Lib.hid this
    clear hr this
    go_wp2_with (fail)
    go_ret
    refine ⟨?_, hB⟩
    rw [HF.out]
    first
      | rfl
      | (show Ending.returned (Value.bool (decide (0 ≤ r))) = _; simp [h0])
  · have : allOk l = true := by
      cases h : allOk l
      · exact absurd (hr.2 h) h0
      · rfl
    have HF := Lib.hid this
    clear hr this
    go_wp2_with (fail)
    go_ret
    refine ⟨?_, hB⟩
    rw [HF.out]
    first
      | rfl
      | (show Ending.returned (Value.bool (decide (0 ≤ r))) = _; simp [h0])
section
variable {L : Nat → Prop} {w : World} {a d : Nat} {ws : List Int} {n m : Nat} {P : List (List Acc) → Prop} {f : Int}
/-- What a call is told: is there such a core, may the names be? -/
def mayE (n : Nat) (c : Int) (l : List ByteArray) : Int := if (0 ≤ c ∧ c < (n : Int)) ∧ allOk l = true then 0 else 900
set_option maxRecDepth 1000000 in
theorem dmay_calls (h : DAt L w d a f) (hA : ArP L w a ws n m P) (c : Int) (l : List ByteArray) (g cap : Nat) (hl : l.length ≤ 1000) (hB : Blk w g 9 (l.map Value.string).toArray) :
    Calls Try.prog 29 #[.pointer (some ⟨d, 0, none⟩), .int .i64 c, .slice (some ⟨g, 0, none⟩) l.length cap] w fun e w' => e = .returned (.int .i64 (mayE n c l)) ∧ Below w.heap.size w w' := by
  have c0 := h.2.1.cell 0
  have hco := Lib.hid (cores_p hA)
  have HC := Lib.hid (contains_calls l g cap w hl hB)
  clear h hA hB
  by_cases hc0 : 0 ≤ c
  · by_cases hc1 : c < (n : Int)
    · by_cases ha : allOk l = true
      · have HF := Lib.hid (show mayE n c l = 0 by unfold mayE; rw [if_pos ⟨⟨hc0, hc1⟩, ha⟩])
        have HC2 := Lib.hid (show Calls Try.prog 50 #[.slice (some ⟨g, 0, none⟩) l.length cap, .func (.func 51) #[] #[]] w fun e w' => e = .returned (.bool false) ∧ Below w.heap.size w w' by have := HC.out; rw [ha] at this; exact this)
        clear HC
        go_enter Try.func29, Try.ntmps29
        go_wp2_with (first | (go_at_call 49; refine hco.out.mono ?_; rintro e w' ⟨rfl, rfl⟩) | (go_at_call 50; refine HC2.out.mono ?_; rintro e w1 ⟨rfl, hB1⟩))
        go_ret
        exact ⟨by rw [HF.out]; rfl, hB1⟩
      · have ha := Bool.eq_false_iff.2 ha
        have HF := Lib.hid (show mayE n c l = 900 by unfold mayE; rw [if_neg (fun h => by rw [ha] at h; cases h.2)])
        have HC2 := Lib.hid (show Calls Try.prog 50 #[.slice (some ⟨g, 0, none⟩) l.length cap, .func (.func 51) #[] #[]] w fun e w' => e = .returned (.bool true) ∧ Below w.heap.size w w' by have := HC.out; rw [ha] at this; exact this)
        clear HC
        go_enter Try.func29, Try.ntmps29
        go_wp2_with (first | (go_at_call 49; refine hco.out.mono ?_; rintro e w' ⟨rfl, rfl⟩) | (go_at_call 50; refine HC2.out.mono ?_; rintro e w1 ⟨rfl, hB1⟩))
        go_ret
        exact ⟨by rw [HF.out]; rfl, hB1⟩
    · have HF := Lib.hid (show mayE n c l = 900 by unfold mayE; rw [if_neg (fun h => hc1 h.1.2)])
      go_enter Try.func29, Try.ntmps29
      go_wp2_with (go_at_call 49; refine hco.out.mono ?_; rintro e w' ⟨rfl, rfl⟩)
      go_ret
      exact ⟨by rw [HF.out]; rfl, Below.refl _ _⟩
  · have HF := Lib.hid (show mayE n c l = 900 by unfold mayE; rw [if_neg (fun h => hc0 h.1.1)])
    go_enter Try.func29, Try.ntmps29
    go_wp2_with (go_at_call 49; refine hco.out.mono ?_; rintro e w' ⟨rfl, rfl⟩)
    go_ret
    exact ⟨by rw [HF.out]; rfl, Below.refl _ _⟩
end
end Go.Proofs.Ytkbajjpdngfhbaa
