/- ArenaSums: the walk. -/
import Derived.Test.YtpmgfjglkbbhgaaLawReads
import Derived.Test.YtpmgfjglkbbhgaaInts
namespace Go.Proofs.Ytpmgfjglkbbhgaa
open Go.RowKit
set_option maxHeartbeats 400000

/-- The loop's relation: k rounds are done, the sum is s. -/
def SumsAt (L : Nat → Prop) (w1 wr : World) (a k : Nat) (s : Int) : Prop :=
  ∃ ts, ts.length = 8 ∧ (tr ts 0).length = (k + 7) / 8 ∧ Short k ts ∧ ArAt L wr a [s] ts ∧ Keeps L w1 wr

set_option maxRecDepth 100000 in
theorem sums_walk (w : World) {A : Option Addr} {len cap : Nat} {xs : List Int} (hx : Ints w A len cap xs) :
    Calls Try.prog 5 #[.slice A len cap] w fun e w' => e = .returned (.bool true) ∧ Below w.heap.size w w' := by
  have hle := hx.len_le
  have HX := Lib.hid hx
  clear hx
  go_enter Try.func5, Try.ntmps5
  go_wp2_with (go_at_call 18; refine (num_calls _ _).mono ?_; rintro e w' ⟨rfl, rfl⟩)
  refine (awake2 w).mono ?_
  rintro e w1 ⟨rfl, hB⟩
  go_wp2_with (go_at_call 18; refine (num_calls _ _).mono ?_; rintro e w' ⟨rfl, rfl⟩)
  refine (new_to (ws := [0]) (ts := List.replicate 8 []) (Bd.below w1) (by omega) (by omega) rfl rfl).mono ?_
  rintro e w2 ⟨a, rfl, hA, hK⟩
  go_wp2_with (go_at_call 18; refine (num_calls _ _).mono ?_; rintro e w' ⟨rfl, rfl⟩)
  have HB := Lib.hid hB
  have HS : SumsAt (fun b => b < w1.heap.size) w1 w2 a 0 0 := ⟨_, rfl, rfl, by intro t ht; simp at ht; simp [ht], hA, hK⟩
  clear hB hA hK
  go_loopw [5, 6] (fun sum i wr => ∃ (k : Nat) (s : Int), i = .int .i64 k ∧ k ≤ len ∧ k ≤ 100 ∧ sum = .int .i64 s ∧ -999 * (k : Int) ≤ s ∧ s ≤ 999 * (k : Int) ∧ SumsAt (fun b => b < w1.heap.size) w1 wr a k s) (fun _ i _ => len - (intOf i).toNat)
  case atStart => exact ⟨0, 0, rfl, Nat.zero_le _, by omega, rfl, by omega, by omega, HS⟩
  case round =>
    clear HS
    obtain ⟨k, s, rfl, hk, hk1, rfl, hs1, hs2, ts, hts, htl, hsh, hA, hK⟩ := hrel
    by_cases hlt : k < len
    · by_cases hlt2 : k < 100
      · have hb : Below w.heap.size w wr := bel_then HB.out (hK.below fun _ h => h)
        obtain ⟨g, off, rfl, hcell, hv1, hv2⟩ := HX.out.at_ hlt hb
        clear hb
        generalize nth xs k = x at *
        have hm1 : -999 ≤ x.tmod 1000 ∧ x.tmod 1000 ≤ 999 := by have := tmod_bd x 1000 (by omega); omega
        generalize hm : x.tmod 1000 = v at *
        have e7 : (0 : Int) ≤ (k : Int) % 8 ∧ (k : Int) % 8 < 8 := by omega
        have hlt3 : (k : Int) < 100 := by omega
        go_wp2_with (go_at_call 18; refine (num_calls _ _).mono ?_; rintro e w' ⟨rfl, rfl⟩)
        refine (add_to (r := s + v) (ws' := [s + v]) hA (Room.of hsh (by omega)) ⟨by omega, by rw [hts]; omega⟩ (by simp) (by rw [show rd [s] 0 = s from rfl]; exact IntWalk.wrap64_in _ (by omega)) rfl rfl).mono ?_
        rintro e w4 ⟨rfl, hA4, hK4⟩
        go_wp2_with (go_at_call 18; refine (num_calls _ _).mono ?_; rintro e w' ⟨rfl, rfl⟩)
        go_roundw
        case rel =>
          refine ⟨k + 1, s + v, by go_num, by omega, by omega, rfl, by omega, by omega, noted ts _ (0, true), by simp [hts], ?_, hsh.noted _, hA4, hK.trans hK4⟩
          rw [tr_noted _ ⟨by omega, by rw [hts]; omega⟩ (by omega)]
          split
          · rw [List.length_append, List.length_singleton]; omega
          · omega
        case measure => simp [intOf]; omega
      · have hlt3 : ¬ (k : Int) < 100 := by omega
        have k100 : k = 100 := by omega
        subst k100
        have hz : ((len : Int) == 0) = false := by simp; omega
        go_wp2_with (go_at_call 18; refine (num_calls _ _).mono ?_; rintro e w' ⟨rfl, rfl⟩)
        refine (trace_to hA (Room.of hsh (by omega)) (c := 0) ⟨by omega, by rw [hts]; omega⟩ rfl).mono ?_
        rintro e w5 ⟨v, rfl, hown, hB5⟩
        obtain ⟨_, A', cap', rfl, _, _⟩ := Sl.ofOwn hown
        rw [htl]
        go_wp2_with (go_at_call 18; refine (num_calls _ _).mono ?_; rintro e w' ⟨rfl, rfl⟩)
        go_ret
        exact ⟨rfl, bel_then (bel_then HB.out (hK.below fun _ h => h)) hB5⟩
    · obtain rfl : k = len := by omega
      clear hk hlt
      by_cases h0 : k = 0
      · have hz : ((k : Int) == 0) = true := by simp [h0]
        clear h0
        go_wp2_with (go_at_call 18; refine (num_calls _ _).mono ?_; rintro e w' ⟨rfl, rfl⟩)
        go_ret
        exact ⟨rfl, bel_then HB.out (hK.below fun _ h => h)⟩
      · have hz : ((k : Int) == 0) = false := by simp [h0]
        clear h0
        go_wp2_with (go_at_call 18; refine (num_calls _ _).mono ?_; rintro e w' ⟨rfl, rfl⟩)
        refine (trace_to hA (Room.of hsh (by omega)) (c := 0) ⟨by omega, by rw [hts]; omega⟩ rfl).mono ?_
        rintro e w5 ⟨v, rfl, hown, hB5⟩
        obtain ⟨_, A', cap', rfl, _, _⟩ := Sl.ofOwn hown
        rw [htl]
        have hdiv : (((k + 7) / 8 : Nat) : Int) = ((k : Int) + 7) / 8 := by omega
        go_wp2_with (go_at_call 18; refine (num_calls _ _).mono ?_; rintro e w' ⟨rfl, rfl⟩)
        go_ret
        exact ⟨rfl, bel_then (bel_then HB.out (hK.below fun _ h => h)) hB5⟩
end Go.Proofs.Ytpmgfjglkbbhgaa
