/- ArenaCores: the walk. -/
import Derived.Test.YtpmgfjglkbbhgaaLawCas
namespace Go.Proofs.Ytpmgfjglkbbhgaa
open Go.RowKit
set_option maxHeartbeats 400000

theorem short_of {m : Nat} {ts : List (List Acc)} (h : ∀ j : Nat, j < ts.length → (tr ts j).length ≤ m) : Short m ts := by
  intro t ht
  obtain ⟨j, hj, rfl⟩ := List.getElem_of_mem ht
  have := h j hj
  unfold tr at this
  simpa [List.getD, hj] using this

/-- Stores up to core c are done, and i of core c. -/
structure CoresAt (L : Nat → Prop) (w1 wr : World) (a k c i : Nat) : Prop where
  keeps : Keeps L w1 wr
  rest : ∃ ws ts, ws.length = 8 ∧ ts.length = k ∧ (∀ j : Nat, j < k → (tr ts j).length = if j < c then j + 1 else if j = c then i else 0) ∧ ArAt L wr a ws ts

theorem CoresAt.next {L : Nat → Prop} {w1 wr : World} {a k c : Nat} (h : CoresAt L w1 wr a k c (c + 1)) : CoresAt L w1 wr a k (c + 1) 0 := by
  obtain ⟨hk, ws, ts, h1, h2, h3, h4⟩ := h
  refine ⟨hk, ws, ts, h1, h2, fun j hj => ?_, h4⟩
  rw [h3 j hj]
  by_cases a1 : j < c
  · rw [if_pos a1, if_pos (by omega)]
  · rw [if_neg a1]
    by_cases a2 : j = c
    · rw [if_pos a2, if_pos (by omega)]; omega
    · rw [if_neg a2, if_neg (by omega)]; split <;> rfl

set_option maxRecDepth 100000 in
theorem cores_walk (w : World) (cores : Int) (_ : (Lit.int .i64 cores).wf = true) (who : Int) (_ : (Lit.int .i64 who).wf = true) :
    Calls Try.prog 6 #[.int .i64 cores, .int .i64 who] w fun e w' => e = .returned (.bool true) ∧ Below w.heap.size w w' := by
  obtain ⟨k8, hk8, hk9⟩ : ∃ k8 : Nat, cores % 8 = k8 ∧ k8 < 8 := ⟨(cores % 8).toNat, by omega, by omega⟩
  obtain ⟨wn, hwn, hwk⟩ := u64_tmod who (1 + k8) (by omega)
  go_enter Try.func6, Try.ntmps6
  go_wp2_with (go_at_call 18; refine (num_calls _ _).mono ?_; rintro e w' ⟨rfl, rfl⟩)
  refine (awake2 w).mono ?_
  rintro e w1 ⟨rfl, hB⟩
  go_wp2_with (go_at_call 18; refine (num_calls _ _).mono ?_; rintro e w' ⟨rfl, rfl⟩)
  refine (new_to (ws := List.replicate 8 0) (ts := List.replicate (1 + k8) []) (Bd.below w1) (by omega) (by omega) rfl (by rw [show (1 + (k8 : Int)).toNat = 1 + k8 by omega])).mono ?_
  rintro e w2 ⟨a, rfl, hA, hK⟩
  go_wp2_with (go_at_call 18; refine (num_calls _ _).mono ?_; rintro e w' ⟨rfl, rfl⟩)
  have HB := Lib.hid hB
  have HS : CoresAt (fun b => b < w1.heap.size) w1 w2 a (1 + k8) 0 0 := ⟨hK, _, _, rfl, by simp, fun j hj => by simp [tr, List.getD, hj], hA⟩
  clear hB hA hK
  go_loopw [8] (fun c wr => ∃ (c0 : Nat), c = .int .i64 c0 ∧ c0 ≤ 1 + k8 ∧ CoresAt (fun b => b < w1.heap.size) w1 wr a (1 + k8) c0 0) (fun c _ => 1 + k8 - (intOf c).toNat)
  case atStart => exact ⟨0, rfl, Nat.zero_le _, HS⟩
  case round =>
    clear HS
    obtain ⟨c, rfl, hc, hS⟩ := hrel
    by_cases hlt : c < 1 + k8
    · have hlt' : (c : Int) < 1 + (k8 : Int) := by omega
      obtain ⟨wo, rfl⟩ : ∃ wo : World, wo = wr := ⟨_, rfl⟩
      go_wp2_with (go_at_call 18; refine (num_calls _ _).mono ?_; rintro e w' ⟨rfl, rfl⟩)
      go_loopw [9] (fun i wr => ∃ (i0 : Nat), i = .int .i64 i0 ∧ i0 ≤ c + 1 ∧ CoresAt (fun b => b < w1.heap.size) w1 wr a (1 + k8) c i0) (fun i _ => c + 1 - (intOf i).toNat)
      case atStart => exact ⟨0, rfl, Nat.zero_le _, hS⟩
      case round =>
        clear hS
        obtain ⟨i, rfl, hi, hS⟩ := hrel
        by_cases hli : i ≤ c
        · have hli' : (i : Int) ≤ (c : Int) := by omega
          obtain ⟨hK, ws, ts, hws, hts, htr, hA⟩ := hS
          have HTR := Lib.hid htr
          have hsh : Short 16 ts := short_of fun j hj => by rw [htr j (by omega)]; split <;> (try split) <;> omega
          clear htr
          go_wp2_with (go_at_call 18; refine (num_calls _ _).mono ?_; rintro e w' ⟨rfl, rfl⟩)
          refine (store_to hA (Room.of hsh (by omega)) ⟨by omega, by omega⟩ ⟨by omega, by omega⟩ rfl rfl).mono ?_
          rintro e w4 ⟨rfl, hA4, hK4⟩
          go_wp2_with (go_at_call 18; refine (num_calls _ _).mono ?_; rintro e w' ⟨rfl, rfl⟩)
          go_roundw
          case rel =>
            refine ⟨i + 1, by go_num, by omega, hK.trans hK4, _, _, by simpa using hws, by simpa using hts, fun j hj => ?_, hA4⟩
            rw [tr_noted _ ⟨by omega, by omega⟩ (by omega)]
            have h3 := HTR.out j hj
            by_cases a1 : (j : Int) = (c : Int)
            · have a2 : j = c := by omega
              subst a2
              rw [if_pos rfl, List.length_append, h3]
              simp
            · rw [if_neg a1, h3]
              by_cases a2 : j < c
              · rw [if_pos a2, if_pos a2]
              · rw [if_neg a2, if_neg a2, if_neg (by omega), if_neg (by omega)]
          case measure => simp [intOf]; omega
        · obtain rfl : i = c + 1 := by omega
          go_wp2_with (go_at_call 18; refine (num_calls _ _).mono ?_; rintro e w' ⟨rfl, rfl⟩)
          go_roundw
          case rel => exact ⟨c + 1, by go_num, by omega, hS.next⟩
          case measure => simp [intOf]; omega
    · obtain rfl : c = 1 + k8 := by omega
      go_wp2_with (go_at_call 18; refine (num_calls _ _).mono ?_; rintro e w' ⟨rfl, rfl⟩)
      obtain ⟨hK, ws, ts, hws, hts, htr, hA⟩ := hS
      have hsh : Short 16 ts := short_of fun j hj => by rw [htr j (by omega)]; split <;> (try split) <;> omega
      refine (clear_to (c := wn) hA ⟨by omega, by omega⟩ rfl).mono ?_
      rintro e w4 ⟨rfl, hA4, hK4⟩
      have hsh4 : Short 16 (ts.set ((wn : Int).toNat) []) := fun t ht => by
        rcases List.mem_or_eq_of_mem_set ht with ht | rfl
        · exact hsh t ht
        · exact Nat.zero_le _
      have htr4 : ∀ j : Nat, j < 1 + k8 → (tr (ts.set ((wn : Int).toNat) []) j).length = if j = wn then 0 else j + 1 := fun j hj => by
        by_cases e : j = wn
        · subst e; simp [tr, List.getD, show j < ts.length by omega]
        · rw [if_neg e]
          have h3 := htr j hj
          rw [if_pos hj] at h3
          rw [← h3]
          simp [tr, List.getD, Ne.symm e]
      have hts4 : (ts.set ((wn : Int).toNat) []).length = 1 + k8 := by simpa using hts
      generalize ts.set ((wn : Int).toNat) [] = ts4 at *
      have HT := Lib.hid htr4
      have hK5 := hK.trans hK4
      clear htr htr4 hA hK hsh hK4
      go_wp2_with (go_at_call 18; refine (num_calls _ _).mono ?_; rintro e w' ⟨rfl, rfl⟩)
      obtain ⟨wo, rfl⟩ : ∃ wo : World, wo = w4 := ⟨_, rfl⟩
      go_loopw [12] (fun c wr => ∃ (c0 : Nat), c = .int .i64 c0 ∧ c0 ≤ 1 + k8 ∧ Below w1.heap.size w1 wr ∧ ArAt (fun b => b < w1.heap.size) wr a ws ts4) (fun c _ => 1 + k8 - (intOf c).toNat)
      case atStart => exact ⟨0, rfl, Nat.zero_le _, hK5.below fun _ h => h, hA4⟩
      case round =>
        clear hA4 hK5
        obtain ⟨c, rfl, hc, hbel, hA⟩ := hrel
        by_cases hlt : c < 1 + k8
        · have hlt' : (c : Int) < 1 + (k8 : Int) := by omega
          have h3 := HT.out c hlt
          by_cases hcw : c = wn
          · have hcw' : ((c : Int) == (wn : Int)) = true := by simp [hcw]
            rw [if_pos hcw] at h3
            clear hcw
            go_wp2_with (go_at_call 18; refine (num_calls _ _).mono ?_; rintro e w' ⟨rfl, rfl⟩)
            refine (trace_to hA (Room.of hsh4 (by omega)) (c := c) ⟨by omega, by omega⟩ rfl).mono ?_
            rintro e w5 ⟨v, rfl, hown, hB5⟩
            obtain ⟨_, A', cap', rfl, _, _⟩ := Sl.ofOwn hown
            rw [h3]
            go_wp2_with (go_at_call 18; refine (num_calls _ _).mono ?_; rintro e w' ⟨rfl, rfl⟩)
            go_roundw
            case rel => exact ⟨c + 1, by go_num, by omega, hbel.trans (hB5.mono hbel.size), hA.below hB5⟩
            case measure => simp [intOf]; omega
          · have hcw' : ((c : Int) == (wn : Int)) = false := by simp; omega
            rw [if_neg hcw] at h3
            clear hcw
            go_wp2_with (go_at_call 18; refine (num_calls _ _).mono ?_; rintro e w' ⟨rfl, rfl⟩)
            refine (trace_to hA (Room.of hsh4 (by omega)) (c := c) ⟨by omega, by omega⟩ rfl).mono ?_
            rintro e w5 ⟨v, rfl, hown, hB5⟩
            obtain ⟨_, A', cap', rfl, _, _⟩ := Sl.ofOwn hown
            rw [h3]
            go_wp2_with (go_at_call 18; refine (num_calls _ _).mono ?_; rintro e w' ⟨rfl, rfl⟩)
            go_roundw
            case rel => exact ⟨c + 1, by go_num, by omega, hbel.trans (hB5.mono hbel.size), hA.below hB5⟩
            case measure => simp [intOf]; omega
        · obtain rfl : c = 1 + k8 := by omega
          go_wp2_with (go_at_call 18; refine (num_calls _ _).mono ?_; rintro e w' ⟨rfl, rfl⟩)
          refine (clear_err (by decide) (core_err hA (1 + k8) (by omega))).mono ?_
          rintro e w' ⟨rfl, rfl⟩
          go_wp2_with (go_at_call 18; refine (num_calls _ _).mono ?_; rintro e w' ⟨rfl, rfl⟩)
          refine (trace_err (by decide) (core_err hA (1 + k8) (by omega))).mono ?_
          rintro e w' ⟨rfl, rfl⟩
          go_wp2_with (go_at_call 18; refine (num_calls _ _).mono ?_; rintro e w' ⟨rfl, rfl⟩)
          go_ret
          exact ⟨rfl, bel_then HB.out hbel⟩
end Go.Proofs.Ytpmgfjglkbbhgaa
