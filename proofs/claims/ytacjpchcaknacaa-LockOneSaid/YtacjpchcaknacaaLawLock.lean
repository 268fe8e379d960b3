
/- LockOne: the walk. -/
import Derived.Test.YtacjpchcaknacaaLock
import Derived.Test.YtacjpchcaknacaaInts
namespace Go.Proofs.Ytacjpchcaknacaa
open Go.RowKit
set_option maxHeartbeats 400000

/-- The word says who holds the lock. -/
structure OneAt (L : Nat → Prop) (w1 wr : World) (a k : Nat) (h : Int) : Prop where
  lo : -1 ≤ h
  hi : h < 4
  keeps : Below w1.heap.size w1 wr
  rest : ∃ ts, ts.length = 4 ∧ Short (2 * k) ts ∧ ArAt L wr a [h + 1] ts

set_option maxRecDepth 100000 in
theorem lone_walk (w : World) {A : Option Addr} {len cap : Nat} {xs : List Int} (hx : Ints w A len cap xs) :
    Calls Try.prog 3 #[.slice A len cap] w fun e w' => e = .returned (.bool true) ∧ Below w.heap.size w w' := by
  have hle := hx.len_le
  have HX := Lib.hid hx
  clear hx
  go_enter Try.func3, Try.ntmps3
  go_wp2_with (go_at_call 18; refine (num_calls _ _).mono ?_; rintro e w' ⟨rfl, rfl⟩)
  refine (awake5 w).mono ?_
  rintro e w1 ⟨rfl, hB⟩
  go_wp2_with (go_at_call 18; refine (num_calls _ _).mono ?_; rintro e w' ⟨rfl, rfl⟩)
  refine (new_to (ws := [0]) (ts := List.replicate 4 []) (Bd.below w1) (by omega) (by omega) rfl rfl).mono ?_
  rintro e w2 ⟨a, rfl, hA, hK⟩
  go_wp2_with (go_at_call 18; refine (num_calls _ _).mono ?_; rintro e w' ⟨rfl, rfl⟩)
  have HB := Lib.hid hB
  have HS : OneAt (fun b => b < w1.heap.size) w1 w2 a 0 (-1) := ⟨by omega, by omega, hK.below fun _ h => h, _, rfl, by intro t ht; simp at ht; simp [ht], hA⟩
  clear hB hA hK
  go_loopw [5, 6] (fun ho i wr => ∃ (k : Nat) (h : Int), i = .int .i64 k ∧ k ≤ len ∧ k ≤ 200 ∧ ho = .int .i64 h ∧ OneAt (fun b => b < w1.heap.size) w1 wr a k h) (fun _ i _ => len - (intOf i).toNat)
  case atStart => exact ⟨0, -1, rfl, by omega, by omega, rfl, HS⟩
  case round =>
    clear HS
    obtain ⟨k, h, rfl, hk, hk1, rfl, lo, hi, hbel, ts, hts, hsh, hA⟩ := hrel
    by_cases hlt : k < len ∧ k < 200
    · obtain ⟨hlt, hlt2⟩ := hlt
      have hlt3 : (k : Int) < 200 := by omega
      obtain ⟨gp, off, rfl, hcell, hv1, hv2⟩ := HX.out.at_ hlt (bel_then HB.out hbel)
      generalize nth xs k = v at *
      have hc4 : 0 ≤ v % 4 ∧ v % 4 < 4 := by omega
      have hcl : 0 ≤ v % 4 ∧ v % 4 < (ts.length : Int) := by omega
      have hlen1 : (0 : Int) ≤ 0 ∧ (0 : Int) < ([h + 1].length : Nat) := by simp
      have hb : v / 4 % 2 = 0 ∨ v / 4 % 2 = 1 := by omega
      generalize hbv : v / 4 % 2 = b at *
      generalize hcv : v % 4 = c at *
      rcases hb with rfl | rfl
      · by_cases hh : h = -1
        · subst hh
          go_wp2_with (go_at_call 18; refine (num_calls _ _).mono ?_; rintro e w' ⟨rfl, rfl⟩)
          refine (try_yes hA (Room.of hsh (by omega)) hcl hlen1 rfl).mono ?_
          rintro e w4 ⟨rfl, hA4, hK4⟩
          have hst : Ytacjpchcaknacaa.wr [(-1 : Int) + 1] 0 (c + 1) = [c + 1] := rfl
          rw [hst] at hA4
          go_wp2_with (go_at_call 18; refine (num_calls _ _).mono ?_; rintro e w' ⟨rfl, rfl⟩)
          refine (holder_ok hA4 (Room.of (hsh.noted _) (by omega)) (by simpa using hcl) (by simp)).mono ?_
          rintro e w5 ⟨rfl, hA5, hK5⟩
          have hho : holder (rd [c + 1] 0) ((noted ts c (0, true)).length : Nat) = c := by
            rw [noted_length, hts]
            show holder (c + 1) 4 = c
            unfold holder
            rw [if_neg (by omega)]
            omega
          rw [hho]
          go_wp2_with (go_at_call 18; refine (num_calls _ _).mono ?_; rintro e w' ⟨rfl, rfl⟩)
          go_roundw
          case rel => exact ⟨k + 1, c, by go_num, by omega, by omega, rfl, by omega, by omega, hbel.trans ((hK4.trans hK5).below fun _ h => h), _, by simp [hts], ((hsh.noted _).noted _).mono (by omega), hA5⟩
          case measure => simp [intOf]; omega
        · have hh1 : ¬ h < 0 := by omega
          go_wp2_with (go_at_call 18; refine (num_calls _ _).mono ?_; rintro e w' ⟨rfl, rfl⟩)
          refine (try_no hA (Room.of hsh (by omega)) hcl hlen1 (by show h + 1 ≠ 0; omega)).mono ?_
          rintro e w4 ⟨rfl, hA4, hK4⟩
          go_wp2_with (go_at_call 18; refine (num_calls _ _).mono ?_; rintro e w' ⟨rfl, rfl⟩)
          refine (holder_ok hA4 (Room.of (hsh.noted _) (by omega)) (by simpa using hcl) (by simp)).mono ?_
          rintro e w5 ⟨rfl, hA5, hK5⟩
          have hho : holder (rd [h + 1] 0) ((noted ts c (0, false)).length : Nat) = h := by
            rw [noted_length, hts]
            show holder (h + 1) 4 = h
            unfold holder
            rw [if_neg (by omega)]
            omega
          rw [hho]
          go_wp2_with (go_at_call 18; refine (num_calls _ _).mono ?_; rintro e w' ⟨rfl, rfl⟩)
          go_roundw
          case rel => exact ⟨k + 1, h, by go_num, by omega, by omega, rfl, by omega, by omega, hbel.trans ((hK4.trans hK5).below fun _ h => h), _, by simp [hts], ((hsh.noted _).noted _).mono (by omega), hA5⟩
          case measure => simp [intOf]; omega
      · by_cases hh : h = c
        · subst hh
          go_wp2_with (go_at_call 18; refine (num_calls _ _).mono ?_; rintro e w' ⟨rfl, rfl⟩)
          refine (unlock_ok hA (Room.of (hsh.noted _) (by omega)) (Room.of hsh (by omega)) hcl hlen1 rfl).mono ?_
          rintro e w4 ⟨rfl, hA4, hK4⟩
          go_wp2_with (go_at_call 18; refine (num_calls _ _).mono ?_; rintro e w' ⟨rfl, rfl⟩)
          go_roundw
          case rel => exact ⟨k + 1, -1, by go_num, by omega, by omega, rfl, by omega, by omega, hbel.trans (hK4.below fun _ h => h), _, by simp [hts], ((hsh.noted _).noted _).mono (by omega), hA4⟩
          case measure => simp [intOf]; omega
        · have hh1 : (h == c) = false := by simpa using hh
          go_wp2_with (go_at_call 18; refine (num_calls _ _).mono ?_; rintro e w' ⟨rfl, rfl⟩)
          refine (unlock_held hA (Room.of hsh (by omega)) hcl hlen1 (by show h + 1 ≠ c + 1; omega)).mono ?_
          rintro e w4 ⟨rfl, hA4, hK4⟩
          go_wp2_with (go_at_call 18; refine (num_calls _ _).mono ?_; rintro e w' ⟨rfl, rfl⟩)
          go_roundw
          case rel => exact ⟨k + 1, h, by go_num, by omega, by omega, rfl, by omega, by omega, hbel.trans (hK4.below fun _ h => h), _, by simp [hts], (hsh.noted _).mono (by omega), hA4⟩
          case measure => simp [intOf]; omega
    · by_cases hlt : k < len
      · have hlt3 : ¬ (k : Int) < 200 := by omega
        go_wp2_with (go_at_call 18; refine (num_calls _ _).mono ?_; rintro e w' ⟨rfl, rfl⟩)
        go_ret
        exact ⟨rfl, bel_then HB.out hbel⟩
      · go_wp2_with (go_at_call 18; refine (num_calls _ _).mono ?_; rintro e w' ⟨rfl, rfl⟩)
        go_ret
        exact ⟨rfl, bel_then HB.out hbel⟩
end Go.Proofs.Ytacjpchcaknacaa
