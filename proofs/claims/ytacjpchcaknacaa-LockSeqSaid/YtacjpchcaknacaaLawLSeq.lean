
/- LockSeq: the walk. -/
import Derived.Test.YtacjpchcaknacaaLock
import Derived.Test.YtacjpchcaknacaaInts
namespace Go.Proofs.Ytacjpchcaknacaa
open Go.RowKit
set_option maxHeartbeats 2000000

/-- n turns are done; what was read last at an even number. -/
structure SeqAt (w1 wq : World) (a k : Nat) (n sq at_ : Int) (wt : Bool) : Prop where
  n0 : 0 ≤ n
  nk : n ≤ k
  odd : wt = decide (n % 2 = 1)
  last : sq = -1 ∨ (0 ≤ sq ∧ sq % 2 = 0 ∧ at_ = sq / 2)
  keeps : Below w1.heap.size w1 wq
  rest : ∃ ts, ts.length = 2 ∧ Short (2 * k) ts ∧ ArAt (fun b => b < w1.heap.size) wq a [n, (n + 1) / 2, n / 2] ts

set_option maxRecDepth 100000 in
theorem lseq_walk (w : World) {A : Option Addr} {len cap : Nat} {xs : List Int} (hx : Ints w A len cap xs) :
    Calls Try.prog 5 #[.slice A len cap] w fun e w' => e = .returned (.bool true) ∧ Below w.heap.size w w' := by
  have hle := hx.len_le
  have HX := Lib.hid hx
  clear hx
  go_enter Try.func5, Try.ntmps5
  go_wp2_with (go_at_call 18; refine (num_calls _ _).mono ?_; rintro e w' ⟨rfl, rfl⟩)
  refine (awake5 w).mono ?_
  rintro e w1 ⟨rfl, hB⟩
  go_wp2_with (go_at_call 18; refine (num_calls _ _).mono ?_; rintro e w' ⟨rfl, rfl⟩)
  refine (new_to (ws := [0, 0, 0]) (ts := List.replicate 2 []) (Bd.below w1) (by omega) (by omega) rfl rfl).mono ?_
  rintro e w2 ⟨a, rfl, hA, hK⟩
  go_wp2_with (go_at_call 18; refine (num_calls _ _).mono ?_; rintro e w' ⟨rfl, rfl⟩)
  have HB := Lib.hid hB
  have HS : SeqAt w1 w2 a 0 0 (-1) 0 false := ⟨by omega, by omega, by decide, .inl rfl, hK.below fun _ h => h, _, rfl, by intro t ht; simp at ht; simp [ht], hA⟩
  clear hB hA hK
  go_loopw [5, 6, 7, 8] (fun sq at_ wt i wr => ∃ (k : Nat) (n s t : Int) (q : Bool), i = .int .i64 k ∧ k ≤ len ∧ k ≤ 100 ∧ sq = .int .i64 s ∧ at_ = .int .i64 t ∧ wt = .bool q ∧ SeqAt w1 wr a k n s t q) (fun _ _ _ i _ => len - (intOf i).toNat)
  case atStart => exact ⟨0, 0, -1, 0, false, rfl, by omega, by omega, rfl, rfl, rfl, HS⟩
  case round =>
    clear HS
    obtain ⟨k, n, s, t, q, rfl, hk, hk1, rfl, rfl, rfl, n0, nk, odd, last, hbel, ts, hts, hsh, hA⟩ := hrel
    by_cases hlt : k < len ∧ k < 100
    · obtain ⟨hlt, hlt2⟩ := hlt
      have hlt3 : (k : Int) < 100 := by omega
      obtain ⟨gp, off, rfl, hcell, hv1, hv2⟩ := HX.out.at_ hlt (bel_then HB.out hbel)
      generalize nth xs k = v at *
      have hb : v % 4 = 0 ∨ (v % 4 = 1 ∨ v % 4 = 2) ∨ v % 4 = 3 := by omega
      have hl0 : (0 : Int) ≤ 0 ∧ (0 : Int) < ([n, (n + 1) / 2, n / 2].length : Nat) := by simp
      have hl1 : (0 : Int) ≤ 1 ∧ (1 : Int) < ([n, (n + 1) / 2, n / 2].length : Nat) := by simp
      have hl2 : (0 : Int) ≤ 2 ∧ (2 : Int) < ([n, (n + 1) / 2, n / 2].length : Nat) := by simp
      have HO := Lib.hid odd
      have HL := Lib.hid last
      have e0 : rd [n, (n + 1) / 2, n / 2] 0 = n := rfl
      have e1 : rd [n, (n + 1) / 2, n / 2] 1 = (n + 1) / 2 := rfl
      have e2 : rd [n, (n + 1) / 2, n / 2] 2 = n / 2 := rfl
      have E0 := Lib.hid e0
      have E1 := Lib.hid e1
      have E2 := Lib.hid e2
      clear odd last e0 e1 e2
      generalize hvv : v % 4 = b at *
      rcases hb with rfl | hb | rfl
      · have hw : wrap64 (n + 1) = n + 1 := IntWalk.wrap64_in _ (by omega)
        cases q
        · have hn2 : n % 2 = 0 := by
            have := HO.out
            simp at this
            omega
          clear hw
          go_wp2_with (go_at_call 18; refine (num_calls _ _).mono ?_; rintro e w' ⟨rfl, rfl⟩)
          refine (turn_ok hA (c := 1) (i := 0) (Room.of hsh (by omega)) ⟨by omega, by rw [hts]; omega⟩ hl0).mono ?_
          rintro e w4 ⟨rfl, hA4, hK4⟩
          rw [E0.out, IntWalk.wrap64_in (n + 1) (by omega)] at hA4
          go_wp2_with (go_at_call 18; refine (num_calls _ _).mono ?_; rintro e w' ⟨rfl, rfl⟩)
          refine (add_to (c := 1) (i := 1) (r := (n + 1) / 2 + 1) (ws' := [n + 1, (n + 1 + 1) / 2, (n + 1) / 2]) hA4 (Room.of (hsh.noted _) (by omega)) ⟨by omega, by simp [hts]⟩ (by simp [Ytacjpchcaknacaa.wr]) ?_ ?_ rfl).mono ?_
          · show wrap64 ((n + 1) / 2 + 1) = _
            exact IntWalk.wrap64_in _ (by omega)
          · show [n + 1, (n + 1) / 2 + 1, n / 2] = _
            rw [show (n + 1) / 2 + 1 = (n + 1 + 1) / 2 by omega, show n / 2 = (n + 1) / 2 by omega]
          rintro e w5 ⟨rfl, hA5, hK5⟩
          go_wp2_with (go_at_call 18; refine (num_calls _ _).mono ?_; rintro e w' ⟨rfl, rfl⟩)
          go_roundw
          case rel => exact ⟨k + 1, n + 1, s, t, true, by go_num, by omega, by omega, rfl, rfl, rfl, by omega, by omega, by simp; omega, HL.out, hbel.trans ((hK4.trans hK5).below fun _ h => h), _, by simp [hts], ((hsh.noted _).noted _).mono (by omega), hA5⟩
          case measure => simp [intOf]; omega
        · have hn2 : n % 2 = 1 := by
            have := HO.out
            simp at this
            omega
          clear hw
          go_wp2_with (go_at_call 18; refine (num_calls _ _).mono ?_; rintro e w' ⟨rfl, rfl⟩)
          refine (turn_ok hA (c := 1) (i := 0) (Room.of hsh (by omega)) ⟨by omega, by rw [hts]; omega⟩ hl0).mono ?_
          rintro e w4 ⟨rfl, hA4, hK4⟩
          rw [E0.out, IntWalk.wrap64_in (n + 1) (by omega)] at hA4
          go_wp2_with (go_at_call 18; refine (num_calls _ _).mono ?_; rintro e w' ⟨rfl, rfl⟩)
          refine (add_to (c := 1) (i := 2) (r := n / 2 + 1) (ws' := [n + 1, (n + 1 + 1) / 2, (n + 1) / 2]) hA4 (Room.of (hsh.noted _) (by omega)) ⟨by omega, by simp [hts]⟩ (by simp [Ytacjpchcaknacaa.wr]) ?_ ?_ rfl).mono ?_
          · show wrap64 (n / 2 + 1) = _
            exact IntWalk.wrap64_in _ (by omega)
          · show [n + 1, (n + 1) / 2, n / 2 + 1] = _
            rw [show n / 2 + 1 = (n + 1) / 2 by omega, show (n + 1 + 1) / 2 = (n + 1) / 2 by omega]
          rintro e w5 ⟨rfl, hA5, hK5⟩
          go_wp2_with (go_at_call 18; refine (num_calls _ _).mono ?_; rintro e w' ⟨rfl, rfl⟩)
          go_roundw
          case rel => exact ⟨k + 1, n + 1, s, t, false, by go_num, by omega, by omega, rfl, rfl, rfl, by omega, by omega, by simp; omega, HL.out, hbel.trans ((hK4.trans hK5).below fun _ h => h), _, by simp [hts], ((hsh.noted _).noted _).mono (by omega), hA5⟩
          case measure => simp [intOf]; omega
      · rcases hb with hb | hb
        · subst hb
          cases q
          · have hn2 : n % 2 = 0 := by
              have := HO.out
              simp at this
              omega
            go_wp2_with (go_at_call 18; refine (num_calls _ _).mono ?_; rintro e w' ⟨rfl, rfl⟩)
            refine (begin_even hA (c := 0) (i := 0) (Room.of hsh (by omega)) ⟨by omega, by rw [hts]; omega⟩ hl0).mono ?_
            rintro e w4 ⟨rfl, hA4, hK4⟩
            have hev : ((rd [n, (n + 1) / 2, n / 2] 0).tmod 2 == 0) = true := by rw [E0.out, Int.tmod_eq_emod_of_nonneg n0]; simp [hn2]
            rw [hev, E0.out]
            clear hev
            go_wp2_with (go_at_call 18; refine (num_calls _ _).mono ?_; rintro e w' ⟨rfl, rfl⟩)
            refine (load_to (c := 0) (i := 1) hA4 (Room.of (hsh.noted _) (by omega)) ⟨by omega, by simp [hts]⟩ hl1 E1.out rfl).mono ?_
            rintro e w5 ⟨rfl, hA5, hK5⟩
            go_wp2_with (go_at_call 18; refine (num_calls _ _).mono ?_; rintro e w' ⟨rfl, rfl⟩)
            go_roundw
            case rel => exact ⟨k + 1, n, n, (n + 1) / 2, false, by go_num, by omega, by omega, rfl, rfl, rfl, n0, by omega, HO.out, .inr ⟨n0, hn2, by omega⟩, hbel.trans ((hK4.trans hK5).below fun _ h => h), _, by simp [hts], ((hsh.noted _).noted _).mono (by omega), hA5⟩
            case measure => simp [intOf]; omega
          · have hn2 : n % 2 = 1 := by
              have := HO.out
              simp at this
              omega
            go_wp2_with (go_at_call 18; refine (num_calls _ _).mono ?_; rintro e w' ⟨rfl, rfl⟩)
            refine (begin_even hA (c := 0) (i := 0) (Room.of hsh (by omega)) ⟨by omega, by rw [hts]; omega⟩ hl0).mono ?_
            rintro e w4 ⟨rfl, hA4, hK4⟩
            have hev : ((rd [n, (n + 1) / 2, n / 2] 0).tmod 2 == 0) = false := by rw [E0.out, Int.tmod_eq_emod_of_nonneg n0]; simp [hn2]
            rw [hev, E0.out]
            clear hev
            go_wp2_with (go_at_call 18; refine (num_calls _ _).mono ?_; rintro e w' ⟨rfl, rfl⟩)
            go_roundw
            case rel => exact ⟨k + 1, n, -1, t, true, by go_num, by omega, by omega, rfl, rfl, rfl, n0, by omega, HO.out, .inl rfl, hbel.trans (hK4.below fun _ h => h), _, by simp [hts], (hsh.noted _).mono (by omega), hA4⟩
            case measure => simp [intOf]; omega
        · subst hb
          cases q
          · have hn2 : n % 2 = 0 := by
              have := HO.out
              simp at this
              omega
            go_wp2_with (go_at_call 18; refine (num_calls _ _).mono ?_; rintro e w' ⟨rfl, rfl⟩)
            refine (begin_even hA (c := 0) (i := 0) (Room.of hsh (by omega)) ⟨by omega, by rw [hts]; omega⟩ hl0).mono ?_
            rintro e w4 ⟨rfl, hA4, hK4⟩
            have hev : ((rd [n, (n + 1) / 2, n / 2] 0).tmod 2 == 0) = true := by rw [E0.out, Int.tmod_eq_emod_of_nonneg n0]; simp [hn2]
            rw [hev, E0.out]
            clear hev
            go_wp2_with (go_at_call 18; refine (num_calls _ _).mono ?_; rintro e w' ⟨rfl, rfl⟩)
            refine (load_to (c := 0) (i := 1) hA4 (Room.of (hsh.noted _) (by omega)) ⟨by omega, by simp [hts]⟩ hl1 E1.out rfl).mono ?_
            rintro e w5 ⟨rfl, hA5, hK5⟩
            go_wp2_with (go_at_call 18; refine (num_calls _ _).mono ?_; rintro e w' ⟨rfl, rfl⟩)
            go_roundw
            case rel => exact ⟨k + 1, n, n, (n + 1) / 2, false, by go_num, by omega, by omega, rfl, rfl, rfl, n0, by omega, HO.out, .inr ⟨n0, hn2, by omega⟩, hbel.trans ((hK4.trans hK5).below fun _ h => h), _, by simp [hts], ((hsh.noted _).noted _).mono (by omega), hA5⟩
            case measure => simp [intOf]; omega
          · have hn2 : n % 2 = 1 := by
              have := HO.out
              simp at this
              omega
            go_wp2_with (go_at_call 18; refine (num_calls _ _).mono ?_; rintro e w' ⟨rfl, rfl⟩)
            refine (begin_even hA (c := 0) (i := 0) (Room.of hsh (by omega)) ⟨by omega, by rw [hts]; omega⟩ hl0).mono ?_
            rintro e w4 ⟨rfl, hA4, hK4⟩
            have hev : ((rd [n, (n + 1) / 2, n / 2] 0).tmod 2 == 0) = false := by rw [E0.out, Int.tmod_eq_emod_of_nonneg n0]; simp [hn2]
            rw [hev, E0.out]
            clear hev
            go_wp2_with (go_at_call 18; refine (num_calls _ _).mono ?_; rintro e w' ⟨rfl, rfl⟩)
            go_roundw
            case rel => exact ⟨k + 1, n, -1, t, true, by go_num, by omega, by omega, rfl, rfl, rfl, n0, by omega, HO.out, .inl rfl, hbel.trans (hK4.below fun _ h => h), _, by simp [hts], (hsh.noted _).mono (by omega), hA4⟩
            case measure => simp [intOf]; omega
      · by_cases hs : n = s
        · have ht : t = n / 2 := by
            rcases HL.out with h | h
            · omega
            · rw [h.2.2, hs]
          subst hs ht
          go_wp2_with (go_at_call 18; refine (num_calls _ _).mono ?_; rintro e w' ⟨rfl, rfl⟩)
          refine (same_ok hA (c := 0) (i := 0) (Room.of hsh (by omega)) n ⟨by omega, by rw [hts]; omega⟩ hl0).mono ?_
          rintro e w4 ⟨rfl, hA4, hK4⟩
          rw [E0.out]
          go_wp2_with (go_at_call 18; refine (num_calls _ _).mono ?_; rintro e w' ⟨rfl, rfl⟩)
          refine (load_to (c := 0) (i := 2) hA4 (Room.of (hsh.noted _) (by omega)) ⟨by omega, by simp [hts]⟩ hl2 E2.out rfl).mono ?_
          rintro e w5 ⟨rfl, hA5, hK5⟩
          go_wp2_with (go_at_call 18; refine (num_calls _ _).mono ?_; rintro e w' ⟨rfl, rfl⟩)
          go_roundw
          case rel => exact ⟨k + 1, n, n, n / 2, q, by go_num, by omega, by omega, rfl, rfl, rfl, n0, by omega, HO.out, (by have := HL.out; omega), hbel.trans ((hK4.trans hK5).below fun _ h => h), _, by simp [hts], ((hsh.noted _).noted _).mono (by omega), hA5⟩
          case measure => simp [intOf]; omega
        · have hs' : (n == s) = false := by simpa using hs
          have HS := Lib.hid hs'
          clear hs hs'
          go_wp2_with (go_at_call 18; refine (num_calls _ _).mono ?_; rintro e w' ⟨rfl, rfl⟩)
          refine (same_ok hA (c := 0) (i := 0) (Room.of hsh (by omega)) s ⟨by omega, by rw [hts]; omega⟩ hl0).mono ?_
          rintro e w4 ⟨rfl, hA4, hK4⟩
          rw [E0.out, HS.out]
          go_wp2_with (go_at_call 18; refine (num_calls _ _).mono ?_; rintro e w' ⟨rfl, rfl⟩)
          refine (load_to (c := 0) (i := 2) hA4 (Room.of (hsh.noted _) (by omega)) ⟨by omega, by simp [hts]⟩ hl2 E2.out rfl).mono ?_
          rintro e w5 ⟨rfl, hA5, hK5⟩
          go_wp2_with (go_at_call 18; refine (num_calls _ _).mono ?_; rintro e w' ⟨rfl, rfl⟩)
          go_roundw
          case rel => exact ⟨k + 1, n, s, t, q, by go_num, by omega, by omega, rfl, rfl, rfl, n0, by omega, HO.out, (by have := HL.out; omega), hbel.trans ((hK4.trans hK5).below fun _ h => h), _, by simp [hts], ((hsh.noted _).noted _).mono (by omega), hA5⟩
          case measure => simp [intOf]; omega
    · by_cases hlt : k < len
      · have hlt3 : ¬ (k : Int) < 100 := by omega
        go_wp2_with (go_at_call 18; refine (num_calls _ _).mono ?_; rintro e w' ⟨rfl, rfl⟩)
        go_ret
        exact ⟨rfl, bel_then HB.out hbel⟩
      · go_wp2_with (go_at_call 18; refine (num_calls _ _).mono ?_; rintro e w' ⟨rfl, rfl⟩)
        go_ret
        exact ⟨rfl, bel_then HB.out hbel⟩
end Go.Proofs.Ytacjpchcaknacaa
