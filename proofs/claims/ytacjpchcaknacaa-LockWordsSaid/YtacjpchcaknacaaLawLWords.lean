
/- LockWords: the walk. -/
import Derived.Test.YtacjpchcaknacaaLock
import Derived.Test.YtacjpchcaknacaaInts
namespace Go.Proofs.Ytacjpchcaknacaa
open Go.RowKit
set_option maxHeartbeats 400000

/-- The words once the first k locks were tried. -/
def wordOf (mask c : Int) (j : Nat) : Int := if mask / 2 ^ j % 2 = 1 then c + 1 else 0
structure WordsAt (w1 wq : World) (a m : Nat) (mask c : Int) (k : Nat) : Prop where
  keeps : Below w1.heap.size w1 wq
  rest : ∃ ws ts, ws.length = 8 ∧ ts.length = 4 ∧ Short m ts ∧ (∀ j : Nat, j < 8 → rd ws j = if j < k then wordOf mask c j else 0) ∧ ArAt (fun b => b < w1.heap.size) wq a ws ts

set_option maxRecDepth 100000 in
theorem lwords_walk (w : World) (mask : Int) (_ : (Lit.int .i64 mask).wf = true) (who : Int) (_ : (Lit.int .i64 who).wf = true) :
    Calls Try.prog 4 #[.int .i64 mask, .int .i64 who] w fun e w' => e = .returned (.bool true) ∧ Below w.heap.size w w' := by
  have hc4 : 0 ≤ who % 4 ∧ who % 4 < 4 := by omega
  generalize hcc : who % 4 = c at *
  have hd4 : 0 ≤ (c + 1) % 4 ∧ (c + 1) % 4 < 4 ∧ (c + 1) % 4 ≠ c := by omega
  go_enter Try.func4, Try.ntmps4
  go_wp2_with (go_at_call 18; refine (num_calls _ _).mono ?_; rintro e w' ⟨rfl, rfl⟩)
  refine (awake5 w).mono ?_
  rintro e w1 ⟨rfl, hB⟩
  go_wp2_with (go_at_call 18; refine (num_calls _ _).mono ?_; rintro e w' ⟨rfl, rfl⟩)
  refine (new_to (ws := List.replicate 8 0) (ts := List.replicate 4 []) (Bd.below w1) (by omega) (by omega) rfl rfl).mono ?_
  rintro e w2 ⟨a, rfl, hA, hK⟩
  go_wp2_with (go_at_call 18; refine (num_calls _ _).mono ?_; rintro e w' ⟨rfl, rfl⟩)
  have HB := Lib.hid hB
  have HS : WordsAt w1 w2 a (2 * 0) mask c 0 := ⟨hK.below fun _ h => h, _, _, rfl, rfl, by intro t ht; simp at ht; simp [ht], fun j _ => by rw [rd_rep]; simp, hA⟩
  clear hB hA hK
  go_loopw [8] (fun i wr => ∃ (k : Nat), i = .int .i64 k ∧ k ≤ 8 ∧ WordsAt w1 wr a (2 * k) mask c k) (fun i _ => 8 - (intOf i).toNat)
  case atStart => exact ⟨0, rfl, by omega, HS⟩
  case round =>
    clear HS
    obtain ⟨k, rfl, hk, hbel, ws, ts, hws, hts, hsh, hrd, hA⟩ := hrel
    have HR := Lib.hid hrd
    clear hrd
    have hb : mask / 2 ^ k % 2 = 0 ∨ mask / 2 ^ k % 2 = 1 := by omega
    by_cases hlt : k < 8
    · have hlt2 : (k : Int) < 8 := by omega
      have hk0 : rd ws k = 0 := by rw [HR.out k hlt, if_neg (by omega)]
      have HWO := Lib.hid (show wordOf mask c k = if mask / 2 ^ k % 2 = 1 then c + 1 else 0 from rfl)
      generalize hbv : mask / 2 ^ k % 2 = b at *
      rcases hb with rfl | rfl
      · go_wp2_with (go_at_call 18; refine (num_calls _ _).mono ?_; rintro e w' ⟨rfl, rfl⟩)
        go_roundw
        case rel =>
          refine ⟨k + 1, by go_num, by omega, hbel, ws, ts, hws, hts, hsh.mono (by omega), fun j hj => ?_, hA⟩
          rw [HR.out j hj]
          by_cases e : j = k
          · subst e
            rw [if_neg (by omega), if_pos (by omega), HWO.out, if_neg (by omega)]
          · by_cases e2 : j < k
            · rw [if_pos e2, if_pos (by omega)]
            · rw [if_neg e2, if_neg (by omega)]
        case measure => simp [intOf]; omega
      · go_wp2_with (go_at_call 18; refine (num_calls _ _).mono ?_; rintro e w' ⟨rfl, rfl⟩)
        refine (try_yes hA (Room.of hsh (by omega)) ⟨by omega, by rw [hts]; omega⟩ ⟨by omega, by rw [hws]; omega⟩ hk0).mono ?_
        rintro e w4 ⟨rfl, hA4, hK4⟩
        go_wp2_with (go_at_call 18; refine (num_calls _ _).mono ?_; rintro e w' ⟨rfl, rfl⟩)
        go_roundw
        case rel =>
          refine ⟨k + 1, by go_num, by omega, hbel.trans (hK4.below fun _ h => h), _, _, by simpa using hws, by simpa using hts, (hsh.noted _).mono (by omega), fun j hj => ?_, hA4⟩
          rw [rd_wr ⟨by omega, by omega⟩ (by omega), HR.out j hj]
          by_cases e : j = k
          · subst e
            rw [if_pos rfl, if_pos (by omega), HWO.out]; simp
          · rw [if_neg (by omega)]
            by_cases e2 : j < k
            · rw [if_pos e2, if_pos (by omega)]
            · rw [if_neg e2, if_neg (by omega)]
        case measure => simp [intOf]; omega
    · have HR2 := Lib.hid (fun j (hj : j < 8) => (HR.out j hj).trans (if_pos (by omega)))
      have hsh2 : Short 16 ts := hsh.mono (by omega)
      have hlt2 : ¬ (k : Int) < 8 := by omega
      clear HR hb hlt hsh
      go_wp2_with (go_at_call 18; refine (num_calls _ _).mono ?_; rintro e w' ⟨rfl, rfl⟩)
      obtain ⟨wo, rfl⟩ : ∃ wo : World, wo = wr := ⟨_, rfl⟩
      go_loopw [9] (fun i wr => ∃ (k m : Nat) (ts : List (List Acc)), i = .int .i64 k ∧ k ≤ 8 ∧ m = 16 + 2 * k ∧ ts.length = 4 ∧ Short m ts ∧ Below w1.heap.size w1 wr ∧ ArAt (fun b => b < w1.heap.size) wr a ws ts) (fun i _ => 8 - (intOf i).toNat)
      case atStart => exact ⟨0, 16, ts, rfl, by omega, rfl, hts, hsh2, hbel, hA⟩
      case round =>
        clear hA hsh2 hts hbel hlt2 hk
        obtain ⟨k, m, ts2, rfl, hk, rfl, hts, hsh, hbel, hA⟩ := hrel
        have hb : mask / 2 ^ k % 2 = 0 ∨ mask / 2 ^ k % 2 = 1 := by omega
        by_cases hlt : k < 8
        · have hlt2 : (k : Int) < 8 := by omega
          have hk0 := HR2.out k hlt
          have hwo : wordOf mask c k = if mask / 2 ^ k % 2 = 1 then c + 1 else 0 := rfl
          generalize hbv : mask / 2 ^ k % 2 = b at *
          generalize hdd : (c + 1) % 4 = d at *
          rcases hb with rfl | rfl
          · rw [if_neg (by omega)] at hwo
            rw [hwo] at hk0
            have HK0 := Lib.hid hk0
            clear hk0 hwo
            go_wp2_with (go_at_call 18; refine (num_calls _ _).mono ?_; rintro e w' ⟨rfl, rfl⟩)
            refine (holder_ok hA (c := 0) (i := k) (Room.of hsh (by omega)) ⟨by omega, by rw [hts]; omega⟩ ⟨by omega, by rw [hws]; omega⟩).mono ?_
            rintro e w4 ⟨rfl, hA4, hK4⟩
            have hho : holder (rd ws k) (ts2.length : Nat) = -1 := by rw [HK0.out]; unfold holder; rw [if_pos (by omega)]
            rw [hho]
            clear hho
            go_wp2_with (go_at_call 18; refine (num_calls _ _).mono ?_; rintro e w' ⟨rfl, rfl⟩)
            refine (unlock_held hA4 (Room.of (hsh.noted _) (by omega)) ⟨by omega, by simp [hts]; omega⟩ ⟨by omega, by rw [hws]; omega⟩ (by rw [HK0.out]; omega)).mono ?_
            rintro e w5 ⟨rfl, hA5, hK5⟩
            go_wp2_with (go_at_call 18; refine (num_calls _ _).mono ?_; rintro e w' ⟨rfl, rfl⟩)
            go_roundw
            case rel => exact ⟨k + 1, _, _, by go_num, by omega, rfl, by simp [hts], ((hsh.noted _).noted _).mono (by omega), hbel.trans ((hK4.trans hK5).below fun _ h => h), hA5⟩
            case measure => simp [intOf]; omega
          · rw [if_pos rfl] at hwo
            rw [hwo] at hk0
            have HK0 := Lib.hid hk0
            clear hk0 hwo
            go_wp2_with (go_at_call 18; refine (num_calls _ _).mono ?_; rintro e w' ⟨rfl, rfl⟩)
            refine (holder_ok hA (c := 0) (i := k) (Room.of hsh (by omega)) ⟨by omega, by rw [hts]; omega⟩ ⟨by omega, by rw [hws]; omega⟩).mono ?_
            rintro e w4 ⟨rfl, hA4, hK4⟩
            have hho : holder (rd ws k) (ts2.length : Nat) = c := by rw [HK0.out, hts]; unfold holder; rw [if_neg (by omega)]; omega
            rw [hho]
            clear hho
            go_wp2_with (go_at_call 18; refine (num_calls _ _).mono ?_; rintro e w' ⟨rfl, rfl⟩)
            refine (unlock_held hA4 (Room.of (hsh.noted _) (by omega)) ⟨by omega, by simp [hts]; omega⟩ ⟨by omega, by rw [hws]; omega⟩ (by rw [HK0.out]; omega)).mono ?_
            rintro e w5 ⟨rfl, hA5, hK5⟩
            go_wp2_with (go_at_call 18; refine (num_calls _ _).mono ?_; rintro e w' ⟨rfl, rfl⟩)
            go_roundw
            case rel => exact ⟨k + 1, _, _, by go_num, by omega, rfl, by simp [hts], ((hsh.noted _).noted _).mono (by omega), hbel.trans ((hK4.trans hK5).below fun _ h => h), hA5⟩
            case measure => simp [intOf]; omega
        · go_wp2_with (go_at_call 18; refine (num_calls _ _).mono ?_; rintro e w' ⟨rfl, rfl⟩)
          go_ret
          exact ⟨rfl, bel_then HB.out hbel⟩
end Go.Proofs.Ytacjpchcaknacaa
