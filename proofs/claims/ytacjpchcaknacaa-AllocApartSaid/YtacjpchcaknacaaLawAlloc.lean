
/- AllocAgain, AllocShare: the walks. -/
import Derived.Test.YtacjpchcaknacaaAlloc4
import Derived.Test.YtacjpchcaknacaaInts
import Derived.Deep.DeepCutAuto
namespace Go.Proofs.Ytacjpchcaknacaa
open Go.RowKit
set_option maxHeartbeats 2000000

/-- A share of which nothing is had. -/
theorem Sh.base_cong {ws : List Int} {b b' k z : Int} {had beg : Int → Bool} (h : Sh ws b k z had beg) (e : b = b') : Sh ws b' k z had beg := e ▸ h

/-- Nothing is had by core c. -/
structure AgAt (L : Nat → Prop) (w wr : World) (x a m : Nat) (c : Int) : Prop where
  keeps : Below w.heap.size w wr
  al : AlcAt L wr x a 0 256 5
  rest : ∃ ws b, 0 + c * 256 = b ∧ Sh ws b 5 246 (fun _ => false) (fun _ => false) ∧ ArP L wr a ws 2 m (fun _ => True)

set_option maxRecDepth 100000 in
theorem aagain_walk (w : World) {A : Option Addr} {len cap : Nat} {xs : List Int} (hx : Ints w A len cap xs) (core : Int) (_ : (Lit.int .i64 core).wf = true) :
    Calls Try.prog 11 #[.slice A len cap, .int .i64 core] w fun e w' => e = .returned (.bool true) ∧ Below w.heap.size w w' := by
  have hle := hx.len_le
  have HX := Lib.hid hx
  clear hx
  have hc0 : 0 ≤ core % 2 ∧ core % 2 < 2 := by omega
  generalize hcc : core % 2 = c at *
  go_enter Try.func11, Try.ntmps11
  go_wp2_with (fail)
  refine (awake4 w).mono ?_
  rintro e w1 ⟨rfl, hB⟩
  go_wp2_with (fail)
  refine (new_to (ws := List.replicate 512 0) (ts := List.replicate 2 []) (Bd.below w1) (by omega) (by omega) rfl rfl).mono ?_
  rintro e w2 ⟨a, rfl, hA, hK⟩
  have hP1 : ArP (fun b => b < w1.heap.size) w2 a (List.replicate 512 0) 2 0 (fun _ => True) := ArP.new 2 trivial hA
  go_wp2_with (fail)
  refine (anew_ok hP1 0 512 256 5 (by omega) (by omega) (by omega) (by simp) (by decide) (by omega) (by omega) (fun i _ _ => rd_rep _ _)).mono ?_
  rintro e w3 ⟨x, rfl, hx, nx, _, hP2, hK2⟩
  have LL := Lib.hid (show ∀ b, b < w1.heap.size → ins (fun b => b < w1.heap.size) x b from fun b h => ins.old h)
  have HB := Lib.hid hB
  have HS : AgAt (ins (fun b => b < w1.heap.size) x) w1 w3 x a 0 c := ⟨(hK.trans hK2).below fun _ h => h, hx, _, _, rfl, Sh.zero (by omega) (by omega) (by omega) (by omega) (by simp; omega) (fun i _ _ => rd_rep _ _), hP2⟩
  clear hA hK hP1 hx nx hP2 hK2 hB
  generalize ins (fun b => b < w1.heap.size) x = L at *
  go_wp2_with (fail)
  go_loopw [10] (fun i wr => ∃ j : Nat, i = .int .i64 j ∧ j ≤ 200 ∧ AgAt L w1 wr x a (600000 * j) c) (fun i _ => 200 - (intOf i).toNat)
  case atStart => exact ⟨0, rfl, by omega, HS⟩
  case round =>
    clear HS
    obtain ⟨j, rfl, hj, hbel, hx, ws, b, hb, hS, hP⟩ := hrel
    have HBB := Lib.hid hb
    clear hb
    have HXA := Lib.hid hx
    have HSH := Lib.hid hS
    have HBEL := Lib.hid hbel
    by_cases hlt : j < 200
    · have hlt' : (j : Int) < 200 := by omega
      go_upto_if 38 with (fail)
      go_cut [11] (fun s wx => ∃ r : Int, 1 ≤ r ∧ r ≤ 32 ∧ s = .int .i64 r ∧ wx = wr)
      case first =>
        by_cases hl0 : 0 < len
        · have hjm0 : j % len < len := Nat.mod_lt _ hl0
          obtain ⟨g, off, rfl, hcell, _, _⟩ := HX.out.at_ hjm0 (bel_then HB.out HBEL.out)
          obtain ⟨jm, hjm⟩ : ∃ jm : Nat, j % len = jm := ⟨_, rfl⟩
          rw [hjm] at hcell hjm0
          have e1 : (j : Int).tmod (len : Int) = (jm : Int) := by rw [Int.tmod_eq_emod_of_nonneg (by omega), ← hjm]; simp
          have e2 : (j : Int) % (len : Int) = (jm : Int) := by rw [← hjm]; simp
          have hjl : (jm : Int) < (len : Int) := by omega
          have hl1 : (0 : Int) < (len : Int) := by omega
          clear hjm
          generalize nth xs jm = v at *
          go_wp2_with (fail)
          go_meet
          case rel => exact ⟨1 + v % 32, by omega, by omega, rfl, rfl⟩
        · have hl1 : ¬ (0 : Int) < (len : Int) := by omega
          go_wp2_with (fail)
          go_meet
          case rel => exact ⟨_, by omega, by omega, rfl, rfl⟩
      case rest =>
        obtain ⟨r, hr1, hr2, rfl, rfl⟩ := hcut
        go_wp2_with (fail)
        refine (aget_calls HXA.out hP (by omega) HSH.out c HBB.out (by omega) (by omega) r ⟨hr1, hr2⟩ (Cl.true_ _ _ _)).mono ?_
        rintro e w4 hG
        rcases hG with ⟨q, q0, q1, hF, hmin, he, ws4, hS4, hW4, hP4, hK4⟩ | ⟨hno, _⟩
        rotate_left
        · exact absurd (fun _ _ _ => rfl) (hno 0 (by omega) (by omega))
        obtain rfl : q = 0 := by
          rcases Int.lt_or_le 0 q with h | h
          · exact absurd (fun _ _ _ => rfl) (hmin 0 (by omega) h)
          · omega
        obtain ⟨at4, hat4⟩ : ∃ v : Int, v = b + 2 * 5 + 0 := ⟨_, rfl⟩
        rw [← hat4] at he
        subst he
        have HAT := Lib.hid hat4
        clear hat4
        have HX4 := Lib.hid (HXA.out.keep hK4)
        have HS4 := Lib.hid hS4
        clear hmin hF hS4 hW4
        go_wp2_with (fail)
        refine (aleft_calls HX4.out hP4 (by omega) HS4.out c HBB.out (by omega) (by omega) (Cl.true_ _ _ _)).mono ?_
        rintro e w5 ⟨lf, rfl, hl0, hl1, hP5, hK5⟩
        have HX5 := Lib.hid (HX4.out.keep hK5)
        have hl2 : ¬ lf < 0 := by omega
        have hl3 : ¬ 256 < lf := by omega
        go_wp2_with (go_at_call 18; refine (num_calls _ _).mono ?_; rintro e w' ⟨rfl, rfl⟩)
        refine (afree_at HX5.out hP5 (by omega) HS4.out c HBB.out (by omega) (by omega) 0 r HAT.out (by omega) (by omega) (by simp [updB]) ⟨hr1, by omega, fun i h1 h2 => ⟨by unfold upto; rw [if_pos (by omega)], by unfold updB; rw [if_neg (by omega)]⟩⟩ (by
          by_cases e : (0 : Int) + r = 246
          · exact .inl e
          · exact .inr (.inl (by unfold upto; rw [if_neg (by omega)]))) (Cl.true_ _ _ _)).mono ?_
        rintro e w6 ⟨rfl, ws6, hS6, hW6, hP6, hK6⟩
        have HX6 := Lib.hid (HX5.out.keep hK6)
        have HS6 := Lib.hid (show Sh ws6 b 5 246 (fun _ => false) (fun _ => false) from hS6.congr (fun i h1 h2 => by
          unfold upto
          by_cases e : 0 ≤ i ∧ i < 0 + r
          · rw [if_pos e]
          · rw [if_neg e, if_neg e]) (fun i h1 h2 => by
          unfold updB
          by_cases e : i = 0
          · rw [if_pos e]
          · rw [if_neg e, if_neg e]))
        clear hS6 hW6
        go_wp2_with (go_at_call 18; refine (num_calls _ _).mono ?_; rintro e w' ⟨rfl, rfl⟩)
        go_roundw
        case rel => exact ⟨j + 1, by go_num, by omega, HBEL.out.trans (((hK4.trans hK5).trans hK6).below LL.out), HX6.out, ws6, b, HBB.out, HS6.out, hP6.mono (by omega)⟩
        case measure => simp [intOf]; omega
    · have hlt' : ¬ (j : Int) < 200 := by omega
      go_wp2_with (go_at_call 18; refine (num_calls _ _).mono ?_; rintro e w' ⟨rfl, rfl⟩)
      go_ret
      exact ⟨rfl, bel_then HB.out HBEL.out⟩
end Go.Proofs.Ytacjpchcaknacaa
