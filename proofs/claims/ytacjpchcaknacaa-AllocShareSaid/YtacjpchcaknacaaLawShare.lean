
/- AllocShare: the walk. -/
import Derived.Test.YtacjpchcaknacaaLawAlloc
namespace Go.Proofs.Ytacjpchcaknacaa
open Go.RowKit
set_option maxHeartbeats 2000000

/-- All words below t are had. -/
def below (t : Int) : Int → Bool := fun q => decide (0 ≤ q ∧ q < t)
theorem free_below {t q r : Int} (hr : 1 ≤ r) (q0 : 0 ≤ q) : Free (below t) q r ↔ t ≤ q := by
  constructor
  · intro h
    rcases Int.lt_or_le q t with e | e
    · have := h q (by omega) (by omega)
      unfold below at this
      simp at this
      omega
    · exact e
  · intro h j h1 h2
    unfold below
    simp; omega
theorem upto_below {t r : Int} (ht : 0 ≤ t) (hr : 1 ≤ r) (j : Int) : upto (below t) t r true j = below (t + r) j := by
  unfold upto below
  by_cases e : t ≤ j ∧ j < t + r
  · rw [if_pos e]; symm; simp; omega
  · rw [if_neg e]
    by_cases e2 : 0 ≤ j ∧ j < t
    · have e3 : 0 ≤ j ∧ j < t + r := by omega
      simp [e2, e3]
    · have e3 : ¬ (0 ≤ j ∧ j < t + r) := by omega
      simp only [decide_eq_decide]
      exact ⟨fun h => absurd h e2, fun h => absurd h e3⟩

/-- Core c has j pieces of r words, one behind the other; the other core nothing. -/
structure ShAt (L : Nat → Prop) (w wr : World) (x a m : Nat) (b b' t : Int) : Prop where
  keeps : Below w.heap.size w wr
  al : AlcAt L wr x a 0 256 5
  rest : ∃ ws beg, Sh ws b 5 246 (below t) beg ∧ Sh ws b' 5 246 (fun _ => false) (fun _ => false) ∧ ArP L wr a ws 2 m (fun _ => True)

set_option maxRecDepth 100000 in
theorem ashare_walk (w : World) (core : Int) (_ : (Lit.int .i64 core).wf = true) (size : Int) (_ : (Lit.int .i64 size).wf = true) :
    Calls Try.prog 8 #[.int .i64 core, .int .i64 size] w fun e w' => e = .returned (.bool true) ∧ Below w.heap.size w w' := by
  have hc0 : 0 ≤ core % 2 ∧ core % 2 < 2 := by omega
  generalize hcc : core % 2 = c at *
  have hr0 : 1 ≤ 1 + size % 32 ∧ 1 + size % 32 ≤ 32 := by omega
  generalize hrr : 1 + size % 32 = r at *
  obtain ⟨b, hb⟩ : ∃ b : Int, 0 + c * 256 = b := ⟨_, rfl⟩
  obtain ⟨b', hb'⟩ : ∃ b' : Int, 0 + (1 - c) * 256 = b' := ⟨_, rfl⟩
  have hd : b + 2 * 5 + 246 ≤ b' ∨ b' + 2 * 5 + 246 ≤ b := by omega
  have hbb : 0 ≤ b ∧ 0 ≤ b' ∧ b + 256 ≤ 512 ∧ b' + 256 ≤ 512 := by omega
  have HBB := Lib.hid hb
  have HBB' := Lib.hid hb'
  have HD := Lib.hid hd
  clear hb hb' hd
  obtain ⟨hr1, hr2⟩ := hr0
  go_enter Try.func8, Try.ntmps8
  go_wp2_with (fail)
  refine (awake4 w).mono ?_
  rintro e w1 ⟨rfl, hB⟩
  go_wp2_with (fail)
  refine (new_to (ws := List.replicate 512 0) (ts := List.replicate 2 []) (Bd.below w1) (by omega) (by omega) rfl rfl).mono ?_
  rintro e w2 ⟨a, rfl, hA, hK⟩
  have hP1 : ArP (fun b => b < w1.heap.size) w2 a (List.replicate 512 0) 2 0 (fun _ => True) := ArP.new 2 trivial hA
  go_wp2_with (fail)
  refine (anew_ok hP1 0 512 256 5 (by omega) (by omega) (by omega) (by simp) (by decide) (by omega) (by omega) (fun i _ _ => rd_rep _ _)).mono ?_
  rintro e w3 ⟨x, rfl, hx, nx, _, hP2, hK2⟩
  have LL := Lib.hid (show ∀ b, b < w1.heap.size → ins (fun b => b < w1.heap.size) x b from fun b h => ins.old h)
  have HB := Lib.hid hB
  have zero : ∀ q : Int, 0 ≤ q → q + 256 ≤ 512 → Sh (List.replicate 512 0) q 5 246 (fun _ => false) (fun _ => false) := fun q h0 h1 => Sh.zero (by omega) (by omega) (by omega) (by omega) (by simp; omega) (fun i _ _ => rd_rep _ _)
  have HS : ShAt (ins (fun b => b < w1.heap.size) x) w1 w3 x a 0 b b' 0 := ⟨(hK.trans hK2).below fun _ h => h, hx, _, _, (zero b hbb.1 hbb.2.2.1).congr (fun j h1 h2 => by unfold below; symm; rw [decide_eq_false_iff_not]; omega) (fun _ _ _ => rfl), zero b' hbb.2.1 hbb.2.2.2, hP2⟩
  clear hA hK hP1 hx nx hP2 hK2 hB zero
  generalize ins (fun b => b < w1.heap.size) x = L at *
  go_wp2_with (fail)
  go_loopw [11, 12] (fun mn i wr => ∃ (j : Nat) (t : Int), i = .int .i64 j ∧ mn = .int .i64 j ∧ t = j * r ∧ (j : Int) ≤ t ∧ t ≤ 246 ∧ ShAt L w1 wr x a (100000 * j) b b' t) (fun _ i _ => 600 - (intOf i).toNat)
  case atStart => exact ⟨0, 0, rfl, rfl, by simp, by omega, by omega, HS⟩
  case round =>
    clear HS
    obtain ⟨j, t, rfl, rfl, ht, hjt, ht1, hbel, hx, ws, beg, hS, hS', hP⟩ := hrel
    have HT := Lib.hid ht
    have HX := Lib.hid hx
    have HS := Lib.hid hS
    have HS' := Lib.hid hS'
    have HBEL := Lib.hid hbel
    have hlt : (j : Int) < 600 := by omega
    clear ht hx hS hS' hbel
    go_wp2_with (fail)
    refine (aget_calls HX.out hP (by omega) HS.out c HBB.out (by omega) (by omega) r ⟨hr1, hr2⟩ (Cl.true_ _ _ _)).mono ?_
    rintro e w4 hG
    rcases hG with ⟨q, q0, q1, hF, hmin, he, ws4, hS4, hW4, hP4, hK4⟩ | ⟨hno, he, hP4, hK4⟩
    · have hq : t ≤ q := (free_below hr1 q0).1 hF
      obtain rfl : q = t := by
        rcases Int.lt_or_le t q with h | h
        · exact absurd ((free_below hr1 (by omega)).2 (Int.le_refl _)) (hmin t (by omega) h)
        · omega
      obtain ⟨at4, hat4⟩ : ∃ v : Int, v = b + 2 * 5 + q := ⟨_, rfl⟩
      rw [← hat4] at he
      subst he
      have HS4 := Lib.hid (hS4.congr (fun i _ _ => upto_below (by omega) hr1 i) (fun _ _ _ => rfl))
      have HS4' := Lib.hid (HS'.out.keep hW4 (HD.out.elim .inr .inl))
      have HT4 := Lib.hid (show q + r = ((j + 1 : Nat) : Int) * r by rw [HT.out]; push_cast; rw [Int.add_mul, Int.one_mul])
      clear hF hmin hS4 hW4 hat4
      go_wp2_with (go_at_call 18; refine (num_calls _ _).mono ?_; rintro e w' ⟨rfl, rfl⟩)
      go_roundw
      case rel => exact ⟨j + 1, q + r, by go_num, by go_num, HT4.out, by omega, by omega, HBEL.out.trans (hK4.below LL.out), HX.out.keep hK4, ws4, _, HS4.out, HS4'.out, hP4.mono (by omega)⟩
      case measure => simp [intOf]; omega
    · subst he
      have hfull : 246 < t + r := by
        rcases Int.lt_or_le 246 (t + r) with h | h
        · exact h
        · exact absurd ((free_below hr1 (by omega)).2 (Int.le_refl _)) (hno t (by omega) h)
      have hx4 := HX.out.keep hK4
      have HX4 := Lib.hid hx4
      clear hno hx4
      go_wp2_with (go_at_call 18; refine (num_calls _ _).mono ?_; rintro e w' ⟨rfl, rfl⟩)
      refine (aget_calls HX4.out hP4 (by omega) HS.out c HBB.out (by omega) (by omega) 32 (by omega) (Cl.true_ _ _ _)).mono ?_
      rintro e w5 hG
      obtain ⟨v5, k5, hk5, he5, ws5, hS5', hP5, hK5⟩ : ∃ v5 k5 : Int, (k5 = 0 ∨ k5 = 401) ∧ e = .returned (.tuple #[.int .i64 v5, .int .i64 k5]) ∧ ∃ ws5, Sh ws5 b' 5 246 (fun _ => false) (fun _ => false) ∧ ArP L w5 a ws5 2 (100000 * j + 140000) (fun _ => True) ∧ Keeps L w4 w5 := by
        rcases hG with ⟨q, q0, q1, hF, hmin, he, ws6, hS6, hW6, hP6, hK6⟩ | ⟨hno, he, hP6, hK6⟩
        · exact ⟨_, 0, .inl rfl, he, ws6, HS'.out.keep hW6 (HD.out.elim .inr .inl), hP6.mono (by omega), hK6⟩
        · exact ⟨0, 401, .inr rfl, he, ws, HS'.out, hP6.mono (by omega), hK6⟩
      subst he5
      have HX5 := Lib.hid (HX4.out.keep hK5)
      have HS5 := Lib.hid hS5'
      have e0 : IntKind.i64.wrap (1 - c) = 1 - c := IntWalk.i64_in _ (by omega)
      clear hS5' hG
      go_wp2_with (go_at_call 18; refine (num_calls _ _).mono ?_; rintro e w' ⟨rfl, rfl⟩)
      clear e0
      refine (aget_calls HX5.out hP5 (by omega) HS5.out (1 - c) HBB'.out (by omega) (by omega) 32 (by omega) (Cl.true_ _ _ _)).mono ?_
      rintro e w6 hG
      rcases hG with ⟨q, q0, q1, hF, hmin, he, ws6, hS6, hW6, hP6, hK6⟩ | ⟨hno, _⟩
      rotate_left
      · exact absurd (fun _ _ _ => rfl) (hno 0 (by omega) (by omega))
      obtain ⟨at6, hat6⟩ : ∃ v : Int, v = b' + 2 * 5 + q := ⟨_, rfl⟩
      rw [← hat6] at he
      subst he
      have hat0 : 0 ≤ at6 := by omega
      have m1 : (j : Int) * r = t := HT.out.symm
      have m2 : (j : Int) * (r + 2) = t + 2 * j := by rw [Int.mul_add, m1]; omega
      have e1 : IntKind.i64.wrap ((j : Int) * r) = t := by rw [m1]; exact IntWalk.i64_in _ (by omega)
      have e2 : IntKind.i64.wrap ((j : Int) * (r + 2)) = t + 2 * j := by rw [m2]; exact IntWalk.i64_in _ (by omega)
      have t1 : t ≤ 256 := by omega
      have t2 : 64 - r - 2 < t + 2 * (j : Int) := by omega
      have HBF := Lib.hid (HBEL.out.trans (((hK4.trans hK5).trans hK6).below LL.out))
      clear hF hmin hS6 hW6 hat6 HT hfull
      rcases hk5 with rfl | rfl
      all_goals (
        go_wp2_with (go_at_call 18; refine (num_calls _ _).mono ?_; rintro e w' ⟨rfl, rfl⟩)
        go_ret
        exact ⟨rfl, bel_then HB.out HBF.out⟩)
end Go.Proofs.Ytacjpchcaknacaa
