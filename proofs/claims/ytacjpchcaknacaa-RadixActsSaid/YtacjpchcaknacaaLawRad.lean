
/- law7: awake, RadixCuts. -/
import Derived.Test.YtacjpchcaknacaaRadix
import Derived.Test.YtacjpchcaknacaaInts
namespace Go.Proofs.Ytacjpchcaknacaa
open Go.RowKit
set_option maxHeartbeats 400000

section
variable {L : Nat → Prop} {w : World} {a x : Nat} {ws : List Int} {n m : Nat} {P : List (List Acc) → Prop} {f : Int} {g : Int → Int}
theorem rSet_may {k : Int} (hk : (k != 0) = true) (h : ArP L w a ws n m P) (hx : RadAt L w x a f) (c p v : Int) (hv : 0 ≤ v ∨ c < 0 ∨ (n : Int) ≤ c) (hmy : Calls Try.prog 61 #[.pointer (some ⟨x, 0, none⟩), .int .i64 c, .int .i64 p, .int .i64 16] w fun e w' => e = .returned (.int .i64 k) ∧ w = w') :
    Calls Try.prog 37 #[.pointer (some ⟨x, 0, none⟩), .int .i64 c, .int .i64 p, .int .i64 v] w fun e w' => e = .returned (.int .i64 k) ∧ w = w' := by
  have hco := Lib.hid (cores_p h)
  have hmy := Lib.hid hmy
  have q0 := hx.2.cell 0
  clear h hx
  by_cases h1 : c < 0
  · go_enter Try.func37, Try.ntmps37
    go_wp2_with (go_at_call 61; refine hmy.out.mono ?_; rintro e w' ⟨rfl, rfl⟩)
    go_ret
    exact ⟨rfl, rfl⟩
  have h3 : 0 ≤ c := by omega
  by_cases h2 : (n : Int) ≤ c
  · go_enter Try.func37, Try.ntmps37
    go_wp2_with (first
      | (go_at_call 51; refine hco.out.mono ?_; rintro e w' ⟨rfl, rfl⟩)
      | (go_at_call 61; refine hmy.out.mono ?_; rintro e w' ⟨rfl, rfl⟩))
    go_ret
    exact ⟨rfl, rfl⟩
  · have h4 : c < n := by omega
    have h5 : ¬ v < 0 := by omega
    go_enter Try.func37, Try.ntmps37
    go_wp2_with (first
      | (go_at_call 51; refine hco.out.mono ?_; rintro e w' ⟨rfl, rfl⟩)
      | (go_at_call 61; refine hmy.out.mono ?_; rintro e w' ⟨rfl, rfl⟩))
    go_ret
    exact ⟨rfl, rfl⟩

theorem rPages_len (hx : RadAt L w x a f) (h : ArP L w a ws n m P) (hm : m ≤ 1099511627000) (hr : Rx ws f g) (c : Int) (h0 : 0 ≤ c ∧ c < n) (hc : ∀ p, 0 ≤ p → p < 16 → Cl n P c (rdSet f p)) (k : Nat) (hk : (pgs g 16).length = k) :
    Calls Try.prog 42 #[.pointer (some ⟨x, 0, none⟩), .int .i64 c] w fun e w' => ∃ A cap, e = .returned (.slice A k cap) ∧ ArP L w' a ws n (m + 32) P ∧ Keeps L w w' := by
  refine (rPages_ok hx h hm hr c h0 hc).mono ?_
  rintro e w' ⟨v, rfl, hown, hA, hK⟩
  rw [hk] at hown
  rcases hown.2 with ⟨rfl, rfl⟩ | ⟨g', cap, cur, rfl, _⟩
  · exact ⟨none, 0, rfl, hA.sub (fun _ h => .inl h), hK⟩
  · exact ⟨_, cap, rfl, hA.sub (fun _ h => .inl h), hK⟩
end

theorem pgs_len (g : Int → Int) (k : Nat) (h1 : ∀ j : Nat, j < k → g j ≠ 0) (h2 : ∀ j : Nat, k ≤ j → j < 16 → g j = 0) (n : Nat) (hn : n ≤ 16) : (pgs g n).length = min n k := by
  induction n with
  | zero => simp [pgs]
  | succ n ih =>
    have := ih (by omega)
    unfold pgs
    by_cases e : n < k
    · rw [if_neg (h1 n e)]
      simp
      omega
    · rw [if_pos (h2 n (by omega) (by omega))]
      omega

theorem Rx.len0 {g : Int → Int} (h1 : ∀ j : Nat, j < 16 → g j = 0) : (pgs g 16).length = 0 := by
  rw [pgs_len g 0 (fun j hj => absurd hj (by omega)) (fun j _ hj => h1 j hj) 16 (by omega)]
  rfl

set_option maxRecDepth 100000 in
theorem awake7 (w : World) : Calls Try.prog 41 #[] w fun e w' => e = .returned (.bool true) ∧ Below w.heap.size w w' := by
  go_enter Try.func41, Try.ntmps41
  go_wp2_with (go_at_call 18; refine (num_calls _ _).mono ?_; rintro e w' ⟨rfl, rfl⟩)
  refine (new_to (ws := List.replicate 200 0) (ts := List.replicate 2 []) (Bd.below w) (by omega) (by omega) rfl rfl).mono ?_
  rintro e w1 ⟨a, rfl, hA, hK⟩
  go_wp2_with (go_at_call 18; refine (num_calls _ _).mono ?_; rintro e w' ⟨rfl, rfl⟩)
  have hP1 : ArP (fun b => b < w.heap.size) w1 a (List.replicate 200 0) 2 0 (fun _ => True) := ArP.new 2 trivial hA
  refine (rad_new_ok hP1 0 200 (by omega) (by omega) (by simp) (fun i _ _ => rd_rep _ _)).mono ?_
  rintro e w2 ⟨x, rfl, hx, nx, _, hP2, hK2⟩
  have hr0 : Rx (List.replicate 200 0) 0 (fun _ => 0) := Rx.zero (by omega) (by simp) (fun i => rd_rep _ _)
  go_wp2_with (go_at_call 18; refine (num_calls _ _).mono ?_; rintro e w' ⟨rfl, rfl⟩)
  refine (rSet_ok hx hP2 (by omega) hr0 0 5 9 (by omega) (by omega) (by omega) (Cl.true_ _ _ _)).mono ?_
  rintro e w3 ⟨rfl, ws3, hl3, hr3, hP3, hK3⟩
  have hx3 := hx.keep hK3
  go_wp2_with (go_at_call 18; refine (num_calls _ _).mono ?_; rintro e w' ⟨rfl, rfl⟩)
  refine (rGet_ok hx3 hP3 (by omega) hr3 1 5 (by omega) (by omega) (Cl.true_ _ _ _)).mono ?_
  rintro e w4 ⟨rfl, hP4, hK4⟩
  have hx4 := hx3.keep hK4
  rw [show upd (fun _ => 0) 5 9 5 = 9 from rfl]
  go_wp2_with (go_at_call 18; refine (num_calls _ _).mono ?_; rintro e w' ⟨rfl, rfl⟩)
  refine (rGet_ok hx4 hP4 (by omega) hr3 0 15 (by omega) (by omega) (Cl.true_ _ _ _)).mono ?_
  rintro e w5 ⟨rfl, hP5, hK5⟩
  have hx5 := hx4.keep hK5
  rw [show upd (fun _ => 0) 5 9 15 = 0 from rfl]
  go_wp2_with (go_at_call 18; refine (num_calls _ _).mono ?_; rintro e w' ⟨rfl, rfl⟩)
  refine (rGet_err (k := 700) rfl 0 16 (may_page hx5 hP5 0 16 16 (by omega) (by omega))).mono ?_
  rintro e w' ⟨rfl, rfl⟩
  go_wp2_with (go_at_call 18; refine (num_calls _ _).mono ?_; rintro e w' ⟨rfl, rfl⟩)
  refine (rSet_may (k := 701) rfl hP5 hx5 2 0 1 (by omega) (may_core hx5 hP5 2 0 16 (by omega))).mono ?_
  rintro e w' ⟨rfl, rfl⟩
  go_wp2_with (go_at_call 18; refine (num_calls _ _).mono ?_; rintro e w' ⟨rfl, rfl⟩)
  refine (rCut_ok hx5 hP5 (by omega) hr3 (fun p _ _ => by unfold upd; split <;> simp) 0 5 (by omega) (by omega) (Cl.true_ _ _ _)).mono ?_
  rintro e w6 ⟨rfl, ws6, hl6, hr6, hP6, hK6⟩
  have hx6 := hx5.keep hK6
  go_wp2_with (go_at_call 18; refine (num_calls _ _).mono ?_; rintro e w' ⟨rfl, rfl⟩)
  refine (rPages_len hx6 hP6 (by omega) hr6 0 (by omega) (fun _ _ _ => Cl.true_ _ _ _) 0 (Rx.len0 fun j hj => by
    unfold cutf upd
    split
    · rfl
    · rw [if_neg (by omega)])).mono ?_
  rintro e w7 ⟨A, cap, rfl, hP7, hK7⟩
  go_wp2_with (go_at_call 18; refine (num_calls _ _).mono ?_; rintro e w' ⟨rfl, rfl⟩)
  go_ret
  exact ⟨rfl, (hK.trans (hK2.trans ((((hK3.trans hK4).trans hK5).trans hK6).trans hK7).out)).below fun _ h => h⟩

/-- What was set and cut. -/
def cutg (m k : Int) : Int → Int := fun q => if 0 ≤ q ∧ q < k then m + q else 0

/-- The numbers are g. -/
structure RadG (L : Nat → Prop) (w1 wr : World) (x a n m : Nat) (g : Int → Int) : Prop where
  keeps : Below w1.heap.size w1 wr
  rad : RadAt L wr x a 0
  rest : ∃ ws, Rx ws 0 g ∧ ArP L wr a ws n m (fun _ => True)
theorem RadG.mono {L : Nat → Prop} {w1 wr : World} {x a n m m' : Nat} {g : Int → Int} (h : RadG L w1 wr x a n m g) (hm : m ≤ m') : RadG L w1 wr x a n m' g := by
  obtain ⟨h1, h2, ws, h3, h4⟩ := h
  exact ⟨h1, h2, ws, h3, h4.mono hm⟩

set_option maxRecDepth 100000 in
theorem rcuts_walk (w : World) (at_ : Int) (_ : (Lit.int .i64 at_).wf = true) (from_ : Int) (_ : (Lit.int .i64 from_).wf = true) :
    Calls Try.prog 10 #[.int .i64 at_, .int .i64 from_] w fun e w' => e = .returned (.bool true) ∧ Below w.heap.size w w' := by
  obtain ⟨o, ho, ho17⟩ := u64_tmod at_ 17 (by omega)
  have hm0 : 0 ≤ from_ % 1024 ∧ from_ % 1024 < 1024 := by omega
  generalize hmm : from_ % 1024 = m0 at *
  go_enter Try.func10, Try.ntmps10
  go_wp2_with (go_at_call 18; refine (num_calls _ _).mono ?_; rintro e w' ⟨rfl, rfl⟩)
  refine (awake7 w).mono ?_
  rintro e w1 ⟨rfl, hB⟩
  go_wp2_with (go_at_call 18; refine (num_calls _ _).mono ?_; rintro e w' ⟨rfl, rfl⟩)
  refine (new_to (ws := List.replicate 200 0) (ts := List.replicate 1 []) (Bd.below w1) (by omega) (by omega) rfl rfl).mono ?_
  rintro e w2 ⟨a, rfl, hA, hK⟩
  go_wp2_with (go_at_call 18; refine (num_calls _ _).mono ?_; rintro e w' ⟨rfl, rfl⟩)
  have hP1 : ArP (fun b => b < w1.heap.size) w2 a (List.replicate 200 0) 1 0 (fun _ => True) := ArP.new 1 trivial hA
  refine (rad_new_ok hP1 0 200 (by omega) (by omega) (by simp) (fun i _ _ => rd_rep _ _)).mono ?_
  rintro e w3 ⟨x, rfl, hx, nx, _, hP2, hK2⟩
  go_wp2_with (go_at_call 18; refine (num_calls _ _).mono ?_; rintro e w' ⟨rfl, rfl⟩)
  have hr0 : Rx (List.replicate 200 0) 0 (cutg (1 + m0) 0) := (Rx.zero (by omega) (by simp) (fun i => rd_rep _ _)).congr fun p _ _ => by unfold cutg; rw [if_neg (by omega)]
  have HB := Lib.hid hB
  have HS : RadG (ins (fun b => b < w1.heap.size) x) w1 w3 x a 1 0 (cutg (1 + m0) 0) := ⟨(hK.trans hK2).below fun _ h => h, hx, _, hr0, hP2⟩
  have LL := Lib.hid (show ∀ b, b < w1.heap.size → ins (fun b => b < w1.heap.size) x b from fun b h => ins.old h)
  clear hB hA hK hP1 hx nx hP2 hK2 hr0
  generalize ins (fun b => b < w1.heap.size) x = L at *

  go_loopw [11] (fun i wr => ∃ k : Nat, i = .int .i64 k ∧ k ≤ 16 ∧ RadG L w1 wr x a 1 (3 * k) (cutg (1 + m0) k)) (fun i _ => 16 - (intOf i).toNat)
  case atStart => exact ⟨0, rfl, by omega, HS⟩
  case round =>
    clear HS
    obtain ⟨k, rfl, hk, hbel, hx, ws, hr, hP⟩ := hrel
    have HR := Lib.hid hr
    clear hr
    by_cases hlt : k < 16
    · have hlt' : (k : Int) < 16 := by omega
      go_wp2_with (go_at_call 18; refine (num_calls _ _).mono ?_; rintro e w' ⟨rfl, rfl⟩)
      refine (rSet_ok hx hP (by omega) HR.out 0 k (1 + m0 + k) (by omega) (by omega) (by omega) (Cl.true_ _ _ _)).mono ?_
      rintro e w4 ⟨rfl, ws4, hl4, hr4, hP4, hK4⟩
      have hx4 := hx.keep hK4
      have HR4 := Lib.hid hr4
      clear hr4
      go_wp2_with (go_at_call 18; refine (num_calls _ _).mono ?_; rintro e w' ⟨rfl, rfl⟩)
      go_roundw
      case rel =>
        refine ⟨k + 1, by go_num, by omega, hbel.trans (hK4.below LL.out), hx4, ws4, HR4.out.congr (fun q q0 q1 => ?_), hP4⟩
        unfold cutg upd
        by_cases e : q = k
        · rw [if_pos (by omega), if_pos e]; omega
        · rw [if_neg e]
          by_cases e2 : 0 ≤ q ∧ q < k
          · rw [if_pos (by omega)]; exact (if_pos e2).symm
          · rw [if_neg (by omega)]; exact (if_neg e2).symm
      case measure => simp [intOf]; omega
    · have hlt' : ¬ (k : Int) < 16 := by omega
      have h16 : (k : Int) = 16 := by omega
      have HR := Lib.hid (show Rx ws 0 (cutg (1 + m0) 16) by rw [← h16]; exact HR.out)
      go_wp2_with (go_at_call 18; refine (num_calls _ _).mono ?_; rintro e w' ⟨rfl, rfl⟩)
      refine (rCut_ok hx hP (by omega) HR.out (fun p _ _ => by unfold cutg; split <;> omega) 0 o (by omega) (by omega) (Cl.true_ _ _ _)).mono ?_
      rintro e w4 ⟨rfl, ws4, hl4, hr4, hP4, hK4⟩
      have hx4 := hx.keep hK4
      have HS : RadG L w1 w4 x a 1 96 (cutg (1 + m0) o) := ⟨hbel.trans (hK4.below LL.out), hx4, ws4, hr4.congr (fun q q0 q1 => by
        unfold cutg cutf
        by_cases e : q < o
        · rw [if_pos (by omega)]
          simp only
          rw [if_neg (by omega), if_pos (by omega)]
        · rw [if_neg (by omega)]
          simp only
          rw [if_pos (by omega)]), hP4.mono (by omega)⟩
      clear hr4 HR hP hP4 hK4 hx hx4 hbel hl4 h16 hlt' hlt hk
      go_wp2_with (go_at_call 18; refine (num_calls _ _).mono ?_; rintro e w' ⟨rfl, rfl⟩)

      go_loopw [13] (fun i wr => ∃ k : Nat, i = .int .i64 k ∧ k ≤ 16 ∧ RadG L w1 wr x a 1 (96 + 2 * k) (cutg (1 + m0) o)) (fun i _ => 16 - (intOf i).toNat)
      case atStart => exact ⟨0, rfl, by omega, HS⟩
      case round =>
        clear HS
        obtain ⟨j, rfl, hj, hbel, hx, ws, hr, hP⟩ := hrel
        have HR := Lib.hid hr
        clear hr
        by_cases hlt : j < 16
        · have hlt' : (j : Int) < 16 := by omega
          go_wp2_with (go_at_call 18; refine (num_calls _ _).mono ?_; rintro e w' ⟨rfl, rfl⟩)
          refine (rGet_ok hx hP (by omega) HR.out 0 j (by omega) (by omega) (Cl.true_ _ _ _)).mono ?_
          rintro e w5 ⟨rfl, hP5, hK5⟩
          have hx5 := hx.keep hK5
          by_cases hjo : j < o
          · rw [show cutg (1 + m0) o j = 1 + m0 + j by unfold cutg; rw [if_pos (by omega)]]
            have hjo' : (j : Int) < o := by omega
            go_wp2_with (go_at_call 18; refine (num_calls _ _).mono ?_; rintro e w' ⟨rfl, rfl⟩)
            go_roundw
            case rel => exact ⟨j + 1, by go_num, by omega, hbel.trans (hK5.below LL.out), hx5, ws, HR.out, hP5.mono (by omega)⟩
            case measure => simp [intOf]; omega
          · rw [show cutg (1 + m0) o j = 0 by unfold cutg; rw [if_neg (by omega)]]
            have hjo' : ¬ (j : Int) < o := by omega
            go_wp2_with (go_at_call 18; refine (num_calls _ _).mono ?_; rintro e w' ⟨rfl, rfl⟩)
            go_roundw
            case rel => exact ⟨j + 1, by go_num, by omega, hbel.trans (hK5.below LL.out), hx5, ws, HR.out, hP5.mono (by omega)⟩
            case measure => simp [intOf]; omega
        · have hlt' : ¬ (j : Int) < 16 := by omega
          go_wp2_with (go_at_call 18; refine (num_calls _ _).mono ?_; rintro e w' ⟨rfl, rfl⟩)
          refine (rPages_len hx hP (by omega) HR.out 0 (by omega) (fun _ _ _ => Cl.true_ _ _ _) o (by
            rw [pgs_len _ o (fun i hi => by unfold cutg; rw [if_pos (by omega)]; omega) (fun i h1 h2 => by unfold cutg; rw [if_neg (by omega)]) 16 (by omega)]
            omega)).mono ?_
          rintro e w7 ⟨A, cap, rfl, hP7, hK7⟩
          go_wp2_with (go_at_call 18; refine (num_calls _ _).mono ?_; rintro e w' ⟨rfl, rfl⟩)
          go_ret
          exact ⟨rfl, bel_then HB.out (hbel.trans (hK7.below LL.out))⟩
end Go.Proofs.Ytacjpchcaknacaa
