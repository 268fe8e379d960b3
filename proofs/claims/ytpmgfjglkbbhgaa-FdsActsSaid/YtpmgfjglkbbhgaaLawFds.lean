
/- law12: awake, FdsAll. -/
import Derived.Test.YtpmgfjglkbbhgaaFds2
namespace Go.Proofs.Ytpmgfjglkbbhgaa
open Go.RowKit
set_option maxHeartbeats 400000

theorem descs_all (ws : List Int) (b c : Int) (k : Nat) (h : ∀ i : Nat, i < k → rd ws (b + i) ≠ 0) : (descs ws b c k).length = k := by
  induction k with
  | zero => rfl
  | succ k ih =>
    unfold descs
    rw [if_neg (h k (by omega))]
    have := ih (fun i hi => h i (by omega))
    simp [this]
theorem descs_one (ws : List Int) (b c : Int) (h0 : rd ws b ≠ 0) (h : ∀ i : Nat, 1 ≤ i → i < 4 → rd ws (b + i) = 0) : (descs ws b c 4).length = 1 := by
  have h1 := h 1 (by omega) (by omega)
  have h2 := h 2 (by omega) (by omega)
  have h3 := h 3 (by omega) (by omega)
  have e0 : b + ((0 : Nat) : Int) = b := by omega
  simp only [descs, h1, h2, h3, e0, if_true, if_neg h0]
  rfl

theorem list_len {L : Nat → Prop} {w : World} {a x : Nat} {ws : List Int} {n m : Nat} {P : List (List Acc) → Prop} {f : Int}
    (hx : FdsAt L w x a f) (h : ArP L w a ws n m P) (hm : m ≤ 1099511627770) (c : Int) (h0 : 0 ≤ c ∧ c < n) (hf : 0 ≤ f) (hl : f + 4 * n ≤ ws.length) (hc : Cl n P c (fdSet f c)) (k : Nat) (hk : 0 < k) (hd : (descs ws (f + c * 4) c 4).length = k) :
    Calls Try.prog 40 #[.pointer (some ⟨x, 0, none⟩), .int .i64 c] w fun e w' => ∃ g cap, e = .returned (.slice (some ⟨g, 0, none⟩) k cap) ∧ ArP L w' a ws n (m + 4) P ∧ Keeps L w w' := by
  refine (list_ok hx h hm c h0 hf hl hc).mono ?_
  rintro e w' ⟨v, rfl, hown, hA, hK⟩
  rw [hd] at hown
  obtain ⟨g, cap, rfl, _, _⟩ := hown.form hk
  exact ⟨g, cap, rfl, hA.sub (fun _ h => .inl h), hK⟩

set_option maxRecDepth 100000 in
theorem awake12 (w : World) : Calls Try.prog 36 #[] w fun e w' => e = .returned (.bool true) ∧ Below w.heap.size w w' := by
  go_enter Try.func36, Try.ntmps36
  go_wp2_with (go_at_call 18; refine (num_calls _ _).mono ?_; rintro e w' ⟨rfl, rfl⟩)
  refine (new_to (ws := List.replicate 8 0) (ts := List.replicate 2 []) (Bd.below w) (by omega) (by omega) rfl rfl).mono ?_
  rintro e w1 ⟨a, rfl, hA, hK⟩
  go_wp2_with (go_at_call 18; refine (num_calls _ _).mono ?_; rintro e w' ⟨rfl, rfl⟩)
  have hP1 : ArP (fun b => b < w.heap.size) w1 a (List.replicate 8 0) 2 0 (fun _ => True) := ArP.new 2 trivial hA
  refine (fds_new_ok hP1 0 (by omega) (by simp) (fun i _ _ => rd_rep _ _)).mono ?_
  rintro e w2 ⟨x, rfl, hx, nx, _, hP2, hK2⟩
  go_wp2_with (go_at_call 18; refine (num_calls _ _).mono ?_; rintro e w' ⟨rfl, rfl⟩)
  refine (open_ok hx hP2 (by omega) 1 9 (by omega) (by omega) (by omega) (by simp) (Cl.true_ _ _ _) 0 (by omega) (rd_rep _ _) (fun i hi => absurd hi (by omega))).mono ?_
  rintro e w3 ⟨rfl, hP3, hK3⟩
  have hx3 := hx.keep hK3
  go_wp2_with (go_at_call 18; refine (num_calls _ _).mono ?_; rintro e w' ⟨rfl, rfl⟩)
  refine (get_in hx3 hP3 (by omega) 1 0 (by omega) (by omega) (by omega) (by simp) (Cl.true_ _ _ _)).mono ?_
  rintro e w4 ⟨rfl, hP4, hK4⟩
  have hx4 := hx3.keep hK4
  have e1 : rd (wr (List.replicate 8 0) (0 + 1 * 4 + ((0 : Nat) : Int)) 9) (0 + 1 * 4 + 0) = 9 := by decide
  rw [e1]
  go_wp2_with (go_at_call 18; refine (num_calls _ _).mono ?_; rintro e w' ⟨rfl, rfl⟩)
  refine (get_in hx4 hP4 (by omega) 0 0 (by omega) (by omega) (by omega) (by simp) (Cl.true_ _ _ _)).mono ?_
  rintro e w5 ⟨rfl, hP5, hK5⟩
  have hx5 := hx4.keep hK5
  have e2 : rd (wr (List.replicate 8 0) (0 + 1 * 4 + ((0 : Nat) : Int)) 9) (0 + 0 * 4 + 0) = 0 := by decide
  rw [e2]
  go_wp2_with (go_at_call 18; refine (num_calls _ _).mono ?_; rintro e w' ⟨rfl, rfl⟩)
  refine (close_ok hx5 hP5 (by omega) 1 0 (by omega) (by omega) (by omega) (by simp) (Cl.true_ _ _ _) (by rw [e1]; omega)).mono ?_
  rintro e w6 ⟨rfl, hP6, hK6⟩
  have hx6 := hx5.keep hK6
  go_wp2_with (go_at_call 18; refine (num_calls _ _).mono ?_; rintro e w' ⟨rfl, rfl⟩)
  refine (close_none hx6 hP6 (by omega) 1 0 (by omega) (by omega) (by omega) (by simp) (Cl.true_ _ _ _) (by decide)).mono ?_
  rintro e w7 ⟨rfl, hP7, hK7⟩
  have hx7 := hx6.keep hK7
  go_wp2_with (go_at_call 18; refine (num_calls _ _).mono ?_; rintro e w' ⟨rfl, rfl⟩)
  refine (open_err hx7 hP7 2 1 (by omega)).mono ?_
  rintro e w' ⟨rfl, rfl⟩
  go_wp2_with (go_at_call 18; refine (num_calls _ _).mono ?_; rintro e w' ⟨rfl, rfl⟩)
  go_ret
  exact ⟨rfl, (hK.trans (hK2.trans ((((hK3.trans hK4).trans hK5).trans hK6).trans hK7).out)).below fun _ h => h⟩

/-- k numbers were opened by core 1. -/
structure AllAt (L : Nat → Prop) (w1 wr : World) (x a : Nat) (v : Int) (k : Nat) : Prop where
  keeps : Below w1.heap.size w1 wr
  fds : FdsAt L wr x a 0
  rest : ∃ ws, ws.length = 8 ∧ (∀ i : Nat, i < k → rd ws (4 + i) = v + i) ∧ (∀ i : Int, 0 ≤ i → i < 4 ∨ 4 + (k : Int) ≤ i → rd ws i = 0) ∧ ArP L wr a ws 2 (5 * k) (fun _ => True)

set_option maxRecDepth 100000 in
theorem fall_walk (w : World) (num : Int) (_ : (Lit.int .i64 num).wf = true) (gone : Int) (_ : (Lit.int .i64 gone).wf = true) :
    Calls Try.prog 12 #[.int .i64 num, .int .i64 gone] w fun e w' => e = .returned (.bool true) ∧ Below w.heap.size w w' := by
  have hv0 : 0 ≤ num % 256 ∧ num % 256 < 256 := by omega
  generalize hvv : num % 256 = v0 at *
  have hg0 : 0 ≤ gone % 4 ∧ gone % 4 < 4 := by omega
  generalize hgg : gone % 4 = g0 at *
  go_enter Try.func12, Try.ntmps12
  go_wp2_with (go_at_call 18; refine (num_calls _ _).mono ?_; rintro e w' ⟨rfl, rfl⟩)
  refine (awake12 w).mono ?_
  rintro e w1 ⟨rfl, hB⟩
  go_wp2_with (go_at_call 18; refine (num_calls _ _).mono ?_; rintro e w' ⟨rfl, rfl⟩)
  refine (new_to (ws := List.replicate 8 0) (ts := List.replicate 2 []) (Bd.below w1) (by omega) (by omega) rfl rfl).mono ?_
  rintro e w2 ⟨a, rfl, hA, hK⟩
  go_wp2_with (go_at_call 18; refine (num_calls _ _).mono ?_; rintro e w' ⟨rfl, rfl⟩)
  have hP1 : ArP (fun b => b < w1.heap.size) w2 a (List.replicate 8 0) 2 0 (fun _ => True) := ArP.new 2 trivial hA
  refine (fds_new_ok hP1 0 (by omega) (by simp) (fun i _ _ => rd_rep _ _)).mono ?_
  rintro e w3 ⟨x, rfl, hx, nx, _, hP2, hK2⟩
  go_wp2_with (go_at_call 18; refine (num_calls _ _).mono ?_; rintro e w' ⟨rfl, rfl⟩)
  have HB := Lib.hid hB
  have HS : AllAt (ins (fun b => b < w1.heap.size) x) w1 w3 x a (1 + v0) 0 := ⟨(hK.trans hK2).below fun _ h => h, hx, _, rfl, fun i hi => absurd hi (by omega), fun i _ _ => rd_rep _ _, hP2⟩
  have LL := Lib.hid (show ∀ b, b < w1.heap.size → ins (fun b => b < w1.heap.size) x b from fun b h => ins.old h)
  clear hB hA hK hP1 hx nx hP2 hK2
  generalize ins (fun b => b < w1.heap.size) x = L at *

  go_loopw [10] (fun i wr => ∃ k : Nat, i = .int .i64 k ∧ k ≤ 4 ∧ AllAt L w1 wr x a (1 + v0) k) (fun i _ => 4 - (intOf i).toNat)
  case atStart => exact ⟨0, rfl, by omega, HS⟩
  case round =>
    clear HS
    obtain ⟨k, rfl, hk, hbel, hx, ws, hwl, hwk, hwz, hP⟩ := hrel
    have HWK := Lib.hid hwk
    have HWZ := Lib.hid hwz
    clear hwk hwz
    by_cases hlt : k < 4
    · have hlt' : (k : Int) < 4 := by omega
      go_wp2_with (go_at_call 18; refine (num_calls _ _).mono ?_; rintro e w' ⟨rfl, rfl⟩)
      refine (open_ok hx hP (by omega) 1 (1 + v0 + k) (by omega) (by omega) (by omega) (by omega) (Cl.true_ _ _ _) k hlt (HWZ.out _ (by omega) (by omega)) (fun i hi => by
        have := HWK.out i hi
        have e : (0 + 1 * 4 + (i : Int)) = 4 + i := by omega
        rw [e]; omega)).mono ?_
      rintro e w4 ⟨rfl, hP4, hK4⟩
      have hx4 := hx.keep hK4
      go_wp2_with (go_at_call 18; refine (num_calls _ _).mono ?_; rintro e w' ⟨rfl, rfl⟩)
      go_roundw
      case rel =>
        refine ⟨k + 1, by go_num, by omega, hbel.trans (hK4.below LL.out), hx4, _, by simpa using hwl, fun i hi => ?_, fun i h0 h1 => ?_, hP4⟩
        · rw [rd_wr ⟨by omega, by omega⟩ (by omega)]
          split
          · omega
          · exact HWK.out i (by omega)
        · rw [rd_wr ⟨by omega, by omega⟩ h0, if_neg (by omega)]
          exact HWZ.out i h0 (by omega)
      case measure => simp [intOf]; omega
    · have hk4 : k = 4 := by omega
      have hk4' : (k : Int) = 4 := by omega
      have hnz : ∀ i : Nat, i < 4 → rd ws (0 + 1 * 4 + (i : Int)) ≠ 0 := fun i hi => by
        have := HWK.out i (by omega)
        have e : (0 + 1 * 4 + (i : Int)) = 4 + i := by omega
        rw [e]; omega
      have HNZ := Lib.hid hnz
      clear hnz
      go_wp2_with (go_at_call 18; refine (num_calls _ _).mono ?_; rintro e w' ⟨rfl, rfl⟩)
      refine (open_full hx hP (by omega) 1 (1 + v0) (by omega) (by omega) (by omega) (by omega) (Cl.true_ _ _ _) HNZ.out).mono ?_
      rintro e w4 ⟨rfl, hP4, hK4⟩
      have hx4 := hx.keep hK4
      go_wp2_with (go_at_call 18; refine (num_calls _ _).mono ?_; rintro e w' ⟨rfl, rfl⟩)
      refine (open_ok hx4 hP4 (by omega) 0 (1 + v0) (by omega) (by omega) (by omega) (by omega) (Cl.true_ _ _ _) 0 (by omega) (HWZ.out _ (by omega) (by omega)) (fun i hi => absurd hi (by omega))).mono ?_
      rintro e w5 ⟨rfl, hP5, hK5⟩
      have hx5 := hx4.keep hK5
      have hnz5 : ∀ i : Nat, i < 4 → rd (Ytpmgfjglkbbhgaa.wr ws (0 + 0 * 4 + ((0 : Nat) : Int)) (1 + v0)) (0 + 1 * 4 + (i : Int)) ≠ 0 := fun i hi => by
        rw [rd_wr ⟨by omega, by omega⟩ (by omega), if_neg (by omega)]
        exact HNZ.out i hi
      have HNZ5 := Lib.hid hnz5
      have hwl5 : (Ytpmgfjglkbbhgaa.wr ws (0 + 0 * 4 + ((0 : Nat) : Int)) (1 + v0)).length = 8 := by simpa using hwl
      clear hnz5
      generalize Ytpmgfjglkbbhgaa.wr ws (0 + 0 * 4 + ((0 : Nat) : Int)) (1 + v0) = ws5 at *
      obtain ⟨g1, rfl⟩ : ∃ g1 : Nat, g0 = g1 := ⟨g0.toNat, by omega⟩
      have hg4 : g1 < 4 := by omega
      have HNG := Lib.hid (HNZ5.out g1 hg4)
      go_wp2_with (go_at_call 18; refine (num_calls _ _).mono ?_; rintro e w' ⟨rfl, rfl⟩)
      refine (close_ok hx5 hP5 (by omega) 1 g1 (by omega) (by omega) (by omega) (by omega) (Cl.true_ _ _ _) HNG.out).mono ?_
      rintro e w6 ⟨rfl, hP6, hK6⟩
      have hx6 := hx5.keep hK6
      go_wp2_with (go_at_call 18; refine (num_calls _ _).mono ?_; rintro e w' ⟨rfl, rfl⟩)
      refine (open_ok hx6 hP6 (by omega) 1 (1 + v0) (by omega) (by omega) (by omega) (by simp; omega) (Cl.true_ _ _ _) g1 (by omega) (by rw [rd_wr ⟨by omega, by omega⟩ (by omega), if_pos (by omega)]) (fun i hi => by
        rw [rd_wr ⟨by omega, by omega⟩ (by omega), if_neg (by omega)]
        exact HNZ5.out i (by omega))).mono ?_
      rintro e w7 ⟨rfl, hP7, hK7⟩
      have hx7 := hx6.keep hK7
      have hlen : (descs (Ytpmgfjglkbbhgaa.wr (Ytpmgfjglkbbhgaa.wr ws5 (0 + 1 * 4 + (g1 : Int)) 0) (0 + 1 * 4 + (g1 : Int)) (1 + v0)) (0 + 1 * 4) 1 4).length = 4 := descs_all _ _ _ _ fun i hi => by
        rw [rd_wr ⟨by omega, by simp; omega⟩ (by omega)]
        split
        · omega
        · rw [rd_wr ⟨by omega, by omega⟩ (by omega), if_neg (by omega)]
          exact HNZ5.out i (by omega)
      have HLEN := Lib.hid hlen
      clear hlen
      go_wp2_with (go_at_call 18; refine (num_calls _ _).mono ?_; rintro e w' ⟨rfl, rfl⟩)
      refine (list_len hx7 hP7 (by omega) 1 (by omega) (by omega) (by simp; omega) (Cl.true_ _ _ _) 4 (by omega) HLEN.out).mono ?_
      rintro e w8 ⟨g, cap, rfl, hP8, hK8⟩
      go_wp2_with (go_at_call 18; refine (num_calls _ _).mono ?_; rintro e w' ⟨rfl, rfl⟩)
      go_ret
      exact ⟨rfl, bel_then HB.out (hbel.trans ((((((hK4.trans hK5).trans hK6).trans hK7).trans hK8)).below LL.out))⟩
end Go.Proofs.Ytpmgfjglkbbhgaa
