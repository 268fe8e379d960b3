
/- InumCores, InumFull: the walks. -/
import Derived.Test.YtpmgfjglkbbhgaaInum
import Derived.Test.YtpmgfjglkbbhgaaInts
namespace Go.Proofs.Ytpmgfjglkbbhgaa
open Go.RowKit
set_option maxHeartbeats 400000

set_option maxRecDepth 100000 in
theorem icores_walk (w : World) (num : Int) (hw : (Lit.int .i64 num).wf = true) :
    Calls Try.prog 8 #[.int .i64 num] w fun e w' => e = .returned (.bool true) ∧ Below w.heap.size w w' := by
  have hr := wf_range hw
  clear hw
  have hcl := Lib.hid (core_of_calls num hr)
  by_cases h : num < 2
  · have h' : ¬ 2 ≤ num := by omega
    have hc := Lib.hid (show coreOf num = -1 by unfold coreOf; rw [if_pos h])
    go_enter Try.func8, Try.ntmps8
    go_wp2_with (go_at_call 28; refine (hcl.out _).mono ?_; rintro e w' ⟨rfl, rfl⟩; rw [hc.out])
    refine (awake10 w).mono ?_
    rintro e w1 ⟨rfl, hB⟩
    go_wp2
    go_ret
    exact ⟨rfl, hB⟩
  · have h' : 2 ≤ num := by omega
    have hc := Lib.hid (show coreOf num = (num - 2) % 8 by unfold coreOf; rw [if_neg h])
    go_enter Try.func8, Try.ntmps8
    go_wp2_with (go_at_call 28; refine (hcl.out _).mono ?_; rintro e w' ⟨rfl, rfl⟩; rw [hc.out])
    refine (awake10 w).mono ?_
    rintro e w1 ⟨rfl, hB⟩
    go_wp2
    go_ret
    exact ⟨rfl, hB⟩

theorem coreOf_num (c k : Int) (h0 : 0 ≤ c ∧ c < 8) (h1 : 0 ≤ k) : coreOf (2 + c + 8 * k) = c := by
  unfold coreOf
  rw [if_neg (by omega)]
  omega

/-- k numbers were given to core c, none to others. -/
structure FullAt (L : Nat → Prop) (w1 wr : World) (x a : Nat) (c k : Int) : Prop where
  keeps : Below w1.heap.size w1 wr
  nums : NumsAt L wr x a 0
  rest : ∃ ws m, ws.length = 8 ∧ rd ws c = k ∧ (∀ i, 0 ≤ i → i ≠ c → rd ws i = 0) ∧ m ≤ 2 * k.toNat ∧ ArP L wr a ws 8 m (fun _ => True)

set_option maxRecDepth 100000 in
theorem ifull_walk (w : World) (core : Int) (_ : (Lit.int .i64 core).wf = true) (other : Int) (_ : (Lit.int .i64 other).wf = true) :
    Calls Try.prog 7 #[.int .i64 core, .int .i64 other] w fun e w' => e = .returned (.bool true) ∧ Below w.heap.size w w' := by
  have hc0 : 0 ≤ core % 8 ∧ core % 8 < 8 := by omega
  generalize hcc : core % 8 = c at *
  obtain ⟨o, ho, ho7⟩ := u64_tmod other 7 (by omega)
  have hd0 : 0 ≤ (c + 1 + (o : Int)) % 8 ∧ (c + 1 + (o : Int)) % 8 < 8 ∧ (c + 1 + (o : Int)) % 8 ≠ c := by omega
  go_enter Try.func7, Try.ntmps7
  go_wp2_with (go_at_call 18; refine (num_calls _ _).mono ?_; rintro e w' ⟨rfl, rfl⟩)
  refine (awake10 w).mono ?_
  rintro e w1 ⟨rfl, hB⟩
  go_wp2_with (go_at_call 18; refine (num_calls _ _).mono ?_; rintro e w' ⟨rfl, rfl⟩)
  refine (new_to (ws := List.replicate 8 0) (ts := List.replicate 8 []) (Bd.below w1) (by omega) (by omega) rfl rfl).mono ?_
  rintro e w2 ⟨a, rfl, hA, hK⟩
  go_wp2_with (go_at_call 18; refine (num_calls _ _).mono ?_; rintro e w' ⟨rfl, rfl⟩)
  have hP1 : ArP (fun b => b < w1.heap.size) w2 a (List.replicate 8 0) 8 0 (fun _ => True) := ArP.new 8 trivial hA
  refine (inum_new_ok hP1 0 (by omega) (by simp) (fun i _ _ => rd_rep _ _)).mono ?_
  rintro e w3 ⟨x, rfl, hx, nx, _, hP2, hK2⟩
  go_wp2_with (go_at_call 18; refine (num_calls _ _).mono ?_; rintro e w' ⟨rfl, rfl⟩)
  have HB := Lib.hid hB
  have HS : FullAt (ins (fun b => b < w1.heap.size) x) w1 w3 x a c 0 := ⟨(hK.trans hK2).below fun _ h => h, hx, _, _, rfl, rd_rep _ _, fun i _ _ => rd_rep _ _, by omega, hP2⟩
  have LL := Lib.hid (show ∀ b, b < w1.heap.size → ins (fun b => b < w1.heap.size) x b from fun b h => ins.old h)
  clear hB hA hK hP1 hx nx hP2 hK2
  generalize ins (fun b => b < w1.heap.size) x = L at *
  go_loopw [11, 12] (fun last i wr => ∃ (k : Nat) (l : Int), i = .int .i64 k ∧ k ≤ 32 ∧ last = .int .i64 l ∧ l < 2 + c + 8 * k ∧ FullAt L w1 wr x a c k) (fun _ i _ => 32 - (intOf i).toNat)
  case atStart => exact ⟨0, 0, rfl, by omega, rfl, by omega, HS⟩
  case round =>
    clear HS
    obtain ⟨k, l, rfl, hk, rfl, hl, hbel, hx, ws, m, hwl, hwc, hwo, hm, hP⟩ := hrel
    have HWO := Lib.hid hwo
    clear hwo
    by_cases hlt : k < 32
    · have hlt' : (k : Int) < 32 := by omega
      have hcz : 0 + c = c := by omega
      go_wp2_with (go_at_call 18; refine (num_calls _ _).mono ?_; rintro e w' ⟨rfl, rfl⟩)
      refine (next_ok hx hP (by omega) c (by omega) (by omega) (by omega) (by omega) (by rw [hcz, hwc]; omega) (by rw [hcz, hwc]; omega) (Cl.true_ _ _ _)).mono ?_
      rintro e w4 ⟨rfl, hP4, hK4⟩
      rw [hcz, hwc] at hP4
      rw [hcz, hwc]
      have hx4 := hx.keep hK4
      have hle : ¬ 2 + c + 8 * (k : Int) ≤ l := by omega
      go_wp2_with (first | (go_at_call 18; refine (num_calls _ _).mono ?_; rintro e w' ⟨rfl, rfl⟩) | (go_at_call 28; refine (core_of_calls _ (by omega) _).mono ?_; rintro e w' ⟨rfl, rfl⟩; rw [coreOf_num c k hc0 (by omega)]))
      go_roundw
      case rel =>
        refine ⟨k + 1, _, by go_num, by omega, rfl, by omega, hbel.trans (hK4.below LL.out), hx4, _, _, by simpa using hwl, ?_, fun i h0 h1 => ?_, ?_, hP4⟩
        · rw [rd_wr ⟨by omega, by omega⟩ (by omega), if_pos rfl]; omega
        · rw [rd_wr ⟨by omega, by omega⟩ h0, if_neg h1]; exact HWO.out i h0 h1
        · omega
      case measure => simp [intOf]; omega
    · have hk32 : (k : Int) = 32 := by omega
      have hcz : 0 + c = c := by omega
      generalize (c + 1 + (o : Int)) % 8 = d at *
      have hdz : 0 + d = d := by omega
      go_wp2_with (go_at_call 18; refine (num_calls _ _).mono ?_; rintro e w' ⟨rfl, rfl⟩)
      refine (next_full hx hP (by omega) c (by omega) (by omega) (by omega) (by omega) (by rw [hcz, hwc]; omega) (by rw [hcz, hwc]; omega) (Cl.true_ _ _ _)).mono ?_
      rintro e w4 ⟨rfl, hP4, hK4⟩
      have hx4 := hx.keep hK4
      have hd1 := HWO.out d hd0.1 hd0.2.2
      go_wp2_with (go_at_call 18; refine (num_calls _ _).mono ?_; rintro e w' ⟨rfl, rfl⟩)
      refine (next_ok hx4 hP4 (by omega) d (by omega) (by omega) (by omega) (by omega) (by rw [hdz, hd1]; omega) (by rw [hdz, hd1]; omega) (Cl.true_ _ _ _)).mono ?_
      rintro e w5 ⟨rfl, hP5, hK5⟩
      rw [hdz, hd1]
      have hz : 2 + d + 8 * (0 : Int) = 2 + d := by omega
      rw [hz]
      go_wp2_with (go_at_call 18; refine (num_calls _ _).mono ?_; rintro e w' ⟨rfl, rfl⟩)
      go_ret
      exact ⟨rfl, bel_then HB.out ((hbel.trans (hK4.below LL.out)).trans (hK5.below LL.out))⟩
end Go.Proofs.Ytpmgfjglkbbhgaa
