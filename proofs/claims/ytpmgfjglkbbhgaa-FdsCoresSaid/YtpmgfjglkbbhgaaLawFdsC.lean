
/- law12: FdsCores. -/
import Derived.Test.YtpmgfjglkbbhgaaLawFds
import Derived.Test.YtpmgfjglkbbhgaaInts
namespace Go.Proofs.Ytpmgfjglkbbhgaa
open Go.RowKit
set_option maxHeartbeats 400000

/-- The words of core 0 are as they were. -/
def Same4 (ws ws' : List Int) : Prop := ws'.length = ws.length ∧ ∀ i : Int, 0 ≤ i → i < 4 → rd ws' i = rd ws i
theorem Same4.refl (ws : List Int) : Same4 ws ws := ⟨rfl, fun _ _ _ => rfl⟩
theorem Same4.wr_ {ws : List Int} (h8 : ws.length = 8) {i v : Int} (h : 4 ≤ i ∧ i < 8) : Same4 ws (wr ws i v) :=
  ⟨by simp, fun j h0 h1 => by rw [rd_wr ⟨by omega, by omega⟩ h0, if_neg (by omega)]⟩

section
variable {L : Nat → Prop} {w : World} {a x : Nat} {ws : List Int} {m : Nat}
theorem free4 (ws : List Int) (b : Int) : (∃ j : Nat, j < 4 ∧ rd ws (b + j) = 0 ∧ ∀ i : Nat, i < j → rd ws (b + i) ≠ 0) ∨ ∀ i : Nat, i < 4 → rd ws (b + i) ≠ 0 := by
  by_cases h0 : rd ws (b + (0 : Nat)) = 0
  · exact .inl ⟨0, by omega, h0, fun i hi => absurd hi (by omega)⟩
  by_cases h1 : rd ws (b + (1 : Nat)) = 0
  · refine .inl ⟨1, by omega, h1, fun i hi => ?_⟩
    obtain rfl : i = 0 := by omega
    exact h0
  by_cases h2 : rd ws (b + (2 : Nat)) = 0
  · refine .inl ⟨2, by omega, h2, fun i hi => ?_⟩
    obtain rfl | rfl : i = 0 ∨ i = 1 := by omega
    · exact h0
    · exact h1
  by_cases h3 : rd ws (b + (3 : Nat)) = 0
  · refine .inl ⟨3, by omega, h3, fun i hi => ?_⟩
    obtain rfl | rfl | rfl : i = 0 ∨ i = 1 ∨ i = 2 := by omega
    · exact h0
    · exact h1
    · exact h2
  refine .inr fun i hi => ?_
  obtain rfl | rfl | rfl | rfl : i = 0 ∨ i = 1 ∨ i = 2 ∨ i = 3 := by omega
  · exact h0
  · exact h1
  · exact h2
  · exact h3

theorem open_any (hx : FdsAt L w x a 0) (h : ArP L w a ws 2 m (fun _ => True)) (hm : m ≤ 1099511627770) (h8 : ws.length = 8) (num : Int) :
    Calls Try.prog 38 #[.pointer (some ⟨x, 0, none⟩), .int .i64 1, .int .i64 num] w fun e w' => ∃ d k ws', e = .returned (.tuple #[.int .i64 d, .int .i64 k]) ∧ Same4 ws ws' ∧ ArP L w' a ws' 2 (m + 5) (fun _ => True) ∧ Keeps L w w' := by
  by_cases hn : 1 ≤ num
  · rcases free4 ws (0 + 1 * 4) with ⟨j, hj, hz, hnz⟩ | hnz
    · refine (open_ok hx h hm 1 num (by omega) hn (by omega) (by omega) (Cl.true_ _ _ _) j hj hz hnz).mono ?_
      rintro e w' ⟨rfl, hA, hK⟩
      exact ⟨_, _, _, rfl, Same4.wr_ h8 (by omega), hA, hK⟩
    · refine (open_full hx h hm 1 num (by omega) hn (by omega) (by omega) (Cl.true_ _ _ _) hnz).mono ?_
      rintro e w' ⟨rfl, hA, hK⟩
      exact ⟨_, _, _, rfl, Same4.refl _, hA, hK⟩
  · refine (open_err hx h 1 num (by omega)).mono ?_
    rintro e w' ⟨rfl, rfl⟩
    exact ⟨_, _, _, rfl, Same4.refl _, h.mono (by omega), Keeps.refl _ _⟩

theorem close_any (hx : FdsAt L w x a 0) (h : ArP L w a ws 2 m (fun _ => True)) (hm : m ≤ 1099511627770) (h8 : ws.length = 8) (d : Int) (hd : 0 ≤ d ∧ d < 4) :
    Calls Try.prog 39 #[.pointer (some ⟨x, 0, none⟩), .int .i64 1, .int .i64 d] w fun e w' => ∃ k ws', e = .returned (.int .i64 k) ∧ Same4 ws ws' ∧ ArP L w' a ws' 2 (m + 5) (fun _ => True) ∧ Keeps L w w' := by
  by_cases hz : rd ws (0 + 1 * 4 + d) = 0
  · refine (close_none hx h hm 1 d (by omega) hd (by omega) (by omega) (Cl.true_ _ _ _) hz).mono ?_
    rintro e w' ⟨rfl, hA, hK⟩
    exact ⟨_, _, rfl, Same4.refl _, hA.mono (by omega), hK⟩
  · refine (close_ok hx h hm 1 d (by omega) hd (by omega) (by omega) (Cl.true_ _ _ _) hz).mono ?_
    rintro e w' ⟨rfl, hA, hK⟩
    exact ⟨_, _, rfl, Same4.wr_ h8 (by omega), hA.mono (by omega), hK⟩
end

/-- k picks are done; core 0 has v at 0. -/
structure CoresAt (L : Nat → Prop) (w1 wr : World) (x a : Nat) (v : Int) (k : Nat) : Prop where
  keeps : Below w1.heap.size w1 wr
  fds : FdsAt L wr x a 0
  rest : ∃ ws, ws.length = 8 ∧ rd ws 0 = v ∧ (∀ i : Int, 1 ≤ i → i < 4 → rd ws i = 0) ∧ ArP L wr a ws 2 (5 + 10 * k) (fun _ => True)

set_option maxRecDepth 100000 in
theorem fcores_walk (w : World) {A : Option Addr} {len cap : Nat} {xs : List Int} (hx : Ints w A len cap xs) (num : Int) (_ : (Lit.int .i64 num).wf = true) :
    Calls Try.prog 13 #[.slice A len cap, .int .i64 num] w fun e w' => e = .returned (.bool true) ∧ Below w.heap.size w w' := by
  have hle := hx.len_le
  have HX := Lib.hid hx
  clear hx
  have hv0 : 0 ≤ num % 1024 ∧ num % 1024 < 1024 := by omega
  generalize hvv : num % 1024 = v0 at *
  go_enter Try.func13, Try.ntmps13
  go_wp2_with (go_at_call 18; refine (num_calls _ _).mono ?_; rintro e w' ⟨rfl, rfl⟩)
  refine (awake12 w).mono ?_
  rintro e w1 ⟨rfl, hB⟩
  go_wp2_with (go_at_call 18; refine (num_calls _ _).mono ?_; rintro e w' ⟨rfl, rfl⟩)
  refine (new_to (ws := List.replicate 8 0) (ts := List.replicate 2 []) (Bd.below w1) (by omega) (by omega) rfl rfl).mono ?_
  rintro e w2 ⟨a, rfl, hA, hK⟩
  go_wp2_with (go_at_call 18; refine (num_calls _ _).mono ?_; rintro e w' ⟨rfl, rfl⟩)
  have hP1 : ArP (fun b => b < w1.heap.size) w2 a (List.replicate 8 0) 2 0 (fun _ => True) := ArP.new 2 trivial hA
  refine (fds_new_ok hP1 0 (by omega) (by simp) (fun i _ _ => rd_rep _ _)).mono ?_
  rintro e w3 ⟨x, rfl, hx, nx, _, hP2, hK2⟩
  go_wp2_with (go_at_call 18; refine (num_calls _ _).mono ?_; rintro e w' ⟨rfl, rfl⟩)
  refine (open_ok hx hP2 (by omega) 0 (1 + v0) (by omega) (by omega) (by omega) (by simp) (Cl.true_ _ _ _) 0 (by omega) (rd_rep _ _) (fun i hi => absurd hi (by omega))).mono ?_
  rintro e w4 ⟨rfl, hP4, hK4⟩
  go_wp2_with (go_at_call 18; refine (num_calls _ _).mono ?_; rintro e w' ⟨rfl, rfl⟩)
  have HB := Lib.hid hB
  have HS : CoresAt (ins (fun b => b < w1.heap.size) x) w1 w4 x a (1 + v0) 0 := ⟨((hK.trans hK2).trans hK4.out).below fun _ h => h, hx.keep hK4, _, by simp, by rw [rd_wr ⟨by omega, by simp⟩ (by omega), if_pos (by omega)], fun i _ _ => by rw [rd_wr ⟨by omega, by simp⟩ (by omega), if_neg (by omega)]; exact rd_rep _ _, hP4.mono (by omega)⟩
  have LL := Lib.hid (show ∀ b, b < w1.heap.size → ins (fun b => b < w1.heap.size) x b from fun b h => ins.old h)
  clear hB hA hK hP1 hx nx hP2 hK2 hP4 hK4
  generalize ins (fun b => b < w1.heap.size) x = L at *

  go_loopw [12] (fun i wr => ∃ k : Nat, i = .int .i64 k ∧ k ≤ len ∧ k ≤ 60 ∧ CoresAt L w1 wr x a (1 + v0) k) (fun i _ => len - (intOf i).toNat)
  case atStart => exact ⟨0, rfl, by omega, by omega, HS⟩
  case round =>
    clear HS
    obtain ⟨k, rfl, hk, hk1, hbel, hx, ws, hwl, hw0, hwz, hP⟩ := hrel
    have HW0 := Lib.hid hw0
    have HWZ := Lib.hid hwz
    clear hw0 hwz
    by_cases hlt : k < len
    · by_cases hlt2 : k < 60
      · have hb : Below w.heap.size w wr := bel_then HB.out hbel
        obtain ⟨g, off, rfl, hcell, hv1, hv2⟩ := HX.out.at_ hlt hb
        clear hb
        generalize nth xs k = p at *
        have hlt3 : (k : Int) < 60 := by omega
        have fin : ∀ (w5 : World) (ws5 : List Int), Same4 ws ws5 → ArP L w5 a ws5 2 (5 + 10 * k + 5) (fun _ => True) → Keeps L wr w5 → CoresAt L w1 w5 x a (1 + v0) k → True := fun _ _ _ _ _ _ => trivial
        clear fin
        by_cases hp : p % 2 = 0
        · have hp1 : (p % 2 == 0) = true := by simpa using hp
          have hpw : IntKind.i64.wrap (1 + p) = 1 + p := IntWalk.i64_in _ (by omega)
          go_wp2_with (go_at_call 18; refine (num_calls _ _).mono ?_; rintro e w' ⟨rfl, rfl⟩)
          refine (open_any hx hP (by omega) hwl (1 + p)).mono ?_
          rintro e w5 ⟨d, j, ws5, rfl, hs5, hP5, hK5⟩
          have hx5 := hx.keep hK5
          have h50 : rd ws5 (0 + 0 * 4 + 0) = 1 + v0 := (hs5.2 _ (by omega) (by omega)).trans HW0.out
          have H5Z := Lib.hid (show ∀ i : Int, 1 ≤ i → i < 4 → rd ws5 i = 0 from fun i h1 h4 => (hs5.2 i (by omega) h4).trans (HWZ.out i h1 h4))
          have hl5 : ws5.length = 8 := hs5.1.trans hwl
          clear hs5
          go_wp2_with (go_at_call 18; refine (num_calls _ _).mono ?_; rintro e w' ⟨rfl, rfl⟩)
          refine (get_in hx5 hP5 (by omega) 0 0 (by omega) (by omega) (by omega) (by omega) (Cl.true_ _ _ _)).mono ?_
          rintro e w6 ⟨rfl, hP6, hK6⟩
          have hx6 := hx5.keep hK6
          have H50 := Lib.hid h50
          rw [h50, if_neg (by omega)]
          clear h50
          go_wp2_with (go_at_call 18; refine (num_calls _ _).mono ?_; rintro e w' ⟨rfl, rfl⟩)
          refine (list_len hx6 hP6 (by omega) 0 (by omega) (by omega) (by omega) (Cl.true_ _ _ _) 1 (by omega) (descs_one _ _ _ (by have := H50.out; have e : (0 : Int) + 0 * 4 + 0 = 0 + 0 * 4 := (by omega); rw [e] at this; omega) (fun i h1 h4 => H5Z.out _ (by omega) (by omega)))).mono ?_
          rintro e w7 ⟨g7, cap7, rfl, hP7, hK7⟩
          have hx7 := hx6.keep hK7
          go_wp2_with (go_at_call 18; refine (num_calls _ _).mono ?_; rintro e w' ⟨rfl, rfl⟩)
          go_roundw
          case rel => exact ⟨k + 1, by go_num, by omega, by omega, hbel.trans (((hK5.trans hK6).trans hK7).below LL.out), hx7, _, hl5, by simpa using H50.out, H5Z.out, hP7.mono (by omega)⟩
          case measure => simp [intOf]; omega
        · have hp1 : (p % 2 == 0) = false := by simpa using hp
          have hd0 : 0 ≤ p.tdiv 2 % 4 ∧ p.tdiv 2 % 4 < 4 := by omega
          go_wp2_with (go_at_call 18; refine (num_calls _ _).mono ?_; rintro e w' ⟨rfl, rfl⟩)
          refine (close_any hx hP (by omega) hwl (p.tdiv 2 % 4) hd0).mono ?_
          rintro e w5 ⟨j, ws5, rfl, hs5, hP5, hK5⟩
          have hx5 := hx.keep hK5
          have h50 : rd ws5 (0 + 0 * 4 + 0) = 1 + v0 := (hs5.2 _ (by omega) (by omega)).trans HW0.out
          have H5Z := Lib.hid (show ∀ i : Int, 1 ≤ i → i < 4 → rd ws5 i = 0 from fun i h1 h4 => (hs5.2 i (by omega) h4).trans (HWZ.out i h1 h4))
          have hl5 : ws5.length = 8 := hs5.1.trans hwl
          clear hs5
          go_wp2_with (go_at_call 18; refine (num_calls _ _).mono ?_; rintro e w' ⟨rfl, rfl⟩)
          refine (get_in hx5 hP5 (by omega) 0 0 (by omega) (by omega) (by omega) (by omega) (Cl.true_ _ _ _)).mono ?_
          rintro e w6 ⟨rfl, hP6, hK6⟩
          have hx6 := hx5.keep hK6
          have H50 := Lib.hid h50
          rw [h50, if_neg (by omega)]
          clear h50
          go_wp2_with (go_at_call 18; refine (num_calls _ _).mono ?_; rintro e w' ⟨rfl, rfl⟩)
          refine (list_len hx6 hP6 (by omega) 0 (by omega) (by omega) (by omega) (Cl.true_ _ _ _) 1 (by omega) (descs_one _ _ _ (by have := H50.out; have e : (0 : Int) + 0 * 4 + 0 = 0 + 0 * 4 := (by omega); rw [e] at this; omega) (fun i h1 h4 => H5Z.out _ (by omega) (by omega)))).mono ?_
          rintro e w7 ⟨g7, cap7, rfl, hP7, hK7⟩
          have hx7 := hx6.keep hK7
          go_wp2_with (go_at_call 18; refine (num_calls _ _).mono ?_; rintro e w' ⟨rfl, rfl⟩)
          go_roundw
          case rel => exact ⟨k + 1, by go_num, by omega, by omega, hbel.trans (((hK5.trans hK6).trans hK7).below LL.out), hx7, _, hl5, by simpa using H50.out, H5Z.out, hP7.mono (by omega)⟩
          case measure => simp [intOf]; omega
      · have hlt3 : ¬ (k : Int) < 60 := by omega
        go_wp2_with (go_at_call 18; refine (num_calls _ _).mono ?_; rintro e w' ⟨rfl, rfl⟩)
        go_ret
        exact ⟨rfl, bel_then HB.out hbel⟩
    · obtain rfl : k = len := by omega
      go_wp2_with (go_at_call 18; refine (num_calls _ _).mono ?_; rintro e w' ⟨rfl, rfl⟩)
      go_ret
      exact ⟨rfl, bel_then HB.out hbel⟩
end Go.Proofs.Ytpmgfjglkbbhgaa
