
/- inum: New, Next, Core, Num; awake. -/
import Derived.Test.YtpmgfjglkbbhgaaArP
namespace Go.Proofs.Ytpmgfjglkbbhgaa
open Go.RowKit
set_option maxHeartbeats 400000

def coreOf (num : Int) : Int := if num < 2 then -1 else (num - 2) % 8
theorem core_of_calls (num : Int) (hr : -9223372036854775808 ≤ num ∧ num ≤ 9223372036854775807) (w : World) :
    Calls Try.prog 28 #[.int .i64 num] w fun e w' => e = .returned (.int .i64 (coreOf num)) ∧ w = w' := by
  unfold coreOf
  by_cases h : num < 2
  · rw [if_pos h]
    go_enter Try.func28, Try.ntmps28
    go_wp2
    go_ret
    exact ⟨rfl, rfl⟩
  · rw [if_neg h]
    have h' : 2 ≤ num := by omega
    go_enter Try.func28, Try.ntmps28
    go_wp2
    go_ret
    exact ⟨rfl, rfl⟩
theorem num_of_calls (c k : Int) (h0 : 0 ≤ c ∧ c < 8) (h1 : 0 ≤ k ∧ k < 1000) (w : World) :
    Calls Try.prog 50 #[.int .i64 c, .int .i64 k] w fun e w' => e = .returned (.int .i64 (2 + c + 8 * k)) ∧ w = w' := by
  go_enter Try.func50, Try.ntmps50
  go_wp2
  go_ret
  exact ⟨rfl, rfl⟩

section
variable {L : Nat → Prop} {w : World} {a x : Nat} {ws : List Int} {n m : Nat} {P : List (List Acc) → Prop}

/-- A counter for each core from a word on. -/
def NumsAt (L : Nat → Prop) (w : World) (x a : Nat) (f : Int) : Prop := L x ∧ Blk w x 92 #[.pointer (some ⟨a, 0, none⟩), .int .i64 f]
theorem NumsAt.keep {w' : World} {f : Int} (h : NumsAt L w x a f) (hk : Keeps L w w') : NumsAt L w' x a f := ⟨h.1, hk.blk h.2 h.1⟩

theorem next_err {f : Int} (hx : NumsAt L w x a f) (h : ArP L w a ws n m P) (c : Int) (hc : c < 0 ∨ (n : Int) ≤ c) :
    Calls Try.prog 27 #[.pointer (some ⟨x, 0, none⟩), .int .i64 c] w fun e w' => e = .returned (.tuple #[.int .i64 0, .int .i64 1000]) ∧ w = w' := by
  have q0 := hx.2.cell 0
  have hco := Lib.hid (cores_p h)
  clear hx
  rcases hc with hc | hc
  · go_enter Try.func27, Try.ntmps27
    go_wp2_with (go_at_call 31; refine hco.out.mono ?_; rintro e w' ⟨rfl, rfl⟩)
    go_ret2
    exact ⟨rfl, rfl⟩
  · have hc0 : 0 ≤ c := by omega
    go_enter Try.func27, Try.ntmps27
    go_wp2_with (go_at_call 31; refine hco.out.mono ?_; rintro e w' ⟨rfl, rfl⟩)
    go_ret2
    exact ⟨rfl, rfl⟩

theorem next_full {f : Int} (hx : NumsAt L w x a f) (h : ArP L w a ws n m P) (hm : m ≤ 1099511627776) (c : Int) (h0 : 0 ≤ c) (h1 : c < n) (hf : 0 ≤ f) (hl : f + n ≤ ws.length)
    (hv : 32 ≤ rd ws (f + c)) (hr : rd ws (f + c) ≤ 9223372036854775807) (hc : Cl n P c fun y => y.1 = f + c) :
    Calls Try.prog 27 #[.pointer (some ⟨x, 0, none⟩), .int .i64 c] w fun e w' => e = .returned (.tuple #[.int .i64 0, .int .i64 1001]) ∧ ArP L w' a ws n (m + 1) P ∧ Keeps L w w' := by
  have q0 := hx.2.cell 0
  have q1 := hx.2.cell 1
  have hco := Lib.hid (cores_p h)
  have hwl := h.wsl
  have hnl := h.tsl
  have hld := Lib.hid (load_p (r := rd ws (f + c)) h.drew hm ⟨h0, h1⟩ ⟨by omega, by omega⟩ rfl hc rfl)
  have hcl := hx.1
  have hwr : IntKind.i64.wrap (f + c) = f + c := IntWalk.i64_in _ (by omega)
  generalize rd ws (f + c) = v at *
  go_enter Try.func27, Try.ntmps27
  go_wp2_with (go_at_call 31; refine hco.out.mono ?_; rintro e w' ⟨rfl, rfl⟩)
  go_region_held3 (fun w' => w'.cell? ⟨x, 0, none⟩ = some (.pointer (some ⟨a, 0, none⟩)) ∧ w'.cell? ⟨x, 1, none⟩ = some (.int .i64 f)) (first | exact ⟨q0, q1⟩ | exact ⟨hK.cellOf hcl q0, hK.cellOf hcl q1⟩)
    ((go_at_call 17; refine hld.out.mono ?_; rintro e w4 ⟨rfl, hA, hK⟩))
  go_wp2
  go_ret2
  exact ⟨rfl, hA, hK.undrew⟩

theorem next_ok {f : Int} (hx : NumsAt L w x a f) (h : ArP L w a ws n m P) (hm : m ≤ 1099511627775) (c : Int) (h0 : 0 ≤ c) (h1 : c < n) (hf : 0 ≤ f) (hl : f + n ≤ ws.length)
    (hv : 0 ≤ rd ws (f + c)) (hr : rd ws (f + c) < 32) (hc : Cl n P c fun y => y.1 = f + c) :
    Calls Try.prog 27 #[.pointer (some ⟨x, 0, none⟩), .int .i64 c] w fun e w' => e = .returned (.tuple #[.int .i64 (2 + c + 8 * rd ws (f + c)), .int .i64 0]) ∧
      ArP L w' a (wr ws (f + c) (rd ws (f + c) + 1)) n (m + 2) P ∧ Keeps L w w' := by
  have q0 := hx.2.cell 0
  have q1 := hx.2.cell 1
  have hco := Lib.hid (cores_p h)
  have hwl := h.wsl
  have hnl := h.tsl
  have hld := Lib.hid (load_p (r := rd ws (f + c)) h.drew (by omega) ⟨h0, h1⟩ ⟨by omega, by omega⟩ rfl hc rfl)
  have hcl := hx.1
  have hwr : IntKind.i64.wrap (f + c) = f + c := IntWalk.i64_in _ (by omega)
  generalize hrv : rd ws (f + c) = v at *
  have HRV := Lib.hid hrv
  clear hrv
  go_enter Try.func27, Try.ntmps27
  go_wp2_with (go_at_call 31; refine hco.out.mono ?_; rintro e w' ⟨rfl, rfl⟩)
  go_region_held3 (fun w' => w'.cell? ⟨x, 0, none⟩ = some (.pointer (some ⟨a, 0, none⟩)) ∧ w'.cell? ⟨x, 1, none⟩ = some (.int .i64 f)) (first | exact ⟨q0, q1⟩ | exact ⟨hK.cellOf hcl q0, hK.cellOf hcl q1⟩)
    ((go_at_call 17; refine hld.out.mono ?_; rintro e w4 ⟨rfl, hA, hK⟩))
  have q2 := hK.cellOf hcl q0
  have q3 := hK.cellOf hcl q1
  clear q0 q1
  have hwv : IntKind.i64.wrap (v + 1) = v + 1 := IntWalk.i64_in _ (by omega)
  go_wp2
  go_region_held3 (fun w' => w'.cell? ⟨x, 0, none⟩ = some (.pointer (some ⟨a, 0, none⟩)) ∧ w'.cell? ⟨x, 1, none⟩ = some (.int .i64 f)) (first | exact ⟨q2, q3⟩ | exact ⟨hK5.cellOf hcl q2, hK5.cellOf hcl q3⟩)
    ((go_at_call 20; refine (store_p hA.drew (by omega) ⟨h0, h1⟩ ⟨by omega, by omega⟩ rfl hc (by rfl)).mono ?_; rintro e w5 ⟨rfl, hA5, hK5⟩))
  go_wp2_with (go_at_call 50; refine (num_of_calls c v ⟨h0, by omega⟩ ⟨by omega, by omega⟩ _).mono ?_; rintro e w' ⟨rfl, rfl⟩)
  go_ret2
  exact ⟨rfl, hA5, hK.undrew.trans hK5.undrew⟩

/-- The words of a range are 0. -/
def Zeros (ws : List Int) (f k : Int) : Prop := ∀ i, f ≤ i → i < f + k → rd ws i = 0

theorem inum_new_ok (h : ArP L w a ws n m P) (f : Int) (hf : 0 ≤ f) (hl : f + n ≤ ws.length) (hz : Zeros ws f n) :
    Calls Try.prog 26 #[.pointer (some ⟨a, 0, none⟩), .int .i64 f] w fun e w' => ∃ x, e = .returned (.tuple #[.pointer (some ⟨x, 0, none⟩), .int .i64 0]) ∧
      NumsAt (ins L x) w' x a f ∧ ¬ L x ∧ w.heap.size ≤ x ∧ ArP (ins L x) w' a ws n m P ∧ Keeps L w w' := by
  have hwl := h.wsl
  have hnl := h.tsl
  have hco := fun W (h : ArP L W a ws n m P) => cores_p h
  have HCO := Lib.hid hco
  clear hco
  have hfi := Lib.hid (fits_yes_p h f n hf (by omega) (by omega))
  have HZ := Lib.hid hz
  have HA := Lib.hid h
  clear h hz
  have hf' : ¬ f < 0 := by omega
  go_enter Try.func26, Try.ntmps26
  go_wp2_with (first
    | (go_at_call 31; refine (HCO.out _ HA.out).mono ?_; rintro e w' ⟨rfl, rfl⟩)
    | (go_at_call 48; refine hfi.out.mono ?_; rintro e w' ⟨rfl, rfl⟩))
  go_loopw [23] (fun i wr => ∃ k : Nat, i = .int .i64 k ∧ k ≤ n ∧ ArP L wr a ws n m P ∧ Keeps L w wr) (fun i _ => n - (intOf i).toNat)
  case atStart => exact ⟨0, rfl, Nat.zero_le _, HA.out, Keeps.refl _ _⟩
  case round =>
    obtain ⟨k, rfl, hk, hA, hK⟩ := hrel
    by_cases hlt : k < n
    · go_wp2_with (go_at_call 49; refine (poke_p (ws' := ws) hA ⟨by omega, by omega⟩ (wr_rd (HZ.out _ (by omega) (by omega)) ⟨by omega, by omega⟩)).mono ?_; rintro e w4 ⟨rfl, hA4, hK4⟩)
      go_roundw
      case rel => exact ⟨k + 1, by go_num, by omega, hA4, hK.trans hK4⟩
      case measure => simp [intOf]; omega
    · go_wp2
      go_ret2
      exact ⟨_, rfl, ⟨ins.new _ _, Blk.new _ _ _⟩, hA.bd.new, hK.size, hA.allocIns _, hK.alloc hA.bd _⟩

theorem inum_new_no (h : ArP L w a ws n m P) (f : Int) (hx : -9223372036854775808 ≤ f ∧ f ≤ 9223372036854775807) (hc : f < 0 ∨ (ws.length : Int) < f ∨ (ws.length : Int) - f < n) :
    Calls Try.prog 26 #[.pointer (some ⟨a, 0, none⟩), .int .i64 f] w fun e w' => e = .returned (.tuple #[.pointer none, .int .i64 1000]) ∧ w = w' := by
  have hco := Lib.hid (cores_p h)
  have hfi := Lib.hid (fits_no_p h f n hx (by omega))
  clear h
  rcases Classical.em (f < 0) with hc0 | hc0
  · go_enter Try.func26, Try.ntmps26
    go_wp2
    go_ret2
    exact ⟨rfl, rfl⟩
  · have hc1 : 0 ≤ f := by omega
    go_enter Try.func26, Try.ntmps26
    go_wp2_with (first
      | (go_at_call 31; refine hco.out.mono ?_; rintro e w' ⟨rfl, rfl⟩)
      | (go_at_call 48; refine hfi.out.mono ?_; rintro e w' ⟨rfl, rfl⟩))
    go_ret2
    exact ⟨rfl, rfl⟩
theorem inum_new_nil (f : Int) (w : World) :
    Calls Try.prog 26 #[.pointer none, .int .i64 f] w fun e w' => e = .returned (.tuple #[.pointer none, .int .i64 1]) ∧ w = w' := by
  go_enter Try.func26, Try.ntmps26
  go_wp2
  go_ret2
  exact ⟨rfl, rfl⟩
end

set_option maxRecDepth 100000 in
theorem awake10 (w : World) : Calls Try.prog 25 #[] w fun e w' => e = .returned (.bool true) ∧ Below w.heap.size w w' := by
  go_enter Try.func25, Try.ntmps25
  go_wp2_with (go_at_call 18; refine (num_calls _ _).mono ?_; rintro e w' ⟨rfl, rfl⟩)
  refine (new_to (ws := List.replicate 8 0) (ts := List.replicate 2 []) (Bd.below w) (by omega) (by omega) rfl rfl).mono ?_
  rintro e w1 ⟨a, rfl, hA, hK⟩
  go_wp2_with (go_at_call 18; refine (num_calls _ _).mono ?_; rintro e w' ⟨rfl, rfl⟩)
  have hP1 : ArP (fun b => b < w.heap.size) w1 a (List.replicate 8 0) 2 0 (fun _ => True) := ArP.new 2 trivial hA
  refine (inum_new_ok hP1 0 (by omega) (by simp) (fun i _ _ => rd_rep _ _)).mono ?_
  rintro e w2 ⟨x, rfl, hx, nx, _, hP2, hK2⟩
  go_wp2_with (go_at_call 18; refine (num_calls _ _).mono ?_; rintro e w' ⟨rfl, rfl⟩)
  refine (next_ok hx hP2 (by omega) 1 (by omega) (by omega) (by omega) (by simp) (by decide) (by decide) (Cl.true_ _ _ _)).mono ?_
  rintro e w3 ⟨rfl, hP3, hK3⟩
  have hx3 := hx.keep hK3
  have e1 : rd (List.replicate 8 0) (0 + 1) = 0 := rd_rep _ _
  rw [e1] at hP3 ⊢
  go_wp2_with (go_at_call 18; refine (num_calls _ _).mono ?_; rintro e w' ⟨rfl, rfl⟩)
  refine (next_ok hx3 hP3 (by omega) 1 (by omega) (by omega) (by omega) (by simp) (by decide) (by decide) (Cl.true_ _ _ _)).mono ?_
  rintro e w4 ⟨rfl, hP4, hK4⟩
  have hx4 := hx3.keep hK4
  have e2 : rd (wr (List.replicate 8 0) (0 + 1) (0 + 1)) (0 + 1) = 1 := by decide
  rw [e2] at hP4 ⊢
  go_wp2_with (go_at_call 18; refine (num_calls _ _).mono ?_; rintro e w' ⟨rfl, rfl⟩)
  refine (next_err hx4 hP4 2 (by omega)).mono ?_
  rintro e w' ⟨rfl, rfl⟩
  go_wp2_with (go_at_call 18; refine (num_calls _ _).mono ?_; rintro e w' ⟨rfl, rfl⟩)
  refine (inum_new_no hP4 7 (by omega) (by simp)).mono ?_
  rintro e w' ⟨rfl, rfl⟩
  go_wp2_with (go_at_call 18; refine (num_calls _ _).mono ?_; rintro e w' ⟨rfl, rfl⟩)
  refine (core_of_calls 11 (by omega) _).mono ?_
  rintro e w' ⟨rfl, rfl⟩
  have e3 : coreOf 11 = 1 := by decide
  rw [e3]
  go_wp2_with (go_at_call 18; refine (num_calls _ _).mono ?_; rintro e w' ⟨rfl, rfl⟩)
  refine (core_of_calls 1 (by omega) _).mono ?_
  rintro e w' ⟨rfl, rfl⟩
  have e4 : coreOf 1 = -1 := by decide
  rw [e4]
  go_wp2_with (go_at_call 18; refine (num_calls _ _).mono ?_; rintro e w' ⟨rfl, rfl⟩)
  go_ret
  exact ⟨rfl, (hK.trans (hK2.trans (hK3.trans hK4).out)).below fun _ h => h⟩
end Go.Proofs.Ytpmgfjglkbbhgaa
