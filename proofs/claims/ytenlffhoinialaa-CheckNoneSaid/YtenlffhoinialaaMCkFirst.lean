/- check: first, Core, Made. -/
import Derived.Test.YtenlffhoinialaaMCk
namespace Go.Proofs.Ytenlffhoinialaa
open Go.RowKit
set_option maxHeartbeats 1000000

def firstIx (S : St) (num : Int) : Option Nat := (List.range S.inodes.length).find? fun i => S.num i == num
def inoPtr (iv : Value) (r : Option Nat) : Value := match r, iv with
  | some i, .slice (some a) _ _ => .pointer (some ⟨a.block, a.off + i * 4, none⟩)
  | _, _ => .pointer none
theorem find_range_some {p : Nat → Bool} : ∀ {n k : Nat}, k < n → (∀ j, j < k → p j = false) → p k = true → (List.range n).find? p = some k := by
  intro n k hk hlt hp
  rw [List.find?_range_eq_some]
  exact ⟨hp, by simpa using hk, fun j hj => by simp [hlt j hj]⟩
theorem find_range_none {p : Nat → Bool} {n : Nat} (h : ∀ j, j < n → p j = false) : (List.range n).find? p = none := by
  rw [List.find?_range_eq_none]
  intro j hj
  simp [h j hj]
theorem RowAt.at_ {w : World} {A : Option Addr} {m cap n k : Nat} {C : Nat → Nat → Value} (h : RowAt w (.slice A m cap) n k C) {i : Nat} (hi : i < n) : m = n ∧ n ≤ cap ∧ ∃ g off, A = some ⟨g, off, none⟩ ∧ ∀ j, j < k → w.cell? ⟨g, off + i * k + j, none⟩ = some (C i j) := by
  obtain ⟨A', cap', e, hc, h4⟩ := h
  injection e with e1 e2 e3
  subst e1 e2 e3
  obtain ⟨g, off, hA, hcell⟩ := h4 (by omega)
  exact ⟨rfl, hc, g, off, hA, fun j hj => by rw [Nat.add_assoc]; exact hcell i j hi hj⟩
theorem RowAt.form {w : World} {v : Value} {n k : Nat} {C : Nat → Nat → Value} (h : RowAt w v n k C) : ∃ A cap, v = .slice A n cap := by
  obtain ⟨A, cap, e, _⟩ := h
  exact ⟨A, cap, e⟩
set_option maxRecDepth 1000000 in
theorem first_calls {w : World} {c sb : Nat} {iv : Value} {ev : Nat → Value} {S : St} (c0 : w.cell? ⟨c, 0, none⟩ = some (.pointer (some ⟨sb, 0, none⟩))) (s0 : w.cell? ⟨sb, 0, none⟩ = some iv) (hI : RowAt w iv S.inodes.length 4 (inoC S ev)) (hn : S.inodes.length ≤ 1000) (num : Int) :
    Calls Try.prog 72 #[.pointer (some ⟨c, 0, none⟩), .int .i64 num] w fun e w' => e = .returned (inoPtr iv (firstIx S num)) ∧ w' = w := by
  obtain ⟨A, cap, rfl⟩ := hI.form
  obtain ⟨n, hnn⟩ : ∃ n, S.inodes.length = n := ⟨_, rfl⟩
  have HF := Lib.hid (show ∀ r, (List.range n).find? (fun i => S.num i == num) = r → firstIx S num = r from fun r h => by unfold firstIx; rw [hnn, h])
  rw [hnn] at hn hI s0 ⊢
  have HI := Lib.hid hI
  clear hI hnn
  go_enter Try.func72, Try.ntmps72
  go_wp2_with (fail)
  go_loop [14] (fun i => ∃ k : Nat, i = .int .i64 k ∧ k ≤ n ∧ ∀ j, j < k → (S.num j == num) = false) (fun i => n - (intOf i).toNat)
  case atStart => exact ⟨0, rfl, by omega, fun j hj => absurd hj (by omega)⟩
  case round =>
    obtain ⟨k, rfl, hk, hlt⟩ := hrel
    have HL := Lib.hid hlt
    clear hlt
    by_cases hp : k < n
    · obtain ⟨_, hcap, g, off, rfl, hcell⟩ := HI.out.at_ hp
      have q0 : w.cell? ⟨g, off + k * 4, none⟩ = some (.int .i64 (S.num k)) := hcell 0 (by omega)
      clear hcell
      have hp1 : (k : Int) < n := by omega
      by_cases e : (S.num k == num) = true
      · go_wp2_with (fail)
        go_ret
        refine ⟨?_, rfl⟩
        rw [HF.out _ (find_range_some hp HL.out e)]
        rfl
      · have e := Bool.eq_false_iff.2 e
        go_wp2_with (fail)
        go_round
        case rel =>
          refine ⟨k + 1, by go_num, by omega, fun j hj => ?_⟩
          by_cases h : j = k
          · subst h; exact e
          · exact HL.out j (by omega)
        case measure =>
          simp only [intOf]
          omega
    · have e : k = n := by omega
      subst e
      go_wp2_with (fail)
      go_ret
      refine ⟨?_, rfl⟩
      rw [HF.out _ (find_range_none HL.out)]
      rfl
def coreF (x : Int) : Int := if x < 2 then -1 else (x - 2) % 8
def madeF (x : Int) : Int := (x - 2) / 8
set_option maxRecDepth 1000000 in
theorem core_calls (x : Int) (hx : -1000000 ≤ x ∧ x ≤ 1000000) (w : World) :
    Calls Try.prog 70 #[.int .i64 x] w fun e w' => e = .returned (.int .i64 (coreF x)) ∧ w' = w := by
  obtain ⟨h1, h2⟩ := hx
  by_cases h : x < 2
  · have H := Lib.hid (show coreF x = -1 by unfold coreF; rw [if_pos h])
    go_enter Try.func70, Try.ntmps70
    go_wp2_with (fail)
    go_ret
    exact ⟨by rw [H.out]; rfl, rfl⟩
  · have H := Lib.hid (show coreF x = (x - 2) % 8 by unfold coreF; rw [if_neg h])
    have h3 : 2 ≤ x := by omega
    go_enter Try.func70, Try.ntmps70
    go_wp2_with (fail)
    go_ret
    exact ⟨by rw [H.out]; first | rfl | go_num, rfl⟩
set_option maxRecDepth 1000000 in
theorem made_calls (x : Int) (hx : 2 ≤ x ∧ x ≤ 1000000) (w : World) :
    Calls Try.prog 71 #[.int .i64 x] w fun e w' => e = .returned (.int .i64 (madeF x)) ∧ w' = w := by
  obtain ⟨h1, h2⟩ := hx
  have H := Lib.hid (show madeF x = (x - 2) / 8 from rfl)
  go_enter Try.func71, Try.ntmps71
  go_wp2_with (fail)
  go_ret
  exact ⟨by rw [H.out]; first | rfl | go_num, rfl⟩
end Go.Proofs.Ytenlffhoinialaa
