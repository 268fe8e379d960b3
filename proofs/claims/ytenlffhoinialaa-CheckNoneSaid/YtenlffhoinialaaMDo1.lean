/- The document's file system: At, IsOpen, Fd, Links, Entry, given. -/
import Derived.Test.YtenlffhoinialaaMCkOpen
namespace Go.Proofs.Ytenlffhoinialaa
open Go.RowKit
set_option maxHeartbeats 1000000
attribute [local go_sem ↓] Go.wp_at_zero Go.wp_at_succ

def ixI (r : Option Nat) : Int := match r with
  | some i => i
  | none => -1
def atF (S : St) (num : Int) : Int := ixI (firstIx S num)
theorem below_alloc (w : World) (o : Obj) : Below w.heap.size w (w.alloc o) := (Below.refl _ _).alloc (Nat.le_refl _) o
theorem RowAt.at2 {w : World} {A : Option Addr} {m cap n k : Nat} {C : Nat → Nat → Value} (h : RowAt w (.slice A m cap) n k C) : n ≤ cap ∧ m = n := by
  obtain ⟨A', cap', e, hc, h4⟩ := h
  injection e with e1 e2 e3
  subst e1 e2 e3
  exact ⟨hc, rfl⟩
set_option maxRecDepth 1000000 in
theorem At_calls {w : World} {iv ov mv : Value} {ev : Nat → Value} {S : St} (hS : StM w iv ov mv ev S) (hn : S.inodes.length ≤ 1000) (num : Int) :
    Calls Try.prog 83 #[.agg #[iv, ov, mv], .int .i64 num] w fun e w' => e = .returned (.int .i64 (atF S num)) ∧ Below w.heap.size w w' := by
  obtain ⟨A, cap, rfl⟩ := hS.ino.form
  obtain ⟨n, hnn⟩ : ∃ n, S.inodes.length = n := ⟨_, rfl⟩
  have HF := Lib.hid (show ∀ r, (List.range n).find? (fun i => S.num i == num) = r → atF S num = ixI r from fun r h => by unfold atF firstIx; rw [hnn, h])
  have hI := hS.ino
  rw [hnn] at hn hI ⊢
  have HB := Lib.hid (below_alloc w (.cells #[.slice A n cap, ov, mv] 26))
  have HI := Lib.hid (hI.keep HB.out)
  have s0 := (Blk.new w 26 #[.slice A n cap, ov, mv]).cell 0
  clear hI hnn hS
  go_enter Try.func83, Try.ntmps83
  go_wp2_with (fail)
  generalize w.alloc (.cells #[.slice A n cap, ov, mv] 26) = w1 at *
  generalize w.heap.size = p at s0 ⊢
  have s0 : w1.cell? ⟨p, 0, none⟩ = some (.slice A n cap) := s0
  go_loop [5] (fun i => ∃ k : Nat, i = .int .i64 k ∧ k ≤ n ∧ ∀ j, j < k → (S.num j == num) = false) (fun i => n - (intOf i).toNat)
  case atStart => exact ⟨0, rfl, by omega, fun j hj => absurd hj (by omega)⟩
  case round =>
    obtain ⟨k, rfl, hk, hlt⟩ := hrel
    have HL := Lib.hid hlt
    clear hlt
    by_cases hp : k < n
    · obtain ⟨_, hcap, g, off, rfl, hcell⟩ := HI.out.at_ hp
      have q0 : w1.cell? ⟨g, off + k * 4, none⟩ = some (.int .i64 (S.num k)) := hcell 0 (by omega)
      clear hcell
      have hp1 : (k : Int) < n := by omega
      by_cases e : (S.num k == num) = true
      · go_wp2_with (fail)
        go_ret
        refine ⟨?_, HB.out⟩
        rw [HF.out _ (find_range_some hp HL.out e)]
        rfl
      · have e := Bool.eq_false_iff.2 e
        go_wp2_with (fail)
        go_round
        case rel =>
          refine ⟨k + 1, by go_num, by omega, fun j hj => ?_⟩
          by_cases h : j = k
          · subst h; exact e
          · exact HL.out j (by omega)
        case measure =>
          simp only [intOf]
          omega
    · have e : k = n := by omega
      subst e
      go_wp2_with (fail)
      go_ret
      refine ⟨?_, HB.out⟩
      rw [HF.out _ (find_range_none HL.out)]
      rfl

/-- The first descriptor of a core and a number. -/
def fdF (S : St) (c f : Int) : Int := match (List.range S.opens.length).find? fun i => S.oc i == c && S.of i == f with
  | some i => S.on i
  | none => 0
def openB (S : St) (num : Int) : Bool := (List.range S.opens.length).any fun i => S.on i == num
theorem any_range_true {p : Nat → Bool} {n k : Nat} (hk : k < n) (h : p k = true) : (List.range n).any p = true := List.any_eq_true.2 ⟨k, by simpa using hk, h⟩
theorem any_range_false {p : Nat → Bool} {n : Nat} (h : ∀ j, j < n → p j = false) : (List.range n).any p = false := by
  rw [List.any_eq_false]
  intro j hj
  simp [h j (by simpa using hj)]
set_option maxRecDepth 1000000 in
theorem IsOpen_calls {w : World} {iv ov mv : Value} {ev : Nat → Value} {S : St} (hS : StM w iv ov mv ev S) (hn : S.opens.length ≤ 1000) (num : Int) :
    Calls Try.prog 49 #[.agg #[iv, ov, mv], .int .i64 num] w fun e w' => e = .returned (.bool (openB S num)) ∧ Below w.heap.size w w' := by
  obtain ⟨A, cap, rfl⟩ := hS.opn.form
  obtain ⟨n, hnn⟩ : ∃ n, S.opens.length = n := ⟨_, rfl⟩
  have HF := Lib.hid (show openB S num = (List.range n).any (fun i => S.on i == num) by unfold openB; rw [hnn])
  have hI := hS.opn
  rw [hnn] at hn hI ⊢
  have HB := Lib.hid (below_alloc w (.cells #[iv, .slice A n cap, mv] 26))
  have HI := Lib.hid (hI.keep HB.out)
  have s0 := (Blk.new w 26 #[iv, .slice A n cap, mv]).cell 1
  clear hI hnn hS
  go_enter Try.func49, Try.ntmps49
  go_wp2_with (fail)
  generalize w.alloc (.cells #[iv, .slice A n cap, mv] 26) = w1 at *
  generalize w.heap.size = p at s0 ⊢
  have s0 : w1.cell? ⟨p, 1, none⟩ = some (.slice A n cap) := s0
  go_loop [5] (fun i => ∃ k : Nat, i = .int .i64 k ∧ k ≤ n ∧ ∀ j, j < k → (S.on j == num) = false) (fun i => n - (intOf i).toNat)
  case atStart => exact ⟨0, rfl, by omega, fun j hj => absurd hj (by omega)⟩
  case round =>
    obtain ⟨k, rfl, hk, hlt⟩ := hrel
    have HL := Lib.hid hlt
    clear hlt
    by_cases hp : k < n
    · obtain ⟨_, hcap, g, off, rfl, hcell⟩ := HI.out.at_ hp
      have q0 : w1.cell? ⟨g, off + k * 3 + 2, none⟩ = some (.int .i64 (S.on k)) := hcell 2 (by omega)
      clear hcell
      have hp1 : (k : Int) < n := by omega
      by_cases e : (S.on k == num) = true
      · go_wp2_with (fail)
        go_ret
        refine ⟨?_, HB.out⟩
        rw [HF.out, any_range_true hp e]; rfl
      · have e := Bool.eq_false_iff.2 e
        go_wp2_with (fail)
        go_round
        case rel =>
          refine ⟨k + 1, by go_num, by omega, fun j hj => ?_⟩
          by_cases h : j = k
          · subst h; exact e
          · exact HL.out j (by omega)
        case measure =>
          simp only [intOf]
          omega
    · have e : k = n := by omega
      subst e
      go_wp2_with (fail)
      go_ret
      refine ⟨?_, HB.out⟩
      rw [HF.out, any_range_false HL.out]; rfl
set_option maxRecDepth 1000000 in
theorem Fd_calls {w : World} {iv ov mv : Value} {ev : Nat → Value} {S : St} (hS : StM w iv ov mv ev S) (hn : S.opens.length ≤ 1000) (c f : Int) :
    Calls Try.prog 123 #[.agg #[iv, ov, mv], .int .i64 c, .int .i64 f] w fun e w' => e = .returned (.int .i64 (fdF S c f)) ∧ Below w.heap.size w w' := by
  obtain ⟨A, cap, rfl⟩ := hS.opn.form
  obtain ⟨n, hnn⟩ : ∃ n, S.opens.length = n := ⟨_, rfl⟩
  have HF := Lib.hid (show ∀ r, (List.range n).find? (fun i => S.oc i == c && S.of i == f) = r → fdF S c f = (match r with | some i => S.on i | none => 0) from fun r h => by unfold fdF; rw [hnn, h])
  have hI := hS.opn
  rw [hnn] at hn hI ⊢
  have HB := Lib.hid (below_alloc w (.cells #[iv, .slice A n cap, mv] 26))
  have HI := Lib.hid (hI.keep HB.out)
  have s0 := (Blk.new w 26 #[iv, .slice A n cap, mv]).cell 1
  clear hI hnn hS
  go_enter Try.func123, Try.ntmps123
  go_wp2_with (fail)
  generalize w.alloc (.cells #[iv, .slice A n cap, mv] 26) = w1 at *
  generalize w.heap.size = p at s0 ⊢
  have s0 : w1.cell? ⟨p, 1, none⟩ = some (.slice A n cap) := s0
  go_loop [7] (fun i => ∃ k : Nat, i = .int .i64 k ∧ k ≤ n ∧ ∀ j, j < k → (S.oc j == c && S.of j == f) = false) (fun i => n - (intOf i).toNat)
  case atStart => exact ⟨0, rfl, by omega, fun j hj => absurd hj (by omega)⟩
  case round =>
    obtain ⟨k, rfl, hk, hlt⟩ := hrel
    have HL := Lib.hid hlt
    clear hlt
    by_cases hp : k < n
    · obtain ⟨_, hcap, g, off, rfl, hcell⟩ := HI.out.at_ hp
      have q0 : w1.cell? ⟨g, off + k * 3, none⟩ = some (.int .i64 (S.oc k)) := hcell 0 (by omega)
      have q1 : w1.cell? ⟨g, off + k * 3 + 1, none⟩ = some (.int .i64 (S.of k)) := hcell 1 (by omega)
      have q2 : w1.cell? ⟨g, off + k * 3 + 2, none⟩ = some (.int .i64 (S.on k)) := hcell 2 (by omega)
      clear hcell
      have hp1 : (k : Int) < n := by omega
      have hno : (S.oc k == c && S.of k == f) = false → ∀ j, j < k + 1 → (S.oc j == c && S.of j == f) = false := fun e j hj => by
        by_cases h : j = k
        · subst h; exact e
        · exact HL.out j (by omega)
      have HNO := Lib.hid hno
      clear hno
      by_cases e1 : (S.oc k == c) = true
      · by_cases e2 : (S.of k == f) = true
        · go_wp2_with (fail)
          go_ret
          refine ⟨?_, HB.out⟩
          rw [HF.out _ (find_range_some hp HL.out (by rw [e1, e2]; rfl))]; rfl
        · have e2 := Bool.eq_false_iff.2 e2
          go_wp2_with (fail)
          go_round
          case rel => exact ⟨k + 1, by go_num, by omega, HNO.out (by rw [e1, e2]; rfl)⟩
          case measure =>
            simp only [intOf]
            omega
      · have e1 := Bool.eq_false_iff.2 e1
        go_wp2_with (fail)
        go_round
        case rel => exact ⟨k + 1, by go_num, by omega, HNO.out (by rw [e1]; rfl)⟩
        case measure =>
          simp only [intOf]
          omega
    · have e : k = n := by omega
      subst e
      go_wp2_with (fail)
      go_ret
      refine ⟨?_, HB.out⟩
      rw [HF.out _ (find_range_none HL.out)]; rfl
end Go.Proofs.Ytenlffhoinialaa
