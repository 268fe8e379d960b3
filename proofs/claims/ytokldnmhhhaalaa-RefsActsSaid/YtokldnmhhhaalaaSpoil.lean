
/- concourselaw0.SameInts, SpoilInts. -/
import Derived.Test.YtokldnmhhhaalaaOut
import Derived.Test.YtokldnmhhhaalaaInts
import Derived.Handy
namespace Go.Proofs.Ytokldnmhhhaalaa
open Go.RowKit
set_option maxHeartbeats 400000

theorem same_intsL (xs : List Int) (v v' : Value) (w : World) (h : Sl w 1 v xs.length (xs.map (Value.int .i64))) (h' : Sl w 1 v' xs.length (xs.map (Value.int .i64))) (hl : xs.length ≤ 8796093022208) :
    Calls Try.prog 22 #[v, v'] w fun e w' => e = .returned (.bool true) ∧ ∃ k, w' = w.drewN k := by
  obtain ⟨_, A, cap, rfl, hc, h⟩ := h
  obtain ⟨_, A', cap', rfl, hc', h'⟩ := h'
  have H := Lib.hid h
  have H' := Lib.hid h'
  clear h h'
  go_enter Try.func22, Try.ntmps22
  go_wp2
  go_loopw [5] (fun i wr => ∃ k : Nat, k ≤ xs.length ∧ i = .int .i64 k ∧ ∃ d, wr = w.drewN d) (fun i _ => xs.length - (intOf i).toNat)
  case atStart => exact ⟨0, Nat.zero_le _, rfl, 0, rfl⟩
  case round =>
    obtain ⟨k, hk, rfl, d, rfl⟩ := hrel
    by_cases hlt : k < xs.length
    · obtain ⟨g, off, rfl, hcell⟩ := H.out (by omega)
      obtain ⟨g', off', rfl, hcell'⟩ := H'.out (by omega)
      have e1 : (xs.map (Value.int .i64))[k]? = some (.int .i64 (xs[k]'hlt)) := by simp [hlt]
      have q1 := hcell _ _ e1
      have q2 := hcell' _ _ e1
      clear hcell hcell' e1 H H'
      generalize xs[k] = x1 at *
      go_wp2
      go_quiet (fail)
      go_wp2
      go_roundw
      case rel => exact ⟨k + 1, by omega, by go_num, _, rfl⟩
      case measure => simp [intOf]; omega
    · go_wp2
      go_ret
      exact ⟨rfl, _, rfl⟩

theorem same_ints (xs : List Int) (v v' : Value) (w : World) (h : Sl w 1 v xs.length (xs.map (Value.int .i64))) (h' : Sl w 1 v' xs.length (xs.map (Value.int .i64))) (hl : xs.length ≤ 1099511627776) :
    Calls Try.prog 22 #[v, v'] w fun e w' => e = .returned (.bool true) ∧ ∃ k, w' = w.drewN k := same_intsL xs v v' w h h' (by omega)

/-- A row of ints of the call's own, at block g, the first k of its cells. -/
def Own (w : World) (g k : Nat) : Prop := ∃ cur : Array Value, Blk w g 3 cur ∧ k ≤ cur.size ∧ ∀ j, j < k → ∃ x : Int, cur[j]? = some (.int .i64 x)
theorem Own.cell {w : World} {g k : Nat} (h : Own w g k) {j : Nat} (hj : j < k) : ∃ x : Int, w.cell? ⟨g, j, none⟩ = some (.int .i64 x) := by
  obtain ⟨cur, hb, _, hc⟩ := h
  obtain ⟨x, hx⟩ := hc j hj
  exact ⟨x, (hb.cell j).trans hx⟩
theorem Own.frozen {w : World} {g k : Nat} (h : Own w g k) (j : Nat) : w.frozen? ⟨g, j, none⟩ = false := by
  obtain ⟨cur, hb, _⟩ := h
  exact hb.frozen j
theorem Own.set {w : World} {g k : Nat} (h : Own w g k) {j : Nat} (hj : j < k) (x : Int) : Own (w.setCell ⟨g, j, none⟩ (.int .i64 x)) g k := by
  obtain ⟨cur, hb, hs, hc⟩ := h
  refine ⟨_, hb.set_ j _, by simpa using hs, fun i hi => ?_⟩
  by_cases e : j = i
  · subst e
    exact ⟨x, by simp [show j < cur.size by omega]⟩
  · obtain ⟨y, hy⟩ := hc i hi
    exact ⟨y, by rw [Array.getElem?_setIfInBounds, if_neg e]; exact hy⟩

theorem spoil_ints {L : Nat → Prop} {w : World} {a base k m n : Nat} {ws : List Int} {P : List (List Acc) → Prop} {xs : List Int} {v : Value} (h : w.ownsRow base 3 1 v k (xs.map (Value.int .i64))) (hk : k ≤ 1099511627776) (hL : ∀ b, L b → b < base) (hA : ArP (lo L v) w a ws n m P) :
    Calls Try.prog 35 #[v] w fun e w' => e = .returned (.tuple #[]) ∧ ArP L w' a ws n m P ∧ Keeps L w w' := by
  have hlen := h.1
  rcases h.2 with ⟨rfl, rfl⟩ | ⟨g, cap, cur, rfl, hb, hg, hnc, hcm, hcs, htake⟩
  · rw [lo_nil] at hA
    have HA := Lib.hid hA
    clear h hA
    go_enter Try.func35, Try.ntmps35
    go_wp2
    go_loopw [2] (fun i wr => i = .int .i64 0 ∧ wr = w) (fun _ _ => 0)
    case atStart => exact ⟨rfl, rfl⟩
    case round =>
      obtain ⟨rfl, rfl⟩ := hrel
      go_wp2
      go_end0
      exact ⟨rfl, HA.out, Keeps.refl _ _⟩
  · have hl1 : lo L (.slice (some ⟨g, 0, none⟩) k cap) g := .inr rfl
    have hLg : ¬ L g := fun hl => by have := hL g hl; omega
    have HO : Own w g k := by
      refine ⟨cur, hg, by omega, fun j hj => ?_⟩
      have hj' : j < xs.length := by simp at hlen; omega
      have : (cur.toList.take (k * 1))[j]? = some (.int .i64 xs[j]) := by rw [htake]; simp [hj']
      rw [List.getElem?_take] at this
      split at this
      · exact ⟨_, by simpa using this⟩
      · cases this
    have HA := Lib.hid hA
    clear h hA hg htake hlen
    have HLS := Lib.hid (show ∀ b, L b → lo L (.slice (some ⟨g, 0, none⟩) k cap) b from fun _ h => .inl h)
    generalize lo L (.slice (some ⟨g, 0, none⟩) k cap) = L2 at *
    have HL2 := Lib.hid hl1
    have HLG := Lib.hid hLg
    clear hl1 hLg
    go_enter Try.func35, Try.ntmps35
    go_wp2
    go_loopw [2] (fun i wr => ∃ j : Nat, i = .int .i64 j ∧ j ≤ k ∧ Own wr g k ∧ ArP L2 wr a ws n m P ∧ Keeps L w wr) (fun i _ => k - (intOf i).toNat)
    case atStart => exact ⟨0, rfl, Nat.zero_le _, HO, HA.out, Keeps.refl _ _⟩
    case round =>
      clear HO
      obtain ⟨j, rfl, hj, ho, hA, hK⟩ := hrel
      have HO := Lib.hid ho
      by_cases hlt : j < k
      · obtain ⟨y, q1⟩ := ho.cell hlt
        have q2 := ho.frozen j
        clear ho
        go_wp2
        go_roundw
        case rel => exact ⟨j + 1, by go_num, by omega, HO.out.set hlt _, hA.setCell HL2.out _, hK.setCell HLG.out _⟩
        case measure => simp [intOf]; omega
      · clear ho
        go_wp2
        go_end0
        exact ⟨rfl, hA.sub HLS.out, hK⟩
end Go.Proofs.Ytokldnmhhhaalaa
