
/- law20: CheckNumbers, CheckWhole. -/
import Derived.Test.YtenlffhoinialaaCkAwk2
import Derived.Test.YtenlffhoinialaaBits
namespace Go.Proofs.Ytenlffhoinialaa
open Go.RowKit
set_option maxHeartbeats 1000000
attribute [local go_sem ↓] Go.wp_at_zero Go.wp_at_succ
section
variable {w : World} {g cap : Nat} {t : TypeId} {cs : Array Value} {C : Nat → Nat → Value}
theorem blk11 (h : Blk w g t cs) (hc : 1 ≤ cap) (h0 : cs[0]? = some (C 0 0)) : RowAt w (.slice (some ⟨g, 0, none⟩) 1 cap) 1 1 C := RowAt.blk h hc fun i j hi hj => by
  have h1 : i = 0 := by omega
  have h2 : j = 0 := by omega
  subst h1 h2
  exact h0
theorem blk21 (h : Blk w g t cs) (hc : 2 ≤ cap) (h0 : cs[0]? = some (C 0 0)) (h1 : cs[1]? = some (C 1 0)) : RowAt w (.slice (some ⟨g, 0, none⟩) 2 cap) 2 1 C := RowAt.blk h hc fun i j hi hj => by
  have h3 : i = 0 ∨ i = 1 := by omega
  have h2 : j = 0 := by omega
  subst h2
  rcases h3 with rfl | rfl
  · exact h0
  · exact h1
theorem blk12 (h : Blk w g t cs) (hc : 1 ≤ cap) (h0 : cs[0]? = some (C 0 0)) (h1 : cs[1]? = some (C 0 1)) : RowAt w (.slice (some ⟨g, 0, none⟩) 1 cap) 1 2 C := RowAt.blk h hc fun i j hi hj => by
  have h3 : j = 0 ∨ j = 1 := by omega
  have h2 : i = 0 := by omega
  subst h2
  rcases h3 with rfl | rfl
  · exact h0
  · exact h1
theorem blk13 (h : Blk w g t cs) (hc : 1 ≤ cap) (h0 : cs[0]? = some (C 0 0)) (h1 : cs[1]? = some (C 0 1)) (h2 : cs[2]? = some (C 0 2)) : RowAt w (.slice (some ⟨g, 0, none⟩) 1 cap) 1 3 C := RowAt.blk h hc fun i j hi hj => by
  have h3 : j = 0 ∨ j = 1 ∨ j = 2 := by omega
  have h4 : i = 0 := by omega
  subst h4
  rcases h3 with rfl | rfl | rfl
  · exact h0
  · exact h1
  · exact h2
theorem blk32 (h : Blk w g t cs) (hc : 3 ≤ cap) (h0 : cs[0]? = some (C 0 0)) (h1 : cs[1]? = some (C 0 1)) (h2 : cs[2]? = some (C 1 0)) (h3 : cs[3]? = some (C 1 1)) (h4 : cs[4]? = some (C 2 0)) (h5 : cs[5]? = some (C 2 1)) : RowAt w (.slice (some ⟨g, 0, none⟩) 3 cap) 3 2 C := RowAt.blk h hc fun i j hi hj => by
  have h6 : j = 0 ∨ j = 1 := by omega
  have h7 : i = 0 ∨ i = 1 ∨ i = 2 := by omega
  rcases h7 with rfl | rfl | rfl <;> rcases h6 with rfl | rfl
  · exact h0
  · exact h1
  · exact h2
  · exact h3
  · exact h4
  · exact h5
end
theorem bit1 (v : Int) : v % 2 = 0 ∨ v % 2 = 1 := by omega
theorem bit3 (v : Int) : v % 4 = 0 ∨ v % 4 = 1 ∨ v % 4 = 2 ∨ v % 4 = 3 := by omega
/-- Findings written out. -/
theorem lit0 (w : World) : RowAt w (.slice none 0 0) ([] : List Fnd).length 3 (fndC []) := RowAt.nil_ _ _ _
theorem lit1 {w : World} {g : Nat} {f : Fnd} (h : Blk w g 64 #[.int .i64 f.kind, .int .i64 f.num, .string f.name]) : RowAt w (.slice (some ⟨g, 0, none⟩) 1 1) [f].length 3 (fndC [f]) := blk13 h (Nat.le_refl _) rfl rfl rfl
/-- State of a state that was made, and what is to be found: it is found. -/
theorem found_out {w : World} {iv ov mv : Value} {ev : Nat → Value} {S : St} (hS : StM w iv ov mv ev S) (hs : S.small) {E : List Fnd} (hE : RiseF E) (hp : rawF S = E) :
    Calls Try.prog 15 #[.agg #[iv, ov, mv]] w fun e w' => ∃ v, e = .returned v ∧ Below w.heap.size w w' ∧ RowAt w' v E.length 3 (fndC E) :=
  (State_calls hS hs hE (by rw [hp])).mono fun _ _ ⟨v, h1, h2, h3⟩ => ⟨v, h1, h2, ownF_row h3⟩
end Go.Proofs.Ytenlffhoinialaa
