
/- concourselaw0.SameInts, SpoilInts. -/
import Derived.Test.YtpmgfjglkbbhgaaOut
import Derived.Test.YtpmgfjglkbbhgaaInts
import Derived.Handy
namespace Go.Proofs.Ytpmgfjglkbbhgaa
open Go.RowKit
set_option maxHeartbeats 400000

/-- A row of ints of the call's own, at block g, the first k of its cells. -/
def Own (w : World) (g k : Nat) : Prop := ∃ cur : Array Value, Blk w g 3 cur ∧ k ≤ cur.size ∧ ∀ j, j < k → ∃ x : Int, cur[j]? = some (.int .i64 x)
theorem Own.cell {w : World} {g k : Nat} (h : Own w g k) {j : Nat} (hj : j < k) : ∃ x : Int, w.cell? ⟨g, j, none⟩ = some (.int .i64 x) := by
  obtain ⟨cur, hb, _, hc⟩ := h
  obtain ⟨x, hx⟩ := hc j hj
  exact ⟨x, (hb.cell j).trans hx⟩
theorem Own.frozen {w : World} {g k : Nat} (h : Own w g k) (j : Nat) : w.frozen? ⟨g, j, none⟩ = false := by
  obtain ⟨cur, hb, _⟩ := h
  exact hb.frozen j
theorem Own.set {w : World} {g k : Nat} (h : Own w g k) {j : Nat} (hj : j < k) (x : Int) : Own (w.setCell ⟨g, j, none⟩ (.int .i64 x)) g k := by
  obtain ⟨cur, hb, hs, hc⟩ := h
  refine ⟨_, hb.set_ j _, by simpa using hs, fun i hi => ?_⟩
  by_cases e : j = i
  · subst e
    exact ⟨x, by simp [show j < cur.size by omega]⟩
  · obtain ⟨y, hy⟩ := hc i hi
    exact ⟨y, by rw [Array.getElem?_setIfInBounds, if_neg e]; exact hy⟩

end Go.Proofs.Ytpmgfjglkbbhgaa
