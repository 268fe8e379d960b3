
/- Names: strings.HasPrefix. -/
import Derived.Test.YtenlffhoinialaaNames7
namespace Go.Proofs.Ytenlffhoinialaa
open Go.RowKit

set_option maxRecDepth 1000000 in
theorem prefix_calls (s p : ByteArray) (w : World) :
    Calls Try.prog 91 #[.string s, .string p] w fun e w' => e = .returned (.bool (decide (p.size ≤ s.size) && ((s.extract 0 p.size).toList == p.toList))) ∧ w = w' := by
  go_enter Try.func91, Try.ntmps91
  by_cases h : p.size ≤ s.size
  · have h1 : (p.size : Int) ≤ (s.size : Int) := by omega
    go_wp2
    all_goals go_ret
    all_goals exact ⟨by first | rfl | simp [h], rfl⟩
  · have h1 : ¬ (p.size : Int) ≤ (s.size : Int) := by omega
    go_wp2
    all_goals go_ret
    all_goals exact ⟨by first | rfl | simp [h], rfl⟩

end Go.Proofs.Ytenlffhoinialaa
