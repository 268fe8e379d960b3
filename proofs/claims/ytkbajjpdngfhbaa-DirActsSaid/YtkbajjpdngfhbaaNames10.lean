
/- Names: May. -/
import Derived.Test.YtkbajjpdngfhbaaNames9
namespace Go.Proofs.Ytkbajjpdngfhbaa
open Go.RowKit

set_option maxRecDepth 1000000 in
theorem may_calls (s : ByteArray) (w : World) :
    Calls Try.prog 52 #[.string s] w fun e w' => e = .returned (.bool (ncheck s == 0)) ∧ Below w.heap.size w w' := by
  go_enter Try.func52, Try.ntmps52
  go_wp2_with (fail)
  refine (check_calls s w).mono ?_
  rintro e w' ⟨rfl, hB⟩
  go_wp2_with (fail)
  go_ret
  exact ⟨rfl, hB⟩
end Go.Proofs.Ytkbajjpdngfhbaa
