
/- Names: May. -/
import Derived.Test.YtenlffhoinialaaNames9
namespace Go.Proofs.Ytenlffhoinialaa
open Go.RowKit

set_option maxRecDepth 1000000 in
theorem may_calls (s : ByteArray) (w : World) :
    Calls Try.prog 73 #[.string s] w fun e w' => e = .returned (.bool (ncheck s == 0)) ∧ Below w.heap.size w w' := by
  go_enter Try.func73, Try.ntmps73
  go_wp2_with (fail)
  refine (check_calls s w).mono ?_
  rintro e w' ⟨rfl, hB⟩
  go_wp2_with (fail)
  go_ret
  exact ⟨rfl, hB⟩
end Go.Proofs.Ytenlffhoinialaa
