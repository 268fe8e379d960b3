
/- Names: the buckets. -/
import Derived.Test.YtenlffhoinialaaNames5
namespace Go.Proofs.Ytenlffhoinialaa
open Go.RowKit

def nbucket (s : ByteArray) : Nat := nhash s % 8
theorem nbucket_lt (s : ByteArray) : nbucket s < 8 := Nat.mod_lt _ (by omega)
set_option maxRecDepth 1000000 in
theorem bucket_calls (s : ByteArray) (w : World) :
    Calls Try.prog 74 #[.string s] w fun e w' => e = .returned (.int .i64 (nbucket s : Nat)) ∧ Below w.heap.size w w' := by
  have hl := nhash_lt s
  have hb : ((nhash s : Nat) : Int).tmod 8 = (nbucket s : Nat) := by
    rw [Int.tmod_eq_emod_of_nonneg (by omega)]
    unfold nbucket
    omega
  have hb2 : ((nhash s : Nat) : Int) % 8 = (nbucket s : Nat) := by
    unfold nbucket
    omega
  have HB := Lib.hid hb2
  clear hb hb2
  go_enter Try.func74, Try.ntmps74
  go_wp2_with (fail)
  refine (hash_calls s w).mono ?_
  rintro e w' ⟨rfl, hB⟩
  generalize nhash s = h at *
  go_wp2_with (fail)
  go_ret
  refine ⟨?_, hB⟩
  first | rw [← HB.out]; rfl | (rw [← HB.out]; go_num)
set_option maxRecDepth 1000000 in
theorem rbucket_calls (s : ByteArray) (hs : s.size ≤ 1000000000000000000) (w : World) :
    Calls Try.prog 85 #[.string s] w fun e w' => e = .returned (.int .i64 (nbucket s : Nat)) ∧ ∃ d, w' = w.drewN d := by
  have hl := nhash_lt s
  have hb2 : ((nhash s : Nat) : Int) % 8 = (nbucket s : Nat) := by
    unfold nbucket
    omega
  have HB := Lib.hid hb2
  clear hb2
  go_enter Try.func85, Try.ntmps85
  go_wp2_with (fail)
  refine (rhash_calls s hs w).mono ?_
  rintro e w' ⟨rfl, d, rfl⟩
  generalize nhash s = h at *
  go_wp2_with (fail)
  go_ret
  refine ⟨?_, _, rfl⟩
  first | rw [← HB.out]; rfl | (rw [← HB.out]; go_num)
end Go.Proofs.Ytenlffhoinialaa
