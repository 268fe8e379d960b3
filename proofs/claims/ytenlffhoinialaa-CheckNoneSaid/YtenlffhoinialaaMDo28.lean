/- The document's byFd: a call on an open file. -/
import Derived.Test.YtenlffhoinialaaMDo28c
import Derived.Test.YtenlffhoinialaaMDo28r
import Derived.Test.YtenlffhoinialaaMDo28w
import Derived.Test.YtenlffhoinialaaMDo28t
import Derived.Test.YtenlffhoinialaaMDoE
namespace Go.Proofs.Ytenlffhoinialaa
theorem byFd_calls {w : World} {base ob : Nat} {iv ov mv : Value} {ev : Nat → Value} {S : St} (hT : StT w base ob iv ov mv ev S) (hbw : base ≤ w.heap.size) (hI : Inv S) (c : CallD) :
    Calls Try.prog 97 #[.pointer (some ⟨ob, 0, none⟩), .agg #[.int .i64 c.kind, .int .i64 c.core, .int .i64 c.fd, .int .i64 c.off, .int .i64 c.num, .string c.path, .string c.path2, .string c.data]] w fun e w' => MutR base ob w' e ∧ Bk base w w' := by
  by_cases h3 : c.kind = 3
  · exact byFd_c hT hbw hI c h3
  · by_cases h4 : c.kind = 4
    · exact byFd_r hT hbw hI c h4
    · by_cases h5 : c.kind = 5
      · exact byFd_w hT hbw hI c h5
      · by_cases h6 : c.kind = 6
        · exact byFd_t hT hbw hI c h6
        · by_cases h7 : c.kind = 7
          · exact byFd_s hT hbw hI c h7
          · exact byFd_z hT hbw hI c h3 h4 h5 h6 h7
end Go.Proofs.Ytenlffhoinialaa
