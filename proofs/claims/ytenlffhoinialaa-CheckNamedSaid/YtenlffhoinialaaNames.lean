
/- Names: what name.Hash, name.Bucket and the document's own Hash, Bucket compute: the same, at every string. -/
import Derived.Test.YtenlffhoinialaaBase
import Derived.Test.YtenlffhoinialaaProg
import Derived.Laws.RangeAny
import Derived.Laws.RangeString
import Derived.Lib.RuneCount
import Derived.Lib.DecodeN
namespace Go.Proofs.Ytenlffhoinialaa
open Go.RowKit

/-- The hash, rune by rune. -/
def hashFrom (s : ByteArray) : Nat → Nat → Nat → Nat
  | 0, _, acc => acc
  | b + 1, pos, acc => if pos < s.size then hashFrom s b (pos + (Utf8.decode s pos).2) ((31 * acc + (Utf8.decode s pos).1) % 4294967296) else acc
def nhash (s : ByteArray) : Nat := hashFrom s s.size 0 7
theorem hashFrom_end (s : ByteArray) (b pos acc : Nat) (h : ¬ pos < s.size) : hashFrom s b pos acc = acc := by
  cases b with
  | zero => rfl
  | succ b => simp [hashFrom, h]
theorem hashFrom_lt (s : ByteArray) : ∀ b pos acc : Nat, acc < 4294967296 → hashFrom s b pos acc < 4294967296
  | 0, _, acc, h => h
  | b + 1, pos, acc, h => by
    unfold hashFrom
    split
    · exact hashFrom_lt s b _ _ (Nat.mod_lt _ (by omega))
    · exact h
theorem nhash_lt (s : ByteArray) : nhash s < 4294967296 := hashFrom_lt s _ _ _ (by omega)
theorem decode_le (s : ByteArray) (i : Nat) : (Utf8.decode s i).1 ≤ 1114111 := by
  rw [Lib.decode_at]
  have h0 := (s.get! i).toNat_lt
  unfold Lib.decodeN
  repeat' split
  all_goals simp only
  all_goals omega
theorem below_iter (w : World) (s : ByteArray) (pos : Nat) : Below w.heap.size w (w.iter s pos) := (Below.refl _ w).alloc (Nat.le_refl _) _

set_option maxRecDepth 1000000 in
theorem hash_calls (s : ByteArray) (w : World) :
    Calls Try.prog 101 #[.string s] w fun e w' => e = .returned (.int .i64 (nhash s : Nat)) ∧ Below w.heap.size w w' := by
  go_enter Try.func101, Try.ntmps101
  go_wp2
  go_loopw [3] (fun n w' => ∃ (pos b : Nat) (acc : Nat), w' = w.iter s pos ∧ n = .int .u32 acc ∧ hashFrom s b pos acc = nhash s ∧ s.size ≤ pos + b ∧ acc < 4294967296) (fun _ w' => s.size - w'.iterPos w.heap.size)
  case atStart => exact ⟨0, s.size, 7, rfl, rfl, rfl, by omega, by omega⟩
  case round =>
    obtain ⟨pos, b, acc, rfl, rfl, hc, hb, hacc⟩ := hrel
    by_cases hp : pos < s.size
    · have hnx : ∀ ty, (Instr.next (.pointer (some ⟨w.heap.size, 0, none⟩)) true ty).run Try.prog (w.iter s pos) = _ := fun ty => run_next_any w s pos ty hp
      go_wp2
      have hwd := Lib.decode_width_pos s pos hp
      go_roundw
      case rel =>
        cases b with
        | zero => omega
        | succ b =>
          have hr := decode_le s pos
          refine ⟨pos + (Utf8.decode s pos).2, b, (31 * acc + (Utf8.decode s pos).1) % 4294967296, rfl, ?_, ?_, by omega, Nat.mod_lt _ (by omega)⟩
          · go_num
          · rw [← hc]
            simp [hashFrom, hp]
      case measure =>
        simp
        omega
    · have hnx : ∀ ty, (Instr.next (.pointer (some ⟨w.heap.size, 0, none⟩)) true ty).run Try.prog (w.iter s pos) = _ := fun ty => run_next_end w s pos ty hp
      go_wp2
      go_ret
      rw [hashFrom_end s b pos acc hp] at hc
      subst hc
      refine ⟨?_, below_iter _ _ _⟩
      go_num
end Go.Proofs.Ytenlffhoinialaa
