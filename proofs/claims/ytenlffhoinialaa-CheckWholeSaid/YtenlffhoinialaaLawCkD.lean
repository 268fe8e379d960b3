
/- law20: the findings where a file's bytes are not written out; bytes of zeros. -/
import Derived.Test.YtenlffhoinialaaLawCk2
namespace Go.Proofs.Ytenlffhoinialaa
open Go.RowKit
set_option maxHeartbeats 1000000
def bodyAtD (B : Nat → Bool) (S : St) (i : Nat) : List Fnd := one 6 (S.num i) nm0 (B i) ++ if S.dir i then (List.range (S.ne i)).flatMap (entAtC S i) else []
def rawD (B : Nat → Bool) (S : St) : List Fnd := numbersF S ++ (List.range S.inodes.length).flatMap (bodyAtD B S) ++ treeF S ++ openF S
theorem raw_d (S : St) : rawF S = rawD (b6C S) S := raw_c S
def B2 (bb : Bool) : Nat → Bool
  | 0 => false
  | 1 => false
  | 2 => bb
  | _ + 3 => false
theorem b6_ws (d3 : ByteArray) (O : List (Int × Int × Int)) {bb : Bool} (hb : decide (256 < d3.size) = bb) : b6C (wS dS hS ⟨#[]⟩ d3 10 11 O [3, 2]) = B2 bb := by
  subst hb
  funext i
  match i with
  | 0 => rfl
  | 1 => rfl
  | 2 => rfl
  | 3 => rfl
  | 4 => rfl
  | i + 5 => rfl
set_option maxRecDepth 100000 in
theorem ev_w0 (d3 : ByteArray) : rawD (B2 false) (wS dS hS ⟨#[]⟩ d3 10 11 [(1, 0, 11)] [3, 2]) = [] := by kernel_rfl
set_option maxRecDepth 100000 in
theorem ev_w1 (d3 : ByteArray) : rawD (B2 false) (wS dS hS ⟨#[]⟩ d3 10 11 [(1, 1, 11)] [3, 2]) = [] := by kernel_rfl
set_option maxRecDepth 100000 in
theorem ev_w2 (d3 : ByteArray) : rawD (B2 false) (wS dS hS ⟨#[]⟩ d3 10 11 [(1, 2, 11)] [3, 2]) = [] := by kernel_rfl
set_option maxRecDepth 100000 in
theorem ev_w3 (d3 : ByteArray) : rawD (B2 false) (wS dS hS ⟨#[]⟩ d3 10 11 [(1, 3, 11)] [3, 2]) = [] := by kernel_rfl
theorem ev_wh {d3 : ByteArray} (h : d3.size ≤ 256) (fd : Int) : rawF (wS dS hS ⟨#[]⟩ d3 10 11 [(1, fd % 4, 11)] [3, 2]) = [] := by
  rw [raw_d, b6_ws d3 _ (bb := false) (by rw [decide_eq_false_iff_not]; omega)]
  rcases bit3 fd with q | q | q | q <;> rw [q]
  · exact ev_w0 d3
  · exact ev_w1 d3
  · exact ev_w2 d3
  · exact ev_w3 d3
set_option maxRecDepth 100000 in
theorem ev_b (d3 : ByteArray) : rawD (B2 true) (wS dS hS ⟨#[]⟩ d3 10 11 [(1, 2, 11)] [3, 2]) = [⟨6, 3, nm0⟩] := by kernel_rfl
theorem ev_big {d3 : ByteArray} (h : 256 < d3.size) : rawF (wS dS hS ⟨#[]⟩ d3 10 11 [(1, 2, 11)] [3, 2]) = [⟨6, 3, nm0⟩] := by
  rw [raw_d, b6_ws d3 _ (bb := true) (by rw [decide_eq_true_iff]; exact h)]
  exact ev_b d3
theorem cv_zero {n : Nat} {w : World} {g cap : Nat} (hB : Blk w g 5 (Array.replicate n (Value.int .u8 0))) : (convert 65 9 (.slice (some ⟨g, 0, none⟩) n cap)).run Try.prog w = .ok (.string ⟨Array.replicate n (0 : UInt8)⟩) w := by
  have h := run_convert_bytes_back (P := Try.prog) w 65 9 5 ⟨g, 0, none⟩ cap (List.replicate n (0 : UInt8)) Try.underlying65 Try.underlying5 Try.underlying9 (fun j hj => by
    have hj' : j < n := by simpa using hj
    have c := hB.cell j
    have e : (⟨g, 0, none⟩ : Addr).add j = ⟨g, j, none⟩ := by unfold Addr.add; split <;> simp_all
    rw [e, c]
    simp [hj'])
  rw [List.length_replicate, List.toArray_replicate] at h
  exact h
theorem make_zero (n : Nat) (hn : n ≤ 1000) (W : World) : (Instr.makeSlice 65 (.int .i64 (n : Int)) (.int .i64 (n : Int))).run Try.prog W = .ok (.slice (some ⟨W.heap.size, 0, none⟩) n n) (W.alloc (.cells (Array.replicate n (Value.int .u8 0)) 5)) := by
  obtain ⟨i0, hi, hz0, hz1, hz2⟩ := info_parts (show (Try.prog.info? 5).map (fun i => (i.zero, i.size, i.bytes)) = some (some (.int .u8 0), 1, 1) by kernel_rfl)
  have h := run_make_rowN (P := Try.prog) 65 5 i0 _ Try.underlying65 hi hz0 .i64 .i64 n n (Nat.le_refl _) (by rw [hz2]; omega) (by omega) W
  simp only [hz1, Nat.mul_one, Value.cells, madeCells_one, List.toArray_replicate] at h
  exact h
end Go.Proofs.Ytenlffhoinialaa
