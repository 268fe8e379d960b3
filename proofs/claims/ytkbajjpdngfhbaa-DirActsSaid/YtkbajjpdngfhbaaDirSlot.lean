
/- dir: num, same, place, lock. -/
import Derived.Test.YtkbajjpdngfhbaaDirPack
import Derived.Test.YtkbajjpdngfhbaaArP
import Derived.Laws.IdiomStrings
namespace Go.Proofs.Ytkbajjpdngfhbaa
open Go.RowKit
theorem and31b (x : Int) : bits .and .i64 x 2147483647 = x % 2147483648 := and_pow x 31 (by omega)
set_option maxRecDepth 1000000 in
theorem snum_calls (a b c : Int) (w : World) :
    Calls Try.prog 35 #[.agg #[.int .i64 a, .int .i64 b, .int .i64 c]] w fun e w' => e = .returned (.int .i64 (a % 2147483648)) ∧ Below w.heap.size w w' := by
  have e := and31b a
  go_enter Try.func35, Try.ntmps35
  go_wp2_with (fail)
  go_ret
  exact ⟨rfl, below_alloc _ _⟩
set_option maxRecDepth 1000000 in
theorem same_calls (a b c a' b' c' : Int) (w : World) :
    Calls Try.prog 53 #[.agg #[.int .i64 a, .int .i64 b, .int .i64 c], .agg #[.int .i64 a', .int .i64 b', .int .i64 c']] w fun e w' => e = .returned (.bool (!(a % 2147483648 == 0) && (a / 2147483648 == a' / 2147483648) && (b == b') && (c == c'))) ∧ Below w.heap.size w w' := by
  have H := Lib.hid (fun W => snum_calls a b c W)
  have hx : ∀ W : World, (W.alloc (Obj.cells #[Value.int IntKind.i64 a', Value.int IntKind.i64 b', Value.int IntKind.i64 c'] 71)).heap.size = W.heap.size + 1 := fun W => by simp
  go_enter Try.func53, Try.ntmps53
  go_wp2_with (fail)
  refine (H.out _).mono ?_
  rintro e w1 ⟨rfl, hB⟩
  have b0 : Blk w1 w.heap.size 71 #[.int .i64 a, .int .i64 b, .int .i64 c] := Blk.of_heap (hB.block _ (by simp; omega)) ((Blk.new w _ _).alloc _)
  have b1 : Blk w1 (w.heap.size + 1) 71 #[.int .i64 a', .int .i64 b', .int .i64 c'] := Blk.of_heap (hB.block _ (by simp)) (blk_next _ _ _ _)
  have hK : Below w.heap.size w w1 := (below_alloc _ _).trans ((bel_then (below_alloc _ _) hB).mono (size_alloc_le _ _))
  have c00 := b0.cell 0
  have c01 := b0.cell 1
  have c02 := b0.cell 2
  have c10 := b1.cell 0
  have c11 := b1.cell 1
  have c12 := b1.cell 2
  clear hB b0 b1
  by_cases q1 : a % 2147483648 = 0
  · go_wp2_with (fail)
    all_goals (go_ret; refine ⟨congrArg (fun b => Ending.returned (Value.bool b)) ?_, hK⟩; simp [q1])
  · by_cases q2 : a / 2147483648 = a' / 2147483648
    · by_cases q3 : b = b'
      · go_wp2_with (fail)
        all_goals (go_ret; refine ⟨congrArg (fun b => Ending.returned (Value.bool b)) ?_, hK⟩; simp [bne, q1, q2, q3])
      · go_wp2_with (fail)
        all_goals (go_ret; refine ⟨congrArg (fun b => Ending.returned (Value.bool b)) ?_, hK⟩; simp [bne, q1, q2, q3])
    · go_wp2_with (fail)
      all_goals (go_ret; refine ⟨congrArg (fun b => Ending.returned (Value.bool b)) ?_, hK⟩; simp [bne, q1, q2])
theorem info_byte : (Try.prog.info? 5).map (fun i => (i.zero, i.size, i.bytes)) = some (some (.int .u8 0), 1, 1) := by kernel_rfl
def zerosY (n : Nat) : Array Value := (List.replicate n (Value.int .u8 0)).toArray
theorem make_bytes (n : Nat) (hn : n ≤ 1000) (W : World) : (Instr.makeSlice 83 (.int .i64 (n : Int)) (.int .i64 (n : Int))).run Try.prog W = .ok (.slice (some ⟨W.heap.size, 0, none⟩) n n) (W.alloc (.cells (zerosY n) 5)) := by
  obtain ⟨i0, hi, hz0, hz1, hz2⟩ := info_parts info_byte
  have h := run_make_rowN (P := Try.prog) 83 5 i0 _ Try.underlying83 hi hz0 .i64 .i64 n n (Nat.le_refl _) (by rw [hz2]; omega) (by omega) W
  simp only [hz1, Nat.mul_one, Value.cells, madeCells_one] at h
  exact h
def nmByte (s : ByteArray) (k i : Nat) : Value := .int .u8 (if i < k then ((s.get! i).toNat : Int) else 0)
def nmCells (s : ByteArray) (k : Nat) : Array Value := ((List.range s.size).map (nmByte s k)).toArray
theorem nmCells_size (s : ByteArray) (k : Nat) : (nmCells s k).size = s.size := by simp [nmCells]
theorem nmCells_at (s : ByteArray) (k i : Nat) (h : i < s.size) : (nmCells s k)[i]? = some (nmByte s k i) := by
  unfold nmCells
  simp [h]
theorem nmCells_zero (s : ByteArray) : zerosY s.size = nmCells s 0 := by
  unfold zerosY nmCells
  congr 1
  symm
  rw [List.eq_replicate_iff]
  refine ⟨by simp, ?_⟩
  intro b hb
  obtain ⟨i, _, rfl⟩ := List.mem_map.1 hb
  unfold nmByte
  rw [if_neg (by omega)]
theorem nmCells_set (s : ByteArray) (k : Nat) : (nmCells s k).setIfInBounds k (.int .u8 ((s.get! k).toNat : Int)) = nmCells s (k + 1) := by
  apply Array.ext (by simp [nmCells])
  intro i h1 h2
  rw [nmCells_size] at h2
  have a := nmCells_at s (k + 1) i h2
  rw [Array.getElem?_eq_getElem (by rw [nmCells_size]; exact h2)] at a
  have a := Option.some.inj a
  rw [a, Array.getElem_setIfInBounds (by rw [nmCells_size]; exact h2)]
  by_cases e : k = i
  · subst e
    rw [if_pos rfl]
    unfold nmByte
    rw [if_pos (by omega)]
  · rw [if_neg e]
    have b := nmCells_at s k i h2
    rw [Array.getElem?_eq_getElem (by rw [nmCells_size]; exact h2)] at b
    have b := Option.some.inj b
    rw [b]
    unfold nmByte
    by_cases h3 : i < k
    · rw [if_pos h3, if_pos (by omega)]
    · rw [if_neg h3, if_neg (by omega)]
theorem cv_string {s : ByteArray} {w : World} {g cap : Nat} (hB : Blk w g 5 (nmCells s s.size)) : (convert 83 9 (.slice (some ⟨g, 0, none⟩) s.size cap)).run Try.prog w = .ok (.string s) w := by
  have h := run_convert_bytes_back (P := Try.prog) w 83 9 5 ⟨g, 0, none⟩ cap s.data.toList Try.underlying83 Try.underlying5 Try.underlying9 (fun j hj => by
    have hj' : j < s.size := by simpa using hj
    have c := hB.cell j
    rw [nmCells_at s _ j hj'] at c
    have e : (⟨g, 0, none⟩ : Addr).add j = ⟨g, j, none⟩ := by unfold Addr.add; split <;> simp_all
    rw [e, c]
    unfold nmByte
    rw [if_pos hj', get_at s j hj']
    rfl)
  have e : s.data.toList.length = s.size := Array.length_toList
  rw [e] at h
  exact h
set_option maxRecDepth 1000000 in
theorem name_calls (s : ByteArray) (hs : s.size ≤ 12) (v : Nat) (hv : v < 2147483648) (w : World) :
    Calls Try.prog 36 #[.agg #[.int .i64 (headW s v), .int .i64 (firstW s), .int .i64 (secondW s)]] w fun e w' => e = .returned (.string s) ∧ Below w.heap.size w w' := by
  have e : headW s v / 2147483648 = (s.size : Int) := by unfold headW; omega
  have e2 : headW s v / 2 ^ 31 = (s.size : Int) := e
  have h1 : (0 : Int) ≤ (s.size : Int) := by omega
  have hmk := make_bytes s.size (by omega)
  go_enter Try.func36, Try.ntmps36
  go_wp2_with (fail)
  go_loopw [11] (fun i wr => ∃ k : Nat, i = .int .i64 k ∧ k ≤ s.size ∧ Blk wr w.heap.size 71 #[.int .i64 (headW s v), .int .i64 (firstW s), .int .i64 (secondW s)] ∧ Blk wr (w.heap.size + 1) 5 (nmCells s k) ∧ Below w.heap.size w wr) (fun i _ => s.size - (intOf i).toNat)
  case atStart =>
    refine ⟨0, rfl, by omega, (Blk.newAt _ _ _ rfl).alloc _, ?_, (below_alloc _ _).trans ((below_alloc _ _).mono (size_alloc_le _ _))⟩
    rw [← nmCells_zero]
    exact blk_next _ _ _ _
  case round =>
    obtain ⟨k, rfl, hk, hA, hB, hK⟩ := hrel
    have HA := Lib.hid hA
    have HB := Lib.hid hB
    have a1 := hA.cell 1
    have a2 := hA.cell 2
    by_cases hp : k < s.size
    · have hp1 : (k : Int) < (s.size : Int) := by omega
      have bk := hB.cell k
      rw [nmCells_at s k k hp] at bk
      have fk := hB.frozen k
      by_cases h8 : k < 8
      · have h81 : (k : Int) < 8 := by omega
        have em : IntKind.i64.wrap (8 * (k : Int)) = ((8 * k : Nat) : Int) := by rw [IntWalk.i64_in _ (by omega)]; omega
        clear hA hB
        go_wp2_with (fail)
        go_roundw
        case rel =>
          refine ⟨k + 1, by first | rfl | (congr 1; omega), by omega, HA.out.far (by show w.heap.size ≠ w.heap.size + 1; omega) _, ?_, hK.setCell (by show w.heap.size ≤ w.heap.size + 1; omega) _⟩
          have e9 := sg_digit s 0 (min s.size 8) k (by omega) (by omega)
          rw [Nat.zero_add] at e9
          rw [pow256] at e9
          have e8 : firstW s / 2 ^ (8 * k) % 256 = ((s.get! k).toNat : Int) := by
            rw [← e9]
            unfold firstW
            rw [Int.natCast_pow]
            rfl
          rw [e8]
          exact (HB.out.set_ k _).cast (nmCells_set s k)
        case measure =>
          simp only [intOf]
          omega
      · have h81 : ¬ (k : Int) < 8 := by omega
        have es : IntKind.i64.wrap ((k : Int) - 8) = ((k - 8 : Nat) : Int) := by rw [IntWalk.i64_in _ (by omega)]; omega
        have em : IntKind.i64.wrap (8 * ((k - 8 : Nat) : Int)) = ((8 * (k - 8) : Nat) : Int) := by rw [IntWalk.i64_in _ (by omega)]; omega
        clear hA hB
        go_wp2_with (fail)
        go_roundw
        case rel =>
          refine ⟨k + 1, by first | rfl | (congr 1; omega), by omega, HA.out.far (by show w.heap.size ≠ w.heap.size + 1; omega) _, ?_, hK.setCell (by show w.heap.size ≤ w.heap.size + 1; omega) _⟩
          have e9 := sg_digit s 8 (s.size - 8) (k - 8) (by omega) (by omega)
          rw [show 8 + (k - 8) = k by omega] at e9
          rw [pow256] at e9
          have e8 : secondW s / 2 ^ (8 * (k - 8)) % 256 = ((s.get! k).toNat : Int) := by
            rw [← e9]
            unfold secondW
            rw [Int.natCast_pow]
            rfl
          rw [e8]
          exact (HB.out.set_ k _).cast (nmCells_set s k)
        case measure =>
          simp only [intOf]
          omega
    · have hp1 : ¬ (k : Int) < (s.size : Int) := by omega
      have e : k = s.size := by omega
      subst e
      have hcv := cv_string (cap := s.size) hB
      clear hA hB
      go_wp2_with (fail)
      go_ret
      exact ⟨rfl, hK⟩
end Go.Proofs.Ytkbajjpdngfhbaa
