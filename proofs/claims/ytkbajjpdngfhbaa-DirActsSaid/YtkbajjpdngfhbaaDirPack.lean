
/- dir.pack. -/
import Derived.Test.YtkbajjpdngfhbaaDirP
import Derived.Handy
import Derived.Deep.RegionHeld3
import Derived.StillTailTactics
import Derived.Deep.DeepCutAuto
namespace Go.Proofs.Ytkbajjpdngfhbaa
open Go.RowKit
theorem blk_next (w : World) (o : Obj) (t : TypeId) (cs : Array Value) : Blk ((w.alloc o).alloc (.cells cs t)) (w.heap.size + 1) t cs := Blk.newAt _ _ _ (by simp)
theorem size_alloc_le (w : World) (o : Obj) : w.heap.size ≤ (w.alloc o).heap.size := by simp
theorem below_alloc (w : World) (o : Obj) : Below w.heap.size w (w.alloc o) := (Below.refl _ w).alloc (Nat.le_refl _) _
set_option maxRecDepth 1000000 in
theorem pack_calls (s : ByteArray) (hs : s.size ≤ 12) (v : Nat) (hv : v < 2147483648) (w : World) :
    Calls Try.prog 33 #[.string s, .int .i64 v] w fun e w' => e = .returned (.agg #[.int .i64 (headW s v), .int .i64 (firstW s), .int .i64 (secondW s)]) ∧ Below w.heap.size w w' := by
  have e1 := or_head v s.size hv hs
  go_enter Try.func33, Try.ntmps33
  go_wp2_with (fail)
  have eh : (v : Int) + (s.size : Int) * 2147483648 = headW s v := by unfold headW; omega
  rw [eh]
  go_loopw [15] (fun i wr => ∃ k : Nat, i = .int .i64 k ∧ k ≤ s.size ∧ Blk wr w.heap.size 71 #[.int .i64 0, .int .i64 0, .int .i64 0] ∧ Blk wr (w.heap.size + 1) 71 #[.int .i64 (headW s v), .int .i64 (sg (wsum s 0 (min k 8))), .int .i64 (sg (wsum s 8 (k - 8)))] ∧ Below w.heap.size w wr) (fun i _ => s.size - (intOf i).toNat)
  case atStart =>
    refine ⟨0, rfl, by omega, ?_, ?_, ?_⟩
    · exact (Blk.newAt _ _ _ rfl).alloc _
    · rw [show sg (wsum s 0 (min 0 8)) = 0 by simp [sg, wsum, wrap64], show sg (wsum s 8 (0 - 8)) = 0 by simp [sg, wsum, wrap64]]
      exact blk_next _ _ _ _
    · exact (below_alloc _ _).trans ((below_alloc _ _).mono (size_alloc_le _ _))
  case round =>
    obtain ⟨k, rfl, hk, hA, hB, hK⟩ := hrel
    have HA := Lib.hid hA
    have HB := Lib.hid hB
    have a0 := hA.cell 0
    have a1 := hA.cell 1
    have a2 := hA.cell 2
    have g0 := hA.frozen 0
    have g1 := hA.frozen 1
    have g2 := hA.frozen 2
    by_cases hp : k < s.size
    · have hp1 : (k : Int) < (s.size : Int) := by omega
      have hg := Lib.hid (get_at s k hp)
      have hbl := (s[k]'hp).toNat_lt
      have eb : IntKind.i64.wrap ((s[k]'hp).toNat : Int) = ((s[k]'hp).toNat : Int) := IntWalk.i64_in _ (by omega)
      by_cases h8 : k < 8
      · have h81 : (k : Int) < 8 := by omega
        rw [show min k 8 = k by omega] at hB
        have em : IntKind.i64.wrap (8 * (k : Int)) = ((8 * k : Nat) : Int) := by rw [IntWalk.i64_in _ (by omega)]; omega
        have c1 := hB.cell 1
        have f1 := hB.frozen 1
        clear hA hB
        go_upto_region 6 with (fail)
        go_still_tail 11, (by kernel_rfl)
        change wpList _ _ _ _ _ (wr.drewN 1)
        go_wp2_with (fail)
        go_roundw
        case rel =>
          refine ⟨k + 1, by first | rfl | (congr 1; omega), by omega, (show Blk (wr.drewN 1) _ _ _ from HA.out).far (by show w.heap.size ≠ w.heap.size + 1; omega) _, ?_, ?_⟩
          · refine ((show Blk (wr.drewN 1) _ _ _ from HB.out).set_ 1 _).cast (arr3 rfl (congrArg (Value.int .i64) ?_) (congrArg (Value.int .i64) ?_))
            · rw [show min (k + 1) 8 = k + 1 by omega]
              exact sg_step2 s 0 k h8 _ (by rw [Nat.zero_add, hg.out])
            · rw [show k + 1 - 8 = k - 8 by omega]
          · exact (((Keeps.ofBelow hK).drewN 1).below fun _ h => h).setCell (by show w.heap.size ≤ w.heap.size + 1; omega) _
        case measure =>
          simp only [intOf]
          omega
      · have h81 : ¬ (k : Int) < 8 := by omega
        have es : IntKind.i64.wrap ((k : Int) - 8) = ((k - 8 : Nat) : Int) := by rw [IntWalk.i64_in _ (by omega)]; omega
        have em : IntKind.i64.wrap (8 * ((k - 8 : Nat) : Int)) = ((8 * (k - 8) : Nat) : Int) := by rw [IntWalk.i64_in _ (by omega)]; omega
        have c2 := hB.cell 2
        have f2 := hB.frozen 2
        clear hA hB
        go_upto_region 7 with (fail)
        go_still_tail 12, (by kernel_rfl)
        change wpList _ _ _ _ _ (wr.drewN 1)
        go_wp2_with (fail)
        go_roundw
        case rel =>
          refine ⟨k + 1, by first | rfl | (congr 1; omega), by omega, (show Blk (wr.drewN 1) _ _ _ from HA.out).far (by show w.heap.size ≠ w.heap.size + 1; omega) _, ?_, ?_⟩
          · refine ((show Blk (wr.drewN 1) _ _ _ from HB.out).set_ 2 _).cast (arr3 rfl (congrArg (Value.int .i64) ?_) (congrArg (Value.int .i64) ?_))
            · rw [show min (k + 1) 8 = min k 8 by omega]
            · rw [show k + 1 - 8 = k - 8 + 1 by omega]
              exact sg_step2 s 8 (k - 8) (by omega) _ (by rw [show 8 + (k - 8) = k by omega, hg.out])
          · exact (((Keeps.ofBelow hK).drewN 1).below fun _ h => h).setCell (by show w.heap.size ≤ w.heap.size + 1; omega) _
        case measure =>
          simp only [intOf]
          omega
    · have hp1 : ¬ (k : Int) < (s.size : Int) := by omega
      have e : k = s.size := by omega
      subst e
      have c0 := hB.cell 0
      have c1 := hB.cell 1
      have c2 := hB.cell 2
      clear hA hB
      go_wp2_with (fail)
      refine bodyPost_ret (results_cell_row rfl _ _ _ _ _ _ _ (hd := rfl) rfl (((HA.out.set_ 0 _).set_ 1 _).set_ 2 _) Try.underlying71 (by kernel_rfl)) rfl ?_
      exact ⟨rfl, ((hK.setCell (Nat.le_refl _) _).setCell (Nat.le_refl _) _).setCell (Nat.le_refl _) _⟩
end Go.Proofs.Ytkbajjpdngfhbaa
