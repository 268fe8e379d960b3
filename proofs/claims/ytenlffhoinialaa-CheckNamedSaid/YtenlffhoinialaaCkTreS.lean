
/- check: is it open? -/
import Derived.Test.YtenlffhoinialaaCkFnd
namespace Go.Proofs.Ytenlffhoinialaa
open Go.RowKit
set_option maxHeartbeats 1000000

def isOpenB (S : St) (x : Int) : Bool := (List.range S.opens.length).any fun i => S.on i == x
set_option maxRecDepth 1000000 in
theorem tree1_calls {w : World} {xg : Nat} {x : Int} (h : w.cell? ⟨xg, 0, none⟩ = some (.int .i64 x)) (a b n : Int) :
    Calls Try.prog 77 #[.agg #[.int .i64 a, .int .i64 b, .int .i64 n], .pointer (some ⟨xg, 0, none⟩)] w fun e w' => e = .returned (.bool (n == x)) ∧ Below w.heap.size w w' := by
  have hlt := World.block_lt_of_cell? w _ h
  have hne := World.new_ne w _ h
  have hx : (w.alloc (.cells #[.int .i64 a, .int .i64 b, .int .i64 n] 60)).cell? ⟨xg, 0, none⟩ = some (.int .i64 x) := (Below.cell ((Below.refl _ _).alloc (Nat.le_refl _) _) hlt).trans h
  go_enter Try.func77, Try.ntmps77
  go_wp2_with (fail)
  go_ret
  exact ⟨rfl, (Below.refl _ _).alloc (Nat.le_refl _) _⟩
set_option maxRecDepth 1000000 in
theorem indexFunc_calls {w : World} {xg : Nat} {x : Int} {ov : Value} {S : St} (h : w.cell? ⟨xg, 0, none⟩ = some (.int .i64 x)) (hO : RowAt w ov S.opens.length 3 (opnC S)) (hn : S.opens.length ≤ 1000) :
    Calls Try.prog 102 #[ov, .func (.func 77) #[] #[.pointer (some ⟨xg, 0, none⟩)]] w fun e w' => ∃ r : Int, e = .returned (.int .i64 r) ∧ decide (0 ≤ r) = isOpenB S x ∧ Below w.heap.size w w' := by
  obtain ⟨A, cap, rfl⟩ := hO.form
  have HO := Lib.hid hO
  have HX := Lib.hid h
  have hlt := World.block_lt_of_cell? w _ h
  have HLT := Lib.hid hlt
  have HY := Lib.hid (show isOpenB S x = (List.range S.opens.length).any fun i => S.on i == x from rfl)
  clear hO h hlt
  obtain ⟨n, hnn⟩ : ∃ n, S.opens.length = n := ⟨_, rfl⟩
  rw [hnn] at hn HO HY ⊢
  clear hnn
  go_enter Try.func102, Try.ntmps102
  go_wp2_with (fail)
  go_loopw [8] (fun i wr => ∃ k : Nat, i = .int .i64 k ∧ k ≤ n ∧ (∀ j, j < k → (S.on j == x) = false) ∧ Below w.heap.size w wr) (fun i _ => n - (intOf i).toNat)
  case atStart => exact ⟨0, rfl, by omega, fun j hj => absurd hj (by omega), Below.refl _ _⟩
  case round =>
    obtain ⟨k, rfl, hk, hlt, hB⟩ := hrel
    have HL := Lib.hid hlt
    have HB := Lib.hid hB
    clear hlt hB
    by_cases hp : k < n
    · obtain ⟨-, hcap, g, off, rfl, hcell⟩ := (HO.out.keep HB.out).at_ hp
      have q0 : wr.cell? ⟨g, off + k * 3, none⟩ = some (.int .i64 (S.oc k)) := hcell 0 (by omega)
      have q1 : wr.cell? ⟨g, off + k * 3 + 1, none⟩ = some (.int .i64 (S.of k)) := hcell 1 (by omega)
      have q2 : wr.cell? ⟨g, off + k * 3 + 2, none⟩ = some (.int .i64 (S.on k)) := hcell 2 (by omega)
      have hp1 : (k : Int) < n := by omega
      have HC := Lib.hid (tree1_calls (w := wr) ((HB.out.cell (p := ⟨xg, 0, none⟩) HLT.out).trans HX.out) (S.oc k) (S.of k) (S.on k))
      clear hcell
      generalize hb : (S.on k == x) = bb at *
      have HBB := Lib.hid hb
      clear hb
      rcases bool_tf bb with rfl | rfl
      · have HE := Lib.hid (show isOpenB S x = true by rw [HY.out, List.any_eq_true]; exact ⟨k, by simpa using hp, HBB.out⟩)
        go_wp2_with (fail)
        refine HC.out.mono ?_
        rintro e w1 ⟨rfl, hB1⟩
        have HB1 := Lib.hid (HB.out.trans (hB1.mono HB.out.size))
        clear hB1
        go_wp2_with (fail)
        go_ret
        exact ⟨k, rfl, by rw [HE.out]; simp, HB1.out⟩
      · go_wp2_with (fail)
        refine HC.out.mono ?_
        rintro e w1 ⟨rfl, hB1⟩
        have HB1 := Lib.hid (HB.out.trans (hB1.mono HB.out.size))
        clear hB1
        go_wp2_with (fail)
        go_roundw
        case rel =>
          refine ⟨k + 1, by go_num, by omega, fun j hj => ?_, HB1.out⟩
          by_cases h : j = k
          · subst h; exact HBB.out
          · exact HL.out j (by omega)
        case measure =>
          simp only [intOf]
          omega
    · have e : k = n := by omega
      subst e
      have HE := Lib.hid (show isOpenB S x = false by
        rw [HY.out, List.any_eq_false]
        intro j hj
        rw [HL.out j (by simpa using hj)]
        decide)
      go_wp2_with (fail)
      go_ret
      exact ⟨-1, rfl, by rw [HE.out]; rfl, HB.out⟩
set_option maxRecDepth 1000000 in
theorem containsFunc_calls {w : World} {xg : Nat} {x : Int} {ov : Value} {S : St} (h : w.cell? ⟨xg, 0, none⟩ = some (.int .i64 x)) (hO : RowAt w ov S.opens.length 3 (opnC S)) (hn : S.opens.length ≤ 1000) :
    Calls Try.prog 76 #[ov, .func (.func 77) #[] #[.pointer (some ⟨xg, 0, none⟩)]] w fun e w' => e = .returned (.bool (isOpenB S x)) ∧ Below w.heap.size w w' := by
  have HI := Lib.hid (indexFunc_calls h hO hn)
  clear hO h
  go_enter Try.func76, Try.ntmps76
  go_wp2_with (fail)
  refine HI.out.mono ?_
  rintro e w1 ⟨r, rfl, hr, hB1⟩
  have HR := Lib.hid hr
  have HB := Lib.hid hB1
  clear hr hB1
  go_wp2_with (fail)
  go_ret
  exact ⟨by first | rfl | (rw [HR.out]; rfl), HB.out⟩
end Go.Proofs.Ytenlffhoinialaa
