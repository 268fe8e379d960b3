
/- law6: awake. -/
import Derived.Test.YtokldnmhhhaalaaRefs8
import Derived.Test.YtokldnmhhhaalaaInts
import Derived.Test.YtokldnmhhhaalaaWords
namespace Go.Proofs.Ytokldnmhhhaalaa
open Go.RowKit
set_option maxHeartbeats 1000000

section
variable {L : Nat → Prop} {w : World} {a x : Nat} {n m : Nat} {f o : Int} {T : Int → Int → Int}
theorem rsGlobalV (h : RS L w x a f o n m T) (j : Int) (hj : 0 ≤ j ∧ j < o) {v : Int} (hv : T n j = v) :
    Calls Try.prog 17 #[.pointer (some ⟨x, 0, none⟩), .int .i64 j] w fun e w' => e = .returned (.tuple #[.int .i64 v, .int .i64 0]) ∧ ∃ d, w' = w.drewN d := by
  subst hv
  exact rsGlobalN h j hj
theorem rsTotalV {i : Int} (h : RS L w x a f o n m T) (hT : TOk T n o i) (j : Int) (hj : 0 ≤ j ∧ j < o) {v : Int} (hv : T n j + sumP T j n = v) :
    Calls Try.prog 18 #[.pointer (some ⟨x, 0, none⟩), .int .i64 j] w fun e w' => e = .returned (.tuple #[.int .i64 v, .int .i64 0]) ∧ ∃ d, w' = w.drewN d := by
  subst hv
  exact rsTotal h hT j hj
theorem rsEpochV (h : RS L w x a f o n m T) {v : Int} (hv : T n o = v) :
    Calls Try.prog 20 #[.pointer (some ⟨x, 0, none⟩)] w fun e w' => e = .returned (.int .i64 v) ∧ ∃ d, w' = w.drewN d := by
  subst hv
  exact rsEpochN h
theorem rsNew {N : Nat} (h : ArP L w a (List.replicate N 0) n m fun _ => True) (f o : Int) (hf : 0 ≤ f) (ho : 1 ≤ o ∧ o ≤ 60) (hn0 : 1 ≤ n) (hl : f + (o + 2) * ((n : Int) + 2) ≤ N) :
    Calls Try.prog 13 #[.pointer (some ⟨a, 0, none⟩), .int .i64 f, .int .i64 o] w fun e w' => ∃ x, e = .returned (.tuple #[.pointer (some ⟨x, 0, none⟩), .int .i64 0]) ∧
      RS (ins L x) w' x a f o n m (fun _ _ => 0) ∧ Keeps L w w' := by
  have hnl := h.tsl
  refine (rnew_ok h f o hf ho hn0 hl).mono ?_
  rintro e w' ⟨x, rfl, hx, _, _, hA, hK⟩
  exact ⟨x, rfl, ⟨hx, _, Mx.zero hf ho ⟨hn0, hnl⟩ (by rw [Int.mul_comm]; omega), hA⟩, hK⟩
end

set_option maxRecDepth 100000 in
theorem awake6 (w : World) : Calls Try.prog 11 #[] w fun e w' => e = .returned (.bool true) ∧ Below w.heap.size w w' := by
  go_enter Try.func11, Try.ntmps11
  go_wp2_with (go_at_call 19; refine (num_calls _ _).mono ?_; rintro e w' ⟨rfl, rfl⟩)
  refine (new_to (ws := List.replicate 100 0) (ts := List.replicate 2 []) (Bd.below w) (by omega) (by omega) rfl rfl).mono ?_
  rintro e w1 ⟨a, rfl, hA, hK⟩
  go_wp2_with (go_at_call 19; refine (num_calls _ _).mono ?_; rintro e w' ⟨rfl, rfl⟩)
  have hP1 : ArP (fun b => b < w.heap.size) w1 a (List.replicate 100 0) 2 0 (fun _ => True) := ArP.new 2 trivial hA
  refine (rsNew hP1 0 3 (by omega) (by omega) (by omega) (by omega)).mono ?_
  rintro e w2 ⟨x, rfl, hS2, hK2⟩
  go_wp2_with (go_at_call 19; refine (num_calls _ _).mono ?_; rintro e w' ⟨rfl, rfl⟩)
  refine (rsInc hS2 (by omega) TOk.zero 0 1 (by omega) (by omega)).mono ?_
  rintro e w3 ⟨rfl, hS3, hK3⟩
  have hT3 : TOk (cntT (fun _ _ => 0) 3 0 1 ((fun _ _ => 0) 0 1 + 1)) 2 3 (0 + 1) := TOk.zero.count (by omega) (by omega) (by omega) (by omega) (.inl rfl)
  go_wp2_with (go_at_call 19; refine (num_calls _ _).mono ?_; rintro e w' ⟨rfl, rfl⟩)
  refine (rsDec hS3 (by omega) hT3 1 1 (by omega) (by omega)).mono ?_
  rintro e w4 ⟨rfl, hS4, hK4⟩
  have hT4 := hT3.count (by omega) (by omega) (c := 1) (j := 1) (b := -1) (by omega) (by omega) (.inr rfl)
  go_wp2_with (go_at_call 19; refine (num_calls _ _).mono ?_; rintro e w' ⟨rfl, rfl⟩)
  refine (rsFlush hS4 (by omega) hT4 0 (by omega)).mono ?_
  rintro e w5 ⟨rfl, hS5, hK5⟩
  have hT5 := hT4.flush (by omega) (c := 0) (by omega)
  go_wp2_with (go_at_call 19; refine (num_calls _ _).mono ?_; rintro e w' ⟨rfl, rfl⟩)
  refine (rsGlobalV hS5 1 (by omega) (v := 1) (by decide)).mono ?_
  rintro e w6 ⟨rfl, d6, rfl⟩
  go_wp2_with (go_at_call 19; refine (num_calls _ _).mono ?_; rintro e w' ⟨rfl, rfl⟩)
  refine (rsTotalV (hS5.drewN _) hT5 1 (by omega) (v := 0) (by decide)).mono ?_
  rintro e w7 ⟨rfl, d7, rfl⟩
  go_wp2_with (go_at_call 19; refine (num_calls _ _).mono ?_; rintro e w' ⟨rfl, rfl⟩)
  refine (rGlobal_obj (hS5.drewN _).rc 3 (by omega)).mono ?_
  rintro e w' ⟨rfl, rfl⟩
  go_wp2_with (go_at_call 19; refine (num_calls _ _).mono ?_; rintro e w' ⟨rfl, rfl⟩)
  refine (rsInc_core (hS5.drewN _) 2 0 (by omega)).mono ?_
  rintro e w' ⟨rfl, rfl⟩
  go_wp2_with (go_at_call 19; refine (num_calls _ _).mono ?_; rintro e w' ⟨rfl, rfl⟩)
  refine (rsEpochV (hS5.drewN _) (v := 0) (by decide)).mono ?_
  rintro e w8 ⟨rfl, d8, rfl⟩
  go_wp2_with (go_at_call 19; refine (num_calls _ _).mono ?_; rintro e w' ⟨rfl, rfl⟩)
  go_ret
  exact ⟨rfl, below_drewN' ((hK.trans (hK2.trans (((hK3.trans hK4).trans hK5).out))).below fun _ h => h) _⟩
end Go.Proofs.Ytokldnmhhhaalaa
