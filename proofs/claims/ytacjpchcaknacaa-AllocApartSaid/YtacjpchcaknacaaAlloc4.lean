
/- alloc: New; law4's awake. -/
import Derived.Test.YtacjpchcaknacaaAlloc3
import Derived.Test.YtacjpchcaknacaaTraces
namespace Go.Proofs.Ytacjpchcaknacaa
open Go.RowKit
set_option maxHeartbeats 1000000

section
variable {L : Nat → Prop} {w : World} {a : Nat} {ws : List Int} {n m : Nat} {P : List (List Acc) → Prop}
/-- The words of a range are 0. -/
def Zeros4 (ws : List Int) (f k : Int) : Prop := ∀ i, f ≤ i → i < f + k → rd ws i = 0
theorem anew_ok (h : ArP L w a ws n m P) (f v s k : Int) (hn : 1 ≤ n) (hf : 0 ≤ f) (hv : 64 * (n : Int) ≤ v) (hl : f + v ≤ ws.length) (hs : v.tdiv n = s) (hs0 : 0 ≤ s ∧ s ≤ 65536) (hk : (s + 61) / 62 = k) (hz : Zeros4 ws f v) :
    Calls Try.prog 30 #[.pointer (some ⟨a, 0, none⟩), .int .i64 f, .int .i64 v] w fun e w' => ∃ x, e = .returned (.tuple #[.pointer (some ⟨x, 0, none⟩), .int .i64 0]) ∧
      AlcAt (ins L x) w' x a f s k ∧ ¬ L x ∧ w.heap.size ≤ x ∧ ArP (ins L x) w' a ws n m P ∧ Keeps L w w' := by
  have hwl := h.wsl
  have hnl := h.tsl
  have HCO := Lib.hid (fun W (h : ArP L W a ws n m P) => cores_p h)
  have hfi := Lib.hid (fits_yes_p h f v hf (by omega) (by omega))
  have HZ := Lib.hid hz
  have HA := Lib.hid h
  clear h hz
  have hf' : ¬ f < 0 := by omega
  have hn0 : ((n : Int) == 0) = false := by simp; omega
  have hnn : (n : Int) ≠ 0 := by omega
  have e1 : IntKind.i64.wrap (64 * (n : Int)) = 64 * (n : Int) := IntWalk.i64_in _ (by omega)
  have hv' : ¬ v < 64 * (n : Int) := by omega
  have e2 : IntKind.i64.wrap (v.tdiv n) = s := by rw [hs]; exact IntWalk.i64_in _ (by omega)
  have e3 : IntKind.i64.wrap (s + 62) = s + 62 := IntWalk.i64_in _ (by omega)
  have e4 : IntKind.i64.wrap (s + 62 - 1) = s + 61 := by rw [show s + 62 - 1 = s + 61 by omega]; exact IntWalk.i64_in _ (by omega)
  have e5 : IntKind.i64.wrap ((s + 61).tdiv 62) = k := by rw [Int.tdiv_eq_ediv_of_nonneg (by omega), hk]; exact IntWalk.i64_in _ (by omega)
  have e6 : (s + 61).tdiv 62 = k := by rw [Int.tdiv_eq_ediv_of_nonneg (by omega), hk]
  have hk0 : 0 ≤ k ∧ k ≤ 2000 := by omega
  clear hk
  go_enter Try.func30, Try.ntmps30
  go_wp2_with (first
    | (go_at_call 51; refine (HCO.out _ HA.out).mono ?_; rintro e w' ⟨rfl, rfl⟩)
    | (go_at_call 55; refine hfi.out.mono ?_; rintro e w' ⟨rfl, rfl⟩))
  clear e1 e2 e3 e4 e5 e6
  have HX := Lib.hid (show AlcAt (ins L w.heap.size) (w.alloc (.cells #[.pointer (some ⟨a, 0, none⟩), .int .i64 f, .int .i64 s, .int .i64 k] 95)) w.heap.size a f s k ∧ ArP (ins L w.heap.size) (w.alloc (.cells #[.pointer (some ⟨a, 0, none⟩), .int .i64 f, .int .i64 s, .int .i64 k] 95)) a ws n m P ∧
      Keeps L w (w.alloc (.cells #[.pointer (some ⟨a, 0, none⟩), .int .i64 f, .int .i64 s, .int .i64 k] 95)) from
    ⟨⟨ins.new _ _, Blk.new _ _ _, ⟨hf, by omega⟩, hs0, hk0⟩, HA.out.allocIns _, (Keeps.refl L w).alloc HA.out.bd _⟩)
  have HN := Lib.hid HA.out.bd.new
  have HXW := Lib.hid (rfl : w.heap.size = w.heap.size)
  go_loopw [45] (fun i wr => ∃ t : Int, i = .int .i64 t ∧ 0 ≤ t ∧ t ≤ v ∧ AlcAt (ins L w.heap.size) wr w.heap.size a f s k ∧ ArP (ins L w.heap.size) wr a ws n m P ∧ Keeps L w wr) (fun i _ => (v - intOf i).toNat)
  case atStart => exact ⟨0, rfl, by omega, by omega, HX.out⟩
  case round =>
    clear HX
    obtain ⟨t, rfl, ht0, ht1, hx, hA, hK⟩ := hrel
    by_cases hlt : t < v
    · have e1 : IntKind.i64.wrap (f + t) = f + t := IntWalk.i64_in _ (by omega)
      have HX := Lib.hid hx
      clear hx
      go_wp2_with (fail)
      refine (poke_p (ws' := ws) hA (i := f + t) (v := 0) ⟨by omega, by omega⟩ (wr_rd (HZ.out _ (by omega) (by omega)) ⟨by omega, by omega⟩)).mono ?_
      rintro e w4 ⟨rfl, hA4, hK4⟩
      clear e1
      go_wp2_with (fail)
      go_roundw
      case rel => exact ⟨t + 1, by go_num, by omega, by omega, HX.out.keep hK4, hA4, hK.trans hK4.out⟩
      case measure => simp [intOf]; omega
    · have HX := Lib.hid hx
      clear hx
      go_wp2_with (fail)
      go_ret2
      exact ⟨_, rfl, HX.out, HN.out, Nat.le_refl _, hA, hK⟩
theorem anew_small (h : ArP L w a ws n m P) (f v : Int) (hf : 0 ≤ f) (hv : v < 64 * (n : Int)) :
    Calls Try.prog 30 #[.pointer (some ⟨a, 0, none⟩), .int .i64 f, .int .i64 v] w fun e w' => e = .returned (.tuple #[.pointer none, .int .i64 400]) ∧ w = w' := by
  have hnl := h.tsl
  have hco := Lib.hid (cores_p h)
  have hf' : ¬ f < 0 := by omega
  have e1 : IntKind.i64.wrap (64 * (n : Int)) = 64 * (n : Int) := IntWalk.i64_in _ (by omega)
  clear h
  have hvd : decide (v < 64 * (n : Int)) = true := by simpa using hv
  go_enter Try.func30, Try.ntmps30
  go_wp2_with (fail)
  refine hco.out.mono ?_
  rintro e w' ⟨rfl, rfl⟩
  go_wp2_with (fail)
  go_ret2
  exact ⟨rfl, rfl⟩
end

theorem free_all (q r : Int) : Free (fun _ => false) q r := fun _ _ _ => rfl

set_option maxRecDepth 100000 in
theorem awake4 (w : World) : Calls Try.prog 35 #[] w fun e w' => e = .returned (.bool true) ∧ Below w.heap.size w w' := by
  go_enter Try.func35, Try.ntmps35
  go_wp2_with (fail)
  refine (new_to (ws := List.replicate 300 0) (ts := List.replicate 2 []) (Bd.below w) (by omega) (by omega) rfl rfl).mono ?_
  rintro e w1 ⟨a, rfl, hA, hK⟩
  have hP1 : ArP (fun b => b < w.heap.size) w1 a (List.replicate 300 0) 2 0 (fun _ => True) := ArP.new 2 trivial hA
  go_wp2_with (fail)
  refine (anew_ok hP1 10 256 128 3 (by omega) (by omega) (by omega) (by simp) (by decide) (by omega) (by omega) (fun i _ _ => rd_rep _ _)).mono ?_
  rintro e w2 ⟨x, rfl, hx, nx, _, hP2, hK2⟩
  have hS2 : Sh (List.replicate 300 0) 10 3 122 (fun _ => false) (fun _ => false) := Sh.zero (by omega) (by omega) (by omega) (by omega) (by simp) (fun i _ _ => rd_rep _ _)
  go_wp2_with (fail)
  refine (aget_calls hx hP2 (by omega) hS2 0 (b := 10) (by omega) (by omega) (by omega) 5 (by omega) (Cl.true_ _ _ _)).mono ?_
  rintro e w3 hG
  rcases hG with ⟨q, q0, q1, hF, hmin, rfl, ws3, hS3, hW3, hP3, hK3⟩ | ⟨hno, _⟩
  rotate_left
  · exact absurd (fun _ _ _ => rfl) (hno 0 (by omega) (by omega))
  obtain rfl : q = 0 := by
    rcases Int.lt_or_le 0 q with h | h
    · exact absurd (fun _ _ _ => rfl) (hmin 0 (by omega) h)
    · omega
  have hx3 := hx.keep hK3
  clear hmin hF
  go_wp2_with (fail)
  refine (afree_ok hx3 hP3 (by omega) hS3 0 (b := 10) (by omega) (by omega) (by omega) 0 5 (by omega) (by omega) (by simp [updB]) ⟨by omega, by omega, fun i h1 h2 => ⟨by unfold upto; rw [if_pos (by omega)], by unfold updB; rw [if_neg (by omega)]⟩⟩ (.inr (.inl (by unfold upto; rw [if_neg (by omega)]))) (Cl.true_ _ _ _)).mono ?_
  rintro e w4 ⟨rfl, ws4, hS4, hW4, hP4, hK4⟩
  have hx4 := hx3.keep hK4
  go_wp2_with (fail)
  refine (afree_none hx4 hP4 (by omega) hS4 0 (b := 10) (by omega) (by omega) (by omega) 0 (by omega) (by omega) (by simp [updB]) (Cl.true_ _ _ _)).mono ?_
  rintro e w5 ⟨rfl, hP5, hK5⟩
  have hx5 := hx4.keep hK5
  go_wp2_with (fail)
  refine (aget_bad hx5 hP5 2 1 (by omega)).mono ?_
  rintro e w' ⟨rfl, rfl⟩
  go_wp2_with (fail)
  refine (anew_small hP5 0 100 (by omega) (by omega)).mono ?_
  rintro e w' ⟨rfl, rfl⟩
  go_wp2_with (go_at_call 18; refine (num_calls _ _).mono ?_; rintro e w' ⟨rfl, rfl⟩)
  go_ret
  exact ⟨rfl, (hK.trans (hK2.trans (((hK3.trans hK4).trans hK5).out))).below fun _ h => h⟩
end Go.Proofs.Ytacjpchcaknacaa
