
/- law7: RadixReads. -/
import Derived.Test.YtacjpchcaknacaaLawRad
import Derived.Test.YtacjpchcaknacaaRad2
import Derived.Test.YtacjpchcaknacaaTraces
namespace Go.Proofs.Ytacjpchcaknacaa
open Go.RowKit
set_option maxHeartbeats 400000

theorem below_undrewN {B k : Nat} {w w' : World} (h : Below B (w.drewN k) w') : Below B w w' := ⟨h.os, h.tape, h.output, h.size, h.block⟩
/-- Core 1 has only looked; behind the first look it has looked. -/
def RO (k : Nat) (ts : List (List Acc)) : Prop := (∀ y ∈ tr ts 1, y.2 = false) ∧ (0 < k → tr ts 1 ≠ [])
theorem RO.step {k : Nat} {ts : List (List Acc)} (hl : ts.length = 2) (h : RO k ts) {y : Acc} (hy : y.2 = false) (k' : Nat) : RO k' (noted ts 1 y) := by
  have e := tr_noted (ts := ts) (c := 1) (d := 1) y ⟨by omega, by omega⟩ (by omega)
  rw [if_pos rfl] at e
  refine ⟨fun z hz => ?_, fun _ => ?_⟩
  · rw [e] at hz
    rcases List.mem_append.1 hz with hz | hz
    · exact h.1 z hz
    · obtain rfl : z = y := by simpa using hz
      exact hy
  · rw [e]; simp
theorem rdSet.ro {f p : Int} {y : Acc} (h : rdSet f p y) : y.2 = false := by rcases h with rfl | rfl <;> rfl
theorem RO.cl (k : Nat) (f p : Int) : Cl 2 (RO k) 1 (rdSet f p) := fun _ _ hl h hy => h.step hl hy.ro k
theorem RO.clear (ts : List (List Acc)) (hl : ts.length = 2) : RO 0 (ts.set (1 : Int).toNat []) := by
  have e : tr (ts.set (1 : Int).toNat []) 1 = [] := by
    simp [tr, List.getD, hl]
  exact ⟨fun y hy => by rw [e] at hy; simp at hy, fun h => absurd h (by omega)⟩

/-- The numbers are g, none below 0; the traces are in P. -/
structure RadP (L : Nat → Prop) (w1 wr : World) (x a n m : Nat) (P : List (List Acc) → Prop) : Prop where
  keeps : Below w1.heap.size w1 wr
  rad : RadAt L wr x a 0
  rest : ∃ ws g, Rx ws 0 g ∧ (∀ p, 0 ≤ p → p < 16 → 0 ≤ g p) ∧ ArP L wr a ws n m P

set_option maxRecDepth 100000 in
theorem rreads_walk (w : World) {A : Option Addr} {len cap : Nat} {xs : List Int} (hx : Ints w A len cap xs) :
    Calls Try.prog 14 #[.slice A len cap] w fun e w' => e = .returned (.bool true) ∧ Below w.heap.size w w' := by
  have hle := hx.len_le
  have HX := Lib.hid hx
  clear hx
  go_enter Try.func14, Try.ntmps14
  go_wp2_with (go_at_call 18; refine (num_calls _ _).mono ?_; rintro e w' ⟨rfl, rfl⟩)
  refine (awake7 w).mono ?_
  rintro e w1 ⟨rfl, hB⟩
  go_wp2_with (go_at_call 18; refine (num_calls _ _).mono ?_; rintro e w' ⟨rfl, rfl⟩)
  refine (new_to (ws := List.replicate 256 0) (ts := List.replicate 2 []) (Bd.below w1) (by omega) (by omega) rfl rfl).mono ?_
  rintro e w2 ⟨a, rfl, hA, hK⟩
  go_wp2_with (go_at_call 18; refine (num_calls _ _).mono ?_; rintro e w' ⟨rfl, rfl⟩)
  have hP1 : ArP (fun b => b < w1.heap.size) w2 a (List.replicate 256 0) 2 0 (fun _ => True) := ArP.new 2 trivial hA
  refine (rad_new_ok hP1 0 256 (by omega) (by omega) (by simp) (fun i _ _ => rd_rep _ _)).mono ?_
  rintro e w3 ⟨x, rfl, hx, nx, _, hP2, hK2⟩
  go_wp2_with (go_at_call 18; refine (num_calls _ _).mono ?_; rintro e w' ⟨rfl, rfl⟩)
  have HB := Lib.hid hB
  have HS : RadP (ins (fun b => b < w1.heap.size) x) w1 w3 x a 2 0 (fun _ => True) := ⟨(hK.trans hK2).below fun _ h => h, hx, _, _, Rx.zero (by omega) (by simp) (fun i => rd_rep _ _), fun _ _ _ => Int.le_refl _, hP2⟩
  have LL := Lib.hid (show ∀ b, b < w1.heap.size → ins (fun b => b < w1.heap.size) x b from fun b h => ins.old h)
  clear hB hA hK hP1 hx nx hP2 hK2
  generalize ins (fun b => b < w1.heap.size) x = L at *
  go_loopw [7] (fun i wr => ∃ k : Nat, i = .int .i64 k ∧ k ≤ len ∧ k ≤ 40 ∧ RadP L w1 wr x a 2 (48 * k) (fun _ => True)) (fun i _ => len - (intOf i).toNat)
  case atStart => exact ⟨0, rfl, by omega, by omega, HS⟩
  case round =>
    clear HS
    obtain ⟨k, rfl, hk, hk1, hbel, hx, ws, g, hr, hg, hP⟩ := hrel
    have HR := Lib.hid hr
    have HG := Lib.hid hg
    clear hr hg
    by_cases hboth : k < len ∧ k < 40
    · obtain ⟨hlt, hlt2⟩ := hboth
      have hb : Below w.heap.size w wr := bel_then HB.out hbel
      obtain ⟨gg, off, rfl, hcell0, hv1, hv2⟩ := HX.out.at_ hlt (Below.refl _ w)
      have hgl := World.block_lt_of_cell? w _ hcell0
      have hcell := (hb.cell hgl).trans hcell0
      have HLg := Lib.hid (LL.out gg (Nat.lt_of_lt_of_le hgl HB.out.size))
      clear hcell0 hgl
      clear hb
      generalize nth xs k = p at *
      have hlt3 : (k : Int) < 40 := by omega
      have hq : 0 ≤ p.tdiv 8 % 16 ∧ p.tdiv 8 % 16 < 16 := by omega
      have hv : 0 ≤ p % 256 := by omega
      by_cases hp : p % 8 = 7
      · have hp1 : (p % 8 == 7) = true := by simpa using hp
        go_wp2_with (go_at_call 18; refine (num_calls _ _).mono ?_; rintro e w' ⟨rfl, rfl⟩)
        refine (rCut_ok hx hP (by omega) HR.out HG.out 0 (p.tdiv 8 % 16) (by omega) (by omega) (Cl.true_ _ _ _)).mono ?_
        rintro e w4 ⟨rfl, ws4, hl4, hr4, hP4, hK4⟩
        have hx4 := hx.keep hK4
        have HR4 := Lib.hid hr4
        clear hr4
        go_wp2_with (go_at_call 18; refine (num_calls _ _).mono ?_; rintro e w' ⟨rfl, rfl⟩)
        go_roundw
        case rel => exact ⟨k + 1, by go_num, by omega, by omega, hbel.trans (hK4.below LL.out), hx4, ws4, _, HR4.out, fun q q0 q1 => by unfold cutf; split; exact Int.le_refl _; exact HG.out q q0 q1, hP4.mono (by omega)⟩
        case measure => simp [intOf]; omega
      · have hp1 : (p % 8 == 7) = false := by simpa using hp
        go_wp2_with (go_at_call 18; refine (num_calls _ _).mono ?_; rintro e w' ⟨rfl, rfl⟩)
        have htd : -9223372036854775808 ≤ p.tdiv 8 ∧ p.tdiv 8 ≤ 9223372036854775807 := by
          have h8 := Int.natAbs_tdiv p 8
          have : (p.tdiv 8).natAbs = p.natAbs / 8 := h8
          omega
        have hwq : IntKind.i64.wrap (p.tdiv 8) = p.tdiv 8 := IntWalk.i64_in _ htd
        have hset := Lib.hid (rSet_ok (w := wr.drew) ⟨hx.1, hx.2⟩ hP.drew (by omega) HR.out 0 (p.tdiv 8 % 16) (p % 256) (by omega) (by omega) hv (Cl.true_ _ _ _))
        go_region_held3 (fun w' => w'.cell? ⟨gg, off + k, none⟩ = some (.int .i64 p)) (first | exact hcell | exact hK4.cellOf HLg.out hcell)
          ((go_at_call 37; refine hset.out.mono ?_; rintro e w4 ⟨rfl, ws4, hl4, hr4, hP4, hK4⟩))
        have hK4 := hK4.undrew
        have hx4 := hx.keep hK4
        have HR4 := Lib.hid hr4
        clear hr4
        go_wp2_with (go_at_call 18; refine (num_calls _ _).mono ?_; rintro e w' ⟨rfl, rfl⟩)
        go_roundw
        case rel => exact ⟨k + 1, by go_num, by omega, by omega, hbel.trans (hK4.below LL.out), hx4, ws4, _, HR4.out, fun q q0 q1 => by unfold upd; split; exact hv; exact HG.out q q0 q1, hP4.mono (by omega)⟩
        case measure => simp [intOf]; omega
    · have hor : k = len ∨ (k < len ∧ ¬ (k : Int) < 40) := by omega
      clear hboth
      rcases hor with rfl | ⟨hlt, hlt3⟩
      all_goals (
        go_wp2_with (go_at_call 18; refine (num_calls _ _).mono ?_; rintro e w' ⟨rfl, rfl⟩)
        refine (clear_p (P' := RO 0) hP (c := 1) (by omega) (fun ts hl _ => RO.clear ts hl)).mono ?_
        rintro e w4 ⟨rfl, hP4, hK4⟩
        have hx4 := hx.keep hK4
        have hbel4 := hbel.trans (hK4.below LL.out)
        have hP5 := hP4.mono (show 48 * k ≤ 2000 by omega)
        have HS : Below w1.heap.size w1 w4 ∧ RadAt L w4 x a 0 ∧ ArP L w4 a ws 2 2000 (RO 0) := ⟨hbel4, hx4, hP5⟩
        clear hP hK4 hx hbel hP4 hbel4 hx4 hP5
        go_wp2_with (go_at_call 18; refine (num_calls _ _).mono ?_; rintro e w' ⟨rfl, rfl⟩)
        go_loopw [8] (fun i wr => ∃ j : Nat, i = .int .i64 j ∧ j ≤ 16 ∧ Below w1.heap.size w1 wr ∧ RadAt L wr x a 0 ∧ ArP L wr a ws 2 (2000 + 2 * j) (RO j)) (fun i _ => 16 - (intOf i).toNat)
        case atStart => exact ⟨0, rfl, by omega, HS⟩
        case round =>
          clear HS
          obtain ⟨j, rfl, hj, hbel, hx, hP⟩ := hrel
          by_cases hj16 : j < 16
          · have hj' : (j : Int) < 16 := by omega
            go_wp2_with (go_at_call 18; refine (num_calls _ _).mono ?_; rintro e w' ⟨rfl, rfl⟩)
            refine (rGet_ok2 (P' := RO (j + 1)) hx hP (by omega) HR.out 1 j (by omega) (by omega) (fun ts y hl h hy => h.step hl hy.ro _) (RO.cl _ _ _)).mono ?_
            rintro e w5 ⟨rfl, hP5, hK5⟩
            have hx5 := hx.keep hK5
            go_wp2_with (go_at_call 18; refine (num_calls _ _).mono ?_; rintro e w' ⟨rfl, rfl⟩)
            go_roundw
            case rel => exact ⟨j + 1, by go_num, by omega, hbel.trans (hK5.below LL.out), hx5, hP5.mono (by omega)⟩
            case measure => simp [intOf]; omega
          · have hj' : ¬ (j : Int) < 16 := by omega
            have hj0 : 0 < j := by omega
            go_wp2_with (go_at_call 18; refine (num_calls _ _).mono ?_; rintro e w' ⟨rfl, rfl⟩)
            refine (rPages_ok hx hP (by omega) HR.out 1 (by omega) (fun p _ _ => RO.cl _ _ p)).mono ?_
            rintro e w5 ⟨v5, rfl, _, hP5, hK5⟩
            have hP5' := hP5.sub (L' := L) fun _ h => .inl h
            have hbel5 := hbel.trans (hK5.below LL.out)
            clear hP5 hK5 hx hP hbel
            go_wp2_with (go_at_call 18; refine (num_calls _ _).mono ?_; rintro e w' ⟨rfl, rfl⟩)
            refine (trace_p hP5' (by omega) (c := 1) (by omega) (Q := fun t => (∀ y ∈ t, y.2 = false) ∧ t ≠ []) (fun ts _ h => ⟨h.1, h.2 hj0⟩)).mono ?_
            rintro e w6 ⟨v6, t6, rfl, ⟨hq1, _⟩, hl6, hs6, hB6⟩
            have hP6 := hP5'.below hB6
            go_wp2_with (go_at_call 18; refine (num_calls _ _).mono ?_; rintro e w' ⟨rfl, rfl⟩)
            refine (words_none t6 v6 _ hs6 hl6 hq1).mono ?_
            rintro e w7 ⟨rfl, d7, rfl⟩
            clear hq1 hs6
            go_wp2_with (go_at_call 18; refine (num_calls _ _).mono ?_; rintro e w' ⟨rfl, rfl⟩)
            refine (trace_p (hP6.drewN d7) (by omega) (c := 1) (by omega) (Q := fun t => (∀ y ∈ t, y.2 = false) ∧ t ≠ []) (fun ts _ h => ⟨h.1, h.2 hj0⟩)).mono ?_
            rintro e w8 ⟨v8, t8, rfl, ⟨_, hq2⟩, hl8, hs8, hB8⟩
            obtain ⟨_, A8, cap8, rfl, _, _⟩ := hs8
            have hpos : 0 < t8.length := List.length_pos_iff.2 hq2
            clear hq2
            generalize t8.length = l8 at *
            have hpos' : (0 : Int) < (l8 : Int) := by omega
            go_wp2_with (go_at_call 18; refine (num_calls _ _).mono ?_; rintro e w' ⟨rfl, rfl⟩)
            go_ret
            exact ⟨rfl, bel_then HB.out (bel_then (bel_then hbel5 hB6) (below_undrewN hB8))⟩)
end Go.Proofs.Ytacjpchcaknacaa
