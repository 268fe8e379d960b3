/- ArenaReads: the walk. -/
import Derived.Test.YtpmgfjglkbbhgaaArP
namespace Go.Proofs.Ytpmgfjglkbbhgaa
open Go.RowKit
set_option maxHeartbeats 400000

set_option maxRecDepth 100000 in
theorem reads_calls (v o at_ : Int) (w : World) :
    Calls Try.prog 4 #[.int .i64 v, .int .i64 o, .int .i64 at_] w fun e w' => e = .returned (.bool true) ∧ Below w.heap.size w w' := by
  have b0 : 0 ≤ at_ % 16 := by omega
  have b1 : at_ % 16 < 16 := by omega
  generalize hk : at_ % 16 = k at *
  have HK := Lib.hid hk
  go_enter Try.func4, Try.ntmps4
  go_wp2_with (go_at_call 18; refine (num_calls _ _).mono ?_; rintro e w' ⟨rfl, rfl⟩)
  refine (awake2 w).mono ?_
  rintro e w1 ⟨rfl, hB⟩
  go_wp2_with (go_at_call 18; refine (num_calls _ _).mono ?_; rintro e w' ⟨rfl, rfl⟩)
  refine (new_to (ws := List.replicate 16 0) (ts := [[], []]) (Bd.below w1) (by omega) (by omega) rfl rfl).mono ?_
  rintro e w2 ⟨a, rfl, hA, hK⟩
  by_cases ho : (o == v) = true
  · have hne : v ≠ wrap64 (v + 1) := by unfold wrap64; omega
    go_wp2_with (go_at_call 18; refine (num_calls _ _).mono ?_; rintro e w' ⟨rfl, rfl⟩)
    refine (store_to (ts' := [[(k, true)], []]) hA (by decide) (by decide) ⟨b0, by simpa using b1⟩ rfl rfl).mono ?_
    rintro e w3 ⟨rfl, hA3, hK3⟩
    go_wp2_with (go_at_call 18; refine (num_calls _ _).mono ?_; rintro e w' ⟨rfl, rfl⟩)
    refine (load_to (r := v) (ts' := [[(k, true)], [(k, false)]]) hA3 (Room.dec rfl) (by simp) ⟨b0, by simpa using b1⟩ (rd_wr_same b0 (by simpa using b1)) rfl).mono ?_
    rintro e w4 ⟨rfl, hA4, hK4⟩
    go_wp2_with (go_at_call 18; refine (num_calls _ _).mono ?_; rintro e w' ⟨rfl, rfl⟩)
    refine (cas_no_to (ts' := [[(k, true)], [(k, false), (k, false)]]) hA4 (Room.dec rfl) (by simp) ⟨b0, by simpa using b1⟩ (by rw [rd_wr_same b0 (by simpa using b1)]; exact hne) rfl).mono ?_
    rintro e w5 ⟨rfl, hA5, hK5⟩
    go_wp2_with (go_at_call 18; refine (num_calls _ _).mono ?_; rintro e w' ⟨rfl, rfl⟩)
    refine (load_to (r := v) (ts' := [[(k, true)], [(k, false), (k, false), (k, false)]]) hA5 (Room.dec rfl) (by simp) ⟨b0, by simpa using b1⟩ (rd_wr_same b0 (by simpa using b1)) rfl).mono ?_
    rintro e w6 ⟨rfl, hA6, hK6⟩
    go_wp2_with (go_at_call 18; refine (num_calls _ _).mono ?_; rintro e w' ⟨rfl, rfl⟩)
    refine (trace_to (c := 1) hA6 (Room.dec rfl) (by simp) rfl).mono ?_
    rintro e w7 ⟨t, rfl, hown, hB7⟩
    go_wp2_with (go_at_call 18; refine (num_calls _ _).mono ?_; rintro e w' ⟨rfl, rfl⟩)
    refine (same_true [(k, false), (k, false), (k, false)] _ _ _ ((Sl.ofOwn hown).below ((Below.refl _ _).alloc (Nat.le_refl _) _)) (Sl.lit _ rfl rfl) (by simp)).mono ?_
    rintro e w8 ⟨rfl, d, rfl⟩
    go_wp2_with (go_at_call 18; refine (num_calls _ _).mono ?_; rintro e w' ⟨rfl, rfl⟩)
    go_ret
    have k1 := ((((hK.trans hK3).trans hK4).trans hK5).trans hK6).below (fun _ h => h)
    have k2 := bel_then hB k1
    exact ⟨rfl, below_drewN ((bel_then k2 hB7).alloc (Nat.le_trans k2.size hB7.size) _) _⟩
  · have hne : v ≠ o := fun e => ho (by simp [e])
    have ho' : (o == v) = false := by simpa using ho
    clear ho
    go_wp2_with (go_at_call 18; refine (num_calls _ _).mono ?_; rintro e w' ⟨rfl, rfl⟩)
    refine (store_to (ts' := [[(k, true)], []]) hA (by decide) (by decide) ⟨b0, by simpa using b1⟩ rfl rfl).mono ?_
    rintro e w3 ⟨rfl, hA3, hK3⟩
    go_wp2_with (go_at_call 18; refine (num_calls _ _).mono ?_; rintro e w' ⟨rfl, rfl⟩)
    refine (load_to (r := v) (ts' := [[(k, true)], [(k, false)]]) hA3 (Room.dec rfl) (by simp) ⟨b0, by simpa using b1⟩ (rd_wr_same b0 (by simpa using b1)) rfl).mono ?_
    rintro e w4 ⟨rfl, hA4, hK4⟩
    go_wp2_with (go_at_call 18; refine (num_calls _ _).mono ?_; rintro e w' ⟨rfl, rfl⟩)
    refine (cas_no_to (ts' := [[(k, true)], [(k, false), (k, false)]]) hA4 (Room.dec rfl) (by simp) ⟨b0, by simpa using b1⟩ (by rw [rd_wr_same b0 (by simpa using b1)]; exact hne) rfl).mono ?_
    rintro e w5 ⟨rfl, hA5, hK5⟩
    go_wp2_with (go_at_call 18; refine (num_calls _ _).mono ?_; rintro e w' ⟨rfl, rfl⟩)
    refine (load_to (r := v) (ts' := [[(k, true)], [(k, false), (k, false), (k, false)]]) hA5 (Room.dec rfl) (by simp) ⟨b0, by simpa using b1⟩ (rd_wr_same b0 (by simpa using b1)) rfl).mono ?_
    rintro e w6 ⟨rfl, hA6, hK6⟩
    go_wp2_with (go_at_call 18; refine (num_calls _ _).mono ?_; rintro e w' ⟨rfl, rfl⟩)
    refine (trace_to (c := 1) hA6 (Room.dec rfl) (by simp) rfl).mono ?_
    rintro e w7 ⟨t, rfl, hown, hB7⟩
    go_wp2_with (go_at_call 18; refine (num_calls _ _).mono ?_; rintro e w' ⟨rfl, rfl⟩)
    refine (same_true [(k, false), (k, false), (k, false)] _ _ _ ((Sl.ofOwn hown).below ((Below.refl _ _).alloc (Nat.le_refl _) _)) (Sl.lit _ rfl rfl) (by simp)).mono ?_
    rintro e w8 ⟨rfl, d, rfl⟩
    go_wp2_with (go_at_call 18; refine (num_calls _ _).mono ?_; rintro e w' ⟨rfl, rfl⟩)
    go_ret
    have k1 := ((((hK.trans hK3).trans hK4).trans hK5).trans hK6).below (fun _ h => h)
    have k2 := bel_then hB k1
    exact ⟨rfl, below_drewN ((bel_then k2 hB7).alloc (Nat.le_trans k2.size hB7.size) _) _⟩

theorem reads_walk (w : World) (v : Int) (_ : (Lit.int .i64 v).wf = true) (o : Int) (_ : (Lit.int .i64 o).wf = true) (k : Int) (_ : (Lit.int .i64 k).wf = true) :
    Calls Try.prog 4 #[.int .i64 v, .int .i64 o, .int .i64 k] w fun e w' => e = .returned (.bool true) ∧ Below w.heap.size w w' := reads_calls v o k w
end Go.Proofs.Ytpmgfjglkbbhgaa
