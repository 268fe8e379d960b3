
/- law2.awake: what every program answers. -/
import Derived.Test.YtpmgfjglkbbhgaaArTo
namespace Go.Proofs.Ytpmgfjglkbbhgaa
open Go.RowKit
set_option maxHeartbeats 400000

set_option maxRecDepth 100000 in
theorem awake2 (w : World) : Calls Try.prog 15 #[] w fun e w' => e = .returned (.bool true) ∧ Below w.heap.size w w' := by
  have hbd := Bd.below w
  go_enter Try.func15, Try.ntmps15
  go_wp2_with (go_at_call 18; refine (num_calls _ _).mono ?_; rintro e w' ⟨rfl, rfl⟩)
  refine (new_to (ws := [0, 0, 0, 0]) (ts := [[], []]) hbd (by omega) (by omega) rfl rfl).mono ?_
  rintro e w1 ⟨a, rfl, hA, hK⟩
  go_wp2_with (go_at_call 18; refine (num_calls _ _).mono ?_; rintro e w' ⟨rfl, rfl⟩)
  refine (store_to (ws' := [0, 5, 0, 0]) (ts' := [[(1, true)], []]) hA (by decide) (by decide) (by decide) rfl rfl).mono ?_
  rintro e w2 ⟨rfl, hA2, hK2⟩
  go_wp2_with (go_at_call 18; refine (num_calls _ _).mono ?_; rintro e w' ⟨rfl, rfl⟩)
  refine (cas_yes_to (ws' := [0, 6, 0, 0]) (ts' := [[(1, true)], [(1, true)]]) hA2 (by decide) (by decide) (by decide) rfl rfl rfl).mono ?_
  rintro e w3 ⟨rfl, hA3, hK3⟩
  go_wp2_with (go_at_call 18; refine (num_calls _ _).mono ?_; rintro e w' ⟨rfl, rfl⟩)
  refine (add_to (r := 8) (ws' := [0, 8, 0, 0]) (ts' := [[(1, true)], [(1, true), (1, true)]]) hA3 (by decide) (by decide) (by decide) (IntWalk.wrap64_in 8 (by decide)) rfl rfl).mono ?_
  rintro e w4 ⟨rfl, hA4, hK4⟩
  go_wp2_with (go_at_call 18; refine (num_calls _ _).mono ?_; rintro e w' ⟨rfl, rfl⟩)
  refine (load_to (r := 8) (ts' := [[(1, true), (1, false)], [(1, true), (1, true)]]) hA4 (by decide) (by decide) (by decide) rfl rfl).mono ?_
  rintro e w5 ⟨rfl, hA5, hK5⟩
  go_wp2_with (go_at_call 18; refine (num_calls _ _).mono ?_; rintro e w' ⟨rfl, rfl⟩)
  refine (load_err (by decide) (place_core hA5 2 0 (by decide))).mono ?_
  rintro e w' ⟨rfl, rfl⟩
  go_wp2_with (go_at_call 18; refine (num_calls _ _).mono ?_; rintro e w' ⟨rfl, rfl⟩)
  refine (load_err (by decide) (place_word hA5 0 4 (by decide) (by decide) (by decide))).mono ?_
  rintro e w' ⟨rfl, rfl⟩
  go_wp2_with (go_at_call 18; refine (num_calls _ _).mono ?_; rintro e w' ⟨rfl, rfl⟩)
  refine (trace_to hA5 (by decide) (c := 0) (by decide) rfl).mono ?_
  rintro e w6 ⟨v, rfl, hown, hB6⟩
  go_wp2_with (go_at_call 18; refine (num_calls _ _).mono ?_; rintro e w' ⟨rfl, rfl⟩)
  refine (same_true [(1, true), (1, false)] _ _ _ ((Sl.ofOwn hown).below ((Below.refl _ _).alloc (Nat.le_refl _) _)) (Sl.lit _ rfl rfl) (by decide)).mono ?_
  rintro e w7 ⟨rfl, d, rfl⟩
  go_wp2_with (go_at_call 18; refine (num_calls _ _).mono ?_; rintro e w' ⟨rfl, rfl⟩)
  go_ret
  have k1 := (((hK.trans hK2).trans hK3).trans hK4).trans hK5
  exact ⟨rfl, ((((k1.below (fun _ h => h)).trans (hB6.mono (by exact k1.size))).alloc (Nat.le_trans k1.size hB6.size) _).trans ⟨rfl, rfl, rfl, Nat.le_refl _, fun _ _ => rfl⟩)⟩
end Go.Proofs.Ytpmgfjglkbbhgaa
