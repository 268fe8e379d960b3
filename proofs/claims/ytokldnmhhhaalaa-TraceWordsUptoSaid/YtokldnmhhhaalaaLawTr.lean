
/- law23: awake. -/
import Derived.Test.YtokldnmhhhaalaaTrc4
namespace Go.Proofs.Ytokldnmhhhaalaa
open Go.RowKit
set_option maxHeartbeats 1000000

theorem WSt.one {t : List Acc} {b : Bool} {us vs : List Int} (h : WSt t b us) (h' : WSt t b vs) : us = vs := h.up.ext h'.up fun y => (h.mem y).trans (h'.mem y).symm
theorem WSt.ints {t : List Acc} {b : Bool} {us vs : List Int} (h : WSt t b us) (hv : Rises vs) (hm : ∀ y, y ∈ vs ↔ ∃ x ∈ t, (b = true → x.2 = true) ∧ x.1 = y) : us = vs := h.up.ext hv fun y => (h.mem y).trans (hm y).symm

/-- SameInts of two rows of the same numbers. -/
theorem same_rows {w : World} {u u' : Value} {us vs : List Int} (h : Sl w 1 u us.length (us.map (Value.int .i64))) (h' : Sl w 1 u' vs.length (vs.map (Value.int .i64))) (he : us = vs) (hl : us.length ≤ 8796093022208) :
    Calls Try.prog 22 #[u, u'] w fun e w' => e = .returned (.bool true) ∧ ∃ k, w' = w.drewN k := by
  subst he
  exact same_intsL us u u' w h h' hl

theorem Sl.litAt (w : World) {cs : Array Value} {T : TypeId} {n size m : Nat} {xs : List Value} (hm : m = w.heap.size) (hx : cs.toList = xs) (hn : xs.length = n * size) :
    Sl (w.alloc (.cells cs T)) size (.slice (some ⟨m, 0, none⟩) n n) n xs := hm ▸ Sl.lit w hx hn
def tA : List Acc := [(1, false), (2, true)]
theorem tA_words {us : List Int} (h : WSt tA false us) : us = [1, 2] := h.ints (by simp [Rises]) fun y => by simp [tA]; omega
theorem tA_writes {us : List Int} (h : WSt tA true us) : us = [2] := h.ints (by simp [Rises]) fun y => by simp [tA]; omega

set_option maxRecDepth 100000 in
theorem awake23 (w : World) : Calls Try.prog 36 #[] w fun e w' => e = .returned (.bool true) ∧ Below w.heap.size w w' := by
  have HA := Lib.hid (show Sl (w.alloc (.cells #[.int .i64 1, .bool false, .int .i64 2, .bool true] 73)) 2 (.slice (some ⟨w.heap.size, 0, none⟩) 2 2) 2 (encAccs tA) from Sl.lit w rfl rfl)
  go_enter Try.func36, Try.ntmps36
  go_wp2_with (fail)
  refine (tmeet_calls (t := tA) (s := [(2, false)]) (HA.out.below ((Below.refl _ _).alloc (Nat.le_refl _) _)) (Sl.litAt _ (by simp) rfl rfl) (by decide) (by decide)).mono ?_
  rintro e w1 ⟨he, b1⟩
  rw [show meetT tA [(2, false)] = true by decide] at he
  subst he
  have B1 := Lib.hid (((Below.refl (w.alloc (.cells #[.int .i64 1, .bool false, .int .i64 2, .bool true] 73)).heap.size (w.alloc (.cells #[.int .i64 1, .bool false, .int .i64 2, .bool true] 73))).alloc (Nat.le_refl _) (.cells #[.int .i64 2, .bool false] 73)).trans (b1.mono (by simp)))
  clear b1
  go_wp2_with (go_at_call 19; refine (num_calls _ _).mono ?_; rintro e w' ⟨rfl, rfl⟩)
  refine (tmeet_calls (t := tA) (s := [(1, false)]) (HA.out.below (B1.out.alloc B1.out.size _)) (Sl.lit _ rfl rfl) (by decide) (by decide)).mono ?_
  rintro e w2 ⟨he, b2⟩
  rw [show meetT tA [(1, false)] = false by decide] at he
  subst he
  have B2 := Lib.hid ((B1.out.alloc B1.out.size _).trans (b2.mono (by have := B1.out.size; simp at this; simp; omega)))
  clear b2
  go_wp2_with (go_at_call 19; refine (num_calls _ _).mono ?_; rintro e w' ⟨rfl, rfl⟩)
  refine (twords_calls (t := tA) (HA.out.below B2.out) (by decide)).mono ?_
  rintro e w3 ⟨u3, us3, rfl, g3, r3, b3⟩
  obtain rfl := tA_words g3
  have B3 := Lib.hid (bel_then B2.out b3)
  have R3 := Lib.hid r3
  clear g3 r3 b3
  go_wp2_with (go_at_call 19; refine (num_calls _ _).mono ?_; rintro e w' ⟨rfl, rfl⟩)
  refine (same_rows (us := [1, 2]) (vs := [1, 2]) (R3.out.sl.below ((Below.refl _ _).alloc (Nat.le_refl _) _)) (Sl.lit _ rfl rfl) rfl (by decide)).mono ?_
  rintro e w4 ⟨rfl, d4, rfl⟩
  have B4 := Lib.hid (below_drewN' (B3.out.alloc B3.out.size (.cells #[.int .i64 1, .int .i64 2] 3)) d4)
  go_wp2_with (go_at_call 19; refine (num_calls _ _).mono ?_; rintro e w' ⟨rfl, rfl⟩)
  refine (twrites_calls (t := tA) (HA.out.below B4.out) (by decide)).mono ?_
  rintro e w5 ⟨u5, us5, rfl, g5, r5, b5⟩
  obtain rfl := tA_writes g5
  have B5 := Lib.hid (bel_then B4.out b5)
  have R5 := Lib.hid r5
  clear g5 r5 b5
  go_wp2_with (go_at_call 19; refine (num_calls _ _).mono ?_; rintro e w' ⟨rfl, rfl⟩)
  refine (same_rows (us := [2]) (vs := [2]) (R5.out.sl.below ((Below.refl _ _).alloc (Nat.le_refl _) _)) (Sl.lit _ rfl rfl) rfl (by decide)).mono ?_
  rintro e w6 ⟨rfl, d6, rfl⟩
  have B6 := Lib.hid (below_drewN' (B5.out.alloc B5.out.size (.cells #[.int .i64 2] 3)) d6)
  go_wp2_with (go_at_call 19; refine (num_calls _ _).mono ?_; rintro e w' ⟨rfl, rfl⟩)
  go_ret
  exact ⟨rfl, ((Below.refl _ _).alloc (Nat.le_refl _) _).trans (B6.out.mono (by simp))⟩
end Go.Proofs.Ytokldnmhhhaalaa
