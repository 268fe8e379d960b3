
/- law20: CheckLost. (Printed by wip/genck.py.) -/
import Derived.Test.YtenlffhoinialaaLawCk2
import Derived.StillTailTactics
namespace Go.Proofs.Ytenlffhoinialaa
open Go.RowKit
set_option maxHeartbeats 1000000
attribute [local go_sem ↓] Go.wp_at_zero Go.wp_at_succ
set_option maxRecDepth 100000 in
theorem ev_lo0 : rawF (wS dS hS ⟨#[]⟩ ⟨#[116, 104, 114, 101, 101]⟩ 10 11 [] [3, 2]) = [⟨4, 11, nm0⟩] := by rw [raw_c]; kernel_rfl
set_option maxRecDepth 100000 in
theorem ev_lo1 : rawF (wS [(⟨#[102]⟩, 3), (⟨#[103]⟩, 3)] hS ⟨#[]⟩ ⟨#[116, 104, 114, 101, 101]⟩ 10 11 [] [3, 2]) = [⟨3, 2, nm0⟩, ⟨4, 2, nm0⟩, ⟨4, 10, nm0⟩, ⟨4, 11, nm0⟩] := by rw [raw_c]; kernel_rfl
abbrev E4 : List Fnd := [⟨3, 2, nm0⟩, ⟨4, 2, nm0⟩, ⟨4, 10, nm0⟩, ⟨4, 11, nm0⟩]
theorem rise4 : RiseF E4 := by
  have h : ∀ a b : Int, ∀ c d : Int, (a < c ∨ (a = c ∧ b < d)) → ltF ⟨a, b, nm0⟩ ⟨c, d, nm0⟩ := fun a b c d h => by
    unfold ltF
    rcases h with h | ⟨rfl, h⟩
    · exact .inl h
    · exact .inr ⟨rfl, .inl h⟩
  refine List.Pairwise.cons ?_ (List.Pairwise.cons ?_ (List.Pairwise.cons ?_ (List.Pairwise.cons ?_ List.Pairwise.nil)))
  · intro x hx
    simp only [List.mem_cons, List.not_mem_nil, or_false] at hx
    rcases hx with rfl | rfl | rfl <;> exact h _ _ _ _ (by decide)
  · intro x hx
    simp only [List.mem_cons, List.not_mem_nil, or_false] at hx
    rcases hx with rfl | rfl <;> exact h _ _ _ _ (by decide)
  · intro x hx
    obtain rfl := List.mem_singleton.1 hx
    exact h _ _ _ _ (by decide)
  · intro x hx
    cases hx
theorem lit4 {w : World} {g : Nat} (h : Blk w g 64 #[.int .i64 3, .int .i64 2, .string nm0, .int .i64 4, .int .i64 2, .string nm0, .int .i64 4, .int .i64 10, .string nm0, .int .i64 4, .int .i64 11, .string nm0]) : RowAt w (.slice (some ⟨g, 0, none⟩) 4 4) E4.length 3 (fndC E4) := RowAt.blk h (Nat.le_refl _) fun i j hi hj => by
  have hi : i < 4 := hi
  have h6 : j = 0 ∨ j = 1 ∨ j = 2 := by omega
  have h7 : i = 0 ∨ i = 1 ∨ i = 2 ∨ i = 3 := by omega
  rcases h7 with rfl | rfl | rfl | rfl <;> rcases h6 with rfl | rfl | rfl <;> rfl
theorem same_lit4 {w5 : World} {v : Value} (h : RowAt w5 v E4.length 3 (fndC E4)) :
    Calls Try.prog 17 #[v, .slice (some ⟨w5.heap.size, 0, none⟩) 4 4] (w5.alloc (.cells #[.int .i64 3, .int .i64 2, .string nm0, .int .i64 4, .int .i64 2, .string nm0, .int .i64 4, .int .i64 10, .string nm0, .int .i64 4, .int .i64 11, .string nm0] 64)) fun e w' => e = .returned (.bool true) ∧ Below w5.heap.size w5 w' :=
  (same_fnd (h.keep ((Below.refl _ w5).alloc (Nat.le_refl _) _)) (lit4 (Blk.new w5 64 _)) (by decide)).mono fun _ _ ⟨h1, d, h2⟩ => ⟨h1, by
    subst h2
    have := (Below.refl w5.heap.size w5).alloc (Nat.le_refl _) (.cells #[.int .i64 3, .int .i64 2, .string nm0, .int .i64 4, .int .i64 2, .string nm0, .int .i64 4, .int .i64 10, .string nm0, .int .i64 4, .int .i64 11, .string nm0] 64)
    exact ⟨this.os, this.tape, this.output, this.size, this.block⟩⟩
theorem blk_at {w : World} {g : Nat} {t : TypeId} {cs : Array Value} (h : Blk w g t cs) {i : Nat} {v : Value} (hi : cs[i]? = some v) : w.cell? ⟨g, i, none⟩ = some v := (h.cell i).trans hi
theorem blk22 {w : World} {g cap : Nat} {t : TypeId} {cs : Array Value} {C : Nat → Nat → Value} (h : Blk w g t cs) (hc : 2 ≤ cap) (h0 : cs[2]? = some (C 0 0)) (h1 : cs[3]? = some (C 0 1)) (h2 : cs[4]? = some (C 1 0)) (h3 : cs[5]? = some (C 1 1)) : RowAt w (.slice (some ⟨g, 2, none⟩) 2 cap) 2 2 C :=
  ⟨_, _, rfl, hc, fun _ => ⟨g, 2, rfl, fun i j hi hj => by
    have h6 : j = 0 ∨ j = 1 := by omega
    have h7 : i = 0 ∨ i = 1 := by omega
    rcases h7 with rfl | rfl <;> rcases h6 with rfl | rfl
    · exact blk_at h h0
    · exact blk_at h h1
    · exact blk_at h h2
    · exact blk_at h h3⟩⟩
set_option maxRecDepth 1000000 in
theorem clost_walk (w : World) (v : Int) (_ : (Lit.int .i64 v).wf = true) :
    Calls Try.prog 8 #[.int .i64 v] w fun e w' => e = .returned (.bool true) ∧ Below w.heap.size w w' := by
  go_enter Try.func8, Try.ntmps8
  go_wp2_with (fail)
  refine (awake_calls w).mono ?_
  rintro e w1 ⟨rfl, hB1⟩
  go_wp2_with (fail)
  refine (whole_calls w1).mono ?_
  rintro e w2 ⟨g, go, gm, e1, e2, rfl, hW⟩
  have H0 := Lib.hid (WF.start hW hB1 #[.slice (some ⟨g, 0, none⟩) 5 5, .slice (some ⟨go, 0, none⟩) 1 1, .slice (some ⟨gm, 0, none⟩) 2 2])
  clear hB1 hW
  go_upto_region 4 with (fail)
  generalize w2.alloc (Obj.cells #[.slice (some ⟨g, 0, none⟩) 5 5, .slice (some ⟨go, 0, none⟩) 1 1, .slice (some ⟨gm, 0, none⟩) 2 2] 26) = w0 at *
  generalize w2.heap.size = sb at *
  rcases bit1 v with hv | hv
  ·
    have s1 : w0.cell? ⟨sb, 1, none⟩ = some (.slice (some ⟨go, 0, none⟩) 1 1) := H0.out.st.cell 1
    have ft : w0.frozen? ⟨sb, 1, none⟩ = false := H0.out.st.frozen 1
    have H1 := Lib.hid (H0.out.setS 1 (.slice none 0 0))
    go_upto_region 7 with (fail)
    clear s1 ft H0
    generalize w0.setCell ⟨sb, 1, none⟩ (.slice none 0 0) = wa1 at *
    have s0 : wa1.cell? ⟨sb, 0, none⟩ = some (.slice (some ⟨g, 0, none⟩) 5 5) := H1.out.st.cell 0
    have s1 : wa1.cell? ⟨sb, 1, none⟩ = some (.slice none 0 0) := H1.out.st.cell 1
    have s2 : wa1.cell? ⟨sb, 2, none⟩ = some (.slice (some ⟨gm, 0, none⟩) 2 2) := H1.out.st.cell 2
    have HF := Lib.hid (found_out (whole_stm (a := dS) (b := hS) (d2 := ⟨#[]⟩) (d3 := ⟨#[116, 104, 114, 101, 101]⟩) (n4 := 10) (n5 := 11) (O := []) (M := [3, 2]) H1.out.ino (blk32 H1.out.ent1 (Nat.le_refl _) rfl rfl rfl rfl rfl rfl) (blk12 H1.out.ent2 (Nat.le_refl _) rfl rfl) (RowAt.nil_ _ _ _) (blk21 H1.out.mad (Nat.le_refl _) rfl rfl)) (small_of (by kernel_rfl)) (rise_one _) ev_lo0)
    have HB := Lib.hid H1.out.bel
    clear H1
    go_wp2_with (fail)
    refine HF.out.mono ?_
    rintro e w5 ⟨r, rfl, hB5, hR5⟩
    have HSA := Lib.hid (same_lit (f := ⟨4, 11, nm0⟩) hR5)
    have HB5 := Lib.hid (HB.out.trans (hB5.mono HB.out.size))
    obtain ⟨RA, rcap, rfl⟩ := hR5.form
    clear hB5 hR5 s0 s1 s2 HF HB
    go_wp2_with (go_at_call 30; go_in)
    refine HSA.out.mono ?_
    rintro e w8 ⟨rfl, hB8⟩
    have HB8 := Lib.hid (HB5.out.trans (hB8.mono HB5.out.size))
    clear hB8
    go_wp2_with (fail)
    go_ret
    exact ⟨rfl, HB8.out⟩
  ·
    have s1 : w0.cell? ⟨sb, 1, none⟩ = some (.slice (some ⟨go, 0, none⟩) 1 1) := H0.out.st.cell 1
    have ft : w0.frozen? ⟨sb, 1, none⟩ = false := H0.out.st.frozen 1
    have H1 := Lib.hid (H0.out.setS 1 (.slice none 0 0))
    go_upto_region 6 with (fail)
    clear s1 ft H0
    generalize w0.setCell ⟨sb, 1, none⟩ (.slice none 0 0) = wa1 at *
    have s0 : wa1.cell? ⟨sb, 0, none⟩ = some (.slice (some ⟨g, 0, none⟩) 5 5) := H1.out.st.cell 0
    have i2 : wa1.cell? ⟨g, 2, none⟩ = some (.slice (some ⟨e1, 0, none⟩) 3 3) := H1.out.ino.cell 2
    have ft : wa1.frozen? ⟨g, 2, none⟩ = false := H1.out.ino.frozen 2
    have H2 := Lib.hid ((H1.out.drewN 1).setI 2 (.slice (some ⟨e1, 2, none⟩) 2 2))
    go_still_tail 8, (by kernel_rfl)
    change wpList _ _ _ _ _ (wa1.drewN 1)
    go_upto_region 7 with (fail)
    clear s0 i2 ft H1
    generalize (wa1.drewN 1).setCell ⟨g, 2, none⟩ (.slice (some ⟨e1, 2, none⟩) 2 2) = wa2 at *
    have s0 : wa2.cell? ⟨sb, 0, none⟩ = some (.slice (some ⟨g, 0, none⟩) 5 5) := H2.out.st.cell 0
    have s1 : wa2.cell? ⟨sb, 1, none⟩ = some (.slice none 0 0) := H2.out.st.cell 1
    have s2 : wa2.cell? ⟨sb, 2, none⟩ = some (.slice (some ⟨gm, 0, none⟩) 2 2) := H2.out.st.cell 2
    have HF := Lib.hid (found_out (whole_stm (a := [(⟨#[102]⟩, 3), (⟨#[103]⟩, 3)]) (b := hS) (d2 := ⟨#[]⟩) (d3 := ⟨#[116, 104, 114, 101, 101]⟩) (n4 := 10) (n5 := 11) (O := []) (M := [3, 2]) H2.out.ino (blk22 H2.out.ent1 (Nat.le_refl _) rfl rfl rfl rfl) (blk12 H2.out.ent2 (Nat.le_refl _) rfl rfl) (RowAt.nil_ _ _ _) (blk21 H2.out.mad (Nat.le_refl _) rfl rfl)) (small_of (by kernel_rfl)) rise4 ev_lo1)
    have HB := Lib.hid H2.out.bel
    clear H2
    go_wp2_with (fail)
    refine HF.out.mono ?_
    rintro e w5 ⟨r, rfl, hB5, hR5⟩
    have HSA := Lib.hid (same_lit4 hR5)
    have HB5 := Lib.hid (HB.out.trans (hB5.mono HB.out.size))
    obtain ⟨RA, rcap, rfl⟩ := hR5.form
    clear hB5 hR5 s0 s1 s2 HF HB
    go_wp2_with (go_at_call 30; go_in)
    refine HSA.out.mono ?_
    rintro e w8 ⟨rfl, hB8⟩
    have HB8 := Lib.hid (HB5.out.trans (hB8.mono HB5.out.size))
    clear hB8
    go_wp2_with (fail)
    go_ret
    exact ⟨rfl, HB8.out⟩
end Go.Proofs.Ytenlffhoinialaa
